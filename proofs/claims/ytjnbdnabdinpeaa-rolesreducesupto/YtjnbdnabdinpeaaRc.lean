/- Roles, walked. -/
import Derived.Test.YtjnbdnabdinpeaaRcP
import Derived.Test.YtjnbdnabdinpeaaLex
import Derived.Test.YtjnbdnabdinpeaaPlV
set_option linter.unusedSimpArgs false
set_option linter.unusedVariables false
namespace Bz.S
open Go Bz
set_option maxRecDepth 10000
set_option maxHeartbeats 4000000

theorem run_ups (l : List Pr) (r : Txt) (hl : l.length ≤ BIG) : R F_roles_ups [prS l, stA r] [] = some (txS (upsP l r), []) := by
  refine R_of at_roles_ups (by decide) ?_
  unfold BIG at hl
  have hL := loop_fold (X := X) (mask := mask_roles_ups_0) (body := body_roles_ups_0) l
    (fun i (out : List Txt) => ⟨mkE 25 [(1, stA r), (5, .os 10000050 out.length 0 out.length), (8, prS l), (9, .d (.int .i64 l.length)), (10, .d (.int .i64 i))], [(10000050, .arr 1 (out.map stC))]⟩)
    (fun i out => out.length ≤ i) (fun _ out p => if p.low = r then out ++ [p.high] else out)
    (fun out => (.exit 0, ⟨mkE 25 [(5, .os 10000050 out.length 0 out.length)], [(10000050, .arr 1 (out.map stC))]⟩)) (by simp)
    (fun i out p hi hx hI => by
      have hw := wrap_ok (a := (i : Int) + 1) (by omega) (by omega)
      have g1 : out.length + 1 ≤ LIM := by unfold LIM; omega
      obtain ⟨a, b⟩ := p
      simp only
      by_cases hm : a = r
      · refine ⟨by rw [if_pos hm]; simp; omega, ?_⟩
        simp -implicitDefEqProofs [body_roles_ups_0, mask_roles_ups_0, hi, hx, prC_eq, hm, hw, g1, stC_eq]
      · refine ⟨by rw [if_neg hm]; omega, ?_⟩
        simp -implicitDefEqProofs [body_roles_ups_0, mask_roles_ups_0, hi, hx, prC_eq, hm, hw])
    (fun out hI => by simp -implicitDefEqProofs [body_roles_ups_0]) [] (Nat.le_refl _)
  have hf : ∀ (l : List Pr) (i : Nat) (out : List Txt), foldI (fun _ out (p : Pr) => if p.low = r then out ++ [p.high] else out) l i out = out ++ upsP l r := by
    intro l
    induction l with
    | nil => intro i out; simp [upsP]
    | cons x s ih =>
      intro i out
      rw [foldI_cons, ih]
      unfold upsP
      rw [List.filter_cons]
      by_cases hx : x.low = r <;> simp [hx]
  rw [hf, List.nil_append] at hL
  simp -implicitDefEqProofs [code_roles_ups]
  rw [hL _ (by simp -implicitDefEqProofs [mask_roles_ups_0])]
  simp -implicitDefEqProofs

theorem run_RReach (l : List Pr) (a : Txt) (hl : l.length ≤ 1048576) : R F_roles_Reach [prS l, stA a] [] = some (txS (rcS l a), []) := by
  refine R_of at_roles_Reach (by decide) ?_
  have inner : ∀ (i : Nat) (o us : List Txt), o.length ≤ 1048577 → us.length ≤ 1048576 → ∀ s, trim mask_roles_Reach_0 s = ⟨mkE 40 [(0, prS l), (5, .os 10000050 o.length 0 o.length), (6, .d (.int .i64 i)), (22, txS us), (23, .d (.int .i64 us.length)), (24, .d (.int .i64 0))], [(10000050, .arr 1 (o.map stC))]⟩ →
      exL X (.loop mask_roles_Reach_0 body_roles_Reach_0) s = some (.exit 2, ⟨mkE 40 [(0, prS l), (5, .os 10000050 (addAll o us).length 0 (addAll o us).length), (6, .d (.int .i64 i))], [(10000050, .arr 1 ((addAll o us).map stC))]⟩) := by
    intro i o us ho hu s hs
    have hL := loop_fold (X := X) (mask := mask_roles_Reach_0) (body := body_roles_Reach_0) us
      (fun j (out : List Txt) => ⟨mkE 40 [(0, prS l), (5, .os 10000050 out.length 0 out.length), (6, .d (.int .i64 i)), (22, txS us), (23, .d (.int .i64 us.length)), (24, .d (.int .i64 j))], [(10000050, .arr 1 (out.map stC))]⟩)
      (fun j out => out.length ≤ o.length + j) (fun _ out r => if r ∈ out then out else out ++ [r])
      (fun out => (.exit 2, ⟨mkE 40 [(0, prS l), (5, .os 10000050 out.length 0 out.length), (6, .d (.int .i64 i))], [(10000050, .arr 1 (out.map stC))]⟩)) (by simp)
      (fun j out x hj hx hI => by
        have hw := wrap_ok (a := (j : Int) + 1) (by omega) (by omega)
        have hc := run_ContainsTx out x (by unfold BIG; omega)
        have g1 : out.length + 1 ≤ LIM := by unfold LIM; omega
        by_cases hm : x ∈ out
        · refine ⟨by rw [if_pos hm]; omega, ?_⟩
          simp -implicitDefEqProofs [body_roles_Reach_0, mask_roles_Reach_0, hj, hx, hc, hm, hw]
        · refine ⟨by rw [if_neg hm]; simp; omega, ?_⟩
          simp -implicitDefEqProofs [body_roles_Reach_0, mask_roles_Reach_0, hj, hx, hc, hm, hw, g1, stC_eq]) (fun out hI => by
        simp -implicitDefEqProofs [body_roles_Reach_0]) o (by omega)
    have hf : ∀ (us : List Txt) (j : Nat) (o : List Txt), foldI (fun _ out r => if r ∈ out then out else out ++ [r]) us j o = addAll o us := by
      intro us
      induction us with
      | nil => intro j o; rfl
      | cons x r ih => intro j o; rw [foldI_cons, ih]; rfl
    rw [hf] at hL
    exact hL _ (by simpa using hs)
  obtain ⟨r, hQ, hL⟩ := loop_meas (X := X) (mask := mask_roles_Reach_1) (body := body_roles_Reach_1) (σ := Nat × List Txt)
    (fun p => ⟨mkE 40 [(0, prS l), (5, .os 10000050 p.2.length 0 p.2.length), (6, .d (.int .i64 p.1))], [(10000050, .arr 1 (p.2.map stC))]⟩)
    (fun p => Bfs l a p.1 p.2) (fun p => l.length + 1 - p.1)
    (fun r => ∃ o, Bfs l a o.length o ∧ r = (.exit 0, ⟨mkE 40 [(5, .os 10000050 o.length 0 o.length)], [(10000050, .arr 1 (o.map stC))]⟩))
    (fun p hB => by
      obtain ⟨i, o⟩ := p
      simp only at hB
      have hlen := hB.len
      by_cases hi : i < o.length
      · obtain ⟨x, hx⟩ : ∃ x, o[i] = x := ⟨_, rfl⟩
        have hx' : o[i]? = some x := by rw [← hx]; exact List.getElem?_eq_getElem hi
        refine .inl ⟨(i + 1, addAll o (upsP l x)), hB.step hx', ?_, ?_⟩
        · simp only; omega
        · have hu := run_ups l x (by unfold BIG; omega)
          have hul := upsP_len l x
          have hn := inner i o (upsP l x) (by omega) (by omega)
          have hw := wrap_ok (a := (i : Int) + 1) (by omega) (by omega)
          simp -implicitDefEqProofs [body_roles_Reach_1, mask_roles_Reach_1, hi, hx, hu]
          rw [hn _ (by simp -implicitDefEqProofs [mask_roles_Reach_0])]
          simp -implicitDefEqProofs [hw]
          exact ⟨_, _, ⟨rfl, rfl⟩, rfl, by simp⟩
      · have hio : i = o.length := by have := hB.le; omega
        subst hio
        refine .inr ⟨_, ?_, ?_, o, hB, rfl⟩
        · simp -implicitDefEqProofs [body_roles_Reach_1]
        · simp)
    (0, [a]) (bfs_start l a)
  obtain ⟨o, hB, rfl⟩ := hQ
  have hlen := hB.len
  have hs := run_SortTx o (by unfold LIM; omega)
  rw [hB.sort] at hs
  have e : (rcS l a).length = o.length := by rw [← hB.sort]; exact isort_len o
  simp -implicitDefEqProofs [code_roles_Reach]
  rw [hL _ (by simp -implicitDefEqProofs [mask_roles_Reach_1, stC_eq])]
  simp -implicitDefEqProofs [hs, e]
  simp [← e]

theorem run_RHas (l : List Pr) (a b : Txt) (hl : l.length ≤ 1048576) : R F_roles_Has [prS l, stA a, stA b] [] = some (.d (.bool (decide (b ∈ rcL l a))), []) := by
  refine R_of at_roles_Has (by decide) ?_
  have h := run_RReach l a hl
  have e : (rcS l a).length ≤ BIG := by have := setT_len (rcL l a); have := rcL_len l a; unfold rcS BIG; omega
  have hc := run_ContainsTx (rcS l a) b e
  have e2 : decide (b ∈ rcS l a) = decide (b ∈ rcL l a) := decide_eq_decide.2 setT_mem
  rw [e2] at hc
  simp -implicitDefEqProofs [code_roles_Has, h, hc]

theorem run_31reach (l : List Pr) (a : Txt) (hl : l.length ≤ 1048576) : R F_law31_reach [prS l, stA a] [] = some (txS (rcL l a), []) := by
  refine R_of at_law31_reach (by decide) ?_
  have inner : ∀ (i : Nat) (o : List Txt), o.length ≤ 1048577 → ∀ s, trim mask_law31_reach_0 s = ⟨mkE 55 [(0, prS l), (5, .os 10000050 o.length 0 o.length), (6, .d (.int .i64 i)), (7, .d (.int .i64 o.length)), (8, .d (.int .i64 0))], [(10000050, .arr 1 (o.map stC))]⟩ →
      exL X (.loop mask_law31_reach_0 body_law31_reach_0) s = some (.exit 2, ⟨mkE 55 [(0, prS l), (5, .os 10000050 (oneP l o).length 0 (oneP l o).length), (6, .d (.int .i64 i)), (7, .d (.int .i64 o.length))], [(10000050, .arr 1 ((oneP l o).map stC))]⟩) := by
    intro i o ho s hs
    have hL := loop_fold (X := X) (mask := mask_law31_reach_0) (body := body_law31_reach_0) l
      (fun j (out : List Txt) => ⟨mkE 55 [(0, prS l), (5, .os 10000050 out.length 0 out.length), (6, .d (.int .i64 i)), (7, .d (.int .i64 o.length)), (8, .d (.int .i64 j))], [(10000050, .arr 1 (out.map stC))]⟩)
      (fun j out => out.length ≤ o.length + j) (fun _ out p => addP out p)
      (fun out => (.exit 2, ⟨mkE 55 [(0, prS l), (5, .os 10000050 out.length 0 out.length), (6, .d (.int .i64 i)), (7, .d (.int .i64 o.length))], [(10000050, .arr 1 (out.map stC))]⟩)) (by simp)
      (fun j out p hj hx hI => by
        have hw := wrap_ok (a := (j : Int) + 1) (by omega) (by omega)
        have g1 : out.length + 1 ≤ LIM := by unfold LIM; omega
        have gl := (addP_len out p).2.1
        refine ⟨by omega, ?_⟩
        obtain ⟨x, y⟩ := p
        have hc := run_plIn out x (by unfold BIG; omega)
        have hd := run_plIn out y (by unfold BIG; omega)
        unfold addP
        simp only
        by_cases hm : x ∈ out
        · by_cases hn : y ∈ out
          · simp -implicitDefEqProofs [body_law31_reach_0, mask_law31_reach_0, hj, hx, prC_eq, hc, hd, hm, hn, hw]
          · simp -implicitDefEqProofs [body_law31_reach_0, mask_law31_reach_0, hj, hx, prC_eq, hc, hd, hm, hn, hw, g1, stC_eq]
        · simp -implicitDefEqProofs [body_law31_reach_0, mask_law31_reach_0, hj, hx, prC_eq, hc, hd, hm, hw]) (fun out hI => by
        simp -implicitDefEqProofs [body_law31_reach_0]) o (by omega)
    have hf : ∀ (l : List Pr) (j : Nat) (o : List Txt), foldI (fun _ out p => addP out p) l j o = oneP l o := by
      intro l
      induction l with
      | nil => intro j o; rfl
      | cons x r ih => intro j o; rw [foldI_cons, ih]; rfl
    rw [hf] at hL
    exact hL _ (by simpa using hs)
  obtain ⟨r, hQ, hL⟩ := loop_upto (X := X) (mask := mask_law31_reach_1) (body := body_law31_reach_1) (σ := List Txt) l.length
    (fun i o => ⟨mkE 55 [(0, prS l), (5, .os 10000050 o.length 0 o.length), (6, .d (.int .i64 i))], [(10000050, .arr 1 (o.map stC))]⟩)
    (fun i o => o.Nodup ∧ (∀ x ∈ o, x ∈ a :: l.map Pr.high) ∧ rcN l (l.length - i) o = rcL l a)
    (fun r => r = (.exit 0, ⟨mkE 55 [(5, .os 10000050 (rcL l a).length 0 (rcL l a).length)], [(10000050, .arr 1 ((rcL l a).map stC))]⟩))
    (fun i o hi hI => by
      obtain ⟨h1, h2, h3⟩ := hI
      have ho : o.length ≤ l.length + 1 := by have := (nodup_sub h1 h2).1; simpa using this
      have hn := inner i o (by omega)
      have hw := wrap_ok (a := (i : Int) + 1) (by omega) (by omega)
      obtain ⟨q1, q2, q3⟩ := oneP_len l o
      by_cases e : (oneP l o).length = o.length
      · have e' := q3 e
        rw [rcN_fix e'] at h3
        refine .inr ⟨_, ?_, ?_, rfl⟩
        · rw [← h3]
          simp -implicitDefEqProofs [body_law31_reach_1, mask_law31_reach_1, hi]
          rw [hn _ (by simp -implicitDefEqProofs [mask_law31_reach_0])]
          simp -implicitDefEqProofs [e']
        · simp
      · refine .inl ⟨oneP l o, ⟨oneP_nodup l h1, oneP_inv (fun x => x ∈ a :: l.map Pr.high) l o (fun q hq _ => List.mem_cons_of_mem _ (List.mem_map_of_mem hq)) h2, ?_⟩, ?_⟩
        · rw [← h3, show l.length - i = (l.length - (i + 1)) + 1 by omega]; rfl
        · have e2 : ¬ ((oneP l o).length : Int) = (o.length : Int) := by omega
          simp -implicitDefEqProofs [body_law31_reach_1, mask_law31_reach_1, hi]
          rw [hn _ (by simp -implicitDefEqProofs [mask_law31_reach_0])]
          simp -implicitDefEqProofs [e, e2, hw]
          exact ⟨_, _, ⟨rfl, rfl⟩, rfl, by simp⟩)
    (fun o hI => by
      obtain ⟨h1, h2, h3⟩ := hI
      rw [Nat.sub_self] at h3
      have h3 : o = rcL l a := h3
      subst h3
      refine ⟨_, ?_, ?_, rfl⟩
      · simp -implicitDefEqProofs [body_law31_reach_1]
      · simp)
    [a] ⟨by simp, by simp, rfl⟩
  subst hQ
  simp -implicitDefEqProofs [code_law31_reach]
  rw [hL _ (by simp -implicitDefEqProofs [mask_law31_reach_1, stC_eq])]
  simp -implicitDefEqProofs

/-! ### rings -/
theorem run_IndexPr0 (l : List Pr) (hl : l.length ≤ BIG) (f : Nat) (hf : own f = false) (p : Pr → Bool) (hp : ∀ e ∈ l, R f [prA e] [] = some (.d (.bool (p e)), [])) :
    R F_slices_IndexFunc_roles_Pair_roles_Pair [prS l, .fn f []] [] = some (.d (.int .i64 (idxK p l)), []) := by
  refine R_of at_slices_IndexFunc_roles_Pair_roles_Pair (by decide) ?_
  unfold BIG at hl
  have hL := loop_find (X := X) (mask := mask_slices_IndexFunc_roles_Pair_roles_Pair_0) (body := body_slices_IndexFunc_roles_Pair_roles_Pair_0) l
    (fun i => ⟨mkE 19 [(0, prS l), (1, .fn f []), (7, .d (.int .i64 l.length)), (8, .d (.int .i64 i))], []⟩)
    (fun _ => p) (.exit 0, ⟨mkE 19 [], []⟩) (fun i _ => (.ret, ⟨mkE 19 [(4, .d (.int .i64 i))], []⟩)) (by simp) (by simp)
    (fun i e hi he hq => by
      have hw := wrap_ok (a := (i : Int) + 1) (by omega) (by omega)
      have hc := hp e (he ▸ List.getElem_mem hi)
      simp -implicitDefEqProofs [body_slices_IndexFunc_roles_Pair_roles_Pair_0, mask_slices_IndexFunc_roles_Pair_roles_Pair_0, hi, he, prC_eq, hc, hf, hq, hw])
    (fun i e hi he hq => by
      have hc := hp e (he ▸ List.getElem_mem hi)
      simp -implicitDefEqProofs [body_slices_IndexFunc_roles_Pair_roles_Pair_0, hi, he, prC_eq, hc, hf, hq]) (by simp -implicitDefEqProofs [body_slices_IndexFunc_roles_Pair_roles_Pair_0])
  simp -implicitDefEqProofs [code_slices_IndexFunc_roles_Pair_roles_Pair]
  rw [hL _ (by simp [mask_slices_IndexFunc_roles_Pair_roles_Pair_0])]
  unfold idxK
  cases findI (fun _ => p) l 0 <;> simp -implicitDefEqProofs
theorem run_IndexPr1 (l m : List Pr) (hl : l.length ≤ BIG) (f : Nat) (hf : own f = false) (p : Pr → Bool) (hp : ∀ e ∈ l, R f [prA e, .pv 0 0] [(0, .var [prS m])] = some (.d (.bool (p e)), [(0, .var [prS m])])) :
    R F_slices_IndexFunc_roles_Pair_roles_Pair [prS l, .fn f [.pv 0 0]] [(0, .var [prS m])] = some (.d (.int .i64 (idxK p l)), [(0, .var [prS m])]) := by
  refine R_of at_slices_IndexFunc_roles_Pair_roles_Pair (by decide) ?_
  unfold BIG at hl
  have hL := loop_find (X := X) (mask := mask_slices_IndexFunc_roles_Pair_roles_Pair_0) (body := body_slices_IndexFunc_roles_Pair_roles_Pair_0) l
    (fun i => ⟨mkE 19 [(0, prS l), (1, .fn f [.pv 0 0]), (7, .d (.int .i64 l.length)), (8, .d (.int .i64 i))], [(0, .var [prS m])]⟩)
    (fun _ => p) (.exit 0, ⟨mkE 19 [], [(0, .var [prS m])]⟩) (fun i _ => (.ret, ⟨mkE 19 [(4, .d (.int .i64 i))], [(0, .var [prS m])]⟩)) (by simp) (by simp)
    (fun i e hi he hq => by
      have hw := wrap_ok (a := (i : Int) + 1) (by omega) (by omega)
      have hc := hp e (he ▸ List.getElem_mem hi)
      simp -implicitDefEqProofs [body_slices_IndexFunc_roles_Pair_roles_Pair_0, mask_slices_IndexFunc_roles_Pair_roles_Pair_0, hi, he, prC_eq, hc, hf, hq, hw])
    (fun i e hi he hq => by
      have hc := hp e (he ▸ List.getElem_mem hi)
      simp -implicitDefEqProofs [body_slices_IndexFunc_roles_Pair_roles_Pair_0, hi, he, prC_eq, hc, hf, hq]) (by simp -implicitDefEqProofs [body_slices_IndexFunc_roles_Pair_roles_Pair_0])
  simp -implicitDefEqProofs [code_slices_IndexFunc_roles_Pair_roles_Pair]
  rw [hL _ (by simp [mask_slices_IndexFunc_roles_Pair_roles_Pair_0])]
  unfold idxK
  cases findI (fun _ => p) l 0 <;> simp -implicitDefEqProofs
theorem run_ContainsPr0 (l : List Pr) (hl : l.length ≤ BIG) (f : Nat) (hf : own f = false) (p : Pr → Bool) (hp : ∀ e ∈ l, R f [prA e] [] = some (.d (.bool (p e)), [])) :
    R F_slices_ContainsFunc_roles_Pair_roles_Pair [prS l, .fn f []] [] = some (.d (.bool (l.any p)), []) := by
  refine R_of at_slices_ContainsFunc_roles_Pair_roles_Pair (by decide) ?_
  have h := run_IndexPr0 l hl f hf p hp
  simp -implicitDefEqProofs [code_slices_ContainsFunc_roles_Pair_roles_Pair, h, idxK_any]
theorem run_ContainsPr1 (l m : List Pr) (hl : l.length ≤ BIG) (f : Nat) (hf : own f = false) (p : Pr → Bool) (hp : ∀ e ∈ l, R f [prA e, .pv 0 0] [(0, .var [prS m])] = some (.d (.bool (p e)), [(0, .var [prS m])])) :
    R F_slices_ContainsFunc_roles_Pair_roles_Pair [prS l, .fn f [.pv 0 0]] [(0, .var [prS m])] = some (.d (.bool (l.any p)), [(0, .var [prS m])]) := by
  refine R_of at_slices_ContainsFunc_roles_Pair_roles_Pair (by decide) ?_
  have h := run_IndexPr1 l m hl f hf p hp
  simp -implicitDefEqProofs [code_slices_ContainsFunc_roles_Pair_roles_Pair, h, idxK_any]

theorem run_ring1 (l : List Pr) (p : Pr) (hl : l.length ≤ 1048576) : R F_roles_ring_1 [prA p, .pv 0 0] [(0, .var [prS l])] = some (.d (.bool (decide (p.low ∈ rcL l p.high))), [(0, .var [prS l])]) := by
  refine R_of at_roles_ring_1 (by decide) ?_
  obtain ⟨a, b⟩ := p
  have h := run_RHas l b a hl
  simp -implicitDefEqProofs [code_roles_ring_1, h]
theorem run_ring (l : List Pr) (hl : l.length ≤ 1048576) : R F_roles_ring [prS l] [] = some (.d (.bool (ringB l)), []) := by
  refine R_of at_roles_ring (by decide) ?_
  have h := run_ContainsPr1 l l (by unfold BIG; omega) F_roles_ring_1 rfl (fun p => decide (p.low ∈ rcL l p.high)) (fun p _ => run_ring1 l p hl)
  unfold ringB
  simp -implicitDefEqProofs [code_roles_ring, h]

theorem run_31ring (l : List Pr) (hl : l.length ≤ 1048576) : R F_law31_ring [prS l] [] = some (.d (.bool (ringB l)), []) := by
  refine R_of at_law31_ring (by decide) ?_
  have hL := loop_find (X := X) (mask := mask_law31_ring_0) (body := body_law31_ring_0) l
    (fun i => ⟨mkE 23 [(0, prS l), (3, .d (.int .i64 i))], []⟩)
    (fun _ p => decide (p.low ∈ rcL l p.high)) (.exit 0, ⟨mkE 23 [], []⟩) (fun _ _ => (.ret, ⟨mkE 23 [(2, .d (.bool true))], []⟩)) (by simp) (by simp)
    (fun i p hi hx hq => by
      have hw := wrap_ok (a := (i : Int) + 1) (by omega) (by omega)
      obtain ⟨a, b⟩ := p
      have hr := run_31reach l b hl
      have hc := run_plIn (rcL l b) a (by have := rcL_len l b; unfold BIG; omega)
      simp only at hq
      rw [hq] at hc
      simp -implicitDefEqProofs [body_law31_ring_0, mask_law31_ring_0, hi, hx, prC_eq, hr, hc, hw])
    (fun i p hi hx hq => by
      obtain ⟨a, b⟩ := p
      have hr := run_31reach l b hl
      have hc := run_plIn (rcL l b) a (by have := rcL_len l b; unfold BIG; omega)
      simp only at hq
      rw [hq] at hc
      simp -implicitDefEqProofs [body_law31_ring_0, hi, hx, prC_eq, hr, hc]) (by simp -implicitDefEqProofs [body_law31_ring_0])
  unfold ringB
  rw [← findI_any _ l 0]
  simp -implicitDefEqProofs [code_law31_ring]
  rw [hL _ (by simp [mask_law31_ring_0])]
  cases findI (fun _ (p : Pr) => decide (p.low ∈ rcL l p.high)) l 0 <;> simp -implicitDefEqProofs
end Bz.S
