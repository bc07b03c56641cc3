/- Roles: reduced. -/
import Derived.Test.YtjnbdnabdinpeaaRc6
set_option linter.unusedSimpArgs false
set_option linter.unusedVariables false
namespace Bz.S
open Go Bz
set_option maxRecDepth 10000
set_option maxHeartbeats 4000000

/-! ### plainly: without a ring -/
theorem mu_edge {l : List Pr} (h : ringB l = false) {p : Pr} (hp : p ∈ l) : mu l p.high < mu l p.low := mu_lt h (upsP_mem.2 ⟨p, hp, rfl, rfl⟩)
theorem mu_le {l : List Pr} (h : ringB l = false) {a b : Txt} (hr : Rc l a b) : mu l b ≤ mu l a := by
  induction hr with
  | refl => exact Nat.le_refl _
  | step hp _ ih => have := mu_edge h hp; omega
theorem mu_ne {l : List Pr} (h : ringB l = false) {a b : Txt} (hr : Rc l a b) (hn : a ≠ b) : mu l b < mu l a := by
  cases hr with
  | refl => exact absurd rfl hn
  | step hp hr => have := mu_edge h hp; have := mu_le h hr; omega
theorem rc_head {l : List Pr} {a b : Txt} (hr : Rc l a b) : a = b ∨ ∃ p ∈ l, p.low = a ∧ Rc l p.high b := by
  induction hr with
  | refl => exact .inl rfl
  | step hp _ ih =>
    rename_i p _
    rcases ih with e | ⟨q, hq, e, h⟩
    · exact .inr ⟨p, hp, e.symm, .refl⟩
    · exact .inr ⟨q, hq, e, .step hp h⟩
theorem longB_iff {l : List Pr} {p : Pr} : longB l p = true ↔ ∃ q ∈ l, q.low = p.low ∧ q.high ≠ p.high ∧ Rc l q.high p.high := by
  unfold longB longQ
  rw [List.any_eq_true]
  simp only [Bool.and_eq_true, Bool.not_eq_true', decide_eq_false_iff_not, decide_eq_true_eq]
  constructor
  · rintro ⟨r, hr, h1, h2⟩
    obtain ⟨q, hq, e1, e2⟩ := upsP_mem.1 hr
    subst e2
    exact ⟨q, hq, e1, h1, rcL_mem.1 h2⟩
  · rintro ⟨q, hq, e, h1, h2⟩
    exact ⟨q.high, upsP_mem.2 ⟨q, hq, e, rfl⟩, h1, rcL_mem.2 h2⟩
theorem red_mem {l : List Pr} (h : ringB l = false) {p : Pr} : p ∈ redP l ↔ p ∈ l ∧ longB l p = false := by
  unfold redP
  rw [h]
  simp only [Bool.false_eq_true, if_false]
  rw [compL_mem, (sortPr_perm _).mem_iff, List.mem_filter]
  simp
theorem red_path {l out : List Pr} {n : Nat} (h : ringB l = false) (hE : ∀ p ∈ l, mu l p.low - mu l p.high ≤ n → Rc out p.low p.high) {a b : Txt} (hr : Rc l a b) : mu l a - mu l b ≤ n → Rc out a b := by
  induction hr with
  | refl => exact fun _ => .refl
  | step hp hr ih =>
    intro hn
    have h1 := mu_edge h hp
    have h2 := mu_le h hr
    exact (ih (by omega)).trans (hE _ hp (by omega))
theorem red_edge {l : List Pr} (h : ringB l = false) : ∀ (n : Nat) (p : Pr), p ∈ l → mu l p.low - mu l p.high ≤ n → Rc (redP l) p.low p.high := by
  intro n
  induction n with
  | zero => intro p hp hn; have := mu_edge h hp; omega
  | succ n ih =>
    intro p hp hn
    cases hL : longB l p with
    | false => exact .step ((red_mem h).2 ⟨hp, hL⟩) .refl
    | true =>
      obtain ⟨q, hq, e, hne, hr⟩ := longB_iff.1 hL
      have h1 := mu_edge h hq
      have h2 := mu_ne h hr hne
      have h3 := ih q hq (by rw [e] at *; omega)
      rw [e] at h3 h1
      exact h3.trans (red_path h ih hr (by omega))
theorem red_rc {l : List Pr} (h : ringB l = false) (a b : Txt) : Rc (redP l) a b ↔ Rc l a b :=
  ⟨fun hr => hr.mono fun p hp => ((red_mem h).1 hp).1, fun hr => red_path h (n := mu l a - mu l b) (fun p hp hn => red_edge h _ p hp hn) hr (Nat.le_refl _)⟩
theorem red_set {l : List Pr} (h : ringB l = false) (a : Txt) : setT (rcL (redP l) a) = setT (rcL l a) := setT_ext fun x => by rw [rcL_mem, rcL_mem]; exact red_rc h a x

/-! ### rising -/
theorem compL_upG {α : Type} [DecidableEq α] {lt : α → α → Bool} (ht : TotLt lt) : ∀ {l : List α}, (l.Pairwise fun p q => lt q p = false) → (compL l).Pairwise fun p q => lt p q = true
  | [], _ => by simp [compL]
  | [x], _ => by simp [compL]
  | x :: y :: r, h => by
    have hr := (List.pairwise_cons.1 h).2
    have ih := compL_upG ht hr
    unfold compL
    split
    · exact ih
    · rename_i hne
      refine List.pairwise_cons.2 ⟨fun z hz => ?_, ih⟩
      have hz' := compL_mem.1 hz
      have h1 := (List.pairwise_cons.1 h).1
      have hxy : lt x y = true := by
        cases q : lt x y with
        | true => rfl
        | false => exact absurd (ht.tot x y q (h1 y (by simp))) hne
      rcases List.mem_cons.1 hz' with rfl | hz'
      · exact hxy
      · have hyz := (List.pairwise_cons.1 hr).1 z hz'
        cases q : lt y z with
        | true => exact ht.tra _ _ _ hxy q
        | false => rw [← ht.tot y z q hyz]; exact hxy
theorem totP : TotLt ltP where
  irr x := totTT.irr _
  tra x y z h1 h2 := totTT.tra _ _ _ h1 h2
  tot x y h1 h2 := by
    obtain ⟨a, b⟩ := x
    obtain ⟨c, d⟩ := y
    have := totTT.tot _ _ h1 h2
    simp only [ppr, Prod.mk.injEq] at this
    rw [this.1, this.2]
theorem red_up {l : List Pr} (h : ringB l = false) : (redP l).Pairwise fun p q => ltP p q = true := by
  unfold redP
  rw [h]
  simp only [Bool.false_eq_true, if_false]
  exact compL_upG totP (sortPr_up _)
theorem red_len (l : List Pr) : (redP l).length ≤ l.length := by
  unfold redP
  split
  · exact Nat.le_refl _
  · have h1 := compL_len (sortPr (l.filter fun p => !longB l p))
    have h2 := (sortPr_perm (l.filter fun p => !longB l p)).length_eq
    have h3 := List.length_filter_le (fun p => !longB l p) l
    omega
def wout (l : List Pr) (i : Nat) : List Pr := l.take i ++ l.drop (i + 1)
theorem red_need {l : List Pr} (h : ringB l = false) {i : Nat} (hi : i < (redP l).length) : ¬ Rc (wout (redP l) i) ((redP l)[i]).low ((redP l)[i]).high := by
  intro hr
  have hup := red_up h
  have hpm : (redP l)[i] ∈ redP l := List.getElem_mem hi
  obtain ⟨hpl, hlong⟩ := (red_mem h).1 hpm
  have hw : ∀ q ∈ wout (redP l) i, q ∈ redP l := fun q hq => by
    rcases List.mem_append.1 hq with hq | hq
    · exact List.mem_of_mem_take hq
    · exact List.mem_of_mem_drop hq
  have hnot : (redP l)[i] ∉ wout (redP l) i := fun hm => by
    rw [List.pairwise_iff_getElem] at hup
    rcases List.mem_append.1 hm with hm | hm
    · obtain ⟨j, hj, e⟩ := List.getElem_of_mem hm
      have hj2 : j < i := by simp at hj; omega
      have := hup j i (by omega) hi hj2
      rw [List.getElem_take] at e
      rw [e, totP.irr] at this
      cases this
    · obtain ⟨j, hj, e⟩ := List.getElem_of_mem hm
      simp at hj
      have := hup i (i + 1 + j) hi (by omega) (by omega)
      rw [List.getElem_drop] at e
      rw [e, totP.irr] at this
      cases this
  generalize (redP l)[i] = p at *
  rcases rc_head hr with e | ⟨q, hq, e, hr'⟩
  · exact ring_not h hpl (by rw [e]; exact .refl)
  · by_cases hh : q.high = p.high
    · apply hnot
      have : q = p := by
        obtain ⟨a, b⟩ := q
        obtain ⟨c, d⟩ := p
        simp only at e hh
        rw [e, hh]
      rw [← this]; exact hq
    · have : longB l p = true := longB_iff.2 ⟨q, ((red_mem h).1 (hw q hq)).1, e, hh, hr'.mono fun x hx => ((red_mem h).1 (hw x hx)).1⟩
      rw [this] at hlong
      cases hlong

/-! ### walks -/
theorem run_without (l : List Pr) (i : Nat) (hi : i < l.length) (hl : l.length ≤ 1048576) : R F_law31_without [prS l, .d (.int .i64 i)] [] = some (prS (wout l i), []) := by
  refine R_of at_law31_without (by decide) ?_
  have hw := wrap_ok (a := (i : Int) + 1) (by omega) (by omega)
  have g1 : i ≤ l.length := by omega
  have g2 : i + 1 ≤ l.length := by omega
  have g3 : (i : Int) + 1 ≤ l.length := by omega
  have g4 : i ≤ LIM := by unfold LIM; omega
  have g5 : i + (l.length - (i + 1)) ≤ LIM := by unfold LIM; omega
  unfold wout
  have s1 : sized 2 (List.take i (l.map prC)) = true := by rw [← List.map_take]; exact sized_map 2 prC (fun _ => rfl) _
  have s2 : sized 2 (List.drop (i + 1) (l.map prC)) = true := by rw [← List.map_drop]; exact sized_map 2 prC (fun _ => rfl) _
  have hne : ¬ l = [] := fun e => by subst e; simp at hi
  by_cases h0 : i = 0
  · subst h0
    have hw1 := wrap_ok (a := (1 : Int)) (by omega) (by omega)
    match l, hne with
    | [x], _ =>
      have c1 : (prC x).length = 2 := rfl
      simp -implicitDefEqProofs [code_law31_without, hw1, c1]
    | x :: y :: r, _ =>
      simp only [List.length_cons] at hl
      have g6 : r.length + 1 ≤ LIM := by unfold LIM; omega
      have g7 : (1 : Int) ≤ (r.length : Int) + 1 + 1 := by omega
      have s4 := sized_pr r
      have c1 : (prC x).length = 2 := rfl
      have c2 : (prC y).length = 2 := rfl
      have g8 : (0 : Int) ≤ (r.length : Int) + 1 + 1 := by omega
      have g9 : ((r.length : Int) + 1 + 1).toNat - 1 = r.length + 1 := by omega
      have g6' : (r.length : Int) + 1 ≤ (LIM : Int) := by omega
      simp -implicitDefEqProofs [code_law31_without, hw1, g6, g6', g7, g8, g9, s4, c1, c2]
  · have hz : (l.take i).length = i := by simp; omega
    have p0 : (0 : Int) ≤ (i : Int) + 1 := by omega
    by_cases h1 : i + 1 = l.length
    · have e1 : l.length ≤ i + 1 := by omega
      simp -implicitDefEqProofs [code_law31_without, hw, g1, g2, g3, g4, g5, s1, s2, e1, h0, p0, hne]
      rw [List.take_of_length_le (by simp; omega), List.drop_eq_nil_of_le (by simp; omega), List.append_nil]
    · have e1 : ¬ l.length ≤ i + 1 := by omega
      simp -implicitDefEqProofs [code_law31_without, hw, g1, g2, g3, g4, g5, s1, s2, e1, h0, p0, hne]
      rw [List.take_of_length_le (by simp; omega)]

theorem ltP_iff {p q : Pr} : ltP p q = true ↔ Op.bytesLess p.low q.low = true ∨ (p.low = q.low ∧ Op.bytesLess p.high q.high = true) := ltTT
theorem run_RolesReduces (l : List Pr) (r : Txt) (hb0 : bulkL [.vs false (l.map prC)] + bulkL [.str r] ≤ 1048576) : R F_law31_RolesReduces [prS l, stA r] [] = some (.d (.bool true), []) := by
  refine R_of at_law31_RolesReduces (by decide) ?_
  have hf := run_31few l
  have hlen : (few31 l).length ≤ 30 := by unfold few31; simp; omega
  generalize few31 l = m at *
  clear hb0
  have h1 := run_31ring m (by omega)
  have h2 := run_Reduce m (by omega)
  cases hr : ringB m with
  | true =>
    rw [hr] at h1
    have e : redP m = m := by unfold redP; rw [if_pos hr]
    rw [e] at h2
    have hL := loop_fold (X := X) (mask := mask_law31_RolesReduces_0) (body := body_law31_RolesReduces_0) m
      (fun i (_ : Unit) => ⟨mkE 139 [(0, prS m), (5, prS m), (6, .d (.int .i64 i))], []⟩)
      (fun _ _ => True) (fun _ _ _ => ()) (fun _ => (.exit 0, ⟨mkE 139 [], []⟩)) (by simp)
      (fun i a p hi hx _ => by
        have hw := wrap_ok (a := (i : Int) + 1) (by omega) (by omega)
        refine ⟨trivial, ?_⟩
        simp -implicitDefEqProofs [body_law31_RolesReduces_0, mask_law31_RolesReduces_0, hi, hx, prC_eq, hw, -aeqagg, aeqagg_pr]) (fun a _ => by
        simp -implicitDefEqProofs [body_law31_RolesReduces_0]) () trivial
    simp -implicitDefEqProofs [code_law31_RolesReduces, alive31, hf, h2, h1]
    rw [hL _ (by simp -implicitDefEqProofs [mask_law31_RolesReduces_0])]
    simp -implicitDefEqProofs
  | false =>
    rw [hr] at h1
    have hup := red_up hr
    have hneed := fun i hi => red_need hr (i := i) hi
    have hset := red_set hr r
    have hol := red_len m
    have hrc := red_rc hr
    have hin : ∀ p ∈ redP m, p ∈ m := fun p hp => ((red_mem hr).1 hp).1
    generalize redP m = o at *
    have e1 := run_31reach o r (by omega)
    have e2 := run_31reach m r (by omega)
    have b1 := rcL_len o r
    have b2 := rcL_len m r
    have e3 := run_Rising (rcL o r) (by unfold BIG; omega)
    have e4 := run_Rising (rcL m r) (by unfold BIG; omega)
    rw [hset] at e3
    have b3 := setT_len (rcL m r)
    have e5 := run_plTexts (setT (rcL m r)) (setT (rcL m r)) (by unfold BIG; omega) (by unfold BIG; omega)
    simp only [decide_true] at e5
    have hL1 := loop_fold (X := X) (mask := mask_law31_RolesReduces_1) (body := body_law31_RolesReduces_1) o
      (fun i (_ : Unit) => ⟨mkE 139 [(0, prS m), (5, prS o), (7, .d (.int .i64 i))], []⟩)
      (fun _ _ => True) (fun _ _ _ => ()) (fun _ => (.exit 2, ⟨mkE 139 [(0, prS m), (5, prS o)], []⟩)) (by simp)
      (fun i a p hi hx _ => by
        have hw := wrap_ok (a := (i : Int) + 1) (by omega) (by omega)
        refine ⟨trivial, ?_⟩
        have hpm : p ∈ o := hx ▸ List.getElem_mem hi
        have w1 := run_without o i hi (by omega)
        have hwl : (wout o i).length ≤ o.length := by unfold wout; simp; omega
        have w2 := run_31reach (wout o i) p.low (by omega)
        have b4 := rcL_len (wout o i) p.low
        have w3 := run_plIn (rcL (wout o i) p.low) p.high (by unfold BIG; omega)
        have w4 : ¬ p.high ∈ rcL (wout o i) p.low := fun h => by
          have := hneed i hi
          rw [hx] at this
          exact this (rcL_mem.1 h)
        have w5 := run_31reach m p.low (by omega)
        have b5 := rcL_len m p.low
        have w6 := run_plIn (rcL m p.low) p.high (by unfold BIG; omega)
        have w7 : p.high ∈ rcL m p.low := rcL_mem.2 (.step (hin p hpm) .refl)
        simp only [w4, decide_false] at w3
        simp only [w7, decide_true] at w6
        by_cases h0 : i = 0
        · subst h0
          have hw1 := wrap_ok (a := (1 : Int)) (by omega) (by omega)
          have hc : ((0 : Nat) : Int) = 0 := rfl
          rw [hc] at w1
          simp -implicitDefEqProofs [body_law31_RolesReduces_1, mask_law31_RolesReduces_1, hi, hx, prC_eq, hw1, w1, w2, w3, w5, w6]
        · obtain ⟨k, rfl⟩ : ∃ k, i = k + 1 := ⟨i - 1, by omega⟩
          obtain ⟨q, hq⟩ : ∃ q, o[k] = q := ⟨_, rfl⟩
          have hk : k < o.length := by omega
          have hlt : ltP q p = true := by
            rw [List.pairwise_iff_getElem] at hup
            have := hup k (k + 1) hk hi (by omega)
            rw [hq, hx] at this
            exact this
          have hw1 := wrap_ok (a := (k : Int)) (by omega) (by omega)
          have p0 : (0 : Int) < (k : Int) + 1 := by omega
          have hc : ((k + 1 : Nat) : Int) = (k : Int) + 1 := by omega
          rw [hc] at w1 hw
          have p4 : (k : Int) + 1 < o.length := by omega
          have p1 : (0 : Int) ≤ (k : Int) + 1 := by omega
          have p2 : ((k : Int) + 1).toNat = k + 1 := by omega
          have p3 : (k : Int) + 1 - 1 = k := by omega
          rcases ltP_iff.1 hlt with hl1 | ⟨hl1, hl2⟩
          · have n1 : Op.bytesLess p.low q.low = false := blt_tot.asym hl1
            have n2 : ¬ q.low = p.low := fun e => by rw [e, blt_tot.irr] at hl1; cases hl1
            simp -implicitDefEqProofs [body_law31_RolesReduces_1, mask_law31_RolesReduces_1, hi, hx, hk, hq, prC_eq, hw, hw1, w1, w2, w3, w5, w6, p0, p1, p2, p3, p4, hl1, n2]
          · have n1 : Op.bytesLess p.low p.low = false := blt_tot.irr _
            simp -implicitDefEqProofs [body_law31_RolesReduces_1, mask_law31_RolesReduces_1, hi, hx, hk, hq, prC_eq, hw, hw1, w1, w2, w3, w5, w6, p0, p1, p2, p3, p4, hl1, hl2, n1]) (fun a _ => by
        simp -implicitDefEqProofs [body_law31_RolesReduces_1]) () trivial
    have hL2 := loop_fold (X := X) (mask := mask_law31_RolesReduces_2) (body := body_law31_RolesReduces_2) m
      (fun i (_ : Unit) => ⟨mkE 139 [(0, prS m), (5, prS o), (9, .d (.int .i64 i))], []⟩)
      (fun _ _ => True) (fun _ _ _ => ()) (fun _ => (.exit 4, ⟨mkE 139 [], []⟩)) (by simp)
      (fun i a p hi hx _ => by
        have hw := wrap_ok (a := (i : Int) + 1) (by omega) (by omega)
        refine ⟨trivial, ?_⟩
        have hpm : p ∈ m := hx ▸ List.getElem_mem hi
        have w5 := run_31reach o p.low (by omega)
        have b5 := rcL_len o p.low
        have w6 := run_plIn (rcL o p.low) p.high (by unfold BIG; omega)
        have w7 : p.high ∈ rcL o p.low := rcL_mem.2 ((hrc _ _).2 (.step hpm .refl))
        simp only [w7, decide_true] at w6
        simp -implicitDefEqProofs [body_law31_RolesReduces_2, mask_law31_RolesReduces_2, hi, hx, prC_eq, hw, w5, w6]) (fun a _ => by
        simp -implicitDefEqProofs [body_law31_RolesReduces_2]) () trivial
    have g1 : ¬ ((m.length : Int) < (o.length : Int)) := by omega
    simp -implicitDefEqProofs [code_law31_RolesReduces, alive31, hf, h2, h1, g1, e1, e2, e3, e4, e5]
    rw [hL1 _ (by simp -implicitDefEqProofs [mask_law31_RolesReduces_1])]
    simp -implicitDefEqProofs
    rw [hL2 _ (by simp -implicitDefEqProofs [mask_law31_RolesReduces_2])]
    simp -implicitDefEqProofs
end Bz.S
