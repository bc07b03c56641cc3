/- DelegateChains, the law. -/
import Derived.Test.YtmnnjkdfanghdaaDel7
set_option linter.unusedSimpArgs false
set_option linter.unusedVariables false
namespace Bz.S
open Go Bz
set_option maxRecDepth 10000
set_option maxHeartbeats 4000000

/-- one link looked up by the page -/
theorem chains_inner (root : Txt) (l : List Gr) (at_ : Int) (ns : List Txt) (f : Txt → Int) (c : List Txt) (i : Nat) (x : Txt) (kk : Nat) (g : Gr) (hl : l.length ≤ 24) (hns : ns.length ≤ 25) (hcl : c.length ≤ 13) (hb : B12 f) (hoff : Off ns f)
    (hi : i < c.length) (hx : c[i] = x) (hf : findI (fun _ g => isNx f at_ x g) l 0 = some (kk, g)) : ∀ s,
    trim mask_law35_DelegateChains_0 s = ⟨mkE 163 [(0, stA root), (1, grS l), (3, .d (.int .i64 at_)), (9, txS ns), (10, i6S (ns.map f)), (11, txS c), (13, .d (.int .i64 i)), (14, .d (.str [])), (15, .d (.bool false)), (16, .d (.int .i64 0))], []⟩ →
    exL X (.loop mask_law35_DelegateChains_0 body_law35_DelegateChains_0) s = some (.exit 2, ⟨mkE 163 [(0, stA root), (1, grS l), (3, .d (.int .i64 at_)), (9, txS ns), (10, i6S (ns.map f)), (11, txS c), (13, .d (.int .i64 i)), (14, .d (.str g.f)), (15, .d (.bool true))], []⟩) := by
  obtain ⟨kk', h1, h2, h3, h4⟩ := findI_some _ l 0 _ hf
  simp only [Nat.zero_add] at h1 h2 h3 h4
  subst h1
  obtain ⟨hk, hg⟩ := List.getElem?_eq_some_iff.1 h2
  have hby := fun g => p_by ns f g at_ (by unfold BIG; omega) hb
  rw [off_far hoff] at hby
  have hfar := p_far ns f x (by unfold BIG; omega)
  rw [off_far hoff] at hfar
  generalize ns.map f = kl at *
  obtain ⟨r, rfl, hL⟩ := loop_meas (X := X) (mask := mask_law35_DelegateChains_0) (body := body_law35_DelegateChains_0)
    (fun (p : Nat × Bool) => ⟨mkE 163 [(0, stA root), (1, grS l), (3, .d (.int .i64 at_)), (9, txS ns), (10, i6S kl), (11, txS c), (13, .d (.int .i64 i)), (14, .d (.str (if p.2 = true then g.f else []))), (15, .d (.bool p.2)), (16, .d (.int .i64 p.1))], []⟩)
    (fun p => if p.2 = true then p.1 = kk + 1 else p.1 ≤ kk) (fun p => if p.2 = true then 0 else kk + 1 - p.1)
    (fun r => r = (.exit 2, ⟨mkE 163 [(0, stA root), (1, grS l), (3, .d (.int .i64 at_)), (9, txS ns), (10, i6S kl), (11, txS c), (13, .d (.int .i64 i)), (14, .d (.str g.f)), (15, .d (.bool true))], []⟩))
    (fun p hI => by
      obtain ⟨k, m⟩ := p
      cases m with
      | true =>
        simp only [if_true] at hI
        subst hI
        refine .inr ⟨_, ?_, ?_, rfl⟩
        · by_cases hlt : ((kk : Int) + 1) < l.length
          · simp -implicitDefEqProofs [body_law35_DelegateChains_0, hlt]
          · simp -implicitDefEqProofs [body_law35_DelegateChains_0, hlt]
        · simp
      | false =>
        simp only [Bool.false_eq_true, if_false] at hI
        have hkl : k < l.length := by omega
        have hw := wrap_ok (a := (k : Int) + 1) (by omega) (by omega)
        by_cases he : k = kk
        · subst he
          refine .inl ⟨(k + 1, true), by simp, by simp, ?_⟩
          simp only [isNx, decide_eq_true_eq] at h3
          have hbg := hby g
          rw [h3.2] at hbg
          have ht := h3.1
          obtain ⟨f', t, d, a, u⟩ := g
          simp only at ht
          subst ht
          simp -implicitDefEqProofs [body_law35_DelegateChains_0, mask_law35_DelegateChains_0, hkl, hg, hi, hx, hbg, hfar, hw]
        · have hlt : k < kk := by omega
          refine .inl ⟨(k + 1, false), by simp; omega, by simp; omega, ?_⟩
          have hno := h4 k l[k] hlt (List.getElem?_eq_getElem hkl)
          have hbg := hby l[k]
          simp only [isNx, decide_eq_false_iff_not, not_and] at hno
          generalize hgk : l[k] = gk at *
          generalize byF f at_ gk = v at *
          generalize f x = fx at *
          obtain ⟨f', t, d, a, u⟩ := gk
          by_cases ht : t = x
          · have hv := hno ht
            subst ht
            simp -implicitDefEqProofs [body_law35_DelegateChains_0, mask_law35_DelegateChains_0, hkl, hgk, hi, hx, hbg, hfar, hv, hw]
          · simp -implicitDefEqProofs [body_law35_DelegateChains_0, mask_law35_DelegateChains_0, hkl, hgk, hi, hx, ht, hw])
    (0, false) (by simp)
  exact fun s hs => hL s (by simpa using hs)

theorem run_DelegateChains (root : Txt) (l : List Gr) (w : Txt) (at_ : Int) (_hw : (Lit.int .i64 at_).wf = true) (hb0 : bulkL [.str root] + (bulkL [.vs false (l.map grC)] + (bulkL [.str w] + bulkL [.int .i64 at_])) ≤ 1048576) :
    R F_law35_DelegateChains [stA root, grS l, stA w, .d (.int .i64 at_)] [] = some (.d (.bool true), []) := by
  refine R_of at_law35_DelegateChains (by decide) ?_
  obtain ⟨h1, h2⟩ := few35_ok (l := l) (by omega)
  have hf := run_few35 l h1
  generalize l.take 24 = l' at *
  obtain ⟨K, hK⟩ := found root l' at_ (by unfold BIG; omega)
  have hP := p_find root l' at_ (by omega)
  have hnl := nm_len root l'
  have hfar := fun w => p_far (nm root l') (kn root l' at_ 12) w (by unfold BIG; omega)
  have hoff := kn_off root l' at_ 12
  rw [off_far hoff] at hfar
  have hC := run_Chain hK w (by unfold BIG; omega)
  have hinner := chains_inner root l' at_ (nm root l') (kn root l' at_ 12)
  rw [hK.same] at hC
  have hb := kn_B12 root l' at_ 12
  generalize nm root l' = ns at *
  generalize kn root l' at_ 12 = f at *
  by_cases h0 : f w < 0
  · rw [if_pos h0] at hC
    have hfw := hfar w
    generalize ns.map f = kl at *
    simp -implicitDefEqProofs [code_law35_DelegateChains, alive35, hf, hP, hC, hfw, h0]
  · rw [if_neg h0] at hC
    obtain ⟨u, hu, hC⟩ := hC
    have hul := hu.len
    have hur := (hb root).2
    have hu13 : u.length ≤ 13 := by omega
    have hrl : u.reverse.length = u.length := List.length_reverse ..
    have hlink : ∀ (i : Nat) (h : i + 1 < u.reverse.length), u.reverse[i + 1] ≠ root ∧ f u.reverse[i + 1] < f (u.reverse[i]'(Nat.lt_of_succ_lt h)) ∧ ∃ k g, findI (fun _ g => isNx f at_ u.reverse[i + 1] g) l' 0 = some (k, g) ∧ g.f = u.reverse[i]'(Nat.lt_of_succ_lt h) := by
      intro i h
      have h' : i + 1 < u.length := by omega
      rw [List.getElem_reverse, List.getElem_reverse]
      refine hu.link (u.length - 1 - (i + 1)) _ _ (List.getElem?_eq_getElem (by omega)) ?_
      rw [← List.getElem?_eq_getElem]
      congr 1; omega
    have hfirst : ∀ h : 0 < u.reverse.length, u.reverse[0] = root := fun h => by
      rw [List.getElem_reverse]
      have := hu.last
      rw [List.getElem?_eq_getElem (by omega)] at this
      simpa using this
    have hlast : ∀ h : u.reverse.length - 1 < u.reverse.length, u.reverse[u.reverse.length - 1] = w := fun h => by
      rw [List.getElem_reverse]
      have := hu.head
      rw [List.getElem?_eq_getElem (by omega)] at this
      have e : u.length - 1 - (u.reverse.length - 1) = 0 := by omega
      simp only [e]
      simpa using this
    have hin := fun i x kk g => hinner u.reverse i x kk g h2 (by omega) (by omega) hb hoff
    rw [← hrl] at hu13 hul
    generalize u.reverse = c at *
    clear hrl hu
    obtain ⟨r, rfl, hL⟩ := loop_upto (X := X) (mask := mask_law35_DelegateChains_1) (body := body_law35_DelegateChains_1) (σ := Unit) (c.length - 1)
      (fun i _ => ⟨mkE 163 [(0, stA root), (1, grS l'), (3, .d (.int .i64 at_)), (9, txS ns), (10, i6S (ns.map f)), (11, txS c), (13, .d (.int .i64 (i + 1 : Nat)))], []⟩)
      (fun _ _ => True) (fun r => r = (.exit 0, ⟨mkE 163 [], []⟩))
      (fun i _ hi _ => by
        refine .inl ⟨(), trivial, ?_⟩
        have hlt : i + 1 < c.length := by omega
        obtain ⟨g1, g2, kk, g, g3, g4⟩ := hlink i hlt
        have hil : i < c.length := by omega
        have hL := hin (i + 1) _ kk g hlt rfl g3
        have f1 := hfar (c[i + 1])
        have f2 := hfar c[i]
        have key : ∀ (j : Nat) (hj : j = i + 1) (a b : Txt) (hjl : j < c.length), c[j] = a → c[i] = b → c[i + 1] = a → (exL X body_law35_DelegateChains_1 ⟨mkE 163 [(0, stA root), (1, grS l'), (3, .d (.int .i64 at_)), (9, txS ns), (10, i6S (ns.map f)), (11, txS c), (13, .d (.int .i64 j))], []⟩).map (fun p => (p.1, trim mask_law35_DelegateChains_1 p.2)) =
            some (.norm, ⟨mkE 163 [(0, stA root), (1, grS l'), (3, .d (.int .i64 at_)), (9, txS ns), (10, i6S (ns.map f)), (11, txS c), (13, .d (.int .i64 ((j : Int) + 1)))], []⟩) := by
          intro j hj a b hjl ha hbb hab
          rw [hab] at g1 g2 f1
          rw [hbb] at g2 f2 g4
          rw [← hj] at hL
          have e1 : (j : Int) - 1 = (i : Int) := by omega
          have hw2 := wrap_ok (a := (i : Int)) (by omega) (by omega)
          have hw := wrap_ok (a := (j : Int) + 1) (by omega) (by omega)
          have hlt2 : (j : Int) < c.length := by omega
          generalize f a = fa at *
          generalize f b = fb at *
          generalize ns.map f = kl at *
          have g5 : ¬ fb ≤ fa := by omega
          simp -implicitDefEqProofs [body_law35_DelegateChains_1, hjl]
          rw [hL _ (by simp -implicitDefEqProofs [mask_law35_DelegateChains_0])]
          simp -implicitDefEqProofs [mask_law35_DelegateChains_1, hjl, ha, hil, hbb, g1, g4, f1, f2, hw, hw2, e1, g5]
          exact ⟨_, _, ⟨rfl, rfl⟩, rfl, by simp -implicitDefEqProofs⟩
        have := key (i + 1) rfl _ _ hlt rfl rfl rfl
        rw [show ((i + 1 + 1 : Nat) : Int) = ((i + 1 : Nat) : Int) + 1 by omega]
        exact this)
      (fun _ _ => by
        refine ⟨_, ?_, ?_, rfl⟩
        · have hn : ¬ ((c.length - 1 + 1 : Nat) : Int) < c.length := by omega
          generalize ((c.length - 1 + 1 : Nat) : Int) = q at *
          simp -implicitDefEqProofs [body_law35_DelegateChains_1, hn]
        · simp) () trivial
    have hc0 : 0 < c.length := by omega
    have hfw := hfar w
    have k1 := hfirst hc0
    have k2 := hlast (by omega)
    obtain ⟨q, hq, hql, k3⟩ : ∃ q, ∃ hq : q = c.length - 1, ∃ hql : q < c.length, c[q] = w := ⟨c.length - 1, rfl, by omega, k2⟩
    have e1 : (c.length : Int) - 1 = (q : Int) := by omega
    have hw := wrap_ok (a := (q : Int)) (by omega) (by omega)
    have hc13 : ¬ (13 : Int) < c.length := by omega
    have hc1 : ¬ (c.length : Int) = 0 := by omega
    have hcne : ¬ c = [] := by intro e; rw [e] at hc0; simp at hc0
    generalize ns.map f = kl at *
    clear k2 hlast hq
    simp -implicitDefEqProofs [code_law35_DelegateChains, alive35, hf, hP, hC, hfw, h0, hc13, hc1, hcne, hc0, k1, k3, e1, hw, hql]
    rw [hL _ (by simp -implicitDefEqProofs [mask_law35_DelegateChains_1])]
    simp -implicitDefEqProofs
end Bz.S
