/- DelegateTells, DelegateMore, DelegateBound. -/
import Derived.Test.YtmnnjkdfanghdaaDel3
import Derived.Test.YtmnnjkdfanghdaaTyp
set_option linter.unusedSimpArgs false
set_option linter.unusedVariables false
namespace Bz.S
open Go Bz
set_option maxRecDepth 10000
set_option maxHeartbeats 4000000

theorem grs_bulk (l : List Gr) : l.length ≤ bulkLL (l.map grC) := by
  induction l with
  | nil => simp
  | cons o r ih => simp only [List.map_cons, List.length_cons, bulkLL, grC, bulkL, bulkD] at ih ⊢; omega
theorem few35_ok {l : List Gr} (h : bulkL [.vs false (l.map grC)] ≤ 1048576) : l.length ≤ BIG ∧ (l.take 24).length ≤ 24 := by
  have := grs_bulk l
  simp only [bulkL, bulkD] at h
  exact ⟨by unfold BIG; omega, by simp; omega⟩

theorem run_DelegateTells (root : Txt) (l : List Gr) (w : Txt) (at_ : Int) (_hw : (Lit.int .i64 at_).wf = true) (hb0 : bulkL [.str root] + (bulkL [.vs false (l.map grC)] + (bulkL [.str w] + bulkL [.int .i64 at_])) ≤ 1048576) :
    R F_law35_DelegateTells [stA root, grS l, stA w, .d (.int .i64 at_)] [] = some (.d (.bool true), []) := by
  refine R_of at_law35_DelegateTells (by decide) ?_
  obtain ⟨h1, h2⟩ := few35_ok (l := l) (by omega)
  have hf := run_few35 l h1
  generalize l.take 24 = l' at *
  obtain ⟨K, hK⟩ := found root l' at_ (by unfold BIG; omega)
  have hP := p_find root l' at_ (by omega)
  have hnl := nm_len root l'
  have hfar := p_far (nm root l') (kn root l' at_ 12) w (by unfold BIG; omega)
  rw [off_far (kn_off root l' at_ 12)] at hfar
  have hD := run_Depth hK w
  have hH := run_Holds hK w
  have hA := run_All hK (by omega)
  rw [hK.all] at hA
  rw [hK.same] at hD hH
  have hb := kn_B12 root l' at_ 12
  generalize nm root l' = ns at *
  generalize kn root l' at_ 12 = f at *
  have hL := loop_fold (X := X) (mask := mask_law35_DelegateTells_0) (body := body_law35_DelegateTells_0) ns
    (fun i (out : List Txt) => ⟨mkE 73 [(0, stA root), (1, grS l'), (2, stA w), (3, .d (.int .i64 at_)), (9, txS ns), (10, i6S (ns.map f)), (11, .d (.int .i64 (f w))), (12, .os 10000120 out.length 0 out.length), (13, .d (.int .i64 i))], [(10000120, .arr 1 (out.map stC))]⟩)
    (fun i out => out.length ≤ i) (fun _ out x => if 0 ≤ f x then out ++ [x] else out)
    (fun out => (.exit 0, ⟨mkE 73 [(0, stA root), (1, grS l'), (2, stA w), (3, .d (.int .i64 at_)), (11, .d (.int .i64 (f w))), (12, .os 10000120 out.length 0 out.length)], [(10000120, .arr 1 (out.map stC))]⟩)) (by simp)
    (fun i out x hi hx hI => by
      have hw := wrap_ok (a := (i : Int) + 1) (by omega) (by omega)
      have g1 : out.length + 1 ≤ LIM := by unfold LIM; omega
      by_cases h0 : 0 ≤ f x
      · refine ⟨by rw [if_pos h0]; simp; omega, ?_⟩
        simp -implicitDefEqProofs [body_law35_DelegateTells_0, mask_law35_DelegateTells_0, hi, hx, hw, h0, g1]
      · refine ⟨by rw [if_neg h0]; omega, ?_⟩
        simp -implicitDefEqProofs [body_law35_DelegateTells_0, mask_law35_DelegateTells_0, hi, hx, hw, h0])
    (fun out _ => by simp -implicitDefEqProofs [body_law35_DelegateTells_0]) [] (Nat.le_refl _)
  have hfd : ∀ (l : List Txt) (i : Nat) (a : List Txt), foldI (fun _ out x => if 0 ≤ f x then out ++ [x] else out) l i a = a ++ l.filter fun x => decide (0 ≤ f x) := by
    intro l
    induction l with
    | nil => intro i a; simp
    | cons x r ih =>
      intro i a
      rw [foldI_cons, ih]
      by_cases h : 0 ≤ f x <;> simp [h]
  rw [hfd] at hL
  simp only [List.nil_append] at hL
  have hol : (ns.filter fun x => decide (0 ≤ f x)).length ≤ ns.length := List.length_filter_le _ _
  generalize (ns.filter fun x => decide (0 ≤ f x)) = out at *
  have hR := run_Rising out (by unfold BIG; omega)
  have hsl := setT_len out
  have hT := run_plTexts (setT out) (setT out) (by unfold BIG; omega) (by unfold BIG; omega)
  simp only [decide_true] at hT
  generalize setT out = so at *
  generalize ns.map f = kl at *
  simp -implicitDefEqProofs [code_law35_DelegateTells, alive35, hf, hP, hfar]
  rw [hL _ (by simp -implicitDefEqProofs [mask_law35_DelegateTells_0])]
  cases so with
  | nil =>
    simp -implicitDefEqProofs [txS] at hR hA hT
    simp -implicitDefEqProofs [hD, hH, hA, hR, hT, noViews]
  | cons a r =>
    simp -implicitDefEqProofs [txS] at hR hA hT
    simp -implicitDefEqProofs [hD, hH, hA, hR, hT, noViews]

theorem run_DelegateBound (root : Txt) (l : List Gr) (w : Txt) (at_ : Int) (_hw : (Lit.int .i64 at_).wf = true) (hb0 : bulkL [.str root] + (bulkL [.vs false (l.map grC)] + (bulkL [.str w] + bulkL [.int .i64 at_])) ≤ 1048576) :
    R F_law35_DelegateBound [stA root, grS l, stA w, .d (.int .i64 at_)] [] = some (.d (.bool true), []) := by
  refine R_of at_law35_DelegateBound (by decide) ?_
  obtain ⟨h1, h2⟩ := few35_ok (l := l) (by omega)
  have hf := run_few35 l h1
  generalize l.take 24 = l' at *
  obtain ⟨K, hK⟩ := found root l' at_ (by unfold BIG; omega)
  have hD := run_Depth hK
  by_cases hw : w = root
  · subst hw
    have := hD w
    rw [hK.good.root] at this
    simp -implicitDefEqProofs [code_law35_DelegateBound, alive35, hf, this]
  · have hbd : ∀ x, -1 ≤ ofK K x ∧ ofK K x ≤ 12 := fun x => ⟨hK.good.lo x, hK.good.hi' x⟩
    have hL := loop_fold (X := X) (mask := mask_law35_DelegateBound_0) (body := body_law35_DelegateBound_0) l'
      (fun i (m : Int) => ⟨mkE 83 [(0, stA root), (1, grS l'), (2, stA w), (3, .d (.int .i64 at_)), (9, .d (.int .i64 (ofK K w))), (10, .d (.int .i64 m)), (11, .d (.int .i64 i))], []⟩)
      (fun _ m => -1 ≤ m) (fun _ m g => if g.t = w then max m (byF (ofK K) at_ g) else m)
      (fun m => (.exit 0, ⟨mkE 83 [(9, .d (.int .i64 (ofK K w))), (10, .d (.int .i64 m))], []⟩)) (by simp)
      (fun i m g hi hg hm => by
        refine ⟨by split <;> omega, ?_⟩
        have hwr := wrap_ok (a := (i : Int) + 1) (by omega) (by omega)
        have hf1 := hD g.f
        have hb1 := hbd g.f
        unfold byF liveG
        obtain ⟨f, t, d, a, u⟩ := g
        simp only at hf1 hb1 ⊢
        generalize ofK K f = v at *
        have hw2 := wrap_ok (a := v - 1) (by omega) (by omega)
        by_cases g0 : t = w
        · by_cases g1 : 0 ≤ d
          · by_cases g2 : a ≤ at_
            · by_cases g3 : at_ ≤ u
              · by_cases g4 : 0 < v
                · have g5 : 1 ≤ v := by omega
                  have e : (if g0 : t = w then max m (min d (v - 1)) else m) = (if m < (if v - 1 < d then v - 1 else d) then (if v - 1 < d then v - 1 else d) else m) := by rw [dif_pos g0]; grind
                  have e2 : max m (min d (v - 1)) = (if m < (if v - 1 < d then v - 1 else d) then (if v - 1 < d then v - 1 else d) else m) := by grind
                  simp -implicitDefEqProofs [body_law35_DelegateBound_0, mask_law35_DelegateBound_0, hi, hg, hwr, hf1, g0, g1, g2, g3, g4, g5, hw2, e2]
                · have g5 : ¬ 1 ≤ v := by omega
                  have e2 : max m (-1) = m := by omega
                  simp -implicitDefEqProofs [body_law35_DelegateBound_0, mask_law35_DelegateBound_0, hi, hg, hwr, hf1, g0, g1, g2, g3, g4, g5, e2]
              · have e2 : max m (-1) = m := by omega
                simp -implicitDefEqProofs [body_law35_DelegateBound_0, mask_law35_DelegateBound_0, hi, hg, hwr, hf1, g0, g1, g2, g3, e2]
            · have e2 : max m (-1) = m := by omega
              simp -implicitDefEqProofs [body_law35_DelegateBound_0, mask_law35_DelegateBound_0, hi, hg, hwr, hf1, g0, g1, g2, e2]
          · have e2 : max m (-1) = m := by omega
            simp -implicitDefEqProofs [body_law35_DelegateBound_0, mask_law35_DelegateBound_0, hi, hg, hwr, hf1, g0, g1, e2]
        · simp -implicitDefEqProofs [body_law35_DelegateBound_0, mask_law35_DelegateBound_0, hi, hg, hwr, hf1, g0])
      (fun m _ => by simp -implicitDefEqProofs [body_law35_DelegateBound_0]) (-1) (by omega)
    have hle : ∀ (r : List Gr) (i : Nat) (m : Int), (∀ g ∈ r, g ∈ l') → m ≤ ofK K w → foldI (fun _ m g => if g.t = w then max m (byF (ofK K) at_ g) else m) r i m ≤ ofK K w := by
      intro r
      induction r with
      | nil => intro i m _ hm; exact hm
      | cons g r ih =>
        intro i m hr hm
        rw [foldI_cons]
        refine ih _ _ (fun g hg => hr g (by simp [hg])) ?_
        split
        · rename_i e; have := hK.closed g (hr g (by simp)); rw [e] at this; omega
        · exact hm
    have hge : ∀ (r : List Gr) (i : Nat) (m : Int), m ≤ foldI (fun _ m g => if g.t = w then max m (byF (ofK K) at_ g) else m) r i m ∧ ∀ g ∈ r, g.t = w → byF (ofK K) at_ g ≤ foldI (fun _ m g => if g.t = w then max m (byF (ofK K) at_ g) else m) r i m := by
      intro r
      induction r with
      | nil => intro i m; exact ⟨Int.le_refl _, fun g hg => by cases hg⟩
      | cons a r ih =>
        intro i m
        rw [foldI_cons]
        have := ih (i + 1) (if a.t = w then max m (byF (ofK K) at_ a) else m)
        refine ⟨Int.le_trans ?_ this.1, fun g hg hgt => ?_⟩
        · split <;> omega
        · rcases List.mem_cons.1 hg with rfl | hg
          · refine Int.le_trans ?_ this.1
            rw [if_pos hgt]; omega
          · exact this.2 g hg hgt
    have heq : foldI (fun _ m g => if g.t = w then max m (byF (ofK K) at_ g) else m) l' 0 (-1) = ofK K w := by
      have h1 := hle l' 0 (-1) (fun _ h => h) (hK.good.lo w)
      have h2 := hge l' 0 (-1)
      by_cases h0 : 0 ≤ ofK K w
      · obtain ⟨g, hg, hgt, hle2⟩ := hK.good.just w hw h0
        have := h2.2 g hg hgt
        omega
      · have := hK.good.lo w; omega
    rw [heq] at hL
    have hlt : ofK K w < 12 := by have := hK.good.hi w hw; omega
    have hDw := hD w
    simp -implicitDefEqProofs [code_law35_DelegateBound, alive35, hf, hDw, hw]
    rw [hL _ (by simp -implicitDefEqProofs [mask_law35_DelegateBound_0])]
    simp -implicitDefEqProofs [hlt]

theorem typ_grs {P : Program} {q t : TypeId} {fs : Array Field} (hq : P.underlying q = some (.slice t)) (hu : P.underlying t = some (.struct fs)) {s1 s2 i1 i2 i3 : TypeId} (hfs : fs.toList.map (·.type) = [s1, s2, i1, i2, i3])
    (h1 : P.underlying s1 = some .string) (h2 : P.underlying s2 = some .string) (h3 : P.underlying i1 = some (.int .i64)) (h4 : P.underlying i2 = some (.int .i64)) (h5 : P.underlying i3 = some (.int .i64)) (x : List D) (h : Typed P q x) : ∃ m : List Gr, x = [.vs false (m.map grC)] := by
  obtain ⟨es, rfl, hes⟩ := typ_slice h hq
  obtain ⟨m, rfl⟩ := mem_map_all grC (es := es) fun y hy => by
    obtain ⟨parts, rfl, hp⟩ := typ_fields (hes y hy) hu hfs
    obtain ⟨a, r, rfl, ha, hp⟩ := tall_cons hp
    obtain ⟨b, r, rfl, hb, hp⟩ := tall_cons hp
    obtain ⟨c, r, rfl, hc, hp⟩ := tall_cons hp
    obtain ⟨d, r, rfl, hd, hp⟩ := tall_cons hp
    obtain ⟨e, r, rfl, he, hp⟩ := tall_cons hp
    cases tall_nil hp
    obtain ⟨m1, rfl⟩ := typ_str ha h1
    obtain ⟨m2, rfl⟩ := typ_str hb h2
    obtain ⟨m3, rfl, _⟩ := typ_int hc h3
    obtain ⟨m4, rfl, _⟩ := typ_int hd h4
    obtain ⟨m5, rfl, _⟩ := typ_int he h5
    exact ⟨⟨m1, m2, m3, m4, m5⟩, rfl⟩
  exact ⟨m, rfl⟩
end Bz.S
