/- DelegateMore. -/
import Derived.Test.YtmnnjkdfanghdaaDel4
set_option linter.unusedSimpArgs false
set_option linter.unusedVariables false
namespace Bz.S
open Go Bz
set_option maxRecDepth 10000
set_option maxHeartbeats 4000000

theorem kn_le {root : Txt} {l : List Gr} {at_ : Int} {F : Txt → Int} (hr : F root = 12) (lo : ∀ x, -1 ≤ F x) (hc : ∀ g ∈ l, byF F at_ g ≤ F g.t) : ∀ (n : Nat) (x : Txt), kn root l at_ n x ≤ F x
  | 0, x => by
    show f0 root x ≤ _
    unfold f0; split
    · rename_i e; rw [e, hr]; omega
    · exact lo x
  | n + 1, x => fold_le at_ _ _ l _ (fun g hg => by
    rcases byF_mono (kn_le hr lo hc n) at_ g with q | q
    · exact Int.le_trans q (hc g hg)
    · rw [q]; exact lo g.t) (kn_le hr lo hc n) x

theorem Found.le_of {root : Txt} {l m : List Gr} {at_ : Int} {K K2 : List Nk} (h : Found root l at_ K) (h2 : Found root m at_ K2) (hs : ∀ g ∈ l, g ∈ m ∨ liveG g at_ = false) (x : Txt) : ofK K x ≤ ofK K2 x := by
  rw [h.same]
  refine kn_le h2.good.root h2.good.lo (fun g hg => ?_) 12 x
  rcases hs g hg with q | q
  · exact h2.closed g q
  · have : byF (ofK K2) at_ g = -1 := by unfold byF; rw [q]; simp
    rw [this]; exact h2.good.lo g.t

theorem run_DelegateMore (root : Txt) (l m : List Gr) (w : Txt) (at_ : Int) (_hw : (Lit.int .i64 at_).wf = true) (hb0 : bulkL [.str root] + (bulkL [.vs false (l.map grC)] + (bulkL [.vs false (m.map grC)] + (bulkL [.str w] + bulkL [.int .i64 at_]))) ≤ 1048576) :
    R F_law35_DelegateMore [stA root, grS l, grS m, stA w, .d (.int .i64 at_)] [] = some (.d (.bool true), []) := by
  refine R_of at_law35_DelegateMore (by decide) ?_
  obtain ⟨h1, h2⟩ := few35_ok (l := l) (by omega)
  obtain ⟨h3, h4⟩ := few35_ok (l := m) (by omega)
  have hf := run_few35 l h1
  have hf2 := run_few35 m h3
  generalize l.take 24 = l' at *
  generalize m.take 24 = m' at *
  have hal : (l' ++ m').length ≤ 48 := by simp; omega
  obtain ⟨K, hK⟩ := found root l' at_ (by unfold BIG; omega)
  obtain ⟨KA, hA⟩ := found root (l' ++ m') at_ (by unfold BIG; omega)
  have hfl : (l'.filter fun g => liveG g at_).length ≤ l'.length := List.length_filter_le _ _
  obtain ⟨KL, hKL⟩ := found root (l'.filter fun g => liveG g at_) at_ (by unfold BIG; omega)
  obtain ⟨K0, hK0⟩ := found root [] at_ (by decide)
  have d1 := run_Depth hK w
  have d2 := run_Depth hA w
  have d3 := run_Depth hKL w
  have d4 := run_Depth hK0 root
  rw [hK0.good.root] at d4
  have hge : ofK K w ≤ ofK KA w := hK.le_of hA (fun g hg => .inl (by simp [hg])) w
  have heq : ofK KL w = ofK K w := by
    have a1 := hKL.le_of hK (fun g hg => .inl (List.mem_filter.1 hg).1) w
    have a2 := hK.le_of hKL (fun g hg => by
      cases hl : liveG g at_ with
      | true => exact .inl (List.mem_filter.2 ⟨hg, hl⟩)
      | false => exact .inr rfl) w
    omega
  rw [heq] at d3
  generalize ofK K w = v at *
  generalize ofK KA w = va at *
  have hL : ∀ (al : List Gr) s, trim mask_law35_DelegateMore_0 s = ⟨mkE 92 [(0, stA root), (1, grS l'), (3, stA w), (4, .d (.int .i64 at_)), (11, .os 10000110 al.length 0 al.length), (12, .os 10000120 0 0 0), (13, .d (.int .i64 0))], [(10000110, .arr 5 (al.map grC)), (10000120, .arr 5 [])]⟩ →
      exL X (.loop mask_law35_DelegateMore_0 body_law35_DelegateMore_0) s = some (.exit 0, ⟨mkE 92 [(0, stA root), (1, grS l'), (3, stA w), (4, .d (.int .i64 at_)), (11, .os 10000110 al.length 0 al.length), (12, .os 10000120 (l'.filter fun g => liveG g at_).length 0 (l'.filter fun g => liveG g at_).length)], [(10000110, .arr 5 (al.map grC)), (10000120, .arr 5 ((l'.filter fun g => liveG g at_).map grC))]⟩) := by
    intro al
    have hL := loop_fold (X := X) (mask := mask_law35_DelegateMore_0) (body := body_law35_DelegateMore_0) l'
      (fun i (out : List Gr) => ⟨mkE 92 [(0, stA root), (1, grS l'), (3, stA w), (4, .d (.int .i64 at_)), (11, .os 10000110 al.length 0 al.length), (12, .os 10000120 out.length 0 out.length), (13, .d (.int .i64 i))], [(10000110, .arr 5 (al.map grC)), (10000120, .arr 5 (out.map grC))]⟩)
      (fun i out => out.length ≤ i) (fun _ out g => if liveG g at_ = true then out ++ [g] else out)
      (fun out => (.exit 0, ⟨mkE 92 [(0, stA root), (1, grS l'), (3, stA w), (4, .d (.int .i64 at_)), (11, .os 10000110 al.length 0 al.length), (12, .os 10000120 out.length 0 out.length)], [(10000110, .arr 5 (al.map grC)), (10000120, .arr 5 (out.map grC))]⟩)) (by simp)
      (fun i out g hi hg hI => by
        have hw := wrap_ok (a := (i : Int) + 1) (by omega) (by omega)
        have g0 : out.length + 1 ≤ LIM := by unfold LIM; omega
        unfold liveG
        refine ⟨by split
                   · simp; omega
                   · omega, ?_⟩
        obtain ⟨f, t, d, a, u⟩ := g
        by_cases g1 : 0 ≤ d
        · by_cases g2 : a ≤ at_
          · by_cases g3 : at_ ≤ u
            · simp -implicitDefEqProofs [body_law35_DelegateMore_0, mask_law35_DelegateMore_0, hi, hg, hw, g0, g1, g2, g3]
            · simp -implicitDefEqProofs [body_law35_DelegateMore_0, mask_law35_DelegateMore_0, hi, hg, hw, g1, g2, g3]
          · simp -implicitDefEqProofs [body_law35_DelegateMore_0, mask_law35_DelegateMore_0, hi, hg, hw, g1, g2]
        · simp -implicitDefEqProofs [body_law35_DelegateMore_0, mask_law35_DelegateMore_0, hi, hg, hw, g1])
      (fun out _ => by simp -implicitDefEqProofs [body_law35_DelegateMore_0]) [] (Nat.le_refl _)
    have hfd : ∀ (l : List Gr) (i : Nat) (a : List Gr), foldI (fun _ out g => if liveG g at_ = true then out ++ [g] else out) l i a = a ++ l.filter fun g => liveG g at_ := by
      intro l
      induction l with
      | nil => intro i a; simp
      | cons x r ih =>
        intro i a
        rw [foldI_cons, ih]
        cases h : liveG x at_ <;> simp [h]
    rw [hfd] at hL
    exact hL
  have g5 : l'.length ≤ LIM := by unfold LIM; omega
  have g6 : m'.length ≤ LIM := by unfold LIM; omega
  have g7 : l'.length + m'.length ≤ LIM := by unfold LIM; omega
  have hmap : (l' ++ m').map grC = l'.map grC ++ m'.map grC := List.map_append ..
  have hlen : (l' ++ m').length = l'.length + m'.length := List.length_append ..
  have hLa := hL (l' ++ m')
  generalize (l'.filter fun g => liveG g at_) = lv at *
  generalize l' ++ m' = al at *
  clear hK hA hKL hK0 hL
  have s1 : sized 5 (l'.map grC) = true := sized_gr l'
  have s2 : sized 5 (m'.map grC) = true := sized_gr m'
  simp only [grS, List.map_nil] at d4
  by_cases hl0 : l' = []
  · have e1 : al.map grC = m'.map grC := by rw [hmap, hl0]; rfl
    have e2 : al.length = m'.length := by rw [hlen, hl0]; simp
    by_cases hm0 : m' = []
    · have e3 : al.map grC = [] := by rw [e1, hm0]; rfl
      have e4 : al.length = 0 := by rw [e2, hm0]; rfl
      simp only [e3, e4, grS] at hLa d2
      simp -implicitDefEqProofs [code_law35_DelegateMore, alive35, hf, hf2, eq_true hl0, eq_true hm0]
      rw [hLa _ (by simp -implicitDefEqProofs [mask_law35_DelegateMore_0])]
      simp -implicitDefEqProofs [d1, d2, d3, d4, hge]
    · simp only [e1, e2, grS] at hLa d2
      simp -implicitDefEqProofs [code_law35_DelegateMore, alive35, hf, hf2, eq_true hl0, hm0, g6]
      rw [hLa _ (by simp -implicitDefEqProofs [mask_law35_DelegateMore_0])]
      simp -implicitDefEqProofs [d1, d2, d3, d4, hge]
  · simp only [hmap, hlen, grS] at hLa d2
    simp -implicitDefEqProofs [code_law35_DelegateMore, alive35, hf, hf2, hl0, g5, g7]
    rw [hLa _ (by simp -implicitDefEqProofs [mask_law35_DelegateMore_0])]
    simp -implicitDefEqProofs [d1, d2, d3, d4, hge]
end Bz.S
