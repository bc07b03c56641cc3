/- Who lets whom: the program's depths are the page's. -/
import Derived.Test.YtmnnjkdfanghdaaDel2
set_option linter.unusedSimpArgs false
set_option linter.unusedVariables false
namespace Bz.S
open Go Bz
set_option maxRecDepth 10000
set_option maxHeartbeats 4000000

/-! ### plainly -/
theorem stepR_ge (at_ : Int) (f h : Txt → Int) (g : Gr) (x : Txt) : h x ≤ stepR at_ f h g x := by unfold stepR; split <;> omega
theorem fold_ge (at_ : Int) (f : Txt → Int) : ∀ (l : List Gr) (h : Txt → Int) (x : Txt), h x ≤ l.foldl (stepR at_ f) h x
  | [], _, _ => Int.le_refl _
  | g :: r, h, x => Int.le_trans (stepR_ge at_ f h g x) (fold_ge at_ f r _ x)
theorem fold_by (at_ : Int) (f : Txt → Int) : ∀ (l : List Gr) (h : Txt → Int) (g : Gr), g ∈ l → byF f at_ g ≤ l.foldl (stepR at_ f) h g.t
  | a :: r, h, g, hg => by
    rcases List.mem_cons.1 hg with rfl | hg
    · refine Int.le_trans ?_ (fold_ge at_ f r _ g.t)
      unfold stepR; rw [if_pos rfl]; omega
    · exact fold_by at_ f r _ g hg
theorem fold_le (at_ : Int) (f F : Txt → Int) : ∀ (l : List Gr) (h : Txt → Int), (∀ g ∈ l, byF f at_ g ≤ F g.t) → (∀ x, h x ≤ F x) → ∀ x, l.foldl (stepR at_ f) h x ≤ F x
  | [], _, _, hh, x => hh x
  | g :: r, h, hl, hh, x => fold_le at_ f F r _ (fun g hg => hl g (by simp [hg])) (fun x => by
    unfold stepR
    have h1 := hh x
    have h2 := hl g (by simp)
    split
    · rename_i e; subst e; omega
    · exact h1) x
theorem kn_mono1 (root : Txt) (l : List Gr) (at_ : Int) (n : Nat) (x : Txt) : kn root l at_ n x ≤ kn root l at_ (n + 1) x := fold_ge _ _ _ _ _
theorem kn_mono (root : Txt) (l : List Gr) (at_ : Int) {n m : Nat} (h : n ≤ m) (x : Txt) : kn root l at_ n x ≤ kn root l at_ m x := by
  induction h with
  | refl => exact Int.le_refl _
  | step _ ih => exact Int.le_trans ih (kn_mono1 ..)

theorem Found.by_le {root : Txt} {l : List Gr} {at_ : Int} {K : List Nk} (h : Found root l at_ K) {f : Txt → Int} (hf : ∀ x, f x ≤ ofK K x) {g : Gr} (hg : g ∈ l) : byF f at_ g ≤ ofK K g.t := by
  rcases byF_mono hf at_ g with q | q
  · exact Int.le_trans q (h.closed g hg)
  · rw [q]; exact h.good.lo g.t
theorem Found.ge {root : Txt} {l : List Gr} {at_ : Int} {K : List Nk} (h : Found root l at_ K) : ∀ (n : Nat) (x : Txt), kn root l at_ n x ≤ ofK K x
  | 0, x => by
    show f0 root x ≤ _
    unfold f0; split
    · rename_i e; rw [e, h.good.root]; omega
    · exact h.good.lo x
  | n + 1, x => fold_le at_ _ _ l _ (fun g hg => h.by_le (h.ge n) hg) (h.ge n) x
theorem Found.le {root : Txt} {l : List Gr} {at_ : Int} {K : List Nk} (h : Found root l at_ K) : ∀ (d : Nat) (x : Txt), ofK K x = 12 - (d : Int) → 0 ≤ ofK K x → ofK K x ≤ kn root l at_ d x := by
  intro d
  induction d using Nat.strongRecOn with
  | _ d ih =>
    intro x hx h0
    by_cases hr : x = root
    · subst hr
      have h1 := kn_mono x l at_ (Nat.zero_le d) x
      have h2 : kn x l at_ 0 x = 12 := by show f0 x x = 12; simp [f0]
      rw [h.good.root]; omega
    · obtain ⟨g, hg, rfl, hle⟩ := h.good.just x hr h0
      obtain ⟨h1, h2⟩ := byF_lt (f := ofK K) (at_ := at_) (g := g) (by omega)
      have h3 := h.good.hi' g.f
      obtain ⟨d', hd'⟩ : ∃ d' : Nat, ofK K g.f = 12 - (d' : Int) := ⟨(12 - ofK K g.f).toNat, by omega⟩
      have hlt : d' < d := by omega
      have h4 := ih d' hlt g.f hd' (by omega)
      have h5 := kn_mono root l at_ (show d' ≤ d - 1 by omega) g.f
      have h6 : byF (ofK K) at_ g ≤ byF (kn root l at_ (d - 1)) at_ g := by
        unfold byF at hle ⊢
        split
        · rename_i hc
          rw [if_pos ⟨hc.1, by omega⟩]
          grind
        · omega
      have h7 : byF (kn root l at_ (d - 1)) at_ g ≤ kn root l at_ (d - 1 + 1) g.t := fold_by at_ _ l _ g hg
      rw [show d - 1 + 1 = d by omega] at h7
      omega
/-- the program's depths are the page's -/
theorem Found.same {root : Txt} {l : List Gr} {at_ : Int} {K : List Nk} (h : Found root l at_ K) : ofK K = kn root l at_ 12 := by
  funext x
  have h1 := h.ge 12 x
  by_cases h0 : 0 ≤ ofK K x
  · have h3 := h.good.hi' x
    obtain ⟨d, hd⟩ : ∃ d : Nat, ofK K x = 12 - (d : Int) := ⟨(12 - ofK K x).toNat, by omega⟩
    have h4 := h.le d x hd h0
    have h5 := kn_mono root l at_ (show d ≤ 12 by omega) x
    omega
  · have h2 := h.good.lo x
    have h3 := (kn_B12 root l at_ 12 x).1
    omega

theorem ofK_mem {K : List Nk} (hn : (K.map (·.n)).Nodup) (hp : ∀ p ∈ K, 0 ≤ p.k) (x : Txt) : x ∈ K.map (·.n) ↔ 0 ≤ ofK K x := by
  unfold ofK
  cases hF : K.find? fun p => x = p.n with
  | none =>
    rw [List.find?_eq_none] at hF
    simp only [Option.map_none, Option.getD_none]
    constructor
    · intro h
      obtain ⟨p, h1, h2⟩ := List.mem_map.1 h
      have := hF p h1
      simp [h2] at this
    · intro h; omega
  | some p =>
    have h1 := List.mem_of_find?_eq_some hF
    have h2 := List.find?_some hF
    simp only [Option.map_some, Option.getD_some]
    refine ⟨fun _ => hp p h1, fun _ => List.mem_map.2 ⟨p, h1, by simpa using (of_decide_eq_true h2).symm⟩⟩

/-- who has the right, in order -/
theorem Found.all {root : Txt} {l : List Gr} {at_ : Int} {K : List Nk} (h : Found root l at_ K) : sortTx (K.map (·.n)) = setT ((nm root l).filter fun x => decide (0 ≤ kn root l at_ 12 x)) := by
  have hm : ∀ x, x ∈ K.map (·.n) ↔ x ∈ (nm root l).filter fun x => decide (0 ≤ kn root l at_ 12 x) := by
    intro x
    rw [ofK_mem h.good.nodup h.good.pos, h.same]
    simp only [List.mem_filter, decide_eq_true_eq]
    constructor
    · intro h0
      refine ⟨?_, h0⟩
      by_cases hx : x ∈ nm root l
      · exact hx
      · have := kn_off root l at_ 12 x hx; omega
    · exact fun h => h.2
  rw [← setT_ext hm]
  unfold setT
  symm
  refine compL_id fun j a b h1 h2 he => ?_
  subst he
  have hn2 : (sortTx (K.map (·.n))).Nodup := (isort_perm _).nodup_iff.2 h.good.nodup
  obtain ⟨i1, g1⟩ := List.getElem?_eq_some_iff.1 h1
  obtain ⟨i2, g2⟩ := List.getElem?_eq_some_iff.1 h2
  exact List.pairwise_iff_getElem.1 hn2 j (j + 1) i1 i2 (by omega) (g1.trans g2.symm)

/-! ### walked -/
def aliveL : List Gr := [⟨[114], [97], 1, 0, 9⟩, ⟨[97], [98], 5, 0, 9⟩, ⟨[98], [99], 0, 0, 9⟩]
theorem alive_all : R F_delegate_All [stA [114], grS aliveL, .d (.int .i64 5)] [] = some (txS [[97], [98], [114]], []) := by
  obtain ⟨K, hK⟩ := found [114] aliveL 5 (by decide)
  rw [run_All hK (by decide), hK.all]
  have : setT ((nm [114] aliveL).filter fun x => decide (0 ≤ kn [114] aliveL 5 12 x)) = [[97], [98], [114]] := by decide
  rw [this]
theorem alive_chain : R F_delegate_Chain [stA [114], grS aliveL, stA [98], .d (.int .i64 5)] [] = some (.tup [txS [[114], [97], [98]], .d (.bool true)], []) := RUN_run own retOwn ext code (k := 60) (by kernel_rfl)
theorem alive_d : R F_delegate_Depth [stA [114], grS aliveL, stA [98], .d (.int .i64 5)] [] = some (.d (.int .i64 0), []) := RUN_run own retOwn ext code (k := 60) (by kernel_rfl)
theorem alive_h1 : R F_delegate_Holds [stA [114], grS aliveL, stA [99], .d (.int .i64 5)] [] = some (.d (.bool false), []) := RUN_run own retOwn ext code (k := 60) (by kernel_rfl)
theorem alive_h2 : R F_delegate_Holds [stA [114], grS aliveL, stA [97], .d (.int .i64 10)] [] = some (.d (.bool false), []) := RUN_run own retOwn ext code (k := 60) (by kernel_rfl)
theorem alive35 : R F_law35_alive [] [] = some (.d (.bool true), []) := by
  refine R_of at_law35_alive (by decide) ?_
  have h1 := alive_all
  have h2 := alive_chain
  have h3 := alive_d
  have h4 := alive_h1
  have h5 := alive_h2
  have h6 := run_plTexts [[114], [97], [98]] [[114], [97], [98]] (by decide) (by decide)
  simp only [aliveL, grS, txS, List.map_cons, List.map_nil, grC_eq, stC_eq, decide_true] at h1 h2 h3 h4 h5 h6
  simp -implicitDefEqProofs [code_law35_alive, h1, h2, h3, h4, h5, h6]
end Bz.S
