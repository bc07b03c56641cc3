/- Who lets whom: how far, walked. -/
import Derived.Test.YtmnnjkdfanghdaaSet
import Derived.Test.YtmnnjkdfanghdaaPlV
import Derived.KernelRfl
set_option linter.unusedSimpArgs false
set_option linter.unusedVariables false
namespace Bz.S
open Go Bz
set_option maxRecDepth 10000
set_option maxHeartbeats 4000000

structure Nk where
  n : Txt
  k : Int
def nkA (p : Nk) : AV × AV := (.d (.str p.n), .d (.int .i64 p.k))
abbrev mH (K : List Nk) : Heap := [(0, .mp false [.str] (K.map nkA))]
structure Gr where
  f : Txt
  t : Txt
  d : Int
  a : Int
  u : Int
def grC (g : Gr) : List D := [.str g.f, .str g.t, .int .i64 g.d, .int .i64 g.a, .int .i64 g.u]
@[simp] theorem grC_eq (g : Gr) : grC g = [.str g.f, .str g.t, .int .i64 g.d, .int .i64 g.a, .int .i64 g.u] := rfl
@[simp] theorem sized_gr (l : List Gr) : sized 5 (l.map grC) = true := sized_map 5 grC (fun _ => rfl) l
abbrev grA (g : Gr) : AV := .agg [.d (.str g.f), .d (.str g.t), .d (.int .i64 g.d), .d (.int .i64 g.a), .d (.int .i64 g.u)]
abbrev grS (l : List Gr) : AV := .d (.vs false (l.map grC))

/-! ### plainly -/
def ofK (K : List Nk) (w : Txt) : Int := ((K.find? fun p => w = p.n).map (·.k)).getD (-1)
def setK (n : Txt) (k : Int) : List Nk → List Nk
  | [] => [⟨n, k⟩]
  | p :: r => if n = p.n then ⟨p.n, k⟩ :: r else p :: setK n k r
def liveG (g : Gr) (at_ : Int) : Bool := decide (0 ≤ g.d) && decide (g.a ≤ at_) && decide (at_ ≤ g.u)
def byF (f : Txt → Int) (at_ : Int) (g : Gr) : Int := if liveG g at_ = true ∧ 1 ≤ f g.f then min g.d (f g.f - 1) else -1

theorem findE_nk (n : Txt) : ∀ K : List Nk, findE (.d (.str n)) (K.map nkA) = some ((K.find? fun d => n = d.n).map fun d => .d (.int .i64 d.k))
  | [] => rfl
  | d :: r => by
    simp only [List.map_cons, findE, nkA, avEq, scalEq]
    by_cases h : n = d.n
    · simp [h]
    · have : (n == d.n) = false := by simpa using h
      simp only [this, findE_nk n r, List.find?_cons]
      simp [h]
theorem setE_nk (n : Txt) (k : Int) : ∀ K : List Nk, setE (.d (.str n)) (.d (.int .i64 k)) (K.map nkA) = (setK n k K).map nkA
  | [] => rfl
  | d :: r => by
    by_cases hn : n = d.n
    · have hb : (n == d.n) = true := by simpa using hn
      simp only [List.map_cons, setE, nkA, avEq, scalEq, hb, setK, if_pos hn, if_true]
    · have hb : (n == d.n) = false := by simpa using hn
      simp only [List.map_cons, setE, nkA, avEq, scalEq, hb, setK, if_neg hn]
      rw [if_neg (by simp), setE_nk n k r]
theorem ofK_set (n : Txt) (k : Int) (w : Txt) : ∀ K : List Nk, ofK (setK n k K) w = if w = n then k else ofK K w
  | [] => by
    unfold ofK setK
    by_cases h : w = n <;> simp [h]
  | d :: r => by
    have ih := ofK_set n k w r
    unfold ofK at ih ⊢
    simp only [setK]
    by_cases hn : n = d.n
    · rw [if_pos hn]
      subst hn
      by_cases hw : w = d.n <;> simp [hw]
    · rw [if_neg hn]
      by_cases hw : w = d.n
      · have : ¬ w = n := fun e => hn (e.symm.trans hw)
        subst hw
        simp [this]
      · simp only [List.find?_cons, hw, decide_false]
        exact ih
theorem setK_names {n : Txt} {k : Int} : ∀ {K : List Nk} {x : Txt}, x ∈ (setK n k K).map (·.n) ↔ x = n ∨ x ∈ K.map (·.n)
  | [], x => by simp [setK]
  | d :: r, x => by
    simp only [setK]
    by_cases hn : n = d.n
    · rw [if_pos hn]; subst hn; simp
    · rw [if_neg hn]
      simp only [List.map_cons, List.mem_cons, setK_names (K := r)]
      constructor
      · rintro (h | h | h)
        · exact .inr (.inl h)
        · exact .inl h
        · exact .inr (.inr h)
      · rintro (h | h | h)
        · exact .inr (.inl h)
        · exact .inl h
        · exact .inr (.inr h)
theorem setK_nodup {n : Txt} {k : Int} : ∀ {K : List Nk}, (K.map (·.n)).Nodup → ((setK n k K).map (·.n)).Nodup
  | [], _ => by simp [setK]
  | d :: r, h => by
    have h' := List.nodup_cons.1 h
    simp only [setK]
    by_cases hn : n = d.n
    · rw [if_pos hn]; exact h
    · rw [if_neg hn]
      refine List.nodup_cons.2 ⟨fun hm => ?_, setK_nodup h'.2⟩
      rcases setK_names.1 hm with e | hm
      · exact hn e.symm
      · exact h'.1 hm
theorem setK_len {n : Txt} {k : Int} : ∀ {K : List Nk}, (setK n k K).length ≤ K.length + 1
  | [] => by simp [setK]
  | d :: r => by
    simp only [setK]
    split
    · simp
    · have := setK_len (n := n) (k := k) (K := r); simp; omega

/-! ### walked -/
theorem r1_of (K : List Nk) (w : Txt) : R1 F_delegate_reach_of [.map 0, stA w] (mH K) = some (.d (.int .i64 (ofK K w)), mH K) := by
  refine R1_of at_delegate_reach_of (by decide) ?_
  have hf := findE_nk w K
  unfold ofK
  cases hF : (K.find? fun d => w = d.n) with
  | none => rw [hF] at hf; simp -implicitDefEqProofs [code_delegate_reach_of, hf]
  | some q => rw [hF] at hf; simp -implicitDefEqProofs [code_delegate_reach_of, hf]
theorem r1_live (g : Gr) (at_ : Int) : R1 F_delegate_Grant_live [grA g, .d (.int .i64 at_)] [] = some (.d (.bool (liveG g at_)), []) := by
  refine R1_of at_delegate_Grant_live (by decide) ?_
  unfold liveG
  by_cases h1 : 0 ≤ g.d
  · by_cases h2 : g.a ≤ at_
    · simp -implicitDefEqProofs [code_delegate_Grant_live, h1, h2]
    · simp -implicitDefEqProofs [code_delegate_Grant_live, h1, h2]
  · simp -implicitDefEqProofs [code_delegate_Grant_live, h1]
theorem r1_by (K : List Nk) (g : Gr) (at_ : Int) (hK : ∀ x, -1 ≤ ofK K x ∧ ofK K x ≤ 12) : R1 F_delegate_reach_by [.map 0, grA g, .d (.int .i64 at_)] (mH K) = some (.d (.int .i64 (byF (ofK K) at_ g)), mH K) := by
  refine R1_of at_delegate_reach_by (by decide) ?_
  have h1 := r1_of K g.f
  have h2 := r1_live g at_
  have h3 := hK g.f
  unfold byF
  generalize ofK K g.f = v at *
  have hw := wrap_ok (a := v - 1) (by omega) (by omega)
  cases hl : liveG g at_ with
  | false => rw [hl] at h2; simp -implicitDefEqProofs [code_delegate_reach_by, h1, h2]
  | true =>
    rw [hl] at h2
    by_cases hv : v < 1
    · have hv' : ¬ 1 ≤ v := by omega
      simp -implicitDefEqProofs [code_delegate_reach_by, h1, h2, hv, hv']
    · have hv' : 1 ≤ v := by omega
      have hm : min g.d (v - 1) = if v - 1 < g.d then v - 1 else g.d := by grind
      simp -implicitDefEqProofs [code_delegate_reach_by, h1, h2, hv, hv', hw, hm]

/-! ### the search for how far all may -/
structure Good0 (rt : Txt) (l : List Gr) (at_ : Int) (K : List Nk) : Prop where
  nodup : (K.map (·.n)).Nodup
  root : ofK K rt = 12
  lo : ∀ x, -1 ≤ ofK K x
  hi : ∀ x, x ≠ rt → ofK K x ≤ 11
  just : ∀ x, x ≠ rt → 0 ≤ ofK K x → ∃ g ∈ l, g.t = x ∧ ofK K x ≤ byF (ofK K) at_ g
  pos : ∀ p ∈ K, 0 ≤ p.k
  mem : ∀ x, x ∈ K.map (·.n) → x = rt ∨ ∃ g ∈ l, g.t = x

theorem Good0.hi' {root : Txt} {l : List Gr} {at_ : Int} {K : List Nk} (h : Good0 root l at_ K) (x : Txt) : ofK K x ≤ 12 := by
  by_cases e : x = root
  · subst e; rw [h.root]; omega
  · have := h.hi x e; omega
theorem byF_mono {f f' : Txt → Int} (h : ∀ x, f x ≤ f' x) (at_ : Int) (g : Gr) : byF f at_ g ≤ byF f' at_ g ∨ byF f at_ g = -1 := by
  unfold byF
  have := h g.f
  by_cases h1 : liveG g at_ = true ∧ 1 ≤ f g.f
  · rw [if_pos h1, if_pos ⟨h1.1, by omega⟩]; left; grind
  · rw [if_neg h1]; right; rfl
theorem byF_lo {f : Txt → Int} {at_ : Int} {g : Gr} : -1 ≤ byF f at_ g := by
  unfold byF
  split
  · rename_i h
    have := h.1
    simp only [liveG, Bool.and_eq_true, decide_eq_true_eq] at this
    grind
  · omega
theorem byF_hi {f : Txt → Int} {at_ : Int} {g : Gr} (h : f g.f ≤ 12) : byF f at_ g ≤ 11 := by
  unfold byF; split
  · grind
  · omega
theorem byF_lt {f : Txt → Int} {at_ : Int} {g : Gr} (h : 0 ≤ byF f at_ g) : byF f at_ g < f g.f ∧ 1 ≤ f g.f := by
  unfold byF at h ⊢
  split
  · rename_i h1; exact ⟨by grind, h1.2⟩
  · rename_i h1; rw [if_neg h1] at h; omega

theorem good0_start (root : Txt) (l : List Gr) (at_ : Int) : Good0 root l at_ [⟨root, 12⟩] := by
  have ho : ∀ x, ofK [⟨root, 12⟩] x = if x = root then 12 else -1 := fun x => by
    unfold ofK
    by_cases h : x = root <;> simp [h]
  refine ⟨by simp, by rw [ho]; simp, fun x => by rw [ho]; split <;> omega, fun x hx => by rw [ho, if_neg hx]; omega, fun x hx h => by rw [ho, if_neg hx] at h; omega, fun p hp => by simp at hp; subst hp; simp, fun x hx => by simp at hx; exact .inl hx⟩

theorem good0_step {root : Txt} {l : List Gr} {at_ : Int} {K : List Nk} (h : Good0 root l at_ K) {g : Gr} (hg : g ∈ l) (hlt : ofK K g.t < byF (ofK K) at_ g) : Good0 root l at_ (setK g.t (byF (ofK K) at_ g) K) ∧ ∀ x, ofK K x ≤ ofK (setK g.t (byF (ofK K) at_ g) K) x := by
  have hge : ∀ x, ofK K x ≤ ofK (setK g.t (byF (ofK K) at_ g) K) x := fun x => by
    rw [ofK_set]; split
    · rename_i e; subst e; omega
    · omega
  have h11 : byF (ofK K) at_ g ≤ 11 := byF_hi (h.hi' g.f)
  have hne : g.t ≠ root := fun e => by rw [e, h.root] at hlt; omega
  have h0 : 0 ≤ byF (ofK K) at_ g := by have := h.lo g.t; omega
  have hm := byF_mono hge at_
  refine ⟨⟨setK_nodup h.nodup, ?_, fun x => Int.le_trans (h.lo x) (hge x), fun x hx => ?_, fun x hx hx0 => ?_, fun p hp => ?_, fun x hx => ?_⟩, hge⟩
  · rw [ofK_set, if_neg (fun e => hne e.symm)]; exact h.root
  · rw [ofK_set]; split
    · exact h11
    · exact h.hi x hx
  · rw [ofK_set] at hx0 ⊢
    split at hx0
    · rename_i e
      subst e
      refine ⟨g, hg, rfl, ?_⟩
      rw [if_pos rfl]
      rcases hm g with q | q
      · exact q
      · omega
    · rename_i e
      rw [if_neg e]
      obtain ⟨g', h1, h2, h3⟩ := h.just x hx hx0
      refine ⟨g', h1, h2, ?_⟩
      rcases hm g' with q | q
      · omega
      · omega
  · have key : ∀ (v : Int) (K : List Nk), 0 ≤ v → (∀ p ∈ K, 0 ≤ p.k) → ∀ p ∈ setK g.t v K, 0 ≤ p.k := by
      intro v K hv
      induction K with
      | nil => intro _ p hp; simp [setK] at hp; subst hp; exact hv
      | cons d r ih =>
        intro hK p hp
        simp only [setK] at hp
        split at hp
        · rcases List.mem_cons.1 hp with rfl | hp
          · exact hv
          · exact hK p (by simp [hp])
        · rcases List.mem_cons.1 hp with rfl | hp
          · exact hK _ (by simp)
          · exact ih (fun p hp => hK p (by simp [hp])) p hp
    exact key _ K h0 h.pos p hp
  · rcases setK_names.1 hx with rfl | hx
    · exact .inr ⟨g, hg, rfl⟩
    · exact h.mem x hx

def meas (root : Txt) (l : List Gr) (K : List Nk) : Nat := ((root :: l.map (·.t)).map fun x => (12 - ofK K x).toNat).sum
theorem meas_lt {root : Txt} {l : List Gr} {K K' : List Nk} {g : Gr} (hg : g ∈ l) (hge : ∀ x, ofK K x ≤ ofK K' x) (hlt : ofK K g.t < ofK K' g.t) (h12 : ofK K' g.t ≤ 12) : meas root l K' < meas root l K := by
  have key : ∀ (xs : List Txt), g.t ∈ xs → (xs.map fun x => (12 - ofK K' x).toNat).sum < (xs.map fun x => (12 - ofK K x).toNat).sum := by
    intro xs
    have le : ∀ xs : List Txt, (xs.map fun x => (12 - ofK K' x).toNat).sum ≤ (xs.map fun x => (12 - ofK K x).toNat).sum := by
      intro xs
      induction xs with
      | nil => simp
      | cons x r ih => have := hge x; simp; omega
    induction xs with
    | nil => intro h; cases h
    | cons x r ih =>
      intro h
      simp only [List.map_cons, List.sum_cons]
      rcases List.mem_cons.1 h with rfl | h
      · have := le r; omega
      · have := ih h; have := hge x; omega
  exact key _ (by simp; exact .inr ⟨g, hg, rfl⟩)

def Closed (l : List Gr) (at_ : Int) (K : List Nk) : Prop := ∀ g ∈ l, byF (ofK K) at_ g ≤ ofK K g.t

theorem r1_find (root : Txt) (l : List Gr) (at_ : Int) (hl : l.length ≤ BIG) : ∃ K, Good0 root l at_ K ∧ Closed l at_ K ∧ R1 F_delegate_find [stA root, grS l, .d (.int .i64 at_)] [] = some (.map 0, mH K) := by
  unfold BIG at hl
  obtain ⟨r, ⟨K, hK, hcl, rfl⟩, hL⟩ := scope_meas (X := X1) (l := 0) (m := mask_delegate_find_1) (body := body_delegate_find_1)
    (fun K : List Nk => ⟨mkE 36 [(1, grS l), (2, .d (.int .i64 at_)), (7, .map 20000)], [(20000, .mp false [.str] (K.map nkA))]⟩)
    (Good0 root l at_) (meas root l) (fun r => ∃ K, Good0 root l at_ K ∧ Closed l at_ K ∧ r = (.ret, ⟨mkE 36 [(6, .map 20000)], [(20000, .mp false [.str] (K.map nkA))]⟩))
    (fun K hK => by
      have hb : ∀ x, -1 ≤ ofK K x ∧ ofK K x ≤ 12 := fun x => ⟨hK.lo x, hK.hi' x⟩
      have hF := loop_find (X := X1) (mask := mask_delegate_find_0) (body := body_delegate_find_0) l
        (fun i => ⟨mkE 36 [(1, grS l), (2, .d (.int .i64 at_)), (7, .map 20000), (14, grS l), (15, .d (.int .i64 l.length)), (16, .d (.int .i64 i))], [(20000, .mp false [.str] (K.map nkA))]⟩)
        (fun _ g => decide (ofK K g.t < byF (ofK K) at_ g)) (.exit 0, ⟨mkE 36 [(7, .map 20000)], [(20000, .mp false [.str] (K.map nkA))]⟩)
        (fun _ g => (.goto 0, ⟨mkE 36 [(1, grS l), (2, .d (.int .i64 at_)), (7, .map 20000)], [(20000, .mp false [.str] ((setK g.t (byF (ofK K) at_ g) K).map nkA))]⟩)) (by simp) (by simp)
        (fun i g hi hg hq => by
          have hw := wrap_ok (a := (i : Int) + 1) (by omega) (by omega)
          have h1 := r1_by K g at_ hb
          have h2 := r1_of K g.t
          have hq' : ¬ ofK K g.t < byF (ofK K) at_ g := by simpa using hq
          generalize byF (ofK K) at_ g = v at *
          generalize ofK K g.t = u at *
          obtain ⟨f, t, d, a, u'⟩ := g
          simp -implicitDefEqProofs [body_delegate_find_0, mask_delegate_find_0, hi, hg, hw, h1, h2, hq'])
        (fun i g hi hg hq => by
          have h1 := r1_by K g at_ hb
          have h2 := r1_of K g.t
          have hq' : ofK K g.t < byF (ofK K) at_ g := by simpa using hq
          have h3 := setE_nk g.t (byF (ofK K) at_ g) K
          have h4 := findE_nk g.t K
          generalize byF (ofK K) at_ g = v at *
          generalize ofK K g.t = u at *
          obtain ⟨f, t, d, a, u'⟩ := g
          simp -implicitDefEqProofs [body_delegate_find_0, mask_delegate_find_0, hi, hg, h1, h2, hq', h3, h4])
        (by simp -implicitDefEqProofs [body_delegate_find_0])
      cases hf : findI (fun _ g => decide (ofK K g.t < byF (ofK K) at_ g)) l 0 with
      | none =>
        rw [hf] at hF
        refine .inr ⟨_, ?_, by simp, K, hK, fun g hg => ?_, rfl⟩
        · simp -implicitDefEqProofs [body_delegate_find_1]
          rw [hF _ (by simp -implicitDefEqProofs [mask_delegate_find_0])]
          simp -implicitDefEqProofs
        · obtain ⟨i, hi, rfl⟩ := List.getElem_of_mem hg
          have := (findI_none _ l 0).1 hf i l[i] (List.getElem?_eq_getElem hi)
          simp at this; exact this
      | some q =>
        rw [hf] at hF
        obtain ⟨i, h1, h2, h3, _⟩ := findI_some _ l 0 q hf
        have hg : q.2 ∈ l := List.mem_of_getElem? h2
        have h3' : ofK K q.2.t < byF (ofK K) at_ q.2 := by simpa using h3
        obtain ⟨hG, hge⟩ := good0_step hK hg h3'
        refine .inl ⟨_, hG, meas_lt hg hge (by rw [ofK_set, if_pos rfl]; exact h3') (hG.hi' _), ?_⟩
        simp -implicitDefEqProofs [body_delegate_find_1]
        rw [hF _ (by simp -implicitDefEqProofs [mask_delegate_find_0])]
        exact ⟨_, _, rfl, rfl, by simp -implicitDefEqProofs [mask_delegate_find_1]⟩)
    [⟨root, 12⟩] (good0_start root l at_)
  refine ⟨K, hK, hcl, R1_of at_delegate_find (by decide) ?_⟩
  simp -implicitDefEqProofs [code_delegate_find]
  rw [hL _ (by simp -implicitDefEqProofs [mask_delegate_find_1, nkA])]
  simp -implicitDefEqProofs
end Bz.S
