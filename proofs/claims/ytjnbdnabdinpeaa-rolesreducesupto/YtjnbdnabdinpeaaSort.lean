/- Texts sorted, each once: slices.Clone, Sort, Compact, Contains at texts. -/
import Derived.Test.YtjnbdnabdinpeaaVal
set_option linter.unusedSimpArgs false
set_option linter.unusedVariables false
namespace Bz.S
open Go Bz
set_option maxRecDepth 10000
set_option maxHeartbeats 4000000

/-! ### plainly -/
section
variable {α : Type} [DecidableEq α]

/-- of what stands side by side alike, one -/
def compL : List α → List α
  | [] => []
  | [x] => [x]
  | x :: y :: r => if x = y then compL (y :: r) else x :: compL (y :: r)

theorem compL_snoc : ∀ (p : List α) (y x : α), compL (p ++ [y, x]) = if y = x then compL (p ++ [y]) else compL (p ++ [y]) ++ [x]
  | [], y, x => by by_cases h : y = x <;> simp [compL, h]
  | [a], y, x => by
    by_cases h : y = x <;> by_cases h2 : a = y <;> simp [compL, h, h2] <;> (try subst h) <;> (try subst h2) <;> simp_all [compL]
  | a :: b :: q, y, x => by
    have ih := compL_snoc (b :: q) y x
    simp only [List.cons_append] at ih ⊢
    simp only [compL, ih]
    by_cases h : y = x <;> by_cases h2 : a = b <;> simp [h, h2]

theorem compL_len : ∀ l : List α, (compL l).length ≤ l.length
  | [] => Nat.le_refl _
  | [x] => Nat.le_refl _
  | x :: y :: r => by
    have := compL_len (y :: r)
    unfold compL
    split
    · simp at this ⊢; omega
    · simp at this ⊢; omega
theorem compL_mem : ∀ {l : List α} {a : α}, a ∈ compL l ↔ a ∈ l
  | [], a => by simp [compL]
  | [x], a => by simp [compL]
  | x :: y :: r, a => by
    have ih := compL_mem (l := y :: r) (a := a)
    unfold compL
    split
    · rename_i h; rw [ih, h]; simp
    · rw [List.mem_cons, List.mem_cons, ih]
theorem compL_id : ∀ {l : List α}, (∀ (j : Nat) (a b : α), l[j]? = some a → l[j + 1]? = some b → a ≠ b) → compL l = l
  | [], _ => rfl
  | [x], _ => rfl
  | x :: y :: r, h => by
    have h0 := h 0 x y rfl rfl
    have ih := compL_id (l := y :: r) fun j a b h1 h2 => h (j + 1) a b h1 h2
    unfold compL
    rw [if_neg h0, ih]

def compStep (l : List α) (k0 i : Nat) (a : Nat × List α) (x : α) : Nat × List α := if l[k0 + i]? = some x then a else (a.1 + 1, a.2.set a.1 x)
def compInv (l : List α) (k0 i : Nat) (a : Nat × List α) : Prop := a.2.length = l.length ∧ a.1 ≤ k0 + i ∧ a.2.drop (k0 + i) = l.drop (k0 + i) ∧ a.2.take a.1 = compL (l.take (k0 + i + 1))

theorem compInv_step {l : List α} {k0 i : Nat} {a : Nat × List α} {x : α} (hx : l[k0 + i + 1]? = some x) (h : compInv l k0 i a) : compInv l k0 (i + 1) (compStep l k0 i a x) := by
  obtain ⟨k, L⟩ := a
  obtain ⟨h1, h2, h3, h4⟩ := h
  simp only at h1 h2 h3 h4
  have hlt : k0 + i + 1 < l.length := (List.getElem?_eq_some_iff.1 hx).1
  have hy : l[k0 + i]? = some l[k0 + i] := List.getElem?_eq_getElem (by omega)
  have ht' : l.take (k0 + i + 1) = l.take (k0 + i) ++ [l[k0 + i]] := by rw [List.take_add_one, hy]; simp
  have ht : l.take (k0 + (i + 1) + 1) = l.take (k0 + i) ++ [l[k0 + i], x] := by
    have e : l.take (k0 + (i + 1) + 1) = l.take (k0 + i + 1) ++ [x] := by
      rw [show k0 + (i + 1) + 1 = k0 + i + 1 + 1 by omega, List.take_add_one, hx]; rfl
    rw [e, ht', List.append_assoc]; rfl
  have hd : L.drop (k0 + (i + 1)) = l.drop (k0 + (i + 1)) := by
    have := congrArg (List.drop 1) h3
    simpa [List.drop_drop, Nat.add_assoc] using this
  unfold compStep
  rw [hy]
  by_cases hp : l[k0 + i] = x
  · rw [if_pos (by rw [hp])]
    refine ⟨h1, by simp only; omega, hd, ?_⟩
    simp only
    rw [h4, ht, compL_snoc, if_pos hp, ht']
  · rw [if_neg (by simpa using hp)]
    refine ⟨by simpa using h1, by simp only; omega, ?_, ?_⟩
    · simp only
      rw [List.drop_set_of_lt (by omega)]
      exact hd
    · simp only
      rw [ht, compL_snoc, if_neg hp, ← ht', ← h4, List.take_add_one, List.take_set_of_le (Nat.le_refl _)]
      simp [show k < L.length by omega]

omit [DecidableEq α] in
theorem foldI_inv2 {σ : Type} (g : Nat → σ → α → σ) (I : Nat → σ → Prop) : ∀ (l : List α) (i : Nat) (a : σ), I i a → (∀ (k : Nat) (b : σ) (x : α), l[k]? = some x → I (i + k) b → I (i + k + 1) (g (i + k) b x)) → I (i + l.length) (foldI g l i a)
  | [], i, a, h, _ => h
  | x :: r, i, a, h, hs => by
    rw [foldI_cons, List.length_cons, show i + (r.length + 1) = i + 1 + r.length by omega]
    refine foldI_inv2 g I r (i + 1) _ (hs 0 a x rfl h) fun k b y hy hb => ?_
    have := hs (k + 1) b y (by simpa using hy) (by rw [show i + (k + 1) = i + 1 + k by omega]; exact hb)
    rw [show i + (k + 1) = i + 1 + k by omega] at this
    exact this

theorem comp_start {l : List α} {k0 : Nat} (h0 : 0 < k0) (hlt : k0 < l.length) (hhit : ∀ x, l[k0]? = some x → l[k0 - 1]? = some x) (hmiss : ∀ (j : Nat) (a b : α), j + 1 < k0 → l[j]? = some a → l[j + 1]? = some b → a ≠ b) :
    compInv l k0 0 (k0, l) := by
  refine ⟨rfl, Nat.le_refl _, rfl, ?_⟩
  simp only [Nat.add_zero]
  have hx : l[k0]? = some l[k0] := List.getElem?_eq_getElem hlt
  have hy := hhit _ hx
  have ht' : l.take k0 = l.take (k0 - 1) ++ [l[k0]] := by
    conv => lhs; rw [show k0 = k0 - 1 + 1 by omega]
    rw [List.take_add_one, hy]; rfl
  have ht : l.take (k0 + 1) = l.take (k0 - 1) ++ [l[k0], l[k0]] := by
    rw [List.take_add_one, hx, ht']; simp
  rw [ht, compL_snoc, if_pos rfl, ← ht']
  refine (compL_id fun j a b h1 h2 => ?_).symm
  have hj : j + 1 < k0 := by
    have := (List.getElem?_eq_some_iff.1 h2).1
    simp at this; omega
  exact hmiss j a b hj (by rw [List.getElem?_take_of_lt (by omega)] at h1; exact h1) (by rw [List.getElem?_take_of_lt (by omega)] at h2; exact h2)

/-- from the first pair alike on -/
theorem comp_end {l : List α} {k0 : Nat} (h0 : 0 < k0) (hlt : k0 < l.length) (hhit : ∀ x, l[k0]? = some x → l[k0 - 1]? = some x) (hmiss : ∀ (j : Nat) (a b : α), j + 1 < k0 → l[j]? = some a → l[j + 1]? = some b → a ≠ b) :
    compInv l k0 (l.length - k0 - 1) (foldI (compStep l k0) (l.drop (k0 + 1)) 0 (k0, l)) := by
  have := foldI_inv2 (compStep l k0) (compInv l k0) (l.drop (k0 + 1)) 0 (k0, l) (comp_start h0 hlt hhit hmiss) ?_
  · simpa [show l.length - (k0 + 1) = l.length - k0 - 1 by omega] using this
  · intro k b x hx hb
    simp only [Nat.zero_add] at hb ⊢
    exact compInv_step (by rw [List.getElem?_drop] at hx; rw [show k0 + k + 1 = k0 + 1 + k by omega]; exact hx) hb
end

/-- texts, each once, in order -/
def setT (l : List Txt) : List Txt := compL (sortTx l)

/-! ### the walks -/
theorem strsD_tx : ∀ l : List Txt, strsD (l.map stC) = some l
  | [] => rfl
  | s :: r => by simp [strsD, strD, stC, strsD_tx r]

theorem run_SortTx (l : List Txt) (hl : l.length ≤ LIM) : R F_slices_Sort_string_string [.os 0 l.length 0 l.length] [(0, .arr 1 (l.map stC))] = some (.tup [], [(0, .arr 1 ((sortTx l).map stC))]) := by
  refine R_ext (ext_slices_Sort_string_string ?_)
  unfold extSort
  rw [if_pos rfl]
  simp only [List.length_map, strsD_tx, hl, and_self, if_true, Option.map_some]
  rfl

/-- the row behind: kept ahead, then nothing -/
abbrev compR (l : List Txt) : List Txt := compL l ++ List.replicate (l.length - (compL l).length) []

theorem run_CompactTx (l : List Txt) (hl : l.length ≤ BIG) : R F_slices_Compact_string_string [.os 0 l.length 0 l.length] [(0, .arr 1 (l.map stC))] =
    some (.os 0 l.length 0 (compL l).length, [(0, .arr 1 ((compR l).map stC))]) := by
  unfold BIG at hl
  refine R_of at_slices_Compact_string_string (by decide) ?_
  by_cases h2 : l.length < 2
  · have hc : compL l = l := by
      match l, h2 with
      | [], _ => rfl
      | [x], _ => rfl
    have h3 : (l.length : Int) < 2 := by omega
    simp -implicitDefEqProofs [code_slices_Compact_string_string, h3, hc]
  have h3 : ¬ (l.length : Int) < 2 := by omega
  -- from the first pair alike on
  have inner : ∀ i, (hi : i + 1 < l.length) → l[i]? = l[i + 1]? → (∀ (j : Nat) (a b : Txt), j + 1 < i + 1 → l[j]? = some a → l[j + 1]? = some b → a ≠ b) →
      ∃ L : List Txt, compInv l (i + 1) (l.length - (i + 1) - 1) ((compL l).length, L) ∧
      ∀ s, trim mask_slices_Compact_string_string_0 s = ⟨mkE 61 [(0, .os 0 l.length 0 l.length), (3, .d (.int .i64 ((i : Int) + 1))), (4, .os 0 l.length (i + 1) (l.length - (i + 1))), (5, .d (.int .i64 1))], [(0, .arr 1 (l.map stC))]⟩ →
      exL X (.loop mask_slices_Compact_string_string_0 body_slices_Compact_string_string_0) s =
        some (.exit 2, ⟨mkE 61 [(0, .os 0 l.length 0 l.length), (3, .d (.int .i64 ((compL l).length : Int)))], [(0, .arr 1 (L.map stC))]⟩) := by
    intro i hi he hm
    have hL := loop_fold (X := X) (mask := mask_slices_Compact_string_string_0) (body := body_slices_Compact_string_string_0) (l.drop (i + 1 + 1))
      (fun j (a : Nat × List Txt) => ⟨mkE 61 [(0, .os 0 l.length 0 l.length), (3, .d (.int .i64 a.1)), (4, .os 0 l.length (i + 1) (l.length - (i + 1))), (5, .d (.int .i64 ((j : Int) + 1)))], [(0, .arr 1 (a.2.map stC))]⟩)
      (compInv l (i + 1)) (compStep l (i + 1))
      (fun a => (.exit 2, ⟨mkE 61 [(0, .os 0 l.length 0 l.length), (3, .d (.int .i64 a.1))], [(0, .arr 1 (a.2.map stC))]⟩)) (by simp)
      (fun j a x hj hx hI => by
        have hj' : i + 1 + j + 1 < l.length := by simp at hj; omega
        have hx' : l[i + 1 + j + 1]? = some x := by
          have : (l.drop (i + 1 + 1))[j]? = some x := by rw [List.getElem?_eq_getElem hj, hx]
          rw [List.getElem?_drop] at this
          rw [show i + 1 + j + 1 = i + 1 + 1 + j by omega]; exact this
        refine ⟨compInv_step hx' hI, ?_⟩
        obtain ⟨k, L⟩ := a
        obtain ⟨i1, i2, i3, i4⟩ := hI
        simp only at i1 i2 i3 i4
        have hLx : L[i + 1 + j + 1]? = some x := by
          have := congrArg (fun t => t[1]?) i3
          simp only [List.getElem?_drop] at this
          rw [this]; exact hx'
        have hLy : L[i + 1 + j]? = l[i + 1 + j]? := by
          have := congrArg (fun t => t[0]?) i3
          simpa only [List.getElem?_drop, Nat.add_zero] using this
        obtain ⟨y, hy⟩ : ∃ y, l[i + 1 + j]? = some y := ⟨_, List.getElem?_eq_getElem (by omega)⟩
        rw [hy] at hLy
        have hw := wrap_ok (a := (j : Int) + 1 + 1) (by omega) (by omega)
        have hw0 := wrap_ok (a := (j : Int)) (by omega) (by omega)
        have hw2 := wrap_ok (a := (k : Int) + 1) (by omega) (by omega)
        have p1 : (j : Int) + 1 < ((l.length - (i + 1) : Nat) : Int) := by omega
        have p0 : (j : Int) < ((l.length - (i + 1) : Nat) : Int) := by omega
        have p2 : (0 : Int) ≤ (j : Int) + 1 := by omega
        have p3 : k < L.length := by omega
        have p4 : (k : Int) < (l.length : Int) := by omega
        have e1 : i + 1 + (j + 1) = i + 1 + j + 1 := by omega
        have p5 : L[k]? = some L[k] := List.getElem?_eq_getElem p3
        have p6 : k < l.length := by omega
        by_cases hxy : y = x
        · have hc : compStep l (i + 1) j (k, L) x = (k, L) := by unfold compStep; rw [hy, hxy]; simp
          simp -implicitDefEqProofs [body_slices_Compact_string_string_0, mask_slices_Compact_string_string_0, i1, hLx, hLy, hw, hw0, p1, p0, p2, e1, hc, hxy]
        · have hc : compStep l (i + 1) j (k, L) x = (k + 1, L.set k x) := by unfold compStep; rw [hy]; simp [hxy]
          have hxy' : ¬ x = y := fun e => hxy e.symm
          simp -implicitDefEqProofs [body_slices_Compact_string_string_0, mask_slices_Compact_string_string_0, i1, hLx, hLy, hw, hw0, p1, p0, p2, e1, hc, hxy, hxy', hw2, p3, p4, p5, p6])
      (fun a hI => by
        obtain ⟨k, L⟩ := a
        have i1 := hI.1
        simp only at i1
        have e : ¬ ((l.length - (i + 1 + 1) : Nat) : Int) + 1 < ((l.length - (i + 1) : Nat) : Int) := by omega
        simp -implicitDefEqProofs [body_slices_Compact_string_string_0, e, i1])
      (i + 1, l)
    have hcut := comp_end (l := l) (k0 := i + 1) (by omega) hi (fun x hx => by rw [show i + 1 - 1 = i by omega, he]; exact hx) hm
    generalize hA : foldI (compStep l (i + 1)) (l.drop (i + 1 + 1)) 0 (i + 1, l) = A at hL hcut
    obtain ⟨k, L⟩ := A
    have hk : k = (compL l).length := by
      obtain ⟨c1, c2, c3, c4⟩ := hcut
      simp only at c1 c2 c3 c4
      rw [List.take_of_length_le (show l.length ≤ i + 1 + (l.length - (i + 1) - 1) + 1 by omega)] at c4
      rw [← c4]; simp; omega
    subst hk
    refine ⟨L, hcut, fun s hs => hL (comp_start (by omega) hi (fun x hx => by rw [show i + 1 - 1 = i by omega, he]; exact hx) hm) s (by simpa using hs)⟩
  obtain ⟨r, hQ, hL⟩ := loop_upto (X := X) (mask := mask_slices_Compact_string_string_1) (body := body_slices_Compact_string_string_1) (σ := Unit) (l.length - 1)
    (fun i _ => ⟨mkE 61 [(0, .os 0 l.length 0 l.length), (3, .d (.int .i64 ((i : Int) + 1)))], [(0, .arr 1 (l.map stC))]⟩)
    (fun i _ => ∀ (j : Nat) (a b : Txt), j + 1 < i + 1 → l[j]? = some a → l[j + 1]? = some b → a ≠ b)
    (fun r => (r = (.exit 0, ⟨mkE 61 [(0, .os 0 l.length 0 l.length)], [(0, .arr 1 (l.map stC))]⟩) ∧ compL l = l) ∨ r = (.ret, ⟨mkE 61 [(2, .os 0 l.length 0 (compL l).length)], [(0, .arr 1 ((compR l).map stC))]⟩))
    (fun i _ hi hI => by
      have hi' : i + 1 < l.length := by omega
      have p3 : i < l.length := by omega
      have h1 : l[i + 1]? = some l[i + 1] := List.getElem?_eq_getElem hi'
      have h0 : l[i]? = some l[i] := List.getElem?_eq_getElem p3
      have hw := wrap_ok (a := (i : Int) + 1 + 1) (by omega) (by omega)
      have hw2 := wrap_ok (a := (i : Int)) (by omega) (by omega)
      have p0 : (0 : Int) ≤ (i : Int) + 1 := by omega
      have p1 : (i : Int) + 1 < l.length := by omega
      have p2 : (i : Int) < l.length := by omega
      by_cases hne : l[i + 1] = l[i]
      · refine .inr ⟨_, ?_, ?_, .inr rfl⟩
        · obtain ⟨L, hcut, hin⟩ := inner i hi' (by rw [h0, h1, hne]) hI
          obtain ⟨c1, c2, c3, c4⟩ := hcut
          simp only at c1 c2 c3 c4
          rw [List.take_of_length_le (show l.length ≤ i + 1 + (l.length - (i + 1) - 1) + 1 by omega)] at c4
          have p4 := compL_len l
          have p5 : ((compL l).length : Int) ≤ (l.length : Int) := by omega
          have p6 : (i : Int) + 1 ≤ l.length := by omega
          simp -implicitDefEqProofs [body_slices_Compact_string_string_1, h1, h0, hne, hw2, hi', p0, p1, p2, p3, p6]
          rw [hin _ (by simp [mask_slices_Compact_string_string_0])]
          simp -implicitDefEqProofs [c1, p4, p5]
          rw [← List.map_take, c4, List.drop_eq_nil_of_le (by simp; omega), List.append_nil]
        · simp
      · refine .inl ⟨(), ?_, ?_⟩
        · intro j a b hj ha hb
          by_cases hji : j = i
          · subst hji
            rw [h0] at ha; rw [h1] at hb; cases ha; cases hb
            exact fun h => hne h.symm
          · exact hI j a b (by omega) ha hb
        · simp -implicitDefEqProofs [body_slices_Compact_string_string_1, mask_slices_Compact_string_string_1, h1, h0, hne, hw, hw2, hi', p0, p1, p2, p3])
    (fun _ hI => by
      have p1 : ¬ ((l.length - 1 : Nat) : Int) + 1 < l.length := by omega
      refine ⟨(.exit 0, ⟨mkE 61 [(0, .os 0 l.length 0 l.length)], [(0, .arr 1 (l.map stC))]⟩), ?_, by simp, .inl ⟨rfl, compL_id fun j a b h1 h2 => ?_⟩⟩
      · simp -implicitDefEqProofs [body_slices_Compact_string_string_1, p1]
      · have := (List.getElem?_eq_some_iff.1 h2).1
        exact hI j a b (by omega) h1 h2)
    () (fun j a b hj => by omega)
  simp -implicitDefEqProofs [code_slices_Compact_string_string, h3]
  rw [hL _ (by simp [mask_slices_Compact_string_string_1])]
  rcases hQ with ⟨rfl, hc⟩ | rfl
  · simp -implicitDefEqProofs [hc]
  · simp -implicitDefEqProofs
end Bz.S
