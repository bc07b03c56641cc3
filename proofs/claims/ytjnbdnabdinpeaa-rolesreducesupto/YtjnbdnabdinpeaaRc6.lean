/- Roles: pairs cloned, left out, sorted, each once. -/
import Derived.Test.YtjnbdnabdinpeaaRc5
import Derived.Test.YtjnbdnabdinpeaaCmp0
set_option linter.unusedSimpArgs false
set_option linter.unusedVariables false
namespace Bz.S
open Go Bz
set_option maxRecDepth 10000
set_option maxHeartbeats 4000000

theorem aeqagg_pr (n : Bool) (x y : Pr) : aeqagg [.str, .str] n (.agg [.d (.str x.low), .d (.str x.high)]) (.agg [.d (.str y.low), .d (.str y.high)]) = some (.d (.bool (if n = true then !decide (x = y) else decide (x = y)))) := by
  obtain ⟨a, b⟩ := x
  obtain ⟨c, d⟩ := y
  have q1 : (a == c) = decide (a = c) := by rw [Bool.eq_iff_iff]; simp
  have q2 : (b == d) = decide (b = d) := by rw [Bool.eq_iff_iff]; simp
  by_cases h1 : a = c <;> by_cases h2 : b = d <;> cases n <;> simp [q1, q2, h1, h2, boolV]

theorem run_ClonePr (l : List Pr) (hl : l.length ≤ LIM) : R F_slices_Clone_roles_Pair_roles_Pair [prS l] [] = some (.os 0 l.length 0 l.length, [(0, .arr 2 (l.map prC))]) := by
  refine R_of at_slices_Clone_roles_Pair_roles_Pair (by decide) ?_
  cases l with
  | nil => simp -implicitDefEqProofs [code_slices_Clone_roles_Pair_roles_Pair]
  | cons v r =>
    simp at hl
    simp -implicitDefEqProofs [code_slices_Clone_roles_Pair_roles_Pair, hl, prS, show (prC v).length = 2 from rfl]

theorem run_IndexPr2 (l z m : List Pr) (hl : l.length ≤ BIG) (f : Nat) (hf : own f = false) (p : Pr → Bool) (hp : ∀ e ∈ l, R f [prA e, .pv 0 0] [(0, .var [prS m])] = some (.d (.bool (p e)), [(0, .var [prS m])])) :
    R F_slices_IndexFunc_roles_Pair_roles_Pair [.os 0 (l.length + z.length) 0 l.length, .fn f [.pv 1 0]] [(0, .arr 2 (l.map prC ++ z.map prC)), (1, .var [prS m])] = some (.d (.int .i64 (idxK p l)), [(0, .arr 2 (l.map prC ++ z.map prC)), (1, .var [prS m])]) := by
  refine R_of at_slices_IndexFunc_roles_Pair_roles_Pair (by decide) ?_
  unfold BIG at hl
  have hL := loop_find (X := X) (mask := mask_slices_IndexFunc_roles_Pair_roles_Pair_0) (body := body_slices_IndexFunc_roles_Pair_roles_Pair_0) l
    (fun i => ⟨mkE 19 [(0, .os 0 (l.length + z.length) 0 l.length), (1, .fn f [.pv 1 0]), (7, .d (.int .i64 l.length)), (8, .d (.int .i64 i))], [(0, .arr 2 (l.map prC ++ z.map prC)), (1, .var [prS m])]⟩)
    (fun _ => p) (.exit 0, ⟨mkE 19 [], [(0, .arr 2 (l.map prC ++ z.map prC)), (1, .var [prS m])]⟩) (fun i _ => (.ret, ⟨mkE 19 [(4, .d (.int .i64 i))], [(0, .arr 2 (l.map prC ++ z.map prC)), (1, .var [prS m])]⟩)) (by simp) (by simp)
    (fun i e hi he hq => by
      have hw := wrap_ok (a := (i : Int) + 1) (by omega) (by omega)
      have hc := hp e (he ▸ List.getElem_mem hi)
      have ha : (l.map prC ++ z.map prC)[i]? = some (prC e) := by rw [List.getElem?_append_left (by simpa using hi)]; simp [hi, he]
      simp -implicitDefEqProofs [body_slices_IndexFunc_roles_Pair_roles_Pair_0, mask_slices_IndexFunc_roles_Pair_roles_Pair_0, hi, he, ha, prC_eq, hc, hf, hq, hw])
    (fun i e hi he hq => by
      have hc := hp e (he ▸ List.getElem_mem hi)
      have ha : (l.map prC ++ z.map prC)[i]? = some (prC e) := by rw [List.getElem?_append_left (by simpa using hi)]; simp [hi, he]
      simp -implicitDefEqProofs [body_slices_IndexFunc_roles_Pair_roles_Pair_0, hi, he, ha, prC_eq, hc, hf, hq]) (by simp -implicitDefEqProofs [body_slices_IndexFunc_roles_Pair_roles_Pair_0])
  simp -implicitDefEqProofs [code_slices_IndexFunc_roles_Pair_roles_Pair]
  rw [hL _ (by simp [mask_slices_IndexFunc_roles_Pair_roles_Pair_0])]
  unfold idxK
  cases findI (fun _ => p) l 0 <;> simp -implicitDefEqProofs

/-- the row behind: what is left, then nothing -/
abbrev delP (l : List Pr) (p : Pr → Bool) : List Pr := (l.filter fun v => !p v) ++ List.replicate (l.length - (l.filter fun v => !p v).length) ⟨[], []⟩

theorem run_DeletePr (l z m : List Pr) (hl : l.length ≤ BIG) (f : Nat) (hf : own f = false) (p : Pr → Bool) (hp : ∀ e ∈ l, R f [prA e, .pv 0 0] [(0, .var [prS m])] = some (.d (.bool (p e)), [(0, .var [prS m])])) :
    R F_slices_DeleteFunc_roles_Pair_roles_Pair [.os 0 (l.length + z.length) 0 l.length, .fn f [.pv 1 0]] [(0, .arr 2 (l.map prC ++ z.map prC)), (1, .var [prS m])] =
      some (.os 0 (l.length + z.length) 0 (l.filter fun v => !p v).length, [(0, .arr 2 ((delP l p).map prC ++ z.map prC)), (1, .var [prS m])]) := by
  have hI := run_IndexPr2 l z m hl f hf p hp
  unfold BIG at hl
  unfold idxK at hI
  cases hF : findI (fun _ => p) l 0 with
  | none =>
    rw [hF] at hI
    have hall : (l.filter fun v => !p v) = l := by
      rw [List.filter_eq_self]
      intro v hv
      obtain ⟨k, hk, e⟩ := List.getElem_of_mem hv
      have := (findI_none _ _ _).1 hF k v (by rw [List.getElem?_eq_getElem hk, e])
      simp [this]
    refine R_of at_slices_DeleteFunc_roles_Pair_roles_Pair (by decide) ?_
    rw [hall]
    simp -implicitDefEqProofs [code_slices_DeleteFunc_roles_Pair_roles_Pair, hI, delP, hall]
  | some q =>
    rw [hF] at hI
    obtain ⟨k, h1, h2, h3, h4⟩ := findI_some _ _ _ _ hF
    rw [Nat.zero_add] at h1
    obtain ⟨hk, hkx⟩ := List.getElem?_eq_some_iff.1 h2
    simp only [h1] at hI
    have h00 : delI p l (k + 1 + 0) (k, l) := by
      refine ⟨rfl, by simp only; omega, rfl, ?_⟩
      simp only
      rw [Nat.add_zero, List.take_succ_eq_append_getElem hk, hkx, List.filter_append]
      have : (l.take k).filter (fun v => !p v) = l.take k := by
        rw [List.filter_eq_self]
        intro v hv
        obtain ⟨j, hj, e⟩ := List.getElem_of_mem hv
        have hj' : j < k := by simp at hj; omega
        have := h4 j v hj' (by rw [← e]; simp)
        simp [this]
      rw [this]
      simp [h3]
    have hL := loop_fold (X := X) (mask := mask_slices_DeleteFunc_roles_Pair_roles_Pair_0) (body := body_slices_DeleteFunc_roles_Pair_roles_Pair_0) (l.drop (k + 1))
      (fun j (a : Nat × List Pr) => ⟨mkE 42 [(0, .os 0 (l.length + z.length) 0 l.length), (1, .fn f [.pv 1 0]), (5, .d (.int .i64 a.1)), (6, .d (.int .i64 ((k + 1 + j : Nat) : Int)))], [(0, .arr 2 (a.2.map prC ++ z.map prC)), (1, .var [prS m])]⟩)
      (fun j a => delI p l (k + 1 + j) a) (fun _ a x => delS p a x)
      (fun a => (.exit 0, ⟨mkE 42 [(0, .os 0 (l.length + z.length) 0 l.length), (5, .d (.int .i64 a.1))], [(0, .arr 2 (a.2.map prC ++ z.map prC)), (1, .var [prS m])]⟩)) (by simp)
      (fun j a x hj hx hI => by
        have hj' : k + 1 + j < l.length := by simp at hj; omega
        have hx' : l[k + 1 + j] = x := by rw [← hx]; simp [List.getElem_drop]
        refine ⟨delI_step hj' hx' hI, ?_⟩
        obtain ⟨i, L⟩ := a
        obtain ⟨i1, i2, i3, i4⟩ := hI
        simp only at i1 i2 i3 i4
        have hm : (k + 1 + j) < L.length := by omega
        have hLx : L[k + 1 + j] = x := by
          have := congrArg (fun t => t[0]?) i3
          simp [List.getElem?_drop, List.getElem?_eq_getElem hm, List.getElem?_eq_getElem hj', hx'] at this
          exact this
        have ha : (L.map prC ++ z.map prC)[k + 1 + j]? = some (prC x) := by rw [List.getElem?_append_left (by simpa using hm)]; simp [hm, hLx]
        have hc := hp x (hx' ▸ List.getElem_mem hj')
        obtain ⟨n, hm0⟩ : ∃ n, k + 1 + j = n := ⟨_, rfl⟩
        simp only [hm0] at hj' hx' hm hLx ha i2 i3 i4 ⊢
        have hw := wrap_ok (a := (n : Int) + 1) (by omega) (by omega)
        have hw2 := wrap_ok (a := (i : Int) + 1) (by omega) (by omega)
        have hi : i < L.length := by omega
        have hiz : i < L.length + z.length := by omega
        have hset : (L.map prC ++ z.map prC).set i (prC x) = (L.map prC).set i (prC x) ++ z.map prC := List.set_append_left _ _ (by simpa using hi)
        have hgi : (L.map prC ++ z.map prC)[i]? = some (prC L[i]) := by rw [List.getElem?_append_left (by simpa using hi)]; simp [hi]
        have hs : ((k : Int) + 1 + ((j : Int) + 1)) = (n : Int) + 1 := by omega
        by_cases hpx : p x = true
        · simp -implicitDefEqProofs [body_slices_DeleteFunc_roles_Pair_roles_Pair_0, mask_slices_DeleteFunc_roles_Pair_roles_Pair_0, ← i1, hm, hLx, ha, prC_eq, hc, hf, hw, hpx, delS, hs]
        · have hpx' : p x = false := by simpa using hpx
          simp -implicitDefEqProofs [body_slices_DeleteFunc_roles_Pair_roles_Pair_0, mask_slices_DeleteFunc_roles_Pair_roles_Pair_0, ← i1, hm, hLx, ha, prC_eq, hc, hf, hw, hpx', delS, hs, hi, hw2, hiz, hset, hgi]) (fun a hI => by
            obtain ⟨i, L⟩ := a
            obtain ⟨i1, i2, i3, i4⟩ := hI
            simp only at i1 i2 i3 i4
            have e : k + 1 + (l.drop (k + 1)).length = l.length := by simp; omega
            rw [e] at i2
            rw [e]
            simp -implicitDefEqProofs [body_slices_DeleteFunc_roles_Pair_roles_Pair_0, i1]) (k, l) h00
    have hJ := foldI_inv2 (fun _ a x => delS p a x) (fun j a => delI p l (k + 1 + j) a) (l.drop (k + 1)) 0 (k, l) h00 (fun j a x hx hI => by
      rw [Nat.zero_add] at hI ⊢
      obtain ⟨g1, g2⟩ := List.getElem?_eq_some_iff.1 hx
      simp at g1
      have hlt : k + 1 + j < l.length := by omega
      exact delI_step hlt (by rw [← g2]; simp [List.getElem_drop]) hI)
    generalize foldI (fun _ a x => delS p a x) (l.drop (k + 1)) 0 (k, l) = A at hL hJ
    obtain ⟨i, L⟩ := A
    obtain ⟨i1, i2, i3, i4⟩ := hJ
    have e : k + 1 + (0 + (l.drop (k + 1)).length) = l.length := by simp; omega
    rw [e] at i2 i3 i4
    rw [List.take_of_length_le (Nat.le_refl _)] at i4
    simp only at i1 i2 i3 i4
    have hf1 : (l.filter fun v => !p v).length = i := by rw [← i4]; simp; omega
    refine R_of at_slices_DeleteFunc_roles_Pair_roles_Pair (by decide) ?_
    unfold delP
    rw [hf1, ← i4]
    have hw0 := wrap_ok (a := (k : Int) + 1) (by omega) (by omega)
    have g1 : ¬ (k : Int) = -1 := by omega
    simp -implicitDefEqProofs [code_slices_DeleteFunc_roles_Pair_roles_Pair, hI, hw0, g1]
    rw [hL _ (by simp -implicitDefEqProofs [mask_slices_DeleteFunc_roles_Pair_roles_Pair_0])]
    have q1 : i ≤ l.length := by omega
    have q2 : i ≤ l.length + z.length := by omega
    have q3 : l.length ≤ l.length + z.length := by omega
    have t1 : (L.map prC ++ z.map prC).take i = (L.take i).map prC := by rw [List.take_append_of_le_length (by simp; omega), List.map_take]
    have t2 : (L.map prC ++ z.map prC).drop l.length = z.map prC := by rw [← i1, List.drop_append_of_le_length (by simp)]; simp
    have q4 : i + (l.length - i + z.length) = l.length + z.length := by omega
    simp -implicitDefEqProofs [q1, q3, q4, i1, t1, t2, prC_eq]
/-- the row behind: kept ahead, then nothing -/
abbrev compP (l : List Pr) : List Pr := compL l ++ List.replicate (l.length - (compL l).length) ⟨[], []⟩

theorem run_CompactPr (l z : List Pr) (hl : l.length + z.length ≤ BIG) : R F_slices_Compact_roles_Pair_roles_Pair [.os 0 (l.length + z.length) 0 l.length] [(0, .arr 2 (l.map prC ++ z.map prC))] =
    some (.os 0 (l.length + z.length) 0 (compL l).length, [(0, .arr 2 ((compP l).map prC ++ z.map prC))]) := by
  unfold BIG at hl
  refine R_of at_slices_Compact_roles_Pair_roles_Pair (by decide) ?_
  by_cases h2 : l.length < 2
  · have hc : compL l = l := by
      match l, h2 with
      | [], _ => rfl
      | [x], _ => rfl
    have h3 : (l.length : Int) < 2 := by omega
    simp -implicitDefEqProofs [code_slices_Compact_roles_Pair_roles_Pair, h3, hc]
  have h3 : ¬ (l.length : Int) < 2 := by omega
  -- from the first pair alike on
  have inner : ∀ i, (hi : i + 1 < l.length) → l[i]? = l[i + 1]? → (∀ (j : Nat) (a b : Pr), j + 1 < i + 1 → l[j]? = some a → l[j + 1]? = some b → a ≠ b) →
      ∃ L : List Pr, compInv l (i + 1) (l.length - (i + 1) - 1) ((compL l).length, L) ∧
      ∀ s, trim mask_slices_Compact_roles_Pair_roles_Pair_0 s = ⟨mkE 61 [(0, .os 0 (l.length + z.length) 0 l.length), (3, .d (.int .i64 ((i : Int) + 1))), (4, .os 0 (l.length + z.length) (i + 1) (l.length - (i + 1))), (5, .d (.int .i64 1))], [(0, .arr 2 (l.map prC ++ z.map prC))]⟩ →
      exL X (.loop mask_slices_Compact_roles_Pair_roles_Pair_0 body_slices_Compact_roles_Pair_roles_Pair_0) s =
        some (.exit 2, ⟨mkE 61 [(0, .os 0 (l.length + z.length) 0 l.length), (3, .d (.int .i64 ((compL l).length : Int)))], [(0, .arr 2 (L.map prC ++ z.map prC))]⟩) := by
    intro i hi he hm
    have hL := loop_fold (X := X) (mask := mask_slices_Compact_roles_Pair_roles_Pair_0) (body := body_slices_Compact_roles_Pair_roles_Pair_0) (l.drop (i + 1 + 1))
      (fun j (a : Nat × List Pr) => ⟨mkE 61 [(0, .os 0 (l.length + z.length) 0 l.length), (3, .d (.int .i64 a.1)), (4, .os 0 (l.length + z.length) (i + 1) (l.length - (i + 1))), (5, .d (.int .i64 ((j : Int) + 1)))], [(0, .arr 2 (a.2.map prC ++ z.map prC))]⟩)
      (compInv l (i + 1)) (compStep l (i + 1))
      (fun a => (.exit 2, ⟨mkE 61 [(0, .os 0 (l.length + z.length) 0 l.length), (3, .d (.int .i64 a.1))], [(0, .arr 2 (a.2.map prC ++ z.map prC))]⟩)) (by simp)
      (fun j a x hj hx hI => by
        have hj' : i + 1 + j + 1 < l.length := by simp at hj; omega
        have hx' : l[i + 1 + j + 1]? = some x := by
          have : (l.drop (i + 1 + 1))[j]? = some x := by rw [List.getElem?_eq_getElem hj, hx]
          rw [List.getElem?_drop] at this
          rw [show i + 1 + j + 1 = i + 1 + 1 + j by omega]; exact this
        refine ⟨compInv_step hx' hI, ?_⟩
        obtain ⟨k, L⟩ := a
        obtain ⟨i1, i2, i3, i4⟩ := hI
        simp only at i1 i2 i3 i4
        have hLx : L[i + 1 + j + 1]? = some x := by
          have := congrArg (fun t => t[1]?) i3
          simp only [List.getElem?_drop] at this
          rw [this]; exact hx'
        have hLy : L[i + 1 + j]? = l[i + 1 + j]? := by
          have := congrArg (fun t => t[0]?) i3
          simpa only [List.getElem?_drop, Nat.add_zero] using this
        obtain ⟨y, hy⟩ : ∃ y, l[i + 1 + j]? = some y := ⟨_, List.getElem?_eq_getElem (by omega)⟩
        rw [hy] at hLy
        have gLx : (L.map prC ++ z.map prC)[i + 1 + j + 1]? = some (prC x) := by rw [List.getElem?_append_left (by simp; omega), List.getElem?_map, hLx]; rfl
        have gLy : (L.map prC ++ z.map prC)[i + 1 + j]? = some (prC y) := by rw [List.getElem?_append_left (by simp; omega), List.getElem?_map, hLy]; rfl
        have hw := wrap_ok (a := (j : Int) + 1 + 1) (by omega) (by omega)
        have hw0 := wrap_ok (a := (j : Int)) (by omega) (by omega)
        have hw2 := wrap_ok (a := (k : Int) + 1) (by omega) (by omega)
        have p1 : (j : Int) + 1 < ((l.length - (i + 1) : Nat) : Int) := by omega
        have p0 : (j : Int) < ((l.length - (i + 1) : Nat) : Int) := by omega
        have p2 : (0 : Int) ≤ (j : Int) + 1 := by omega
        have p3 : k < L.length := by omega
        have p4 : (k : Int) < (l.length : Int) := by omega
        have e1 : i + 1 + (j + 1) = i + 1 + j + 1 := by omega
        have p5 : (L.map prC ++ z.map prC)[k]? = some (prC L[k]) := by rw [List.getElem?_append_left (by simpa using p3), List.getElem?_map, List.getElem?_eq_getElem p3]; rfl
        have p6 : k < l.length := by omega
        have p7 : k < l.length + z.length := by omega
        have hset : (L.map prC ++ z.map prC).set k (prC x) = (L.map prC).set k (prC x) ++ z.map prC := List.set_append_left _ _ (by simpa using p3)
        by_cases hxy : y = x
        · have hc : compStep l (i + 1) j (k, L) x = (k, L) := by unfold compStep; rw [hy, hxy]; simp
          simp -implicitDefEqProofs [body_slices_Compact_roles_Pair_roles_Pair_0, mask_slices_Compact_roles_Pair_roles_Pair_0, i1, gLx, gLy, prC_eq, -aeqagg, aeqagg_pr, hw, hw0, p1, p0, p2, e1, hc, hxy]
        · have hc : compStep l (i + 1) j (k, L) x = (k + 1, L.set k x) := by unfold compStep; rw [hy]; simp [hxy]
          have hxy' : ¬ x = y := fun e => hxy e.symm
          simp -implicitDefEqProofs [body_slices_Compact_roles_Pair_roles_Pair_0, mask_slices_Compact_roles_Pair_roles_Pair_0, i1, gLx, gLy, prC_eq, -aeqagg, aeqagg_pr, hw, hw0, p1, p0, p2, e1, hc, hxy, hxy', hw2, p3, p4, p5, p6, p7, hset])
      (fun a hI => by
        obtain ⟨k, L⟩ := a
        have i1 := hI.1
        simp only at i1
        have e : ¬ ((l.length - (i + 1 + 1) : Nat) : Int) + 1 < ((l.length - (i + 1) : Nat) : Int) := by omega
        simp -implicitDefEqProofs [body_slices_Compact_roles_Pair_roles_Pair_0, e, i1])
      (i + 1, l)
    have hcut := comp_end (l := l) (k0 := i + 1) (by omega) hi (fun x hx => by rw [show i + 1 - 1 = i by omega, he]; exact hx) hm
    generalize hA : foldI (compStep l (i + 1)) (l.drop (i + 1 + 1)) 0 (i + 1, l) = A at hL hcut
    obtain ⟨k, L⟩ := A
    have hk : k = (compL l).length := by
      obtain ⟨c1, c2, c3, c4⟩ := hcut
      simp only at c1 c2 c3 c4
      rw [List.take_of_length_le (show l.length ≤ i + 1 + (l.length - (i + 1) - 1) + 1 by omega)] at c4
      rw [← c4]; simp; omega
    subst hk
    refine ⟨L, hcut, fun s hs => hL (comp_start (by omega) hi (fun x hx => by rw [show i + 1 - 1 = i by omega, he]; exact hx) hm) s (by simpa using hs)⟩
  obtain ⟨r, hQ, hL⟩ := loop_upto (X := X) (mask := mask_slices_Compact_roles_Pair_roles_Pair_1) (body := body_slices_Compact_roles_Pair_roles_Pair_1) (σ := Unit) (l.length - 1)
    (fun i _ => ⟨mkE 61 [(0, .os 0 (l.length + z.length) 0 l.length), (3, .d (.int .i64 ((i : Int) + 1)))], [(0, .arr 2 (l.map prC ++ z.map prC))]⟩)
    (fun i _ => ∀ (j : Nat) (a b : Pr), j + 1 < i + 1 → l[j]? = some a → l[j + 1]? = some b → a ≠ b)
    (fun r => (r = (.exit 0, ⟨mkE 61 [(0, .os 0 (l.length + z.length) 0 l.length)], [(0, .arr 2 (l.map prC ++ z.map prC))]⟩) ∧ compL l = l) ∨ r = (.ret, ⟨mkE 61 [(2, .os 0 (l.length + z.length) 0 (compL l).length)], [(0, .arr 2 ((compP l).map prC ++ z.map prC))]⟩))
    (fun i _ hi hI => by
      have hi' : i + 1 < l.length := by omega
      have p3 : i < l.length := by omega
      have h1 : l[i + 1]? = some l[i + 1] := List.getElem?_eq_getElem hi'
      have h0 : l[i]? = some l[i] := List.getElem?_eq_getElem p3
      have g1 : (l.map prC ++ z.map prC)[i + 1]? = some (prC l[i + 1]) := by rw [List.getElem?_append_left (by simpa using hi'), List.getElem?_map, h1]; rfl
      have g0 : (l.map prC ++ z.map prC)[i]? = some (prC l[i]) := by rw [List.getElem?_append_left (by simpa using p3), List.getElem?_map, h0]; rfl
      have hw := wrap_ok (a := (i : Int) + 1 + 1) (by omega) (by omega)
      have hw2 := wrap_ok (a := (i : Int)) (by omega) (by omega)
      have p0 : (0 : Int) ≤ (i : Int) + 1 := by omega
      have p1 : (i : Int) + 1 < l.length := by omega
      have p2 : (i : Int) < l.length := by omega
      by_cases hne : l[i + 1] = l[i]
      · refine .inr ⟨_, ?_, ?_, .inr rfl⟩
        · obtain ⟨L, hcut, hin⟩ := inner i hi' (by rw [h0, h1, hne]) hI
          obtain ⟨c1, c2, c3, c4⟩ := hcut
          simp only at c1 c2 c3 c4
          rw [List.take_of_length_le (show l.length ≤ i + 1 + (l.length - (i + 1) - 1) + 1 by omega)] at c4
          have p4 := compL_len l
          have p5 : ((compL l).length : Int) ≤ (l.length : Int) := by omega
          have p6 : (i : Int) + 1 ≤ l.length := by omega
          simp -implicitDefEqProofs [body_slices_Compact_roles_Pair_roles_Pair_1, g1, g0, prC_eq, -aeqagg, aeqagg_pr, hne, hw2, hi', p0, p1, p2, p3, p6]
          rw [hin _ (by simp [mask_slices_Compact_roles_Pair_roles_Pair_0])]
          have t1 : (L.map prC ++ z.map prC).take (compL l).length = (compL l).map prC := by rw [List.take_append_of_le_length (by simp; omega), ← List.map_take, c4]
          have t2 : (L.map prC ++ z.map prC).drop l.length = z.map prC := by rw [← c1, List.drop_append_of_le_length (by simp)]; simp
          have t3 : (compL l).length + (l.length - (compL l).length) = l.length := by omega
          have t4 : (compL l).length + (l.length - (compL l).length + z.length) = l.length + z.length := by omega
          simp -implicitDefEqProofs [c1, p4, p5, t1, t2, t3, t4, prC_eq]
        · simp
      · refine .inl ⟨(), ?_, ?_⟩
        · intro j a b hj ha hb
          by_cases hji : j = i
          · subst hji
            rw [h0] at ha; rw [h1] at hb; cases ha; cases hb
            exact fun h => hne h.symm
          · exact hI j a b (by omega) ha hb
        · simp -implicitDefEqProofs [body_slices_Compact_roles_Pair_roles_Pair_1, mask_slices_Compact_roles_Pair_roles_Pair_1, g1, g0, prC_eq, -aeqagg, aeqagg_pr, hne, hw, hw2, hi', p0, p1, p2, p3])
    (fun _ hI => by
      have p1 : ¬ ((l.length - 1 : Nat) : Int) + 1 < l.length := by omega
      refine ⟨(.exit 0, ⟨mkE 61 [(0, .os 0 (l.length + z.length) 0 l.length)], [(0, .arr 2 (l.map prC ++ z.map prC))]⟩), ?_, by simp, .inl ⟨rfl, compL_id fun j a b h1 h2 => ?_⟩⟩
      · simp -implicitDefEqProofs [body_slices_Compact_roles_Pair_roles_Pair_1, p1]
      · have := (List.getElem?_eq_some_iff.1 h2).1
        exact hI j a b (by omega) h1 h2)
    () (fun j a b hj => by omega)
  simp -implicitDefEqProofs [code_slices_Compact_roles_Pair_roles_Pair, h3]
  rw [hL _ (by simp [mask_slices_Compact_roles_Pair_roles_Pair_1])]
  rcases hQ with ⟨rfl, hc⟩ | rfl
  · simp -implicitDefEqProofs [hc]
  · simp -implicitDefEqProofs

/-! ### sorted -/
abbrev ppr (p : Pr) : Txt × Txt := (p.low, p.high)
abbrev rpp (q : Txt × Txt) : Pr := ⟨q.1, q.2⟩
def ltP (p q : Pr) : Bool := Go.Proofs.ltOf cfTT (ppr p) (ppr q)
def sortPr (l : List Pr) : List Pr := (isort (Go.Proofs.ltOf cfTT) (l.map ppr)).map rpp
theorem decs_pr : ∀ l : List Pr, decsF decTT (l.map prC) = some (l.map ppr)
  | [] => rfl
  | p :: r => by
    have ih := decs_pr r
    simp only [List.map_cons, decsF, ih]
    rfl
theorem sortPr_perm (l : List Pr) : (sortPr l).Perm l := by
  unfold sortPr
  have := (isort_perm (lt := Go.Proofs.ltOf cfTT) (l.map ppr)).map rpp
  rw [List.map_map] at this
  have e : (rpp ∘ ppr) = id := by funext p; rfl
  rw [e, List.map_id] at this
  exact this
theorem sortPr_up (l : List Pr) : (sortPr l).Pairwise fun p q => ltP q p = false := by
  unfold sortPr
  rw [List.pairwise_map]
  exact isort_up totTT _
theorem run_SortPr (l z : List Pr) (hl : l.length + z.length ≤ LIM) : R F_slices_SortFunc_roles_Pair_roles_Pair [.os 0 (l.length + z.length) 0 l.length, .fn F_roles_Reduce_2 []] [(0, .arr 2 (l.map prC ++ z.map prC))] = some (.tup [], [(0, .arr 2 ((sortPr l).map prC ++ z.map prC))]) := by
  refine R_ext (ext_slices_SortFunc_roles_Pair_roles_Pair ?_)
  unfold extSortF
  rw [if_pos rfl]
  have h1 : (l.map prC ++ z.map prC).take l.length = l.map prC := by rw [List.take_append_of_le_length (by simp)]; simp
  have h2 : (l.map prC ++ z.map prC).drop l.length = z.map prC := by rw [List.drop_append_of_le_length (by simp)]; simp
  have h3 : (isort (Go.Proofs.ltOf cfTT) (l.map ppr)).map encTT = (sortPr l).map prC := by
    unfold sortPr; rw [List.map_map]; rfl
  simp only [h1, h2, decs_pr, Option.map_some, h3]
  simp [hl]

/-! ### long ones -/
def longQ (l : List Pr) (p : Pr) (r : Txt) : Bool := !decide (r = p.high) && decide (p.high ∈ rcL l r)
def longB (l : List Pr) (p : Pr) : Bool := (upsP l p.low).any (longQ l p)
theorem run_long1 (l : List Pr) (p : Pr) (r : Txt) (hl : l.length ≤ 1048576) : R F_roles_long_1 [stA r, .pv 0 0, .pv 1 0] [(0, .var [.d (.str p.low), .d (.str p.high)]), (1, .var [prS l])] =
    some (.d (.bool (longQ l p r)), [(0, .var [.d (.str p.low), .d (.str p.high)]), (1, .var [prS l])]) := by
  refine R_of at_roles_long_1 (by decide) ?_
  have h := run_RHas l r p.high hl
  unfold longQ
  by_cases h1 : r = p.high
  · subst h1
    simp -implicitDefEqProofs [code_roles_long_1]
  · simp -implicitDefEqProofs [code_roles_long_1, h1, h]
theorem run_IndexTxL (us : List Txt) (l : List Pr) (p : Pr) (hu : us.length ≤ BIG) (hl : l.length ≤ 1048576) :
    R F_slices_IndexFunc_string_string [txS us, .fn F_roles_long_1 [.pv 0 0, .pv 1 0]] [(0, .var [.d (.str p.low), .d (.str p.high)]), (1, .var [prS l])] = some (.d (.int .i64 (idxK (longQ l p) us)), [(0, .var [.d (.str p.low), .d (.str p.high)]), (1, .var [prS l])]) := by
  refine R_of at_slices_IndexFunc_string_string (by decide) ?_
  unfold BIG at hu
  have hL := loop_find (X := X) (mask := mask_slices_IndexFunc_string_string_0) (body := body_slices_IndexFunc_string_string_0) us
    (fun i => ⟨mkE 19 [(0, txS us), (1, .fn F_roles_long_1 [.pv 0 0, .pv 1 0]), (7, .d (.int .i64 us.length)), (8, .d (.int .i64 i))], [(0, .var [.d (.str p.low), .d (.str p.high)]), (1, .var [prS l])]⟩)
    (fun _ => longQ l p) (.exit 0, ⟨mkE 19 [], [(0, .var [.d (.str p.low), .d (.str p.high)]), (1, .var [prS l])]⟩) (fun i _ => (.ret, ⟨mkE 19 [(4, .d (.int .i64 i))], [(0, .var [.d (.str p.low), .d (.str p.high)]), (1, .var [prS l])]⟩)) (by simp) (by simp)
    (fun i e hi he hq => by
      have hw := wrap_ok (a := (i : Int) + 1) (by omega) (by omega)
      have hc := run_long1 l p e hl
      simp -implicitDefEqProofs [body_slices_IndexFunc_string_string_0, mask_slices_IndexFunc_string_string_0, hi, he, stC_eq, hc, hq, hw])
    (fun i e hi he hq => by
      have hc := run_long1 l p e hl
      simp -implicitDefEqProofs [body_slices_IndexFunc_string_string_0, hi, he, stC_eq, hc, hq]) (by simp -implicitDefEqProofs [body_slices_IndexFunc_string_string_0])
  simp -implicitDefEqProofs [code_slices_IndexFunc_string_string]
  rw [hL _ (by simp [mask_slices_IndexFunc_string_string_0])]
  unfold idxK
  cases findI (fun _ => longQ l p) us 0 <;> simp -implicitDefEqProofs
theorem run_ContainsTxL (us : List Txt) (l : List Pr) (p : Pr) (hu : us.length ≤ BIG) (hl : l.length ≤ 1048576) :
    R F_slices_ContainsFunc_string_string [txS us, .fn F_roles_long_1 [.pv 0 0, .pv 1 0]] [(0, .var [.d (.str p.low), .d (.str p.high)]), (1, .var [prS l])] = some (.d (.bool (us.any (longQ l p))), [(0, .var [.d (.str p.low), .d (.str p.high)]), (1, .var [prS l])]) := by
  refine R_of at_slices_ContainsFunc_string_string (by decide) ?_
  have h := run_IndexTxL us l p hu hl
  simp -implicitDefEqProofs [code_slices_ContainsFunc_string_string, h, idxK_any]
theorem run_RLong (l : List Pr) (p : Pr) (hl : l.length ≤ 1048576) : R F_roles_long [prS l, prA p] [] = some (.d (.bool (longB l p)), []) := by
  refine R_of at_roles_long (by decide) ?_
  have hu := run_ups l p.low (by unfold BIG; omega)
  have hul := upsP_len l p.low
  have h := run_ContainsTxL (upsP l p.low) l p (by unfold BIG; omega) hl
  unfold longB
  simp -implicitDefEqProofs [code_roles_long, hu, h]
theorem run_Reduce1 (l : List Pr) (p : Pr) (hl : l.length ≤ 1048576) : R F_roles_Reduce_1 [prA p, .pv 0 0] [(0, .var [prS l])] = some (.d (.bool (longB l p)), [(0, .var [prS l])]) := by
  refine R_of at_roles_Reduce_1 (by decide) ?_
  have h := run_RLong l p hl
  simp -implicitDefEqProofs [code_roles_Reduce_1, h]

def redP (l : List Pr) : List Pr := if ringB l then l else compL (sortPr (l.filter fun p => !longB l p))
theorem run_Reduce (l : List Pr) (hl : l.length ≤ 1048576) : R F_roles_Reduce [prS l] [] = some (prS (redP l), []) := by
  refine R_of at_roles_Reduce (by decide) ?_
  have hr := run_ring l hl
  have hc := run_ClonePr l (by unfold LIM; omega)
  unfold redP
  cases h : ringB l with
  | true =>
    rw [h] at hr
    simp -implicitDefEqProofs [code_roles_Reduce, hr, hc]
  | false =>
    rw [h] at hr
    have hd := run_DeletePr l [] l (by unfold BIG; omega) F_roles_Reduce_1 rfl (longB l) (fun e _ => run_Reduce1 l e hl)
    have hfl := List.length_filter_le (fun p => !longB l p) l
    simp only [List.map_nil, List.append_nil, List.length_nil, Nat.add_zero, delP, List.map_append] at hd
    generalize (l.filter fun p => !longB l p) = k at *
    obtain ⟨z, hz⟩ : ∃ z : List Pr, List.replicate (l.length - k.length) (⟨[], []⟩ : Pr) = z := ⟨_, rfl⟩
    rw [hz] at hd
    have hzl : l.length = k.length + z.length := by rw [← hz]; simp; omega
    have hs := run_SortPr k z (by unfold LIM; omega)
    have hsl : (sortPr k).length = k.length := (sortPr_perm k).length_eq
    have hp := run_CompactPr (sortPr k) z (by unfold BIG; omega)
    have hcl := compL_len (sortPr k)
    rw [hsl] at hp hcl
    rw [hzl] at hd hc
    simp only [compP, List.map_append] at hp
    rw [hsl] at hp
    generalize sortPr k = s at *
    generalize compL s = c at *
    have q1 : c.length + (k.length - c.length + z.length) = k.length + z.length := by omega
    have q2 : c.length ≤ k.length + z.length := by omega
    simp -implicitDefEqProofs [code_roles_Reduce, hr, hc, hd, hs, hp, q1, q2]
end Bz.S
