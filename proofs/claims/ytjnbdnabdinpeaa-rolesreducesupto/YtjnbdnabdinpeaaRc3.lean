/- Roles: names, tops. -/
import Derived.Test.YtjnbdnabdinpeaaRc2
set_option linter.unusedSimpArgs false
set_option linter.unusedVariables false
namespace Bz.S
open Go Bz
set_option maxRecDepth 10000
set_option maxHeartbeats 4000000

/-! ### what is left out of a row -/
section
variable {α : Type}
def delS (p : α → Bool) (a : Nat × List α) (x : α) : Nat × List α := if p x = true then a else (a.1 + 1, a.2.set a.1 x)
def delI (p : α → Bool) (l : List α) (j : Nat) (a : Nat × List α) : Prop := a.2.length = l.length ∧ a.1 < j ∧ a.2.drop j = l.drop j ∧ a.2.take a.1 = (l.take j).filter fun v => !p v
theorem delI_step {p : α → Bool} {l : List α} {j : Nat} {a : Nat × List α} {x : α} (hj : j < l.length) (hx : l[j] = x) (h : delI p l j a) : delI p l (j + 1) (delS p a x) := by
  obtain ⟨i, L⟩ := a
  obtain ⟨h1, h2, h3, h4⟩ := h
  simp only at h1 h2 h3 h4
  have ht : l.take (j + 1) = l.take j ++ [x] := by rw [List.take_succ_eq_append_getElem hj, hx]
  have hd : L.drop (j + 1) = l.drop (j + 1) := by
    have := congrArg (List.drop 1) h3
    simpa [List.drop_drop] using this
  unfold delS
  by_cases hp : p x = true
  · rw [if_pos hp]
    exact ⟨h1, by simp only; omega, hd, by rw [ht]; simp [hp, h4]⟩
  · rw [if_neg hp]
    refine ⟨by simp [h1], by simp only; omega, ?_, ?_⟩
    · simp only [List.drop_set]
      rw [if_pos (by omega), hd]
    · simp only
      rw [ht, List.filter_append, ← h4, List.take_succ_eq_append_getElem (by simp; omega)]
      simp [hp, List.take_set_of_le]
end

theorem run_IndexTx1 (l z : List Txt) (m : List Pr) (hl : l.length ≤ BIG) (f : Nat) (hf : own f = false) (p : Txt → Bool) (hp : ∀ e ∈ l, R f [stA e, .pv 0 0] [(0, .var [prS m])] = some (.d (.bool (p e)), [(0, .var [prS m])])) :
    R F_slices_IndexFunc_string_string [.os 0 (l.length + z.length) 0 l.length, .fn f [.pv 1 0]] [(0, .arr 1 (l.map stC ++ z.map stC)), (1, .var [prS m])] = some (.d (.int .i64 (idxK p l)), [(0, .arr 1 (l.map stC ++ z.map stC)), (1, .var [prS m])]) := by
  refine R_of at_slices_IndexFunc_string_string (by decide) ?_
  unfold BIG at hl
  have hL := loop_find (X := X) (mask := mask_slices_IndexFunc_string_string_0) (body := body_slices_IndexFunc_string_string_0) l
    (fun i => ⟨mkE 19 [(0, .os 0 (l.length + z.length) 0 l.length), (1, .fn f [.pv 1 0]), (7, .d (.int .i64 l.length)), (8, .d (.int .i64 i))], [(0, .arr 1 (l.map stC ++ z.map stC)), (1, .var [prS m])]⟩)
    (fun _ => p) (.exit 0, ⟨mkE 19 [], [(0, .arr 1 (l.map stC ++ z.map stC)), (1, .var [prS m])]⟩) (fun i _ => (.ret, ⟨mkE 19 [(4, .d (.int .i64 i))], [(0, .arr 1 (l.map stC ++ z.map stC)), (1, .var [prS m])]⟩)) (by simp) (by simp)
    (fun i e hi he hq => by
      have hw := wrap_ok (a := (i : Int) + 1) (by omega) (by omega)
      have hc := hp e (he ▸ List.getElem_mem hi)
      have ha : (l.map stC ++ z.map stC)[i]? = some (stC e) := by rw [List.getElem?_append_left (by simpa using hi)]; simp [hi, he]
      simp -implicitDefEqProofs [body_slices_IndexFunc_string_string_0, mask_slices_IndexFunc_string_string_0, hi, he, ha, stC_eq, hc, hf, hq, hw])
    (fun i e hi he hq => by
      have hc := hp e (he ▸ List.getElem_mem hi)
      have ha : (l.map stC ++ z.map stC)[i]? = some (stC e) := by rw [List.getElem?_append_left (by simpa using hi)]; simp [hi, he]
      simp -implicitDefEqProofs [body_slices_IndexFunc_string_string_0, hi, he, ha, stC_eq, hc, hf, hq]) (by simp -implicitDefEqProofs [body_slices_IndexFunc_string_string_0])
  simp -implicitDefEqProofs [code_slices_IndexFunc_string_string]
  rw [hL _ (by simp [mask_slices_IndexFunc_string_string_0])]
  unfold idxK
  cases findI (fun _ => p) l 0 <;> simp -implicitDefEqProofs

/-- the row behind: what is left, then nothing -/
abbrev delR (l : List Txt) (p : Txt → Bool) : List Txt := (l.filter fun v => !p v) ++ List.replicate (l.length - (l.filter fun v => !p v).length) []

theorem run_DeleteTx1 (l z : List Txt) (m : List Pr) (hl : l.length ≤ BIG) (f : Nat) (hf : own f = false) (p : Txt → Bool) (hp : ∀ e ∈ l, R f [stA e, .pv 0 0] [(0, .var [prS m])] = some (.d (.bool (p e)), [(0, .var [prS m])])) :
    R F_slices_DeleteFunc_string_string [.os 0 (l.length + z.length) 0 l.length, .fn f [.pv 1 0]] [(0, .arr 1 (l.map stC ++ z.map stC)), (1, .var [prS m])] =
      some (.os 0 (l.length + z.length) 0 (l.filter fun v => !p v).length, [(0, .arr 1 ((delR l p).map stC ++ z.map stC)), (1, .var [prS m])]) := by
  have hI := run_IndexTx1 l z m hl f hf p hp
  unfold BIG at hl
  unfold idxK at hI
  cases hF : findI (fun _ => p) l 0 with
  | none =>
    rw [hF] at hI
    have hall : (l.filter fun v => !p v) = l := by
      rw [List.filter_eq_self]
      intro v hv
      obtain ⟨k, hk, e⟩ := List.getElem_of_mem hv
      have := (findI_none _ _ _).1 hF k v (by rw [List.getElem?_eq_getElem hk, e])
      simp [this]
    refine R_of at_slices_DeleteFunc_string_string (by decide) ?_
    rw [hall]
    simp -implicitDefEqProofs [code_slices_DeleteFunc_string_string, hI, delR, hall]
  | some q =>
    rw [hF] at hI
    obtain ⟨k, h1, h2, h3, h4⟩ := findI_some _ _ _ _ hF
    rw [Nat.zero_add] at h1
    obtain ⟨hk, hkx⟩ := List.getElem?_eq_some_iff.1 h2
    simp only [h1] at hI
    have h00 : delI p l (k + 1 + 0) (k, l) := by
      refine ⟨rfl, by simp only; omega, rfl, ?_⟩
      simp only
      rw [Nat.add_zero, List.take_succ_eq_append_getElem hk, hkx, List.filter_append]
      have : (l.take k).filter (fun v => !p v) = l.take k := by
        rw [List.filter_eq_self]
        intro v hv
        obtain ⟨j, hj, e⟩ := List.getElem_of_mem hv
        have hj' : j < k := by simp at hj; omega
        have := h4 j v hj' (by rw [← e]; simp)
        simp [this]
      rw [this]
      simp [h3]
    have hL := loop_fold (X := X) (mask := mask_slices_DeleteFunc_string_string_0) (body := body_slices_DeleteFunc_string_string_0) (l.drop (k + 1))
      (fun j (a : Nat × List Txt) => ⟨mkE 42 [(0, .os 0 (l.length + z.length) 0 l.length), (1, .fn f [.pv 1 0]), (5, .d (.int .i64 a.1)), (6, .d (.int .i64 ((k + 1 + j : Nat) : Int)))], [(0, .arr 1 (a.2.map stC ++ z.map stC)), (1, .var [prS m])]⟩)
      (fun j a => delI p l (k + 1 + j) a) (fun _ a x => delS p a x)
      (fun a => (.exit 0, ⟨mkE 42 [(0, .os 0 (l.length + z.length) 0 l.length), (5, .d (.int .i64 a.1))], [(0, .arr 1 (a.2.map stC ++ z.map stC)), (1, .var [prS m])]⟩)) (by simp)
      (fun j a x hj hx hI => by
        have hj' : k + 1 + j < l.length := by simp at hj; omega
        have hx' : l[k + 1 + j] = x := by rw [← hx]; simp [List.getElem_drop]
        refine ⟨delI_step hj' hx' hI, ?_⟩
        obtain ⟨i, L⟩ := a
        obtain ⟨i1, i2, i3, i4⟩ := hI
        simp only at i1 i2 i3 i4
        have hm : (k + 1 + j) < L.length := by omega
        have hLx : L[k + 1 + j] = x := by
          have := congrArg (fun t => t[0]?) i3
          simp [List.getElem?_drop, List.getElem?_eq_getElem hm, List.getElem?_eq_getElem hj', hx'] at this
          exact this
        have ha : (L.map stC ++ z.map stC)[k + 1 + j]? = some (stC x) := by rw [List.getElem?_append_left (by simpa using hm)]; simp [hm, hLx]
        have hc := hp x (hx' ▸ List.getElem_mem hj')
        obtain ⟨n, hm0⟩ : ∃ n, k + 1 + j = n := ⟨_, rfl⟩
        simp only [hm0] at hj' hx' hm hLx ha i2 i3 i4 ⊢
        have hw := wrap_ok (a := (n : Int) + 1) (by omega) (by omega)
        have hw2 := wrap_ok (a := (i : Int) + 1) (by omega) (by omega)
        have hi : i < L.length := by omega
        have hiz : i < L.length + z.length := by omega
        have hset : (L.map stC ++ z.map stC).set i (stC x) = (L.map stC).set i (stC x) ++ z.map stC := List.set_append_left _ _ (by simpa using hi)
        have hgi : (L.map stC ++ z.map stC)[i]? = some (stC L[i]) := by rw [List.getElem?_append_left (by simpa using hi)]; simp [hi]
        have hs : ((k : Int) + 1 + ((j : Int) + 1)) = (n : Int) + 1 := by omega
        by_cases hpx : p x = true
        · simp -implicitDefEqProofs [body_slices_DeleteFunc_string_string_0, mask_slices_DeleteFunc_string_string_0, ← i1, hm, hLx, ha, stC_eq, hc, hf, hw, hpx, delS, hs]
        · have hpx' : p x = false := by simpa using hpx
          simp -implicitDefEqProofs [body_slices_DeleteFunc_string_string_0, mask_slices_DeleteFunc_string_string_0, ← i1, hm, hLx, ha, stC_eq, hc, hf, hw, hpx', delS, hs, hi, hw2, hiz, hset, hgi]) (fun a hI => by
            obtain ⟨i, L⟩ := a
            obtain ⟨i1, i2, i3, i4⟩ := hI
            simp only at i1 i2 i3 i4
            have e : k + 1 + (l.drop (k + 1)).length = l.length := by simp; omega
            rw [e] at i2
            rw [e]
            simp -implicitDefEqProofs [body_slices_DeleteFunc_string_string_0, i1]) (k, l) h00
    have hJ := foldI_inv2 (fun _ a x => delS p a x) (fun j a => delI p l (k + 1 + j) a) (l.drop (k + 1)) 0 (k, l) h00 (fun j a x hx hI => by
      rw [Nat.zero_add] at hI ⊢
      obtain ⟨g1, g2⟩ := List.getElem?_eq_some_iff.1 hx
      simp at g1
      have hlt : k + 1 + j < l.length := by omega
      exact delI_step hlt (by rw [← g2]; simp [List.getElem_drop]) hI)
    generalize foldI (fun _ a x => delS p a x) (l.drop (k + 1)) 0 (k, l) = A at hL hJ
    obtain ⟨i, L⟩ := A
    obtain ⟨i1, i2, i3, i4⟩ := hJ
    have e : k + 1 + (0 + (l.drop (k + 1)).length) = l.length := by simp; omega
    rw [e] at i2 i3 i4
    rw [List.take_of_length_le (Nat.le_refl _)] at i4
    simp only at i1 i2 i3 i4
    have hf1 : (l.filter fun v => !p v).length = i := by rw [← i4]; simp; omega
    refine R_of at_slices_DeleteFunc_string_string (by decide) ?_
    unfold delR
    rw [hf1, ← i4]
    have hw0 := wrap_ok (a := (k : Int) + 1) (by omega) (by omega)
    have g1 : ¬ (k : Int) = -1 := by omega
    simp -implicitDefEqProofs [code_slices_DeleteFunc_string_string, hI, hw0, g1]
    rw [hL _ (by simp -implicitDefEqProofs [mask_slices_DeleteFunc_string_string_0])]
    have q1 : i ≤ l.length := by omega
    have q2 : i ≤ l.length + z.length := by omega
    have q3 : l.length ≤ l.length + z.length := by omega
    have t1 : (L.map stC ++ z.map stC).take i = (L.take i).map stC := by rw [List.take_append_of_le_length (by simp; omega), List.map_take]
    have t2 : (L.map stC ++ z.map stC).drop l.length = z.map stC := by rw [← i1, List.drop_append_of_le_length (by simp)]; simp
    have q4 : i + (l.length - i + z.length) = l.length + z.length := by omega
    simp -implicitDefEqProofs [q1, q3, q4, i1, t1, t2, stC_eq]
end Bz.S
