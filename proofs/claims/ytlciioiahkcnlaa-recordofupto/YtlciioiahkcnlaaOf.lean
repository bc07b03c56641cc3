/- A session's verdicts, walked. -/
import Derived.Test.YtlciioiahkcnlaaRef23
set_option linter.unusedSimpArgs false
set_option linter.unusedVariables false
namespace Bz.S
open Go Bz
set_option maxRecDepth 10000
set_option maxHeartbeats 4000000

theorem run_CloneVd (l : List Vd) (hl : l.length ≤ LIM) : R F_slices_Clone_api_Verdict_api_Verdict [vdS l] [] = some (.os 0 l.length 0 l.length, [(0, .arr 3 (l.map vdC))]) := by
  refine R_of at_slices_Clone_api_Verdict_api_Verdict (by decide) ?_
  cases l with
  | nil => simp -implicitDefEqProofs [code_slices_Clone_api_Verdict_api_Verdict]
  | cons v r =>
    simp at hl
    simp -implicitDefEqProofs [code_slices_Clone_api_Verdict_api_Verdict, hl, vdS]

theorem run_Of1 (v : Vd) (id : Int) : R F_record_Of_1 [vdA v, .pv 0 0] [(0, .var [.d (.int .i64 id)])] = some (.d (.bool (!decide (v.id = id))), [(0, .var [.d (.int .i64 id)])]) := by
  refine R_of at_record_Of_1 (by decide) ?_
  simp -implicitDefEqProofs [code_record_Of_1]

theorem run_IndexVdC (l : List Vd) (hl : l.length ≤ BIG) (f : Nat) (hf : own f = false) (id : Int) (p : Vd → Bool) (hp : ∀ e ∈ l, R f [vdA e, .pv 0 0] [(0, .var [.d (.int .i64 id)])] = some (.d (.bool (p e)), [(0, .var [.d (.int .i64 id)])])) :
    R F_slices_IndexFunc_api_Verdict_api_Verdict [.os 0 l.length 0 l.length, .fn f [.pv 1 0]] [(0, .arr 3 (l.map vdC)), (1, .var [.d (.int .i64 id)])] = some (.d (.int .i64 (idxK p l)), [(0, .arr 3 (l.map vdC)), (1, .var [.d (.int .i64 id)])]) := by
  refine R_of at_slices_IndexFunc_api_Verdict_api_Verdict (by decide) ?_
  unfold BIG at hl
  have hL := loop_find (X := X) (mask := mask_slices_IndexFunc_api_Verdict_api_Verdict_0) (body := body_slices_IndexFunc_api_Verdict_api_Verdict_0) l
    (fun i => ⟨mkE 19 [(0, .os 0 l.length 0 l.length), (1, .fn f [.pv 1 0]), (7, .d (.int .i64 l.length)), (8, .d (.int .i64 i))], [(0, .arr 3 (l.map vdC)), (1, .var [.d (.int .i64 id)])]⟩)
    (fun _ => p) (.exit 0, ⟨mkE 19 [], [(0, .arr 3 (l.map vdC)), (1, .var [.d (.int .i64 id)])]⟩) (fun i _ => (.ret, ⟨mkE 19 [(4, .d (.int .i64 i))], [(0, .arr 3 (l.map vdC)), (1, .var [.d (.int .i64 id)])]⟩)) (by simp) (by simp)
    (fun i e hi he hq => by
      have hw := wrap_ok (a := (i : Int) + 1) (by omega) (by omega)
      have hc := hp e (he ▸ List.getElem_mem hi)
      simp -implicitDefEqProofs [body_slices_IndexFunc_api_Verdict_api_Verdict_0, mask_slices_IndexFunc_api_Verdict_api_Verdict_0, hi, he, hc, hf, hq, hw])
    (fun i e hi he hq => by
      have hc := hp e (he ▸ List.getElem_mem hi)
      simp -implicitDefEqProofs [body_slices_IndexFunc_api_Verdict_api_Verdict_0, hi, he, hc, hf, hq]) (by simp -implicitDefEqProofs [body_slices_IndexFunc_api_Verdict_api_Verdict_0])
  simp -implicitDefEqProofs [code_slices_IndexFunc_api_Verdict_api_Verdict]
  rw [hL _ (by simp [mask_slices_IndexFunc_api_Verdict_api_Verdict_0])]
  unfold idxK
  cases findI (fun _ => p) l 0 <;> simp -implicitDefEqProofs

theorem foldI_inv {α σ : Type} (g : Nat → σ → α → σ) (I : Nat → σ → Prop) : ∀ (l : List α) (i : Nat) (a : σ), I i a → (∀ (k : Nat) (b : σ) (x : α), l[k]? = some x → I (i + k) b → I (i + k + 1) (g (i + k) b x)) → I (i + l.length) (foldI g l i a)
  | [], i, a, h, _ => h
  | x :: r, i, a, h, hs => by
    rw [foldI_cons, List.length_cons, show i + (r.length + 1) = i + 1 + r.length by omega]
    refine foldI_inv g I r (i + 1) _ (hs 0 a x rfl h) fun k b y hy hb => ?_
    have := hs (k + 1) b y (by simpa using hy) (by rw [show i + (k + 1) = i + 1 + k by omega]; exact hb)
    rw [show i + (k + 1) = i + 1 + k by omega] at this
    exact this

def zVd : Vd := ⟨0, 0, 0⟩
def delStep (p : Vd → Bool) (a : Nat × List Vd) (x : Vd) : Nat × List Vd := if p x = true then a else (a.1 + 1, a.2.set a.1 x)
def delInv (p : Vd → Bool) (l : List Vd) (j : Nat) (a : Nat × List Vd) : Prop := a.2.length = l.length ∧ a.1 < j ∧ a.2.drop j = l.drop j ∧ a.2.take a.1 = (l.take j).filter fun v => !p v
theorem delInv_step {p : Vd → Bool} {l : List Vd} {j : Nat} {a : Nat × List Vd} {x : Vd} (hj : j < l.length) (hx : l[j] = x) (h : delInv p l j a) : delInv p l (j + 1) (delStep p a x) := by
  obtain ⟨i, L⟩ := a
  obtain ⟨h1, h2, h3, h4⟩ := h
  simp only at h1 h2 h3 h4
  have ht : l.take (j + 1) = l.take j ++ [x] := by rw [List.take_succ_eq_append_getElem hj, hx]
  have hd : L.drop (j + 1) = l.drop (j + 1) := by
    have := congrArg (List.drop 1) h3
    simpa [List.drop_drop] using this
  unfold delStep
  by_cases hp : p x = true
  · rw [if_pos hp]
    exact ⟨h1, by simp only; omega, hd, by rw [ht]; simp [hp, h4]⟩
  · rw [if_neg hp]
    refine ⟨by simp [h1], by simp only; omega, ?_, ?_⟩
    · simp only [List.drop_set]
      rw [if_pos (by omega), hd]
    · simp only
      rw [ht, List.filter_append, ← h4, List.take_succ_eq_append_getElem (by simp; omega)]
      simp [hp, List.take_set_of_le]

theorem run_DeleteVd (l : List Vd) (hl : l.length ≤ BIG) (f : Nat) (hf : own f = false) (id : Int) (p : Vd → Bool) (hp : ∀ e ∈ l, R f [vdA e, .pv 0 0] [(0, .var [.d (.int .i64 id)])] = some (.d (.bool (p e)), [(0, .var [.d (.int .i64 id)])])) :
    ∃ z : List Vd, R F_slices_DeleteFunc_api_Verdict_api_Verdict [.os 0 l.length 0 l.length, .fn f [.pv 1 0]] [(0, .arr 3 (l.map vdC)), (1, .var [.d (.int .i64 id)])] =
      some (vdS (l.filter fun v => !p v), [(0, .fz 3 (((l.filter fun v => !p v) ++ z).map vdC)), (1, .var [.d (.int .i64 id)])]) ∧ ((l.filter fun v => !p v) ++ z).length = l.length := by
  have hI := run_IndexVdC l hl f hf id p hp
  have hl' := hl
  unfold BIG at hl'
  unfold idxK at hI
  cases hF : findI (fun _ => p) l 0 with
  | none =>
    rw [hF] at hI
    have hall : (l.filter fun v => !p v) = l := by
      rw [List.filter_eq_self]
      intro v hv
      obtain ⟨k, hk, e⟩ := List.getElem_of_mem hv
      have := (findI_none _ _ _).1 hF k v (by rw [List.getElem?_eq_getElem hk, e])
      simp [this]
    refine ⟨[], R_of at_slices_DeleteFunc_api_Verdict_api_Verdict (by decide) ?_, by simp [hall]⟩
    rw [hall]
    simp -implicitDefEqProofs [code_slices_DeleteFunc_api_Verdict_api_Verdict, hI]
  | some q =>
    rw [hF] at hI
    obtain ⟨k, h1, h2, h3, h4⟩ := findI_some _ _ _ _ hF
    rw [Nat.zero_add] at h1
    obtain ⟨hk, hkx⟩ := List.getElem?_eq_some_iff.1 h2
    simp only [h1] at hI
    have h00 : delInv p l (k + 1 + 0) (k, l) := by
      refine ⟨rfl, by simp only; omega, rfl, ?_⟩
      simp only
      rw [Nat.add_zero, List.take_succ_eq_append_getElem hk, hkx, List.filter_append]
      have : (l.take k).filter (fun v => !p v) = l.take k := by
        rw [List.filter_eq_self]
        intro v hv
        obtain ⟨j, hj, e⟩ := List.getElem_of_mem hv
        have hj' : j < k := by simp at hj; omega
        have := h4 j v hj' (by rw [← e]; simp)
        simp [this]
      rw [this]
      simp [h3]
    have hL := loop_fold (X := X) (mask := mask_slices_DeleteFunc_api_Verdict_api_Verdict_0) (body := body_slices_DeleteFunc_api_Verdict_api_Verdict_0) (l.drop (k + 1))
      (fun j (a : Nat × List Vd) => ⟨mkE 42 [(0, .os 0 l.length 0 l.length), (1, .fn f [.pv 1 0]), (5, .d (.int .i64 a.1)), (6, .d (.int .i64 ((k + 1 + j : Nat) : Int)))], [(0, .arr 3 (a.2.map vdC)), (1, .var [.d (.int .i64 id)])]⟩)
      (fun j a => delInv p l (k + 1 + j) a) (fun _ a x => delStep p a x)
      (fun a => (.exit 0, ⟨mkE 42 [(0, .os 0 l.length 0 l.length), (5, .d (.int .i64 a.1))], [(0, .arr 3 (a.2.map vdC)), (1, .var [.d (.int .i64 id)])]⟩)) (by simp)
      (fun j a x hj hx hI => by
        have hj' : k + 1 + j < l.length := by simp at hj; omega
        have hx' : l[k + 1 + j] = x := by rw [← hx]; simp [List.getElem_drop]
        refine ⟨delInv_step hj' hx' hI, ?_⟩
        obtain ⟨i, L⟩ := a
        obtain ⟨i1, i2, i3, i4⟩ := hI
        simp only at i1 i2 i3 i4
        have hm : (k + 1 + j) < L.length := by omega
        have hLx : L[k + 1 + j] = x := by
          have := congrArg (fun t => t[0]?) i3
          simp [List.getElem?_drop, List.getElem?_eq_getElem hm, List.getElem?_eq_getElem hj', hx'] at this
          exact this
        have hc := hp x (hx' ▸ List.getElem_mem hj')
        have hkm : k + 1 + j = (k + 1 + j : Nat) := rfl
        obtain ⟨m, hm0⟩ : ∃ m, k + 1 + j = m := ⟨_, rfl⟩
        simp only [hm0] at hj' hx' hm hLx i2 i3 i4 ⊢
        have hw := wrap_ok (a := (m : Int) + 1) (by omega) (by omega)
        have hw2 := wrap_ok (a := (i : Int) + 1) (by omega) (by omega)
        have hi : i < L.length := by omega
        have hs : ((k : Int) + 1 + ((j : Int) + 1)) = (m : Int) + 1 := by omega
        by_cases hpx : p x = true
        · simp -implicitDefEqProofs [body_slices_DeleteFunc_api_Verdict_api_Verdict_0, mask_slices_DeleteFunc_api_Verdict_api_Verdict_0, ← i1, hm, hLx, hc, hf, hw, hpx, delStep, hs]
        · have hpx' : p x = false := by simpa using hpx
          simp -implicitDefEqProofs [body_slices_DeleteFunc_api_Verdict_api_Verdict_0, mask_slices_DeleteFunc_api_Verdict_api_Verdict_0, ← i1, hm, hLx, hc, hf, hw, hpx', delStep, hs, hi, hw2]) (fun a hI => by
            obtain ⟨i, L⟩ := a
            obtain ⟨i1, i2, i3, i4⟩ := hI
            simp only at i1 i2 i3 i4
            have e : k + 1 + (l.drop (k + 1)).length = l.length := by simp; omega
            rw [e] at i2
            rw [e]
            simp -implicitDefEqProofs [body_slices_DeleteFunc_api_Verdict_api_Verdict_0, i1]) (k, l) h00
    have hJ := foldI_inv (fun _ a x => delStep p a x) (fun j a => delInv p l (k + 1 + j) a) (l.drop (k + 1)) 0 (k, l) h00 (fun j a x hx hI => by
      rw [Nat.zero_add] at hI ⊢
      obtain ⟨g1, g2⟩ := List.getElem?_eq_some_iff.1 hx
      simp at g1
      have hlt : k + 1 + j < l.length := by omega
      exact delInv_step hlt (by rw [← g2]; simp [List.getElem_drop]) hI)
    generalize foldI (fun _ a x => delStep p a x) (l.drop (k + 1)) 0 (k, l) = A at hL hJ
    obtain ⟨i, L⟩ := A
    obtain ⟨i1, i2, i3, i4⟩ := hJ
    have e : k + 1 + (0 + (l.drop (k + 1)).length) = l.length := by simp; omega
    rw [e] at i2 i3 i4
    rw [List.take_of_length_le (Nat.le_refl _)] at i4
    simp only at i1 i2 i3 i4
    have hf1 : (l.filter fun v => !p v).length = i := by rw [← i4]; simp; omega
    refine ⟨List.replicate (l.length - i) zVd, R_of at_slices_DeleteFunc_api_Verdict_api_Verdict (by decide) ?_, by simp [hf1]; omega⟩
    rw [← i4]
    have hw0 := wrap_ok (a := (k : Int) + 1) (by omega) (by omega)
    have g1 : ¬ (k : Int) = -1 := by omega
    simp -implicitDefEqProofs [code_slices_DeleteFunc_api_Verdict_api_Verdict, hI, hw0, g1]
    rw [hL _ (by simp -implicitDefEqProofs [mask_slices_DeleteFunc_api_Verdict_api_Verdict_0])]
    have q1 : i ≤ l.length := by omega
    simp -implicitDefEqProofs [q1, zVd, i1]

theorem run_Of (code : Int) (l : List Vd) (hl : l.length ≤ BIG) (id : Int) : R F_record_Of [recA code l, .d (.int .i64 id)] [] = some (vdS (l.filter fun v => decide (v.id = id)), []) := by
  refine R_of at_record_Of (by decide) ?_
  have h1 := run_CloneVd l (big_lim hl)
  obtain ⟨z, h2, _⟩ := run_DeleteVd l hl F_record_Of_1 rfl id (fun v => !decide (v.id = id)) (fun v _ => run_Of1 v id)
  simp -implicitDefEqProofs [code_record_Of, h1, h2]

end Bz.S
