/- Layer 13: where rows stand. -/
import Derived.Test.YtfhkjoebkiigoaaLaw13
set_option linter.unusedSimpArgs false
set_option linter.unusedVariables false
namespace Bz.S
open Go Bz
set_option maxRecDepth 10000
set_option maxHeartbeats 4000000

/-! ### places -/
def kidsOf (l : List Rw) : List Int := l.flatMap Rw.kids
/-- is it between? -/
def ind (lo hi x : Int) : Nat := if lo ≤ x ∧ x < hi then 1 else 0
theorem ind_pos {lo hi x : Int} (h1 : lo ≤ x) (h2 : x < hi) : ind lo hi x = 1 := if_pos ⟨h1, h2⟩
theorem ind_neg {lo hi x : Int} (h : ¬ (lo ≤ x ∧ x < hi)) : ind lo hi x = 0 := if_neg h
theorem count_rows : ∀ (e : Ex) (f : Nat) (x : Int), (kidsOf (rowsE e f)).count x = ind f ((f : Int) + size e - 1) x := by
  refine exInd (p := fun e => ∀ (f : Nat) (x : Int), (kidsOf (rowsE e f)).count x = ind f ((f : Int) + size e - 1) x) fun e IH f x => ?_
  have hsz := size_eq e
  unfold innerK at hsz
  rw [rowsE_eq]
  by_cases h4 : e.kind = 4
  · rw [if_pos h4] at hsz ⊢
    simp only [sizes] at hsz
    rw [ind_neg (by omega)]
    simp [kidsOf, ownRow]
  · rw [if_neg h4] at hsz ⊢
    have key : ∀ (q : List Ex), (∀ k ∈ q, k ∈ e.kids) → ∀ f' : Nat, (kidsOf (rowsEs q f').1).count x + (rowsEs q f').2.count x = ind f' ((f' : Int) + sizes q) x := by
      intro q
      induction q with
      | nil => intro _ f'; rw [ind_neg (by simp [sizes])]; simp [rowsEs, kidsOf]
      | cons k r ih =>
        intro hk f'
        have h1 := IH k (hk k (by simp)) f' x
        have h2 := ih (fun y hy => hk y (by simp [hy])) (f' + size k)
        have hp := size_pos k
        simp only [rowsEs, sizes]
        rw [rows_len]
        unfold kidsOf at h1 h2 ⊢
        rw [List.flatMap_append, List.count_append, List.count_cons, h1]
        by_cases hx : x = ((f' + size k : Nat) : Int) - 1
        · have : (((f' + size k : Nat) : Int) - 1 == x) = true := by simp [hx]
          rw [this]
          simp only [if_true]
          rw [ind_neg (by omega)]
          rw [ind_neg (by omega)] at h2
          rw [ind_pos (by omega) (by omega)]
          omega
        · have : (((f' + size k : Nat) : Int) - 1 == x) = false := by simp; omega
          rw [this]
          simp only [Bool.false_eq_true, if_false]
          by_cases hy : ((f' + size k : Nat) : Int) ≤ x ∧ x < ((f' + size k : Nat) : Int) + sizes r
          · rw [ind_pos hy.1 hy.2] at h2
            rw [ind_neg (lo := (f' : Int)) (hi := (f' : Int) + size k - 1) (by omega), ind_pos (by omega) (by omega)]; omega
          · rw [ind_neg hy] at h2
            by_cases hz : (f' : Int) ≤ x ∧ x < (f' : Int) + size k - 1
            · rw [ind_pos hz.1 hz.2, ind_pos (by omega) (by omega)]; omega
            · rw [ind_neg hz, ind_neg (by omega)]; omega
    have h := key e.kids (fun k hk => hk) f
    unfold kidsOf at h ⊢
    rw [List.flatMap_append, List.count_append]
    simp only [List.flatMap_cons, List.flatMap_nil, List.append_nil]
    rw [h, show (f : Int) + size e - 1 = (f : Int) + sizes e.kids by omega]
theorem ahead_rows : ∀ (e : Ex) (f i : Nat) (r : Rw), (rowsE e f)[i]? = some r → ∀ c ∈ r.kids, (f : Int) ≤ c ∧ c < (f : Int) + i := by
  refine exInd (p := fun e => ∀ (f i : Nat) (r : Rw), (rowsE e f)[i]? = some r → ∀ c ∈ r.kids, (f : Int) ≤ c ∧ c < (f : Int) + i) fun e IH f i r hr c hc => ?_
  rw [rowsE_eq] at hr
  by_cases h4 : e.kind = 4
  · rw [if_pos h4] at hr
    have : r = ownRow e := by
      cases i with
      | zero => simpa using hr.symm
      | succ i => simp at hr
    subst this
    simp [ownRow] at hc
  · rw [if_neg h4] at hr
    have key : ∀ (q : List Ex), (∀ k ∈ q, k ∈ e.kids) → ∀ (f' i : Nat) (r : Rw), (rowsEs q f').1[i]? = some r → ∀ c ∈ r.kids, (f' : Int) ≤ c ∧ c < (f' : Int) + i := by
      intro q
      induction q with
      | nil => intro _ f' i r hr; simp [rowsEs] at hr
      | cons k q ih =>
        intro hk f' i r hr c hc
        simp only [rowsEs] at hr
        rw [rows_len] at hr
        by_cases hi : i < size k
        · rw [List.getElem?_append_left (by rw [rows_len]; exact hi)] at hr
          exact IH k (hk k (by simp)) f' i r hr c hc
        · rw [List.getElem?_append_right (by rw [rows_len]; omega), rows_len] at hr
          have := ih (fun y hy => hk y (by simp [hy])) (f' + size k) (i - size k) r hr c hc
          omega
    have key2 : ∀ (q : List Ex) (f' : Nat), ∀ c ∈ (rowsEs q f').2, (f' : Int) ≤ c ∧ c < (f' : Int) + sizes q := by
      intro q
      induction q with
      | nil => intro f' c hc; simp [rowsEs] at hc
      | cons k q ih =>
        intro f' c hc
        have hp := size_pos k
        simp only [rowsEs] at hc
        rw [rows_len] at hc
        simp only [sizes]
        rcases List.mem_cons.1 hc with rfl | hc
        · omega
        · have := ih (f' + size k) c hc; omega
    have hl := rowsEs_len e.kids f
    by_cases hi : i < sizes e.kids
    · rw [List.getElem?_append_left (by omega)] at hr
      exact key e.kids (fun k hk => hk) f i r hr c hc
    · rw [List.getElem?_append_right (by omega)] at hr
      have hi0 : i - (rowsEs e.kids f).1.length = 0 := by
        rcases Nat.eq_zero_or_pos (i - (rowsEs e.kids f).1.length) with h | h
        · exact h
        · rw [List.getElem?_eq_none (by simp; omega)] at hr; cases hr
      rw [hi0] at hr
      have : r = { ownRow e with kids := (rowsEs e.kids f).2 } := by simpa using hr.symm
      subst this
      have := key2 e.kids f c hc
      omega

/-- how often each place is told -/
def timesOf (c : List Int) (L : Nat) : List Int := (List.range L).map fun x : Nat => ((c.count (x : Int) : Nat) : Int)
theorem timesOf_len (c : List Int) (L : Nat) : (timesOf c L).length = L := by simp [timesOf]
theorem timesOf_get (c : List Int) (L i : Nat) (h : i < L) : (timesOf c L)[i]? = some ((c.count (i : Int) : Nat) : Int) := by simp [timesOf, h]
theorem timesOf_set (c : List Int) (L : Nat) (k : Int) (h0 : 0 ≤ k) (hk : k < L) : (timesOf c L).set k.toNat (((c.count k : Nat) : Int) + 1) = timesOf (c ++ [k]) L := by
  apply List.ext_getElem?
  intro i
  by_cases hi : i < L
  · rw [timesOf_get _ _ _ hi, List.getElem?_set]
    by_cases he : k.toNat = i
    · subst he
      rw [if_pos rfl, if_pos (by rw [timesOf_len]; omega)]
      have : ((k.toNat : Nat) : Int) = k := by omega
      rw [this, List.count_append]
      simp
    · rw [if_neg he, timesOf_get _ _ _ hi, List.count_append]
      have : ([k] : List Int).count (i : Int) = 0 := by
        rw [List.count_eq_zero]
        simp
        omega
      rw [this]; rfl
  · rw [List.getElem?_eq_none (by rw [List.length_set, timesOf_len]; omega), List.getElem?_eq_none (by rw [timesOf_len]; omega)]

end Bz.S
