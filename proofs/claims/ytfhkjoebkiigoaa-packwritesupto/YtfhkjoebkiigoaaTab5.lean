/- Tables and their expressions: the plain law. -/
import Derived.Test.YtfhkjoebkiigoaaTab4
set_option linter.unusedSimpArgs false
set_option linter.unusedVariables false
namespace Bz.S
open Go Bz
set_option maxRecDepth 10000
set_option maxHeartbeats 4000000

mutual
def subsE : Ex → List Ex
  | .mk k s n lo hi kids => if k = 4 then [.mk k s n lo hi kids] else subsEs kids ++ [.mk k s n lo hi kids]
def subsEs : List Ex → List Ex
  | [] => []
  | e :: r => subsE e ++ subsEs r
end

theorem subsE_eq (e : Ex) : subsE e = if e.kind = 4 then [e] else subsEs e.kids ++ [e] := by cases e; rfl
theorem subs_len : ∀ e : Ex, (subsE e).length = size e := by
  refine exInd fun e IH => ?_
  have h : ∀ l : List Ex, (∀ k ∈ l, (subsE k).length = size k) → (subsEs l).length = sizes l := by
    intro l
    induction l with
    | nil => intro _; rfl
    | cons k r ih => intro h; simp only [subsEs, sizes, List.length_append]; rw [h k (by simp), ih fun k hk => h k (by simp [hk])]
  rw [subsE_eq, size_eq]
  unfold innerK
  split
  · rfl
  · simp [h e.kids IH]
theorem subsEs_len (l : List Ex) : (subsEs l).length = sizes l := by
  induction l with
  | nil => rfl
  | cons k r ih => simp only [subsEs, sizes, List.length_append]; rw [subs_len, ih]
theorem subs_last (e : Ex) : (subsE e)[size e - 1]? = some e := by
  have h := subs_len e
  rw [subsE_eq] at h ⊢
  split
  · rename_i h4
    rw [if_pos h4] at h
    simp at h
    rw [← h]; rfl
  · rename_i h4
    rw [if_neg h4] at h
    simp at h
    rw [show size e - 1 = (subsEs e.kids).length by omega]
    simp

theorem kidsAt_subs : ∀ (kids pre tail : List Ex), kidsAt (pre ++ subsEs kids ++ tail) (rowsEs kids pre.length).2 = some kids
  | [], pre, tail => rfl
  | k :: r, pre, tail => by
    have hs := size_pos k
    simp only [rowsEs, kidsAt]
    rw [rows_len]
    have h0 : ¬ (((pre.length + size k : Nat) : Int) - 1 < 0) := by omega
    have h1 : (((pre.length + size k : Nat) : Int) - 1).toNat = pre.length + (size k - 1) := by omega
    rw [if_neg h0, h1]
    have e : (pre ++ subsEs (k :: r) ++ tail) = (pre ++ subsE k) ++ subsEs r ++ tail := by simp [subsEs]
    have h2 : (pre ++ subsEs (k :: r) ++ tail)[pre.length + (size k - 1)]? = some k := by
      rw [e, List.append_assoc, List.append_assoc, List.getElem?_append_right (by omega), Nat.add_sub_cancel_left, List.getElem?_append_left (by rw [subs_len]; omega)]
      exact subs_last k
    rw [h2]
    simp only
    have h3 := kidsAt_subs r (pre ++ subsE k) tail
    rw [List.length_append, subs_len] at h3
    rw [e, h3]
    rfl

theorem set_back {e : Ex} (h4 : e.kind = 4) (hm : mayOK e = true) : mkRow (ownRow e) [] = e := by
  rw [may_eq, if_pos h4, Bool.and_eq_true] at hm
  have h5 := hm.2
  unfold setOK at h5
  simp only [Bool.and_eq_true, List.all_eq_true] at h5
  have hk : (e.kids.map Ex.name).map textEx = e.kids := by
    rw [List.map_map]
    conv => rhs; rw [← List.map_id e.kids]
    apply List.map_congr_left
    intro k hk
    obtain ⟨t1, t2, t3, t4, t5, _⟩ := (text_iff k).1 (h5.1.1 k hk)
    obtain ⟨kk, ks, kn, klo, khi, kkids⟩ := k
    simp only [Ex.kind, Ex.kids, Ex.n, Ex.lo, Ex.hi] at t1 t2 t3 t4 t5
    simp [textEx, Ex.name, t1, t2, t3, t4, t5]
  obtain ⟨k, s, n, lo, hi, kids⟩ := e
  simp only [Ex.kind] at h4
  simp only [Ex.kids] at hk
  subst h4
  simp only [mkRow, ownRow, Ex.kind, Ex.name, Ex.n, Ex.lo, Ex.hi, Ex.kids, if_true, List.append_nil, hk]
theorem own_back {e : Ex} (h4 : ¬ e.kind = 4) (idx : List Int) : mkRow { ownRow e with kids := idx } e.kids = e := by
  obtain ⟨k, s, n, lo, hi, kids⟩ := e
  simp only [Ex.kind] at h4
  simp [mkRow, ownRow, Ex.kind, Ex.name, Ex.n, Ex.lo, Ex.hi, Ex.kids, h4]

theorem back_rows : ∀ e : Ex, astCheck e = 0 → ∀ (known : List Ex) (rest : List Rw), backAll (rowsE e known.length ++ rest) known = backAll rest (known ++ subsE e) := by
  refine exInd (p := fun e => astCheck e = 0 → ∀ (known : List Ex) (rest : List Rw), backAll (rowsE e known.length ++ rest) known = backAll rest (known ++ subsE e)) fun e IH hz known rest => ?_
  have hm := (check_ok.1 hz).2.2
  rw [rowsE_eq, subsE_eq]
  by_cases h4 : e.kind = 4
  · rw [if_pos h4, if_pos h4]
    have hb : backRow (ownRow e) known = (e, true) := by
      unfold backRow
      have : (ownRow e).kids = [] := rfl
      rw [this]
      simp only [kidsAt, set_back h4 hm, hz, decide_true]
    simp only [List.cons_append, List.nil_append, backAll, hb, if_true]
  · rw [if_neg h4, if_neg h4]
    have key : ∀ (l : List Ex), (∀ k ∈ l, k ∈ e.kids) → ∀ (known : List Ex) (rest : List Rw), backAll ((rowsEs l known.length).1 ++ rest) known = backAll rest (known ++ subsEs l) := by
      intro l
      induction l with
      | nil => intro _ known rest; simp [rowsEs, subsEs]
      | cons k r ih =>
        intro hk known rest
        simp only [rowsEs, subsEs]
        rw [List.append_assoc, IH k (hk k (by simp)) (kid_ok hz (hk k (by simp))).1]
        have h2 := ih (fun x hx => hk x (by simp [hx])) (known ++ subsE k) rest
        rw [List.length_append, subs_len, ← rows_len k known.length] at h2
        rw [h2, List.append_assoc]
    rw [List.append_assoc, key e.kids (fun k hk => hk)]
    have hb : backRow { ownRow e with kids := (rowsEs e.kids known.length).2 } (known ++ subsEs e.kids) = (e, true) := by
      unfold backRow
      have := kidsAt_subs e.kids known []
      rw [List.append_nil] at this
      simp only [this, own_back h4, hz, decide_true]
    simp only [List.cons_append, List.nil_append, backAll, hb, if_true, List.append_assoc]

theorem tabBack_rows {e : Ex} (hz : astCheck e = 0) : tabBack (rowsE e 0) = (e, 0) := by
  have h := back_rows e hz [] []
  simp only [List.append_nil, List.nil_append, List.length_nil] at h
  unfold tabBack
  rw [h]
  simp only [backAll]
  have hl : (subsE e).getLast? = some e := by
    rw [List.getLast?_eq_getElem?, subs_len]; exact subs_last e
  rw [hl]
  unfold tabE
  simp [hz]
theorem tabBack_ok {l : List Rw} {e : Ex} (h : tabBack l = (e, 0)) : tabE e = l := by
  unfold tabBack at h
  split at h
  · cases h
  · split at h
    · cases h
    · split at h
      · rename_i h2; cases h; exact h2
      · cases h
theorem tabBack_cases (l : List Rw) : (∃ e, tabBack l = (e, 0) ∧ tabE e = l ∧ astCheck e = 0) ∨ tabBack l = (ex0, 16) := by
  have hall : ∀ (l' : List Rw) (a known : List Ex), (∀ e ∈ a, astCheck e = 0) → backAll l' a = some known → ∀ e ∈ known, astCheck e = 0 := by
    intro l'
    induction l' with
    | nil => intro a known h hk; cases hk; exact h
    | cons r rs ih =>
      intro a known h hk
      simp only [backAll] at hk
      split at hk
      · rename_i hb
        exact ih _ _ (fun x hx => by
          rcases List.mem_append.1 hx with h' | h'
          · exact h x h'
          · have : x = (backRow r a).1 := by simpa using h'
            subst this; exact backRow_ok hb) hk
      · cases hk
  unfold tabBack
  cases hb : backAll l [] with
  | none => exact .inr rfl
  | some known =>
    simp only
    cases hg : known.getLast? with
    | none => exact .inr rfl
    | some e =>
      simp only
      have hz := hall l [] known (by simp) hb e (List.mem_of_getLast? hg)
      by_cases ht : tabE e = l
      · rw [if_pos ht]; exact .inl ⟨e, rfl, ht, hz⟩
      · rw [if_neg ht]; exact .inr rfl

/-! ### the page's -/
theorem grow_rows : ∀ e : Ex, mayOK e = true → ∀ (l : List Rw) (f n : Nat) (left : Int), (∀ i, i < size e → l[f + i]? = (rowsE e f)[i]?) → f + size e ≤ n → (size e : Int) ≤ left → growF l n (f + size e - 1) left = some (e, left - size e) := by
  refine exInd (p := fun e => mayOK e = true → ∀ (l : List Rw) (f n : Nat) (left : Int), (∀ i, i < size e → l[f + i]? = (rowsE e f)[i]?) → f + size e ≤ n → (size e : Int) ≤ left → growF l n (f + size e - 1) left = some (e, left - size e)) fun e IH hm l f n left hl hn hle => ?_
  have hsp := size_pos e
  obtain ⟨n, rfl⟩ : ∃ m, n = m + 1 := ⟨n - 1, by omega⟩
  have hsz := size_eq e
  have hlast := hl (size e - 1) (by omega)
  rw [show f + (size e - 1) = f + size e - 1 by omega] at hlast
  simp only [growF]
  rw [if_neg (by omega), hlast]
  rw [rowsE_eq] at hl hlast ⊢
  unfold innerK at hsz
  by_cases h4 : e.kind = 4
  · rw [if_pos h4] at hsz ⊢
    simp only [sizes] at hsz
    rw [hsz]
    simp only [Nat.zero_add, Nat.sub_self, List.getElem?_cons_zero]
    have : (ownRow e).kids = [] := rfl
    rw [this]
    simp only [growKs, set_back h4 hm]
    simp
  · rw [if_neg h4] at hsz hl ⊢
    have hrl := rowsEs_len e.kids f
    have hrow : ((rowsEs e.kids f).1 ++ [{ ownRow e with kids := (rowsEs e.kids f).2 }])[size e - 1]? = some { ownRow e with kids := (rowsEs e.kids f).2 } := by
      rw [show size e - 1 = (rowsEs e.kids f).1.length by omega]; simp
    rw [hrow]
    simp only
    rw [may_eq, if_neg h4, Bool.and_eq_true, mayOKs_all, List.all_eq_true] at hm
    have key : ∀ (q : List Ex), (∀ k ∈ q, k ∈ e.kids) → ∀ (f' : Nat) (left' : Int), (∀ i, i < sizes q → l[f' + i]? = (rowsEs q f').1[i]?) → f' + sizes q ≤ f + size e - 1 → (sizes q : Int) ≤ left' →
        growKs (growF l n) (f + size e - 1) (rowsEs q f').2 left' = some (q, left' - sizes q) := by
      intro q
      induction q with
      | nil => intro _ f' left' _ _ _; simp [rowsEs, growKs, sizes]
      | cons k r ih =>
        intro hk f' left' hr hb hle'
        have hks := size_pos k
        simp only [sizes] at hr hb hle'
        simp only [rowsEs, growKs]
        rw [rows_len]
        have c1 : ¬ ((((f' + size k : Nat) : Int) - 1 < 0) ∨ ((f + size e - 1 : Nat) : Int) ≤ ((f' + size k : Nat) : Int) - 1) := by omega
        rw [if_neg c1]
        have c2 : (((f' + size k : Nat) : Int) - 1).toNat = f' + size k - 1 := by omega
        rw [c2]
        have hg := IH k (hk k (by simp)) (hm.2 k (hk k (by simp))) l f' n left' (fun i hi => by
          rw [hr i (by omega)]
          simp only [rowsEs]
          rw [List.getElem?_append_left (by rw [rows_len]; exact hi)]) (by omega) (by omega)
        rw [hg]
        simp only
        have h2 := ih (fun x hx => hk x (by simp [hx])) (f' + size k) (left' - size k) (fun i hi => by
          have := hr (size k + i) (by omega)
          rw [show f' + size k + i = f' + (size k + i) by omega, this]
          simp only [rowsEs]
          rw [List.getElem?_append_right (by rw [rows_len]; omega), rows_len, Nat.add_sub_cancel_left]) (by omega) (by omega)
        rw [h2]
        simp only [sizes]
        congr 2
        omega
    have h2 := key e.kids (fun k hk => hk) f (left - 1) (fun i hi => by
      rw [hl i (by omega), List.getElem?_append_left (by omega)]) (by omega) (by omega)
    rw [h2]
    simp only [own_back h4]
    congr 2
    omega

def refBack (l : List Rw) : Option Ex := if l.length = 0 ∨ 64 < l.length then none else match growF l l.length (l.length - 1) l.length with
  | none => none
  | some (e, z) => if z = 0 ∧ astCheck e = 0 ∧ rowsE e 0 = l then some e else none
theorem refBack_rows {e : Ex} (hz : astCheck e = 0) : refBack (rowsE e 0) = some e := by
  obtain ⟨h1, h2, h3⟩ := check_ok.1 hz
  have hl := rows_len e 0
  have hp := size_pos e
  unfold refBack
  rw [hl, if_neg (by omega)]
  have hg := grow_rows e h3 (rowsE e 0) 0 (size e) (size e) (fun i _ => by rw [Nat.zero_add]) (by omega) (by omega)
  rw [Nat.zero_add] at hg
  rw [hg]
  simp [hz]
theorem refBack_ok {l : List Rw} {e : Ex} (h : refBack l = some e) : astCheck e = 0 ∧ rowsE e 0 = l := by
  unfold refBack at h
  split at h
  · cases h
  · split at h
    · cases h
    · split at h
      · rename_i h2; cases h; exact h2.2
      · cases h
/-- both alike -/
theorem tab_ref (l : List Rw) : tabBack l = match refBack l with | some e => (e, 0) | none => (ex0, 16) := by
  rcases tabBack_cases l with ⟨e, h1, h2, h3⟩ | h1
  · unfold tabE at h2
    rw [if_pos h3] at h2
    have := refBack_rows h3
    rw [h2] at this
    rw [this, h1]
  · cases hr : refBack l with
    | none => exact h1
    | some e =>
      obtain ⟨h2, h3⟩ := refBack_ok hr
      have := tabBack_rows h2
      rw [h3] at this
      exact this

/-! ### sizes -/
theorem size_bound : ∀ e : Ex, mayOK e = true → exN e ≤ 400 * size e := by
  refine exInd (p := fun e => mayOK e = true → exN e ≤ 400 * size e) fun e IH hm => ?_
  have hN := exN_eq e
  have hsz := size_eq e
  have hname : ∀ e : Ex, ownOK e = true → e.name.length ≤ 32 := by
    intro e ho
    unfold ownOK at ho
    have hp : plainB e.name = true → e.name.length ≤ 32 := fun h => by
      unfold plainB at h; simp only [Bool.and_eq_true, decide_eq_true_eq] at h; exact h.1
    have hn : nameB e.name = true → e.name.length ≤ 32 := fun h => by
      unfold nameB at h
      split at h
      · cases h
      · rename_i hs
        simp only [Bool.and_eq_true, decide_eq_true_eq] at h
        omega
    have h0 : e.name = [] → e.name.length ≤ 32 := fun h => by rw [h]; simp
    repeat' split at ho
    all_goals
      simp only [Bool.and_eq_true, decide_eq_true_eq] at ho
      first
        | exact h0 ho.1.1.1
        | exact h0 ho.1.1
        | exact hp ho.1.1.1
        | exact hn ho.1.1.1
  rw [may_eq] at hm
  unfold innerK at hsz
  by_cases h4 : e.kind = 4
  · rw [if_pos h4, Bool.and_eq_true] at hm
    rw [if_pos h4] at hsz
    simp only [sizes] at hsz
    have h5 := hm.2
    unfold setOK at h5
    simp only [Bool.and_eq_true, List.all_eq_true, decide_eq_true_eq] at h5
    have hk : ∀ l : List Ex, (∀ k ∈ l, textOK k = true) → exNs l ≤ 38 * l.length := by
      intro l
      induction l with
      | nil => intro _; simp [exNs_nil]
      | cons k r ih =>
        intro h
        have h1 := ih fun k hk => h k (by simp [hk])
        have h2 := h k (by simp)
        have h3 := exN_eq k
        have h4 := hname k (by unfold textOK at h2; simp only [Bool.and_eq_true] at h2; exact h2.2)
        have h5 := ((text_iff k).1 h2).2.1
        rw [h5, exNs_nil] at h3
        rw [exNs_cons, List.length_cons]
        omega
    have := hk e.kids h5.1.1
    have := hname e hm.1
    omega
  · rw [if_neg h4, Bool.and_eq_true, Bool.and_eq_true, mayOKs_all, List.all_eq_true] at hm
    rw [if_neg h4] at hsz
    have hk : ∀ l : List Ex, (∀ k ∈ l, k ∈ e.kids) → exNs l ≤ 400 * sizes l := by
      intro l
      induction l with
      | nil => intro _; simp [exNs_nil, sizes]
      | cons k r ih =>
        intro h
        have h1 := ih fun k hk => h k (by simp [hk])
        have h2 := IH k (h k (by simp)) (hm.2 k (h k (by simp)))
        rw [exNs_cons]
        simp only [sizes]
        omega
    have := hk e.kids fun k hk => hk
    have := hname e hm.1.2
    omega
theorem check_bound {e : Ex} (h : astCheck e = 0) : exN e ≤ 25600 := by
  obtain ⟨_, h2, h3⟩ := check_ok.1 h
  have := size_bound e h3
  omega

def rwN (r : Rw) : Nat := bulkL (rwC r)
theorem texts_bulk (l : List Txt) : exNs (l.map textEx) ≤ 6 * bulkLL (l.map sxC) ∧ l.length ≤ bulkLL (l.map sxC) := by
  induction l with
  | nil => simp [exNs_nil]
  | cons s r ih =>
    have h1 : exN (textEx s) = s.length + 6 := by rw [exN_eq]; simp [textEx, Ex.name, Ex.kids, exNs_nil]
    simp only [List.map_cons, bulkLL, exNs_cons, h1, sxC, bulkL, bulkD, List.length_cons]
    omega
theorem ints_bulk (l : List Int) : l.length ≤ bulkLL (l.map i6C) := by
  exact len_bulkLL i6C (fun _ => by simp [bulkL, bulkD]) l
theorem exNs_app (l m : List Ex) : exNs (l ++ m) = exNs l + exNs m := by
  induction l with
  | nil => simp [exNs_nil]
  | cons k r ih => rw [List.cons_append, exNs_cons, exNs_cons, ih]; omega
theorem mkRow_bulk (r : Rw) (ks : List Ex) : exN (mkRow r ks) ≤ 6 * rwN r + exNs ks := by
  have h := exN_eq (mkRow r ks)
  have h2 := texts_bulk r.set
  simp only [mkRow, Ex.name, Ex.kids, exNs_app] at h
  unfold mkRow
  rw [h]
  simp only [rwN, rwC, bulkL, bulkD]
  omega
theorem rw_bulk (l : List Rw) : l.length ≤ bulkLL (l.map rwC) ∧ ∀ r ∈ l, rwN r ≤ bulkLL (l.map rwC) := by
  induction l with
  | nil => simp
  | cons r q ih =>
    have h1 : 1 ≤ bulkL (rwC r) := by simp only [rwC, bulkL, bulkD]; omega
    simp only [List.map_cons, bulkLL, List.length_cons]
    refine ⟨by omega, fun x hx => ?_⟩
    rcases List.mem_cons.1 hx with rfl | hx
    · unfold rwN; omega
    · have := ih.2 x hx; omega
theorem kidsAt_bound {known : List Ex} {B : Nat} (hk : ∀ e ∈ known, exN e ≤ B) : ∀ (ks : List Int) (es : List Ex), kidsAt known ks = some es → exNs es ≤ B * ks.length
  | [], es, h => by cases h; simp [exNs_nil]
  | k :: r, es, h => by
    simp only [kidsAt] at h
    split at h
    · cases h
    · split at h
      · cases h
      · rename_i e he
        cases hr : kidsAt known r with
        | none => rw [hr] at h; cases h
        | some q =>
          rw [hr] at h
          cases h
          have h1 := kidsAt_bound hk r q hr
          have h2 := hk e (List.mem_of_getElem? he)
          rw [exNs_cons, List.length_cons, Nat.mul_succ]
          omega
theorem tabB {l : List Rw} (h : bulkLL (l.map rwC) ≤ 1048576) : TabB l := by
  have hb := rw_bulk l
  have hr : ∀ r ∈ l, RwOK r := fun r hr => by
    have h1 := hb.2 r hr
    have h2 := (texts_bulk r.set).2
    have h3 := ints_bulk r.kids
    have h4 : bulkLL (r.set.map sxC) ≤ rwN r ∧ bulkLL (r.kids.map i6C) ≤ rwN r := by simp only [rwN, rwC, bulkL, bulkD]; omega
    exact ⟨by unfold BIG; omega, by unfold BIG; omega⟩
  refine ⟨by unfold BIG; omega, hr, fun r hmem known ks hk hks => ?_, fun e he => by have := check_bound he; unfold BIG; omega⟩
  have h1 := kidsAt_bound (B := 25600) (fun e he => check_bound (hk e he)) _ _ hks
  have h2 := mkRow_bulk r ks
  have h3 := hb.2 r hmem
  have h4 := ints_bulk r.kids
  have h5 : bulkLL (r.kids.map i6C) ≤ rwN r := by simp only [rwN, rwC, bulkL, bulkD]; omega
  unfold BIG
  omega
theorem growKs_bound {g : Nat → Int → Option (Ex × Int)} {at_ W : Nat} (hg : ∀ k left e z, g k left = some (e, z) → (exN e : Int) ≤ (left - z) * W) : ∀ (ks : List Int) (left : Int) (es : List Ex) (z : Int), growKs g at_ ks left = some (es, z) → (exNs es : Int) ≤ (left - z) * W
  | [], left, es, z, h => by cases h; simp [exNs_nil]
  | k :: r, left, es, z, h => by
    simp only [growKs] at h
    split at h
    · cases h
    · split at h
      · cases h
      · rename_i e y hk
        split at h
        · cases h
        · rename_i es' z' hr
          cases h
          have h1 := hg _ _ _ _ hk
          have h2 := growKs_bound hg r y es' z hr
          rw [exNs_cons]
          have : (left - z) * (W : Int) = (left - y) * W + (y - z) * W := by rw [← Int.add_mul]; congr 1; omega
          omega
theorem growF_bound {l : List Rw} {W : Nat} (hW : ∀ r ∈ l, 6 * rwN r ≤ W) : ∀ (n at_ : Nat) (left : Int) (e : Ex) (z : Int), growF l n at_ left = some (e, z) → (exN e : Int) ≤ (left - z) * W
  | 0, _, _, _, _, h => by cases h
  | n + 1, at_, left, e, z, h => by
    simp only [growF] at h
    split at h
    · cases h
    · split at h
      · cases h
      · rename_i r hr
        split at h
        · cases h
        · rename_i ks z' hk
          cases h
          have h1 := growKs_bound (growF_bound hW n) _ _ _ _ hk
          have h2 := mkRow_bulk r ks
          have h3 := hW r (List.mem_of_getElem? hr)
          have : (left - z) * (W : Int) = (left - 1 - z) * W + W := by rw [show left - z = (left - 1 - z) + 1 by omega, Int.add_mul, Int.one_mul]
          omega
theorem run_refBack' (l : List Rw) (hT : TabB l) (hW : ∀ r ∈ l, rwN r ≤ 1048576) : R F_ref13_Back [rwS l] [] = some (.tup [exA ((refBack l).getD ex0), .d (.bool (refBack l).isSome)], []) := by
  refine R_of at_ref13_Back (by decide) ?_
  have hn := hT.n
  unfold BIG at hn
  by_cases h0 : l.length = 0
  · have : l = [] := List.eq_nil_of_length_eq_zero h0
    subst this
    simp -implicitDefEqProofs [code_ref13_Back, refBack]
    simp -implicitDefEqProofs [ex0, Ex.kind, Ex.name, Ex.n, Ex.lo, Ex.hi, Ex.kids]
  have h0' : ¬ (l.length : Int) = 0 := by omega
  have h0'' : ¬ l = [] := fun h => h0 (by rw [h]; rfl)
  by_cases h64 : 64 < l.length
  · have h64' : (64 : Int) < l.length := by omega
    have hr : refBack l = none := by unfold refBack; rw [if_pos (.inr h64)]
    rw [hr]
    simp -implicitDefEqProofs [code_ref13_Back, h0', h0'', h64']
    simp -implicitDefEqProofs [ex0, Ex.kind, Ex.name, Ex.n, Ex.lo, Ex.hi, Ex.kids]
  have h64' : ¬ (64 : Int) < l.length := by omega
  have hw := wrap_ok (a := (l.length : Int) - 1) (by omega) (by omega)
  have hg := run_grow l hT.n hT.r l.length (l.length - 1) l.length (by omega) (by omega) (by omega) (by unfold BIG; omega)
  rw [show ((l.length - 1 : Nat) : Int) = (l.length : Int) - 1 by omega] at hg
  have hrB : refBack l = match growF l l.length (l.length - 1) l.length with
    | none => none
    | some (e, z) => if z = 0 ∧ astCheck e = 0 ∧ rowsE e 0 = l then some e else none := by
    unfold refBack; rw [if_neg (by omega)]
  have hbd := fun e z => growF_bound (W := 6 * 1048576) (fun r hr => by have := hW r hr; omega) l.length (l.length - 1) l.length e z
  have hlo := fun e z => growF_lo l l.length (l.length - 1) l.length e z
  rw [hrB]
  generalize growF l l.length (l.length - 1) l.length = G at *
  cases G with
  | none =>
    simp -implicitDefEqProofs [growR, exA] at hg
    simp -implicitDefEqProofs [code_ref13_Back, h0', h0'', h64', hw, hg]
    simp -implicitDefEqProofs [ex0, Ex.kind, Ex.name, Ex.n, Ex.lo, Ex.hi, Ex.kids]
  | some p =>
    obtain ⟨e, z⟩ := p
    have hz := hlo e z rfl
    have heb : exN e ≤ BIG := by
      have h1 := hbd e z rfl
      have h2 : ((l.length : Int) - z) * ((6 * 1048576 : Nat) : Int) ≤ 64 * ((6 * 1048576 : Nat) : Int) := Int.mul_le_mul_of_nonneg_right (by omega) (by omega)
      unfold BIG
      omega
    have hc := run_refCheck e heb
    simp -implicitDefEqProofs [growR] at hg
    by_cases z0 : z = 0
    · subst z0
      by_cases hck : astCheck e = 0
      · have hO := run_13Of e heb 0 (by have := (check_ok.1 hck).2.1; unfold BIG; omega)
        have hsm := run_Same13 (rowsE e 0) l (by rw [rows_len]; have := (check_ok.1 hck).2.1; unfold BIG; omega) hT.n (by have := rows_OK hck; unfold tabE at this; rw [if_pos hck] at this; exact this) hT.r
        rw [hck] at hc
        generalize hQ : rowsE e 0 = Q at *
        simp -implicitDefEqProofs at hO
        by_cases hq : Q = l
        · subst hq
          simp -implicitDefEqProofs at hsm
          simp -implicitDefEqProofs [code_ref13_Back, h0', h0'', h64', hw, hg, hc, hO, hsm, hck, hQ]
        · simp -implicitDefEqProofs [hq] at hsm
          simp -implicitDefEqProofs [code_ref13_Back, h0', h0'', h64', hw, hg, hc, hO, hsm, hck, hq, hQ]
          simp -implicitDefEqProofs [ex0, Ex.kind, Ex.name, Ex.n, Ex.lo, Ex.hi, Ex.kids]
      · simp -implicitDefEqProofs [code_ref13_Back, h0', h0'', h64', hw, hg, hc, hck]
        simp -implicitDefEqProofs [ex0, Ex.kind, Ex.name, Ex.n, Ex.lo, Ex.hi, Ex.kids]
    · simp -implicitDefEqProofs [code_ref13_Back, h0', h0'', h64', hw, hg, z0]
      simp -implicitDefEqProofs [ex0, Ex.kind, Ex.name, Ex.n, Ex.lo, Ex.hi, Ex.kids]
theorem run_refBack (l : List Rw) (hb : bulkLL (l.map rwC) ≤ 1048576) : R F_ref13_Back [rwS l] [] = some (.tup [exA ((refBack l).getD ex0), .d (.bool (refBack l).isSome)], []) :=
  run_refBack' l (tabB hb) fun r hr => by have := (rw_bulk l).2 r hr; omega
/-- short rows are no trouble -/
structure RwS (r : Rw) : Prop where
  s : r.name.length ≤ 255
  st : r.set.length ≤ 255
  t : ∀ t ∈ r.set, t.length ≤ 255
  k : r.kids.length ≤ 255
theorem rwS_N {r : Rw} (h : RwS r) : rwN r ≤ 100000 := by
  have h1 : ∀ l : List Txt, (∀ t ∈ l, t.length ≤ 255) → bulkLL (l.map sxC) ≤ 300 * l.length := by
    intro l
    induction l with
    | nil => intro _; simp [bulkLL]
    | cons t r ih =>
      intro h
      have h1 := ih fun t ht => h t (by simp [ht])
      have h2 := h t (by simp)
      simp only [List.map_cons, bulkLL, sxC, bulkL, bulkD, List.length_cons]
      omega
  have h2 : ∀ l : List Int, bulkLL (l.map i6C) ≤ 3 * l.length := by
    intro l
    induction l with
    | nil => simp [bulkLL]
    | cons k r ih => simp only [List.map_cons, bulkLL, i6C, bulkL, bulkD, List.length_cons]; omega
  have h3 := h1 r.set h.t
  have h4 := h2 r.kids
  have h5 := h.st
  have h6 := h.k
  have h7 := h.s
  simp only [rwN, rwC, bulkL, bulkD]
  omega
theorem tabB2 {l : List Rw} (hl : l.length ≤ 255) (h : ∀ r ∈ l, RwS r) : TabB l := by
  refine ⟨by unfold BIG; omega, fun r hr => ⟨by have := (h r hr).st; unfold BIG; omega, by have := (h r hr).k; unfold BIG; omega⟩, fun r hmem known ks hk hks => ?_, fun e he => by have := check_bound he; unfold BIG; omega⟩
  have h1 := kidsAt_bound (B := 25600) (fun e he => check_bound (hk e he)) _ _ hks
  have h2 := mkRow_bulk r ks
  have h3 := rwS_N (h r hmem)
  have h4 := (h r hmem).k
  unfold BIG
  omega
end Bz.S
