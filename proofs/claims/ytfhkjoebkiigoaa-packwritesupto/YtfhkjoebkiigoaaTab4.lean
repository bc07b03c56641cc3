/- The page's tables: Same, grow, Back, walked. -/
import Derived.Test.YtfhkjoebkiigoaaTab3
set_option linter.unusedSimpArgs false
set_option linter.unusedVariables false
namespace Bz.S
open Go Bz
set_option maxRecDepth 10000
set_option maxHeartbeats 4000000

abbrev rwV (r : Rw) : List AV := [.d (.int .i64 r.kind), .d (.str r.name), .d (.int .i64 r.n), .d (.int .i64 r.lo), .d (.int .i64 r.hi), sxS r.set, i6S r.kids]
abbrev smH (x y : Rw) : Heap := [(70080, .var (rwV x)), (70090, .var (rwV y))]

theorem same_set (a b : List Rw) (i : Nat) (x y : Rw) (hx : x.set.length ≤ BIG) (hl : x.set.length = y.set.length) :
    ∀ s, trim mask_ref13_Same_0 s = ⟨mkE 116 [(0, rwS a), (1, rwS b), (5, .d (.int .i64 i)), (6, .pv 70080 0), (7, .pv 70090 0), (8, .d (.int .i64 ((0 : Nat) : Int)))], smH x y⟩ →
      exL X (.loop mask_ref13_Same_0 body_ref13_Same_0) s = some (if x.set = y.set then (.exit 2, ⟨mkE 116 [(0, rwS a), (1, rwS b), (5, .d (.int .i64 i)), (6, .pv 70080 0), (7, .pv 70090 0)], smH x y⟩) else (.ret, ⟨mkE 116 [(4, .d (.bool false))], []⟩)) := by
  unfold BIG at hx
  have hL := loop_find (X := X) (mask := mask_ref13_Same_0) (body := body_ref13_Same_0) x.set
    (fun j => ⟨mkE 116 [(0, rwS a), (1, rwS b), (5, .d (.int .i64 i)), (6, .pv 70080 0), (7, .pv 70090 0), (8, .d (.int .i64 j))], smH x y⟩)
    (fun j t => decide (¬ y.set[j]? = some t)) (.exit 2, ⟨mkE 116 [(0, rwS a), (1, rwS b), (5, .d (.int .i64 i)), (6, .pv 70080 0), (7, .pv 70090 0)], smH x y⟩) (fun _ _ => (.ret, ⟨mkE 116 [(4, .d (.bool false))], []⟩)) (by simp) (by simp)
    (fun j t hj ht hq => by
      have hj2 : j < y.set.length := by omega
      have hw := wrap_ok (a := (j : Int) + 1) (by omega) (by omega)
      simp only [List.getElem?_eq_getElem hj2] at hq
      have hq' : y.set[j] = t := by simpa using hq
      simp -implicitDefEqProofs [body_ref13_Same_0, mask_ref13_Same_0, hj, ht, hj2, hq', hw])
    (fun j t hj ht hq => by
      have hj2 : j < y.set.length := by omega
      simp only [List.getElem?_eq_getElem hj2] at hq
      have hq' : ¬ t = y.set[j] := fun h => by rw [h] at hq; simp at hq
      simp -implicitDefEqProofs [body_ref13_Same_0, mask_ref13_Same_0, hj, ht, hj2, hq']) (by simp -implicitDefEqProofs [body_ref13_Same_0])
  intro s hs
  rw [hL s hs]
  have hd := find_diff13 hl
  cases hF : findI (fun j t => decide (¬ y.set[j]? = some t)) x.set 0 with
  | none => rw [if_pos (hd.1 hF)]; rfl
  | some q =>
    have : ¬ x.set = y.set := fun h => by rw [hd.2 h] at hF; cases hF
    rw [if_neg this]; rfl
theorem same_kids (a b : List Rw) (i : Nat) (x y : Rw) (hx : x.kids.length ≤ BIG) (hl : x.kids.length = y.kids.length) :
    ∀ s, trim mask_ref13_Same_1 s = ⟨mkE 116 [(0, rwS a), (1, rwS b), (5, .d (.int .i64 i)), (6, .pv 70080 0), (7, .pv 70090 0), (9, .d (.int .i64 ((0 : Nat) : Int)))], smH x y⟩ →
      exL X (.loop mask_ref13_Same_1 body_ref13_Same_1) s = some (if x.kids = y.kids then (.exit 4, ⟨mkE 116 [(0, rwS a), (1, rwS b), (5, .d (.int .i64 i))], []⟩) else (.ret, ⟨mkE 116 [(4, .d (.bool false))], []⟩)) := by
  unfold BIG at hx
  have hL := loop_find (X := X) (mask := mask_ref13_Same_1) (body := body_ref13_Same_1) x.kids
    (fun j => ⟨mkE 116 [(0, rwS a), (1, rwS b), (5, .d (.int .i64 i)), (6, .pv 70080 0), (7, .pv 70090 0), (9, .d (.int .i64 j))], smH x y⟩)
    (fun j t => decide (¬ y.kids[j]? = some t)) (.exit 4, ⟨mkE 116 [(0, rwS a), (1, rwS b), (5, .d (.int .i64 i))], []⟩) (fun _ _ => (.ret, ⟨mkE 116 [(4, .d (.bool false))], []⟩)) (by simp) (by simp)
    (fun j t hj ht hq => by
      have hj2 : j < y.kids.length := by omega
      have hw := wrap_ok (a := (j : Int) + 1) (by omega) (by omega)
      simp only [List.getElem?_eq_getElem hj2] at hq
      have hq' : y.kids[j] = t := by simpa using hq
      simp -implicitDefEqProofs [body_ref13_Same_1, mask_ref13_Same_1, hj, ht, hj2, hq', hw])
    (fun j t hj ht hq => by
      have hj2 : j < y.kids.length := by omega
      simp only [List.getElem?_eq_getElem hj2] at hq
      have hq' : ¬ t = y.kids[j] := fun h => by rw [h] at hq; simp at hq
      simp -implicitDefEqProofs [body_ref13_Same_1, mask_ref13_Same_1, hj, ht, hj2, hq']) (by simp -implicitDefEqProofs [body_ref13_Same_1])
  intro s hs
  rw [hL s hs]
  have hd := find_diff13 hl
  cases hF : findI (fun j t => decide (¬ y.kids[j]? = some t)) x.kids 0 with
  | none => rw [if_pos (hd.1 hF)]; rfl
  | some q =>
    have : ¬ x.kids = y.kids := fun h => by rw [hd.2 h] at hF; cases hF
    rw [if_neg this]; rfl

theorem run_Same13 (a b : List Rw) (ha : a.length ≤ BIG) (hb : b.length ≤ BIG) (hao : ∀ r ∈ a, RwOK r) (hbo : ∀ r ∈ b, RwOK r) : R F_ref13_Same [rwS a, rwS b] [] = some (.d (.bool (decide (a = b))), []) := by
  refine R_of at_ref13_Same (by decide) ?_
  unfold BIG at ha hb
  by_cases hl : a.length = b.length
  · have hli : (a.length : Int) = b.length := by omega
    have hL := loop_find (X := X) (mask := mask_ref13_Same_2) (body := body_ref13_Same_2) a
      (fun i => ⟨mkE 116 [(0, rwS a), (1, rwS b), (5, .d (.int .i64 i))], []⟩)
      (fun i x => decide (¬ b[i]? = some x)) (.exit 0, ⟨mkE 116 [], []⟩) (fun i _ => (.ret, ⟨mkE 116 [(4, .d (.bool false))], []⟩)) (by simp) (by simp)
      (fun i e hi he hq => by
        have hj : i < b.length := by omega
        have hw := wrap_ok (a := (i : Int) + 1) (by omega) (by omega)
        simp only [List.getElem?_eq_getElem hj] at hq
        have hq' : b[i] = e := by simpa using hq
        have ho := hao e (he ▸ List.getElem_mem hi)
        have h1 := same_set a b i e e ho.s rfl
        have h2 := same_kids a b i e e ho.k rfl
        simp only [if_true] at h1 h2
        simp -implicitDefEqProofs [body_ref13_Same_2, mask_ref13_Same_2, hi, he, hj, hq']
        rw [h1 _ (by simp -implicitDefEqProofs [mask_ref13_Same_0])]
        simp -implicitDefEqProofs
        rw [h2 _ (by simp -implicitDefEqProofs [mask_ref13_Same_1])]
        simp -implicitDefEqProofs [hw]
        exact ⟨_, _, ⟨rfl, rfl⟩, rfl, by simp -implicitDefEqProofs⟩)
      (fun i e hi he hq => by
        have hj : i < b.length := by omega
        simp only [List.getElem?_eq_getElem hj] at hq
        have hq' : ¬ b[i] = e := fun h => by rw [h] at hq; simp at hq
        have ho := hao e (he ▸ List.getElem_mem hi)
        have ho2 := hbo _ (List.getElem_mem hj)
        obtain ⟨y, hy⟩ : ∃ y, b[i] = y := ⟨_, rfl⟩
        rw [hy] at hq' ho2
        have h1 := same_set a b i e y ho.s
        have h2 := same_kids a b i e y ho.k
        by_cases c1 : e.kind = y.kind
        · by_cases c2 : e.name = y.name
          · by_cases c3 : e.n = y.n
            · by_cases c4 : e.lo = y.lo
              · by_cases c5 : e.hi = y.hi
                · by_cases c6 : e.set.length = y.set.length
                  · have c6' : (e.set.length : Int) = y.set.length := by omega
                    by_cases c7 : e.kids.length = y.kids.length
                    · have c7' : (e.kids.length : Int) = y.kids.length := by omega
                      have h1 := h1 c6
                      have h2 := h2 c7
                      by_cases c8 : e.set = y.set
                      · have c9 : ¬ e.kids = y.kids := by
                          intro c9
                          apply hq'
                          obtain ⟨k, s, n, lo, hi, st, kd⟩ := e
                          obtain ⟨k', s', n', lo', hi', st', kd'⟩ := y
                          simp only at c1 c2 c3 c4 c5 c8 c9
                          simp only [c1, c2, c3, c4, c5, c8, c9]
                        simp only [if_pos c8] at h1
                        simp only [if_neg c9] at h2
                        simp -implicitDefEqProofs [body_ref13_Same_2, mask_ref13_Same_2, hi, he, hj, hy, c1, c2, c3, c4, c5, c6, c7]
                        simp -implicitDefEqProofs [c1, c2, c3, c4, c5] at h1 h2
                        rw [h1 _ (by simp -implicitDefEqProofs [mask_ref13_Same_0, c1, c2, c3, c4, c5])]
                        simp -implicitDefEqProofs
                        rw [h2 _ (by simp -implicitDefEqProofs [mask_ref13_Same_1, c1, c2, c3, c4, c5])]
                        simp -implicitDefEqProofs
                      · simp only [if_neg c8] at h1
                        simp -implicitDefEqProofs [body_ref13_Same_2, mask_ref13_Same_2, hi, he, hj, hy, c1, c2, c3, c4, c5, c6, c7]
                        simp -implicitDefEqProofs [c1, c2, c3, c4, c5] at h1
                        rw [h1 _ (by simp -implicitDefEqProofs [mask_ref13_Same_0, c1, c2, c3, c4, c5])]
                        simp -implicitDefEqProofs
                    · have c7' : ¬ (e.kids.length : Int) = y.kids.length := by omega
                      simp -implicitDefEqProofs [body_ref13_Same_2, mask_ref13_Same_2, hi, he, hj, hy, c1, c2, c3, c4, c5, c6, c7']
                  · have c6' : ¬ (e.set.length : Int) = y.set.length := by omega
                    simp -implicitDefEqProofs [body_ref13_Same_2, mask_ref13_Same_2, hi, he, hj, hy, c1, c2, c3, c4, c5, c6']
                · simp -implicitDefEqProofs [body_ref13_Same_2, mask_ref13_Same_2, hi, he, hj, hy, c1, c2, c3, c4, c5]
              · simp -implicitDefEqProofs [body_ref13_Same_2, mask_ref13_Same_2, hi, he, hj, hy, c1, c2, c3, c4]
            · simp -implicitDefEqProofs [body_ref13_Same_2, mask_ref13_Same_2, hi, he, hj, hy, c1, c2, c3]
          · simp -implicitDefEqProofs [body_ref13_Same_2, mask_ref13_Same_2, hi, he, hj, hy, c1, c2]
        · simp -implicitDefEqProofs [body_ref13_Same_2, mask_ref13_Same_2, hi, he, hj, hy, c1]) (by simp -implicitDefEqProofs [body_ref13_Same_2])
    simp -implicitDefEqProofs [code_ref13_Same, hli]
    rw [hL _ (by simp -implicitDefEqProofs [mask_ref13_Same_2])]
    have hd := find_diff13 hl
    cases hF : findI (fun i x => decide (¬ b[i]? = some x)) a 0 with
    | none =>
      have := hd.1 hF
      simp -implicitDefEqProofs [this]
    | some q =>
      have : ¬ a = b := fun h => by rw [hd.2 h] at hF; cases hF
      simp -implicitDefEqProofs [this]
  · have hli : ¬ (a.length : Int) = b.length := by omega
    have : ¬ a = b := fun h => hl (by rw [h])
    simp -implicitDefEqProofs [code_ref13_Same, hli, this]

/-! ### an expression out of a table -/
def growKs (g : Nat → Int → Option (Ex × Int)) (at_ : Nat) : List Int → Int → Option (List Ex × Int)
  | [], left => some ([], left)
  | k :: r, left => if k < 0 ∨ (at_ : Int) ≤ k then none else match g k.toNat left with
    | none => none
    | some (e, z) => match growKs g at_ r z with
      | none => none
      | some (es, y) => some (e :: es, y)
def growF (l : List Rw) : Nat → Nat → Int → Option (Ex × Int)
  | 0, _, _ => none
  | n + 1, at_, left => if left < 1 then none else match l[at_]? with
    | none => none
    | some r => match growKs (growF l n) at_ r.kids (left - 1) with
      | none => none
      | some (ks, z) => some (mkRow r ks, z)
theorem growKs_lo {g : Nat → Int → Option (Ex × Int)} {at_ : Nat} (hg : ∀ k left e z, g k left = some (e, z) → 0 ≤ z ∧ z ≤ left) : ∀ (ks : List Int) (left : Int) (es : List Ex) (z : Int), 0 ≤ left → growKs g at_ ks left = some (es, z) → 0 ≤ z ∧ z ≤ left
  | [], left, es, z, h0, h => by cases h; omega
  | k :: r, left, es, z, h0, h => by
    simp only [growKs] at h
    split at h
    · cases h
    · split at h
      · cases h
      · rename_i e y hk
        split at h
        · cases h
        · rename_i es' z' hr
          cases h
          have h1 := hg _ _ _ _ hk
          have h2 := growKs_lo hg r y es' z h1.1 hr
          omega
theorem growF_lo (l : List Rw) : ∀ (n at_ : Nat) (left : Int) (e : Ex) (z : Int), growF l n at_ left = some (e, z) → 0 ≤ z ∧ z ≤ left
  | 0, _, _, _, _, h => by cases h
  | n + 1, at_, left, e, z, h => by
    simp only [growF] at h
    split at h
    · cases h
    · split at h
      · cases h
      · split at h
        · cases h
        · rename_i ks z' hk
          cases h
          have := growKs_lo (growF_lo l n) _ _ _ _ (by omega) hk
          omega
def growR : Option (Ex × Int) → AV
  | none => .tup [exA ex0, .d (.int .i64 (-1))]
  | some (e, z) => .tup [exA e, .d (.int .i64 z)]
def growS (g : Nat → Int → Option (Ex × Int)) (at_ : Nat) : Nat → List Ex × Int → Int → (List Ex × Int) ⊕ Unit := fun _ a k => if k < 0 ∨ (at_ : Int) ≤ k then .inr () else match g k.toNat a.2 with
  | none => .inr ()
  | some (e, z) => .inl (a.1 ++ [e], z)
theorem growS_fold (g : Nat → Int → Option (Ex × Int)) (at_ : Nat) : ∀ (ks : List Int) (i : Nat) (a : List Ex) (left : Int), foldS (growS g at_) ks i (a, left) = match growKs g at_ ks left with | none => .inr () | some (es, z) => .inl (a ++ es, z)
  | [], i, a, left => by simp [growKs]
  | k :: r, i, a, left => by
    rw [foldS_cons]
    simp only [growS, growKs]
    by_cases hk : k < 0 ∨ (at_ : Int) ≤ k
    · simp [hk]
    · simp only [hk, if_false]
      cases g k.toNat left with
      | none => rfl
      | some p =>
        obtain ⟨e, z⟩ := p
        change foldS (growS g at_) r (i + 1) (a ++ [e], z) = _
        rw [growS_fold g at_ r (i + 1) (a ++ [e]) z]
        simp only
        cases growKs g at_ r z with
        | none => rfl
        | some q => simp

theorem run_grow (l : List Rw) (hl : l.length ≤ BIG) (hr : ∀ r ∈ l, RwOK r) : ∀ (n at_ : Nat) (left : Int), at_ < n → at_ < l.length → 0 ≤ left → left ≤ BIG → R F_ref13_grow [rwS l, .d (.int .i64 at_), .d (.int .i64 left)] [] = some (growR (growF l n at_ left), []) := by
  intro n
  induction n with
  | zero => intro at_ left h; omega
  | succ n ih =>
    intro at_ left han hal h0 hB
    refine R_of at_ref13_grow (by decide) ?_
    unfold BIG at hl hB
    by_cases c1 : left < 1
    · have e : growF l (n + 1) at_ left = none := by simp [growF, c1]
      rw [e]
      simp -implicitDefEqProofs [code_ref13_grow, c1, growR]
      simp -implicitDefEqProofs [ex0, Ex.kind, Ex.name, Ex.n, Ex.lo, Ex.hi, Ex.kids]
    · obtain ⟨r, hrx⟩ : ∃ r, l[at_] = r := ⟨_, rfl⟩
      have hmem : r ∈ l := hrx ▸ List.getElem_mem hal
      obtain ⟨hrs, hrk⟩ := hr r hmem
      unfold BIG at hrs hrk
      have e : growF l (n + 1) at_ left = match growKs (growF l n) at_ r.kids (left - 1) with | none => none | some (ks, z) => some (mkRow r ks, z) := by
        simp only [growF, c1, if_false]
        rw [List.getElem?_eq_getElem hal, hrx]
      rw [e]
      have hL0 := loop_fold (X := X) (mask := mask_ref13_grow_0) (body := body_ref13_grow_0) r.set
        (fun i (a : List Ex) => ⟨mkE 98 [(0, rwS l), (1, .d (.int .i64 at_)), (2, .d (.int .i64 (left - 1))), (6, .pv 10000 0), (8, .pv 50040 0), (9, .pv 60110 0), (10, .d (.int .i64 i))],
          [(10000, .var [.d (.int .i64 0), .d (.str []), .d (.int .i64 0), .d (.int .i64 0), .d (.int .i64 0), .d (.vs true [])]), (50040, .var (rwV r)), (60110, .var [.d (.int .i64 r.kind), .d (.str r.name), .d (.int .i64 r.n), .d (.int .i64 r.lo), .d (.int .i64 r.hi), .os 26011050 a.length 0 a.length]), (26011050, .arr 6 (a.map exC))]⟩)
        (fun i a => a.length = i) (fun _ a s => a ++ [textEx s])
        (fun a => (.exit 0, ⟨mkE 98 [(0, rwS l), (1, .d (.int .i64 at_)), (2, .d (.int .i64 (left - 1))), (6, .pv 10000 0), (8, .pv 50040 0), (9, .pv 60110 0)],
          [(10000, .var [.d (.int .i64 0), .d (.str []), .d (.int .i64 0), .d (.int .i64 0), .d (.int .i64 0), .d (.vs true [])]), (50040, .var (rwV r)), (60110, .var [.d (.int .i64 r.kind), .d (.str r.name), .d (.int .i64 r.n), .d (.int .i64 r.lo), .d (.int .i64 r.hi), .os 26011050 a.length 0 a.length]), (26011050, .arr 6 (a.map exC))]⟩)) (by simp)
        (fun i a s hi hs hI => by
          have hw := wrap_ok (a := (i : Int) + 1) (by omega) (by omega)
          have hal : a.length + 1 ≤ LIM := by unfold LIM; omega
          refine ⟨by simp [hI], ?_⟩
          simp -implicitDefEqProofs [body_ref13_grow_0, mask_ref13_grow_0, hi, hs, hw, hal, textEx, Ex.kind, Ex.name, Ex.n, Ex.lo, Ex.hi, Ex.kids]) (fun a _ => by simp -implicitDefEqProofs [body_ref13_grow_0]) [] rfl
      have hf : ∀ (l : List Txt) (i : Nat) (a : List Ex), foldI (fun _ a s => a ++ [textEx s]) l i a = a ++ l.map textEx := by
        intro l
        induction l with
        | nil => intro i a; simp
        | cons x r ih => intro i a; rw [foldI_cons, ih]; simp
      rw [hf, List.nil_append] at hL0
      have hT : (r.set.map textEx).length = r.set.length := by simp
      obtain ⟨T, hTd⟩ : ∃ T, r.set.map textEx = T := ⟨_, rfl⟩
      rw [hTd] at hL0 hT
      have hL1 := loop_list (X := X) (mask := mask_ref13_grow_1) (body := body_ref13_grow_1) r.kids
        (fun i (a : List Ex × Int) => ⟨mkE 98 [(0, rwS l), (1, .d (.int .i64 at_)), (2, .d (.int .i64 a.2)), (6, .pv 10000 0), (8, .pv 50040 0), (9, .pv 60110 0), (11, .d (.int .i64 i))],
          [(10000, .var [.d (.int .i64 0), .d (.str []), .d (.int .i64 0), .d (.int .i64 0), .d (.int .i64 0), .d (.vs true [])]), (50040, .var (rwV r)), (60110, .var [.d (.int .i64 r.kind), .d (.str r.name), .d (.int .i64 r.n), .d (.int .i64 r.lo), .d (.int .i64 r.hi), .os 26011050 a.1.length 0 a.1.length]), (26011050, .arr 6 (a.1.map exC))]⟩)
        (fun i a => a.1.length = r.set.length + i ∧ 0 ≤ a.2 ∧ a.2 ≤ left) (growS (growF l n) at_)
        (fun a => (.exit 2, ⟨mkE 98 [(2, .d (.int .i64 a.2)), (6, .pv 10000 0), (9, .pv 60110 0)],
          [(10000, .var [.d (.int .i64 0), .d (.str []), .d (.int .i64 0), .d (.int .i64 0), .d (.int .i64 0), .d (.vs true [])]), (60110, .var [.d (.int .i64 r.kind), .d (.str r.name), .d (.int .i64 r.n), .d (.int .i64 r.lo), .d (.int .i64 r.hi), .os 26011050 a.1.length 0 a.1.length]), (26011050, .arr 6 (a.1.map exC))]⟩))
        (fun _ => (.ret, ⟨mkE 98 [(6, .pv 10000 0), (7, .d (.int .i64 (-1)))],
          [(10000, .var [.d (.int .i64 0), .d (.str []), .d (.int .i64 0), .d (.int .i64 0), .d (.int .i64 0), .d (.vs true [])])]⟩)) (by simp) (by simp)
        (fun i a k hi hx hI => by
          obtain ⟨m, lf⟩ := a
          simp only at hI
          have hw := wrap_ok (a := (i : Int) + 1) (by omega) (by omega)
          have hml : m.length + 1 ≤ LIM := by unfold LIM; omega
          unfold growS
          by_cases c2 : k < 0
          · simp only [c2, true_or, if_true, Round_inr]
            simp -implicitDefEqProofs [body_ref13_grow_1, mask_ref13_grow_1, hi, hx, c2]
          · by_cases c3 : (at_ : Int) ≤ k
            · simp only [c3, or_true, if_true, Round_inr]
              simp -implicitDefEqProofs [body_ref13_grow_1, mask_ref13_grow_1, hi, hx, c2, c3]
            · simp only [c2, c3, or_self, if_false]
              have hc := ih k.toNat lf (by omega) (by omega) hI.2.1 (by unfold BIG; omega)
              rw [show ((k.toNat : Nat) : Int) = k by omega] at hc
              have hlo := growF_lo l n k.toNat lf
              cases hg : growF l n k.toNat lf with
              | none =>
                rw [hg] at hc
                simp only [Round_inr]
                simp -implicitDefEqProofs [growR, exA] at hc
                simp -implicitDefEqProofs [body_ref13_grow_1, mask_ref13_grow_1, hi, hx, c2, c3, hc]
              | some p =>
                obtain ⟨e, z⟩ := p
                rw [hg] at hc hlo
                have hz := hlo e z rfl
                have hz2 : ¬ z < 0 := by omega
                simp only [Round_inl]
                refine ⟨⟨by simp [hI.1]; omega, hz.1, by omega⟩, ?_⟩
                simp -implicitDefEqProofs [growR] at hc
                simp -implicitDefEqProofs [body_ref13_grow_1, mask_ref13_grow_1, hi, hx, c2, c3, hc, hz2, hw, hml]) (fun a _ => by simp -implicitDefEqProofs [body_ref13_grow_1]) (T, left - 1) ⟨by simp [hT], by simp only; omega, by simp only; omega⟩
      rw [growS_fold] at hL1
      have hw0 := wrap_ok (a := left - 1) (by omega) (by omega)
      simp -implicitDefEqProofs [code_ref13_grow, c1, hw0, hal, hrx]
      rw [hL0 _ (by simp -implicitDefEqProofs [mask_ref13_grow_0])]
      simp -implicitDefEqProofs
      rw [hL1 _ (by simp -implicitDefEqProofs [mask_ref13_grow_1])]
      cases hks : growKs (growF l n) at_ r.kids (left - 1) with
      | none =>
        simp -implicitDefEqProofs [growR]
        simp -implicitDefEqProofs [ex0, Ex.kind, Ex.name, Ex.n, Ex.lo, Ex.hi, Ex.kids]
      | some p =>
        obtain ⟨ks, z⟩ := p
        unfold mkRow
        rw [hTd]
        simp only
        generalize T ++ ks = A at *
        simp -implicitDefEqProofs [growR]
        simp -implicitDefEqProofs [Ex.kind, Ex.name, Ex.n, Ex.lo, Ex.hi, Ex.kids]
end Bz.S
