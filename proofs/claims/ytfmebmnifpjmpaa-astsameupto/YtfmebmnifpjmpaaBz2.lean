/- The clean machine, part 3: values without memory, an interpreter of translated code over them, and that it is right about the program; no program in sight. No condition. -/
import Derived.Test.YtfmebmnifpjmpaaBz1
import Derived.LoopN
import Derived.ScopeJumps
import Derived.Carry
import Derived.ChangeOld
import Derived.DataReads
import GoSem.ClaimChange
import Derived.Below
import Derived.WideShapes
import Derived.Laws.StandIn
import Derived.ChangeSame
import Derived.OpenShut
import Derived.RowKit
set_option linter.unusedSimpArgs false
set_option linter.unusedVariables false
/- A region whose order is open: what was carried out, in whichever order. -/
namespace Bz
open Go

/-- what an operation came to -/
structure R where
  d : Option Nat
  v : AV
  u : Upd
  nw : List Nat
  f : Option Foot

def selE (p : Nat → Bool) : List R → Nat → List AV → List AV
  | [], _, E => E
  | x :: r, i, E => selE p r (i + 1) (if p i then putE E x.d x.v else E)

def selH (p : Nat → Bool) : List R → Nat → Heap → Heap
  | [], _, H => H
  | x :: r, i, H => selH p r (i + 1) (if p i then applyU H x.u else H)

theorem putE_len (E : List AV) (d : Option Nat) (v : AV) : (putE E d v).length = E.length := by cases d <;> simp [putE]

theorem nth_put (E : List AV) (d : Option Nat) (v : AV) (t : Nat) : nth (putE E d v) t = if d = some t ∧ t < E.length then v else nth E t := by
  cases d with
  | none => simp [putE]
  | some d =>
    simp only [putE, nth_set]
    by_cases h : t = d
    · subst h; simp
    · simp [h]; intro e; exact absurd e.symm h

theorem nth_out {E : List AV} {t : Nat} (h : E.length ≤ t) : nth E t = .undef := by rw [nth_eq, List.getElem?_eq_none h]; rfl

theorem nth_ext {A B : List AV} (hl : A.length = B.length) (h : ∀ t, nth A t = nth B t) : A = B := by
  apply List.ext_getElem hl
  intro i h1 h2
  have := h i
  rw [nth_eq, nth_eq, List.getElem?_eq_getElem h1, List.getElem?_eq_getElem h2] at this
  exact this

theorem selE_len (p : Nat → Bool) : ∀ (rs : List R) (i : Nat) (E : List AV), (selE p rs i E).length = E.length
  | [], _, _ => rfl
  | x :: r, i, E => by
    simp only [selE]
    rw [selE_len p r]
    split
    · exact putE_len _ _ _
    · rfl

theorem shift {p : Nat → Prop} {i : Nat} {r : List R} {x : R} {Q : R → Prop} (h : ∀ k y, (x :: r)[k]? = some y → Q y → p (i + k)) : ∀ k y, r[k]? = some y → Q y → p (i + 1 + k) := by
  intro k y hk hy
  have := h (k + 1) y (by simpa using hk) hy
  rwa [show i + 1 + k = i + (k + 1) by omega]

theorem selE_congr {p q : Nat → Bool} {t : Nat} : ∀ (rs : List R) (i : Nat) (E E' : List AV), E.length = E'.length → nth E t = nth E' t → (∀ k x, rs[k]? = some x → x.d = some t → p (i + k) = q (i + k)) →
    nth (selE p rs i E) t = nth (selE q rs i E') t
  | [], _, _, _, _, h, _ => h
  | x :: r, i, E, E', hl, h, hp => by
    simp only [selE]
    refine selE_congr r (i + 1) _ _ ?_ ?_ (shift (p := fun k => p k = q k) (Q := fun x => x.d = some t) hp)
    · split <;> split <;> simp [putE_len, hl]
    · by_cases hd : x.d = some t
      · have := hp 0 x rfl hd
        simp only [Nat.add_zero] at this
        rw [this]
        split
        · rw [nth_put, nth_put, h, hl]
        · exact h
      · have e1 : nth (if p i = true then putE E x.d x.v else E) t = nth E t := by
          split
          · rw [nth_put]; simp [hd]
          · rfl
        have e2 : nth (if q i = true then putE E' x.d x.v else E') t = nth E' t := by
          split
          · rw [nth_put]; simp [hd]
          · rfl
        rw [e1, e2, h]

theorem selE_false : ∀ (rs : List R) (i : Nat) (E : List AV), selE (fun _ => false) rs i E = E
  | [], _, _ => rfl
  | x :: r, i, E => by simp only [selE]; exact selE_false r (i + 1) E

theorem selE_last {p : Nat → Bool} {t : Nat} {x : R} : ∀ (rs : List R) (i k : Nat) (E : List AV), rs[k]? = some x → x.d = some t → p (i + k) = true → (∀ k' y, k < k' → rs[k']? = some y → y.d = some t → p (i + k') = false) →
    nth (selE p rs i E) t = if t < E.length then x.v else .undef
  | [], _, _, _, h, _, _, _ => by simp at h
  | y :: r, i, 0, E, h, hd, hp, hl => by
    simp at h; subst h
    simp only [selE, Nat.add_zero] at hp ⊢
    rw [if_pos hp, selE_congr (q := fun _ => false) r (i + 1) _ (putE E y.d y.v) rfl rfl (fun k z hk hz => ?_), selE_false, nth_put]
    · simp only [hd, true_and]
      split
      · rfl
      · rename_i hlt; exact nth_out (Nat.le_of_not_lt hlt)
    · have := hl (k + 1) z (by omega) (by simpa using hk) hz
      rwa [show i + 1 + k = i + (k + 1) by omega]
  | y :: r, i, k + 1, E, h, hd, hp, hl => by
    simp only [selE]
    rw [selE_last r (i + 1) k _ (by simpa using h) hd (by rwa [show i + 1 + k = i + (k + 1) by omega]) (fun k' z hk' hz hzd => by
      have := hl (k' + 1) z (by omega) (by simpa using hz) hzd
      rwa [show i + 1 + k' = i + (k' + 1) by omega])]
    congr 1
    split <;> simp [putE_len]

/-- one more is carried out -/
theorem selE_insert {p p' : Nat → Bool} {rs : List R} {i : Nat} {x : R} {E : List AV} (hx : rs[i]? = some x) (h1 : p' i = true) (h2 : ∀ k, k ≠ i → p' k = p k)
    (hlast : ∀ k y t, i < k → p k = true → rs[k]? = some y → x.d = some t → y.d ≠ some t) : selE p' rs 0 E = putE (selE p rs 0 E) x.d x.v := by
  refine nth_ext (by simp [selE_len, putE_len]) fun t => ?_
  by_cases hd : x.d = some t
  · rw [selE_last rs 0 i E hx hd (by simpa using h1) (fun k' y hk hy hyd => ?_), nth_put, selE_len]
    · simp only [hd, true_and]
      split
      · rfl
      · rename_i hlt; exact (nth_out (by rw [selE_len]; exact Nat.le_of_not_lt hlt)).symm
    · rw [Nat.zero_add, h2 k' (by omega)]
      cases hp : p k' with
      | false => rfl
      | true => exact absurd hyd (hlast k' y t hk hp hy hd)
  · rw [nth_put]
    simp only [hd, false_and, if_false]
    refine selE_congr rs 0 E E rfl rfl fun k y hk hyd => ?_
    rw [Nat.zero_add]
    exact h2 k fun e => hd (by subst e; rw [hx] at hk; cases hk; exact hyd)

theorem selE_ext {p q : Nat → Bool} {rs : List R} {E : List AV} (h : ∀ k, k < rs.length → p k = q k) : selE p rs 0 E = selE q rs 0 E :=
  nth_ext (by simp [selE_len]) fun t => selE_congr rs 0 E E rfl rfl fun k x hk _ => by rw [Nat.zero_add]; exact h k (List.getElem?_eq_some_iff.1 hk).1

theorem selH_congr {p q : Nat → Bool} {l : Nat} : ∀ (rs : List R) (i : Nat) (H H' : Heap), hget H l = hget H' l → (∀ k x, rs[k]? = some x → l ∈ x.u.map (·.1) → p (i + k) = q (i + k)) →
    hget (selH p rs i H) l = hget (selH q rs i H') l
  | [], _, _, _, h, _ => h
  | x :: r, i, H, H', h, hp => by
    simp only [selH]
    refine selH_congr r (i + 1) _ _ ?_ (shift (p := fun k => p k = q k) (Q := fun x => l ∈ x.u.map (·.1)) hp)
    by_cases hd : l ∈ x.u.map (·.1)
    · have := hp 0 x rfl hd
      simp only [Nat.add_zero] at this
      rw [this]
      split
      · exact applyU_local _ (.inl hd)
      · exact h
    · have e1 : hget (if p i = true then applyU H x.u else H) l = hget H l := by
          split
          · exact applyU_other _ hd
          · rfl
      have e2 : hget (if q i = true then applyU H' x.u else H') l = hget H' l := by
        split
        · exact applyU_other _ hd
        · rfl
      rw [e1, e2, h]

theorem selH_false : ∀ (rs : List R) (i : Nat) (H : Heap), selH (fun _ => false) rs i H = H
  | [], _, _ => rfl
  | x :: r, i, H => by simp only [selH]; exact selH_false r (i + 1) H

theorem selH_last {p : Nat → Bool} {l : Nat} {x : R} : ∀ (rs : List R) (i k : Nat) (H : Heap), rs[k]? = some x → l ∈ x.u.map (·.1) → p (i + k) = true → (∀ k' y, k < k' → rs[k']? = some y → l ∈ y.u.map (·.1) → p (i + k') = false) →
    hget (selH p rs i H) l = hget (applyU [] x.u) l
  | [], _, _, _, h, _, _, _ => by simp at h
  | y :: r, i, 0, H, h, hd, hp, hl => by
    simp at h; subst h
    simp only [selH, Nat.add_zero] at hp ⊢
    rw [if_pos hp, selH_congr (q := fun _ => false) r (i + 1) _ (applyU H y.u) rfl (fun k z hk hz => ?_), selH_false]
    · exact applyU_local _ (.inl hd)
    · have := hl (k + 1) z (by omega) (by simpa using hk) hz
      rwa [show i + 1 + k = i + (k + 1) by omega]
  | y :: r, i, k + 1, H, h, hd, hp, hl => by
    simp only [selH]
    exact selH_last r (i + 1) k _ (by simpa using h) hd (by rwa [show i + 1 + k = i + (k + 1) by omega]) (fun k' z hk' hz hzd => by
      have := hl (k' + 1) z (by omega) (by simpa using hz) hzd
      rwa [show i + 1 + k' = i + (k' + 1) by omega])

theorem selH_insert {p p' : Nat → Bool} {rs : List R} {i : Nat} {x : R} {H : Heap} (hx : rs[i]? = some x) (h1 : p' i = true) (h2 : ∀ k, k ≠ i → p' k = p k)
    (hlast : ∀ k y l, i < k → p k = true → rs[k]? = some y → l ∈ x.u.map (·.1) → l ∉ y.u.map (·.1)) (l : Nat) : hget (selH p' rs 0 H) l = hget (applyU (selH p rs 0 H) x.u) l := by
  by_cases hd : l ∈ x.u.map (·.1)
  · rw [selH_last rs 0 i H hx hd (by simpa using h1) (fun k' y hk hy hyd => ?_)]
    · exact applyU_local _ (.inl hd)
    · rw [Nat.zero_add, h2 k' (by omega)]
      cases hp : p k' with
      | false => rfl
      | true => exact absurd hyd (hlast k' y l hk hp hy hd)
  · rw [applyU_other _ hd]
    refine selH_congr rs 0 H H rfl fun k y hk hyd => ?_
    rw [Nat.zero_add]
    exact h2 k fun e => hd (by subst e; rw [hx] at hk; cases hk; exact hyd)

theorem selH_ext {p q : Nat → Bool} {rs : List R} {H : Heap} (h : ∀ k, k < rs.length → p k = q k) (l : Nat) : hget (selH p rs 0 H) l = hget (selH q rs 0 H) l :=
  selH_congr rs 0 H H rfl fun k x hk _ => by rw [Nat.zero_add]; exact h k (List.getElem?_eq_some_iff.1 hk).1

theorem applyU_mem (u : Upd) : ∀ {H : Heap} {m : Nat} {o : AObj}, hget (applyU H u) m = some o → hget H m = some o ∨ (m, o) ∈ u := by
  induction u with
  | nil => intro H m o h; exact .inl h
  | cons x r ih =>
    intro H m o h
    rcases ih (H := hset H x.1 x.2) h with h | h
    · by_cases e : m = x.1
      · subst e; rw [hget_set_self] at h; cases h; exact .inr (by simp)
      · rw [hget_set_ne _ _ e] at h; exact .inl h
    · exact .inr (by simp [h])

theorem selH_mem {p : Nat → Bool} {m : Nat} {o : AObj} : ∀ (rs : List R) (i : Nat) (H : Heap), hget (selH p rs i H) m = some o → hget H m = some o ∨ ∃ k x, rs[k]? = some x ∧ p (i + k) = true ∧ (m, o) ∈ x.u
  | [], _, _, h => .inl h
  | x :: r, i, H, h => by
    simp only [selH] at h
    rcases selH_mem r (i + 1) _ h with h | ⟨k, y, h1, h2, h3⟩
    · split at h
      · rename_i hp
        rcases applyU_mem _ h with h | h
        · exact .inl h
        · exact .inr ⟨0, x, rfl, hp, h⟩
      · exact .inl h
    · exact .inr ⟨k + 1, y, by simpa using h1, by rwa [show i + (k + 1) = i + 1 + k by omega], h3⟩

theorem refsL_set {E : List AV} {d : Nat} {v : AV} {l : Nat} (h : l ∈ refsL (E.set d v)) : l ∈ refsL E ∨ l ∈ refs v := by
  obtain ⟨i, x, hx, hl⟩ := refsL_mem' h
  rw [List.getElem?_set] at hx
  split at hx
  · split at hx
    · cases hx; exact .inr hl
    · cases hx
  · exact .inl (refsL_mem hx l hl)

theorem selE_refs {p : Nat → Bool} {l : Nat} : ∀ (rs : List R) (i : Nat) (E : List AV), l ∈ refsL (selE p rs i E) → l ∈ refsL E ∨ ∃ k x, rs[k]? = some x ∧ p (i + k) = true ∧ l ∈ refs x.v
  | [], _, _, h => .inl h
  | x :: r, i, E, h => by
    simp only [selE] at h
    rcases selE_refs r (i + 1) _ h with h | ⟨k, y, h1, h2, h3⟩
    · split at h
      · rename_i hp
        cases hd : x.d with
        | none => rw [hd] at h; exact .inl h
        | some d =>
          rw [hd] at h
          rcases refsL_set h with h | h
          · exact .inl h
          · exact .inr ⟨0, x, rfl, hp, h⟩
      · exact .inl h
    · exact .inr ⟨k + 1, y, by simpa using h1, by rwa [show i + (k + 1) = i + 1 + k by omega], h3⟩

/-! ### operands -/
theorem aev_congr {E E' : List AV} {x : Operand} {q : AOpd} (hq : cvO x = some q) (h : ∀ t, x = .tmp t → nth E t = nth E' t) : aev E q = aev E' q := by
  cases x with
  | tmp t => simp only [cvO] at hq; cases hq; exact h t rfl
  | const v => simp only [cvO] at hq; obtain ⟨y, _, rfl⟩ := Option.map_eq_some_iff.1 hq; rfl
  | func f => simp only [cvO] at hq; cases hq; rfl
  | global g => simp [cvO] at hq

theorem aevs_congr {E E' : List AV} : ∀ {xs : List Operand} {qs : List AOpd}, cvOs xs = some qs → (∀ t, Operand.tmp t ∈ xs → nth E t = nth E' t) → qs.map (aev E) = qs.map (aev E')
  | [], qs, h, _ => by simp only [cvOs] at h; cases h; rfl
  | x :: r, qs, h, hh => by
    simp only [cvOs] at h
    split at h
    · rename_i a as ha has
      cases h
      simp only [List.map_cons]
      rw [aev_congr ha fun t e => hh t (by simp [e]), aevs_congr has fun t ht => hh t (by simp [ht])]
    · cases h

theorem aevM_congr {E E' : List AV} {x : Option Operand} {q : Option AOpd} (hq : cvM x = some q) (h : ∀ t, x = some (.tmp t) → nth E t = nth E' t) : q.map (aev E) = q.map (aev E') := by
  cases x with
  | none => simp only [cvM] at hq; cases hq; rfl
  | some x =>
    simp only [cvM] at hq
    obtain ⟨y, hy, rfl⟩ := Option.map_eq_some_iff.1 hq
    simp only [Option.map_some]
    rw [aev_congr hy fun t e => h t (by rw [e])]

theorem cvNil_congr {E E' : List AV} {k : NK} {op : BinOp} {a b : AOpd} {q : AOp} (hq : cvNil k op a b = some q) (ha : aev E a = aev E' a) (hb : aev E b = aev E' b) : q.map (aev E) = q.map (aev E') := by
  unfold cvNil at hq
  split at hq
  · split at hq
    · cases hq; simp only [AOpOf.map, ha]
    · split at hq
      · cases hq; simp only [AOpOf.map, hb]
      · cases hq
  · split at hq
    · cases hq; simp only [AOpOf.map, ha]
    · split at hq
      · cases hq; simp only [AOpOf.map, hb]
      · cases hq
  · cases hq

theorem cvCall_congr {P : Program} {E E' : List AV} {c : Call} {q : AOp} (hq : cvCall P c = some q) (h : ∀ t, Operand.tmp t ∈ c.operands → nth E t = nth E' t) : q.map (aev E) = q.map (aev E') := by
  unfold cvCall at hq
  split at hq
  · rename_i f hf
    split at hq
    · rename_i g as hg has
      cases hq
      simp only [AOpOf.map]
      rw [aev_congr hg fun t e => h t (by simp [Call.operands, hf, e]), aevs_congr has fun t ht => h t (by simp [Call.operands]; right; simpa using ht)]
    · cases hq
  · cases hq
  · rename_i b hb
    have args : ∀ {xs : List AOpd}, cvOs c.args.toList = some xs → xs.map (aev E) = xs.map (aev E') := fun hx => aevs_congr hx fun t ht => h t (by simp [Call.operands]; right; simpa using ht)
    split at hq
    · rename_i x hx
      have := args hx
      simp only [List.map_cons, List.map_nil, List.cons.injEq, and_true] at this
      split at hq <;> cases hq <;> simp only [AOpOf.map, this]
    · rename_i x hx
      have := args hx
      simp only [List.map_cons, List.map_nil, List.cons.injEq, and_true] at this
      split at hq <;> cases hq <;> simp only [AOpOf.map, this]
    · rename_i x y hx
      have := args hx
      simp only [List.map_cons, List.map_nil, List.cons.injEq, and_true] at this
      split at hq
      · split at hq
        · cases hq; simp only [AOpOf.map, this.1, this.2]
        · cases hq
      · split at hq
        · cases hq; simp only [AOpOf.map, this.1, this.2]
        · cases hq
      · split at hq
        · split at hq
          · cases hq; simp only [AOpOf.map, this.1, this.2]
          · cases hq
        · cases hq
      · cases hq
    · rename_i x y hx
      have := args hx
      simp only [List.map_cons, List.map_nil, List.cons.injEq, and_true] at this
      split at hq
      · split at hq
        · cases hq; simp only [AOpOf.map, this.1, this.2]
        · cases hq
      · split at hq
        · cases hq; simp only [AOpOf.map, this.1, this.2]
        · cases hq
      · cases hq
    · rename_i x hx
      have := args hx
      simp only [List.map_cons, List.map_nil, List.cons.injEq, and_true] at this
      split at hq
      · split at hq
        · split at hq
          · cases hq; simp only [AOpOf.map, this]
          · cases hq
        · cases hq
      · cases hq
    · rename_i x y hx
      have := args hx
      simp only [List.map_cons, List.map_nil, List.cons.injEq, and_true] at this
      split at hq
      · obtain ⟨p, _, rfl⟩ := Option.map_eq_some_iff.1 hq
        simp only [AOpOf.map, this.1, this.2]
      · cases hq
    · rename_i xs hx
      cases hq
      simp only [AOpOf.map, args hx]
    · rename_i xs hx
      cases hq
      simp only [AOpOf.map, args hx]
    · cases hq

end Bz

/- A region whose order is open, second half. -/
namespace Bz
open Go

theorem cvParts_congr {P : Program} {fs : Array Field} {E E' : List AV} : ∀ {xs : List (Nat × Operand)} {as : List (Nat × Nat × AOpd)}, cvParts P fs xs = some as → (∀ t, Operand.tmp t ∈ xs.map (·.2) → nth E t = nth E' t) →
    as.map (fun p => (p.1, p.2.1, aev E p.2.2)) = as.map (fun p => (p.1, p.2.1, aev E' p.2.2))
  | [], as, h, _ => by simp only [cvParts] at h; cases h; rfl
  | (i, x) :: r, as, h, hh => by
    simp only [cvParts] at h
    split at h
    · rename_i f q qs hf hq hqs
      cases h
      simp only [List.map_cons]
      rw [aev_congr hq fun t e => hh t (by simp [e]), cvParts_congr hqs fun t ht => hh t (by simp only [List.map_cons]; exact List.mem_cons_of_mem _ ht)]
    · cases h

theorem cvPartsA_congr {P : Program} {e : TypeId} {E E' : List AV} : ∀ {xs : List (Nat × Operand)} {as : List (Nat × Nat × AOpd)}, cvPartsA P e xs = some as → (∀ t, Operand.tmp t ∈ xs.map (·.2) → nth E t = nth E' t) →
    as.map (fun p => (p.1, p.2.1, aev E p.2.2)) = as.map (fun p => (p.1, p.2.1, aev E' p.2.2))
  | [], as, h, _ => by simp only [cvPartsA] at h; cases h; rfl
  | (i, x) :: r, as, h, hh => by
    simp only [cvPartsA] at h
    split at h
    · rename_i q qs hq hqs
      cases h
      simp only [List.map_cons]
      rw [aev_congr hq fun t e => hh t (by simp [e]), cvPartsA_congr hqs fun t ht => hh t (by simp only [List.map_cons]; exact List.mem_cons_of_mem _ ht)]
    · cases h

theorem cvElems_congr {E E' : List AV} : ∀ {xs : List (Nat × Operand)} {as : List (Nat × AOpd)}, cvElems xs = some as → (∀ t, Operand.tmp t ∈ xs.map (·.2) → nth E t = nth E' t) →
    as.map (fun p => (p.1, aev E p.2)) = as.map (fun p => (p.1, aev E' p.2))
  | [], as, h, _ => by simp only [cvElems] at h; cases h; rfl
  | (i, x) :: r, as, h, hh => by
    simp only [cvElems] at h
    split at h
    · rename_i q qs hq hqs
      cases h
      simp only [List.map_cons]
      rw [aev_congr hq fun t e => hh t (by simp [e]), cvElems_congr hqs fun t ht => hh t (by simp only [List.map_cons]; exact List.mem_cons_of_mem _ ht)]
    · cases h

set_option maxHeartbeats 2000000 in
theorem cvOp_congr {P : Program} {E E' : List AV} {op : Op} {q : AOp} (hq : cvOp P op = some q) (h : ∀ t, Operand.tmp t ∈ op.operands → nth E t = nth E' t) : q.map (aev E) = q.map (aev E') := by
  have one : ∀ {x : Operand} {qx : AOpd}, cvO x = some qx → x ∈ op.operands → aev E qx = aev E' qx := fun hx hm => aev_congr hx fun t e => h t (e ▸ hm)
  cases op with
  | move x => simp only [cvOp] at hq; obtain ⟨qx, hx, rfl⟩ := Option.map_eq_some_iff.1 hq; simp only [AOpOf.map, one hx (by simp [Op.operands])]
  | assign x => simp only [cvOp] at hq; obtain ⟨qx, hx, rfl⟩ := Option.map_eq_some_iff.1 hq; simp only [AOpOf.map, one hx (by simp [Op.operands])]
  | pick c x y =>
    simp only [cvOp] at hq
    split at hq
    · rename_i qc qx qy hc hx hy
      cases hq
      simp only [AOpOf.map, one hc (by simp [Op.operands]), one hx (by simp [Op.operands]), one hy (by simp [Op.operands])]
    · cases hq
  | alloc t =>
    simp only [cvOp] at hq
    split at hq
    · obtain ⟨z, _, rfl⟩ := Option.map_eq_some_iff.1 hq; rfl
    · cases hq
  | box t x =>
    simp only [cvOp] at hq
    split at hq
    · obtain ⟨qx, hx, rfl⟩ := Option.map_eq_some_iff.1 hq; simp only [AOpOf.map, one hx (by simp [Op.operands])]
    · cases hq
  | build t ps =>
    simp only [cvOp] at hq
    split at hq
    · split at hq
      · rename_i z as hz has
        split at hq
        · cases hq
          simp only [AOpOf.map]
          rw [cvParts_congr has fun t ht => h t (by simp [Op.operands]; simpa using ht)]
        · cases hq
      · cases hq
    · split at hq
      · rename_i z as hz has
        split at hq
        · cases hq
          simp only [AOpOf.map]
          rw [cvPartsA_congr has fun t ht => h t (by simp [Op.operands]; simpa using ht)]
        · cases hq
      · cases hq
    · cases hq
  | buildSlice t len ps =>
    simp only [cvOp] at hq
    split at hq
    · split at hq
      · rename_i z as hz has
        split at hq
        · cases hq
          simp only [AOpOf.map]
          rw [cvElems_congr has fun t ht => h t (by simp [Op.operands]; simpa using ht)]
        · cases hq
      · cases hq
    · cases hq
  | load t x =>
    simp only [cvOp] at hq
    split at hq
    · split at hq
      · rename_i g qx hg hx
        cases hq
        simp only [AOpOf.map, one hx (by simp [Op.operands])]
      · cases hq
    · cases hq
  | store t x y =>
    simp only [cvOp] at hq
    split at hq
    · split at hq
      · rename_i qx qy hx hy
        cases hq
        simp only [AOpOf.map, one hx (by simp [Op.operands]), one hy (by simp [Op.operands])]
      · cases hq
    · cases hq
  | nilCheck x => simp only [cvOp] at hq; obtain ⟨qx, hx, rfl⟩ := Option.map_eq_some_iff.1 hq; simp only [AOpOf.map, one hx (by simp [Op.operands])]
  | binOp op t x y c =>
    simp only [cvOp] at hq
    split at hq
    · rename_i qx qy hx hy
      have e1 := one hx (by simp [Op.operands])
      have e2 := one hy (by simp [Op.operands])
      split at hq
      · split at hq
        · split at hq <;> cases hq <;> simp only [AOpOf.map, e1, e2]
        · cases hq
      · cases hq; simp only [AOpOf.map, e1, e2]
      · cases hq; simp only [AOpOf.map, e1, e2]
      · split at hq <;> cases hq <;> simp only [AOpOf.map, e1, e2]
      · exact cvNil_congr hq e1 e2
      · exact cvNil_congr hq e1 e2
      · exact cvNil_congr hq e1 e2
      · exact cvNil_congr hq e1 e2
      · cases hq
    · cases hq
  | unOp op t x => simp only [cvOp] at hq; obtain ⟨qx, hx, rfl⟩ := Option.map_eq_some_iff.1 hq; simp only [AOpOf.map, one hx (by simp [Op.operands])]
  | convert s t x =>
    simp only [cvOp] at hq
    split at hq
    · obtain ⟨qx, hx, rfl⟩ := Option.map_eq_some_iff.1 hq; simp only [AOpOf.map, one hx (by simp [Op.operands])]
    · obtain ⟨qx, hx, rfl⟩ := Option.map_eq_some_iff.1 hq; simp only [AOpOf.map, one hx (by simp [Op.operands])]
    · split at hq
      · split at hq
        · obtain ⟨qx, hx, rfl⟩ := Option.map_eq_some_iff.1 hq; simp only [AOpOf.map, one hx (by simp [Op.operands])]
        · cases hq
      · cases hq
    · cases hq
  | makeFunc fn first captured =>
    cases fn with
    | func f =>
      simp only [cvOp] at hq
      split at hq
      · obtain ⟨qs, hqs, rfl⟩ := Option.map_eq_some_iff.1 hq
        simp only [AOpOf.map]
        rw [aevs_congr hqs fun t ht => h t (by simp [Op.operands]; right; simpa using ht)]
      · cases hq
    | _ => simp [cvOp] at hq
  | makeMap t r =>
    cases r with
    | some r => simp [cvOp] at hq
    | none =>
      simp only [cvOp] at hq
      split at hq
      · obtain ⟨p, _, rfl⟩ := Option.map_eq_some_iff.1 hq; rfl
      · cases hq
  | makeSlice t l c =>
    simp only [cvOp] at hq
    split at hq
    · split at hq
      · rename_i z ql qc hz hl hc
        split at hq
        · cases hq
          simp only [AOpOf.map, one hl (by simp [Op.operands]), one hc (by simp [Op.operands])]
        · cases hq
      · cases hq
    · cases hq
  | slice t x lo hi mx =>
    simp only [cvOp] at hq
    split at hq
    · rename_i qx qlo qhi qmx hx hlo hhi hmx
      have e1 := one hx (by simp [Op.operands])
      have e2 := aevM_congr (E := E) (E' := E') hlo fun t e => h t (by simp [Op.operands, e])
      have e3 := aevM_congr (E := E) (E' := E') hhi fun t e => h t (by simp [Op.operands, e])
      have e4 := aevM_congr (E := E) (E' := E') hmx fun t e => h t (by simp [Op.operands, e])
      split at hq
      · split at hq
        · cases hq; simp only [AOpOf.map, e1, e2, e3]
        · cases hq
      · split at hq
        · cases hq; simp only [AOpOf.map, e1, e2, e3, e4]
        · cases hq
      · cases hq
    · cases hq
  | fieldAddr t x i =>
    simp only [cvOp] at hq
    split at hq
    · split at hq
      · split at hq
        · obtain ⟨qx, hx, rfl⟩ := Option.map_eq_some_iff.1 hq; simp only [AOpOf.map, one hx (by simp [Op.operands])]
        · cases hq
      · cases hq
    · cases hq
  | field t x i =>
    simp only [cvOp] at hq
    split at hq
    · split at hq
      · split at hq
        · split at hq
          · rename_i g qx hg hx
            cases hq
            simp only [AOpOf.map, one hx (by simp [Op.operands])]
          · cases hq
        · cases hq
      · cases hq
    · cases hq
  | indexAddr t x i =>
    simp only [cvOp] at hq
    split at hq
    · split at hq
      · split at hq
        · rename_i qx qi hx hi
          cases hq
          simp only [AOpOf.map, one hx (by simp [Op.operands]), one hi (by simp [Op.operands])]
        · cases hq
      · cases hq
    · split at hq
      · split at hq
        · rename_i qx qi hx hi
          cases hq
          simp only [AOpOf.map, one hx (by simp [Op.operands]), one hi (by simp [Op.operands])]
        · cases hq
      · cases hq
    · cases hq
  | index t x i =>
    simp only [cvOp] at hq
    split at hq
    · split at hq
      · split at hq
        · rename_i g qx qi hg hx hi
          cases hq
          simp only [AOpOf.map, one hx (by simp [Op.operands]), one hi (by simp [Op.operands])]
        · cases hq
      · cases hq
    · split at hq
      · rename_i qx qi hx hi
        cases hq
        simp only [AOpOf.map, one hx (by simp [Op.operands]), one hi (by simp [Op.operands])]
      · cases hq
    · cases hq
  | lookup t x k ok =>
    simp only [cvOp] at hq
    split at hq
    · split at hq
      · rename_i p z qx qk hp hz hx hk
        cases hq
        simp only [AOpOf.map, one hx (by simp [Op.operands]), one hk (by simp [Op.operands])]
      · cases hq
    · cases hq
  | mapUpdate t m k x =>
    simp only [cvOp] at hq
    split at hq
    · split at hq
      · rename_i p qm qk qx hp hm hk hx
        cases hq
        simp only [AOpOf.map, one hm (by simp [Op.operands]), one hk (by simp [Op.operands]), one hx (by simp [Op.operands])]
      · cases hq
    · cases hq
  | insert t m k x =>
    simp only [cvOp] at hq
    split at hq
    · split at hq
      · rename_i p qm qk qx hp hm hk hx
        cases hq
        simp only [AOpOf.map, one hm (by simp [Op.operands]), one hk (by simp [Op.operands]), one hx (by simp [Op.operands])]
      · cases hq
    · cases hq
  | extract x i => simp only [cvOp] at hq; obtain ⟨qx, hx, rfl⟩ := Option.map_eq_some_iff.1 hq; simp only [AOpOf.map, one hx (by simp [Op.operands])]
  | call c => exact cvCall_congr hq fun t ht => h t ht
  | makeInterface t x =>
    simp only [cvOp] at hq
    split at hq
    · obtain ⟨qx, hx, rfl⟩ := Option.map_eq_some_iff.1 hq; simp only [AOpOf.map, one hx (by simp [Op.operands])]
    · cases hq
  | _ => simp [cvOp] at hq

/-! ### what goes ahead of what -/
def BSpec (ops : Array Oper) (A : Array Nat) (i : Nat) : Prop :=
  ∀ j, (A.getD i 0).testBit j = true → ∃ o e, ops[i]? = some o ∧ e ∈ o.after ∧ Region.binds .any e = true ∧ (e.on = j ∨ (A.getD e.on 0).testBit j = true)

theorem bits_fold (acc : Array Nat) (j : Nat) : ∀ (es : List Edge) (s : Nat), (es.foldl (fun s e => if Region.binds .any e then s ||| 2 ^ e.on ||| acc.getD e.on 0 else s) s).testBit j = true →
    s.testBit j = true ∨ ∃ e ∈ es, Region.binds .any e = true ∧ (e.on = j ∨ (acc.getD e.on 0).testBit j = true)
  | [], s, h => .inl h
  | e :: r, s, h => by
    simp only [List.foldl_cons] at h
    rcases bits_fold acc j r _ h with h | ⟨e', h1, h2⟩
    · split at h
      · rename_i hb
        rw [Nat.testBit_or, Nat.testBit_or, Nat.testBit_two_pow] at h
        simp only [Bool.or_eq_true, decide_eq_true_eq] at h
        rcases h with (h | h) | h
        · exact .inl h
        · exact .inr ⟨e, by simp, hb, .inl h⟩
        · exact .inr ⟨e, by simp, hb, .inr h⟩
      · exact .inl h
    · exact .inr ⟨e', by simp [h1], h2⟩

theorem push_getD (A : Array Nat) (x : Nat) (i : Nat) : (A.push x).getD i 0 = if i < A.size then A.getD i 0 else if i = A.size then x else 0 := by
  simp only [Array.getD_eq_getD_getElem?]
  rw [Array.getElem?_push]
  split
  · rename_i h; subst h; simp
  · split
    · rfl
    · rename_i h1 h2; rw [Array.getElem?_eq_none (by omega)]; rfl

theorem before_fold {ops : Array Oper} : ∀ (l : List Oper) (A : Array Nat), (∀ k o, l[k]? = some o → ops[A.size + k]? = some o) → (∀ i, i < A.size → BSpec ops A i) →
    (∀ i, i < A.size + l.length → BSpec ops (l.foldl (fun acc o => acc.push (o.after.foldl (fun s e => if Region.binds .any e then s ||| 2 ^ e.on ||| acc.getD e.on 0 else s) 0)) A) i) ∧
      (l.foldl (fun acc o => acc.push (o.after.foldl (fun s e => if Region.binds .any e then s ||| 2 ^ e.on ||| acc.getD e.on 0 else s) 0)) A).size = A.size + l.length
  | [], A, _, h => ⟨fun i hi => h i (by simpa using hi), by simp⟩
  | o :: r, A, hops, h => by
    simp only [List.foldl_cons]
    generalize hx : o.after.foldl (fun s e => if Region.binds .any e then s ||| 2 ^ e.on ||| A.getD e.on 0 else s) 0 = x
    have mono : ∀ k j, (A.getD k 0).testBit j = true → ((A.push x).getD k 0).testBit j = true := by
      intro k j hk
      by_cases hlt : k < A.size
      · rw [push_getD, if_pos hlt]; exact hk
      · rw [Array.getD_eq_getD_getElem?, Array.getElem?_eq_none (by omega)] at hk
        simp at hk
    obtain ⟨g1, g2⟩ := before_fold r (A.push x) (fun k o' hk => by
      have := hops (k + 1) o' (by simpa using hk)
      simp only [Array.size_push]
      rwa [show A.size + 1 + k = A.size + (k + 1) by omega]) (fun i hi j hj => by
      rw [push_getD] at hj
      by_cases hlt : i < A.size
      · rw [if_pos hlt] at hj
        obtain ⟨o', e, h1, h2, h3, h4⟩ := h i hlt j hj
        exact ⟨o', e, h1, h2, h3, h4.imp id (mono _ _)⟩
      · rw [if_neg hlt] at hj
        by_cases hie : i = A.size
        · rw [if_pos hie] at hj
          subst hie
          rw [← hx, ← Array.foldl_toList] at hj
          rcases bits_fold A j _ _ hj with hz | ⟨e, h1, h2, h3⟩
          · simp at hz
          · exact ⟨o, e, hops 0 o rfl, by simpa using h1, h2, h3.imp id (mono _ _)⟩
        · rw [if_neg hie] at hj; simp at hj)
    refine ⟨fun i hi => g1 i (by simp at hi ⊢; omega), by rw [g2]; simp; omega⟩

theorem before_spec (ops : Array Oper) : ∀ i, i < ops.size → BSpec ops (Region.before ops) i := by
  have := before_fold (ops := ops) ops.toList #[] (fun k o hk => by simpa using hk) (fun i hi => by simp at hi)
  intro i hi
  have := this.1 i (by simpa using hi)
  unfold Region.before
  rw [← Array.foldl_toList]
  exact this
end Bz

/- A region whose order is open: any order comes to the same. -/
namespace Bz
open Go

section
variable {P : Program} {X : Ctx}

def clr (bef : List Nat) (f g : Foot) : Bool := disj f.nw g.m && (bef.contains g.i || (disj f.w g.r && disj f.w g.w && disj g.w f.r && disj g.nw f.m))

theorem disj_spec {a b : List Nat} (h : disj a b = true) : ∀ l, l ∈ a → l ∉ b := by
  intro l hl hb
  have := List.all_eq_true.1 h l hl
  simp only [Bool.not_eq_true', List.contains_eq_mem, decide_eq_false_iff_not] at this
  exact this hb

structure Ran (X : Ctx) (rid i : Nat) (s0 : St) (bef : List Nat) (fs : List Foot) (rs : List R) (k : Nat) (E : List AV) (H : Heap) (g : Option (Nat × Bool)) (q : AOp) (x : R) (f : Foot) : Prop where
  i_ : f.i = i + k
  r_ : f.r = rd (q.map (aev E))
  w_ : f.w = x.u.map (·.1)
  nw_ : f.nw = x.nw
  m_ : f.m = refs x.v ++ x.u.flatMap fun y => refsO y.2
  wants_ : wants E g = some true
  op_ : aop X (nameOf rid (i + k)) H (q.map (aev E)) = some (x.v, x.u, x.nw)
  fresh_ : freshU s0.E s0.H x.nw = true
  old_ : ∀ h ∈ fs, clr bef f h = true
  new_ : ∀ j y, j < k → rs[j]? = some y → ∀ h, y.f = some h → clr bef f h = true

def Fact (X : Ctx) (rid i : Nat) (s0 : St) (bef : List Nat) (fs : List Foot) (rs : List R) (k : Nat) (E : List AV) (H : Heap) (g : Option (Nat × Bool)) (q : AOp) (x : R) : Prop :=
  (x.f = none ∧ wants E g = some false ∧ x.v = .tup [] ∧ x.u = [] ∧ x.nw = []) ∨ ∃ f, x.f = some f ∧ Ran X rid i s0 bef fs rs k E H g q x f

theorem selE_lt (rs : List R) (i : Nat) (E : List AV) : selE (fun j => decide (j < i)) rs i E = E := by
  have : ∀ (rs : List R) (n : Nat) (E : List AV), i ≤ n → selE (fun j => decide (j < i)) rs n E = E := by
    intro rs
    induction rs with
    | nil => intro n E _; rfl
    | cons x r ih =>
      intro n E hn
      simp only [selE]
      have hd : ¬ (decide (n < i) = true) := by simp; omega
      rw [if_neg hd]
      exact ih (n + 1) E (by omega)
  exact this rs i E (Nat.le_refl _)

theorem selH_lt (rs : List R) (i : Nat) (H : Heap) : selH (fun j => decide (j < i)) rs i H = H := by
  have : ∀ (rs : List R) (n : Nat) (H : Heap), i ≤ n → selH (fun j => decide (j < i)) rs n H = H := by
    intro rs
    induction rs with
    | nil => intro n E _; rfl
    | cons x r ih =>
      intro n E hn
      simp only [selH]
      have hd : ¬ (decide (n < i) = true) := by simp; omega
      rw [if_neg hd]
      exact ih (n + 1) E (by omega)
  exact this rs i H (Nat.le_refl _)

theorem aopsD_trace {ops : Array Oper} {bs : Array Nat} {rid : Nat} {s0 : St} : ∀ (r : List Oper) (i : Nat) (s s' : St) (fs : List Foot), aopsD X rid s0 (cvOpers P ops true bs r i) i s fs = some s' →
    ∃ rs : List R, rs.length = r.length ∧ s' = { E := selE (fun _ => true) rs i s.E, H := selH (fun _ => true) rs i s.H } ∧
      ∀ k o, r[k]? = some o → ∃ x g q, rs[k]? = some x ∧ x.d = o.dst ∧ cvGuard ops o.guard = some g ∧ cvOp P o.op = some q ∧
        Fact X rid i s0 (befOf (bs.getD (i + k) 0) (i + k)) fs rs k (selE (fun j => decide (j < i + k)) rs i s.E) (selH (fun j => decide (j < i + k)) rs i s.H) g q x
  | [], i, s, s', fs, h => by
    simp only [cvOpers, aopsD] at h
    cases h
    exact ⟨[], rfl, rfl, fun k o hk => by simp at hk⟩
  | o :: r, i, s, s', fs, h => by
    simp only [cvOpers, aopsD] at h
    have build : ∀ (x : R) (fs' : List Foot) (g : Option (Nat × Bool)) (q : AOp), x.d = o.dst → cvGuard ops o.guard = some g → cvOp P o.op = some q →
        (fs' = fs ∧ x.f = none ∨ ∃ f, x.f = some f ∧ fs' = f :: fs) →
        (x.f = none ∧ wants s.E g = some false ∧ x.v = .tup [] ∧ x.u = [] ∧ x.nw = [] ∨ ∃ f, x.f = some f ∧ ∀ rs, Ran X rid i s0 (befOf (bs.getD i 0) i) fs rs 0 s.E s.H g q x f) →
        aopsD X rid s0 (cvOpers P ops true bs r (i + 1)) (i + 1) { E := putE s.E x.d x.v, H := applyU s.H x.u } fs' = some s' → 
        ∃ rs : List R, rs.length = (o :: r).length ∧ s' = { E := selE (fun _ => true) rs i s.E, H := selH (fun _ => true) rs i s.H } ∧
          ∀ k o', (o :: r)[k]? = some o' → ∃ x g q, rs[k]? = some x ∧ x.d = o'.dst ∧ cvGuard ops o'.guard = some g ∧ cvOp P o'.op = some q ∧
            Fact X rid i s0 (befOf (bs.getD (i + k) 0) (i + k)) fs rs k (selE (fun j => decide (j < i + k)) rs i s.E) (selH (fun j => decide (j < i + k)) rs i s.H) g q x := by
      intro x fs' g q hd hg hq hfs hx h
      obtain ⟨rs, hl, hs', hf⟩ := aopsD_trace r (i + 1) _ s' fs' h
      refine ⟨x :: rs, by simp [hl], by rw [hs']; rfl, fun k o' hk => ?_⟩
      cases k with
      | zero =>
        simp at hk; subst hk
        refine ⟨x, g, q, rfl, hd, hg, hq, ?_⟩
        rw [Nat.add_zero, selE_lt, selH_lt]
        rcases hx with hx | ⟨f, h1, h2⟩
        · exact .inl hx
        · exact .inr ⟨f, h1, h2 _⟩
      | succ k =>
        obtain ⟨y, g', q', h1, h2, h3, h4, h5⟩ := hf k o' (by simpa using hk)
        refine ⟨y, g', q', by simpa using h1, h2, h3, h4, ?_⟩
        have ei : i + (k + 1) = i + 1 + k := by omega
        have hlt : decide (i < i + 1 + k) = true := by simp; omega
        simp only [selE, selH, ei, hlt, if_true]
        rcases h5 with h5 | ⟨f, e1, e2⟩
        · exact .inl h5
        · refine .inr ⟨f, e1, ⟨by rw [e2.i_]; omega, e2.r_, e2.w_, e2.nw_, e2.m_, e2.wants_, by rw [ei]; exact e2.op_, e2.fresh_, fun h hh => e2.old_ h ?_, fun j z hj hz h hh => ?_⟩⟩
          · rcases hfs with ⟨rfl, _⟩ | ⟨f', _, rfl⟩
            · exact hh
            · exact List.mem_cons_of_mem _ hh
          · cases j with
            | zero =>
              simp at hz; subst hz
              rcases hfs with ⟨_, hn⟩ | ⟨f', hf', rfl⟩
              · rw [hn] at hh; cases hh
              · rw [hf'] at hh; cases hh
                exact e2.old_ _ (by simp)
            | succ j => exact e2.new_ j z (by omega) (by simpa using hz) h hh
    rcases cvOper_cases (P := P) ops true bs o i with ⟨g, q, hg, hq, hcv⟩ | ⟨hbad, hgn⟩
    · rw [hcv] at h
      simp only [if_true] at h
      split at h
      · cases h
      · rename_i hw
        exact build ⟨o.dst, .tup [], [], [], none⟩ fs g q rfl hg hq (.inl ⟨rfl, rfl⟩) (.inl ⟨rfl, hw, rfl, rfl, rfl⟩) h
      · rename_i hw
        split at h
        · cases h
        · rename_i v u nw hop
          split at h
          · rename_i hc
            simp only [Bool.and_eq_true] at hc
            refine build ⟨o.dst, v, u, nw, some (footOf i (q.map (aev s.E)) v u nw)⟩ _ g q rfl hg hq (.inr ⟨_, rfl, rfl⟩) (.inr ⟨_, rfl, fun rs => ?_⟩) h
            exact ⟨rfl, rfl, rfl, rfl, rfl, hw, hop, hc.1.1, fun h hh => List.all_eq_true.1 hc.2 h hh, fun j _ hj => absurd hj (Nat.not_lt_zero j)⟩
          · cases h
    · rw [hbad, hgn] at h
      simp [wants, AOpOf.map, aop] at h

theorem befOf_mem {m i j : Nat} : j ∈ befOf m i ↔ j < i ∧ m.testBit j = true := by simp [befOf]

theorem slots_spec {ops : Array Oper} {bs : Array Nat} (h : slotsOK ops bs = true) {i j : Nat} {x y : Oper} (hij : i < j) (hx : ops[i]? = some x) (hy : ops[j]? = some y) :
    (bs.getD j 0).testBit i = true ∨ ((∀ d, x.dst = some d → d ∉ usesOf ops y) ∧ (∀ d, x.dst = some d → y.dst ≠ some d) ∧ ∀ d, y.dst = some d → d ∉ usesOf ops x) := by
  have hj : j < ops.size := (Array.getElem?_eq_some_iff.1 hy).1
  have := List.all_eq_true.1 h j (List.mem_range.2 hj)
  have := List.all_eq_true.1 this i (List.mem_range.2 hij)
  simp only [hx, hy, Bool.or_eq_true, Bool.and_eq_true] at this
  rcases this with h | ⟨h1, h2⟩
  · exact .inl h
  · refine .inr ⟨fun d hd => ?_, fun d hd => ?_, fun d hd => ?_⟩
    · rw [hd] at h1; simp at h1; exact h1.1
    · rw [hd] at h1; simp at h1; exact h1.2
    · rw [hd] at h2; simp at h2; exact h2

theorem uses_op {ops : Array Oper} {o : Oper} {t : Nat} (h : Operand.tmp t ∈ o.op.operands) : t ∈ usesOf ops o := by
  unfold usesOf
  refine List.mem_append_left _ (List.mem_filterMap.2 ⟨.tmp t, by simpa using h, rfl⟩)

theorem wants_congr {ops : Array Oper} {o : Oper} {g : Option (Nat × Bool)} (hg : cvGuard ops o.guard = some g) {E E' : List AV} (h : ∀ t ∈ usesOf ops o, nth E t = nth E' t) : wants E g = wants E' g := by
  cases ho : o.guard with
  | none => rw [ho] at hg; simp only [cvGuard] at hg; cases hg; rfl
  | some p =>
    obtain ⟨j, b⟩ := p
    rw [ho] at hg
    simp only [cvGuard] at hg
    split at hg
    · rename_i d hd
      cases hg
      simp only [wants]
      rw [h d]
      unfold usesOf
      refine List.mem_append_right _ ?_
      simp [ho, hd]
    · cases hg

theorem any_sound (hC : Good P X.C) {ops : Array Oper} {rid : Nat} {s : St} {rs : List R} (hl : rs.length = ops.size) (hedge : edgesOK ops = true) (hslot : slotsOK ops (Region.before ops) = true)
    (hf : ∀ k o, ops[k]? = some o → ∃ x g q, rs[k]? = some x ∧ x.d = o.dst ∧ cvGuard ops o.guard = some g ∧ cvOp P o.op = some q ∧
        Fact X rid 0 s (befOf ((Region.before ops).getD k 0) k) [] rs k (selE (fun j => decide (j < k)) rs 0 s.E) (selH (fun j => decide (j < k)) rs 0 s.H) g q x)
    {Q : Exit → Act → World → Prop} {ρ0 : Nm} {S0 : Nat → Prop} {w0 : World} {a0 : Act}
    (hn : ∀ ρ' S' w' (a' : Act), Step Big ρ0 S0 s.H w0 ρ' S' (selH (fun _ => true) rs 0 s.H) w' → RelE ρ' S' (selH (fun _ => true) rs 0 s.H) w' (selE (fun _ => true) rs 0 s.E) a'.tmps → a'.defers = a0.defers → Q .normal a' w') :
    ∀ (fuel : Nat) (listed : Array Bool) (ρ : Nm) (S : Nat → Prop) (w : World) (a : Act), listed.size = ops.size → fuel + listed.toList.count true = ops.size →
      (∀ i, listed.getD i false = true → ∀ j, ((Region.before ops).getD i 0).testBit j = true → listed.getD j false = true) →
      Step Big ρ0 S0 s.H w0 ρ S (selH (fun k => listed.getD k false) rs 0 s.H) w → RelE ρ S (selH (fun k => listed.getD k false) rs 0 s.H) w (selE (fun k => listed.getD k false) rs 0 s.E) a.tmps →
      a.defers = a0.defers → wpAny P .any ops Q fuel listed a w := by
  intro fuel
  have full : ∀ (listed : Array Bool) (ρ : Nm) (S : Nat → Prop) (w : World) (a : Act), listed.size = ops.size → (∀ i, i < ops.size → listed.getD i false = true) →
      Step Big ρ0 S0 s.H w0 ρ S (selH (fun k => listed.getD k false) rs 0 s.H) w → RelE ρ S (selH (fun k => listed.getD k false) rs 0 s.H) w (selE (fun k => listed.getD k false) rs 0 s.E) a.tmps →
      a.defers = a0.defers → Q .normal a w := by
    intro listed ρ S w a hsz hall st he hd
    have e1 : selE (fun k => listed.getD k false) rs 0 s.E = selE (fun _ => true) rs 0 s.E := selE_ext fun k hk => hall k (hl ▸ hk)
    have e2 : ∀ l, hget (selH (fun _ => true) rs 0 s.H) l = hget (selH (fun k => listed.getD k false) rs 0 s.H) l := fun l => (selH_ext (fun k hk => hall k (hl ▸ hk)) l).symm
    have st2 := step_ext (N := Big) st.inv e2
    rw [e1] at he
    exact hn ρ S w a ((st.trans st2).weaken fun _ h => h.elim id id) (he.step (N := No) (step_ext st.inv e2) st.inv fun _ _ => id) hd
  have getD_set : ∀ (A : Array Bool) (i k : Nat), i < A.size → (A.setIfInBounds i true).getD k false = if k = i then true else A.getD k false := by
    intro A i k hi
    simp only [Array.getD_eq_getD_getElem?, Array.getElem?_setIfInBounds]
    by_cases e : k = i
    · subst e; simp [hi]
    · rw [if_neg (fun q => e q.symm), if_neg e]
  induction fuel with
  | zero =>
    intro listed ρ S w a hsz hcnt hcl st he hd
    have hall : ∀ i, i < ops.size → listed.getD i false = true := by
      intro i hi
      have hc : listed.toList.count true = listed.toList.length := by simp [hsz]; simpa using hcnt
      have := List.count_eq_length.1 hc (listed[i]'(hsz ▸ hi)) (by simp)
      simp [Array.getD, hsz, hi, ← this]
    refine ⟨?_, full listed ρ S w a hsz hall st he hd⟩
    unfold Region.ready
    refine List.filter_eq_nil_iff.2 fun i hi => ?_
    have hi := List.mem_range.1 hi
    have h1 := hall i hi
    have : listed.getD i true = true := by simp [Array.getD, hsz, hi] at h1 ⊢; exact h1
    simp [this]
  | succ fuel ih =>
    intro listed ρ S w a hsz hcnt hcl st he hd
    refine ⟨fun hr => ?_, fun i hi => ?_⟩
    · have hall : ∀ i, i < ops.size → listed.getD i false = true := by
        intro i
        induction i using Nat.strongRecOn with
        | _ i ih =>
          intro hi
          cases hb : listed.getD i false with
          | true => rfl
          | false =>
            exfalso
            have hmem : i ∈ Region.ready .any ops listed := by
              unfold Region.ready
              refine List.mem_filter.2 ⟨List.mem_range.2 hi, ?_⟩
              have h1 : listed.getD i true = false := by simp [Array.getD, hsz, hi] at hb ⊢; exact hb
              have h2 := List.all_eq_true.1 hedge i (List.mem_range.2 hi)
              simp only [Array.getElem?_eq_getElem hi] at h2
              simp only [h1, Array.getElem?_eq_getElem hi, Option.map_some, Option.getD_some, Bool.not_false, Bool.true_and]
              rw [Array.all_eq_true_iff_forall_mem] at h2 ⊢
              intro e he
              have := h2 e he
              simp only [Bool.or_eq_true, decide_eq_true_eq] at this ⊢
              exact this.imp id fun hlt => ih e.on hlt (by omega)
            rw [hr] at hmem; cases hmem
      exact full listed ρ S w a hsz hall st he hd
    · -- one that may come next
      unfold Region.ready at hi
      obtain ⟨hi1, hi2⟩ := List.mem_filter.1 hi
      have hin : i < ops.size := List.mem_range.1 hi1
      simp only [Array.getElem?_eq_getElem hin, Option.map_some, Option.getD_some, Bool.and_eq_true, Bool.not_eq_true'] at hi2
      obtain ⟨hun, hedges⟩ := hi2
      have hun' : listed.getD i false = false := by simp [Array.getD, hsz, hin] at hun ⊢; exact hun
      have ho : ops[i]? = some ops[i] := Array.getElem?_eq_getElem hin
      generalize hoi : ops[i] = o at *
      have hbef : ∀ j, ((Region.before ops).getD i 0).testBit j = true → listed.getD j false = true := by
        intro j hj
        obtain ⟨o', e, h1, h2, h3, h4⟩ := before_spec ops i hin j hj
        rw [ho] at h1; cases h1
        have := (Array.all_eq_true_iff_forall_mem.1 hedges) e h2
        rw [h3] at this
        simp only [Bool.not_true, Bool.false_or] at this
        rcases h4 with rfl | h4
        · exact this
        · exact hcl _ this j h4
      obtain ⟨x, g, q, hx, hxd, hg, hq, hfact⟩ := hf i o ho
      have later : ∀ k, listed.getD k false = true → ((Region.before ops).getD k 0).testBit i = true → False := fun k hk hb => by
        have := hcl k hk i hb; rw [hun'] at this; cases this
      -- its operands
      have slots : ∀ t ∈ usesOf ops o, nth (selE (fun k => listed.getD k false) rs 0 s.E) t = nth (selE (fun j => decide (j < i)) rs 0 s.E) t := by
        intro t ht
        refine selE_congr rs 0 _ _ rfl rfl fun k y hk hyd => ?_
        rw [Nat.zero_add]
        have hkn : k < ops.size := hl ▸ (List.getElem?_eq_some_iff.1 hk).1
        have hok : ops[k]? = some ops[k] := Array.getElem?_eq_getElem hkn
        obtain ⟨y', _, _, hy', hyd', _⟩ := hf k _ hok
        rw [hk] at hy'; cases hy'
        rw [hyd'] at hyd
        rcases Nat.lt_trichotomy k i with hlt | rfl | hgt
        · simp only [hlt, decide_true]
          rcases slots_spec hslot hlt hok ho with h | ⟨h, _⟩
          · exact hbef k h
          · exact absurd ht (h t hyd)
        · simp only [hun', Nat.lt_irrefl, decide_false]
        · rw [show decide (k < i) = false by simp; omega]
          cases hlk : listed.getD k false with
          | false => rfl
          | true =>
            rcases slots_spec hslot hgt ho hok with h | ⟨_, _, h⟩
            · exact (later k hlk h).elim
            · exact absurd ht (h t hyd)
      have hops := cvOp_congr (E := selE (fun k => listed.getD k false) rs 0 s.E) (E' := selE (fun j => decide (j < i)) rs 0 s.E) hq fun t ht => slots t (uses_op ht)
      have hwants := wants_congr hg slots
      -- another that was carried out
      have fact_of : ∀ k y, rs[k]? = some y → (y.u ≠ [] ∨ y.nw ≠ [] ∨ refs y.v ≠ []) → k < ops.size ∧ ∃ f Ek Hk gk qk, y.f = some f ∧ Ran X rid 0 s (befOf ((Region.before ops).getD k 0) k) [] rs k Ek Hk gk qk y f := by
        intro k y hk hne
        have hkn : k < ops.size := hl ▸ (List.getElem?_eq_some_iff.1 hk).1
        obtain ⟨y', gk, qk, hy', _, _, _, hfk⟩ := hf k _ (Array.getElem?_eq_getElem hkn)
        rw [hk] at hy'; cases hy'
        refine ⟨hkn, ?_⟩
        rcases hfk with ⟨_, _, h3, h4, h5⟩ | ⟨f, h1, h2⟩
        · rcases hne with h | h | h
          · exact absurd h4 h
          · exact absurd h5 h
          · rw [h3] at h; simp [refs, refsL] at h
        · exact ⟨f, _, _, gk, qk, h1, h2⟩
      have ne_of_mem : ∀ {α : Type} {l : List α} {z : α}, z ∈ l → l ≠ [] := fun h e => by rw [e] at h; cases h
      -- where it looks
      have hrun : wants (selE (fun k => listed.getD k false) rs 0 s.E) g = some false ∧ x.v = .tup [] ∧ x.u = [] ∧ x.nw = [] ∨
          wants (selE (fun k => listed.getD k false) rs 0 s.E) g = some true ∧ aop X (nameOf rid i) (selH (fun k => listed.getD k false) rs 0 s.H) (q.map (aev (selE (fun k => listed.getD k false) rs 0 s.E))) = some (x.v, x.u, x.nw) := by
        rcases hfact with ⟨_, h2, h3, h4, h5⟩ | ⟨f, h1, hran⟩
        · exact .inl ⟨hwants.trans h2, h3, h4, h5⟩
        · refine .inr ⟨hwants.trans hran.wants_, ?_⟩
          rw [hops]
          have hop := hran.op_
          rw [Nat.zero_add] at hop
          refine aop_local hop fun l hlm => ?_
          rw [← hran.r_, ← hran.w_] at hlm
          refine selH_congr rs 0 _ _ rfl fun k y hk hyl => ?_
          rw [Nat.zero_add]
          rcases Nat.lt_trichotomy k i with hlt | rfl | hgt
          · simp only [hlt, decide_true]
            cases hlk : listed.getD k false with
            | true => rfl
            | false =>
              exfalso
              obtain ⟨_, f', _, _, _, _, hf', hran'⟩ := fact_of k y hk (.inl fun e => by rw [e] at hyl; simp at hyl)
              have hc := hran.new_ k y hlt hk f' hf'
              simp only [clr, Bool.and_eq_true, Bool.or_eq_true] at hc
              rcases hc.2 with hb | ⟨⟨⟨_, c2⟩, c3⟩, _⟩
              · have hb' : f'.i ∈ befOf ((Region.before ops).getD i 0) i := by simpa using hb
                rw [hran'.i_, Nat.zero_add] at hb'
                have := hbef k (befOf_mem.1 hb').2
                rw [hlk] at this; cases this
              · have hyl' : l ∈ f'.w := by rw [hran'.w_]; exact hyl
                rcases hlm with hlm | hlm
                · exact disj_spec c3 l hyl' hlm
                · exact disj_spec c2 l hlm hyl'
          · simp only [hun', Nat.lt_irrefl, decide_false]
          · rw [show decide (k < i) = false by simp; omega]
            cases hlk : listed.getD k false with
            | false => rfl
            | true =>
              exfalso
              obtain ⟨_, f', _, _, _, _, hf', hran'⟩ := fact_of k y hk (.inl fun e => by rw [e] at hyl; simp at hyl)
              have hc := hran'.new_ i x hgt hx f h1
              simp only [clr, Bool.and_eq_true, Bool.or_eq_true] at hc
              rcases hc.2 with hb | ⟨⟨⟨c1, c2⟩, _⟩, _⟩
              · have hb' : f.i ∈ befOf ((Region.before ops).getD k 0) k := by simpa using hb
                rw [hran.i_, Nat.zero_add] at hb'
                exact later k hlk (befOf_mem.1 hb').2
              · have hyl' : l ∈ f'.w := by rw [hran'.w_]; exact hyl
                rcases hlm with hlm | hlm
                · exact disj_spec c1 l hyl' hlm
                · exact disj_spec c2 l hyl' hlm
      -- what it makes is named by nothing
      have apart : ∀ l ∈ x.nw, ∀ k y, rs[k]? = some y → listed.getD k false = true → l ∈ refs y.v ++ (y.u.flatMap fun z => refsO z.2) → False := by
        intro l hlx k y hk hlk hyl
        rcases hfact with ⟨_, _, _, _, h5⟩ | ⟨f, h1, hran⟩
        · rw [h5] at hlx; cases hlx
        · obtain ⟨_, f', _, _, _, _, hf', hran'⟩ := fact_of k y hk (by
            rcases List.mem_append.1 hyl with h | h
            · exact .inr (.inr (ne_of_mem h))
            · exact .inl fun e => by rw [e] at h; simp at h)
          rw [← hran'.m_] at hyl
          rw [← hran.nw_] at hlx
          rcases Nat.lt_trichotomy k i with hlt | rfl | hgt
          · have hc := hran.new_ k y hlt hk f' hf'
            simp only [clr, Bool.and_eq_true] at hc
            exact disj_spec hc.1 l hlx hyl
          · rw [hun'] at hlk; cases hlk
          · have hc := hran'.new_ i x hgt hx f h1
            simp only [clr, Bool.and_eq_true, Bool.or_eq_true] at hc
            rcases hc.2 with hb | ⟨⟨⟨_, _⟩, _⟩, c4⟩
            · have hb' : f.i ∈ befOf ((Region.before ops).getD k 0) k := by simpa using hb
              rw [hran.i_, Nat.zero_add] at hb'
              exact later k hlk (befOf_mem.1 hb').2
            · exact disj_spec c4 l hlx hyl
      have hfresh : ∀ l ∈ x.nw, l ∉ refsL s.E ∧ ∀ m p, hget s.H m = some p → m ≠ l → l ∉ refsO p := by
        intro l hlx
        rcases hfact with ⟨_, _, _, _, h5⟩ | ⟨f, h1, hran⟩
        · rw [h5] at hlx; cases hlx
        · exact fresh_spec hran.fresh_ l hlx
      have hno : ∀ l ∈ x.nw, l ∉ refsL (selE (fun k => listed.getD k false) rs 0 s.E) ∧ ∀ m p, hget (selH (fun k => listed.getD k false) rs 0 s.H) m = some p → m ≠ l → l ∉ refsO p := by
        intro l hlx
        refine ⟨fun hm => ?_, fun m p hp hm hlp => ?_⟩
        · rcases selE_refs rs 0 _ hm with h | ⟨k, y, h1, h2, h3⟩
          · exact (hfresh l hlx).1 h
          · rw [Nat.zero_add] at h2
            exact apart l hlx k y h1 h2 (List.mem_append_left _ h3)
        · rcases selH_mem rs 0 _ hp with h | ⟨k, y, h1, h2, h3⟩
          · exact (hfresh l hlx).2 m p h hm hlp
          · rw [Nat.zero_add] at h2
            exact apart l hlx k y h1 h2 (List.mem_append_right _ (List.mem_flatMap.2 ⟨_, h3, hlp⟩))
      refine oper_sound hC ho st.inv he hg hq hrun hno fun w' y ρ' S' st' he' => ?_
      -- and on
      have hi' : i < listed.size := hsz ▸ hin
      have p1 : (listed.setIfInBounds i true).getD i false = true := by rw [getD_set _ _ _ hi', if_pos rfl]
      have p2 : ∀ k, k ≠ i → (listed.setIfInBounds i true).getD k false = listed.getD k false := fun k hk => by rw [getD_set _ _ _ hi', if_neg hk]
      have eE := selE_insert (p := fun k => listed.getD k false) (p' := fun k => (listed.setIfInBounds i true).getD k false) (E := s.E) hx p1 p2 (fun k y t hik hlk hk ht => by
        have hkn : k < ops.size := hl ▸ (List.getElem?_eq_some_iff.1 hk).1
        have hok : ops[k]? = some ops[k] := Array.getElem?_eq_getElem hkn
        obtain ⟨y', _, _, hy', hyd', _⟩ := hf k _ hok
        rw [hk] at hy'; cases hy'
        rw [hyd']
        rw [hxd] at ht
        rcases slots_spec hslot hik ho hok with h | ⟨_, h, _⟩
        · exact (later k hlk h).elim
        · exact h t ht)
      have eH := selH_insert (p := fun k => listed.getD k false) (p' := fun k => (listed.setIfInBounds i true).getD k false) (H := s.H) hx p1 p2 (fun k y l hik hlk hk hlx hyl => by
        rcases hfact with ⟨_, _, _, h4, _⟩ | ⟨f, h1, hran⟩
        · rw [h4] at hlx; simp at hlx
        · obtain ⟨_, f', _, _, _, _, hf', hran'⟩ := fact_of k y hk (.inl fun e => by rw [e] at hyl; simp at hyl)
          have hc := hran'.new_ i x hik hx f h1
          simp only [clr, Bool.and_eq_true, Bool.or_eq_true] at hc
          rcases hc.2 with hb | ⟨⟨⟨_, c2⟩, _⟩, _⟩
          · have hb' : f.i ∈ befOf ((Region.before ops).getD k 0) k := by simpa using hb
            rw [hran.i_, Nat.zero_add] at hb'
            exact later k hlk (befOf_mem.1 hb').2
          · exact disj_spec c2 l (by rw [hran'.w_]; exact hyl) (by rw [hran.w_]; exact hlx))
      have stx := step_ext (N := No) st'.inv eH
      refine ih (listed.setIfInBounds i true) ρ' S' w' (a.put o.dst y) (by simp [hsz]) ?_ ?_ (((st.trans st').trans (stx.weaken fun _ h => h.elim)).weaken fun _ h => h.elim (fun h => h.elim id id) id) ?_ ?_
      · have hlt : i < listed.toList.length := by simpa using hi'
        have hget : listed.toList[i] = false := by
          have : listed[i] = false := by simpa [Array.getD, hi'] using hun'
          simpa using this
        rw [Array.toList_setIfInBounds, List.count_set hlt, hget]
        simp only [Bool.false_eq_true, beq_iff_eq, if_false, if_true, beq_self_eq_true]
        omega
      · intro k hk j hj
        rw [getD_set _ _ _ hi'] at hk ⊢
        split
        · rfl
        · by_cases hki : k = i
          · subst hki; exact hbef j hj
          · rw [if_neg hki] at hk; exact hcl k hk j hj
      · rw [eE]
        have := he'.step stx st'.inv fun _ _ => id
        rw [hxd]; exact this
      · rw [← hd]; cases o.dst <;> rfl

end
end Bz

/- Code, whole. -/
namespace Bz
open Go

section
variable {P : Program} {X : Ctx}

def exitOf : AExit → Exit
  | .norm => .normal
  | .exit id => .exit id
  | .ret => .ret
  | .goto l => .goto l

theorem region_sound (hC : Good P X.C) {id : Nat} {ops : Array Oper} {dr : Bool} {aid : Nat} {aops' : List AOper} {adr : Bool} (hc : cvCode P (.region id ops dr) = .region aid aops' adr) {s s' : St}
    (h : (if adr then aopsD X aid s aops' 0 s [] else aops X aid aops' 0 s) = some s') {ρ : Nm} {S : Nat → Prop} {w : World} {a : Act} {Q : Exit → Act → World → Prop} (hi : Inv ρ S s.H w) (he : RelE ρ S s.H w s.E a.tmps)
    (hn : ∀ ρ' S' w' (a' : Act), Step Big ρ S s.H w ρ' S' s'.H w' → RelE ρ' S' s'.H w' s'.E a'.tmps → a'.defers = a.defers → Q .normal a' w') : (Code.region id ops dr).wp P Q a w := by
  simp only [cvCode] at hc
  split at hc
  · rename_i hcond
    cases hc
    cases dr with
    | false =>
      simp only [Bool.false_eq_true, if_false] at h
      refine wp_region ?_
      rw [List.range_eq_range']
      have := aops_sound (P := P) (Q := Q) hC (ops := ops) (bs := #[]) ops.toList 0 s s' ρ S w a (fun k o hk => by simpa using hk) h hi he hn
      simpa using this
    | true =>
      simp only [if_true] at h
      simp only [Bool.not_true, Bool.false_or, Bool.and_eq_true] at hcond
      obtain ⟨⟨hedge, hslot⟩, hmix⟩ := hcond
      refine wp_region_any hmix ?_
      obtain ⟨rs, hl, hs', hf⟩ := aopsD_trace (P := P) (bs := Region.before ops) ops.toList 0 s s' [] h
      have hl' : rs.length = ops.size := by simpa using hl
      have hfalse : (fun k => (Array.replicate ops.size false).getD k false) = fun _ => false := by
        funext k
        simp only [Array.getD_eq_getD_getElem?, Array.getElem?_replicate]
        split <;> rfl
      refine any_sound (s := s) (rs := rs) (rid := id) (w0 := w) (a0 := a) (ρ0 := ρ) (S0 := S) hC hl' hedge hslot (fun k o hk => ?_) (fun ρ' S' w' a' st he' hd => ?_) ops.size _ ρ S _ a (by simp) (by simp [List.count_replicate]) (fun i hi => ?_) ?_ ?_ rfl
      · have := hf k o (by simpa using hk)
        simpa only [Nat.zero_add] using this
      · rw [hs'] at hn; exact hn ρ' S' w' a' st he' hd
      · have := congrFun hfalse i; rw [this] at hi; cases hi
      · rw [hfalse, selH_false]
        exact Step.heap0 (w := w) (w0 := { w with drawn := w.drawn + 1 }) (Step.refl (hi.heap rfl)) rfl
      · rw [hfalse, selH_false, selE_false]
        exact ⟨he.size, fun i => (he.at_ i).heap rfl⟩
  · cases hc

theorem mask_nth (ks : List Nat) : ∀ (E : List AV) (k i : Nat), nth (maskE ks E k) i = nth E i ∨ nth (maskE ks E k) i = .undef
  | [], _, i => .inl rfl
  | v :: r, k, 0 => by
    simp only [maskE, nth]
    split
    · exact .inl rfl
    · exact .inr rfl
  | v :: r, k, i + 1 => by
    simp only [maskE, nth]
    exact mask_nth ks r (k + 1) i

theorem mask_len (ks : List Nat) : ∀ (E : List AV) (k : Nat), (maskE ks E k).length = E.length
  | [], _ => rfl
  | v :: r, k => by simp [maskE, mask_len ks r (k + 1)]

theorem RelE.mask {ρ : Nm} {S : Nat → Prop} {H : Heap} {w : World} {E : List AV} {ts : Array Value} (h : RelE ρ S H w E ts) (ks : List Nat) (k : Nat) : RelE ρ S H w (maskE ks E k) ts :=
  ⟨(mask_len ks E k).trans h.size, fun i => by
    rcases mask_nth ks E k i with e | e
    · rw [e]; exact h.at_ i
    · rw [e]; exact .undef _⟩

/-- what is said of a piece of code -/
def Sound (P : Program) (X : Ctx) (c : Code) (ac : ACode) : Prop :=
  ∀ (k : Nat) (s s' : St) (e : AExit) (ρ : Nm) (S : Nat → Prop) (w : World) (a : Act) (Q : Exit → Act → World → Prop), aexec X k ac s = some (e, s') → Inv ρ S s.H w → RelE ρ S s.H w s.E a.tmps →
    (∀ ρ' S' w' (a' : Act), Step Big ρ S s.H w ρ' S' s'.H w' → RelE ρ' S' s'.H w' s'.E a'.tmps → a'.defers = a.defers → Q (exitOf e) a' w') → c.wp P Q a w

theorem hget_filter (p : Nat → Bool) : ∀ (H : Heap) (l : Nat), hget (H.filter fun x => p x.1) l = if p l then hget H l else none
  | [], l => by simp [hget]
  | (m, o) :: r, l => by
    simp only [List.filter_cons]
    by_cases hm : p m = true
    · rw [if_pos hm]
      simp only [hget]
      by_cases e : l = m
      · subst e; simp [hm]
      · rw [if_neg e, if_neg e]; exact hget_filter p r l
    · rw [if_neg hm, hget_filter p r l]
      simp only [hget]
      by_cases e : l = m
      · subst e; simp [hm]
      · rw [if_neg e]

theorem step_sub {N : Nat → Prop} {ρ : Nm} {S : Nat → Prop} {H H' : Heap} {w : World} (hi : Inv ρ S H w) (h : ∀ l, hget H' l = hget H l ∨ hget H' l = none) : Step N ρ S H w ρ S H' w := by
  have sub : ∀ l o, hget H' l = some o → hget H l = some o := fun l o ho => by
    rcases h l with e | e
    · rw [← e]; exact ho
    · rw [e] at ho; cases ho
  have hl : ∀ l, Live H' l → Live H l := fun l ⟨o, ho, hlo⟩ => ⟨o, sub l o ho, hlo⟩
  have hc : ∀ l, Comp ρ H l ρ H' l := fun l => by
    rcases h l with e | e
    · exact comp_same e rfl
    · exact comp_dead e
  refine ⟨⟨fun l o ho => ?_, fun l l' c a b e e' => hi.inj l l' c (hl l a) (hl l' b) e e', fun l b a => hi.sep l b (hl l a), hi.dom, fun l b a => hi.hlt l b (hl l a), fun l a => hi.hno l (hl l a)⟩, fun _ h => h, fun _ h => .inl h, fun _ _ _ => rfl, .refl w, Nat.le_refl _, fun l b a hf => .inr ⟨l, hl l a, hf⟩, fun l _ => hc l, ⟨rfl, rfl, rfl, by first | exact Nat.le_refl _ | exact Nat.le_add_right _ _⟩⟩
  exact (hi.obj l o (sub l o ho)).keep (fun _ => rfl) (fun _ _ _ => rfl) (fun _ h => h) (fun _ _ => rfl) (.refl w) fun m _ => hc m

theorem trim1_sound {ρ : Nm} {S : Nat → Prop} {s : St} {w : World} {ts : Array Value} (m : List Nat) (hi : Inv ρ S s.H w) (he : RelE ρ S s.H w s.E ts) :
    Step No ρ S s.H w ρ S (trim1 m s).H w ∧ RelE ρ S (trim1 m s).H w (trim1 m s).E ts := by
  have st : Step No ρ S s.H w ρ S (trim1 m s).H w := step_sub hi fun l => by
    show hget (gcH (maskE m s.E 0) s.H) l = hget s.H l ∨ hget (gcH (maskE m s.E 0) s.H) l = none
    unfold gcH
    simp only
    rw [hget_filter]
    split
    · exact .inl rfl
    · exact .inr rfl
  exact ⟨st, (he.mask m 0).step st hi fun _ _ => id⟩

theorem nth_renL (g : Nat → Nat) : ∀ (E : List AV) (i : Nat), nth (renL g E) i = ren g (nth E i)
  | [], i => by simp [renL, nth, ren]
  | v :: r, 0 => by simp [renL, nth]
  | v :: r, i + 1 => by simp only [renL, nth]; exact nth_renL g r i

theorem hget_renS {H : Heap} {l p : Nat} (hp : ∀ x ∈ H, x.1 ≠ p) (k : Nat) : hget (H.map fun x => (if x.1 = l then p else x.1, renO (fun x => if x = l then p else x) x.2)) k =
    if k = p then (hget H l).map (renO fun x => if x = l then p else x) else if k = l then none else (hget H k).map (renO fun x => if x = l then p else x) := by
  induction H with
  | nil => simp [hget]
  | cons y r ih =>
    obtain ⟨m, o⟩ := y
    have hm : m ≠ p := hp (m, o) (by simp)
    simp only [List.map_cons, hget, ih fun x hx => hp x (by simp [hx])]
    by_cases e1 : m = l
    · subst e1
      by_cases e2 : k = p
      · subst e2; simp
      · simp only [if_true, if_neg e2]
        by_cases e3 : k = m
        · simp [e3]
        · simp [e3]
    · simp only [if_neg e1]
      by_cases e2 : k = p
      · subst e2
        have f1 : ¬ k = m := fun e => hm e.symm
        have f2 : ¬ l = m := fun e => e1 e.symm
        simp only [if_neg f1, if_true, if_neg f2]
      · simp only [if_neg e2]
        by_cases e3 : k = l
        · subst e3
          have f1 : ¬ k = m := fun e => e1 e.symm
          simp [f1]
        · simp only [if_neg e3]
          by_cases e4 : k = m
          · simp [e4]
          · simp [e4]

theorem not_mem_of_none {H : Heap} {p : Nat} (h : (hget H p).isNone = true) : ∀ x ∈ H, x.1 ≠ p := by
  intro x hx e
  have := hget_of_mem hx
  rw [e] at this
  simp [Option.isNone_iff_eq_none] at h
  rw [h] at this; cases this

theorem freeN_spec {p : Nat} {s : St} (h : freeN p s = true) : Big p ∧ hget s.H p = none ∧ p ∉ refsL s.E ∧ ∀ m q, hget s.H m = some q → m ≠ p → p ∉ refsO q := by
  unfold freeN at h
  simp only [Bool.and_eq_true, decide_eq_true_eq, Option.isNone_iff_eq_none] at h
  obtain ⟨⟨h1, h2⟩, h3⟩ := h
  exact ⟨h1, h2, (noRef_spec h3).1, (noRef_spec h3).2⟩

/-- another name -/
theorem renS_sound {ρ : Nm} {S : Nat → Prop} {s : St} {w : World} {ts : Array Value} {l p : Nat} (hi : Inv ρ S s.H w) (he : RelE ρ S s.H w s.E ts) (hf : freeN p s = true) :
    Step Big ρ S s.H w (updK ρ p (ρ l) (ρ.hid l)) S (renS l p s).H w ∧ RelE (updK ρ p (ρ l) (ρ.hid l)) S (renS l p s).H w (renS l p s).E ts := by
  obtain ⟨hbig, hnone, hE, hO⟩ := freeN_spec hf
  have hk : ∀ k, hget (renS l p s).H k = if k = p then (hget s.H l).map (renO fun x => if x = l then p else x) else if k = l then none else (hget s.H k).map (renO fun x => if x = l then p else x) :=
    hget_renS (not_mem_of_none (by rw [hnone]; rfl))
  have hlp : ∀ o, hget s.H l = some o → l ≠ p := fun o ho e => by rw [e, hnone] at ho; cases ho
  have comp : ∀ k, k ≠ p → Comp ρ s.H k (updK ρ p (ρ l) (ρ.hid l)) (renS l p s).H (if k = l then p else k) := by
    intro k hkp
    by_cases e : k = l
    · subst e
      rw [if_pos rfl]
      exact comp_of _ (by rw [hk, if_pos rfl]) (by rw [updK_self])
    · rw [if_neg e]
      exact comp_of _ (by rw [hk, if_neg hkp, if_neg e]) (by rw [updK_ne ρ _ _ hkp])
  have live : ∀ k, Live (renS l p s).H k → (k = p ∧ Live s.H l) ∨ (k ≠ p ∧ k ≠ l ∧ Live s.H k) := by
    intro k hl
    by_cases e : k = p
    · subst e
      exact .inl ⟨rfl, live_of_map (fun x => if x = l then k else x) (by rw [hk, if_pos rfl]) hl⟩
    · by_cases e2 : k = l
      · obtain ⟨o, ho, _⟩ := hl
        rw [hk, if_neg e, if_pos e2] at ho; cases ho
      · exact .inr ⟨e, e2, live_of_map (fun x => if x = l then p else x) (by rw [hk, if_neg e, if_neg e2]) hl⟩
  have hat : ∀ k, Live (renS l p s).H k → ∃ k0, Live s.H k0 ∧ (∀ b, Ftp (updK ρ p (ρ l) (ρ.hid l)) k b ↔ Ftp ρ k0 b) ∧ k = if k0 = l then p else k0 := by
    intro k hl
    rcases live k hl with ⟨rfl, h⟩ | ⟨h1, h2, h⟩
    · exact ⟨l, h, fun b => foot_self, by simp⟩
    · exact ⟨k, h, fun b => foot_ne h1, by simp [h2]⟩
  have st : Step Big ρ S s.H w (updK ρ p (ρ l) (ρ.hid l)) S (renS l p s).H w := by
    refine ⟨⟨fun k o ho => ?_, fun k k' c a b e e' => ?_, fun k b a hf => ?_, hi.dom, fun k b a hf => ?_, fun k a hf => ?_⟩, fun _ h => h, fun _ h => .inl h, fun _ _ _ => rfl, .refl w, Nat.le_refl _, fun k b a hf => ?_, fun k hn => ?_, ⟨rfl, rfl, rfl, by first | exact Nat.le_refl _ | exact Nat.le_add_right _ _⟩⟩
    · rw [hk] at ho
      split at ho
      · rename_i e
        subst e
        obtain ⟨o', ho', rfl⟩ := Option.map_eq_some_iff.1 ho
        rw [updK_self, updK_hid]
        exact (hi.obj l o' ho').ren _ (fun _ => rfl) (fun _ _ _ => rfl) (fun _ h => h) (fun _ _ => rfl) (.refl w) fun m hm => comp m fun em => hO l o' ho' (hlp o' ho') (em ▸ hm)
      · rename_i e
        split at ho
        · cases ho
        · obtain ⟨o', ho', rfl⟩ := Option.map_eq_some_iff.1 ho
          rw [updK_ne ρ _ _ e, updK_hid_ne ρ _ _ e]
          exact (hi.obj k o' ho').ren _ (fun _ => rfl) (fun _ _ _ => rfl) (fun _ h => h) (fun _ _ => rfl) (.refl w) fun m hm => comp m fun em => hO k o' ho' e (em ▸ hm)
    · obtain ⟨k0, h1, h2, h3⟩ := hat k a
      obtain ⟨k1, h4, h5, h6⟩ := hat k' b
      rw [h2] at e; rw [h5] at e'
      have := hi.inj k0 k1 c h1 h4 e e'
      subst this
      rw [h3, h6]
    · obtain ⟨k0, h1, h2, _⟩ := hat k a
      rw [h2] at hf; exact hi.sep k0 b h1 hf
    · obtain ⟨k0, h1, h2, _⟩ := hat k a
      exact hi.foot_lt h1 ((h2 b).1 (.inr hf))
    · rcases live k a with ⟨rfl, h⟩ | ⟨h1, h2, h⟩
      · rw [updK_hid, updK_self] at hf; exact hi.hno l h hf
      · rw [updK_hid_ne ρ _ _ h1, updK_ne ρ _ _ h1] at hf; exact hi.hno k h hf
    · obtain ⟨k0, h1, h2, _⟩ := hat k a
      exact .inr ⟨k0, h1, (h2 b).1 hf⟩
    · have hkp : k ≠ p := fun e => hn (e ▸ hbig)
      by_cases e : k = l
      · refine comp_dead ?_
        rw [hk, if_neg hkp, if_pos e]
      · have := comp k hkp
        rwa [if_neg e] at this
  refine ⟨st, ⟨?_, fun i => ?_⟩⟩
  · show (renL _ s.E).length = _
    rw [renL_length]; exact he.size
  · show RelA _ _ _ _ (nth (renL _ s.E) i) _
    rw [nth_renL]
    exact (he.at_ i).trans _ (fun _ h => h) (fun _ _ => rfl) (.refl w) fun m hm => comp m fun em => hE (em ▸ nth_refs s.E i m hm)

/-- a row of none, under a name of its own -/
theorem virt_sound {ρ : Nm} {S : Nat → Prop} {s : St} {w : World} {ts : Array Value} {p sz : Nat} (hi : Inv ρ S s.H w) (he : RelE ρ S s.H w s.E ts) (hf : freeN p s = true) (hsz : 0 < sz) {o : AObj} (ho : o = .arr sz [] ∨ o = .oar sz []) :
    Step Big ρ S s.H w ρ S (hset s.H p o) w ∧ RelE ρ S (hset s.H p o) w s.E ts := by
  obtain ⟨hbig, hnone, hE, hO⟩ := freeN_spec hf
  have comp : ∀ k, k ≠ p → Comp ρ s.H k ρ (hset s.H p o) k := fun k hk => comp_same (hget_set_ne _ _ hk) rfl
  have hdead : isLive o = false := by rcases ho with rfl | rfl <;> rfl
  have live : ∀ k, Live (hset s.H p o) k → Live s.H k := fun k hk => by
    rcases live_hset hk with rfl | q
    · obtain ⟨o', ho', hlo⟩ := hk
      rw [hget_set_self] at ho'; cases ho'; rw [hdead] at hlo; cases hlo
    · exact q.2
  have st : Step Big ρ S s.H w ρ S (hset s.H p o) w := by
    refine ⟨⟨fun k o' ho' => ?_, fun k k' c a b e e' => hi.inj k k' c (live k a) (live k' b) e e', fun k b a => hi.sep k b (live k a), hi.dom, fun k b a => hi.hlt k b (live k a), fun k a => hi.hno k (live k a)⟩, fun _ h => h, fun _ h => .inl h, fun _ _ _ => rfl, .refl w, Nat.le_refl _,
      fun k b a hf => .inr ⟨k, live k a, hf⟩, fun k hn => comp k fun e => hn (e ▸ hbig), ⟨rfl, rfl, rfl, by first | exact Nat.le_refl _ | exact Nat.le_add_right _ _⟩⟩
    by_cases e : k = p
    · subst e
      rw [hget_set_self] at ho'; cases ho'
      rcases ho with rfl | rfl
      · exact ⟨hsz, fun h => absurd rfl h⟩
      · exact ⟨hsz, by simp, fun h => absurd rfl h⟩
    · rw [hget_set_ne _ _ e] at ho'
      exact (hi.obj k o' ho').keep (fun _ => rfl) (fun _ _ _ => rfl) (fun _ h => h) (fun _ _ => rfl) (.refl w) fun m hm => comp m fun em => hO k o' ho' e (em ▸ hm)
  exact ⟨st, ⟨he.size, fun i => (he.at_ i).keep (fun _ h => h) (fun _ _ => rfl) (.refl w) fun m hm => comp m fun em => hE (em ▸ nth_refs s.E i m hm)⟩⟩

/-- a place's value, another one that stands for the same -/
theorem proSet_sound {ρ : Nm} {S : Nat → Prop} {s s1 : St} {w : World} {ts : Array Value} {q : Pro} {v v' : AV} {p sz : Nat} (hi : Inv ρ S s1.H w) (he : RelE ρ S s1.H w s1.E ts) (hv : proAt s q = (v, p, sz)) (hvd : (∀ l ∈ refs v', (hget s1.H l).isSome = true ∧ ∀ cs, hget s1.H l ≠ some (.var cs)) ∧ ∀ t, v' ≠ .ow t)
    (hE : s1.E = s.E) (hH : ∀ l cs, hget s.H l = some (.var cs) → hget s1.H l = some (.var cs)) (hund : v ≠ .undef)
    (hr : ∀ x, RelA ρ S s1.H w v x → Flat x ∧ RelA ρ S s1.H w v' x) :
    Step Big ρ S s1.H w ρ S (proSet s1 v' q).H w ∧ RelE ρ S (proSet s1 v' q).H w (proSet s1 v' q).E ts := by
  have slot : ∀ k, nth s.E k = v → Step Big ρ S s1.H w ρ S s1.H w ∧ RelE ρ S s1.H w (s1.E.set k v') ts := by
    intro k hvk
    refine ⟨.refl hi, ?_⟩
    refine ⟨by simp [he.size], fun i => ?_⟩
    rw [nth_set]
    split
    · rename_i e
      obtain ⟨rfl, _⟩ := e
      have := he.at_ i
      rw [hE, hvk] at this
      exact (hr _ this).2
    · exact he.at_ i
  have cell : ∀ l j, (match hget s.H l with | some (.var cs) => nth cs j | _ => .undef) = v →
      Step Big ρ S s1.H w ρ S (match hget s1.H l with | some (.var cs) => { s1 with H := hset s1.H l (.var (cs.set j v')) } | _ => s1 : St).H w ∧
      RelE ρ S (match hget s1.H l with | some (.var cs) => { s1 with H := hset s1.H l (.var (cs.set j v')) } | _ => s1 : St).H w (match hget s1.H l with | some (.var cs) => { s1 with H := hset s1.H l (.var (cs.set j v')) } | _ => s1 : St).E ts := by
    intro l j hv1
    cases hg : hget s.H l with
    | none => rw [hg] at hv1; exact absurd hv1.symm hund
    | some o =>
      rw [hg] at hv1
      cases o with
      | var cs =>
        simp only at hv1
        have hg1 := hH l cs hg
        rw [hg1]
        simp only
        have comp : ∀ k, Comp ρ s1.H k ρ (hset s1.H l (.var (cs.set j v'))) k := by
          intro k
          by_cases e : k = l
          · subst e
            exact comp_like hg1 (hget_set_self ..) trivial rfl
          · exact comp_same (hget_set_ne _ _ e) rfl
        have live : ∀ k, Live (hset s1.H l (.var (cs.set j v'))) k → Live s1.H k := fun k hk => by
          rcases live_hset hk with rfl | q
          · exact ⟨_, hg1, rfl⟩
          · exact q.2
        have st : Step Big ρ S s1.H w ρ S (hset s1.H l (.var (cs.set j v'))) w := by
          refine ⟨⟨fun k o ho => ?_, fun k k' c a b e e' => hi.inj k k' c (live k a) (live k' b) e e', fun k b a => hi.sep k b (live k a), hi.dom, fun k b a => hi.hlt k b (live k a), fun k a => hi.hno k (live k a)⟩, fun _ h => h, fun _ h => .inl h, fun _ _ _ => rfl, .refl w, Nat.le_refl _,
            fun k b a hf => .inr ⟨k, live k a, hf⟩, fun k hn => comp k, ⟨rfl, rfl, rfl, by first | exact Nat.le_refl _ | exact Nat.le_add_right _ _⟩⟩
          by_cases e : k = l
          · subst e
            rw [hget_set_self] at ho; cases ho
            obtain ⟨vs, T, h1, h2, G, hG, h3⟩ := hi.obj k _ hg1
            refine ⟨vs, T, h1, by simpa using h2, G, by simpa using hG, fun i x hx => ?_⟩
            rw [List.getElem?_set] at hx
            by_cases ej : j = i
            · subst ej
              rw [if_pos rfl] at hx
              split at hx
              · rename_i hlt
                cases hx
                have hcj : cs[j]? = some v := by
                  rw [nth_eq, List.getElem?_eq_getElem hlt] at hv1
                  rw [List.getElem?_eq_getElem hlt]; simpa using hv1
                obtain ⟨z, hz, hf, hrz⟩ := h3 j v hcj
                exact ⟨z, hz, (hr z hrz.rel).1, .of (((hr z hrz.rel).2).keep (fun _ h => h) (fun _ _ => rfl) (.refl w) fun m _ => comp m) hvd.2⟩
              · cases hx
            · rw [if_neg ej] at hx
              obtain ⟨z, hz, hf, hrz⟩ := h3 i x hx
              exact ⟨z, hz, hf, hrz.keep (fun _ h => h) (fun _ _ => rfl) (.refl w) (fun _ _ => rfl) (fun _ h => h) fun m _ => comp m⟩
          · rw [hget_set_ne _ _ e] at ho
            exact (hi.obj k o ho).keep (fun _ => rfl) (fun _ _ _ => rfl) (fun _ h => h) (fun _ _ => rfl) (.refl w) fun m _ => comp m
        exact ⟨st, ⟨he.size, fun i => (he.at_ i).keep (fun _ h => h) (fun _ _ => rfl) (.refl w) fun m _ => comp m⟩⟩
      | _ => simp only at hv1; exact absurd hv1.symm hund
  cases q with
  | slot k p' sz' => exact slot k (Prod.mk.inj hv).1
  | cell l j p' sz' => exact cell l j (Prod.mk.inj hv).1
  | fslot k => exact slot k (Prod.mk.inj hv).1
  | fcell l j => exact cell l j (Prod.mk.inj hv).1
  | oslot k p' sz' => exact slot k (Prod.mk.inj hv).1
  | _ => exact absurd (Prod.mk.inj hv).1.symm hund

theorem demote_sound {ρ : Nm} {S : Nat → Prop} {s : St} {w : World} {ts : Array Value} (q : Pro) (hi : Inv ρ S s.H w) (he : RelE ρ S s.H w s.E ts) :
    ∃ ρ' S', Step Big ρ S s.H w ρ' S' (demote q s).H w ∧ RelE ρ' S' (demote q s).H w (demote q s).E ts := by
  unfold demote
  have data : ∀ {S' : Nat → Prop} {s1 : St} {l n off len sz : Nat} {es : List (List D)}, Inv ρ S' s1.H w → hget s1.H l = some (.fz sz es) → es.length = n → off + len ≤ n → ∀ x, RelA ρ S' s1.H w (.os l n off len) x →
      Flat x ∧ RelA ρ S' s1.H w (.d (.vs false ((es.drop off).take len))) x := by
    intro S' s1 l n off len sz es hi1 hg h1 h2 x hx
    have hv : vwD s1.H (.os l n off len) = some (.vs false ((es.drop off).take len)) := by
      simp only [vwD, hg]; rw [if_pos ⟨h1, h2⟩]
    have hd := vwD_rel hi1 hv hx (fun _ h => h) (fun k hk ⟨z, m, hm, hc⟩ => by
      simp only [arrsOf, List.mem_singleton] at hk
      subst hk
      obtain ⟨es', h3, h4⟩ := hc
      rw [hg] at h3
      rcases h3 with h3 | h3 <;> cases h3
      have hne : es ≠ [] := by intro e; subst e; exact hm h4.symm
      exact ((hi1.obj k _ hg).2 hne).1)
    exact ⟨hd.flat, .d _ _ hd⟩
  split
  · rename_i l n off len hq
    have hqe : proAt s q = (.os l n off len, (proAt s q).2.1, (proAt s q).2.2) := by rw [← hq]
    split
    · rename_i sz es hg
      split
      · rename_i hc
        have first : ∃ S1, Step Big ρ S s.H w ρ S1 (hset s.H l (.fz sz es)) w := by
          by_cases hne : es = []
          · subst hne; exact ⟨S, step_fz0 hi hg⟩
          · exact ⟨_, step_fz hi hg hne⟩
        obtain ⟨S1, st⟩ := first
        have he1 : RelE ρ S1 (hset s.H l (.fz sz es)) w s.E ts :=
          ⟨he.size, fun i => (he.at_ i).keep st.sub (fun _ _ => rfl) (.refl w) fun m _ => comp_fz hg⟩
        have hself : hget (hset s.H l (.fz sz es)) l = some (.fz sz es) := hget_set_self _ _ _
        obtain ⟨st2, he2⟩ := proSet_sound (s := s) (s1 := { s with H := hset s.H l (.fz sz es) }) (q := q) (v' := .d (.vs false ((es.drop off).take len))) st.inv he1 hqe
          ⟨fun l hl => by simp [refs] at hl, fun t e => by cases e⟩ rfl (fun k cs h => by
            show hget (hset s.H l (.fz sz es)) k = _
            rw [hget_set_ne]
            · exact h
            · intro e; rw [e, hg] at h; cases h) (by simp) (data (s1 := { s with H := hset s.H l (.fz sz es) }) st.inv hself hc.1 hc.2)
        exact ⟨ρ, S1, (st.trans st2).weaken fun _ h => h.elim id id, he2⟩
      · exact ⟨ρ, S, .refl hi, he⟩
    · rename_i sz es hg
      split
      · rename_i hc
        obtain ⟨st2, he2⟩ := proSet_sound (s := s) (s1 := s) (q := q) (v' := .d (.vs false ((es.drop off).take len))) hi he hqe
          ⟨fun l hl => by simp [refs] at hl, fun t e => by cases e⟩ rfl (fun k cs h => h) (by simp) (data (s1 := s) hi hg hc.1 hc.2)
        exact ⟨ρ, S, st2, he2⟩
      · exact ⟨ρ, S, .refl hi, he⟩
    · exact ⟨ρ, S, .refl hi, he⟩
  · rename_i x hq
    have hqe : proAt s q = (.d x, (proAt s q).2.1, (proAt s q).2.2) := by rw [← hq]
    obtain ⟨st2, he2⟩ := proSet_sound (s := s) (s1 := s) (q := q) (v' := .d (norm x)) hi he hqe
      ⟨fun l hl => by simp [refs] at hl, fun t e => by cases e⟩ rfl (fun k cs h => h) (by simp) (fun y hy => by
        cases hy with
        | d _ _ hd => exact ⟨hd.flat, .d _ _ hd.norm⟩)
    exact ⟨ρ, S, st2, he2⟩
  · exact ⟨ρ, S, .refl hi, he⟩

def gAt (j : Nat) (F : Nat → Prop) (G : Nat → Nat → Prop) : Nat → Nat → Prop := fun i c => (i = j ∧ F c) ∨ (i ≠ j ∧ G i c)

theorem CellR.wide {ρ : Nm} {S : Nat → Prop} {H : Heap} {w : World} {G G' : Nat → Prop} {v : AV} {x : Value} (h : CellR ρ S H w G v x) (hG : ∀ c, G c → G' c) : CellR ρ S H w G' v x :=
  h.keep (fun _ h => h) (fun _ _ => rfl) (.refl w) (fun _ _ => rfl) hG fun l _ => .refl _ _ _

theorem closeC_sound {ρ : Nm} {S : Nat → Prop} {s : St} {w : World} {ts : Array Value} (l j : Nat) (hi : Inv ρ S s.H w) (he : RelE ρ S s.H w s.E ts) :
    ∃ ρ', Step Big ρ S s.H w ρ' S (closeC l j s).H w ∧ RelE ρ' S (closeC l j s).H w (closeC l j s).E ts := by
  unfold closeC
  split
  · rename_i cs hcs
    split
    · rename_i v m hf
      split
      · exact ⟨ρ, .refl hi, he⟩
      · rename_i hml
        obtain ⟨ρ', st⟩ := close_core (N := No) hi hml hcs rfl (ol' := .var (cs.set j v)) trivial fun ρ' H' hc => by
          obtain ⟨vs, T, h1, h2, G, hG, h3⟩ := hi.obj l _ hcs
          have hL : Live s.H l := ⟨_, hcs, rfl⟩
          refine ⟨vs, T, h1, by simpa using h2, gAt j (fun c => Live s.H m ∧ Ftp ρ m c) G, ⟨fun i c hi' hc' => ?_, fun i i' c hi' hii hc' hcc => ?_⟩, fun i x hx => ?_⟩
          · rcases hc' with ⟨_, hc'⟩ | ⟨_, hc'⟩
            · exact .inr hc'
            · exact .inl (hG.1 i c (by simpa using hi') hc')
          · rcases hc' with ⟨e1, hc'⟩ | ⟨_, hc'⟩ <;> rcases hcc with ⟨e2, hcc⟩ | ⟨_, hcc⟩
            · rw [e1, e2]
            · exact absurd (hi.inj m l c hc'.1 hL hc'.2 (.inr (hG.1 i' c (by simpa using hii) hcc))) hml
            · exact absurd (hi.inj m l c hcc.1 hL hcc.2 (.inr (hG.1 i c (by simpa using hi') hc'))) hml
            · exact hG.2 i i' c (by simpa using hi') (by simpa using hii) hc' hcc
          · rw [List.getElem?_set] at hx
            by_cases e : j = i
            · subst e
              rw [if_pos rfl] at hx
              split at hx
              · rename_i hlt
                cases hx
                obtain ⟨z, hz, hfl, hr⟩ := h3 j _ (List.getElem?_eq_getElem hlt)
                refine ⟨z, hz, hfl, (fold_rel hi (v := cs[j]) ?_ hr.rel).wide fun c h => .inl ⟨rfl, h⟩⟩
                rw [nth_eq, List.getElem?_eq_getElem hlt] at hf; exact hf
              · cases hx
            · rw [if_neg e] at hx
              obtain ⟨z, hz, hfl, hr⟩ := h3 i x hx
              exact ⟨z, hz, hfl, hr.keep (fun _ h => h) (fun _ _ => rfl) (.refl w) (fun _ _ => rfl) (fun _ h => .inr ⟨fun q => e q.symm, h⟩) fun k _ => hc k⟩
        exact ⟨ρ', st.weaken fun _ h => h.elim, he.step st hi fun _ _ => id⟩
    · exact ⟨ρ, .refl hi, he⟩
  · exact ⟨ρ, .refl hi, he⟩

theorem closeE_sound {ρ : Nm} {S : Nat → Prop} {s : St} {w : World} {ts : Array Value} (l i j : Nat) (hi : Inv ρ S s.H w) (he : RelE ρ S s.H w s.E ts) :
    ∃ ρ', Step Big ρ S s.H w ρ' S (closeE l i j s).H w ∧ RelE ρ' S (closeE l i j s).H w (closeE l i j s).E ts := by
  unfold closeE
  split
  · rename_i sz es hes
    split
    · rename_i c hci
      split
      · rename_i v m hf
        split
        · exact ⟨ρ, .refl hi, he⟩
        · rename_i hml
          have hne : es ≠ [] := by intro e; subst e; simp at hci
          have hlv : isLive (.oar sz es) = true := by simpa [isLive] using hne
          obtain ⟨ρ', st⟩ := close_core (N := No) hi hml hes hlv (ol' := .oar sz (es.set i (c.set j v))) ⟨rfl, by simp⟩ fun ρ' H' hc => by
            obtain ⟨hpos, hrl, hrest⟩ := hi.obj l _ hes
            obtain ⟨vs, T, h1, h2, G, hG, h3⟩ := hrest hne
            have hL : Live s.H l := ⟨_, hes, hlv⟩
            have hcl := hrl c (List.mem_of_getElem? hci)
            refine ⟨hpos, fun c' hc' => ?_, fun _ => ⟨vs, T, h1, by simpa using h2, gAt (i * sz + j) (fun c => Live s.H m ∧ Ftp ρ m c) G, ⟨fun k b hk hb => ?_, fun k k' b hk hk' hb hb' => ?_⟩, fun i' c' hi' k x hx => ?_⟩⟩
            · rcases List.mem_or_eq_of_mem_set hc' with h | rfl
              · exact hrl c' h
              · simpa using hcl
            · rcases hb with ⟨_, hb⟩ | ⟨_, hb⟩
              · exact .inr hb
              · exact .inl (hG.1 k b (by simpa using hk) hb)
            · rcases hb with ⟨e1, hb⟩ | ⟨_, hb⟩ <;> rcases hb' with ⟨e2, hb'⟩ | ⟨_, hb'⟩
              · rw [e1, e2]
              · exact absurd (hi.inj m l b hb.1 hL hb.2 (.inr (hG.1 k' b (by simpa using hk') hb'))) hml
              · exact absurd (hi.inj m l b hb'.1 hL hb'.2 (.inr (hG.1 k b (by simpa using hk) hb))) hml
              · exact hG.2 k k' b (by simpa using hk) (by simpa using hk') hb hb'
            · have old : ∀ c0, es[i']? = some c0 → c0[k]? = some x → i' * sz + k ≠ i * sz + j → ∃ v_1, vs[i' * sz + k]? = some v_1 ∧ Flat v_1 ∧ CellR ρ' S H' w (gAt (i * sz + j) (fun c => Live s.H m ∧ Ftp ρ m c) G (i' * sz + k)) x v_1 := by
                intro c0 h0 hx0 hne'
                obtain ⟨z, hz, hfl, hr⟩ := h3 i' c0 h0 k x hx0
                exact ⟨z, hz, hfl, hr.keep (fun _ h => h) (fun _ _ => rfl) (.refl w) (fun _ _ => rfl) (fun _ h => .inr ⟨hne', h⟩) fun k _ => hc k⟩
              rw [List.getElem?_set] at hi'
              by_cases ei : i = i'
              · subst ei
                rw [if_pos rfl] at hi'
                split at hi'
                · cases hi'
                  rw [List.getElem?_set] at hx
                  by_cases ej : j = k
                  · subst ej
                    rw [if_pos rfl] at hx
                    split at hx
                    · rename_i hlt
                      cases hx
                      obtain ⟨z, hz, hfl, hr⟩ := h3 i c hci j _ (List.getElem?_eq_getElem hlt)
                      refine ⟨z, hz, hfl, (fold_rel hi (v := c[j]) ?_ hr.rel).wide fun c h => .inl ⟨rfl, h⟩⟩
                      rw [nth_eq, List.getElem?_eq_getElem hlt] at hf; exact hf
                    · cases hx
                  · rw [if_neg ej] at hx
                    exact old c hci hx (by omega)
                · cases hi'
              · rw [if_neg ei] at hi'
                refine old c' hi' hx fun e => ei ?_
                have hk : k < sz := by rw [← hrl c' (List.mem_of_getElem? hi')]; exact (List.getElem?_eq_some_iff.1 hx).1
                by_cases hj : j < sz
                · rcases Nat.lt_trichotomy i i' with h | h | h
                  · have : (i + 1) * sz ≤ i' * sz := Nat.mul_le_mul_right _ h
                    rw [Nat.add_mul, Nat.one_mul] at this; omega
                  · exact h
                  · have : (i' + 1) * sz ≤ i * sz := Nat.mul_le_mul_right _ h
                    rw [Nat.add_mul, Nat.one_mul] at this; omega
                · exfalso
                  rw [nth_eq, List.getElem?_eq_none (by omega)] at hf
                  simp [fold1] at hf
          exact ⟨ρ', st.weaken fun _ h => h.elim, he.step st hi fun _ _ => id⟩
      · exact ⟨ρ, .refl hi, he⟩
    · exact ⟨ρ, .refl hi, he⟩
  · exact ⟨ρ, .refl hi, he⟩

theorem closeRow_sound {S : Nat → Prop} {w : World} {ts : Array Value} (l : Nat) : ∀ (ps : List (Nat × Nat)) (ρ : Nm) (s : St), Inv ρ S s.H w → RelE ρ S s.H w s.E ts →
    ∃ ρ', Step Big ρ S s.H w ρ' S (closeRow l ps s).H w ∧ RelE ρ' S (closeRow l ps s).H w (closeRow l ps s).E ts
  | [], ρ, s, hi, he => ⟨ρ, .refl hi, he⟩
  | (i, j) :: r, ρ, s, hi, he => by
    obtain ⟨ρ1, st1, he1⟩ := closeE_sound l i j hi he
    obtain ⟨ρ2, st2, he2⟩ := closeRow_sound l r ρ1 _ st1.inv he1
    exact ⟨ρ2, (st1.trans st2).weaken fun _ h => h.elim id id, he2⟩

theorem closeP_sound {ρ : Nm} {S : Nat → Prop} {s : St} {w : World} {ts : Array Value} (q : Pro) (hi : Inv ρ S s.H w) (he : RelE ρ S s.H w s.E ts) :
    ∃ ρ', Step Big ρ S s.H w ρ' S (closeP q s).H w ∧ RelE ρ' S (closeP q s).H w (closeP q s).E ts := by
  have co : ∀ v, ∃ ρ', Step Big ρ S s.H w ρ' S (closeO v s).H w ∧ RelE ρ' S (closeO v s).H w (closeO v s).E ts := by
    intro v
    unfold closeO
    split
    · split
      · exact closeRow_sound _ _ ρ s hi he
      · exact ⟨ρ, .refl hi, he⟩
    · exact ⟨ρ, .refl hi, he⟩
  unfold closeP
  split
  · exact closeC_sound _ _ hi he
  · split
    · exact closeC_sound _ _ hi he
    · exact ⟨ρ, .refl hi, he⟩
  · split
    · exact co _
    · exact ⟨ρ, .refl hi, he⟩
  · exact co _
  · exact ⟨ρ, .refl hi, he⟩

theorem prom_sound {ρ : Nm} {S : Nat → Prop} {s : St} {w : World} {ts : Array Value} (q : Pro) (hi : Inv ρ S s.H w) (he : RelE ρ S s.H w s.E ts) :
    ∃ ρ' S', Step Big ρ S s.H w ρ' S' (prom q s).H w ∧ RelE ρ' S' (prom q s).H w (prom q s).E ts := by
  unfold prom
  split
  · obtain ⟨ρ', h1, h2⟩ := closeP_sound q hi he
    exact ⟨ρ', S, h1, h2⟩
  split
  · exact demote_sound q hi he
  split
  · rename_i p sz hq
    split
    · rename_i hc
      simp only [Bool.and_eq_true, decide_eq_true_eq] at hc
      have ho : (if isOs q then AObj.oar sz [] else .arr sz []) = .arr sz [] ∨ (if isOs q then AObj.oar sz [] else .arr sz []) = .oar sz [] := by
        split
        · exact .inr rfl
        · exact .inl rfl
      generalize (if isOs q then AObj.oar sz [] else .arr sz []) = ov at ho
      have hvar : ∀ cs, ov ≠ .var cs := fun cs e => by rcases ho with h | h <;> rw [h] at e <;> cases e
      obtain ⟨st, he1⟩ := virt_sound hi he hc.1 hc.2 ho
      have hnone := (freeN_spec hc.1).2.1
      obtain ⟨st2, he2⟩ := proSet_sound (s := s) (s1 := { s with H := hset s.H p ov }) (q := q) (v := .d (.vs true [])) (v' := .os p 0 0 0) (p := p) (sz := sz) st.inv he1 hq
        ⟨fun l hl => by simp [refs] at hl; subst hl; rw [hget_set_self]; exact ⟨rfl, fun cs h => hvar cs (Option.some.inj h)⟩, fun t e => by cases e⟩ rfl (fun l cs h => by
          show hget (hset s.H p ov) l = _
          rw [hget_set_ne]
          · exact h
          · intro e; rw [e, hnone] at h; cases h) (by simp) (fun x hx => by
          cases hx with
          | d _ _ hd =>
            cases hd with
            | vnil t b =>
              refine ⟨trivial, .os _ _ _ _ _ trivial fun sz1 m1 hc1 => ?_⟩
              exact ⟨by omega, fun _ => .inl ⟨rfl, rfl, b, rfl⟩⟩)
      exact ⟨ρ, S, (st.trans st2).weaken fun _ h => h.elim id id, he2⟩
    · exact ⟨ρ, S, .refl hi, he⟩
  · rename_i l _ _ _ p _ hq
    split
    · rename_i hc
      simp only [Bool.and_eq_true, decide_eq_true_eq] at hc
      exact ⟨_, S, renS_sound hi he hc.1⟩
    · exact ⟨ρ, S, .refl hi, he⟩
  · exact ⟨ρ, S, .refl hi, he⟩

theorem proms_sound {w : World} {ts : Array Value} : ∀ (qs : List Pro) (ρ : Nm) (S : Nat → Prop) (s : St), Inv ρ S s.H w → RelE ρ S s.H w s.E ts →
    ∃ ρ' S', Step Big ρ S s.H w ρ' S' (proms qs s).H w ∧ RelE ρ' S' (proms qs s).H w (proms qs s).E ts
  | [], ρ, S, s, hi, he => ⟨ρ, S, .refl hi, he⟩
  | q :: r, ρ, S, s, hi, he => by
    obtain ⟨ρ1, S1, st1, he1⟩ := prom_sound q hi he
    obtain ⟨ρ2, S2, st2, he2⟩ := proms_sound r ρ1 S1 (prom q s) st1.inv he1
    exact ⟨ρ2, S2, (st1.trans st2).weaken fun _ h => h.elim id id, he2⟩

theorem gc_sound {ρ : Nm} {S : Nat → Prop} {s : St} {w : World} {ts : Array Value} (hi : Inv ρ S s.H w) (he : RelE ρ S s.H w s.E ts) :
    Step No ρ S s.H w ρ S (gcH s.E s.H) w ∧ RelE ρ S (gcH s.E s.H) w s.E ts := by
  have st : Step No ρ S s.H w ρ S (gcH s.E s.H) w := step_sub hi fun l => by
    unfold gcH
    simp only
    rw [hget_filter]
    split
    · exact .inl rfl
    · exact .inr rfl
  exact ⟨st, he.step st hi fun _ _ => id⟩

theorem hget_insH (x : Nat × AObj) : ∀ (H : Heap) (l : Nat), hget (insH x H) l = if l = x.1 then some x.2 else hget H l
  | [], l => by obtain ⟨a, b⟩ := x; simp [insH, hget]
  | (m, o) :: r, l => by
    obtain ⟨a, b⟩ := x
    simp only [insH]
    split
    · simp [hget]
    · rename_i h
      simp only [hget, hget_insH (a, b) r l]
      by_cases e : l = m
      · subst e
        have : ¬ l = a := by simp at h; omega
        simp [this]
      · simp [e]

theorem hget_sortH : ∀ (H : Heap) (l : Nat), hget (sortH H) l = hget H l
  | [], _ => rfl
  | (m, o) :: r, l => by simp only [sortH, hget_insH, hget, hget_sortH r l]

theorem trim_sound {ρ : Nm} {S : Nat → Prop} {s : St} {w : World} {a : Act} (m : Mask) (hi : Inv ρ S s.H w) (he : RelE ρ S s.H w s.E a.tmps) :
    ∃ ρ' S', Step Big ρ S s.H w ρ' S' (trim m s).H w ∧ RelE ρ' S' (trim m s).H w (trim m s).E a.tmps := by
  obtain ⟨st1, he1⟩ := trim1_sound m.keep hi he
  obtain ⟨ρ2, S2, st2, he2⟩ := proms_sound m.pro ρ S (trim1 m.keep s) st1.inv he1
  have gc : Step Big ρ2 S2 (proms m.pro (trim1 m.keep s)).H w ρ2 S2 (gcP m.pro (proms m.pro (trim1 m.keep s))).H w ∧ RelE ρ2 S2 (gcP m.pro (proms m.pro (trim1 m.keep s))).H w (gcP m.pro (proms m.pro (trim1 m.keep s))).E a.tmps := by
    generalize proms m.pro (trim1 m.keep s) = t at st2 he2
    cases m.pro with
    | nil => exact ⟨.refl st2.inv, he2⟩
    | cons q r =>
      obtain ⟨g1, g2⟩ := gc_sound st2.inv he2
      exact ⟨g1.weaken fun _ h => h.elim, g2⟩
  obtain ⟨st4, he4⟩ := gc
  have st3 : Step Big ρ2 S2 (gcP m.pro (proms m.pro (trim1 m.keep s))).H w ρ2 S2 (trim m s).H w := step_ext st4.inv fun k => hget_sortH _ k
  refine ⟨ρ2, S2, (((st1.trans st2).trans st4).trans st3).weaken fun _ h => h.elim (fun h => h.elim (fun h => h.elim (fun h => h.elim) id) id) id, he4.size, fun i => ?_⟩
  exact (he4.at_ i).keep (fun _ h => h) (fun _ _ => rfl) (.refl w) fun k _ => comp_ext (fun k => hget_sortH _ k) k

theorem loop_sound {c : Code} {ac : ACode} (h : Sound P X c ac) (mask : Mask) (k : Nat) {Q : Exit → Act → World → Prop} : ∀ (n : Nat) (s s' : St) (e : AExit) (ρ : Nm) (S : Nat → Prop) (w : World) (a : Act),
    rounds (aexec X k ac) mask n s = some (e, s') → Inv ρ S s.H w → RelE ρ S s.H w s.E a.tmps →
    (∀ ρ' S' w' (a' : Act), Step Big ρ S s.H w ρ' S' s'.H w' → RelE ρ' S' s'.H w' s'.E a'.tmps → a'.defers = a.defers → Q (exitOf e) a' w') → Code.rounds P c Q n a w
  | 0, s, s', e, ρ, S, w, a, hr, _, _, _ => by simp [rounds] at hr
  | n + 1, s, s', e, ρ, S, w, a, hr, hi, he, hn => by
    simp only [rounds] at hr
    unfold Code.rounds
    obtain ⟨ρ0, S0, st0, he0⟩ := trim_sound mask hi he
    split at hr
    · rename_i s1 h1
      refine h k _ s1 .norm ρ0 S0 w a _ h1 st0.inv he0 fun ρ1 S1 w1 a1 st1 he1 hd1 => ?_
      show Code.rounds P c Q n a1 w1
      exact loop_sound h mask k n s1 s' e ρ1 S1 w1 a1 hr st1.inv he1 fun ρ' S' w' a' st he' hd => hn ρ' S' w' a' (((st0.trans st1).trans st).weaken fun _ h => h.elim (fun h => h.elim id id) id) he' (hd.trans hd1)
    · rename_i hne
      refine h k _ s' e ρ0 S0 w a _ hr st0.inv he0 fun ρ1 S1 w1 a1 st1 he1 hd1 => ?_
      have st1 := (st0.trans st1).weaken (N' := Big) fun _ h => h.elim id id
      cases e with
      | norm => exact absurd hr (hne s')
      | exit id => exact hn ρ1 S1 w1 a1 st1 he1 hd1
      | ret => exact hn ρ1 S1 w1 a1 st1 he1 hd1
      | goto l => exact hn ρ1 S1 w1 a1 st1 he1 hd1

/-- passes of a scope, each from the label on -/
def passes (P : Program) (rest : Code) (l : Nat) (Q : Exit → Act → World → Prop) : Nat → Act → World → Prop
  | 0, _, _ => False
  | n + 1, a, w => rest.wp P (Exit.jump l (passes P rest l Q n) Q) a w

theorem wp_scope_passes {c rest : Code} {l : Nat} {Q : Exit → Act → World → Prop} {a : Act} {w : World} (hf : findLabel c l = some rest) (n : Nat) (first : c.wp P (Exit.jump l (passes P rest l Q n) Q) a w) : (Code.scope c).wp P Q a w := by
  intro b k cs
  have hg : gotoIn l (.inScope c :: k) = some (.code rest :: .inScope c :: k) := by simp [gotoIn, hf]
  have key : ∀ n a w, passes P rest l Q n a w → ∃ e a' w', Q e a' w' ∧ Arrives P (lone (b.at a (.code rest :: .inScope c :: k)) cs w) b k cs e a' w' := by
    intro n
    induction n with
    | zero => intro a w h; exact h.elim
    | succ n ih =>
      intro a w h
      obtain ⟨e, a₁, w₁, hq, harr⟩ := h b (.inScope c :: k) cs
      cases e with
      | normal => exact ⟨.normal, a₁, w₁, hq, Steps.trans harr (.one step_inScope)⟩
      | exit id => exact ⟨.exit id, a₁, w₁, hq, fun k' hk => harr k' (by simp [exitTo, hk])⟩
      | goto l' =>
        obtain ⟨rfl, hJ'⟩ := hq
        obtain ⟨e₂, a₂, w₂, hq₂, harr₂⟩ := ih a₁ w₁ hJ'
        exact ⟨e₂, a₂, w₂, hq₂, .of_steps (harr _ hg) harr₂⟩
      | ret => exact ⟨_, a₁, w₁, hq, harr⟩
      | panic ch => exact ⟨_, a₁, w₁, hq, harr⟩
      | outgrown => exact ⟨_, a₁, w₁, hq, harr⟩
  obtain ⟨e, a₁, w₁, hq, harr⟩ := first b (.inScope c :: k) cs
  cases e with
  | normal => exact ⟨.normal, a₁, w₁, hq, .head step_scope (Steps.trans harr (.one step_inScope))⟩
  | exit id => exact ⟨.exit id, a₁, w₁, hq, fun k' hk => .head step_scope (harr k' (by simp [exitTo, hk]))⟩
  | goto l' =>
    obtain ⟨rfl, hJ'⟩ := hq
    obtain ⟨e₂, a₂, w₂, hq₂, harr₂⟩ := key _ a₁ w₁ hJ'
    exact ⟨e₂, a₂, w₂, hq₂, .of_steps (.head step_scope (harr _ hg)) harr₂⟩
  | ret => exact ⟨_, a₁, w₁, hq, .of_steps (.one step_scope) harr⟩
  | panic ch => exact ⟨_, a₁, w₁, hq, .of_steps (.one step_scope) harr⟩
  | outgrown => exact ⟨_, a₁, w₁, hq, .of_steps (.one step_scope) harr⟩

theorem jumps_sound {c : Code} {ac : ACode} (h : Sound P X c ac) (mask : Mask) (l k : Nat) {Q : Exit → Act → World → Prop} : ∀ (n : Nat) (s s' : St) (e : AExit) (ρ : Nm) (S : Nat → Prop) (w : World) (a : Act),
    jumps (aexec X k ac) mask l n s = some (e, s') → Inv ρ S s.H w → RelE ρ S s.H w s.E a.tmps →
    (∀ ρ' S' w' (a' : Act), Step Big ρ S s.H w ρ' S' s'.H w' → RelE ρ' S' s'.H w' s'.E a'.tmps → a'.defers = a.defers → Q (exitOf e) a' w') →
    c.wp P (Exit.jump l (passes P (.seq .skip c) l Q (n - 1)) Q) a w
  | 0, s, s', e, ρ, S, w, a, hr, _, _, _ => by simp [jumps] at hr
  | n + 1, s, s', e, ρ, S, w, a, hr, hi, he, hn => by
    simp only [jumps] at hr
    obtain ⟨ρ0, S0, st0, he0⟩ := trim_sound mask hi he
    rw [Nat.add_sub_cancel]
    split at hr
    · rename_i j s1 h1
      split at hr
      · rename_i hj
        subst hj
        refine h k _ s1 (.goto j) ρ0 S0 w a _ h1 st0.inv he0 fun ρ1 S1 w1 a1 st1 he1 hd1 => ?_
        refine ⟨rfl, ?_⟩
        have := jumps_sound h mask j k n s1 s' e ρ1 S1 w1 a1 hr st1.inv he1 fun ρ' S' w' a' st he' hd => hn ρ' S' w' a' (((st0.trans st1).trans st).weaken fun _ h => h.elim (fun h => h.elim id id) id) he' (hd.trans hd1)
        cases n with
        | zero => simp [jumps] at hr
        | succ n => exact wp_seq (wp_skip this)
      · cases hr
    · rename_i hne
      refine h k _ s' e ρ0 S0 w a _ hr st0.inv he0 fun ρ1 S1 w1 a1 st1 he1 hd1 => ?_
      have := hn ρ1 S1 w1 a1 ((st0.trans st1).weaken fun _ h => h.elim id id) he1 hd1
      cases e with
      | norm => exact this
      | exit id => exact this
      | ret => exact this
      | goto j => exact absurd hr (hne j s')

theorem bare_scope (c : Code) : (∃ l p b, c = .seq p (.seq (.label l) b) ∧ findLabel p l = none ∧ bare (cvCode P (.scope c)) = .scope l ⟨[], []⟩ (bare (cvCode P p)) (bare (cvCode P b))) ∨ bare (cvCode P (.scope c)) = .bad := by
  cases c with
  | seq p q =>
    cases q with
    | seq q b =>
      cases q with
      | label l =>
        simp only [cvCode]
        cases hf : findLabel p l with
        | none => exact .inl ⟨l, p, b, rfl, hf, rfl⟩
        | some r => exact .inr rfl
      | _ => exact .inr rfl
    | _ => exact .inr rfl
  | _ => exact .inr rfl
theorem scope_ne {c : Code} {x : ACode} (hb : x = bare (cvCode P (.scope c))) : x = .bad ∨ ∃ l p b, x = .scope l ⟨[], []⟩ p b := by
  rcases bare_scope (P := P) c with ⟨l, p, b, _, _, h⟩ | h
  · exact .inr ⟨l, _, _, hb.trans h⟩
  · exact .inl (hb.trans h)

theorem aexec_sound (hC : Good P X.C) (c : Code) (ac : ACode) : bare ac = bare (cvCode P c) → Sound P X c ac := by
  induction ac generalizing c with
  | skip =>
    intro hb k s s' e ρ S w a Q h hi he hn
    cases c
    case scope c => rcases scope_ne hb with h | ⟨_, _, _, h⟩ <;> cases h
    all_goals simp only [cvCode, bare] at hb <;> (try (split at hb)) <;> try (cases hb; done)
    simp only [aexec] at h; cases h
    exact wp_skip (hn ρ S w a (.refl hi) he rfl)
  | region id ops dr =>
    intro hb k s s' e ρ S w a Q h hi he hn
    cases c
    case region cid cops cdr =>
      have hreg : cvCode P (.region cid cops cdr) = .region id ops dr := by
        have : bare (cvCode P (.region cid cops cdr)) = cvCode P (.region cid cops cdr) := by
          simp only [cvCode]; split <;> rfl
        rw [this] at hb; exact hb.symm
      simp only [aexec] at h
      obtain ⟨s1, h1, h2⟩ := Option.map_eq_some_iff.1 h
      cases h2
      exact region_sound hC hreg h1 hi he hn
    case scope c => rcases scope_ne hb with h | ⟨_, _, _, h⟩ <;> cases h
    all_goals (simp only [cvCode, bare] at hb; try (split at hb)) <;> cases hb
  | seq ax ay ihx ihy =>
    intro hb k s s' e ρ S w a Q h hi he hn
    cases c
    case seq x y =>
      simp only [cvCode, bare] at hb
      injection hb with hbx hby
      simp only [aexec] at h
      refine wp_seq ?_
      split at h
      · rename_i s1 h1
        refine ihx x hbx k s s1 .norm ρ S w a _ h1 hi he fun ρ1 S1 w1 a1 st1 he1 hd1 => ?_
        exact ihy y hby k s1 s' e ρ1 S1 w1 a1 Q h st1.inv he1 fun ρ' S' w' a' st he' hd => hn ρ' S' w' a' ((st1.trans st).weaken fun _ h => h.elim id id) he' (hd.trans hd1)
      · rename_i hne
        refine ihx x hbx k s s' e ρ S w a _ h hi he fun ρ1 S1 w1 a1 st1 he1 hd1 => ?_
        cases e with
        | norm => exact absurd h (hne s')
        | exit id => exact hn ρ1 S1 w1 a1 st1 he1 hd1
        | ret => exact hn ρ1 S1 w1 a1 st1 he1 hd1
        | goto l => exact hn ρ1 S1 w1 a1 st1 he1 hd1
    case scope c => rcases scope_ne hb with h | ⟨_, _, _, h⟩ <;> cases h
    all_goals (simp only [cvCode, bare] at hb; try (split at hb)) <;> cases hb
  | cond qc ax ay ihx ihy =>
    intro hb k s s' e ρ S w a Q h hi he hn
    cases c
    case cond c x y =>
      cases hcv : cvO c with
      | none => simp only [cvCode, hcv, bare] at hb; cases hb
      | some qc' =>
        simp only [cvCode, hcv, bare] at hb
        injection hb with hbc hbx hby
        subst hbc
        simp only [aexec] at h
        split at h
        · rename_i t ht
          have hr := (cvO_rel he hcv).rel
          rw [ht] at hr
          refine wp_cond (relA_bool hr) ?_
          cases t with
          | true => exact ihx x hbx k s s' e ρ S w a Q h hi he hn
          | false => exact ihy y hby k s s' e ρ S w a Q h hi he hn
        · rename_i ht
          have hr := (cvO_rel he hcv).rel
          rw [ht] at hr
          obtain ⟨h1, h2⟩ := bothK_some h
          generalize hev : a.eval c = v at hr
          cases hr with
          | anyb t =>
            refine wp_cond hev ?_
            cases t with
            | true => exact ihx x hbx k s s' e ρ S w a Q h1 hi he hn
            | false => exact ihy y hby k s s' e ρ S w a Q h2 hi he hn
        · cases h
    case scope c => rcases scope_ne hb with h | ⟨_, _, _, h⟩ <;> cases h
    all_goals (simp only [cvCode, bare] at hb; try (split at hb)) <;> cases hb
  | guard pp qc ax ay ihp ihx ihy =>
    intro hb k s s' e ρ S w a Q h hi he hn
    cases c
    case seq xy y =>
      simp only [cvCode, bare] at hb
      injection hb with hb1 hby
      cases xy
      case seq x c3 =>
        simp only [cvCode, bare] at hb1
        injection hb1 with hbp hbc3
        cases c3
        case cond c x1 y1 =>
          cases hcv : cvO c with
          | none => simp only [cvCode, hcv, bare] at hbc3; cases hbc3
          | some qc' =>
            simp only [cvCode, hcv, bare] at hbc3
            injection hbc3 with hbc hbx hbs
            subst hbc
            have hskip : ∀ {c : Code}, ACode.skip = bare (cvCode P c) → c = .skip := by
              intro c hc
              cases c
              case scope c => rcases scope_ne hc with h | ⟨_, _, _, h⟩ <;> cases h
              all_goals simp only [cvCode, bare] at hc <;> (try (split at hc)) <;> first | rfl | (cases hc; done)
            cases hskip hbs
            simp only [aexec] at h
            refine wp_seq ?_
            refine wp_seq ?_
            split at h
            · rename_i s1 h1
              refine ihp x hbp k s s1 .norm ρ S w a _ h1 hi he fun ρ1 S1 w1 a1 st1 he1 hd1 => ?_
              have hn1 : ∀ ρ' S' w' (a' : Act), Step Big ρ1 S1 s1.H w1 ρ' S' s'.H w' → RelE ρ' S' s'.H w' s'.E a'.tmps → a'.defers = a1.defers → Q (exitOf e) a' w' :=
                fun ρ' S' w' a' st he' hd => hn ρ' S' w' a' ((st1.trans st).weaken fun _ h => h.elim id id) he' (hd.trans hd1)
              have hleft : cutN (aexec X k ax s1) = some (e, s') → x1.wp P (Exit.then (y.wp P Q) Q) a1 w1 := by
                intro hc
                obtain ⟨g1, g2⟩ := cutN_some hc
                refine ihx x1 hbx k s1 s' e ρ1 S1 w1 a1 _ g1 st1.inv he1 fun ρ' S' w' a' st he' hd => ?_
                have := hn1 ρ' S' w' a' st he' hd
                cases e with
                | norm => exact absurd rfl g2
                | exit id => exact this
                | ret => exact this
                | goto l => exact this
              have hright : aexec X k ay s1 = some (e, s') → Code.skip.wp P (Exit.then (y.wp P Q) Q) a1 w1 :=
                fun hc => wp_skip (ihy y hby k s1 s' e ρ1 S1 w1 a1 Q hc st1.inv he1 hn1)
              show (Code.cond c x1 .skip).wp P (Exit.then (y.wp P Q) Q) a1 w1
              split at h
              · rename_i t ht
                have hr := (cvO_rel he1 hcv).rel
                rw [ht] at hr
                refine wp_cond (relA_bool hr) ?_
                cases t with
                | true => exact hleft h
                | false => exact hright h
              · rename_i ht
                have hr := (cvO_rel he1 hcv).rel
                rw [ht] at hr
                obtain ⟨h2, h3⟩ := bothK_some h
                generalize hev : a1.eval c = v at hr
                cases hr with
                | anyb t =>
                  refine wp_cond hev ?_
                  cases t with
                  | true => exact hleft h2
                  | false => exact hright h3
              · cases h
            · rename_i hne
              refine ihp x hbp k s s' e ρ S w a _ h hi he fun ρ1 S1 w1 a1 st1 he1 hd1 => ?_
              have := hn ρ1 S1 w1 a1 st1 he1 hd1
              cases e with
              | norm => exact absurd h (hne s')
              | exit id => exact this
              | ret => exact this
              | goto l => exact this
        case scope c => rcases scope_ne hbc3 with h | ⟨_, _, _, h⟩ <;> cases h
        all_goals (simp only [cvCode, bare] at hbc3; try (split at hbc3)) <;> cases hbc3
      case scope c => rcases scope_ne hb1 with h | ⟨_, _, _, h⟩ <;> cases h
      all_goals (simp only [cvCode, bare] at hb1; try (split at hb1)) <;> cases hb1
    case scope c => rcases scope_ne hb with h | ⟨_, _, _, h⟩ <;> cases h
    all_goals (simp only [cvCode, bare] at hb; try (split at hb)) <;> cases hb
  | block id ax ih =>
    intro hb k s s' e ρ S w a Q h hi he hn
    cases c
    case block id' c =>
      simp only [cvCode, bare] at hb
      injection hb with hbi hbx
      subst hbi
      simp only [aexec] at h
      refine wp_block ?_
      split at h
      · rename_i j s1 h1
        split at h
        · rename_i hj
          cases h
          refine ih c hbx k s _ _ ρ S w a _ h1 hi he fun ρ1 S1 w1 a1 st1 he1 hd1 => ?_
          show Exit.inBlock _ Q (.exit j) a1 w1
          simp only [Exit.inBlock, hj, if_true]
          exact hn ρ1 S1 w1 a1 st1 he1 hd1
        · rename_i hj
          cases h
          refine ih c hbx k s _ _ ρ S w a _ h1 hi he fun ρ1 S1 w1 a1 st1 he1 hd1 => ?_
          show Exit.inBlock _ Q (.exit j) a1 w1
          simp only [Exit.inBlock, hj, if_false]
          exact hn ρ1 S1 w1 a1 st1 he1 hd1
      · rename_i hne
        refine ih c hbx k s s' e ρ S w a _ h hi he fun ρ1 S1 w1 a1 st1 he1 hd1 => ?_
        cases e with
        | norm => exact hn ρ1 S1 w1 a1 st1 he1 hd1
        | exit id => exact absurd h (hne id s')
        | ret => exact hn ρ1 S1 w1 a1 st1 he1 hd1
        | goto l => exact hn ρ1 S1 w1 a1 st1 he1 hd1
    case scope c => rcases scope_ne hb with h | ⟨_, _, _, h⟩ <;> cases h
    all_goals (simp only [cvCode, bare] at hb; try (split at hb)) <;> cases hb
  | loop mask ax ih =>
    intro hb k s s' e ρ S w a Q h hi he hn
    cases c
    case loop c =>
      simp only [cvCode, bare] at hb
      injection hb with _ hbx
      simp only [aexec] at h
      exact wp_loop_rounds k (loop_sound (ih c hbx) mask k k s s' e ρ S w a h hi he hn)
    case scope c => rcases scope_ne hb with h | ⟨_, _, _, h⟩ <;> cases h
    all_goals (simp only [cvCode, bare] at hb; try (split at hb)) <;> cases hb
  | mask m ax ih =>
    intro hb k s s' e ρ S w a Q h hi he hn
    simp only [aexec] at h
    obtain ⟨ρ0, S0, st0, he0⟩ := trim_sound m hi he
    exact ih c hb k _ s' e ρ0 S0 w a Q h st0.inv he0 fun ρ' S' w' a' st he' hd => hn ρ' S' w' a' ((st0.trans st).weaken fun _ h => h.elim id id) he' hd
  | exit id =>
    intro hb k s s' e ρ S w a Q h hi he hn
    cases c
    case exit id' =>
      simp only [cvCode, bare] at hb
      cases hb
      simp only [aexec] at h; cases h
      exact wp_exit (hn ρ S w a (.refl hi) he rfl)
    case scope c => rcases scope_ne hb with h | ⟨_, _, _, h⟩ <;> cases h
    all_goals (simp only [cvCode, bare] at hb; try (split at hb)) <;> cases hb
  | ret =>
    intro hb k s s' e ρ S w a Q h hi he hn
    cases c
    case ret =>
      simp only [aexec] at h; cases h
      exact wp_ret (hn ρ S w a (.refl hi) he rfl)
    case scope c => rcases scope_ne hb with h | ⟨_, _, _, h⟩ <;> cases h
    all_goals (simp only [cvCode, bare] at hb; try (split at hb)) <;> cases hb
  | goto l =>
    intro hb k s s' e ρ S w a Q h hi he hn
    cases c
    case goto l' =>
      simp only [cvCode, bare] at hb
      cases hb
      simp only [aexec] at h; cases h
      exact wp_goto (hn ρ S w a (.refl hi) he rfl)
    case scope c => rcases scope_ne hb with h | ⟨_, _, _, h⟩ <;> cases h
    all_goals (simp only [cvCode, bare] at hb; try (split at hb)) <;> cases hb
  | scope l m ap ab ihp ihb =>
    intro hb k s s' e ρ S w a Q h hi he hn
    cases c
    case scope c =>
      rcases bare_scope (P := P) c with ⟨l', p, b, rfl, hf, hb'⟩ | hb'
      · rw [hb'] at hb
        simp only [bare] at hb
        injection hb with hbl _ hbp hbb
        subst hbl
        simp only [aexec] at h
        have hfl : findLabel (.seq p (.seq (.label l) b)) l = some (.seq .skip b) := by simp [findLabel, hf]
        refine wp_scope_passes hfl (k - 1) (wp_seq ?_)
        split at h
        · rename_i s1 h1
          refine ihp p hbp k s s1 .norm ρ S w a _ h1 hi he fun ρ1 S1 w1 a1 st1 he1 hd1 => ?_
          refine wp_seq (wp_label ?_)
          exact jumps_sound (ihb b hbb) m l k k s1 s' e ρ1 S1 w1 a1 h st1.inv he1 fun ρ' S' w' a' st he' hd => hn ρ' S' w' a' ((st1.trans st).weaken fun _ h => h.elim id id) he' (hd.trans hd1)
        · cases h
        · rename_i hne hne2
          refine ihp p hbp k s s' e ρ S w a _ h hi he fun ρ1 S1 w1 a1 st1 he1 hd1 => ?_
          have := hn ρ1 S1 w1 a1 st1 he1 hd1
          cases e with
          | norm => exact absurd h (hne s')
          | exit id => exact this
          | ret => exact this
          | goto j => exact absurd h (hne2 j s')
      · rw [hb'] at hb
        simp only [bare] at hb; cases hb
    all_goals (simp only [cvCode, bare] at hb; try (split at hb)) <;> cases hb
  | bad =>
    intro hb k s s' e ρ S w a Q h hi he hn
    simp [aexec] at h

end
end Bz

/- A function, and the whole program. -/
namespace Bz
open Go

section
variable {P : Program} {X : Ctx}

theorem reach_len (H : Heap) : ∀ (k : Nat) (ls seen : List Nat), (reach H k ls seen).length ≤ k + seen.length
  | 0, _, _ => by simp [reach]
  | _ + 1, [], _ => by simp [reach]
  | k + 1, a :: r, seen => by
    simp only [reach]
    split
    · have := reach_len H k r seen; omega
    · split
      · have := reach_len H k r (seen ++ [a]); simp at this; omega
      · rename_i o _; have := reach_len H k (refsO o ++ r) (seen ++ [a]); simp at this; omega

/-- one result, as it is fetched -/
def resVal (ts : Array Value) : ResultVar → Sem Value
  | .tmp t => pure (ts.getD t undef)
  | .cell a t => do loadVar t (← asAddr (ts.getD a undef))

theorem results_eq (F : Func) (ts : Array Value) : results F ts = (do let vs ← F.results.mapM (resVal ts); pure (if h : vs.size = 1 then vs[0] else .tuple vs)) := by
  unfold results
  congr 1

/-- one result -/
theorem result_rel {ρ : Nm} {S : Nat → Prop} {s : St} {w : World} {ts : Array Value} (hi : Inv ρ S s.H w) (he : RelE ρ S s.H w s.E ts) {r : ResultVar}
    (hr : (match r with | .cell _ t => (aggOf P t).isSome && szOf P t != 0 | _ => true) = true) {v : AV} (h : aresult s (cvRes P r) = some v) :
    ∃ z, (resVal ts r).run P w = .ok z w ∧ RelA ρ S s.H w v z := by
  cases r with
  | tmp t =>
    simp only [cvRes, aresult] at h; cases h
    exact ⟨_, rfl, he.at_ t⟩
  | cell a t =>
    simp only [cvRes, aresult] at h
    simp only [Bool.and_eq_true, bne_iff_ne, ne_eq] at hr
    obtain ⟨g, hg⟩ := Option.isSome_iff_exists.1 hr.1
    have hia : isAgg? P t = g := by simp [isAgg?, hg]
    rw [hia] at h
    obtain ⟨z, hz, hrel⟩ := load_rel (P := P) rfl hr.2 hg hi (he.at_ a) h
    refine ⟨z, ?_, hrel⟩
    simp only [Instr.loadAt] at hz
    show (do let q ← asAddr (ts.getD a undef); loadVar t q : Sem Value).run P w = _
    generalize ts.getD a undef = p at hz ⊢
    cases p with
    | pointer q =>
      cases q with
      | some q => simpa [Instr.sureAddr, asAddr] using hz
      | none => simp [Instr.sureAddr] at hz
    | _ => simp [Instr.sureAddr] at hz

theorem aresults_cons (s : St) (r : ResultVar) (rs : List ARes) : aresults s (cvRes P r :: rs) = match aresult s (cvRes P r) with
    | none => none
    | some v => match aresults s rs with
      | none => none
      | some vs => some (v :: vs) := by cases r <;> rfl

theorem results_list {ρ : Nm} {S : Nat → Prop} {s : St} {w : World} {ts : Array Value} (hi : Inv ρ S s.H w) (he : RelE ρ S s.H w s.E ts) : ∀ (rs : List ResultVar) (vs : List AV),
    (rs.all fun r => match r with | .cell _ t => (aggOf P t).isSome && szOf P t != 0 | _ => true) = true → aresults s (rs.map (cvRes P)) = some vs →
    ∃ zs : List Value, (rs.mapM (resVal ts)).run P w = .ok zs w ∧ ArgsRel ρ S s.H w vs zs.toArray
  | [], vs, _, h => by
    simp only [List.map_nil, aresults] at h; cases h
    exact ⟨[], by simp, rfl, fun i x hx => by simp at hx⟩
  | r :: rs, vs, ha, h => by
    rw [List.map_cons, aresults_cons] at h
    simp only [List.all_cons, Bool.and_eq_true] at ha
    split at h
    · cases h
    · rename_i v hv
      split at h
      · cases h
      · rename_i vs' hvs
        cases h
        obtain ⟨z, hz, hr⟩ := result_rel hi he ha.1 hv
        obtain ⟨zs, hzs, hl, hrs⟩ := results_list hi he rs vs' ha.2 hvs
        refine ⟨z :: zs, by simp only [List.mapM_cons, Sem.run_bind, hz, Result.andThen_ok, hzs, Sem.run_pure], by simpa using hl, fun i x hx => ?_⟩
        cases i with
        | zero => simp at hx; subst hx; exact ⟨z, rfl, hr⟩
        | succ i =>
          simp at hx
          obtain ⟨y, hy, hry⟩ := hrs i x hx
          exact ⟨y, by simpa using hy, hry⟩

theorem aresults_fin (s : St) : ∀ rs : List ARes, aresults s rs = aresults s (rs.filter fun r => !isFin r)
  | [] => rfl
  | .fin q :: r => by simp only [aresults, List.filter, isFin, Bool.not_true]; exact aresults_fin s r
  | .tmp t :: r => by
    show (match aresult s (.tmp t) with | none => none | some v => match aresults s r with | none => none | some vs => some (v :: vs)) = (match aresult s (.tmp t) with | none => none | some v => match aresults s (r.filter fun r => !isFin r) with | none => none | some vs => some (v :: vs))
    rw [aresults_fin s r]
  | .cell a sz ag :: r => by
    show (match aresult s (.cell a sz ag) with | none => none | some v => match aresults s r with | none => none | some vs => some (v :: vs)) = (match aresult s (.cell a sz ag) with | none => none | some v => match aresults s (r.filter fun r => !isFin r) with | none => none | some vs => some (v :: vs))
    rw [aresults_fin s r]

theorem mkRes_rel {ρ : Nm} {S : Nat → Prop} {H : Heap} {w : World} {vs : List AV} {zs : Array Value} (h : ArgsRel ρ S H w vs zs) : RelA ρ S H w (mkRes vs) (if h : zs.size = 1 then zs[0] else .tuple zs) := by
  unfold mkRes
  split
  · rename_i v
    obtain ⟨a, rfl, hr⟩ := h.one
    exact hr
  · rename_i hne
    have : ¬ zs.size = 1 := by
      rw [← h.1]; intro e
      obtain ⟨v, hv⟩ := List.length_eq_one_iff.1 e
      exact hne v hv
    rw [dif_neg this]
    exact .tup _ zs (fun i => (zs[i]?).getD undef) h.1 (fun i x hx => by obtain ⟨y, hy, _⟩ := h.2 i x hx; rw [hy]; rfl) (fun i x hx => by obtain ⟨y, hy, hr⟩ := h.2 i x hx; rw [hy]; exact hr)

theorem viewRes_rel {N : Nat → Prop} {ρ : Nm} {S : Nat → Prop} {H : Heap} {w : World} (hi : Inv ρ S H w) {own : Bool} {v rv : AV} {H2 : Heap} (h : viewRes own H v = some (rv, H2)) {z : Value} (hr : RelA ρ S H w v z) :
    ∃ S', Step N ρ S H w ρ S' H2 w ∧ RelA ρ S' H2 w rv z := by
  unfold viewRes at h
  split at h
  · cases h; exact ⟨S, .refl hi, hr⟩
  · obtain ⟨r, hv, h⟩ := Option.map_eq_some_iff.1 h
    cases h
    obtain ⟨S1, st1, hS1, _, _⟩ := step_frzs (N := No) hi (arrsT v)
    refine ⟨S1, st1.weaken fun _ h => h.elim, ?_⟩
    cases v with
    | tup cs =>
      simp only [vwT] at hv
      obtain ⟨as, has, rfl⟩ := Option.map_eq_some_iff.1 hv
      obtain ⟨g1, g2⟩ := vws_get has
      cases hr with
      | tup _ zs ys h1 h2 h3 =>
        have get : ∀ (i : Nat) (y : AV), as[i]? = some y → zs[i]? = some (ys i) ∧ RelA ρ S1 (applyU H (frz H (arrsT (.tup cs)))) w y (ys i) := by
          intro i y hy
          obtain ⟨x, hx, hv⟩ := g2 i y hy
          exact ⟨h2 i x hx, vw_rel hi (h3 i x hx) hv st1 (fun _ => id) fun l hl => hS1 l (List.mem_flatMap.2 ⟨x, List.mem_of_getElem? hx, hl⟩)⟩
        exact .tup _ zs ys (by rw [g1]; exact h1) (fun i y hy => (get i y hy).1) (fun i y hy => (get i y hy).2)
    | _ => exact vw_rel hi hr hv st1 (fun _ => id) hS1

theorem abody_sound (hC : Good P X.C) {k f : Nat} {fn : AFunc} (hs : Shows P f fn) {args : List AV} {H : Heap} {rv : AV} {Ho : Heap} (h : abody X k f fn args H = some (rv, Ho)) : Meets P f args H rv Ho := by
  obtain ⟨F, c, hF, hbody, hbare, hnt, hres, hcells, hname⟩ := hs
  refine fun ρ S w vs hi ha => .inl ⟨⟨F, hF, by simp [hbody], hname⟩, ?_⟩
  refine calls_of_wp hF hbody ?_
  have he : RelE ρ S H w (args ++ List.replicate (fn.ntmps - args.length) .undef) (vs ++ Array.replicate (F.ntmps - vs.size) undef) := by
    refine ⟨by simp [ha.1, hnt], fun i => ?_⟩
    by_cases hlt : i < args.length
    · obtain ⟨y, hy, hr⟩ := ha.2 i _ (List.getElem?_eq_getElem hlt)
      rw [nth_eq, List.getElem?_append_left hlt, List.getElem?_eq_getElem hlt]
      have hlt' : i < vs.size := ha.1 ▸ hlt
      rw [Array.getD_eq_getD_getElem?, Array.getElem?_append_left hlt', hy]
      exact hr
    · rw [nth_eq, List.getElem?_append_right (by omega)]
      have : (List.replicate (fn.ntmps - args.length) AV.undef)[i - args.length]?.getD .undef = .undef := by
        rw [List.getElem?_replicate]; split <;> rfl
      rw [this]; exact .undef _
  -- the code's end
  have fin : ∀ (s : St) (e : AExit), aexec X k fn.body { E := args ++ List.replicate (fn.ntmps - args.length) .undef, H := H } = some (e, s) → (e = .norm ∨ e = .ret) →
      (match aresults s fn.results with
      | none => none
      | some vs =>
        match viewRes (X.retOwn f) s.H (mkRes vs) with
        | none => none
        | some (rv, H2) =>
          let s3 := proms (finsOf fn.results) { E := [rv], H := H2 }
          let L := reach s3.H RF (List.range H.length ++ refs (nth s3.E 0)) []
          match pack s3.H (fun l => L.idxOf l) 0 L with
          | none => none
          | some Ho => if nodupB L && (L.take H.length == List.range H.length) then some (ren (fun l => L.idxOf l) (nth s3.E 0), Ho) else none) = some (rv, Ho) →
      c.wp P (bodyPost P F fun e w' => ∃ v ρ' S', e = .returned v ∧ Step (fun l => H.length ≤ l) ρ S H w ρ' S' Ho w' ∧ RelA ρ' S' Ho w' rv v) { tmps := vs ++ Array.replicate (F.ntmps - vs.size) undef, defers := [] } w := by
    intro s e hex hee h
    split at h
    · cases h
    · rename_i rs hrs
      split at h
      · cases h
      · rename_i rv0' H2' hview
        simp only at h
        generalize hs3 : proms (finsOf fn.results) { E := [rv0'], H := H2' } = s3 at h
        generalize hrv0 : nth s3.E 0 = rv0 at h
        generalize hH2 : s3.H = H2 at h
        generalize hL : reach H2 RF (List.range H.length ++ refs rv0) [] = L at h
        split at h
        · cases h
        · rename_i Ho' hpack
          split at h
          · rename_i hcond
            cases h
            simp only [Bool.and_eq_true, beq_iff_eq] at hcond
            obtain ⟨hnd, htake⟩ := hcond
            have hnd := nodupB_iff hnd
            refine aexec_sound hC c fn.body hbare k _ s e ρ S w _ _ hex hi he fun ρ1 S1 w1 a1 st1 he1 hd1 => ?_
            -- results
            rw [aresults_fin, hres] at hrs
            obtain ⟨zs, hzs, hargs⟩ := results_list st1.inv he1 F.results.toList rs hcells hrs
            have hrun : (results F a1.tmps).run P w1 = .ok (if h : zs.toArray.size = 1 then zs.toArray[0] else .tuple zs.toArray) w1 := by
              rw [results_eq, Array.mapM_eq_mapM_toList]
              simp only [Sem.run_bind, map_eq_pure_bind, hzs, Result.andThen_ok, Sem.run_pure]
            obtain ⟨S2', st2', hr2'⟩ := viewRes_rel (N := Big) st1.inv hview (mkRes_rel hargs)
            -- what is put back at the end
            obtain ⟨ρ2, S2, st2, he2⟩ := proms_sound (w := w1) (ts := #[(if h : zs.toArray.size = 1 then zs.toArray[0] else .tuple zs.toArray)]) (finsOf fn.results) ρ1 S2' { E := [rv0'], H := H2' } st2'.inv ⟨rfl, fun i => by
              cases i with
              | zero => exact hr2'
              | succ i => exact .undef _⟩
            rw [hs3] at st2 he2
            have hr2 := he2.at_ 0
            rw [hrv0, hH2] at hr2
            rw [hH2] at st2
            simp only [Array.getD_eq_getD_getElem?, List.getElem?_toArray, List.getElem?_cons_zero, Option.getD_some] at hr2
            obtain ⟨hip, hcp, hlp⟩ := packed st2.inv hnd hpack
            have st : Step Big ρ S H w ρ2 S2 H2 w1 := ((st1.trans st2').trans st2).weaken fun _ h => h.elim (fun h => h.elim id id) id
            have hlen : H.length ≤ L.length := by
              have := congrArg List.length htake
              simp at this; omega
            have hsmall : L.length ≤ 64 := by rw [← hL]; have := reach_len H2 RF (List.range H.length ++ refs rv0) []; simpa [RF] using this
            have hstep : Step (fun l => H.length ≤ l) ρ S H w (ρ2.via fun j => L.getD j 0) S2 Ho w1 := by
              refine ⟨hip, st.sub, st.new, st.frame, st.grow, st.size, fun l b hl hf => ?_, fun l hl => ?_, st.outer⟩
              · obtain ⟨l0, h1, h2⟩ := hlp l hl
                have : L.getD l 0 = l0 := by rw [List.getD, h1]; rfl
                refine st.live l0 b h2 ?_
                unfold Ftp at hf ⊢
                simp only [Nm.via, this] at hf; exact hf
              · have hlt : l < H.length := Nat.lt_of_not_le hl
                have hget : L[l]? = some l := by
                  have : (L.take H.length)[l]? = some l := by rw [htake, List.getElem?_range hlt]
                  rwa [List.getElem?_take, if_pos hlt] at this
                have := (st.comp l (by unfold Big; omega)).trans (hcp l)
                rwa [idx_of hnd hget] at this
            have hrel := hr2.trans (fun l => L.idxOf l) (S' := S2) (H' := Ho) (w' := w1) (ρ' := ρ2.via fun j => L.getD j 0) (fun _ h => h) (fun _ _ => rfl) (.refl w1) fun l _ => hcp l
            rcases hee with rfl | rfl
            · exact ⟨hd1, _, hrun, _, _, _, rfl, hstep, hrel⟩
            · exact ⟨hd1, _, hrun, _, _, _, rfl, hstep, hrel⟩
          · cases h
  unfold abody at h
  split at h
  · rename_i s hex; exact fin s .norm hex (.inl rfl) h
  · rename_i s hex; exact fin s .ret hex (.inr rfl) h
  · cases h

/-- The clean machine is right about the program. -/
theorem run_sound {own retOwn : Nat → Bool} {ext : Callee} {code : Nat → Option AFunc} (hext : Good P ext) (hcode : ∀ f fn, code f = some fn → Shows P f fn) : ∀ k, Good P (run own retOwn ext code k)
  | 0, f, args, H, rv, Ho, h => by simp [run] at h
  | k + 1, f, args, H, rv, Ho, h => by
    simp only [run] at h
    split at h
    · rename_i r hr
      cases h
      exact hext _ _ _ _ _ hr
    · split at h
      · cases h
      · rename_i fn hfn
        exact abody_sound (X := { own, retOwn, C := run own retOwn ext code k }) (run_sound hext hcode k) (hcode f fn hfn) h

end
end Bz

/- What is handed in, as data. -/
namespace Bz
open Go

/-- data of a type of the program -/
inductive Typed (P : Program) : TypeId → List D → Prop
  | int {t : TypeId} {k : IntKind} {n : Int} : P.underlying t = some (.int k) → (Lit.int k n).wf = true → Typed P t [.int k n]
  | bool {t : TypeId} {b : Bool} : P.underlying t = some .bool → Typed P t [.bool b]
  | str {t : TypeId} {s : List UInt8} : P.underlying t = some .string → Typed P t [.str s]
  | slice {t e : TypeId} {es : List (List D)} : P.underlying t = some (.slice e) → (∀ c ∈ es, Typed P e c) → Typed P t [.vs false es]
  | struct {t : TypeId} {fs : Array Field} (parts : List (List D)) : P.underlying t = some (.struct fs) → parts.length = fs.size →
      (∀ (i : Nat) (f : Field) (c : List D), fs[i]? = some f → parts[i]? = some c → Typed P f.type c) → Typed P t parts.flatten

mutual
/-- how much there is to it -/
def bulkD : D → Nat
  | .str s => s.length + 1
  | .vs _ es => bulkLL es + 1
  | .ifc _ d => bulkD d + 1
  | .int _ _ => 1
  | .bool _ => 1
  | .nilp => 1
  | .nilm => 1
  | .nilf => 1
  | .nili => 1
def bulkL : List D → Nat
  | [] => 0
  | d :: r => bulkD d + bulkL r
def bulkLL : List (List D) → Nat
  | [] => 0
  | c :: r => bulkL c + bulkLL r
end

theorem bulkL_app : ∀ a b, bulkL (a ++ b) = bulkL a + bulkL b
  | [], b => by simp [bulkL]
  | d :: r, b => by simp only [List.cons_append, bulkL, bulkL_app r b]; omega

structure BulkFn {H : Type} (ub : DataW H → Nat) (uba : List (DataW H) → Nat) : Prop where
  str : ∀ b, ub (.lit (.string b)) = b.length + 1
  lit : ∀ l, 1 ≤ ub (.lit l)
  nil : ub .nil = 1
  slice : ∀ a b, ub (.slice a b) = uba a + uba b + 1
  agg : ∀ a, ub (.agg a) = uba a + 1
  anil : uba [] = 0
  acons : ∀ d r, uba (d :: r) = ub d + uba r

def consec (P : Program) : Nat → List Field → Option Nat
  | o, [] => some o
  | o, f :: r => if f.offset = o then consec P (o + P.cellsOf f.type) r else none

/-- types that hold nothing but data -/
def dataB (P : Program) (ts : List TypeId) : Bool := ts.all fun t => match P.underlying t with
  | some (.int _) | some .bool | some .string => P.cellsOf t == 1
  | some (.slice e) => ts.contains e && P.cellsOf t == 1 && P.cellsOf e != 0
  | some (.struct fs) => fs.toList.all (fun f => ts.contains f.type) && consec P 0 fs.toList == some (P.cellsOf t)
  | _ => false

section
variable {H : Type} {enc : TypeId × Value → H} {P : Program} {w : World} {sp : Nat → Bool}

def Here (w : World) : Nat → Prop := fun b => b < w.heap.size

/-- data that stands for cells -/
structure Stands (P : Program) (w : World) (t : TypeId) (ds : List D) (cs : List Value) : Prop where
  typed : Typed P t ds
  len : ds.length = cs.length
  size : cs.length = P.cellsOf t
  rel : ∀ (k : Nat) (x : D), ds[k]? = some x → ∃ v, cs[k]? = some v ∧ RelD (Here w) w x v

theorem Stands.one {t : TypeId} {d : D} {v : Value} (ht : Typed P t [d]) (hs : P.cellsOf t = 1) (hr : RelD (Here w) w d v) : Stands P w t [d] [v] :=
  ⟨ht, rfl, by simp [hs], fun k x hk => by
    cases k with
    | zero => simp at hk; subst hk; exact ⟨v, rfl, hr⟩
    | succ k => simp at hk⟩

theorem cells_get {base : Nat} {a : Addr} {n : Nat} {cs : List Value} (h : w.cells? base a n = some cs) : cs.length = n ∧ ∀ k v, cs[k]? = some v → w.cell? (a.add k) = some v := by
  obtain ⟨_, h1, h2⟩ := World.cells?_some h
  refine ⟨h1, fun k v hk => ?_⟩
  rw [h2 k (by rw [← h1]; exact (List.getElem?_eq_some_iff.1 hk).1)]; exact hk

theorem trod_typed {ts : List TypeId} (hts : dataB P ts = true) {ub : DataW H → Nat} {uba : List (DataW H) → Nat} (hb : BulkFn ub uba) : ∀ (fuel : Nat) (t : TypeId) (cs : List Value) (d : DataW H) (ps : List MemPlace), t ∈ ts →
    DataW.trod enc P w 0 sp true fuel t cs = some (d, ps) → ∃ ds, Stands P w t ds cs ∧ bulkL ds ≤ ub d
  | 0, t, cs, d, ps, _, h => by simp [DataW.trod] at h
  | fuel + 1, t, cs, d, ps, ht, h => by
    have hin := List.all_eq_true.1 hts t ht
    cases hu : P.underlying t with
    | none => rw [hu] at hin; cases hin
    | some desc =>
    rw [hu] at hin
    cases desc <;> try (cases hin; done)
    case bool =>
      simp only [DataW.trod, hu] at h
      split at h <;> try (rename_i heq; cases heq; done)
      · cases h
        exact ⟨[.bool _], .one (.bool hu) (by simpa using hin) (.bool _), by simp [bulkL, bulkD, hb.lit]⟩
      · cases h
    case int k =>
      simp only [DataW.trod, hu] at h
      split at h <;> try (rename_i heq; cases heq; done)
      · rename_i heq
        cases heq
        split at h
        · rename_i hc
          cases h
          obtain ⟨rfl, hwf⟩ := hc
          exact ⟨[.int _ _], .one (.int hu hwf) (by simpa using hin) (.int _ _), by simp [bulkL, bulkD, hb.lit]⟩
        · cases h
      · cases h
    case string =>
      simp only [DataW.trod, hu] at h
      split at h <;> try (rename_i heq; cases heq; done)
      · rename_i s _
        split at h
        · 
          cases h
          refine ⟨[.str s.data.toList], .one (.str hu) (by simpa using hin) ?_, by simp [bulkL, bulkD, hb.str]⟩
          have := RelD.str (S := Here w) (w := w) s.data.toList
          simpa using this
        · cases h
      · cases h
    case slice e =>
      simp only [Bool.and_eq_true, beq_iff_eq] at hin
      simp only [DataW.trod, hu] at h
      split at h <;> try (rename_i heq; cases heq; done)
      · cases h
        exact ⟨[.vs false []], .one (.slice hu (by simp)) hin.1.2 (.vnil _ _), by simp [bulkL, bulkD, bulkLL, hb.nil]⟩
      rename_i e a len cap heq
      cases heq
      split at h
      · rename_i hc
        obtain ⟨elems, hel, h⟩ := Option.bind_eq_some_iff.1 h
        obtain ⟨rest, _, h⟩ := Option.map_eq_some_iff.1 h
        cases h
        have he : e ∈ ts := by simpa using hin.1.1
        have key : ∀ (l : List Nat) (xs : List (DataW H × List MemPlace)), l.mapM (fun i => (w.cells? 0 (a.add (i * P.cellsOf e)) (P.cellsOf e)).bind (DataW.trod enc P w 0 sp true fuel e)) = some xs →
            ∃ es : List (List D), es.length = l.length ∧ (∀ (k i : Nat) (c : List D), l[k]? = some i → es[k]? = some c → Typed P e c ∧ c.length = P.cellsOf e ∧ (∀ j x, c[j]? = some x → ∃ v, w.cell? (a.add (i * P.cellsOf e + j)) = some v ∧ RelD (Here w) w x v)) ∧ bulkLL es ≤ uba (xs.map (·.1)) := by
          intro l
          induction l with
          | nil => intro xs h; simp at h; subst h; exact ⟨[], rfl, by simp, by simp [bulkLL]⟩
          | cons i r ih =>
            intro xs h
            simp only [List.mapM_cons, Option.bind_eq_bind, Option.pure_def] at h
            obtain ⟨x, hx, h⟩ := Option.bind_eq_some_iff.1 h
            obtain ⟨xs', hxs, h⟩ := Option.bind_eq_some_iff.1 h
            cases h
            obtain ⟨cs', hcs, hx⟩ := Option.bind_eq_some_iff.1 hx
            obtain ⟨c, hst, hbu⟩ := trod_typed hts hb fuel e cs' x.1 x.2 he hx
            obtain ⟨es, h1, h2, h3⟩ := ih xs' hxs
            obtain ⟨c1, c2⟩ := cells_get hcs
            refine ⟨c :: es, by simp [h1], fun k i' c' hk hc' => ?_, by simp only [bulkLL, List.map_cons, hb.acons]; omega⟩
            cases k with
            | zero =>
              simp at hk hc'; subst hk hc'
              refine ⟨hst.typed, hst.len.trans c1, fun j x hj => ?_⟩
              obtain ⟨v, hv, hr⟩ := hst.rel j x hj
              exact ⟨v, by rw [← add_add]; exact c2 j v hv, hr⟩
            | succ k => simp at hk hc'; exact h2 k i' c' hk hc'
        obtain ⟨es, h1, h2, h3⟩ := key _ _ hel
        have hlen : es.length = len := by simpa using h1
        have at_ : ∀ (i : Nat) (c : List D), es[i]? = some c → Typed P e c ∧ c.length = P.cellsOf e ∧ (∀ j x, c[j]? = some x → ∃ v, w.cell? (a.add (i * P.cellsOf e + j)) = some v ∧ RelD (Here w) w x v) := by
          intro i c hi
          refine h2 i i c ?_ hi
          have : i < len := hlen ▸ (List.getElem?_eq_some_iff.1 hi).1
          rw [List.getElem?_range this]
        refine ⟨[.vs false es], .one (.slice hu fun c hc => ?_) hin.1.2 ?_, ?_⟩
        · obtain ⟨i, hi⟩ := List.getElem?_of_mem hc; exact (at_ i c hi).1
        · have hsz' : P.cellsOf e ≠ 0 := by simpa using hin.2
          · have hnone := hsz'
            subst hlen
            refine .vs a (P.cellsOf e) cap es (fun i j => (w.cell? (a.add (i * P.cellsOf e + j))).getD undef) hc.2.1 (fun c hc => ?_) (fun hne => ?_) (fun i j c hi hj => ?_) (fun i j c x hi hj => ?_)
            · obtain ⟨i, hi⟩ := List.getElem?_of_mem hc; exact (at_ i c hi).2.1
            · have h0 : 0 < es.length := List.length_pos_iff.2 hne
              obtain ⟨_, g2, g3⟩ := at_ 0 es[0] (List.getElem?_eq_getElem h0)
              have hp : 0 < es[0].length := by omega
              obtain ⟨v, hv, _⟩ := g3 0 es[0][0] (List.getElem?_eq_getElem hp)
              have := add_block a (0 * P.cellsOf e + 0)
              unfold World.cell? at hv
              rw [this] at hv
              unfold Here
              rcases Nat.lt_or_ge a.block w.heap.size with h | h
              · exact h
              · rw [Array.getElem?_eq_none h] at hv; simp at hv
            · obtain ⟨_, g2, g3⟩ := at_ i c hi
              obtain ⟨v, hv, _⟩ := g3 j c[j] (List.getElem?_eq_getElem (g2 ▸ hj))
              simp only [hv]; rfl
            · obtain ⟨_, g2, g3⟩ := at_ i c hi
              obtain ⟨v, hv, hr⟩ := g3 j x hj
              simp only [hv]; exact hr
        · simp only [bulkL, bulkD, hb.slice]; omega
      · cases h
      · cases h
    case struct fs =>
      simp only [DataW.trod, hu] at h
      simp only [Bool.and_eq_true, List.all_eq_true] at hin
      split at h
      · rename_i hlen
        obtain ⟨xs, hxs, h⟩ := Option.map_eq_some_iff.1 h
        cases h
        have key : ∀ (fl : List Field) (o n : Nat) (xs : List (DataW H × List MemPlace)), consec P o fl = some n → n ≤ cs.length → (∀ f ∈ fl, f.type ∈ ts) →
            fl.mapM (fun f => DataW.trod enc P w 0 sp true fuel f.type ((cs.drop f.offset).take (P.cellsOf f.type))) = some xs →
            ∃ parts : List (List D), parts.length = fl.length ∧ (∀ (i : Nat) (f : Field) (c : List D), fl[i]? = some f → parts[i]? = some c → Typed P f.type c) ∧ o + parts.flatten.length = n ∧
              (∀ k x, parts.flatten[k]? = some x → ∃ v, cs[o + k]? = some v ∧ RelD (Here w) w x v) ∧ bulkL parts.flatten ≤ uba (xs.map (·.1)) := by
          intro fl
          induction fl with
          | nil =>
            intro o n xs hc _ _ h
            simp [consec] at hc h; subst hc h
            exact ⟨[], rfl, by simp, by simp, by simp, by simp [bulkL]⟩
          | cons f r ih =>
            intro o n xs hc hn hf h
            simp only [consec] at hc
            split at hc
            · rename_i ho
              simp only [List.mapM_cons, Option.bind_eq_bind, Option.pure_def] at h
              obtain ⟨x, hx, h⟩ := Option.bind_eq_some_iff.1 h
              obtain ⟨xs', hxs, h⟩ := Option.bind_eq_some_iff.1 h
              cases h
              obtain ⟨c, hst, hbu⟩ := trod_typed hts hb fuel f.type _ x.1 x.2 (hf f (by simp)) hx
              obtain ⟨parts, h1, h2, h3, h4, h5⟩ := ih _ n xs' hc hn (fun g hg => hf g (by simp [hg])) hxs
              have hcl : c.length = P.cellsOf f.type := hst.len.trans hst.size
              refine ⟨c :: parts, by simp [h1], fun i f' c' hi hc' => ?_, by rw [List.flatten_cons, List.length_append, hcl]; omega, fun k y hk => ?_, ?_⟩
              · cases i with
                | zero => simp at hi hc'; subst hi hc'; exact hst.typed
                | succ i => simp at hi hc'; exact h2 i f' c' hi hc'
              · rw [List.flatten_cons] at hk
                by_cases hlt : k < c.length
                · rw [List.getElem?_append_left hlt] at hk
                  obtain ⟨v, hv, hr⟩ := hst.rel k y hk
                  refine ⟨v, ?_, hr⟩
                  rw [List.getElem?_take, if_pos (by omega), List.getElem?_drop, ho] at hv
                  exact hv
                · rw [List.getElem?_append_right (by omega)] at hk
                  obtain ⟨v, hv, hr⟩ := h4 _ y hk
                  refine ⟨v, ?_, hr⟩
                  rw [show o + k = o + P.cellsOf f.type + (k - c.length) by omega]
                  exact hv
              · rw [List.flatten_cons, bulkL_app, List.map_cons, hb.acons]; omega
            · cases hc
        have hcon : consec P 0 fs.toList = some (P.cellsOf t) := by simpa using hin.2
        obtain ⟨parts, h1, h2, h3, h4, h5⟩ := key fs.toList 0 _ xs hcon (by omega) (fun f hf => by simpa using hin.1 f hf) hxs
        refine ⟨parts.flatten, ⟨.struct parts hu (by simpa using h1) (fun i f c hi hc => h2 i f c (by simpa using hi) hc), by omega, hlen, fun k x hk => by simpa using h4 k x hk⟩, by rw [hb.agg]; omega⟩
      · cases h
end
end Bz

/- From a function's meaning to what is said of a call of it. -/
namespace Bz
open Go Go.RowKit

/-- an argument, as the clean machine has it -/
def argAV (P : Program) (t : TypeId) (ds : List D) : AV :=
  match P.underlying t with
  | some (.struct _) => .agg (ds.map .d)
  | _ => match ds with
    | [x] => .d x
    | _ => .undef

section
variable {H : Type} {enc : TypeId × Value → H} {P : Program}

theorem trodAll_back (hl : laidOutB P = true) {W W' : World} (hb : Below W.heap.size W W') : ∀ (ts : List TypeId) (vs : List Value) (ds : List (DataW H)) (ps : List MemPlace),
    (ts.all fun t => P.readableRec t && decide (t < P.types.size)) = true → DataW.TrodAll enc P W 0 (fun _ => true) true ts vs ds ps → DataW.TrodAll enc P W' 0 (fun b => decide (b < W.heap.size)) true ts vs ds ps
  | [], [], [], _, _, h => h
  | t :: ts, v :: vs, d :: ds, ps, hr, h => by
    obtain ⟨p, q, h1, h2, h3⟩ := h
    simp only [List.all_cons, Bool.and_eq_true, decide_eq_true_eq] at hr
    have hlt : ∀ x ∈ p, x.block < W.heap.size := by
      obtain ⟨n, hn⟩ := h1
      exact DataW.trod_lt n t _ _ hn
    exact ⟨p, q, Below.trod hl hr.1.1 hr.1.2 h1 hb hlt, trodAll_back hl hb ts vs ds q hr.2 h2, h3⟩
  | [], _ :: _, _, _, _, h => h.elim
  | [], [], _ :: _, _, _, h => h.elim
  | _ :: _, [], _, _, _, h => h.elim
  | _ :: _, _ :: _, [], _, _, h => h.elim

theorem arg_rel {t : TypeId} {ds : List D} {v : Value} {W : World} {base : Nat} {r : Reach} (hd : ∀ n e, P.underlying t ≠ some (.array n e)) (hv : Value.okWide P W r base t v) (h : Stands P W t ds v.cells.toList) :
    RelA Nm.zero (Here W) [] W (argAV P t ds) v := by
  unfold argAV
  split
  · rename_i fs hu
    obtain ⟨cs, rfl, _⟩ := WideShapes.okWide_struct hu hv
    have hlen : ds.length = cs.size := by simpa [Value.cells] using h.len
    refine .agg _ cs (fun i => (cs[i]?).getD undef) (by simpa using hlen) (fun i x hx => ?_) (fun i x hx => ?_)
    · obtain ⟨y, hy, rfl⟩ := relA_map_d hx
      obtain ⟨z, hz, _⟩ := h.rel i y hy
      have : cs[i]? = some z := by simpa [Value.cells] using hz
      rw [this]; rfl
    · obtain ⟨y, hy, rfl⟩ := relA_map_d hx
      obtain ⟨z, hz, hr⟩ := h.rel i y hy
      have : cs[i]? = some z := by simpa [Value.cells] using hz
      rw [this]; exact .d _ _ hr
  · rename_i hu
    split
    · rename_i x
      have hf : v.cells = #[v] := by
        cases v with
        | agg cs =>
          unfold Value.okWide at hv
          split at hv
          · rename_i hs; exact absurd hs (hu _)
          · rename_i ha; exact absurd ha (hd _ _)
          · unfold Cell.okWide at hv
            split at hv <;> first | (rename_i e; cases e; done) | skip
            all_goals simp [Cell.ok] at hv
        | _ => rfl
      obtain ⟨z, hz, hr⟩ := h.rel 0 x rfl
      rw [hf] at hz
      simp at hz; subst hz
      exact .d _ _ hr
    · exact .undef _

theorem args_typed {ts : List TypeId} (hts : dataB P ts = true) {ub : DataW H → Nat} {uba : List (DataW H) → Nat} (hb : BulkFn ub uba) {W : World} : ∀ (ps : List TypeId) (vs : List Value) (ds : List (DataW H)) (q : List MemPlace),
    (∀ t ∈ ps, t ∈ ts) → DataW.TrodAll enc P W 0 (fun _ => true) true ps vs ds q → vs.length = ps.length ∧
    ∃ xs : List (List D), xs.length = ps.length ∧ (∀ (i : Nat) (t : TypeId) (x : List D) (v : Value), ps[i]? = some t → xs[i]? = some x → vs[i]? = some v → Stands P W t x v.cells.toList) ∧ (xs.map bulkL).sum ≤ uba ds
  | [], [], [], _, _, _ => ⟨rfl, [], rfl, by simp, by simp⟩
  | t :: ps, v :: vs, d :: ds, q, hin, h => by
    obtain ⟨p, q', h1, h2, h3⟩ := h
    obtain ⟨fuel, h1⟩ := h1
    obtain ⟨x, hst, hbu⟩ := trod_typed hts hb fuel t _ d p (hin t (by simp)) h1
    obtain ⟨hl, xs, g1, g2, g3⟩ := args_typed hts hb ps vs ds q' (fun u hu => hin u (by simp [hu])) h2
    refine ⟨by simp [hl], x :: xs, by simp [g1], fun i t' x' v' hi hx hv => ?_, by simp only [List.map_cons, List.sum_cons, hb.acons]; omega⟩
    cases i with
    | zero => simp at hi hx hv; subst hi hx hv; exact hst
    | succ i => simp at hi hx hv; exact g2 i t' x' v' hi hx hv
  | [], _ :: _, _, _, _, h => h.elim
  | [], [], _ :: _, _, _, h => h.elim
  | _ :: _, [], _, _, _, h => h.elim
  | _ :: _, _ :: _, [], _, _, h => h.elim

theorem inv_start (W : World) : Inv Nm.zero (Here W) [] W :=
  ⟨fun l o h => by simp [hget] at h, fun l l' b ⟨o, h, _⟩ => by simp [hget] at h, fun l b ⟨o, h, _⟩ => by simp [hget] at h, fun b hb => hb, fun l b ⟨o, h, _⟩ => by simp [hget] at h, fun l ⟨o, h, _⟩ => by simp [hget] at h⟩

/-- a law that answers true in the clean machine does so in the program, and turns nothing that was there -/
theorem row_calls {ts : List TypeId} (hts : dataB P ts = true) {ub : DataW H → Nat} {uba : List (DataW H) → Nat} (hb : BulkFn ub uba) {f : FuncId} (hcoded : Coded P f) {ps : List TypeId} (hin : (ps.all (ts.contains ·)) = true)
    (law : ∀ xs : List (List D), xs.length = ps.length → (∀ (i : Nat) (t : TypeId) (x : List D), ps[i]? = some t → xs[i]? = some x → Typed P t x) → (xs.map bulkL).sum ≤ 1048576 → ∃ Ho, Meets P f (List.zipWith (argAV P) ps xs) [] (.d (.bool true)) Ho)
    {W : World} {base : Nat} {args : Array Value} {ds : List (DataW H)} {q : List MemPlace} (hA : DataW.TrodAll enc P W 0 (fun _ => true) true ps args.toList ds q)
    (hval : ∀ (j : Nat) t v, ps[j]? = some t → args[j]? = some v → Value.okWide P W .any base t v) (hbulk : uba ds ≤ 1048576) :
    Calls P f args W fun e W' => e = .returned (.bool true) ∧ Below W.heap.size W W' := by
  have hin' : ∀ t ∈ ps, t ∈ ts := fun t ht => by simpa using List.all_eq_true.1 hin t ht
  obtain ⟨hl, xs, g1, g2, g3⟩ := args_typed hts hb ps args.toList ds q hin' hA
  have hst : ∀ (i : Nat) (t : TypeId) (x : List D), ps[i]? = some t → xs[i]? = some x → ∃ v, args[i]? = some v ∧ Stands P W t x v.cells.toList := by
    intro i t x hi hx
    have hlt : i < args.toList.length := by rw [hl]; exact (List.getElem?_eq_some_iff.1 hi).1
    have hlt' : i < args.size := by simpa using hlt
    refine ⟨args[i], Array.getElem?_eq_getElem hlt', g2 i t x _ hi hx ?_⟩
    rw [List.getElem?_eq_getElem hlt]; simp
  obtain ⟨Ho, hm⟩ := law xs g1 (fun i t x hi hx => by obtain ⟨v, _, h⟩ := hst i t x hi hx; exact h.typed) (by omega)
  refine ((hm Nm.zero (Here W) W args (inv_start W) ⟨?_, fun i x hx => ?_⟩).calls hcoded).mono fun e W' ⟨v, ρ', S', he, st, hr⟩ => ?_
  · rw [List.length_zipWith, g1]; simpa using hl.symm
  · rw [List.getElem?_zipWith] at hx
    cases hp : ps[i]? with
    | none => rw [hp] at hx; cases hx
    | some t =>
      cases hxi : xs[i]? with
      | none => rw [hp, hxi] at hx; cases hx
      | some d =>
        rw [hp, hxi] at hx; cases hx
        obtain ⟨v, hv, h⟩ := hst i t d hp hxi
        refine ⟨v, hv, arg_rel (fun n e he => ?_) (hval i t v hp hv) h⟩
        have := List.all_eq_true.1 hts t (hin' t (List.mem_of_getElem? hp))
        rw [he] at this; cases this
  · have hv := relA_bool hr
    subst hv
    refine ⟨he, st.outer.1, st.outer.2.2.1, st.outer.2.1, st.size, fun k hk => st.frame k hk fun l ⟨o, h, _⟩ => by simp [hget] at h⟩
end
end Bz

/- Limits: a function's answer, whatever the fuel. -/
namespace Bz
open Go

def leC (C C' : Callee) : Prop := ∀ f a H r, C f a H = some r → C' f a H = some r

theorem acall_mono {X X' : Ctx} (ho : X'.own = X.own) (hC : leC X.C X'.C) {nm : Nat} {H : Heap} {f : Nat} {args : List AV} {r : AV × Upd × List Nat} (h : acall X nm H f args = some r) : acall X' nm H f args = some r := by
  unfold acall at h ⊢
  rw [ho]
  split at h
  · cases h
  · simp only at h ⊢
    split at h
    · cases h
    · split at h
      · cases h
      · rename_i rv Ho hc
        rw [hC _ _ _ _ hc]
        exact h

theorem aop_mono {X X' : Ctx} (ho : X'.own = X.own) (hC : leC X.C X'.C) {nm : Nat} {H : Heap} {op : AOpOf AV} {r : AV × Upd × List Nat} (h : aop X nm H op = some r) : aop X' nm H op = some r := by
  cases op
  case call f args =>
    have hd : X'.deep = X.deep := by simp only [Ctx.deep, ho]
    simp only [aop, hd, ho] at h ⊢
    split at h
    · split at h
      · rename_i hc
        rw [if_pos hc]
        unfold acallD at h ⊢
        split at h
        · cases h
        · rename_i as has
          split at h
          · cases h
          · rename_i rv Ho hcall
            rw [hC _ _ _ _ hcall]; exact h
      · rename_i hc
        rw [if_neg hc]
        exact acall_mono ho hC h
    · cases h
  case load sz ag x =>
    have hd : X'.deep = X.deep := by simp only [Ctx.deep, ho]
    simp only [aop, hd] at h ⊢; exact h
  case buildSl sz z n ps =>
    have hd : X'.deep = X.deep := by simp only [Ctx.deep, ho]
    simp only [aop, hd] at h ⊢; exact h
  all_goals exact h

theorem aops_mono {X X' : Ctx} (ho : X'.own = X.own) (hC : leC X.C X'.C) {rid : Nat} : ∀ (r : List AOper) (i : Nat) (s s' : St), aops X rid r i s = some s' → aops X' rid r i s = some s'
  | [], _, _, _, h => h
  | o :: r, i, s, s', h => by
    simp only [aops] at h ⊢
    split at h
    · cases h
    · exact aops_mono ho hC r (i + 1) _ s' h
    · split at h
      · cases h
      · rename_i v u nw hop
        rw [aop_mono ho hC hop]
        simp only
        split at h
        · rename_i hf; rw [if_pos hf]; exact aops_mono ho hC r (i + 1) _ s' h
        · cases h

theorem aopsD_mono {X X' : Ctx} (ho : X'.own = X.own) (hC : leC X.C X'.C) {rid : Nat} {s0 : St} : ∀ (r : List AOper) (i : Nat) (s s' : St) (fs : List Foot), aopsD X rid s0 r i s fs = some s' → aopsD X' rid s0 r i s fs = some s'
  | [], _, _, _, _, h => h
  | o :: r, i, s, s', fs, h => by
    simp only [aopsD] at h ⊢
    split at h
    · cases h
    · exact aopsD_mono ho hC r (i + 1) _ s' fs h
    · split at h
      · cases h
      · rename_i v u nw hop
        rw [aop_mono ho hC hop]
        simp only
        split at h
        · rename_i hf; rw [if_pos hf]; exact aopsD_mono ho hC r (i + 1) _ s' _ h
        · cases h

theorem rounds_mono {b b' : St → Option (AExit × St)} (hb : ∀ s r, b s = some r → b' s = some r) (mask : Mask) : ∀ (n n' : Nat) (s : St) (r : AExit × St), n ≤ n' → rounds b mask n s = some r → rounds b' mask n' s = some r
  | 0, _, _, _, _, h => by simp [rounds] at h
  | n + 1, 0, _, _, hl, _ => by omega
  | n + 1, n' + 1, s, r, hl, h => by
    simp only [rounds] at h ⊢
    cases hbs : b (trim mask s) with
    | none => rw [hbs] at h; cases h
    | some q =>
      obtain ⟨e, s1⟩ := q
      rw [hbs] at h
      rw [hb _ _ hbs]
      cases e with
      | norm => exact rounds_mono hb mask n n' s1 r (by omega) h
      | exit id => exact h
      | ret => exact h
      | goto l => exact h

theorem jumps_mono {b b' : St → Option (AExit × St)} (hb : ∀ s r, b s = some r → b' s = some r) (mask : Mask) (l : Nat) : ∀ (n n' : Nat) (s : St) (r : AExit × St), n ≤ n' → jumps b mask l n s = some r → jumps b' mask l n' s = some r
  | 0, _, _, _, _, h => by simp [jumps] at h
  | n + 1, 0, _, _, hl, _ => by omega
  | n + 1, n' + 1, s, r, hl, h => by
    simp only [jumps] at h ⊢
    cases hbs : b (trim mask s) with
    | none => rw [hbs] at h; cases h
    | some q =>
      obtain ⟨e, s1⟩ := q
      rw [hbs] at h
      rw [hb _ _ hbs]
      cases e with
      | norm => exact h
      | exit id => exact h
      | ret => exact h
      | goto j =>
        simp only at h ⊢
        split at h
        · rename_i hj; rw [if_pos hj]; exact jumps_mono hb mask l n n' s1 r (by omega) h
        · cases h

theorem bothK_self {a b : Option (AExit × St)} {r : AExit × St} (h : bothK a b = some r) : bothK (some r) (some r) = some r := by
  obtain ⟨rfl, rfl⟩ := bothK_some h
  exact h

theorem aexec_mono {X X' : Ctx} (ho : X'.own = X.own) (hC : leC X.C X'.C) {k k' : Nat} (hk : k ≤ k') : ∀ (c : ACode) (s : St) (r : AExit × St), aexec X k c s = some r → aexec X' k' c s = some r := by
  intro c
  induction c with
  | skip => intro s r h; exact h
  | region id ops dr =>
    intro s r h
    simp only [aexec] at h ⊢
    obtain ⟨s1, h1, rfl⟩ := Option.map_eq_some_iff.1 h
    split at h1
    · rename_i hd; rw [if_pos hd, aopsD_mono ho hC _ _ _ _ _ h1]; rfl
    · rename_i hd; rw [if_neg hd, aops_mono ho hC _ _ _ _ h1]; rfl
  | seq a b iha ihb =>
    intro s r h
    simp only [aexec] at h ⊢
    cases ha : aexec X k a s with
    | none => rw [ha] at h; cases h
    | some q =>
      obtain ⟨e, s1⟩ := q
      rw [ha] at h
      rw [iha _ _ ha]
      cases e with
      | norm => exact ihb _ _ h
      | exit id => exact h
      | ret => exact h
      | goto l => exact h
  | cond c a b iha ihb =>
    intro s r h
    simp only [aexec] at h ⊢
    split at h
    · rename_i t ht
      cases t with
      | true => exact iha _ _ h
      | false => exact ihb _ _ h
    · obtain ⟨h1, h2⟩ := bothK_some h
      rw [iha _ _ h1, ihb _ _ h2]
      exact bothK_self h
    · cases h
  | guard p c a b ihp iha ihb =>
    intro s r h
    simp only [aexec] at h ⊢
    cases ha : aexec X k p s with
    | none => rw [ha] at h; cases h
    | some q =>
      obtain ⟨e, s1⟩ := q
      rw [ha] at h
      rw [ihp _ _ ha]
      cases e with
      | exit id => exact h
      | ret => exact h
      | goto l => exact h
      | norm =>
        simp only at h ⊢
        have hcut : ∀ {r : AExit × St}, cutN (aexec X k a s1) = some r → cutN (aexec X' k' a s1) = some r := by
          intro r h
          obtain ⟨h1, h2⟩ := cutN_some h
          rw [h1] at h
          rw [iha _ _ h1]
          exact h
        split at h
        · rename_i t ht
          cases t with
          | true => exact hcut h
          | false => exact ihb _ _ h
        · obtain ⟨h1, h2⟩ := bothK_some h
          rw [hcut h1, ihb _ _ h2]
          exact bothK_self h
        · cases h
  | block id c ih =>
    intro s r h
    simp only [aexec] at h ⊢
    cases ha : aexec X k c s with
    | none => rw [ha] at h; cases h
    | some q => rw [ha] at h; rw [ih _ _ ha]; exact h
  | loop mask c ih =>
    intro s r h
    simp only [aexec] at h ⊢
    exact rounds_mono ih mask k k' s r hk h
  | mask m c ih => intro s r h; simp only [aexec] at h ⊢; exact ih _ _ h
  | exit id => intro s r h; exact h
  | ret => intro s r h; exact h
  | goto l => intro s r h; exact h
  | scope l m p b ihp ihb =>
    intro s r h
    simp only [aexec] at h ⊢
    cases ha : aexec X k p s with
    | none => rw [ha] at h; cases h
    | some q =>
      obtain ⟨e, s1⟩ := q
      rw [ha] at h
      rw [ihp _ _ ha]
      cases e with
      | norm => exact jumps_mono ihb m l k k' s1 r hk h
      | exit id => exact h
      | ret => exact h
      | goto l => cases h
  | bad => intro s r h; simp [aexec] at h

/-- what a body's end comes to -/
def finish (X : Ctx) (f : Nat) (rs : List ARes) (H : Heap) : Option (AExit × St) → Option (AV × Heap)
  | some (.norm, s) | some (.ret, s) =>
    match aresults s rs with
    | none => none
    | some vs =>
      match viewRes (X.retOwn f) s.H (mkRes vs) with
      | none => none
      | some (rv, H2) =>
        let s3 := proms (finsOf rs) { E := [rv], H := H2 }
        let L := reach s3.H RF (List.range H.length ++ refs (nth s3.E 0)) []
        match pack s3.H (fun l => L.idxOf l) 0 L with
        | none => none
        | some Ho => if nodupB L && (L.take H.length == List.range H.length) then some (ren (fun l => L.idxOf l) (nth s3.E 0), Ho) else none
  | _ => none

def start (n : Nat) (args : List AV) (H : Heap) : St := { E := args ++ List.replicate (n - args.length) .undef, H := H }

theorem abody_eq (X : Ctx) (k f : Nat) (fn : AFunc) (args : List AV) (H : Heap) : abody X k f fn args H = finish X f fn.results H (aexec X k fn.body (start fn.ntmps args H)) := by
  unfold abody finish start
  rfl

theorem finish_mono {X X' : Ctx} (hr : X'.retOwn = X.retOwn) (f : Nat) (rs : List ARes) (H : Heap) (o : Option (AExit × St)) : finish X' f rs H o = finish X f rs H o := by
  unfold finish
  rw [hr]

section
variable (own retOwn : Nat → Bool) (ext : Callee) (code : Nat → Option AFunc)

theorem run_mono1 : ∀ k, leC (run own retOwn ext code k) (run own retOwn ext code (k + 1))
  | 0, _, _, _, _, h => by simp [run] at h
  | k + 1, f, a, H, r, h => by
    have ih := run_mono1 k
    rw [run] at h ⊢
    cases he : ext f a H with
    | some q => rw [he] at h; exact h
    | none =>
      rw [he] at h
      cases hc : code f with
      | none => rw [hc] at h; cases h
      | some fn =>
        rw [hc] at h
        simp only at h ⊢
        rw [abody_eq] at h ⊢
        cases hx : aexec { own, retOwn, C := run own retOwn ext code k } k fn.body (start fn.ntmps a H) with
        | none => rw [hx] at h; simp [finish] at h
        | some q =>
          have := aexec_mono (X := { own, retOwn, C := run own retOwn ext code k }) (X' := { own, retOwn, C := run own retOwn ext code (k + 1) }) rfl ih (Nat.le_succ k) _ _ _ hx
          rw [this]
          rw [hx] at h
          exact h

theorem run_mono {k k' : Nat} (h : k ≤ k') : leC (run own retOwn ext code k) (run own retOwn ext code k') := by
  induction h with
  | refl => exact fun _ _ _ _ h => h
  | step _ ih => exact fun f a H r h => run_mono1 own retOwn ext code _ f a H r (ih f a H r h)

open Classical in
noncomputable def lim {α : Type} (f : Nat → Option α) : Option α := if h : ∃ n r, f n = some r then some (Classical.choose (Classical.choose_spec h)) else none

theorem lim_some {α : Type} {f : Nat → Option α} {r : α} (h : lim f = some r) : ∃ n, f n = some r := by
  unfold lim at h
  split at h
  · rename_i hex
    cases h
    exact ⟨_, Classical.choose_spec (Classical.choose_spec hex)⟩
  · cases h

theorem lim_of {α : Type} {f : Nat → Option α} (hm : ∀ n m r, n ≤ m → f n = some r → f m = some r) {n : Nat} {r : α} (h : f n = some r) : lim f = some r := by
  have hex : ∃ n r, f n = some r := ⟨n, r, h⟩
  have : ∃ r', lim f = some r' := by unfold lim; rw [dif_pos hex]; exact ⟨_, rfl⟩
  obtain ⟨r', hr'⟩ := this
  obtain ⟨m, hm'⟩ := lim_some hr'
  have h1 := hm n (max n m) r (Nat.le_max_left _ _) h
  have h2 := hm m (max n m) r' (Nat.le_max_right _ _) hm'
  rw [h1] at h2; cases h2
  exact hr'

/-- a function's answer -/
noncomputable def RUN : Callee := fun f args H => lim fun k => run own retOwn ext code k f args H

noncomputable def XL : Ctx := { own, retOwn, C := RUN own retOwn ext code }

theorem RUN_some {f : Nat} {args : List AV} {H : Heap} {r : AV × Heap} (h : RUN own retOwn ext code f args H = some r) : ∃ k, run own retOwn ext code k f args H = some r := lim_some h

theorem RUN_run {k f : Nat} {args : List AV} {H : Heap} {r : AV × Heap} (h : run own retOwn ext code k f args H = some r) : RUN own retOwn ext code f args H = some r :=
  lim_of (fun _ _ _ hl h => run_mono own retOwn ext code hl _ _ _ _ h) h

/-- one after another -/
def seqK (r : Option (AExit × St)) (k : St → Option (AExit × St)) : Option (AExit × St) := match r with
  | some (.norm, s) => k s
  | r => r

/-- behind what stands ahead of the label -/
def scpK (r : Option (AExit × St)) (k : St → Option (AExit × St)) : Option (AExit × St) := match r with
  | some (.norm, s) => k s
  | some (.goto _, _) => none
  | r => r

def blkK (id : Nat) (r : Option (AExit × St)) : Option (AExit × St) := match r with
  | some (.exit j, s) => if j = id then some (.norm, s) else some (.exit j, s)
  | r => r

def condK (v : AV) (a b : Option (AExit × St)) : Option (AExit × St) := match v with
  | .d (.bool t) => if t = true then a else b
  | .anyb => bothK a b
  | _ => none

/-- code, loops as long as they take -/
noncomputable def exL (X : Ctx) : ACode → St → Option (AExit × St)
  | .skip, s => some (.norm, s)
  | .region id ops dr, s => (if dr then aopsD X id s ops 0 s [] else aops X id ops 0 s).map (.norm, ·)
  | .seq a b, s => seqK (exL X a s) fun s => exL X b s
  | .cond c a b, s => condK (aev s.E c) (exL X a s) (exL X b s)
  | .guard p c a b, s => seqK (exL X p s) fun s => condK (aev s.E c) (cutN (exL X a s)) (exL X b s)
  | .block id c, s => blkK id (exL X c s)
  | .loop mask c, s => lim fun n => rounds (exL X c) mask n s
  | .mask m c, s => exL X c (trim m s)
  | .exit id, s => some (.exit id, s)
  | .ret, s => some (.ret, s)
  | .goto l, s => some (.goto l, s)
  | .scope l m p b, s => scpK (exL X p s) fun s => lim fun n => jumps (exL X b) m l n s
  | .bad, _ => none

/-- a pass that jumps, and the others -/
theorem scope_goto {X : Ctx} {l : Nat} {m : Mask} {c : ACode} {s s' : St} {r : AExit × St} (h : exL X c (trim m s) = some (.goto l, s')) (h' : (lim fun n => jumps (exL X c) m l n s') = some r) : (lim fun n => jumps (exL X c) m l n s) = some r := by
  obtain ⟨n, hn⟩ := lim_some h'
  refine lim_of (fun n n' r hl h => jumps_mono (fun _ _ h => h) m l n n' s r hl h) (n := n + 1) ?_
  simp only [jumps, h, hn, if_true]
/-- the last pass -/
theorem scope_end {X : Ctx} {l : Nat} {m : Mask} {c : ACode} {s s' : St} {e : AExit} (h : exL X c (trim m s) = some (e, s')) (he : ∀ j, e ≠ .goto j) : (lim fun n => jumps (exL X c) m l n s) = some (e, s') := by
  refine lim_of (fun n n' r hl h => jumps_mono (fun _ _ h => h) m l n n' s r hl h) (n := 1) ?_
  simp only [jumps, h]
  cases e with
  | goto j => exact absurd rfl (he j)
  | _ => rfl

theorem loop_norm {X : Ctx} {mask : Mask} {c : ACode} {s s' : St} {r : AExit × St} (h : exL X c (trim mask s) = some (.norm, s')) (h' : exL X (.loop mask c) s' = some r) : exL X (.loop mask c) s = some r := by
  simp only [exL] at h' ⊢
  obtain ⟨n, hn⟩ := lim_some h'
  refine lim_of (fun n m r hl h => rounds_mono (fun _ _ h => h) mask n m s r hl h) (n := n + 1) ?_
  simp only [rounds, h, hn]

theorem loop_end {X : Ctx} {mask : Mask} {c : ACode} {s s' : St} {e : AExit} (h : exL X c (trim mask s) = some (e, s')) (he : e ≠ .norm) : exL X (.loop mask c) s = some (e, s') := by
  simp only [exL]
  refine lim_of (fun n m r hl h => rounds_mono (fun _ _ h => h) mask n m s r hl h) (n := 1) ?_
  simp only [rounds, h]
  cases e with
  | norm => exact absurd rfl he
  | _ => rfl

/-! ### from the limit to some fuel -/
theorem acall_cont {nm : Nat} {H : Heap} {f : Nat} {args : List AV} {r : AV × Upd × List Nat} (h : acall (XL own retOwn ext code) nm H f args = some r) : ∃ k, acall { own, retOwn, C := run own retOwn ext code k } nm H f args = some r := by
  change acall { own, retOwn, C := RUN own retOwn ext code } nm H f args = some r at h
  unfold acall at h
  dsimp only at h
  split at h
  · cases h
  · rename_i as has
    split at h
    · cases h
    · rename_i q hq
      split at h
      · cases h
      · rename_i rv Ho hc
        obtain ⟨k, hk⟩ := RUN_some own retOwn ext code hc
        refine ⟨k, ?_⟩
        unfold acall
        dsimp only
        rw [has]
        dsimp only
        rw [hq]
        dsimp only
        rw [hk]
        exact h

theorem aop_cont {nm : Nat} {H : Heap} {op : AOpOf AV} {r : AV × Upd × List Nat} (h : aop (XL own retOwn ext code) nm H op = some r) : ∃ k, aop { own, retOwn, C := run own retOwn ext code k } nm H op = some r := by
  cases op
  case call f args =>
    simp only [aop] at h ⊢
    split at h
    · split at h
      · rename_i hc
        unfold acallD at h
        split at h
        · cases h
        · rename_i as has
          split at h
          · cases h
          · rename_i rv Ho hcall
            obtain ⟨k, hk⟩ := RUN_some own retOwn ext code hcall
            refine ⟨k, ?_⟩
            refine (if_pos hc).trans ?_
            unfold acallD
            rw [has]
            simp only [hk]
            exact h
      · rename_i hc
        obtain ⟨k, hk⟩ := acall_cont own retOwn ext code h
        refine ⟨k, ?_⟩
        exact (if_neg hc).trans hk
    · cases h
  all_goals exact ⟨0, h⟩

theorem aops_cont {rid : Nat} : ∀ (r : List AOper) (i : Nat) (s s' : St), aops (XL own retOwn ext code) rid r i s = some s' → ∃ k, aops { own, retOwn, C := run own retOwn ext code k } rid r i s = some s'
  | [], _, _, _, h => ⟨0, h⟩
  | o :: r, i, s, s', h => by
    simp only [aops] at h ⊢
    split at h
    · cases h
    · exact aops_cont r (i + 1) _ s' h
    · split at h
      · cases h
      · rename_i v u nw hop
        split at h
        · rename_i hf
          obtain ⟨k1, h1⟩ := aop_cont own retOwn ext code hop
          obtain ⟨k2, h2⟩ := aops_cont r (i + 1) _ s' h
          refine ⟨max k1 k2, ?_⟩
          rw [aop_mono (X := { own, retOwn, C := run own retOwn ext code k1 }) (X' := { own, retOwn, C := run own retOwn ext code (max k1 k2) }) rfl (run_mono own retOwn ext code (Nat.le_max_left k1 k2)) h1]
          simp only [hf, if_true]
          exact aops_mono (X := { own, retOwn, C := run own retOwn ext code k2 }) (X' := { own, retOwn, C := run own retOwn ext code (max k1 k2) }) rfl (run_mono own retOwn ext code (Nat.le_max_right k1 k2)) _ _ _ _ h2
        · cases h

theorem aopsD_cont {rid : Nat} {s0 : St} : ∀ (r : List AOper) (i : Nat) (s s' : St) (fs : List Foot), aopsD (XL own retOwn ext code) rid s0 r i s fs = some s' → ∃ k, aopsD { own, retOwn, C := run own retOwn ext code k } rid s0 r i s fs = some s'
  | [], _, _, _, _, h => ⟨0, h⟩
  | o :: r, i, s, s', fs, h => by
    simp only [aopsD] at h ⊢
    split at h
    · cases h
    · exact aopsD_cont r (i + 1) _ s' fs h
    · split at h
      · cases h
      · rename_i v u nw hop
        split at h
        · rename_i hf
          obtain ⟨k1, h1⟩ := aop_cont own retOwn ext code hop
          obtain ⟨k2, h2⟩ := aopsD_cont r (i + 1) _ s' _ h
          refine ⟨max k1 k2, ?_⟩
          rw [aop_mono (X := { own, retOwn, C := run own retOwn ext code k1 }) (X' := { own, retOwn, C := run own retOwn ext code (max k1 k2) }) rfl (run_mono own retOwn ext code (Nat.le_max_left k1 k2)) h1]
          simp only [hf, if_true]
          exact aopsD_mono (X := { own, retOwn, C := run own retOwn ext code k2 }) (X' := { own, retOwn, C := run own retOwn ext code (max k1 k2) }) rfl (run_mono own retOwn ext code (Nat.le_max_right k1 k2)) _ _ _ _ _ h2
        · cases h

theorem exL_cont : ∀ (c : ACode) (s : St) (r : AExit × St), exL (XL own retOwn ext code) c s = some r → ∃ k, aexec { own, retOwn, C := run own retOwn ext code k } k c s = some r := by
  have up : ∀ {k k' : Nat} {c : ACode} {s : St} {r : AExit × St}, k ≤ k' → aexec { own, retOwn, C := run own retOwn ext code k } k c s = some r → aexec { own, retOwn, C := run own retOwn ext code k' } k' c s = some r :=
    fun {k k'} _ _ _ hl h => aexec_mono (X := { own, retOwn, C := run own retOwn ext code k }) (X' := { own, retOwn, C := run own retOwn ext code k' }) rfl (run_mono own retOwn ext code hl) hl _ _ _ h
  intro c
  induction c with
  | skip => intro s r h; exact ⟨0, h⟩
  | region id ops dr =>
    intro s r h
    simp only [exL] at h
    obtain ⟨s1, h1, rfl⟩ := Option.map_eq_some_iff.1 h
    simp only [aexec]
    split at h1
    · rename_i hd
      obtain ⟨k, hk⟩ := aopsD_cont own retOwn ext code _ _ _ _ _ h1
      exact ⟨k, by rw [if_pos hd, hk]; rfl⟩
    · rename_i hd
      obtain ⟨k, hk⟩ := aops_cont own retOwn ext code _ _ _ _ h1
      exact ⟨k, by rw [if_neg hd, hk]; rfl⟩
  | seq a b iha ihb =>
    intro s r h
    simp only [exL, seqK] at h
    simp only [aexec]
    cases ha : exL (XL own retOwn ext code) a s with
    | none => rw [ha] at h; cases h
    | some q =>
      obtain ⟨e, s1⟩ := q
      rw [ha] at h
      obtain ⟨k1, h1⟩ := iha _ _ ha
      cases e with
      | norm =>
        obtain ⟨k2, h2⟩ := ihb _ _ h
        refine ⟨max k1 k2, ?_⟩
        rw [up (Nat.le_max_left k1 k2) h1]
        exact up (Nat.le_max_right k1 k2) h2
      | exit id => exact ⟨k1, by rw [h1]; exact h⟩
      | ret => exact ⟨k1, by rw [h1]; exact h⟩
      | goto l => exact ⟨k1, by rw [h1]; exact h⟩
  | cond c a b iha ihb =>
    intro s r h
    simp only [exL, condK] at h
    simp only [aexec]
    split at h
    · rename_i t ht
      simp only [ht]
      cases t with
      | true => exact iha _ _ h
      | false => exact ihb _ _ h
    · rename_i ht
      simp only [ht]
      obtain ⟨h1, h2⟩ := bothK_some h
      obtain ⟨k1, g1⟩ := iha _ _ h1
      obtain ⟨k2, g2⟩ := ihb _ _ h2
      refine ⟨max k1 k2, ?_⟩
      rw [up (Nat.le_max_left k1 k2) g1, up (Nat.le_max_right k1 k2) g2]
      exact bothK_self h
    · cases h
  | guard p c a b ihp iha ihb =>
    intro s r h
    simp only [exL, seqK] at h
    simp only [aexec]
    cases ha : exL (XL own retOwn ext code) p s with
    | none => rw [ha] at h; cases h
    | some q =>
      obtain ⟨e, s1⟩ := q
      rw [ha] at h
      obtain ⟨k0, h0⟩ := ihp _ _ ha
      cases e with
      | exit id => exact ⟨k0, by rw [h0]; exact h⟩
      | ret => exact ⟨k0, by rw [h0]; exact h⟩
      | goto l => exact ⟨k0, by rw [h0]; exact h⟩
      | norm =>
        have hcut : ∀ {r : AExit × St}, cutN (exL (XL own retOwn ext code) a s1) = some r → ∃ k, cutN (aexec { own, retOwn, C := run own retOwn ext code k } k a s1) = some r ∧ aexec { own, retOwn, C := run own retOwn ext code k } k a s1 = some r := by
          intro r h
          obtain ⟨h1, h2⟩ := cutN_some h
          obtain ⟨k, hk⟩ := iha _ _ h1
          rw [h1] at h
          exact ⟨k, by rw [hk]; exact h, hk⟩
        simp only [condK] at h
        split at h
        · rename_i t ht
          cases t with
          | true =>
            obtain ⟨k1, g1, g2⟩ := hcut h
            refine ⟨max k0 k1, ?_⟩
            rw [up (Nat.le_max_left k0 k1) h0]
            simp only [ht, if_true]
            rw [up (Nat.le_max_right k0 k1) g2]
            rw [g2] at g1
            exact g1
          | false =>
            obtain ⟨k1, g1⟩ := ihb _ _ h
            refine ⟨max k0 k1, ?_⟩
            rw [up (Nat.le_max_left k0 k1) h0]
            simp only [ht, Bool.false_eq_true, if_false]
            exact up (Nat.le_max_right k0 k1) g1
        · rename_i ht
          obtain ⟨h1, h2⟩ := bothK_some h
          obtain ⟨k1, g1, g2⟩ := hcut h1
          obtain ⟨k2, g3⟩ := ihb _ _ h2
          refine ⟨max k0 (max k1 k2), ?_⟩
          rw [up (Nat.le_max_left _ _) h0]
          simp only [ht]
          rw [up (Nat.le_trans (Nat.le_max_left k1 k2) (Nat.le_max_right _ _)) g2, up (Nat.le_trans (Nat.le_max_right k1 k2) (Nat.le_max_right _ _)) g3]
          rw [g2] at g1
          rw [g1]
          exact bothK_self h
        · cases h
  | block id c ih =>
    intro s r h
    simp only [exL, blkK] at h
    simp only [aexec]
    cases ha : exL (XL own retOwn ext code) c s with
    | none => rw [ha] at h; cases h
    | some q =>
      obtain ⟨k, hk⟩ := ih _ _ ha
      rw [ha] at h
      exact ⟨k, by rw [hk]; exact h⟩
  | loop mask c ih =>
    intro s r h
    simp only [exL] at h
    obtain ⟨n, hn⟩ := lim_some h
    simp only [aexec]
    have key : ∀ (n : Nat) (s : St), rounds (exL (XL own retOwn ext code) c) mask n s = some r → ∃ k, rounds (aexec { own, retOwn, C := run own retOwn ext code k } k c) mask n s = some r := by
      intro n
      induction n with
      | zero => intro s h; simp [rounds] at h
      | succ n ihn =>
        intro s h
        simp only [rounds] at h ⊢
        cases ha : exL (XL own retOwn ext code) c (trim mask s) with
        | none => rw [ha] at h; cases h
        | some q =>
          obtain ⟨e, s1⟩ := q
          rw [ha] at h
          obtain ⟨k1, h1⟩ := ih _ _ ha
          cases e with
          | norm =>
            obtain ⟨k2, h2⟩ := ihn s1 h
            refine ⟨max k1 k2, ?_⟩
            rw [up (Nat.le_max_left k1 k2) h1]
            exact rounds_mono (fun s r h => up (Nat.le_max_right k1 k2) h) mask n n s1 r (Nat.le_refl _) h2
          | exit id => exact ⟨k1, by rw [h1]; exact h⟩
          | ret => exact ⟨k1, by rw [h1]; exact h⟩
          | goto l => exact ⟨k1, by rw [h1]; exact h⟩
    obtain ⟨k, hk⟩ := key n s hn
    exact ⟨max k n, rounds_mono (fun s r h => up (Nat.le_max_left k n) h) mask n (max k n) s r (Nat.le_max_right k n) hk⟩
  | mask m c ih => intro s r h; simp only [exL] at h; simp only [aexec]; exact ih _ _ h
  | exit id => intro s r h; exact ⟨0, h⟩
  | ret => intro s r h; exact ⟨0, h⟩
  | goto l => intro s r h; exact ⟨0, h⟩
  | scope l m p b ihp ihb =>
    intro s r h
    simp only [exL, scpK] at h
    simp only [aexec]
    cases ha : exL (XL own retOwn ext code) p s with
    | none => rw [ha] at h; cases h
    | some q =>
      obtain ⟨e, s1⟩ := q
      rw [ha] at h
      obtain ⟨k1, h1⟩ := ihp _ _ ha
      cases e with
      | exit id => exact ⟨k1, by rw [h1]; exact h⟩
      | ret => exact ⟨k1, by rw [h1]; exact h⟩
      | goto l => cases h
      | norm =>
        obtain ⟨n, hn⟩ := lim_some h
        have key : ∀ (n : Nat) (s : St), jumps (exL (XL own retOwn ext code) b) m l n s = some r → ∃ k, jumps (aexec { own, retOwn, C := run own retOwn ext code k } k b) m l n s = some r := by
          intro n
          induction n with
          | zero => intro s h; simp [jumps] at h
          | succ n ihn =>
            intro s h
            simp only [jumps] at h ⊢
            cases ha : exL (XL own retOwn ext code) b (trim m s) with
            | none => rw [ha] at h; cases h
            | some q =>
              obtain ⟨e, s1⟩ := q
              rw [ha] at h
              obtain ⟨k1, h1⟩ := ihb _ _ ha
              cases e with
              | norm => exact ⟨k1, by rw [h1]; exact h⟩
              | exit id => exact ⟨k1, by rw [h1]; exact h⟩
              | ret => exact ⟨k1, by rw [h1]; exact h⟩
              | goto j =>
                simp only at h
                split at h
                · rename_i hj
                  obtain ⟨k2, h2⟩ := ihn s1 h
                  refine ⟨max k1 k2, ?_⟩
                  rw [up (Nat.le_max_left k1 k2) h1]
                  simp only [hj, if_true]
                  exact jumps_mono (fun s r h => up (Nat.le_max_right k1 k2) h) m l n n s1 r (Nat.le_refl _) h2
                · cases h
        obtain ⟨k, hk⟩ := key n s1 hn
        refine ⟨max k1 (max k n), ?_⟩
        rw [up (Nat.le_max_left _ _) h1]
        exact jumps_mono (fun s r h => up (Nat.le_trans (Nat.le_max_left k n) (Nat.le_max_right _ _)) h) m l n _ s1 r (Nat.le_trans (Nat.le_max_right k n) (Nat.le_max_right _ _)) hk
  | bad => intro s r h; simp [exL] at h

/-- one function's equation -/
theorem RUN_of {f : Nat} {fn : AFunc} {args : List AV} {H : Heap} {r : AV × Heap} (he : ext f args H = none) (hc : code f = some fn) (h : finish (XL own retOwn ext code) f fn.results H (exL (XL own retOwn ext code) fn.body (start fn.ntmps args H)) = some r) :
    RUN own retOwn ext code f args H = some r := by
  cases hx : exL (XL own retOwn ext code) fn.body (start fn.ntmps args H) with
  | none => rw [hx] at h; simp [finish] at h
  | some q =>
    obtain ⟨k, hk⟩ := exL_cont own retOwn ext code _ _ _ hx
    refine RUN_run own retOwn ext code (k := k + 1) ?_
    rw [run, he, hc]
    simp only
    rw [abody_eq, hk]
    rw [hx] at h
    exact h

theorem RUN_ext {f : Nat} {args : List AV} {H : Heap} {r : AV × Heap} (he : ext f args H = some r) : RUN own retOwn ext code f args H = some r :=
  RUN_run own retOwn ext code (k := 1) (by rw [run, he])

theorem RUN_good {P : Program} (hext : Good P ext) (hcode : ∀ f fn, code f = some fn → Shows P f fn) : Good P (RUN own retOwn ext code) := fun f args H rv Ho h => by
  obtain ⟨k, hk⟩ := RUN_some own retOwn ext code h
  exact run_sound hext hcode k f args H rv Ho hk
end
end Bz

/- Rules by which code is carried out. -/
namespace Bz
open Go

/-- code behind what was carried out -/
noncomputable def seqC (X : Ctx) (r : Option (AExit × St)) (b : ACode) : Option (AExit × St) := seqK r fun s => exL X b s

@[simp] theorem exL_skip (X : Ctx) (s : St) : exL X .skip s = some (.norm, s) := rfl
@[simp] theorem exL_region (X : Ctx) (id : Nat) (ops : List AOper) (s : St) : exL X (.region id ops false) s = (aops X id ops 0 s).map (.norm, ·) := rfl
@[simp] theorem exL_regionD (X : Ctx) (id : Nat) (ops : List AOper) (s : St) : exL X (.region id ops true) s = (aopsD X id s ops 0 s []).map (.norm, ·) := rfl
@[simp] theorem exL_seq (X : Ctx) (a b : ACode) (s : St) : exL X (.seq a b) s = seqC X (exL X a s) b := rfl
@[simp] theorem exL_cond (X : Ctx) (c : AOpd) (a b : ACode) (s : St) : exL X (.cond c a b) s = condK (aev s.E c) (exL X a s) (exL X b s) := rfl
/-- behind a guard -/
noncomputable def grdC (X : Ctx) (r : Option (AExit × St)) (c : AOpd) (a b : ACode) : Option (AExit × St) := seqK r fun s => condK (aev s.E c) (cutN (exL X a s)) (exL X b s)
@[simp] theorem exL_guard (X : Ctx) (p : ACode) (c : AOpd) (a b : ACode) (s : St) : exL X (.guard p c a b) s = grdC X (exL X p s) c a b := rfl
@[simp] theorem grdC_norm (X : Ctx) (s : St) (c : AOpd) (a b : ACode) : grdC X (some (.norm, s)) c a b = condK (aev s.E c) (cutN (exL X a s)) (exL X b s) := rfl
@[simp] theorem cutN_ret (s : St) : cutN (some (.ret, s)) = some (.ret, s) := rfl
@[simp] theorem cutN_exit (i : Nat) (s : St) : cutN (some (.exit i, s)) = some (.exit i, s) := rfl
@[simp] theorem exL_block (X : Ctx) (id : Nat) (c : ACode) (s : St) : exL X (.block id c) s = blkK id (exL X c s) := rfl
@[simp] theorem exL_mask (X : Ctx) (m : Mask) (c : ACode) (s : St) : exL X (.mask m c) s = exL X c (trim m s) := rfl
@[simp] theorem exL_exit (X : Ctx) (id : Nat) (s : St) : exL X (.exit id) s = some (.exit id, s) := rfl
@[simp] theorem exL_ret (X : Ctx) (s : St) : exL X .ret s = some (.ret, s) := rfl
@[simp] theorem exL_goto (X : Ctx) (l : Nat) (s : St) : exL X (.goto l) s = some (.goto l, s) := rfl
/-- the passes from a label on -/
noncomputable def scpJ (X : Ctx) (l : Nat) (m : Mask) (b : ACode) (s : St) : Option (AExit × St) := lim fun n => jumps (exL X b) m l n s
noncomputable def scpC (X : Ctx) (l : Nat) (m : Mask) (b : ACode) (r : Option (AExit × St)) : Option (AExit × St) := scpK r fun s => scpJ X l m b s
@[simp] theorem exL_scope (X : Ctx) (l : Nat) (m : Mask) (p b : ACode) (s : St) : exL X (.scope l m p b) s = scpC X l m b (exL X p s) := rfl
@[simp] theorem scpC_norm (X : Ctx) (l : Nat) (m : Mask) (b : ACode) (s : St) : scpC X l m b (some (.norm, s)) = scpJ X l m b s := rfl
/-- two ways meet -/
def meetO (c : Prop) [Decidable c] : Option (AExit × St) → Option (AExit × St) → Option (AExit × St)
  | some (.norm, s), some (.norm, s') => some (.norm, { E := if c then s.E else s'.E, H := if c then s.H else s'.H })
  | a, b => if c then a else b

theorem meetO_eq (c : Prop) [Decidable c] (a b : Option (AExit × St)) : meetO c a b = if c then a else b := by
  unfold meetO
  split
  · split <;> rfl
  · rfl

/-- what stays of each way -/
def jn (m : Mask) : Option (AExit × St) → Option (AExit × St)
  | some (.norm, s) => some (.norm, trim m s)
  | r => r

@[simp] theorem meetO_nn (c : Prop) [Decidable c] (E E' : List AV) (H H' : Heap) : meetO c (some (.norm, ⟨E, H⟩)) (some (.norm, ⟨E', H'⟩)) = some (.norm, ⟨if c then E else E', if c then H else H'⟩) := rfl
@[simp] theorem meetO_rl (c : Prop) [Decidable c] (s : St) (b : Option (AExit × St)) : meetO c (some (.ret, s)) b = if c then some (.ret, s) else b := by rw [meetO_eq]
@[simp] theorem meetO_rr (c : Prop) [Decidable c] (s : St) (a : Option (AExit × St)) : meetO c a (some (.ret, s)) = if c then a else some (.ret, s) := by rw [meetO_eq]
@[simp] theorem meetO_gl (c : Prop) [Decidable c] (i : Nat) (s : St) (b : Option (AExit × St)) : meetO c (some (.goto i, s)) b = if c then some (.goto i, s) else b := by rw [meetO_eq]
@[simp] theorem meetO_gr (c : Prop) [Decidable c] (i : Nat) (s : St) (a : Option (AExit × St)) : meetO c a (some (.goto i, s)) = if c then a else some (.goto i, s) := by rw [meetO_eq]
@[simp] theorem meetO_xl (c : Prop) [Decidable c] (i : Nat) (s : St) (b : Option (AExit × St)) : meetO c (some (.exit i, s)) b = if c then some (.exit i, s) else b := by rw [meetO_eq]
@[simp] theorem meetO_xr (c : Prop) [Decidable c] (i : Nat) (s : St) (a : Option (AExit × St)) : meetO c a (some (.exit i, s)) = if c then a else some (.exit i, s) := by rw [meetO_eq]
@[simp] theorem meetO_il (c d : Prop) [Decidable c] [Decidable d] (a a' b : Option (AExit × St)) : meetO c (if d then a else a') b = if c then (if d then a else a') else b := by rw [meetO_eq]
@[simp] theorem meetO_ir (c d : Prop) [Decidable c] [Decidable d] (a b b' : Option (AExit × St)) : meetO c a (if d then b else b') = if c then a else (if d then b else b') := by rw [meetO_eq]
@[simp] theorem jn_norm (m : Mask) (s : St) : jn m (some (.norm, s)) = some (.norm, trim m s) := rfl
@[simp] theorem jn_goto (m : Mask) (i : Nat) (s : St) : jn m (some (.goto i, s)) = some (.goto i, s) := rfl
@[simp] theorem jn_ret (m : Mask) (s : St) : jn m (some (.ret, s)) = some (.ret, s) := rfl
@[simp] theorem jn_exit (m : Mask) (i : Nat) (s : St) : jn m (some (.exit i, s)) = some (.exit i, s) := rfl
@[simp] theorem jn_none (m : Mask) : jn m none = none := rfl
@[simp] theorem jn_ite (m : Mask) (c : Prop) [Decidable c] (a b : Option (AExit × St)) : jn m (if c then a else b) = meetO c (jn m a) (jn m b) := by rw [meetO_eq]; split <;> rfl
@[simp] theorem seqC_mask (X : Ctx) (r : Option (AExit × St)) (m : Mask) (b : ACode) : seqC X r (.mask m b) = seqC X (jn m r) b := by
  cases r with
  | none => rfl
  | some p => obtain ⟨e, s⟩ := p; cases e <;> rfl
@[simp] theorem map_norm_ite (c : Prop) [Decidable c] (a b : Option St) : (if c then a else b).map (fun s => (AExit.norm, s)) = if c then a.map (fun s => (AExit.norm, s)) else b.map (fun s => (AExit.norm, s)) := by split <;> rfl
@[simp] theorem seqC_norm (X : Ctx) (s : St) (b : ACode) : seqC X (some (.norm, s)) b = exL X b s := rfl
@[simp] theorem seqC_exit (X : Ctx) (id : Nat) (s : St) (b : ACode) : seqC X (some (.exit id, s)) b = some (.exit id, s) := rfl
@[simp] theorem seqC_goto (X : Ctx) (i : Nat) (s : St) (b : ACode) : seqC X (some (.goto i, s)) b = some (.goto i, s) := rfl
@[simp] theorem seqC_ret (X : Ctx) (s : St) (b : ACode) : seqC X (some (.ret, s)) b = some (.ret, s) := rfl
@[simp] theorem seqC_none (X : Ctx) (b : ACode) : seqC X none b = none := rfl
theorem seqC_ite (X : Ctx) (c : Prop) [Decidable c] (r t : Option (AExit × St)) (b : ACode) : seqC X (if c then r else t) b = if c then seqC X r b else seqC X t b := by split <;> rfl
@[simp] theorem seqC_ite_skip (X : Ctx) (c : Prop) [Decidable c] (r t : Option (AExit × St)) : seqC X (if c then r else t) .skip = if c then seqC X r .skip else seqC X t .skip := seqC_ite X c r t _
@[simp] theorem seqC_ite_region (X : Ctx) (c : Prop) [Decidable c] (r t : Option (AExit × St)) (id : Nat) (ops : List AOper) (dr : Bool) : seqC X (if c then r else t) (.region id ops dr) = if c then seqC X r (.region id ops dr) else seqC X t (.region id ops dr) := seqC_ite X c r t _
@[simp] theorem seqC_ite_seq (X : Ctx) (c : Prop) [Decidable c] (r t : Option (AExit × St)) (a b : ACode) : seqC X (if c then r else t) (.seq a b) = if c then seqC X r (.seq a b) else seqC X t (.seq a b) := seqC_ite X c r t _
@[simp] theorem seqC_ite_cond (X : Ctx) (c : Prop) [Decidable c] (r t : Option (AExit × St)) (o : AOpd) (a b : ACode) : seqC X (if c then r else t) (.cond o a b) = if c then seqC X r (.cond o a b) else seqC X t (.cond o a b) := seqC_ite X c r t _
@[simp] theorem seqC_ite_block (X : Ctx) (c : Prop) [Decidable c] (r t : Option (AExit × St)) (id : Nat) (a : ACode) : seqC X (if c then r else t) (.block id a) = if c then seqC X r (.block id a) else seqC X t (.block id a) := seqC_ite X c r t _
@[simp] theorem seqC_ite_loop (X : Ctx) (c : Prop) [Decidable c] (r t : Option (AExit × St)) (m : Mask) (a : ACode) : seqC X (if c then r else t) (.loop m a) = if c then seqC X r (.loop m a) else seqC X t (.loop m a) := seqC_ite X c r t _
@[simp] theorem seqC_ite_exit (X : Ctx) (c : Prop) [Decidable c] (r t : Option (AExit × St)) (id : Nat) : seqC X (if c then r else t) (.exit id) = if c then seqC X r (.exit id) else seqC X t (.exit id) := seqC_ite X c r t _
@[simp] theorem seqC_ite_ret (X : Ctx) (c : Prop) [Decidable c] (r t : Option (AExit × St)) : seqC X (if c then r else t) .ret = if c then seqC X r .ret else seqC X t .ret := seqC_ite X c r t _
@[simp] theorem blkK_norm (id : Nat) (s : St) : blkK id (some (.norm, s)) = some (.norm, s) := rfl
@[simp] theorem blkK_goto (id i : Nat) (s : St) : blkK id (some (.goto i, s)) = some (.goto i, s) := rfl
@[simp] theorem blkK_ret (id : Nat) (s : St) : blkK id (some (.ret, s)) = some (.ret, s) := rfl
@[simp] theorem blkK_exit (id j : Nat) (s : St) : blkK id (some (.exit j, s)) = if j = id then some (.norm, s) else some (.exit j, s) := rfl
@[simp] theorem blkK_none (id : Nat) : blkK id none = none := rfl
@[simp] theorem blkK_ite (id : Nat) (c : Prop) [Decidable c] (a b : Option (AExit × St)) : blkK id (if c then a else b) = if c then blkK id a else blkK id b := by split <;> rfl
mutual
theorem eqD_self : ∀ a : D, eqD a a = true
  | .int .. => by simp [eqD]
  | .bool _ => by simp [eqD]
  | .str _ => by simp [eqD]
  | .vs a x => by simp [eqD, eqDss_self x]
  | .nilp => rfl
  | .nilm => rfl
  | .nilf => rfl
  | .nili => rfl
  | .ifc t x => by simp [eqD, eqD_self x]
theorem eqDs_self : ∀ a : List D, eqDs a a = true
  | [] => rfl
  | x :: r => by simp [eqDs, eqD_self x, eqDs_self r]
theorem eqDss_self : ∀ a : List (List D), eqDss a a = true
  | [] => rfl
  | x :: r => by simp [eqDss, eqDs_self x, eqDss_self r]
end
mutual
theorem eqO_self : ∀ a : O, eqOw a a = true
  | .d x => by simp [eqOw, eqD_self x]
  | .own cs => by simp [eqOw, eqOs_self cs]
  | .osl sz len es => by simp [eqOw, eqOss_self es]
theorem eqOs_self : ∀ a : List O, eqOs a a = true
  | [] => rfl
  | x :: r => by simp [eqOs, eqO_self x, eqOs_self r]
theorem eqOss_self : ∀ a : List (List O), eqOss a a = true
  | [] => rfl
  | x :: r => by simp [eqOss, eqOs_self x, eqOss_self r]
end
mutual
theorem eqA_self : ∀ a : AV, eqA a a = true
  | .undef => rfl
  | .anyb => rfl
  | .ow t => by simp [eqA, eqO_self t]
  | .d x => by simp [eqA, eqD_self x]
  | .os .. => by simp [eqA]
  | .pv .. => by simp [eqA]
  | .pa .. => by simp [eqA]
  | .vp a _ => by simp [eqA, eqDs_self a]
  | .map _ => by simp [eqA]
  | .fn _ b => by simp [eqA, eqAs_self b]
  | .agg a => by simp [eqA, eqAs_self a]
  | .tup a => by simp [eqA, eqAs_self a]
theorem eqAs_self : ∀ a : List AV, eqAs a a = true
  | [] => rfl
  | x :: r => by simp [eqAs, eqA_self x, eqAs_self r]
end
@[simp] theorem bothK_same (e : AExit) (E : List AV) : bothK (some (e, ⟨E, []⟩)) (some (e, ⟨E, []⟩)) = some (e, ⟨E, []⟩) := by
  simp [bothK, eqR, eqAs_self, eqH]
@[simp] theorem bothK_same1 (e : AExit) (E : List AV) (l sz : Nat) (es : List (List D)) : bothK (some (e, ⟨E, [(l, .arr sz es)]⟩)) (some (e, ⟨E, [(l, .arr sz es)]⟩)) = some (e, ⟨E, [(l, .arr sz es)]⟩) := by
  simp [bothK, eqR, eqAs_self, eqH, eqO, eqDss_self]
@[simp] theorem condK_any (a b : Option (AExit × St)) : condK .anyb a b = bothK a b := rfl
@[simp] theorem condK_bool (t : Bool) (a b : Option (AExit × St)) : condK (.d (.bool t)) a b = if t = true then a else b := rfl

@[simp] theorem ite_res (c : Prop) [Decidable c] (a b : AV × Heap) : (if c then some a else some b) = some (if c then a else b) := by split <;> rfl
@[simp] theorem ite_pair (c : Prop) [Decidable c] (a b : AV) (h g : Heap) : (if c then (a, h) else (b, g)) = (if c then a else b, if c then h else g) := by split <;> rfl
@[simp] theorem ite_cons {α : Type} (c : Prop) [Decidable c] (a b : α) (r s : List α) : (if c then a :: r else b :: s) = (if c then a else b) :: (if c then r else s) := by split <;> rfl
@[simp] theorem ite_d (c : Prop) [Decidable c] (a b : D) : (if c then AV.d a else AV.d b) = AV.d (if c then a else b) := by split <;> rfl
@[simp] theorem ite_int (c : Prop) [Decidable c] (k : IntKind) (a b : Int) : (if c then D.int k a else D.int k b) = D.int k (if c then a else b) := by split <;> rfl
@[simp] theorem ite_bool (c : Prop) [Decidable c] (a b : Bool) : (if c then D.bool a else D.bool b) = D.bool (if c then a else b) := by split <;> rfl
@[simp] theorem ite_str (c : Prop) [Decidable c] (a b : List UInt8) : (if c then D.str a else D.str b) = D.str (if c then a else b) := by split <;> rfl
@[simp] theorem ite_agg (c : Prop) [Decidable c] (a b : List AV) : (if c then AV.agg a else AV.agg b) = AV.agg (if c then a else b) := by split <;> rfl
@[simp] theorem ite_dec (p : Prop) [Decidable p] (y : Bool) : (if p then decide p else y) = (decide p || y) := by by_cases h : p <;> simp [h]
@[simp] theorem ite_ndec (p : Prop) [Decidable p] (y : Bool) : (if p then y else decide p) = (decide p && y) := by by_cases h : p <;> simp [h]

@[simp] theorem finish_ite (X : Ctx) (f : Nat) (rs : List ARes) (H : Heap) (c : Prop) [Decidable c] (a b : Option (AExit × St)) : finish X f rs H (if c then a else b) = if c then finish X f rs H a else finish X f rs H b := by split <;> rfl

def finE (X : Ctx) (f : Nat) (rs : List ARes) (H : Heap) (s : St) : Option (AV × Heap) := match aresults s rs with
  | none => none
  | some vs => match viewRes (X.retOwn f) s.H (mkRes vs) with
    | none => none
    | some (rv, H2) =>
      let s3 := proms (finsOf rs) { E := [rv], H := H2 }
      let L := reach s3.H RF (List.range H.length ++ refs (nth s3.E 0)) []
      match pack s3.H (fun l => L.idxOf l) 0 L with
      | none => none
      | some Ho => if nodupB L && (L.take H.length == List.range H.length) then some (ren (fun l => L.idxOf l) (nth s3.E 0), Ho) else none

@[simp] theorem finish_ret (X : Ctx) (f : Nat) (rs : List ARes) (H : Heap) (s : St) : finish X f rs H (some (.ret, s)) = finE X f rs H s := rfl
@[simp] theorem finish_norm (X : Ctx) (f : Nat) (rs : List ARes) (H : Heap) (s : St) : finish X f rs H (some (.norm, s)) = finE X f rs H s := rfl

/-- one round more -/
theorem loop_next {X : Ctx} {mask : Mask} {c : ACode} {s t : St} {r : AExit × St} (h : (exL X c (trim mask s)).map (fun p => (p.1, trim mask p.2)) = some (.norm, t)) (h' : ∀ s', trim mask s' = t → exL X (.loop mask c) s' = some r) :
    exL X (.loop mask c) s = some r := by
  obtain ⟨p, hp, e⟩ := Option.map_eq_some_iff.1 h
  obtain ⟨e', s'⟩ := p
  cases e
  exact loop_norm hp (h' s' rfl)

/-! ### operations, one by one -/
/-- behind an operation's answer -/
def aopsK (X : Ctx) (rid : Nat) (d : Option Nat) (r : List AOper) (i : Nat) (s : St) : Option (AV × Upd × List Nat) → Option St
  | none => none
  | some (v, u, nw) => if freshU s.E s.H nw then aops X rid r (i + 1) { E := putE s.E d v, H := applyU s.H u } else none

/-- an operation whose guard's slot holds v -/
def aopsG (X : Ctx) (rid : Nat) (d : Option Nat) (op : AOp) (r : List AOper) (i : Nat) (s : St) (g : Nat) (v : AV) (t : Bool) : Option St := match v with
  | .d (.bool b) => if b = t then aopsK X rid d r i { s with E := s.E.set g v } (aop X (nameOf rid i) s.H (op.map (aev (s.E.set g v)))) else aops X rid r (i + 1) { s with E := putE (s.E.set g v) d (.tup []) }
  | .tup [] => aops X rid r (i + 1) { s with E := putE s.E d (.tup []) }
  | _ => none

theorem set_same {E : List AV} {g : Nat} {v : AV} (h : nth E g = v) (hv : v ≠ .undef) : E.set g v = E := by
  have hl : g < E.length := by
    rcases Nat.lt_or_ge g E.length with h' | h'
    · exact h'
    · rw [nth_eq, List.getElem?_eq_none h'] at h; exact absurd h.symm hv
  rw [nth_eq, List.getElem?_eq_getElem hl] at h
  simp only [Option.getD_some] at h
  subst h
  exact List.set_getElem_self hl

@[simp] theorem aops_nil (X : Ctx) (rid i : Nat) (s : St) : aops X rid [] i s = some s := rfl
@[simp] theorem aops_free (X : Ctx) (rid i : Nat) (d : Option Nat) (op : AOp) (bef : List Nat) (r : List AOper) (s : St) :
    aops X rid (⟨d, op, none, bef⟩ :: r) i s = aopsK X rid d r i s (aop X (nameOf rid i) s.H (op.map (aev s.E))) := by
  simp only [aops, wants, aopsK]
  split <;> simp_all
@[simp] theorem aops_guard (X : Ctx) (rid i : Nat) (d : Option Nat) (op : AOp) (g : Nat) (t : Bool) (bef : List Nat) (r : List AOper) (s : St) :
    aops X rid (⟨d, op, some (g, t), bef⟩ :: r) i s = aopsG X rid d op r i s g (nth s.E g) t := by
  simp only [aops, wants, aopsG]
  generalize hv : nth s.E g = v
  cases v with
  | d x =>
    cases x with
    | bool b =>
      have hs := set_same hv (by simp)
      simp only [hs, aopsK]
      cases b <;> cases t <;> simp <;> (split <;> simp_all)
    | _ => rfl
  | tup cs => cases cs <;> rfl
  | _ => rfl
def aopsGt (X : Ctx) (rid : Nat) (d : Option Nat) (op : AOp) (r : List AOper) (i : Nat) (s : St) (g : Nat) : Bool → Option St
  | true => aopsK X rid d r i { s with E := s.E.set g (.d (.bool true)) } (aop X (nameOf rid i) s.H (op.map (aev (s.E.set g (.d (.bool true))))))
  | false => aops X rid r (i + 1) { s with E := putE (s.E.set g (.d (.bool true))) d (.tup []) }
def aopsGf (X : Ctx) (rid : Nat) (d : Option Nat) (op : AOp) (r : List AOper) (i : Nat) (s : St) (g : Nat) : Bool → Option St
  | true => aops X rid r (i + 1) { s with E := putE (s.E.set g (.d (.bool false))) d (.tup []) }
  | false => aopsK X rid d r i { s with E := s.E.set g (.d (.bool false)) } (aop X (nameOf rid i) s.H (op.map (aev (s.E.set g (.d (.bool false))))))
@[simp] theorem aopsGt_t (X : Ctx) (rid : Nat) (d : Option Nat) (op : AOp) (r : List AOper) (i : Nat) (s : St) (g : Nat) : aopsGt X rid d op r i s g true = aopsK X rid d r i { s with E := s.E.set g (.d (.bool true)) } (aop X (nameOf rid i) s.H (op.map (aev (s.E.set g (.d (.bool true)))))) := rfl
@[simp] theorem aopsGt_f (X : Ctx) (rid : Nat) (d : Option Nat) (op : AOp) (r : List AOper) (i : Nat) (s : St) (g : Nat) : aopsGt X rid d op r i s g false = aops X rid r (i + 1) { s with E := putE (s.E.set g (.d (.bool true))) d (.tup []) } := rfl
@[simp] theorem aopsGf_t (X : Ctx) (rid : Nat) (d : Option Nat) (op : AOp) (r : List AOper) (i : Nat) (s : St) (g : Nat) : aopsGf X rid d op r i s g true = aops X rid r (i + 1) { s with E := putE (s.E.set g (.d (.bool false))) d (.tup []) } := rfl
@[simp] theorem aopsGf_f (X : Ctx) (rid : Nat) (d : Option Nat) (op : AOp) (r : List AOper) (i : Nat) (s : St) (g : Nat) : aopsGf X rid d op r i s g false = aopsK X rid d r i { s with E := s.E.set g (.d (.bool false)) } (aop X (nameOf rid i) s.H (op.map (aev (s.E.set g (.d (.bool false)))))) := rfl
@[simp] theorem aopsG_tup (X : Ctx) (rid : Nat) (d : Option Nat) (op : AOp) (r : List AOper) (i : Nat) (s : St) (g : Nat) (t : Bool) : aopsG X rid d op r i s g (.tup []) t = aops X rid r (i + 1) { s with E := putE s.E d (.tup []) } := rfl
@[simp] theorem aopsG_bool (X : Ctx) (rid : Nat) (d : Option Nat) (op : AOp) (r : List AOper) (i : Nat) (s : St) (g : Nat) (b t : Bool) : aopsG X rid d op r i s g (.d (.bool b)) t = if b = true then aopsGt X rid d op r i s g t else aopsGf X rid d op r i s g t := by cases b <;> cases t <;> rfl
@[simp] theorem aopsK_some (X : Ctx) (rid : Nat) (d : Option Nat) (r : List AOper) (i : Nat) (s : St) (v : AV) (u : Upd) : aopsK X rid d r i s (some (v, u, [])) = aops X rid r (i + 1) { E := putE s.E d v, H := applyU s.H u } := rfl
@[simp] theorem aopsK_new (X : Ctx) (rid : Nat) (d : Option Nat) (r : List AOper) (i : Nat) (s : St) (v : AV) (u : Upd) (l : Nat) (nw : List Nat) :
    aopsK X rid d r i s (some (v, u, l :: nw)) = if freshU s.E s.H (l :: nw) = true then aops X rid r (i + 1) { E := putE s.E d v, H := applyU s.H u } else none := rfl
/-! ### operations whose order is open -/
def dK (X : Ctx) (rid : Nat) (s0 : St) (d : Option Nat) (r : List AOper) (i : Nat) (s : St) (fs : List Foot) (bef : List Nat) (op : AOpOf AV) : Option (AV × Upd × List Nat) → Option St
  | none => none
  | some (v, u, nw) => if freshU s0.E s0.H nw && freshU s.E s.H nw && clears bef (footOf i op v u nw) fs then
      aopsD X rid s0 r (i + 1) { E := putE s.E d v, H := applyU s.H u } (footOf i op v u nw :: fs) else none

def dG (X : Ctx) (rid : Nat) (s0 : St) (d : Option Nat) (op : AOp) (r : List AOper) (i : Nat) (s : St) (fs : List Foot) (bef : List Nat) (g : Nat) (v : AV) (t : Bool) : Option St := match v with
  | .d (.bool b) => if b = t then dK X rid s0 d r i { s with E := s.E.set g v } fs bef (op.map (aev (s.E.set g v))) (aop X (nameOf rid i) s.H (op.map (aev (s.E.set g v)))) else aopsD X rid s0 r (i + 1) { s with E := putE (s.E.set g v) d (.tup []) } fs
  | .tup [] => aopsD X rid s0 r (i + 1) { s with E := putE s.E d (.tup []) } fs
  | _ => none

@[simp] theorem aopsD_nil (X : Ctx) (rid : Nat) (s0 : St) (i : Nat) (s : St) (fs : List Foot) : aopsD X rid s0 [] i s fs = some s := rfl
@[simp] theorem aopsD_free (X : Ctx) (rid : Nat) (s0 : St) (i : Nat) (d : Option Nat) (op : AOp) (bef : List Nat) (r : List AOper) (s : St) (fs : List Foot) :
    aopsD X rid s0 (⟨d, op, none, bef⟩ :: r) i s fs = dK X rid s0 d r i s fs bef (op.map (aev s.E)) (aop X (nameOf rid i) s.H (op.map (aev s.E))) := by
  simp only [aopsD, wants, dK]
  split <;> simp_all
@[simp] theorem aopsD_guard (X : Ctx) (rid : Nat) (s0 : St) (i : Nat) (d : Option Nat) (op : AOp) (g : Nat) (t : Bool) (bef : List Nat) (r : List AOper) (s : St) (fs : List Foot) :
    aopsD X rid s0 (⟨d, op, some (g, t), bef⟩ :: r) i s fs = dG X rid s0 d op r i s fs bef g (nth s.E g) t := by
  simp only [aopsD, wants, dG]
  generalize hv : nth s.E g = v
  cases v with
  | d x =>
    cases x with
    | bool b =>
      have hs := set_same hv (by simp)
      simp only [hs, dK]
      cases b <;> cases t <;> simp <;> (split <;> simp_all)
    | _ => rfl
  | tup cs => cases cs <;> rfl
  | _ => rfl
def dGt (X : Ctx) (rid : Nat) (s0 : St) (d : Option Nat) (op : AOp) (r : List AOper) (i : Nat) (s : St) (fs : List Foot) (bef : List Nat) (g : Nat) : Bool → Option St
  | true => dK X rid s0 d r i { s with E := s.E.set g (.d (.bool true)) } fs bef (op.map (aev (s.E.set g (.d (.bool true))))) (aop X (nameOf rid i) s.H (op.map (aev (s.E.set g (.d (.bool true))))))
  | false => aopsD X rid s0 r (i + 1) { s with E := putE (s.E.set g (.d (.bool true))) d (.tup []) } fs
def dGf (X : Ctx) (rid : Nat) (s0 : St) (d : Option Nat) (op : AOp) (r : List AOper) (i : Nat) (s : St) (fs : List Foot) (bef : List Nat) (g : Nat) : Bool → Option St
  | true => aopsD X rid s0 r (i + 1) { s with E := putE (s.E.set g (.d (.bool false))) d (.tup []) } fs
  | false => dK X rid s0 d r i { s with E := s.E.set g (.d (.bool false)) } fs bef (op.map (aev (s.E.set g (.d (.bool false))))) (aop X (nameOf rid i) s.H (op.map (aev (s.E.set g (.d (.bool false))))))
@[simp] theorem dGt_t (X : Ctx) (rid : Nat) (s0 : St) (d : Option Nat) (op : AOp) (r : List AOper) (i : Nat) (s : St) (fs : List Foot) (bef : List Nat) (g : Nat) : dGt X rid s0 d op r i s fs bef g true = dK X rid s0 d r i { s with E := s.E.set g (.d (.bool true)) } fs bef (op.map (aev (s.E.set g (.d (.bool true))))) (aop X (nameOf rid i) s.H (op.map (aev (s.E.set g (.d (.bool true)))))) := rfl
@[simp] theorem dGt_f (X : Ctx) (rid : Nat) (s0 : St) (d : Option Nat) (op : AOp) (r : List AOper) (i : Nat) (s : St) (fs : List Foot) (bef : List Nat) (g : Nat) : dGt X rid s0 d op r i s fs bef g false = aopsD X rid s0 r (i + 1) { s with E := putE (s.E.set g (.d (.bool true))) d (.tup []) } fs := rfl
@[simp] theorem dGf_t (X : Ctx) (rid : Nat) (s0 : St) (d : Option Nat) (op : AOp) (r : List AOper) (i : Nat) (s : St) (fs : List Foot) (bef : List Nat) (g : Nat) : dGf X rid s0 d op r i s fs bef g true = aopsD X rid s0 r (i + 1) { s with E := putE (s.E.set g (.d (.bool false))) d (.tup []) } fs := rfl
@[simp] theorem dGf_f (X : Ctx) (rid : Nat) (s0 : St) (d : Option Nat) (op : AOp) (r : List AOper) (i : Nat) (s : St) (fs : List Foot) (bef : List Nat) (g : Nat) : dGf X rid s0 d op r i s fs bef g false = dK X rid s0 d r i { s with E := s.E.set g (.d (.bool false)) } fs bef (op.map (aev (s.E.set g (.d (.bool false))))) (aop X (nameOf rid i) s.H (op.map (aev (s.E.set g (.d (.bool false)))))) := rfl
@[simp] theorem dG_tup (X : Ctx) (rid : Nat) (s0 : St) (d : Option Nat) (op : AOp) (r : List AOper) (i : Nat) (s : St) (fs : List Foot) (bef : List Nat) (g : Nat) (t : Bool) : dG X rid s0 d op r i s fs bef g (.tup []) t = aopsD X rid s0 r (i + 1) { s with E := putE s.E d (.tup []) } fs := rfl
@[simp] theorem dG_bool (X : Ctx) (rid : Nat) (s0 : St) (d : Option Nat) (op : AOp) (r : List AOper) (i : Nat) (s : St) (fs : List Foot) (bef : List Nat) (g : Nat) (b t : Bool) : dG X rid s0 d op r i s fs bef g (.d (.bool b)) t = if b = true then dGt X rid s0 d op r i s fs bef g t else dGf X rid s0 d op r i s fs bef g t := by cases b <;> cases t <;> rfl
@[simp] theorem dK_some (X : Ctx) (rid : Nat) (s0 : St) (d : Option Nat) (r : List AOper) (i : Nat) (s : St) (fs : List Foot) (bef : List Nat) (op : AOpOf AV) (v : AV) (u : Upd) (nw : List Nat) :
    dK X rid s0 d r i s fs bef op (some (v, u, nw)) = if (freshU s0.E s0.H nw && freshU s.E s.H nw && clears bef (footOf i op v u nw) fs) = true then
      aopsD X rid s0 r (i + 1) { E := putE s.E d v, H := applyU s.H u } (footOf i op v u nw :: fs) else none := rfl
attribute [simp] footOf clears disj rd
@[simp] theorem ite_pos_pos {α : Type} (c : Prop) [Decidable c] (a b d : α) : (if c then (if c then a else b) else d) = if c then a else d := by split <;> rfl
@[simp] theorem ite_neg_neg {α : Type} (c : Prop) [Decidable c] (a b d : α) : (if c then a else (if c then b else d)) = if c then a else d := by split <;> rfl

/-! ### operators -/
@[simp] theorem abin_int {op : BinOp} (k : IntKind) (a b : Int) (h1 : op ≠ .shl) (h2 : op ≠ .shr) : abin op (.d (.int k a)) (.d (.int k b)) = intBin op k a b := by
  unfold abin; cases op <;> simp_all
@[simp] theorem abin_str {op : BinOp} (a b : List UInt8) : abin op (.d (.str a)) (.d (.str b)) = strBin op a b := rfl
@[simp] theorem intBin_eql (k : IntKind) (a b : Int) : intBin .eql k a b = some (.d (.bool (decide (a = b)))) := rfl
@[simp] theorem intBin_neq (k : IntKind) (a b : Int) : intBin .neq k a b = some (.d (.bool (!decide (a = b)))) := rfl
@[simp] theorem intBin_lss (k : IntKind) (a b : Int) : intBin .lss k a b = some (.d (.bool (decide (a < b)))) := rfl
@[simp] theorem intBin_leq (k : IntKind) (a b : Int) : intBin .leq k a b = some (.d (.bool (decide (a ≤ b)))) := rfl
@[simp] theorem intBin_gtr (k : IntKind) (a b : Int) : intBin .gtr k a b = some (.d (.bool (decide (b < a)))) := rfl
@[simp] theorem intBin_geq (k : IntKind) (a b : Int) : intBin .geq k a b = some (.d (.bool (decide (b ≤ a)))) := rfl
@[simp] theorem intBin_add (k : IntKind) (a b : Int) : intBin .add k a b = some (.d (.int k (k.wrap (a + b)))) := rfl
@[simp] theorem intBin_sub (k : IntKind) (a b : Int) : intBin .sub k a b = some (.d (.int k (k.wrap (a - b)))) := rfl
@[simp] theorem intBin_mul (k : IntKind) (a b : Int) : intBin .mul k a b = some (.d (.int k (k.wrap (a * b)))) := rfl
def orK (k : IntKind) (a b : Int) : Int := k.wrap (BitVec.ofInt k.bits a ||| BitVec.ofInt k.bits b).toNat
def andK (k : IntKind) (a b : Int) : Int := k.wrap (BitVec.ofInt k.bits a &&& BitVec.ofInt k.bits b).toNat
@[simp] theorem intBin_or (k : IntKind) (a b : Int) : intBin .or k a b = some (.d (.int k (orK k a b))) := rfl
@[simp] theorem intBin_and (k : IntKind) (a b : Int) : intBin .and k a b = some (.d (.int k (andK k a b))) := rfl
@[simp] theorem strBin_lss (a b : List UInt8) : strBin .lss a b = some (.d (.bool (Go.Op.bytesLess a b))) := rfl
@[simp] theorem strBin_leq (a b : List UInt8) : strBin .leq a b = some (.d (.bool (Go.Op.bytesLess a b || a == b))) := rfl
@[simp] theorem strBin_gtr (a b : List UInt8) : strBin .gtr a b = some (.d (.bool (!(Go.Op.bytesLess a b || a == b)))) := rfl
@[simp] theorem strBin_geq (a b : List UInt8) : strBin .geq a b = some (.d (.bool (!(Go.Op.bytesLess a b)))) := rfl
@[simp] theorem strBin_eql (a b : List UInt8) : strBin .eql a b = some (.d (.bool (decide (a = b)))) := by
  have : (a == b) = decide (a = b) := by rw [Bool.eq_iff_iff]; simp
  simp only [strBin, boolV, this]
@[simp] theorem strBin_neq (a b : List UInt8) : strBin .neq a b = some (.d (.bool (!decide (a = b)))) := by
  have : (a == b) = decide (a = b) := by rw [Bool.eq_iff_iff]; simp
  simp only [strBin, boolV, this]
@[simp] theorem abinb_f (a b : Bool) : abinb false (.d (.bool a)) (.d (.bool b)) = some (.d (.bool (decide (a = b)))) := by
  simp only [abinb, boolV]; cases a <;> cases b <;> rfl
@[simp] theorem abinb_t (a b : Bool) : abinb true (.d (.bool a)) (.d (.bool b)) = some (.d (.bool (!decide (a = b)))) := by
  simp only [abinb, boolV]; cases a <;> cases b <;> rfl

@[simp] theorem XL_own (own retOwn : Nat → Bool) (ext : Callee) (code : Nat → Option AFunc) : (XL own retOwn ext code).own = own := rfl
@[simp] theorem XL_retOwn (own retOwn : Nat → Bool) (ext : Callee) (code : Nat → Option AFunc) : (XL own retOwn ext code).retOwn = retOwn := rfl

theorem reach_nil' (H : Heap) (k : Nat) (seen : List Nat) : reach H k [] seen = seen := by cases k <;> rfl

/-! ### slots, few of them -/
def look : List (Nat × AV) → Nat → AV
  | [], _ => .undef
  | (k, v) :: r, i => if i = k then v else look r i

def mkE (n : Nat) (l : List (Nat × AV)) : List AV := (List.range n).map (look l)

def insE : List (Nat × AV) → Nat → AV → List (Nat × AV)
  | [], d, v => [(d, v)]
  | (k, x) :: r, d, v => if d < k then (d, v) :: (k, x) :: r else if d = k then (d, v) :: r else (k, x) :: insE r d v

def keepL (ks : List Nat) : List (Nat × AV) → List (Nat × AV)
  | [] => []
  | (k, v) :: r => if ks.contains k then (k, v) :: keepL ks r else keepL ks r

def numE : List AV → Nat → List (Nat × AV)
  | [], _ => []
  | v :: r, i => (i, v) :: numE r (i + 1)

def valsL : List (Nat × AV) → List AV
  | [] => []
  | (_, v) :: r => v :: valsL r

/-- keys rise, from a to below n -/
def okL (n : Nat) : Nat → List (Nat × AV) → Bool
  | _, [] => true
  | a, (k, _) :: r => decide (a ≤ k) && decide (k < n) && okL n (k + 1) r

def renM (g : Nat → Nat) : List (Nat × AV) → List (Nat × AV)
  | [] => []
  | (k, v) :: r => (k, ren g v) :: renM g r

theorem look_ins : ∀ (l : List (Nat × AV)) (d : Nat) (v : AV) (i : Nat), look (insE l d v) i = if i = d then v else look l i
  | [], d, v, i => rfl
  | (k, x) :: r, d, v, i => by
    simp only [insE]
    split
    · rfl
    · split
      · rename_i h; subst h
        simp only [look]; split <;> rfl
      · rename_i h1 h2
        simp only [look, look_ins r d v i]
        by_cases e : i = k
        · subst e
          have h3 : ¬ i = d := fun h => h2 h.symm
          simp [h3]
        · simp [e]

theorem mkE_len (n : Nat) (l : List (Nat × AV)) : (mkE n l).length = n := by simp [mkE]

@[simp] theorem nth_mkE (n : Nat) (l : List (Nat × AV)) (i : Nat) : nth (mkE n l) i = if i < n then look l i else .undef := by
  rw [nth_eq, mkE, List.getElem?_map]
  by_cases h : i < n
  · rw [List.getElem?_range h, if_pos h]; rfl
  · rw [List.getElem?_eq_none (by simpa using h), if_neg h]; rfl

@[simp] theorem set_mkE (n : Nat) (l : List (Nat × AV)) (d : Nat) (v : AV) : (mkE n l).set d v = mkE n (insE l d v) := by
  apply List.ext_getElem?
  intro i
  rw [List.getElem?_set]
  by_cases hi : i < n
  · simp only [mkE, List.getElem?_map, List.getElem?_range hi, Option.map_some, look_ins, List.length_map, List.length_range]
    by_cases e : d = i
    · subst e; simp [hi]
    · have e' : ¬ i = d := fun h => e h.symm
      simp [e, e']
  · have e1 : (mkE n (insE l d v))[i]? = none := List.getElem?_eq_none (by rw [mkE_len]; omega)
    have e2 : (mkE n l)[i]? = none := List.getElem?_eq_none (by rw [mkE_len]; omega)
    rw [e1, e2, mkE_len]
    split
    · rename_i e; subst e; simp [hi]
    · rfl

theorem look_keep (ks : List Nat) : ∀ (l : List (Nat × AV)) (i : Nat), look (keepL ks l) i = if ks.contains i then look l i else .undef
  | [], i => by simp [keepL, look]
  | (k, v) :: r, i => by
    simp only [keepL]
    split
    · rename_i h
      simp only [look, look_keep ks r i]
      by_cases e : i = k
      · subst e; rw [if_pos rfl, if_pos h, if_pos rfl]
      · rw [if_neg e, if_neg e]
    · rename_i h
      simp only [look, look_keep ks r i]
      by_cases e : i = k
      · subst e; rw [if_neg h, if_neg h]
      · rw [if_neg e]

theorem maskE_get (ks : List Nat) : ∀ (E : List AV) (a i : Nat), (maskE ks E a)[i]? = (E[i]?).map fun v => if ks.contains (a + i) then v else .undef
  | [], _, _ => by simp [maskE]
  | v :: r, a, 0 => by simp [maskE]
  | v :: r, a, i + 1 => by
    simp only [maskE, List.getElem?_cons_succ, maskE_get ks r (a + 1) i]
    rw [show a + 1 + i = a + (i + 1) by omega]

@[simp] theorem maskE_mkE (ks : List Nat) (n : Nat) (l : List (Nat × AV)) : maskE ks (mkE n l) 0 = mkE n (keepL ks l) := by
  apply List.ext_getElem?
  intro i
  rw [maskE_get]
  by_cases hi : i < n
  · simp [mkE, hi, look_keep]
  · rw [List.getElem?_eq_none (by rw [mkE_len]; omega), List.getElem?_eq_none (by rw [mkE_len]; omega)]; rfl

theorem look_num : ∀ (vs : List AV) (a i : Nat), look (numE vs a) (a + i) = (vs[i]?).getD .undef
  | [], a, i => by simp [numE, look]
  | v :: r, a, 0 => by simp [numE, look]
  | v :: r, a, i + 1 => by
    have := look_num r (a + 1) i
    simp only [numE, look, List.getElem?_cons_succ]
    rw [if_neg (by omega), ← this]
    congr 1; omega

theorem start_mkE {n : Nat} {args : List AV} (H : Heap) (h : args.length ≤ n) : start n args H = ⟨mkE n (numE args 0), H⟩ := by
  unfold start
  congr 1
  apply List.ext_getElem?
  intro i
  by_cases hi : i < n
  · have := look_num args 0 i
    rw [Nat.zero_add] at this
    simp only [mkE, List.getElem?_map, List.getElem?_range hi, Option.map_some, this]
    by_cases h2 : i < args.length
    · rw [List.getElem?_append_left h2, List.getElem?_eq_getElem h2]; rfl
    · rw [List.getElem?_append_right (by omega), List.getElem?_replicate, if_pos (by omega), List.getElem?_eq_none (by omega)]; rfl
  · rw [List.getElem?_eq_none (by simp; omega), List.getElem?_eq_none (by rw [mkE_len]; omega)]

theorem look_low {n a : Nat} : ∀ {l : List (Nat × AV)}, okL n a l = true → ∀ i, i < a → look l i = .undef
  | [], _, _, _ => rfl
  | (k, v) :: r, h, i, hi => by
    simp only [okL, Bool.and_eq_true, decide_eq_true_eq] at h
    simp only [look]
    rw [if_neg (by omega)]
    exact look_low h.2 i (by omega)

theorem refsL_undef : ∀ (l : List Nat) (f : Nat → AV), (∀ i ∈ l, f i = .undef) → refsL (l.map f) = []
  | [], _, _ => rfl
  | a :: r, f, h => by simp only [List.map_cons, refsL, h a (by simp), refs, List.nil_append]; exact refsL_undef r f fun i hi => h i (by simp [hi])

theorem refsL_app (a b : List AV) : refsL (a ++ b) = refsL a ++ refsL b := by
  induction a with
  | nil => rfl
  | cons x r ih => simp [refsL, ih]

theorem refsL_mkE' : ∀ (l : List (Nat × AV)) (a n : Nat), okL n a l = true → a ≤ n → refsL ((List.range' a (n - a)).map (look l)) = refsL (valsL l)
  | [], a, n, _, _ => refsL_undef _ _ fun _ _ => rfl
  | (k, v) :: r, a, n, h, ha => by
    simp only [okL, Bool.and_eq_true, decide_eq_true_eq] at h
    obtain ⟨⟨h1, h2⟩, h3⟩ := h
    have e1 : List.range' a (n - a) = List.range' a (k - a) ++ List.range' k (n - k) := by
      have : n - a = (k - a) + (n - k) := by omega
      rw [this, ← List.range'_append_1]
      congr 2; omega
    have e2 : List.range' k (n - k) = k :: List.range' (k + 1) (n - (k + 1)) := by
      have : n - k = (n - (k + 1)) + 1 := by omega
      rw [this, List.range'_succ]
    rw [e1, List.map_append, refsL_app, e2, refsL_undef (List.range' a (k - a)) _ (fun i hi => ?_), List.map_cons]
    · have e3 : (List.range' (k + 1) (n - (k + 1))).map (look ((k, v) :: r)) = (List.range' (k + 1) (n - (k + 1))).map (look r) := by
        apply List.map_congr_left
        intro i hi
        have := (List.mem_range'_1.1 hi).1
        simp only [look]; rw [if_neg (by omega)]
      rw [e3]
      simp only [refsL, valsL, refsL_mkE' r (k + 1) n h3 (by omega), List.nil_append]
      simp [look]
    · have := List.mem_range'_1.1 hi
      simp only [look]
      rw [if_neg (by omega)]
      exact look_low h3 i (by omega)

theorem refsL_mkE {n : Nat} {l : List (Nat × AV)} (h : okL n 0 l = true) : refsL (mkE n l) = refsL (valsL l) := by
  have := refsL_mkE' l 0 n h (Nat.zero_le _)
  rwa [Nat.sub_zero, ← List.range_eq_range'] at this

@[simp] theorem renL_mkE (g : Nat → Nat) (n : Nat) (l : List (Nat × AV)) : renL g (mkE n l) = mkE n (renM g l) := by
  apply List.ext_getElem?
  intro i
  rw [renL_get]
  have hl : ∀ (l : List (Nat × AV)) (i : Nat), look (renM g l) i = ren g (look l i) := by
    intro l
    induction l with
    | nil => intro i; simp [renM, look, ren]
    | cons x r ih => obtain ⟨k, v⟩ := x; intro i; simp only [renM, look, ih]; split <;> rfl
  by_cases hi : i < n
  · simp [mkE, hi, hl]
  · rw [List.getElem?_eq_none (by rw [mkE_len]; omega), List.getElem?_eq_none (by rw [mkE_len]; omega)]; rfl

@[simp] theorem ite_mkE (c : Prop) [Decidable c] (n : Nat) (l l' : List (Nat × AV)) : (if c then mkE n l else mkE n l') = mkE n (if c then l else l') := by split <;> rfl
@[simp] theorem ite_slot (c : Prop) [Decidable c] (k : Nat) (a b : AV) : (if c then (k, a) else (k, b)) = (k, if c then a else b) := by split <;> rfl
@[simp] theorem ite_os (c : Prop) [Decidable c] (l n n' o o' m m' : Nat) : (if c then AV.os l n o m else AV.os l n' o' m') = AV.os l (if c then n else n') (if c then o else o') (if c then m else m') := by split <;> rfl
@[simp] theorem ite_arr (c : Prop) [Decidable c] (z : Nat) (a b : List (List D)) : (if c then AObj.arr z a else AObj.arr z b) = AObj.arr z (if c then a else b) := by split <;> rfl
@[simp] theorem ite_var (c : Prop) [Decidable c] (a b : List AV) : (if c then AObj.var a else AObj.var b) = AObj.var (if c then a else b) := by split <;> rfl
@[simp] theorem ite_name (c : Prop) [Decidable c] (k : Nat) (a b : AObj) : (if c then (k, a) else (k, b)) = (k, if c then a else b) := by split <;> rfl
@[simp] theorem ite_vsf (c : Prop) [Decidable c] (t : Bool) (x y : List (List D)) : (if c then D.vs t x else D.vs t y) = D.vs t (if c then x else y) := by split <;> rfl

def gcM (l : List (Nat × AV)) (H : Heap) : Heap :=
  let L := reach H RF ((H.map (·.1)).filter (fun l => decide (l < 10000)) ++ refsL (valsL l)) []
  H.filter fun x => L.contains x.1

theorem gcH_nil (E : List AV) : gcH E [] = [] := rfl
theorem gcH_mkE {n : Nat} {l : List (Nat × AV)} (h : okL n 0 l = true) (H : Heap) : gcH (mkE n l) H = gcM l H := by
  unfold gcH gcM
  rw [refsL_mkE h]
@[simp] theorem gcM_nil (l : List (Nat × AV)) : gcM l [] = [] := rfl

theorem trim_mkE {m : Mask} {n : Nat} {l : List (Nat × AV)} (H : Heap) (h : okL n 0 (keepL m.keep l) = true) :
    trim m ⟨mkE n l, H⟩ = sortS (gcP m.pro (proms m.pro ⟨mkE n (keepL m.keep l), gcM (keepL m.keep l) H⟩)) := by
  unfold trim trim1
  simp only [maskE_mkE, gcH_mkE h]

theorem noRef_mkE {x n : Nat} {l : List (Nat × AV)} (H : Heap) (h : okL n 0 l = true) : noRef x (mkE n l) H = (!(refsL (valsL l)).contains x && H.all fun (m, o) => m == x || !(refsO o).contains x) := by
  unfold noRef
  rw [refsL_mkE h]

/-! ### calls -/
/-- the end of a call -/
def callE (nm : Nat) (lent : Upd) (L : List Nat) (rv : AV) (Ho : Heap) : Option (AV × Upd × List Nat) :=
  if L.isEmpty && Ho.isEmpty && noViews rv then some (rv, [], [])
  else
    let back : Nat → Nat := fun j => if j < L.length then L.getD j 0 else nm + (j - L.length)
    if backOK L.length rv Ho && nodupB L && L.all fun l => decide (l < nm) || decide (nm + 10 ≤ l) then
      some (ren back rv, lent ++ Ho.map fun x => (back x.1, renO back x.2), (Ho.filter fun x => decide (L.length ≤ x.1)).map fun x => back x.1)
    else none

/-- what is handed over, and what comes of it -/
def callG (C : Callee) (nm : Nat) (H1 : Heap) (lent : Upd) (f : Nat) (as : List AV) (L : List Nat) : Option Heap → Option (AV × Upd × List Nat)
  | none => none
  | some Hin => match C f (renL (fun l => L.idxOf l) as) Hin with
    | none => none
    | some (rv, Ho) => callE nm lent L rv Ho

def callV (C : Callee) (nm : Nat) (H : Heap) (lent : Upd) (f : Nat) : Option (List AV) → Option (AV × Upd × List Nat)
  | none => none
  | some as => callG C nm (applyU H lent) lent f as (reach (applyU H lent) RF (refsL as) []) (pack (applyU H lent) (fun l => (reach (applyU H lent) RF (refsL as) []).idxOf l) 0 (reach (applyU H lent) RF (refsL as) []))

def callB (b : Bool) (C : Callee) (nm : Nat) (H : Heap) (f : Nat) (args : List AV) : Option (AV × Upd × List Nat) :=
  match b with
  | true => callV C nm H [] f (some args)
  | false => callV C nm H (frz H (args.flatMap arrsOf)) f (vws H args)

@[simp] theorem acall_eq (X : Ctx) (nm : Nat) (H : Heap) (f : Nat) (args : List AV) : acall X nm H f args = callB (X.own f) X.C nm H f args := by
  unfold acall callB callV callG callE
  cases X.own f <;> rfl
@[simp] theorem callB_t (C : Callee) (nm : Nat) (H : Heap) (f : Nat) (args : List AV) : callB true C nm H f args = callV C nm H [] f (some args) := rfl
@[simp] theorem callB_f (C : Callee) (nm : Nat) (H : Heap) (f : Nat) (args : List AV) : callB false C nm H f args = callV C nm H (frz H (args.flatMap arrsOf)) f (vws H args) := rfl
@[simp] theorem callV_none (C : Callee) (nm : Nat) (H : Heap) (lent : Upd) (f : Nat) : callV C nm H lent f none = none := rfl

mutual
theorem ren_none (g : Nat → Nat) : ∀ v : AV, refs v = [] → ren g v = v
  | .undef, _ => rfl
  | .d _, _ => rfl
  | .os .., h => by simp [refs] at h
  | .pv .., h => by simp [refs] at h
  | .pa .., h => by simp [refs] at h
  | .vp .., _ => rfl
  | .anyb, _ => rfl
  | .ow _, _ => rfl
  | .map _, h => by simp [refs] at h
  | .fn f cs, h => by simp only [ren, renL_none g cs h]
  | .agg cs, h => by simp only [ren, renL_none g cs h]
  | .tup cs, h => by simp only [ren, renL_none g cs h]
theorem renL_none (g : Nat → Nat) : ∀ cs : List AV, refsL cs = [] → renL g cs = cs
  | [], _ => rfl
  | v :: r, h => by
    simp only [refsL, List.append_eq_nil_iff] at h
    simp only [renL, ren_none g v h.1, renL_none g r h.2]
end

def callR (nm : Nat) (lent : Upd) : Option (AV × Heap) → Option (AV × Upd × List Nat)
  | none => none
  | some (rv, Ho) => callE nm lent [] rv Ho

@[simp] theorem callR_some (nm : Nat) (lent : Upd) (rv : AV) (Ho : Heap) : callR nm lent (some (rv, Ho)) = callE nm lent [] rv Ho := rfl

def callW (l : List Nat) (C : Callee) (nm : Nat) (H : Heap) (lent : Upd) (f : Nat) (as : List AV) : Option (AV × Upd × List Nat) := match l with
  | [] => callR nm lent (C f as [])
  | l :: r => callG C nm (applyU H lent) lent f as (reach (applyU H lent) RF (l :: r) []) (pack (applyU H lent) (fun k => (reach (applyU H lent) RF (l :: r) []).idxOf k) 0 (reach (applyU H lent) RF (l :: r) []))

/-- with data alone -/
@[simp] theorem callV_some (C : Callee) (nm : Nat) (H : Heap) (lent : Upd) (f : Nat) (as : List AV) : callV C nm H lent f (some as) = callW (refsL as) C nm H lent f as := by
  cases h : refsL as with
  | nil => simp only [callV, h, reach_nil', pack, callG, renL_none _ as h, callR, callW]
  | cons l r => simp only [callV, callW, h]
@[simp] theorem callW_nil (C : Callee) (nm : Nat) (H : Heap) (lent : Upd) (f : Nat) (as : List AV) : callW [] C nm H lent f as = callR nm lent (C f as []) := rfl
@[simp] theorem callW_cons (l : Nat) (r : List Nat) (C : Callee) (nm : Nat) (H : Heap) (lent : Upd) (f : Nat) (as : List AV) : callW (l :: r) C nm H lent f as =
  callG C nm (applyU H lent) lent f as (reach (applyU H lent) RF (l :: r) []) (pack (applyU H lent) (fun k => (reach (applyU H lent) RF (l :: r) []).idxOf k) 0 (reach (applyU H lent) RF (l :: r) [])) := rfl
def callK (nm : Nat) (lent : Upd) (L : List Nat) : Option (AV × Heap) → Option (AV × Upd × List Nat)
  | none => none
  | some (rv, Ho) => callE nm lent L rv Ho
@[simp] theorem callG_some (C : Callee) (nm : Nat) (H1 : Heap) (lent : Upd) (f : Nat) (as : List AV) (L : List Nat) (Hin : Heap) :
    callG C nm H1 lent f as L (some Hin) = callK nm lent L (C f (renL (fun l => L.idxOf l) as) Hin) := by
  unfold callG callK; rfl
@[simp] theorem callK_some (nm : Nat) (lent : Upd) (L : List Nat) (rv : AV) (Ho : Heap) : callK nm lent L (some (rv, Ho)) = callE nm lent L rv Ho := rfl

/-- the end of a call, where there are names -/
def callN (nm : Nat) (lent : Upd) (L : List Nat) (rv : AV) (Ho : Heap) : Option (AV × Upd × List Nat) :=
    let back : Nat → Nat := fun j => if j < L.length then L.getD j 0 else nm + (j - L.length)
    if backOK L.length rv Ho && nodupB L && L.all fun l => decide (l < nm) || decide (nm + 10 ≤ l) then
      some (ren back rv, lent ++ Ho.map fun x => (back x.1, renO back x.2), (Ho.filter fun x => decide (L.length ≤ x.1)).map fun x => back x.1)
    else none

theorem noViews_refs {rv : AV} (h : noViews rv = true) : refs rv = [] := by
  have cells : ∀ cs : List AV, (∀ x ∈ cs, ∃ d, x = .d d) → refsL cs = [] := by
    intro cs
    induction cs with
    | nil => intro _; rfl
    | cons a r ih =>
      intro hc
      obtain ⟨d, rfl⟩ := hc a (by simp)
      simp only [refsL, refs, List.nil_append]
      exact ih fun x hx => hc x (by simp [hx])
  cases rv with
  | d x => rfl
  | agg cs =>
    simp only [refs]
    refine cells cs fun x hx => ?_
    obtain ⟨i, hi⟩ := List.getElem?_of_mem hx
    obtain ⟨d, hd, _⟩ := noViews_agg h i x hi
    exact ⟨d, hd⟩
  | tup cs =>
    simp only [refs]
    refine cells cs fun x hx => ?_
    obtain ⟨i, hi⟩ := List.getElem?_of_mem hx
    obtain ⟨d, hd, _⟩ := noViews_tup h i x hi
    exact ⟨d, hd⟩
  | _ => simp [noViews] at h

def refK {α : Type} : List Nat → α → α → α
  | [], a, _ => a
  | _ :: _, _, b => b
@[simp] theorem refK_nil {α : Type} (a b : α) : refK [] a b = a := rfl
@[simp] theorem refK_cons {α : Type} (l : Nat) (r : List Nat) (a b : α) : refK (l :: r) a b = b := rfl

@[simp] theorem callE_names (nm : Nat) (lent : Upd) (l : Nat) (L : List Nat) (rv : AV) (Ho : Heap) : callE nm lent (l :: L) rv Ho = callN nm lent (l :: L) rv Ho := rfl
@[simp] theorem callE_made (nm : Nat) (lent : Upd) (rv : AV) (h : Nat × AObj) (Ho : Heap) : callE nm lent [] rv (h :: Ho) = callN nm lent [] rv (h :: Ho) := rfl
@[simp] theorem callE_data (nm : Nat) (rv : AV) : callE nm [] [] rv [] = refK (refs rv) (some (rv, [], [])) none := by
  cases h : refs rv with
  | cons l r =>
    unfold callE
    have hv : noViews rv = false := by
      cases hv : noViews rv with
      | false => rfl
      | true => exact absurd h (by rw [noViews_refs hv]; simp)
    simp [hv, backOK, h, hget, refK]
  | nil =>
    unfold callE
    simp only [refK]
    split
    · rfl
    · simp [backOK, h, nodupB, ren_none _ rv h]
@[simp] theorem callE_lent (nm : Nat) (x : Nat × AObj) (lent : Upd) (rv : AV) : callE nm (x :: lent) [] rv [] = bif noViews rv then some (rv, [], []) else refK (refs rv) (some (rv, x :: lent, [])) none := by
  cases hv : noViews rv with
  | true => unfold callE; simp [hv]
  | false =>
    unfold callE
    cases h : refs rv with
    | nil => simp [hv, backOK, h, nodupB, ren_none _ rv h]
    | cons l r => simp [hv, backOK, h, hget, refK]

@[simp] theorem noViews_int (k : IntKind) (n : Int) : noViews (.d (.int k n)) = true := rfl
@[simp] theorem noViews_bool (b : Bool) : noViews (.d (.bool b)) = true := rfl
@[simp] theorem noViews_str (s : List UInt8) : noViews (.d (.str s)) = true := rfl
@[simp] theorem noViews_nilp : noViews (.d .nilp) = true := rfl
@[simp] theorem noViews_nili : noViews (.d .nili) = true := rfl
@[simp] theorem noViews_cons (t : Bool) (c : List D) (r : List (List D)) : noViews (.d (.vs t (c :: r))) = false := rfl
@[simp] theorem noViews_pv (l j : Nat) : noViews (.pv l j) = false := rfl
def plainC : AV → Bool
  | .d (.int ..) | .d (.bool ..) | .d (.str ..) | .d .nili | .d (.vs _ []) => true | .d (.ifc _ (.int ..)) => true | _ => false
@[simp] theorem noViewsT (cs : List AV) : noViews (.tup cs) = cs.all plainC := rfl
@[simp] theorem noViewsA (cs : List AV) : noViews (.agg cs) = cs.all plainC := rfl
@[simp] theorem plainC_int (k : IntKind) (n : Int) : plainC (.d (.int k n)) = true := rfl
@[simp] theorem plainC_bool (b : Bool) : plainC (.d (.bool b)) = true := rfl
@[simp] theorem plainC_str (s : List UInt8) : plainC (.d (.str s)) = true := rfl
@[simp] theorem plainC_nili : plainC (.d .nili) = true := rfl
@[simp] theorem plainC_agg (cs : List AV) : plainC (.agg cs) = false := rfl
@[simp] theorem plainC_cons (t : Bool) (c : List D) (r : List (List D)) : plainC (.d (.vs t (c :: r))) = false := rfl

@[simp] theorem reach_nil (H : Heap) (k : Nat) (seen : List Nat) : reach H k [] seen = seen := by cases k <;> rfl
theorem RF_eq : RF = 64 := rfl

@[simp] theorem aopen_d (dp : Bool) (nm : Nat) (H : Heap) (p : AV) (x : D) : aopen dp nm H p (.d x) = some (.d x, [], []) := rfl
@[simp] theorem isRefA_d (x : D) : isRefA (.d x) = false := rfl
@[simp] theorem isO_d (H : Heap) (x : D) : isO H (.d x) = false := rfl
@[simp] theorem fold1_d (H : Heap) (x : D) : fold1 H (.d x) = none := rfl
@[simp] theorem aopen_os (dp : Bool) (nm : Nat) (H : Heap) (p : AV) (l n o k : Nat) : aopen dp nm H p (.os l n o k) = some (.os l n o k, [], []) := rfl
@[simp] theorem isRefA_os (l n o k : Nat) : isRefA (.os l n o k) = false := rfl
@[simp] theorem toO_os (l n o k : Nat) : toO (.os l n o k) = none := rfl
@[simp] theorem aopen_pv (dp : Bool) (nm : Nat) (H : Heap) (p : AV) (l j : Nat) : aopen dp nm H p (.pv l j) = some (.pv l j, [], []) := rfl
@[simp] theorem isO_pv (H : Heap) (l j : Nat) : isO H (.pv l j) = false := rfl
@[simp] theorem toO_pv (l j : Nat) : toO (.pv l j) = none := rfl
@[simp] theorem aopen_pa (dp : Bool) (nm : Nat) (H : Heap) (p : AV) (l n i j : Nat) : aopen dp nm H p (.pa l n i j) = some (.pa l n i j, [], []) := rfl
@[simp] theorem isRefA_pa (l n i j : Nat) : isRefA (.pa l n i j) = false := rfl
@[simp] theorem isO_pa (H : Heap) (l n i j : Nat) : isO H (.pa l n i j) = false := rfl
@[simp] theorem fold1_pa (H : Heap) (l n i j : Nat) : fold1 H (.pa l n i j) = none := rfl
@[simp] theorem toO_pa (l n i j : Nat) : toO (.pa l n i j) = none := rfl
@[simp] theorem aopen_vp (dp : Bool) (nm : Nat) (H : Heap) (p : AV) (c : List D) (j : Nat) : aopen dp nm H p (.vp c j) = some (.vp c j, [], []) := rfl
@[simp] theorem isRefA_vp (c : List D) (j : Nat) : isRefA (.vp c j) = false := rfl
@[simp] theorem isO_vp (H : Heap) (c : List D) (j : Nat) : isO H (.vp c j) = false := rfl
@[simp] theorem fold1_vp (H : Heap) (c : List D) (j : Nat) : fold1 H (.vp c j) = none := rfl
@[simp] theorem toO_vp (c : List D) (j : Nat) : toO (.vp c j) = none := rfl
@[simp] theorem aopen_map (dp : Bool) (nm : Nat) (H : Heap) (p : AV) (l : Nat) : aopen dp nm H p (.map l) = some (.map l, [], []) := rfl
@[simp] theorem isRefA_map (l : Nat) : isRefA (.map l) = false := rfl
@[simp] theorem isO_map (H : Heap) (l : Nat) : isO H (.map l) = false := rfl
@[simp] theorem fold1_map (H : Heap) (l : Nat) : fold1 H (.map l) = none := rfl
@[simp] theorem toO_map (l : Nat) : toO (.map l) = none := rfl
@[simp] theorem aopen_fn (dp : Bool) (nm : Nat) (H : Heap) (p : AV) (f : Nat) (cs : List AV) : aopen dp nm H p (.fn f cs) = some (.fn f cs, [], []) := rfl
@[simp] theorem isRefA_fn (f : Nat) (cs : List AV) : isRefA (.fn f cs) = false := rfl
@[simp] theorem isO_fn (H : Heap) (f : Nat) (cs : List AV) : isO H (.fn f cs) = false := rfl
@[simp] theorem fold1_fn (H : Heap) (f : Nat) (cs : List AV) : fold1 H (.fn f cs) = none := rfl
@[simp] theorem toO_fn (f : Nat) (cs : List AV) : toO (.fn f cs) = none := rfl
@[simp] theorem aopen_agg (dp : Bool) (nm : Nat) (H : Heap) (p : AV) (cs : List AV) : aopen dp nm H p (.agg cs) = some (.agg cs, [], []) := rfl
@[simp] theorem isRefA_agg (cs : List AV) : isRefA (.agg cs) = false := rfl
@[simp] theorem isO_agg (H : Heap) (cs : List AV) : isO H (.agg cs) = false := rfl
@[simp] theorem fold1_agg (H : Heap) (cs : List AV) : fold1 H (.agg cs) = none := rfl
@[simp] theorem toO_agg (cs : List AV) : toO (.agg cs) = none := rfl
@[simp] theorem aopen_tup (dp : Bool) (nm : Nat) (H : Heap) (p : AV) (cs : List AV) : aopen dp nm H p (.tup cs) = some (.tup cs, [], []) := rfl
@[simp] theorem isRefA_tup (cs : List AV) : isRefA (.tup cs) = false := rfl
@[simp] theorem isO_tup (H : Heap) (cs : List AV) : isO H (.tup cs) = false := rfl
@[simp] theorem fold1_tup (H : Heap) (cs : List AV) : fold1 H (.tup cs) = none := rfl
@[simp] theorem toO_tup (cs : List AV) : toO (.tup cs) = none := rfl
@[simp] theorem aopen_undef (dp : Bool) (nm : Nat) (H : Heap) (p : AV)  : aopen dp nm H p (.undef ) = some (.undef , [], []) := rfl
@[simp] theorem isRefA_undef  : isRefA (.undef ) = false := rfl
@[simp] theorem isO_undef (H : Heap)  : isO H (.undef ) = false := rfl
@[simp] theorem fold1_undef (H : Heap)  : fold1 H (.undef ) = none := rfl
@[simp] theorem toO_undef  : toO (.undef ) = none := rfl
@[simp] theorem aopen_anyb (dp : Bool) (nm : Nat) (H : Heap) (p : AV)  : aopen dp nm H p (.anyb ) = some (.anyb , [], []) := rfl
@[simp] theorem isRefA_anyb  : isRefA (.anyb ) = false := rfl
@[simp] theorem isO_anyb (H : Heap)  : isO H (.anyb ) = false := rfl
@[simp] theorem fold1_anyb (H : Heap)  : fold1 H (.anyb ) = none := rfl
@[simp] theorem toO_anyb  : toO (.anyb ) = none := rfl
@[simp] theorem isRefA_ow (t : O) : isRefA (.ow t) = false := rfl
@[simp] theorem isRefA_pv (l j : Nat) : isRefA (.pv l j) = true := rfl
@[simp] theorem isO_ow (H : Heap) (t : O) : isO H (.ow t) = false := rfl
@[simp] theorem isO_os (H : Heap) (l n o k : Nat) : isO H (.os l n o k) = (match hget H l with | some (.oar _ _) => true | _ => false) := rfl
@[simp] theorem fold1_ow (H : Heap) (t : O) : fold1 H (.ow t) = none := rfl
@[simp] theorem toO_d (x : D) : toO (.d x) = some (.d x) := rfl
@[simp] theorem toO_ow (t : O) : toO (.ow t) = some t := rfl
@[simp] theorem ofO_d (x : D) : ofO (.d x) = .d x := rfl
@[simp] theorem ofO_own (cs : List O) : ofO (.own cs) = .ow (.own cs) := rfl
@[simp] theorem ofO_osl (sz len : Nat) (es : List (List O)) : ofO (.osl sz len es) = .ow (.osl sz len es) := rfl
@[simp] theorem finsOf_nil : finsOf [] = [] := rfl
@[simp] theorem finsOf_fin (q : Pro) (r : List ARes) : finsOf (.fin q :: r) = q :: finsOf r := rfl
@[simp] theorem finsOf_tmp (t : Nat) (r : List ARes) : finsOf (.tmp t :: r) = finsOf r := rfl
@[simp] theorem finsOf_cell (a sz : Nat) (g : Bool) (r : List ARes) : finsOf (.cell a sz g :: r) = finsOf r := rfl
@[simp] theorem aopen_own (dp : Bool) (nm : Nat) (H : Heap) (p : AV) (cs : List O) : aopen dp nm H p (.ow (.own cs)) = (putAt H (.pv nm 0) p).map fun u => (.pv nm 0, u ++ [(nm, .var (cs.map ofO))], [nm]) := rfl
attribute [simp] aop putE nth aev AOpOf.map cellsOf freshU applyU hset hget aload cut mkVal boolV intV nameOf aresults aresult mkRes vwT vw viewRes finE pack nodupB ren renL renO solid flatA liveA afaddr anil aindex szAt alen reach RF astore Bz.put frz arrsT arrsOf
@[simp] theorem sized_nil (sz : Nat) : sized sz [] = true := rfl
@[simp] theorem sized_cons (sz : Nat) (c : List D) (r : List (List D)) : sized sz (c :: r) = (c.length == sz && sized sz r) := rfl
theorem sized_app (sz : Nat) (a b : List (List D)) : sized sz (a ++ b) = (sized sz a && sized sz b) := by simp [sized]
theorem sized_map {α : Type} (sz : Nat) (f : α → List D) (h : ∀ x, (f x).length = sz) (l : List α) : sized sz (l.map f) = true := by simp [sized, h]
@[simp] theorem take_len_map {α β : Type} (f : α → β) (l : List α) : (l.map f).take l.length = l.map f := by rw [← List.map_take, List.take_length]
attribute [simp] sized_app
attribute [simp] callN backOK
attribute [simp] putAt plainRow plainRows toOs toOss closeC closeP isC isOs rowsO aappendO fillRowO aiarr
attribute [simp] aidx aslice bounds asI nowhere alookup amapupd adelete amksl acopy aappend aappz rowOf rowLen isNil isNilU aun fillCells fillRow keyOK cellsOK skOK findE setE delE avEq scalEq aggEq aeqagg isNilC
attribute [simp] look insE keepL numE valsL okL renM trim_mkE noRef_mkE gcM start_mkE refs refsL refsO sortS sortH insH proms prom proAt proSet isF demote gcP gcH_nil gcH_mkE renS freeN norm normA vwD vwDs vws
end Bz

/- Loops over a list, and what else walks want. -/
namespace Bz
open Go

/-- rounds over a list, till one leaves -/
def foldS {α σ ρ : Type} (f : Nat → σ → α → σ ⊕ ρ) : List α → Nat → σ → σ ⊕ ρ
  | [], _, a => .inl a
  | x :: r, i, a => match f i a x with
    | .inl a' => foldS f r (i + 1) a'
    | .inr b => .inr b

@[simp] theorem foldS_nil {α σ ρ : Type} (f : Nat → σ → α → σ ⊕ ρ) (i : Nat) (a : σ) : foldS f [] i a = .inl a := rfl
theorem foldS_cons {α σ ρ : Type} (f : Nat → σ → α → σ ⊕ ρ) (x : α) (r : List α) (i : Nat) (a : σ) : foldS f (x :: r) i a = match f i a x with
    | .inl a' => foldS f r (i + 1) a'
    | .inr b => .inr b := rfl

/-- what leaves a loop -/
def outS {σ ρ : Type} (N : σ → AExit × St) (E : ρ → AExit × St) : σ ⊕ ρ → AExit × St
  | .inl a => N a
  | .inr b => E b
@[simp] theorem outS_inl {σ ρ : Type} (N : σ → AExit × St) (E : ρ → AExit × St) (a : σ) : outS N E (.inl a) = N a := rfl
@[simp] theorem outS_inr {σ ρ : Type} (N : σ → AExit × St) (E : ρ → AExit × St) (b : ρ) : outS N E (.inr b) = E b := rfl

/-- one round -/
def Round {σ ρ : Type} (X : Ctx) (mask : Mask) (body : ACode) (s : St) (S' : σ → St) (I' : σ → Prop) (E : ρ → AExit × St) : σ ⊕ ρ → Prop
  | .inl a' => I' a' ∧ (exL X body s).map (fun p => (p.1, trim mask p.2)) = some (.norm, S' a')
  | .inr b => exL X body s = some (E b)
@[simp] theorem Round_inl {σ ρ : Type} (X : Ctx) (mask : Mask) (body : ACode) (s : St) (S' : σ → St) (I' : σ → Prop) (E : ρ → AExit × St) (a' : σ) :
    Round X mask body s S' I' E (.inl a') = (I' a' ∧ (exL X body s).map (fun p => (p.1, trim mask p.2)) = some (.norm, S' a')) := rfl
@[simp] theorem Round_inr {σ ρ : Type} (X : Ctx) (mask : Mask) (body : ACode) (s : St) (S' : σ → St) (I' : σ → Prop) (E : ρ → AExit × St) (b : ρ) :
    Round X mask body s S' I' E (.inr b) = (exL X body s = some (E b)) := rfl

theorem loop_list {α σ ρ : Type} {X : Ctx} {mask : Mask} {body : ACode} (l : List α) (S : Nat → σ → St) (I : Nat → σ → Prop) (f : Nat → σ → α → σ ⊕ ρ) (N : σ → AExit × St) (E : ρ → AExit × St)
    (hN : ∀ a, (N a).1 ≠ .norm) (hE : ∀ b, (E b).1 ≠ .norm)
    (step : ∀ (i : Nat) (a : σ) (x : α) (hi : i < l.length), l[i] = x → I i a → Round X mask body (S i a) (S (i + 1)) (I (i + 1)) E (f i a x))
    (fin : ∀ a, I l.length a → exL X body (S l.length a) = some (N a)) (a0 : σ) (h0 : I 0 a0) (s : St) (hs : trim mask s = S 0 a0) :
    exL X (.loop mask body) s = some (outS N E (foldS f l 0 a0)) := by
  have key : ∀ (r : List α) (i : Nat) (a : σ) (s : St), l.drop i = r → i + r.length = l.length → I i a → trim mask s = S i a → exL X (.loop mask body) s = some (outS N E (foldS f r i a)) := by
    intro r
    induction r with
    | nil =>
      intro i a s hd hi hI hs
      have : i = l.length := by simpa using hi
      subst this
      have hf := fin a hI
      rw [← hs] at hf
      simp only [foldS, outS]
      have hn := hN a
      cases hNa : N a with
      | mk e s1 =>
        rw [hNa] at hf hn
        exact loop_end hf hn
    | cons x r ih =>
      intro i a s hd hi hI hs
      have hlt : i < l.length := by simp at hi; omega
      have hx : l[i] = x := by
        have : l[i]? = some x := by rw [← List.head?_drop, hd]; rfl
        rw [List.getElem?_eq_getElem hlt] at this; exact Option.some.inj this
      have hd' : l.drop (i + 1) = r := by rw [← List.tail_drop, hd]; rfl
      have st := step i a x hlt hx hI
      rw [foldS_cons]
      cases hf : f i a x with
      | inl a' =>
        rw [hf] at st
        simp only [Round_inl] at st
        refine loop_next (t := S (i + 1) a') (by rw [hs]; exact st.2) fun s' hs' => ?_
        exact ih (i + 1) a' s' hd' (by simp at hi; omega) st.1 hs'
      | inr b =>
        rw [hf] at st
        simp only [Round_inr] at st
        rw [← hs] at st
        have hn := hE b
        simp only [outS]
        cases hEb : E b with
        | mk e s1 =>
          rw [hEb] at st hn
          exact loop_end st hn
  exact key l 0 a0 s (by simp) (by simp) h0 hs

/-- rounds over a list, all of them -/
def foldI {α σ : Type} (g : Nat → σ → α → σ) : List α → Nat → σ → σ
  | [], _, a => a
  | x :: r, i, a => foldI g r (i + 1) (g i a x)
@[simp] theorem foldI_nil {α σ : Type} (g : Nat → σ → α → σ) (i : Nat) (a : σ) : foldI g [] i a = a := rfl
theorem foldI_cons {α σ : Type} (g : Nat → σ → α → σ) (x : α) (r : List α) (i : Nat) (a : σ) : foldI g (x :: r) i a = foldI g r (i + 1) (g i a x) := rfl

theorem loop_fold {α σ : Type} {X : Ctx} {mask : Mask} {body : ACode} (l : List α) (S : Nat → σ → St) (I : Nat → σ → Prop) (g : Nat → σ → α → σ) (N : σ → AExit × St) (hN : ∀ a, (N a).1 ≠ .norm)
    (step : ∀ (i : Nat) (a : σ) (x : α) (hi : i < l.length), l[i] = x → I i a → I (i + 1) (g i a x) ∧ (exL X body (S i a)).map (fun p => (p.1, trim mask p.2)) = some (.norm, S (i + 1) (g i a x)))
    (fin : ∀ a, I l.length a → exL X body (S l.length a) = some (N a)) (a0 : σ) (h0 : I 0 a0) (s : St) (hs : trim mask s = S 0 a0) :
    exL X (.loop mask body) s = some (N (foldI g l 0 a0)) := by
  have h := loop_list (ρ := Empty) (X := X) (mask := mask) (body := body) l S I (fun i a x => .inl (g i a x)) N (fun b => b.elim) hN (fun b => b.elim) (fun i a x hi hx hI => step i a x hi hx hI) fin a0 h0 s hs
  have key : ∀ (r : List α) (i : Nat) (a : σ), foldS (ρ := Empty) (fun i a x => .inl (g i a x)) r i a = .inl (foldI g r i a) := by
    intro r
    induction r with
    | nil => intro i a; rfl
    | cons x r ih => intro i a; rw [foldS_cons, foldI_cons]; exact ih (i + 1) _
  rw [key] at h
  exact h

/-- the first that is so -/
def findI {α : Type} (p : Nat → α → Bool) : List α → Nat → Option (Nat × α)
  | [], _ => none
  | x :: r, i => if p i x = true then some (i, x) else findI p r (i + 1)

def outF {α : Type} (N : AExit × St) (E : Nat → α → AExit × St) : Option (Nat × α) → AExit × St
  | none => N
  | some p => E p.1 p.2
@[simp] theorem outF_none {α : Type} (N : AExit × St) (E : Nat → α → AExit × St) : outF N E none = N := rfl
@[simp] theorem outF_some {α : Type} (N : AExit × St) (E : Nat → α → AExit × St) (p : Nat × α) : outF N E (some p) = E p.1 p.2 := rfl

/-- a loop that looks for something -/
theorem loop_find {α : Type} {X : Ctx} {mask : Mask} {body : ACode} (l : List α) (S : Nat → St) (p : Nat → α → Bool) (N : AExit × St) (E : Nat → α → AExit × St) (hN : N.1 ≠ .norm) (hE : ∀ i x, (E i x).1 ≠ .norm)
    (step : ∀ (i : Nat) (x : α) (hi : i < l.length), l[i] = x → p i x = false → (exL X body (S i)).map (fun p => (p.1, trim mask p.2)) = some (.norm, S (i + 1)))
    (found : ∀ (i : Nat) (x : α) (hi : i < l.length), l[i] = x → p i x = true → exL X body (S i) = some (E i x))
    (fin : exL X body (S l.length) = some N) (s : St) (hs : trim mask s = S 0) :
    exL X (.loop mask body) s = some (outF N E (findI p l 0)) := by
  have h := loop_list (σ := Unit) (ρ := Nat × α) (X := X) (mask := mask) (body := body) l (fun i _ => S i) (fun _ _ => True) (fun i _ x => if p i x = true then .inr (i, x) else .inl ()) (fun _ => N) (fun q => E q.1 q.2) (fun _ => hN) (fun q => hE q.1 q.2)
    (fun i a x hi hx _ => by
      cases hp : p i x with
      | true => simp only [if_true, Round_inr]; exact found i x hi hx hp
      | false => simp only [Bool.false_eq_true, if_false, Round_inl]; exact ⟨trivial, step i x hi hx hp⟩) (fun _ _ => fin) () trivial s hs
  rw [h]
  have key : ∀ (r : List α) (i : Nat), foldS (fun i (_ : Unit) x => if p i x = true then Sum.inr (i, x) else .inl ()) r i () = match findI p r i with | none => .inl () | some q => .inr q := by
    intro r
    induction r with
    | nil => intro i; rfl
    | cons x r ih =>
      intro i
      rw [foldS_cons]
      simp only [findI]
      cases hp : p i x with
      | true => simp
      | false => simp only [Bool.false_eq_true, if_false]; exact ih (i + 1)
  rw [key]
  cases findI p l 0 <;> rfl

theorem findI_any {α : Type} (p : α → Bool) : ∀ (l : List α) (i : Nat), (findI (fun _ => p) l i).isSome = l.any p
  | [], _ => rfl
  | x :: r, i => by
    simp only [findI, List.any_cons]
    by_cases hp : p x = true
    · rw [if_pos hp, hp]; rfl
    · rw [if_neg hp, findI_any p r (i + 1), Bool.eq_false_iff.2 hp, Bool.false_or]

theorem findI_none {α : Type} (p : Nat → α → Bool) : ∀ (l : List α) (i : Nat), findI p l i = none ↔ ∀ (k : Nat) (x : α), l[k]? = some x → p (i + k) x = false
  | [], i => by simp [findI]
  | x :: r, i => by
    simp only [findI]
    constructor
    · intro h k y hk
      cases hp : p i x with
      | true => rw [hp] at h; simp at h
      | false =>
        rw [hp] at h
        simp only [Bool.false_eq_true, if_false] at h
        cases k with
        | zero => simp at hk; subst hk; exact hp
        | succ k =>
          have := (findI_none p r (i + 1)).1 h k y (by simpa using hk)
          rwa [show i + 1 + k = i + (k + 1) by omega] at this
    · intro h
      have h0 := h 0 x rfl
      rw [Nat.add_zero] at h0
      rw [h0]
      simp only [Bool.false_eq_true, if_false]
      refine (findI_none p r (i + 1)).2 fun k y hk => ?_
      have := h (k + 1) y (by simpa using hk)
      rwa [show i + (k + 1) = i + 1 + k by omega] at this

theorem findI_some {α : Type} (p : Nat → α → Bool) : ∀ (l : List α) (i : Nat) (q : Nat × α), findI p l i = some q → ∃ k, q.1 = i + k ∧ l[k]? = some q.2 ∧ p q.1 q.2 = true ∧ ∀ (j : Nat) (x : α), j < k → l[j]? = some x → p (i + j) x = false
  | [], i, q, h => by simp [findI] at h
  | x :: r, i, q, h => by
    simp only [findI] at h
    cases hp : p i x with
    | true =>
      rw [hp] at h
      simp only [if_true, Option.some.injEq] at h
      subst h
      exact ⟨0, rfl, rfl, hp, by omega⟩
    | false =>
      rw [hp] at h
      simp only [Bool.false_eq_true, if_false] at h
      obtain ⟨k, h1, h2, h3, h4⟩ := findI_some p r (i + 1) q h
      refine ⟨k + 1, by omega, by simpa using h2, h3, fun j y hj hy => ?_⟩
      cases j with
      | zero => simp at hy; subst hy; exact hp
      | succ j =>
        have := h4 j y (by omega) (by simpa using hy)
        rwa [show i + 1 + j = i + (j + 1) by omega] at this

theorem wrap_ok {a : Int} (h1 : -9223372036854775808 ≤ a) (h2 : a < 9223372036854775808) : IntKind.i64.wrap a = a := by
  simp [IntKind.wrap, IntKind.signed, IntKind.bits]
  omega

theorem map_ite {α β : Type} (c : Prop) [Decidable c] (f : α → β) (a b : List α) : (if c then a else b).map f = if c then a.map f else b.map f := by split <;> rfl
theorem mk_eq {n : Nat} {l l' : List (Nat × AV)} (h : l = l') : mkE n l = mkE n l' := by rw [h]

@[simp] theorem range_1 : List.range 1 = [0] := rfl
@[simp] theorem range_2 : List.range 2 = [0, 1] := rfl
@[simp] theorem range_3 : List.range 3 = [0, 1, 2] := rfl
@[simp] theorem range_4 : List.range 4 = [0, 1, 2, 3] := rfl
@[simp] theorem range_5 : List.range 5 = [0, 1, 2, 3, 4] := rfl
@[simp] theorem range_6 : List.range 6 = [0, 1, 2, 3, 4, 5] := rfl
@[simp] theorem idx_hit (a : Nat) (r : List Nat) : List.idxOf a (a :: r) = 0 := by simp
theorem idx_miss (a b : Nat) (r : List Nat) : List.idxOf a (b :: r) = if b = a then 0 else List.idxOf a r + 1 := by
  rw [List.idxOf_cons]
  by_cases h : b = a
  · simp [h]
  · rw [if_neg h, beq_false_of_ne h]; rfl
attribute [simp] idx_miss
@[simp] theorem nat_neg (n : Nat) : ((n : Int) < 0) = False := by simp
@[simp] theorem take_drop_len {α β : Type} (f : α → β) (b : List α) (k : Nat) : List.take (b.length - k) (List.drop k (List.map f b)) = List.drop k (List.map f b) := by
  rw [List.take_of_length_le]; simp
@[simp] theorem take_add_len {α β : Type} (f : α → β) (b : List α) (x : β) : List.take (b.length + 1) (List.map f b ++ [x]) = List.map f b ++ [x] := by
  rw [List.take_of_length_le]; simp

/-! ### bytes -/
def byC (b : UInt8) : List D := [.int .u8 (b.toNat : Int)]
@[simp] theorem byC_eq (b : UInt8) : byC b = [.int .u8 (b.toNat : Int)] := rfl
@[simp] theorem dOfBytes_eq (s : List UInt8) : dOfBytes s = s.map byC := rfl
@[simp] theorem sized_by (s : List UInt8) : sized 1 (s.map byC) = true := sized_map 1 byC (fun _ => rfl) s
@[simp] theorem bytesOfD_by (s : List UInt8) : bytesOfD (s.map byC) = some s := by
  induction s with
  | nil => rfl
  | cons b r ih =>
    have : byteOfD (byC b) = some b := by simp [byteOfD]
    simp [bytesOfD, ih, byteOfD]
@[simp] theorem bytesOfD_nil : bytesOfD [] = some [] := rfl

/-- a number's last octet -/
def toB (n : Int) : UInt8 := UInt8.ofNat (n % 256).toNat
theorem toB_val (n : Int) : ((toB n).toNat : Int) = n % 256 := by
  unfold toB
  have h1 : 0 ≤ n % 256 := Int.emod_nonneg _ (by omega)
  have h2 : n % 256 < 256 := Int.emod_lt_of_pos _ (by omega)
  rw [UInt8.toNat_ofNat_of_lt' (by simp [UInt8.size]; omega)]
  omega
@[simp] theorem wrap_u8 (n : Int) : IntKind.u8.wrap n = ((toB n).toNat : Int) := by
  rw [toB_val]
  simp [IntKind.wrap, IntKind.bits, IntKind.signed]
theorem toB_nat (b : UInt8) : toB (b.toNat : Int) = b := by
  have h := toB_val b.toNat
  have h2 := b.toNat_lt
  apply UInt8.toNat_inj.1
  omega

end Bz

/- Loops with a measure: rounds till one leaves. -/
namespace Bz
open Go

/-- whatever is trimmed to the state it begins with, ends alike -/
theorem loop_meas {σ : Type} {X : Ctx} {mask : Mask} {body : ACode} (S : σ → St) (I : σ → Prop) (μ : σ → Nat) (Q : AExit × St → Prop)
    (step : ∀ a, I a → (∃ a', I a' ∧ μ a' < μ a ∧ (exL X body (S a)).map (fun p => (p.1, trim mask p.2)) = some (.norm, S a')) ∨ (∃ r, exL X body (S a) = some r ∧ r.1 ≠ .norm ∧ Q r))
    (a0 : σ) (h0 : I a0) : ∃ r, Q r ∧ ∀ s, trim mask s = S a0 → exL X (.loop mask body) s = some r := by
  have key : ∀ (n : Nat) (a : σ), μ a ≤ n → I a → ∃ r, Q r ∧ ∀ s, trim mask s = S a → exL X (.loop mask body) s = some r := by
    intro n
    induction n with
    | zero =>
      intro a hm hI
      rcases step a hI with ⟨a', _, hlt, _⟩ | ⟨r, hr, hn, hq⟩
      · omega
      · obtain ⟨e, s1⟩ := r
        exact ⟨_, hq, fun s hs => loop_end (by rw [hs]; exact hr) hn⟩
    | succ n ih =>
      intro a hm hI
      rcases step a hI with ⟨a', hI', hlt, hr⟩ | ⟨r, hr, hn, hq⟩
      · obtain ⟨p, hp, e⟩ := Option.map_eq_some_iff.1 hr
        obtain ⟨e', s'⟩ := p
        obtain ⟨rfl, e2⟩ := Prod.mk.inj e
        obtain ⟨q, h2, h1⟩ := ih a' (by omega) hI'
        exact ⟨q, h2, fun s hs => loop_norm (by rw [hs]; exact hp) (h1 _ e2)⟩
      · obtain ⟨e, s1⟩ := r
        exact ⟨_, hq, fun s hs => loop_end (by rw [hs]; exact hr) hn⟩
  exact key (μ a0) a0 (Nat.le_refl _) h0

/-- passes from a label on -/
theorem scope_meas {σ : Type} {X : Ctx} {l : Nat} {m : Mask} {body : ACode} (S : σ → St) (I : σ → Prop) (μ : σ → Nat) (Q : AExit × St → Prop)
    (step : ∀ a, I a → (∃ a', I a' ∧ μ a' < μ a ∧ (exL X body (S a)).map (fun p => (p.1, trim m p.2)) = some (.goto l, S a')) ∨ (∃ r, exL X body (S a) = some r ∧ (∀ j, r.1 ≠ .goto j) ∧ Q r))
    (a0 : σ) (h0 : I a0) : ∃ r, Q r ∧ ∀ s, trim m s = S a0 → scpJ X l m body s = some r := by
  have key : ∀ (n : Nat) (a : σ), μ a ≤ n → I a → ∃ r, Q r ∧ ∀ s, trim m s = S a → scpJ X l m body s = some r := by
    intro n
    induction n with
    | zero =>
      intro a hm hI
      rcases step a hI with ⟨a', _, hlt, _⟩ | ⟨r, hr, hn, hq⟩
      · omega
      · obtain ⟨e, s1⟩ := r
        exact ⟨_, hq, fun s hs => scope_end (by rw [hs]; exact hr) hn⟩
    | succ n ih =>
      intro a hm hI
      rcases step a hI with ⟨a', hI', hlt, hr⟩ | ⟨r, hr, hn, hq⟩
      · obtain ⟨p, hp, e⟩ := Option.map_eq_some_iff.1 hr
        obtain ⟨e', s'⟩ := p
        obtain ⟨rfl, e2⟩ := Prod.mk.inj e
        obtain ⟨q, h2, h1⟩ := ih a' (by omega) hI'
        exact ⟨q, h2, fun s hs => scope_goto (by rw [hs]; exact hp) (h1 _ e2)⟩
      · obtain ⟨e, s1⟩ := r
        exact ⟨_, hq, fun s hs => scope_end (by rw [hs]; exact hr) hn⟩
  exact key (μ a0) a0 (Nat.le_refl _) h0

/-- over a list, by place -/
theorem loop_upto {σ : Type} {X : Ctx} {mask : Mask} {body : ACode} (n : Nat) (S : Nat → σ → St) (I : Nat → σ → Prop) (Q : AExit × St → Prop)
    (step : ∀ i a, i < n → I i a → (∃ a', I (i + 1) a' ∧ (exL X body (S i a)).map (fun p => (p.1, trim mask p.2)) = some (.norm, S (i + 1) a')) ∨ (∃ r, exL X body (S i a) = some r ∧ r.1 ≠ .norm ∧ Q r))
    (fin : ∀ a, I n a → ∃ r, exL X body (S n a) = some r ∧ r.1 ≠ .norm ∧ Q r)
    (a0 : σ) (h0 : I 0 a0) : ∃ r, Q r ∧ ∀ s, trim mask s = S 0 a0 → exL X (.loop mask body) s = some r := by
  refine loop_meas (σ := Nat × σ) (fun p => S p.1 p.2) (fun p => p.1 ≤ n ∧ I p.1 p.2) (fun p => n - p.1) Q ?_ (0, a0) ⟨Nat.zero_le _, h0⟩
  rintro ⟨i, a⟩ ⟨hi, hI⟩
  simp only at hi hI
  by_cases h : i < n
  · rcases step i a h hI with ⟨a', h1, h2⟩ | h1
    · exact .inl ⟨(i + 1, a'), ⟨h, h1⟩, by simp only; omega, h2⟩
    · exact .inr h1
  · have : i = n := by omega
    subst this
    exact .inr (fin a hI)

@[simp] theorem take_two {α β γ : Type} (f : α → β) (g : γ → β) (l : List α) (m : List γ) : List.take (l.length + m.length) (l.map f ++ m.map g) = l.map f ++ m.map g := by
  rw [List.take_of_length_le]; simp
@[simp] theorem gcH_mkE0 (n : Nat) (H : Heap) : gcH (mkE n []) H = gcM [] H := gcH_mkE rfl H
end Bz

/- A byte's place in a text: what stands for bytealg.IndexByteString. -/
namespace Bz
open Go

def extByte (f : Nat) : Callee := fun g args H => if g = f then match args, H with
    | [.d (.str s), .d (.int .u8 c)], [] => some (.d (.int .i64 (firstIdx ⟨s.toArray⟩ c.toNat.toUInt8)), [])
    | _, _ => none
  else none

theorem extByte_good {P : Program} {f : FuncId} {fn : Func} (hf : P.funcs[f]? = some fn) (hname : (fn.name == "runtime.NumGoroutine") = false)
    (hb : fn.body.isNone = true) (hn : Extern.findNext fn = none) (he : Extern.find fn = some Extern.BytealgIndexByte.indexByte) : Good P (extByte f) := by
  intro g args H rv Ho h
  unfold extByte at h
  split at h
  · rename_i hg
    subst hg
    split at h
    · rename_i s c
      cases h
      intro ρ S w vs hi ha
      obtain ⟨a, b, rfl, h1, h2⟩ := ha.two
      cases relA_str h1
      cases relA_int h2
      refine .inr ⟨.int .i64 (firstIdx ⟨s.toArray⟩ c.toNat.toUInt8), w, ?_, _, ρ, S, rfl, .refl hi, rel_int _ _⟩
      rw [run_callFunc_indexByte hf hname hb hn he, run_indexByte_string]; rfl
    · cases h
  · cases h

end Bz

/- Rows that lead to something: rules by which they are carried out. -/
namespace Bz
open Go

theorem refAtF_closed : ∀ {es : List (List AV)} {i : Nat}, (∀ c ∈ es, refCols 0 c = []) → refAtF i es = []
  | [], _, _ => rfl
  | c :: r, i, h => by
    simp only [refAtF, h c (by simp), List.map_nil, List.nil_append]
    exact refAtF_closed fun d hd => h d (by simp [hd])
theorem refAtF_app : ∀ {es fs : List (List AV)} {i : Nat}, refAtF i (es ++ fs) = refAtF i es ++ refAtF (i + es.length) fs
  | [], fs, i => by simp [refAtF]
  | c :: r, fs, i => by
    simp only [List.cons_append, refAtF, refAtF_app (es := r), List.append_assoc, List.length_cons]
    rw [show i + 1 + r.length = i + (r.length + 1) by omega]
theorem refAtF_set : ∀ {es : List (List AV)} {i k : Nat} {c : List AV}, (∀ c ∈ es, refCols 0 c = []) → k < es.length → refAtF i (es.set k c) = (refCols 0 c).map fun j => (i + k, j)
  | [], _, _, _, _, hk => by simp at hk
  | a :: r, i, 0, c, h, _ => by
    simp only [List.set_cons_zero, refAtF]
    rw [refAtF_closed fun d hd => h d (by simp [hd])]
    simp
  | a :: r, i, k + 1, c, h, hk => by
    simp only [List.set_cons_succ, refAtF, h a (by simp), List.map_nil, List.nil_append]
    rw [refAtF_set (fun d hd => h d (by simp [hd])) (by simpa using hk)]
    rw [show i + 1 + k = i + (k + 1) by omega]
theorem refsLL_app : ∀ {es fs : List (List AV)}, refsLL (es ++ fs) = refsLL es ++ refsLL fs
  | [], _ => rfl
  | c :: r, fs => by simp only [List.cons_append, refsLL, refsLL_app (es := r), List.append_assoc]
theorem refsLL_none : ∀ {es : List (List AV)}, (∀ c ∈ es, refsL c = []) → refsLL es = []
  | [], _ => rfl
  | c :: r, h => by simp only [refsLL, h c (by simp), List.nil_append]; exact refsLL_none fun d hd => h d (by simp [hd])
theorem refsLL_set : ∀ {es : List (List AV)} {k : Nat} {c : List AV}, (∀ c ∈ es, refsL c = []) → k < es.length → refsLL (es.set k c) = refsL c
  | [], _, _, _, hk => by simp at hk
  | a :: r, 0, c, h, _ => by
    simp only [List.set_cons_zero, refsLL]
    rw [refsLL_none fun d hd => h d (by simp [hd]), List.append_nil]
  | a :: r, k + 1, c, h, hk => by
    simp only [List.set_cons_succ, refsLL, h a (by simp), List.nil_append]
    exact refsLL_set (fun d hd => h d (by simp [hd])) (by simpa using hk)

@[simp] theorem hdel_nil (l : Nat) : hdel [] l = [] := rfl
@[simp] theorem hdel_cons (m : Nat) (o : AObj) (r : Heap) (l : Nat) : hdel ((m, o) :: r) l = if m = l then hdel r l else (m, o) :: hdel r l := by
  simp only [hdel, List.filter]
  by_cases h : m = l
  · simp [h]
  · have : (m != l) = true := by simpa using h
    simp [this, h]

/-- what a call is handed, row upon row -/
@[simp] theorem acallD_eq (X : Ctx) (nm : Nat) (H : Heap) (f : Nat) (args : List AV) : acallD X nm H f args = match vwsO H args with
  | none => none
  | some as => match X.C f as [] with
    | none => none
    | some (rv, Ho) =>
      if Ho.isEmpty && noViews rv then some (rv, [], [])
      else if pureA rv && (Ho.all fun x => pureObj x.2) && backOK 0 rv Ho then
        some (ren (fun j => nm + j) rv, Ho.map fun x => (nm + x.1, renO (fun j => nm + j) x.2), Ho.map fun x => nm + x.1)
      else none := rfl
@[simp] theorem isOV_agg (H : Heap) (cs : List AV) : isOV H (.agg cs) = cs.any (isO H) := rfl
@[simp] theorem isOV_d (H : Heap) (x : D) : isOV H (.d x) = isO H (.d x) := rfl
@[simp] theorem vwO_d (H : Heap) (x : D) : vwO H (.d x) = (vwDO H (.d x)).map .d := rfl
@[simp] theorem pureA_d (x : D) : pureA (.d x) = pureC (.d x) := rfl
@[simp] theorem pureC_d (x : D) : pureC (.d x) = pureD x := rfl
@[simp] theorem viewA_d (x : D) : viewA (.d x) = some (norm x) := rfl
@[simp] theorem viewA_ow (t : O) : viewA (.ow t) = viewO t := rfl
@[simp] theorem pureC_ow (t : O) : pureC (.ow t) = pureO t := rfl
@[simp] theorem pureC_os (l n o k : Nat) : pureC (.os l n o k) = true := rfl
@[simp] theorem pureC_pv (l j : Nat) : pureC (.pv l j) = true := rfl
@[simp] theorem pureA_agg (cs : List AV) : pureA (.agg cs) = cs.all pureC := rfl
@[simp] theorem pureA_tup (cs : List AV) : pureA (.tup cs) = cs.all pureC := rfl
@[simp] theorem vwO_agg (H : Heap) (cs : List AV) : vwO H (.agg cs) = (vwDOs H cs).map fun ds => .agg (ds.map .d) := rfl
@[simp] theorem pureD_int (k : IntKind) (n : Int) : pureD (.int k n) = true := rfl
@[simp] theorem pureD_str (s : List UInt8) : pureD (.str s) = true := rfl
@[simp] theorem pureD_bool (b : Bool) : pureD (.bool b) = true := rfl
@[simp] theorem pureD_vs0 (t : Bool) : pureD (.vs t []) = true := rfl
@[simp] theorem isOV_ow (H : Heap) (t : O) : isOV H (.ow t) = isO H (.ow t) := rfl
@[simp] theorem pureA_ow (t : O) : pureA (.ow t) = pureC (.ow t) := rfl
@[simp] theorem isOV_os (H : Heap) (l n o k : Nat) : isOV H (.os l n o k) = isO H (.os l n o k) := rfl
@[simp] theorem vwO_os (H : Heap) (l n o k : Nat) : vwO H (.os l n o k) = (vwDO H (.os l n o k)).map .d := rfl
@[simp] theorem pureA_os (l n o k : Nat) : pureA (.os l n o k) = pureC (.os l n o k) := rfl
@[simp] theorem isOV_pv (H : Heap) (l j : Nat) : isOV H (.pv l j) = isO H (.pv l j) := rfl
@[simp] theorem pureA_pv (l j : Nat) : pureA (.pv l j) = pureC (.pv l j) := rfl
@[simp] theorem isOV_pa (H : Heap) (l n i j : Nat) : isOV H (.pa l n i j) = isO H (.pa l n i j) := rfl
@[simp] theorem pureA_pa (l n i j : Nat) : pureA (.pa l n i j) = pureC (.pa l n i j) := rfl
@[simp] theorem isOV_vp (H : Heap) (c : List D) (j : Nat) : isOV H (.vp c j) = isO H (.vp c j) := rfl
@[simp] theorem pureA_vp (c : List D) (j : Nat) : pureA (.vp c j) = pureC (.vp c j) := rfl
@[simp] theorem isOV_map (H : Heap) (l : Nat) : isOV H (.map l) = isO H (.map l) := rfl
@[simp] theorem pureA_map (l : Nat) : pureA (.map l) = pureC (.map l) := rfl
@[simp] theorem isOV_fn (H : Heap) (f : Nat) (cs : List AV) : isOV H (.fn f cs) = isO H (.fn f cs) := rfl
@[simp] theorem pureA_fn (f : Nat) (cs : List AV) : pureA (.fn f cs) = pureC (.fn f cs) := rfl
@[simp] theorem isOV_tup (H : Heap) (cs : List AV) : isOV H (.tup cs) = isO H (.tup cs) := rfl
@[simp] theorem isOV_undef (H : Heap)  : isOV H (.undef ) = isO H (.undef ) := rfl
@[simp] theorem pureA_undef  : pureA (.undef ) = pureC (.undef ) := rfl
@[simp] theorem isOV_anyb (H : Heap)  : isOV H (.anyb ) = isO H (.anyb ) := rfl
@[simp] theorem pureA_anyb  : pureA (.anyb ) = pureC (.anyb ) := rfl
attribute [simp] vwsO vwDOs pureObj refsLL refsLL_app refCols
@[simp] theorem vwDO_d (H : Heap) (x : D) : vwDO H (.d x) = some (norm x) := rfl
@[simp] theorem vwDO_os (H : Heap) (l n k : Nat) : vwDO H (.os l n 0 k) = (match hget H l with
    | some (.oar _ es) => if es.length = n ∧ k ≤ n then (match viewAss es with
      | some rs => some (.vs false (rs.take k))
      | none => none) else none
    | _ => vwD H (.os l n 0 k)) := rfl
end Bz

/- What a row asks behind the call, where nothing that was there has turned. -/
namespace Bz
open Go Go.RowKit Go.ChangeShapes

section
variable {H : Type} {enc : TypeId × Value → H} {P : Program}

theorem post_law {f : Func} {s : ChangeSpec} {W W' : World} {args : Array Value} {ds gs : List (DataW H)} {before : List MemPlace}
    (hW : DataW.Whole enc P f.params.toList s.vars false W args.toList ds gs before) (hv : s.vars = [])
    (hfn : (s.fn H ds).results = [.lit (.bool true)] ∧ (s.fn H ds).args = ds ∧ (s.fn H ds).vars = [])
    (hl : laidOutB P = true) (hr : (f.params.toList.all fun t => P.readableRec t && decide (t < P.types.size)) = true) {bt : TypeId} (hrt : f.resultTypes = #[bt]) (hbt : P.underlying bt = some .bool) (hb : Below W.heap.size W W') :
    s.post enc P f false true false false W args (.bool true) W' := by
  have hW' := hW
  obtain ⟨p, q, hA, hV, hpq, hfz, hnd⟩ := hW
  rw [hv] at hV
  obtain ⟨rfl, rfl⟩ := trodVars_none hV
  obtain ⟨f1, f2, f3⟩ := hfn
  refine ⟨ds, [], before, [], before, [], hW', ?_, ?_, ?_, hb.frame _, fun h => by cases h⟩
  · rw [List.append_nil, f1, hrt]
    exact trodAll_cons_mk (shut_bool hbt true) trodAll_mk0
  · rw [List.append_nil, f2, hpq, List.append_nil]
    exact trodAll_back hl hb _ _ _ _ hr hA
  · rw [List.append_nil, f3, hv]; rfl
end
end Bz
