/- The wall and the page agree. -/
import Derived.Test.YtkokmockakgjaaaWall4
set_option linter.unusedSimpArgs false
set_option linter.unusedVariables false
namespace Bz.S
open Go Bz
set_option maxRecDepth 10000
set_option maxHeartbeats 4000000

/-! ### whose is whose -/
theorem clOf_fold (n : Txt) : ∀ (D K : List Cl), clOf (D.foldl newG K) n = (clOf K n).or (clOf D n)
  | [], K => by simp [clOf]
  | d :: r, K => by
    rw [List.foldl_cons, clOf_fold n r]
    unfold newG
    by_cases h : clOf K d.n = none
    · rw [if_pos h]
      unfold clOf at h ⊢
      rw [List.find?_append]
      by_cases e : n = d.n
      · subst e; rw [h]; simp
      · cases List.find? (fun d => decide (n = d.n)) K <;> simp [e]
    · rw [if_neg h]
      unfold clOf at h ⊢
      by_cases e : n = d.n
      · subst e
        cases hq : List.find? (fun q => decide (d.n = q.n)) K with
        | none => exact absurd hq h
        | some q => simp
      · cases List.find? (fun d => decide (n = d.n)) K <;> simp [e]
abbrev clsK (D : List Cl) : List Cl := D.foldl newG []
theorem clOf_K (D : List Cl) (n : Txt) : clOf (clsK D) n = clOf D n := by
  show clOf (D.foldl newG []) n = _
  rw [clOf_fold]; simp [clOf]
theorem foes_K (D : List Cl) : foesK (clsK D) = foesK D := by
  funext a b
  unfold foesK
  rw [clOf_K, clOf_K]

def hasS (S : List Ct) (w o : Txt) : Prop := ∃ c ∈ S, c.w = w ∧ c.o = o
structure J3 (S : List Ct) (M : List Sg) : Prop where
  nodup : (S.map fun c => (c.w, c.o)).Nodup
  mem : ∀ w o, hasS S w o ↔ ∃ s ∈ M, s.w = w ∧ s.o = o

theorem J3.seen {S : List Ct} {M : List Sg} (h : J3 S M) (e : Txt) : seenW S e = ofM M e := by
  have hn : ((S.filter fun c => c.w = e).map (·.o)).Nodup := by
    have h1 : ((S.filter fun c => c.w = e).map fun c => (c.w, c.o)).Nodup := h.nodup.sublist (List.filter_sublist.map _)
    have h2 : ((S.filter fun c => c.w = e).map fun c => (c.w, c.o)) = ((S.filter fun c => c.w = e).map (·.o)).map fun o => (e, o) := by
      rw [List.map_map]
      refine List.map_congr_left fun c hc => ?_
      have := (List.mem_filter.1 hc).2
      simp only [decide_eq_true_eq] at this
      simp [this]
    rw [h2] at h1
    exact List.Pairwise.of_map (fun o => (e, o)) (fun a b h q => h (by rw [q])) h1
  refine upS_unique ?_ (setT_up _) fun x => ?_
  · unfold seenW sortTx
    have hu := isort_up blt_tot ((S.filter fun c => c.w = e).map (·.o))
    have hd : (isort Op.bytesLess ((S.filter fun c => c.w = e).map (·.o))).Nodup := (isort_perm _).nodup_iff.2 hn
    refine (hu.and hd).imp fun {a b} ⟨h1, h2⟩ => ?_
    cases q : Op.bytesLess a b with
    | true => rfl
    | false => exact absurd (blt_tot.tot _ _ q h1) h2
  · unfold seenW sortTx ofM
    rw [isort_mem, setT_mem]
    simp only [List.mem_map, List.mem_filter, decide_eq_true_eq]
    constructor
    · rintro ⟨c, ⟨h1, h2⟩, h3⟩
      obtain ⟨s, a, b, c⟩ := (h.mem e x).1 ⟨c, h1, h2, h3⟩
      exact ⟨s, ⟨a, b⟩, c⟩
    · rintro ⟨s, ⟨h1, h2⟩, h3⟩
      obtain ⟨c, a, b, d⟩ := (h.mem e x).2 ⟨s, h1, h2, h3⟩
      exact ⟨c, ⟨a, b⟩, d⟩
theorem J3.may {S : List Ct} {M : List Sg} (h : J3 S M) (D : List Cl) (e o : Txt) : mayW (clsK D) S e o = mayM D M e o := by
  unfold mayW mayM
  rw [h.seen, foes_K]

theorem bump_keys (e o : Txt) : ∀ S : List Ct, ((bumpW e o S).map fun c => (c.w, c.o)) = if (e, o) ∈ S.map (fun c => (c.w, c.o)) then S.map (fun c => (c.w, c.o)) else S.map (fun c => (c.w, c.o)) ++ [(e, o)]
  | [] => by simp [bumpW]
  | c :: r => by
    have ih := bump_keys e o r
    unfold bumpW
    by_cases h : isW e o c = true
    · have h' : e = c.w ∧ o = c.o := by simpa [isW] using h
      simp [h, ← h'.1, ← h'.2]
    · have h' : ¬ ((e, o) = (c.w, c.o)) := fun q => h (by simp only [Prod.mk.injEq] at q; simp [isW, q.1, q.2])
      rw [if_neg h, List.map_cons, ih, List.map_cons]
      by_cases hm : (e, o) ∈ r.map (fun c => (c.w, c.o))
      · rw [if_pos hm, if_pos (List.mem_cons_of_mem _ hm)]
      · rw [if_neg hm, if_neg (fun q => (List.mem_cons.1 q).elim h' hm)]; rfl
theorem hasS_keys {S : List Ct} {w o : Txt} : hasS S w o ↔ (w, o) ∈ S.map (fun c => (c.w, c.o)) := by
  simp only [hasS, List.mem_map, Prod.mk.injEq]
theorem J3.bump {S : List Ct} {M : List Sg} (h : J3 S M) (e o : Txt) : J3 (bumpW e o S) (M ++ [⟨e, o⟩]) := by
  refine ⟨?_, fun w x => ?_⟩
  · rw [bump_keys]
    split
    · exact h.nodup
    · rename_i hm
      refine List.nodup_append.2 ⟨h.nodup, by simp, fun a ha b hb => ?_⟩
      simp at hb; subst hb
      exact fun q => hm (q ▸ ha)
  · rw [hasS_keys, bump_keys]
    have hm := h.mem w x
    rw [hasS_keys] at hm
    simp only [List.mem_append, List.mem_singleton]
    constructor
    · intro hh
      split at hh
      · obtain ⟨s, a, b⟩ := hm.1 hh; exact ⟨s, .inl a, b⟩
      · rcases List.mem_append.1 hh with hh | hh
        · obtain ⟨s, a, b⟩ := hm.1 hh; exact ⟨s, .inl a, b⟩
        · simp only [List.mem_singleton, Prod.mk.injEq] at hh
          exact ⟨⟨e, o⟩, .inr rfl, hh.1.symm, hh.2.symm⟩
    · rintro ⟨s, hs | hs, b, c⟩
      · have := hm.2 ⟨s, hs, b, c⟩
        split
        · exact this
        · exact List.mem_append_left _ this
      · subst hs
        simp only at b c
        subst b; subst c
        split
        · assumption
        · simp

def forgetW (S : List Ct) (e : Txt) : List Ct := (seenW S e).foldl (fun S o => delW e o S) S
theorem del_eq (e o : Txt) : ∀ S : List Ct, (S.map fun c => (c.w, c.o)).Nodup → delW e o S = S.filter fun c => !isW e o c
  | [], _ => rfl
  | c :: r, h => by
    simp only [List.map_cons, List.nodup_cons] at h
    have ih := del_eq e o r h.2
    unfold delW
    by_cases hq : isW e o c = true
    · rw [if_pos hq, List.filter_cons, if_neg (by simp [hq])]
      have h' : e = c.w ∧ o = c.o := by simpa [isW] using hq
      refine (List.filter_eq_self.2 fun x hx => ?_).symm
      simp only [isW, Bool.not_eq_true', Bool.and_eq_false_iff, decide_eq_false_iff_not]
      by_cases e1 : e = x.w
      · refine .inr fun e2 => h.1 (List.mem_map.2 ⟨x, hx, ?_⟩)
        rw [← e1, ← e2, h'.1, h'.2]
      · exact .inl e1
    · rw [if_neg hq, List.filter_cons, if_pos (by simp [hq]), ih]
theorem forget_fold (e : Txt) : ∀ (l : List Txt) (S : List Ct), (S.map fun c => (c.w, c.o)).Nodup → l.foldl (fun S o => delW e o S) S = S.filter fun c => !(decide (e = c.w) && decide (c.o ∈ l))
  | [], S, _ => by exact (List.filter_eq_self.2 fun c _ => by simp).symm
  | o :: r, S, h => by
    rw [List.foldl_cons, del_eq e o S h]
    have hs : ((S.filter fun c => !isW e o c).map fun c => (c.w, c.o)).Nodup := h.sublist (List.filter_sublist.map _)
    rw [forget_fold e r _ hs, List.filter_filter]
    refine List.filter_congr fun c _ => ?_
    unfold isW
    by_cases h1 : e = c.w
    · by_cases h2 : o = c.o
      · simp [h1, h2]
      · have h3 : ¬ c.o = o := fun q => h2 q.symm
        simp [h1, h2, h3]
    · simp [h1]
theorem forget_eq {S : List Ct} (h : (S.map fun c => (c.w, c.o)).Nodup) (e : Txt) : forgetW S e = S.filter fun c => decide (c.w ≠ e) := by
  unfold forgetW
  rw [forget_fold e _ S h]
  refine List.filter_congr fun c hc => ?_
  by_cases h1 : e = c.w
  · subst h1
    have : c.o ∈ seenW S c.w := by
      unfold seenW sortTx
      rw [isort_mem]
      exact List.mem_map.2 ⟨c, List.mem_filter.2 ⟨hc, by simp⟩, rfl⟩
    simp [this]
  · have h2 : ¬ c.w = e := fun q => h1 q.symm
    simp [h1, h2]
theorem J3.forget {S : List Ct} {M : List Sg} (h : J3 S M) (e : Txt) : J3 (forgetW S e) (M.filter fun s => decide (s.w ≠ e)) := by
  rw [forget_eq h.nodup]
  refine ⟨h.nodup.sublist (List.filter_sublist.map _), fun w o => ?_⟩
  simp only [hasS, List.mem_filter, decide_eq_true_eq]
  have hm := h.mem w o
  constructor
  · rintro ⟨c, ⟨h1, h2⟩, h3, h4⟩
    obtain ⟨s, a, b, d⟩ := hm.1 ⟨c, h1, h3, h4⟩
    exact ⟨s, ⟨a, by rw [b, ← h3]; exact h2⟩, b, d⟩
  · rintro ⟨c, ⟨h1, h2⟩, h3, h4⟩
    obtain ⟨s, a, b, d⟩ := hm.2 ⟨c, h1, h3, h4⟩
    exact ⟨s, ⟨a, by rw [b, ← h3]; exact h2⟩, b, d⟩
theorem J3_nil : J3 [] [] := ⟨List.nodup_nil, fun w o => by simp [hasS]⟩
end Bz.S
