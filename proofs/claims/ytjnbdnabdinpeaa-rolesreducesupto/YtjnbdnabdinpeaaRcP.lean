/- Pairs, and what is reached by them: plainly. -/
import Derived.Test.YtjnbdnabdinpeaaSet
set_option linter.unusedSimpArgs false
set_option linter.unusedVariables false
namespace Bz.S
open Go Bz

/-- roles.Pair -/
structure Pr where
  low : Txt
  high : Txt
  deriving DecidableEq
def prC (p : Pr) : List D := [.str p.low, .str p.high]
theorem prC_eq (p : Pr) : prC p = [.str p.low, .str p.high] := rfl
abbrev prA (p : Pr) : AV := .agg [.d (.str p.low), .d (.str p.high)]
abbrev prS (l : List Pr) : AV := .d (.vs false (l.map prC))
@[simp] theorem sized_pr (l : List Pr) : sized 2 (l.map prC) = true := sized_map 2 prC (fun _ => rfl) l

/-- reached from a -/
inductive Rc (l : List Pr) (a : Txt) : Txt → Prop
  | refl : Rc l a a
  | step {p : Pr} : p ∈ l → Rc l a p.low → Rc l a p.high

theorem Rc.trans {l : List Pr} {a b c : Txt} (h : Rc l a b) (h' : Rc l b c) : Rc l a c := by
  induction h' with
  | refl => exact h
  | step hp _ ih => exact .step hp ih
theorem Rc.mono {l m : List Pr} (hl : ∀ p ∈ l, p ∈ m) {a b : Txt} (h : Rc l a b) : Rc m a b := by
  induction h with
  | refl => exact .refl
  | step hp _ ih => exact .step (hl _ hp) ih

def upsP (l : List Pr) (r : Txt) : List Txt := (l.filter fun p => decide (p.low = r)).map Pr.high
theorem upsP_mem {l : List Pr} {r x : Txt} : x ∈ upsP l r ↔ ∃ p ∈ l, p.low = r ∧ p.high = x := by
  unfold upsP
  simp only [List.mem_map, List.mem_filter, decide_eq_true_eq]
  exact ⟨fun ⟨p, ⟨h1, h2⟩, h3⟩ => ⟨p, h1, h2, h3⟩, fun ⟨p, h1, h2, h3⟩ => ⟨p, ⟨h1, h2⟩, h3⟩⟩
theorem upsP_len (l : List Pr) (r : Txt) : (upsP l r).length ≤ l.length := by unfold upsP; rw [List.length_map]; exact List.length_filter_le _ _

/-! ### lists without repetition -/
theorem nodup_sub {o m : List Txt} (hn : o.Nodup) (hs : ∀ x ∈ o, x ∈ m) : o.length ≤ m.length ∧ (m.length ≤ o.length → ∀ x ∈ m, x ∈ o) := by
  induction o generalizing m with
  | nil => exact ⟨Nat.zero_le _, fun h x hx => by rw [List.length_eq_zero_iff.1 (Nat.le_zero.1 h)] at hx; exact hx⟩
  | cons a r ih =>
    obtain ⟨ha, hr⟩ := List.nodup_cons.1 hn
    have ham : a ∈ m := hs a (by simp)
    have hl : (m.erase a).length = m.length - 1 := List.length_erase_of_mem ham
    have hpos : 0 < m.length := List.length_pos_of_mem ham
    obtain ⟨h1, h2⟩ := ih (m := m.erase a) hr fun x hx => (List.mem_erase_of_ne (fun e => ha (by rw [← e]; exact hx))).2 (hs x (by simp [hx]))
    refine ⟨by simp; omega, fun h x hx => ?_⟩
    by_cases e : x = a
    · simp [e]
    · exact List.mem_cons_of_mem _ (h2 (by simp at h; omega) x ((List.mem_erase_of_ne e).2 hx))

/-! ### rounds -/
def addP (o : List Txt) (p : Pr) : List Txt := if p.low ∈ o ∧ ¬ p.high ∈ o then o ++ [p.high] else o
def oneP (l : List Pr) (o : List Txt) : List Txt := l.foldl addP o
def rcN (l : List Pr) : Nat → List Txt → List Txt
  | 0, o => o
  | n + 1, o => rcN l n (oneP l o)
def rcL (l : List Pr) (a : Txt) : List Txt := rcN l l.length [a]

theorem addP_mem {o : List Txt} {p : Pr} {x : Txt} : x ∈ addP o p ↔ x ∈ o ∨ (x = p.high ∧ p.low ∈ o) := by
  unfold addP; split <;> grind
theorem addP_len (o : List Txt) (p : Pr) : o.length ≤ (addP o p).length ∧ (addP o p).length ≤ o.length + 1 ∧ ((addP o p).length = o.length → addP o p = o) := by
  unfold addP; split <;> simp
theorem addP_nodup {o : List Txt} (h : o.Nodup) (p : Pr) : (addP o p).Nodup := by
  unfold addP; split
  · rename_i hc
    exact List.nodup_append.2 ⟨h, by simp, fun a ha b hb => by simp at hb; subst hb; intro e; subst e; exact hc.2 ha⟩
  · exact h

theorem oneP_sub : ∀ (l : List Pr) {o : List Txt} {x : Txt}, x ∈ o → x ∈ oneP l o
  | [], _, _, h => h
  | p :: r, _, _, h => oneP_sub r (addP_mem.2 (.inl h))
theorem oneP_len : ∀ (l : List Pr) (o : List Txt), o.length ≤ (oneP l o).length ∧ (oneP l o).length ≤ o.length + l.length ∧ ((oneP l o).length = o.length → oneP l o = o)
  | [], o => ⟨Nat.le_refl _, Nat.le_refl _, fun _ => rfl⟩
  | p :: r, o => by
    obtain ⟨h1, h2, h3⟩ := oneP_len r (addP o p)
    obtain ⟨g1, g2, g3⟩ := addP_len o p
    show o.length ≤ (oneP r (addP o p)).length ∧ (oneP r (addP o p)).length ≤ o.length + (r.length + 1) ∧ ((oneP r (addP o p)).length = o.length → oneP r (addP o p) = o)
    refine ⟨by omega, by omega, fun e => ?_⟩
    rw [h3 (by omega), g3 (by omega)]
theorem oneP_nodup : ∀ (l : List Pr) {o : List Txt}, o.Nodup → (oneP l o).Nodup
  | [], _, h => h
  | p :: r, _, h => oneP_nodup r (addP_nodup h p)
theorem oneP_closed : ∀ (l : List Pr) {o : List Txt}, oneP l o = o → ∀ p ∈ l, p.low ∈ o → p.high ∈ o
  | [], _, _, p, hp, _ => by simp at hp
  | q :: r, o, e, p, hp, hl => by
    have h1 := (addP_len o q).1
    have h2 := (oneP_len r (addP o q)).1
    have e' : oneP r (addP o q) = o := e
    have ea : addP o q = o := (addP_len o q).2.2 (by rw [e'] at h2; omega)
    rw [ea] at e'
    rcases List.mem_cons.1 hp with rfl | hp
    · have := addP_mem.2 (.inr ⟨rfl, hl⟩ : p.high ∈ o ∨ (p.high = p.high ∧ p.low ∈ o))
      rwa [ea] at this
    · exact oneP_closed r e' p hp hl
theorem oneP_inv (Q : Txt → Prop) : ∀ (l : List Pr) (o : List Txt), (∀ p ∈ l, Q p.low → Q p.high) → (∀ x ∈ o, Q x) → ∀ x ∈ oneP l o, Q x
  | [], _, _, h => h
  | p :: r, o, hl, h => oneP_inv Q r (addP o p) (fun q hq => hl q (by simp [hq])) fun x hx => by
    rcases addP_mem.1 hx with hx | ⟨e, hx⟩
    · exact h x hx
    · rw [e]; exact hl p (by simp) (h _ hx)

theorem rcN_fix {l : List Pr} {o : List Txt} (h : oneP l o = o) : ∀ n, rcN l n o = o
  | 0 => rfl
  | n + 1 => by rw [rcN, h]; exact rcN_fix h n
theorem rcN_inv (Q : Txt → Prop) {l : List Pr} (hl : ∀ p ∈ l, Q p.low → Q p.high) : ∀ (n : Nat) (o : List Txt), (∀ x ∈ o, Q x) → ∀ x ∈ rcN l n o, Q x
  | 0, _, h => h
  | n + 1, o, h => rcN_inv Q hl n (oneP l o) (oneP_inv Q l o hl h)
theorem rcN_sub {l : List Pr} : ∀ (n : Nat) {o : List Txt} {x : Txt}, x ∈ o → x ∈ rcN l n o
  | 0, _, _, h => h
  | n + 1, _, _, h => rcN_sub n (oneP_sub l h)
theorem rcN_nodup {l : List Pr} : ∀ (n : Nat) {o : List Txt}, o.Nodup → (rcN l n o).Nodup
  | 0, _, h => h
  | n + 1, _, h => rcN_nodup n (oneP_nodup l h)
theorem rcN_closed {l : List Pr} {a : Txt} : ∀ (n : Nat) (o : List Txt), o.Nodup → (∀ x ∈ o, x ∈ a :: l.map Pr.high) → l.length + 1 ≤ o.length + n → ∀ p ∈ l, p.low ∈ rcN l n o → p.high ∈ rcN l n o
  | 0, o, hn, hs, hl, p, hp, _ => by
    have h := (nodup_sub hn hs).2 (by simp; omega)
    exact h _ (List.mem_cons_of_mem _ (List.mem_map_of_mem hp))
  | n + 1, o, hn, hs, hl, p, hp, h => by
    by_cases e : oneP l o = o
    · rw [rcN_fix e] at h ⊢
      exact oneP_closed l e p hp h
    · have h1 := oneP_len l o
      have h2 : (oneP l o).length ≠ o.length := fun q => e (h1.2.2 q)
      refine rcN_closed (a := a) n (oneP l o) (oneP_nodup l hn) ?_ (by omega) p hp h
      exact oneP_inv (fun x => x ∈ a :: l.map Pr.high) l o (fun q hq _ => List.mem_cons_of_mem _ (List.mem_map_of_mem hq)) hs

theorem rcL_mem {l : List Pr} {a b : Txt} : b ∈ rcL l a ↔ Rc l a b := by
  constructor
  · exact rcN_inv (Rc l a) (fun p hp h => .step hp h) l.length [a] (fun x hx => by simp at hx; subst hx; exact .refl) b
  · intro h
    induction h with
    | refl => exact rcN_sub _ (by simp)
    | step hp _ ih => exact rcN_closed (a := a) l.length [a] (by simp) (by simp) (by simp; omega) _ hp ih
theorem rcL_nodup (l : List Pr) (a : Txt) : (rcL l a).Nodup := rcN_nodup _ (by simp)
theorem rcL_len (l : List Pr) (a : Txt) : (rcL l a).length ≤ l.length + 1 := by
  have := (nodup_sub (m := a :: l.map Pr.high) (rcL_nodup l a) (rcN_inv (fun x => x ∈ a :: l.map Pr.high) (fun q hq _ => List.mem_cons_of_mem _ (List.mem_map_of_mem hq)) _ _ (by simp))).1
  simpa using this

/-- what is reached, sorted -/
def rcS (l : List Pr) (a : Txt) : List Txt := setT (rcL l a)
theorem rcS_mem {l : List Pr} {a b : Txt} : b ∈ rcS l a ↔ Rc l a b := by unfold rcS; rw [setT_mem]; exact rcL_mem
theorem compL_nodup {l : List Txt} (h : l.Nodup) : compL l = l := compL_id fun j a b h1 h2 e => by
  subst e
  obtain ⟨i1, e1⟩ := List.getElem?_eq_some_iff.1 h1
  obtain ⟨i2, e2⟩ := List.getElem?_eq_some_iff.1 h2
  have := List.pairwise_iff_getElem.1 h j (j + 1) i1 i2 (by omega)
  exact this (e1.trans e2.symm)
theorem sort_nodup {l : List Txt} (h : l.Nodup) : sortTx l = setT l := by
  unfold setT
  exact (compL_nodup ((isort_perm (lt := Op.bytesLess) l).nodup_iff.2 h)).symm

/-- a way back to where one came from -/
def ringB (l : List Pr) : Bool := l.any fun p => decide (p.low ∈ rcL l p.high)

/-- all of some more, each once -/
def addAll (o us : List Txt) : List Txt := us.foldl (fun o r => if r ∈ o then o else o ++ [r]) o
theorem addAll_mem : ∀ (us o : List Txt) (x : Txt), x ∈ addAll o us ↔ x ∈ o ∨ x ∈ us
  | [], o, x => by simp [addAll]
  | r :: s, o, x => by
    have := addAll_mem s (if r ∈ o then o else o ++ [r]) x
    show x ∈ addAll (if r ∈ o then o else o ++ [r]) s ↔ _
    rw [this]
    split <;> grind
theorem addAll_nodup : ∀ (us o : List Txt), o.Nodup → (addAll o us).Nodup
  | [], _, h => h
  | r :: s, o, h => by
    show (addAll (if r ∈ o then o else o ++ [r]) s).Nodup
    refine addAll_nodup s _ ?_
    split
    · exact h
    · rename_i hr
      exact List.nodup_append.2 ⟨h, by simp, fun a ha b hb => by simp at hb; subst hb; intro e; subst e; exact hr ha⟩
theorem addAll_pre : ∀ (us o : List Txt), ∃ x, addAll o us = o ++ x
  | [], o => ⟨[], by simp [addAll]⟩
  | r :: s, o => by
    show ∃ x, addAll (if r ∈ o then o else o ++ [r]) s = o ++ x
    obtain ⟨x, hx⟩ := addAll_pre s (if r ∈ o then o else o ++ [r])
    split at hx
    · exact ⟨x, by rw [if_pos (by assumption)]; exact hx⟩
    · exact ⟨r :: x, by rw [if_neg (by assumption), hx]; simp⟩

/-- looked after one by one, as long as there are more: i are done -/
structure Bfs (l : List Pr) (a : Txt) (i : Nat) (o : List Txt) : Prop where
  nd : o.Nodup
  rc : ∀ x ∈ o, Rc l a x
  st : a ∈ o
  le : i ≤ o.length
  cl : ∀ j, j < i → ∀ x, o[j]? = some x → ∀ y ∈ upsP l x, y ∈ o

theorem Bfs.len {l : List Pr} {a : Txt} {i : Nat} {o : List Txt} (h : Bfs l a i o) : o.length ≤ l.length + 1 := by
  have h2 : ∀ x, Rc l a x → x ∈ a :: l.map Pr.high := fun x hx => by
    cases hx with
    | refl => simp
    | step hp _ => exact List.mem_cons_of_mem _ (List.mem_map_of_mem hp)
  have := (nodup_sub h.nd fun x hx => h2 x (h.rc x hx)).1
  simpa using this
theorem Bfs.step {l : List Pr} {a : Txt} {i : Nat} {o : List Txt} (h : Bfs l a i o) {x : Txt} (hx : o[i]? = some x) : Bfs l a (i + 1) (addAll o (upsP l x)) := by
  have hi := (List.getElem?_eq_some_iff.1 hx).1
  have hxo : x ∈ o := List.mem_of_getElem? hx
  obtain ⟨q, hq⟩ := addAll_pre (upsP l x) o
  refine ⟨addAll_nodup _ _ h.nd, fun y hy => ?_, (addAll_mem _ _ _).2 (.inl h.st), by rw [hq]; simp; omega, fun j hj y hy z hz => (addAll_mem _ _ _).2 ?_⟩
  · rcases (addAll_mem _ _ _).1 hy with hy | hy
    · exact h.rc y hy
    · obtain ⟨p, hp, e1, e2⟩ := upsP_mem.1 hy
      rw [← e2]
      exact .step hp (by rw [e1]; exact h.rc x hxo)
  · have hy' : o[j]? = some y := by rw [hq, List.getElem?_append_left (by omega)] at hy; exact hy
    by_cases e : j = i
    · subst e; rw [hx] at hy'; cases hy'; exact .inr hz
    · exact .inl (h.cl j (by omega) y hy' z hz)
theorem Bfs.done {l : List Pr} {a : Txt} {o : List Txt} (h : Bfs l a o.length o) (b : Txt) : b ∈ o ↔ Rc l a b := by
  refine ⟨h.rc b, fun hb => ?_⟩
  induction hb with
  | refl => exact h.st
  | step hp _ ih =>
    obtain ⟨j, hj⟩ := List.getElem?_of_mem ih
    exact h.cl j ((List.getElem?_eq_some_iff.1 hj).1) _ hj _ (upsP_mem.2 ⟨_, hp, rfl, rfl⟩)
theorem Bfs.sort {l : List Pr} {a : Txt} {o : List Txt} (h : Bfs l a o.length o) : sortTx o = rcS l a := by
  rw [sort_nodup h.nd]
  exact setT_ext fun x => by rw [h.done, rcL_mem]
theorem bfs_start (l : List Pr) (a : Txt) : Bfs l a 0 [a] := ⟨by simp, fun x hx => by simp at hx; subst hx; exact .refl, by simp, by simp, fun j hj => by omega⟩
end Bz.S
