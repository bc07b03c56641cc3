/- Roles: levels. -/
import Derived.Test.YtjnbdnabdinpeaaRc4
set_option linter.unusedSimpArgs false
set_option linter.unusedVariables false
namespace Bz.S
open Go Bz
set_option maxRecDepth 10000
set_option maxHeartbeats 4000000

/-! ### maps by texts -/
section
variable {β : Type}
def mpT (f : β → AV) (M : List (Txt × β)) : List (AV × AV) := M.map fun q => (.d (.str q.1), f q.2)
def getM (k : Txt) : List (Txt × β) → Option β
  | [] => none
  | q :: r => if k = q.1 then some q.2 else getM k r
def setM (k : Txt) (v : β) : List (Txt × β) → List (Txt × β)
  | [] => [(k, v)]
  | q :: r => if k = q.1 then (q.1, v) :: r else q :: setM k v r
theorem avEq_str (k q : Txt) : avEq (.d (.str k)) (.d (.str q)) = some (decide (k = q)) := by
  simp [avEq, scalEq]
  rw [Bool.eq_iff_iff]
  simp
theorem findE_mpT (f : β → AV) (k : Txt) : ∀ M, findE (.d (.str k)) (mpT f M) = some ((getM k M).map f)
  | [] => rfl
  | q :: r => by
    have ih := findE_mpT f k r
    unfold mpT at ih ⊢
    rw [List.map_cons]
    unfold findE getM
    rw [avEq_str]
    by_cases h : k = q.1
    · simp [h]
    · simp [h, ih]
theorem setE_mpT (f : β → AV) (k : Txt) (v : β) : ∀ M, setE (.d (.str k)) (f v) (mpT f M) = mpT f (setM k v M)
  | [] => rfl
  | q :: r => by
    have ih := setE_mpT f k v r
    unfold mpT at ih ⊢
    rw [List.map_cons]
    unfold setE setM
    rw [avEq_str]
    by_cases h : k = q.1
    · simp [h]
    · simp [h, ih]
theorem getM_mem {k : Txt} {v : β} : ∀ {M : List (Txt × β)}, getM k M = some v → (k, v) ∈ M
  | [], h => by cases h
  | q :: r, h => by
    unfold getM at h
    split at h
    · rename_i e; cases h; rw [e]; simp
    · exact List.mem_cons_of_mem _ (getM_mem h)
theorem setM_mem {k : Txt} {v : β} {x : Txt × β} : ∀ {M : List (Txt × β)}, x ∈ setM k v M → x ∈ M ∨ x = (k, v)
  | [], h => by simp [setM] at h; exact .inr h
  | q :: r, h => by
    unfold setM at h
    split at h
    · rename_i e
      rcases List.mem_cons.1 h with h | h
      · exact .inr (by rw [h, e])
      · exact .inl (by simp [h])
    · rcases List.mem_cons.1 h with h | h
      · exact .inl (by simp [h])
      · rcases setM_mem h with h | h
        · exact .inl (by simp [h])
        · exact .inr h
end

/-! ### levels -/
def levN (l : List Pr) : Nat → Txt → Nat
  | 0, _ => 0
  | n + 1, r => (upsP l r).foldl (fun m x => max m (levN l n x + 1)) 0
abbrev mu (l : List Pr) (r : Txt) : Nat := (rcL l r).length
def lev (l : List Pr) (r : Txt) : Nat := levN l (mu l r) r

theorem ring_not {l : List Pr} (h : ringB l = false) {p : Pr} (hp : p ∈ l) : ¬ Rc l p.high p.low := by
  unfold ringB at h
  rw [List.any_eq_false] at h
  have := h p hp
  simp only [decide_eq_true_eq] at this
  rwa [rcL_mem] at this
theorem mu_pos (l : List Pr) (r : Txt) : 0 < mu l r := List.length_pos_iff_exists_mem.2 ⟨r, rcL_mem.2 .refl⟩
theorem mu_lt {l : List Pr} (h : ringB l = false) {r x : Txt} (hx : x ∈ upsP l r) : mu l x < mu l r := by
  obtain ⟨p, hp, e1, e2⟩ := upsP_mem.1 hx
  subst e1 e2
  have hn := ring_not h hp
  have hs : ∀ y ∈ p.low :: rcL l p.high, y ∈ rcL l p.low := by
    intro y hy
    rcases List.mem_cons.1 hy with rfl | hy
    · exact rcL_mem.2 .refl
    · exact rcL_mem.2 ((Rc.step hp .refl).trans (rcL_mem.1 hy))
  have := (nodup_sub (List.nodup_cons.2 ⟨fun hm => hn (rcL_mem.1 hm), rcL_nodup l p.high⟩) hs).1
  unfold mu
  simp at this
  omega
theorem foldl_max_congr {f g : Txt → Nat} : ∀ (l : List Txt) (m : Nat), (∀ x ∈ l, f x = g x) → l.foldl (fun m x => max m (f x + 1)) m = l.foldl (fun m x => max m (g x + 1)) m
  | [], _, _ => rfl
  | x :: r, m, h => by
    rw [List.foldl_cons, List.foldl_cons, h x (by simp)]
    exact foldl_max_congr r _ fun y hy => h y (by simp [hy])
theorem levN_eq {l : List Pr} (h : ringB l = false) : ∀ (n : Nat) (r : Txt), mu l r ≤ n → levN l n r = lev l r := by
  intro n
  induction n using Nat.strongRecOn with
  | _ n ih =>
    intro r hr
    have hp := mu_pos l r
    match n, ih with
    | 0, _ => omega
    | n + 1, ih =>
      obtain ⟨k, hk⟩ : ∃ k, mu l r = k + 1 := ⟨mu l r - 1, by omega⟩
      unfold lev
      rw [hk]
      show (upsP l r).foldl _ 0 = (upsP l r).foldl _ 0
      refine foldl_max_congr _ _ fun x hx => ?_
      have hlt := mu_lt h hx
      rw [ih n (by omega) x (by omega), ih k (by omega) x (by omega)]
theorem lev_step {l : List Pr} (h : ringB l = false) (r : Txt) : lev l r = (upsP l r).foldl (fun m x => max m (lev l x + 1)) 0 := by
  have hp := mu_pos l r
  obtain ⟨k, hk⟩ : ∃ k, mu l r = k + 1 := ⟨mu l r - 1, by omega⟩
  unfold lev
  rw [hk]
  show (upsP l r).foldl _ 0 = _
  refine foldl_max_congr _ _ fun x hx => ?_
  have hlt := mu_lt h hx
  rw [levN_eq h k x (by omega)]
  rfl
theorem foldl_max_le {f : Txt → Nat} {b : Nat} : ∀ (l : List Txt) (m : Nat), m ≤ b → (∀ x ∈ l, f x + 1 ≤ b) → l.foldl (fun m x => max m (f x + 1)) m ≤ b
  | [], _, h, _ => h
  | x :: r, m, h, h2 => foldl_max_le r _ (by have := h2 x (by simp); show max m (f x + 1) ≤ b; omega) fun y hy => h2 y (by simp [hy])
theorem levN_le (l : List Pr) : ∀ (n : Nat) (r : Txt), levN l n r ≤ n
  | 0, _ => Nat.le_refl _
  | n + 1, r => foldl_max_le _ _ (Nat.zero_le _) fun x _ => by have := levN_le l n x; omega
theorem lev_le (l : List Pr) (r : Txt) : lev l r ≤ l.length + 1 := by
  have := levN_le l (mu l r) r
  have h2 := rcL_len l r
  unfold lev
  unfold mu at *
  omega

def KnowsM (l : List Pr) (M : List (Txt × Int)) : Prop := ∀ q ∈ M, q.2 = (lev l q.1 : Int)
abbrev iA (n : Int) : AV := .d (.int .i64 n)

theorem run_level (l : List Pr) (hl : l.length ≤ 1048576) (hr : ringB l = false) : ∀ (n : Nat) (r : Txt) (M : List (Txt × Int)), mu l r ≤ n → KnowsM l M →
    ∃ M', KnowsM l M' ∧ R F_roles_level [prS l, stA r, .map 0] [(0, .mp false [.str] (mpT iA M))] = some (.d (.int .i64 (lev l r)), [(0, .mp false [.str] (mpT iA M'))]) := by
  intro n
  induction n with
  | zero => intro r M h; have := mu_pos l r; omega
  | succ n ih =>
    intro r M hm hM
    cases hg : getM r M with
    | some v =>
      refine ⟨M, hM, ?_⟩
      have hv : v = (lev l r : Int) := hM _ (getM_mem hg)
      subst hv
      refine R_of at_roles_level (by decide) ?_
      have hf := findE_mpT iA r M
      rw [hg] at hf
      simp -implicitDefEqProofs [code_roles_level, hf]
    | none =>
      have hf := findE_mpT iA r M
      rw [hg] at hf
      have hu := run_ups l r (by unfold BIG; omega)
      have hul := upsP_len l r
      obtain ⟨res, ⟨M', hM', rfl⟩, hL⟩ := loop_upto (X := X) (mask := mask_roles_level_0) (body := body_roles_level_0) (σ := List (Txt × Int)) (upsP l r).length
        (fun i M => ⟨mkE 40 [(0, prS l), (1, stA r), (2, .map 0), (9, .d (.int .i64 (((upsP l r).take i).foldl (fun m x => max m (lev l x + 1)) 0 : Nat))), (22, txS (upsP l r)), (23, .d (.int .i64 (upsP l r).length)), (24, .d (.int .i64 i))], [(0, .mp false [.str] (mpT iA M))]⟩)
        (fun _ M => KnowsM l M)
        (fun res => ∃ M', KnowsM l M' ∧ res = (.exit 0, ⟨mkE 40 [(1, stA r), (2, .map 0), (9, .d (.int .i64 (lev l r)))], [(0, .mp false [.str] (mpT iA M'))]⟩))
        (fun i M hi hM => by
          obtain ⟨x, hx⟩ : ∃ x, (upsP l r)[i] = x := ⟨_, rfl⟩
          have hxm : x ∈ upsP l r := hx ▸ List.getElem_mem hi
          obtain ⟨M', hM', hc⟩ := ih x M (by have := mu_lt hr hxm; omega) hM
          refine .inl ⟨M', hM', ?_⟩
          have hw := wrap_ok (a := (i : Int) + 1) (by omega) (by omega)
          have hle := lev_le l x
          have hw2 := wrap_ok (a := (lev l x : Int) + 1) (by omega) (by omega)
          have ht : ((upsP l r).take (i + 1)).foldl (fun m x => max m (lev l x + 1)) 0 = max (((upsP l r).take i).foldl (fun m x => max m (lev l x + 1)) 0) (lev l x + 1) := by
            rw [List.take_succ_eq_append_getElem hi, hx, List.foldl_append]; rfl
          rw [ht]
          generalize ((upsP l r).take i).foldl (fun m x => max m (lev l x + 1)) 0 = m
          have hmx : (if (m : Int) < (lev l x : Int) + 1 then (lev l x : Int) + 1 else (m : Int)) = ((max m (lev l x + 1) : Nat) : Int) := by split <;> omega
          simp -implicitDefEqProofs [body_roles_level_0, mask_roles_level_0, hi, hx, hc, hw, hw2, hmx])
        (fun M hM => by
          rw [List.take_of_length_le (Nat.le_refl _), ← lev_step hr]
          refine ⟨(.exit 0, ⟨mkE 40 [(1, stA r), (2, .map 0), (9, .d (.int .i64 (lev l r)))], [(0, .mp false [.str] (mpT iA M))]⟩), ?_, by simp, M, hM, rfl⟩
          simp -implicitDefEqProofs [body_roles_level_0]) M hM
      have hs := setE_mpT iA r (lev l r : Int) M'
      have hf' := findE_mpT iA r M'
      refine ⟨setM r (lev l r) M', fun q hq => ?_, ?_⟩
      · rcases setM_mem hq with h | h
        · exact hM' _ h
        · rw [h]
      refine R_of at_roles_level (by decide) ?_
      simp -implicitDefEqProofs [code_roles_level, hf, hu]
      rw [hL _ (by simp -implicitDefEqProofs [mask_roles_level_0])]
      simp -implicitDefEqProofs [hf', hs]

def levI (l : List Pr) (r : Txt) : Int := if ringB l then -1 else lev l r
theorem run_RLevel (l : List Pr) (hl : l.length ≤ 1048576) (r : Txt) : R F_roles_Level [prS l, stA r] [] = some (.d (.int .i64 (levI l r)), []) := by
  refine R_of at_roles_Level (by decide) ?_
  have h := run_ring l hl
  unfold levI
  cases hr : ringB l with
  | true => rw [hr] at h; simp -implicitDefEqProofs [code_roles_Level, h]
  | false =>
    rw [hr] at h
    obtain ⟨M', _, hv⟩ := run_level l hl hr _ r [] (Nat.le_refl _) (fun _ h => by cases h)
    rw [show mpT iA [] = [] from rfl] at hv
    simp -implicitDefEqProofs [code_roles_Level, h, hv]

theorem foldl_ups (f : Txt → Nat) (r : Txt) : ∀ (l : List Pr) (m : Nat), (upsP l r).foldl (fun m x => max m (f x + 1)) m = l.foldl (fun m p => if p.low = r then max m (f p.high + 1) else m) m
  | [], _ => rfl
  | p :: t, m => by
    have ih := foldl_ups f r t
    unfold upsP at ih ⊢
    by_cases h : p.low = r <;> simp [h, ih]
theorem foldI_l {α β : Type} (g : β → α → β) : ∀ (l : List α) (i : Nat) (o : β), foldI (fun _ a x => g a x) l i o = l.foldl g o
  | [], _, _ => rfl
  | x :: r, i, o => by rw [foldI_cons, foldI_l g r]; rfl
theorem run_RolesLevels (l : List Pr) (r : Txt) (hb0 : bulkL [.vs false (l.map prC)] + bulkL [.str r] ≤ 1048576) : R F_law31_RolesLevels [prS l, stA r] [] = some (.d (.bool true), []) := by
  refine R_of at_law31_RolesLevels (by decide) ?_
  have hf := run_31few l
  have hlen : (few31 l).length ≤ 30 := by unfold few31; simp; omega
  generalize few31 l = m at *
  have h1 := run_31ring m (by omega)
  have h2 := run_RLevel m (by omega)
  unfold levI at h2
  cases hr : ringB m with
  | true =>
    rw [hr] at h1
    simp only [hr, if_true] at h2
    have h2' := h2 r
    simp -implicitDefEqProofs [code_law31_RolesLevels, alive31, hf, h1, h2']
  | false =>
    rw [hr] at h1
    simp only [hr, Bool.false_eq_true, if_false] at h2
    have h2' := h2 r
    have hL := loop_fold (X := X) (mask := mask_law31_RolesLevels_0) (body := body_law31_RolesLevels_0) m
      (fun i (a : Nat) => ⟨mkE 45 [(0, prS m), (1, stA r), (5, .d (.int .i64 a)), (6, .d (.int .i64 i))], []⟩)
      (fun _ _ => True) (fun _ a p => if p.low = r then max a (lev m p.high + 1) else a)
      (fun a => (.exit 0, ⟨mkE 45 [(0, prS m), (1, stA r), (5, .d (.int .i64 a))], []⟩)) (by simp)
      (fun i a p hi hx _ => by
        refine ⟨trivial, ?_⟩
        obtain ⟨x, y⟩ := p
        have hw := wrap_ok (a := (i : Int) + 1) (by omega) (by omega)
        have hle := lev_le m y
        have hw2 := wrap_ok (a := (lev m y : Int) + 1) (by omega) (by omega)
        have h3 := h2 y
        have hmx : (if (a : Int) < (lev m y : Int) + 1 then (lev m y : Int) + 1 else (a : Int)) = ((max a (lev m y + 1) : Nat) : Int) := by split <;> omega
        by_cases e : x = r
        · subst e
          simp -implicitDefEqProofs [body_law31_RolesLevels_0, mask_law31_RolesLevels_0, hi, hx, prC_eq, hw, hw2, h3, hmx]
        · simp -implicitDefEqProofs [body_law31_RolesLevels_0, mask_law31_RolesLevels_0, hi, hx, prC_eq, hw, e]) (fun a _ => by
        simp -implicitDefEqProofs [body_law31_RolesLevels_0]) 0 trivial
    rw [foldI_l (fun (a : Nat) (p : Pr) => if p.low = r then max a (lev m p.high + 1) else a) m 0 0, ← foldl_ups, ← lev_step hr] at hL
    simp -implicitDefEqProofs [code_law31_RolesLevels, alive31, hf, h1]
    rw [hL _ (by simp -implicitDefEqProofs [mask_law31_RolesLevels_0])]
    simp -implicitDefEqProofs [h2']
end Bz.S
