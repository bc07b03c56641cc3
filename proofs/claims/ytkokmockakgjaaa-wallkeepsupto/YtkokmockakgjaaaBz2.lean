/- The clean machine, part 3: values without memory, an interpreter of translated code over them, and that it is right about the program; no program in sight. No condition. -/
import Derived.Test.YtkokmockakgjaaaBz1
import Derived.Laws.StandIn
import Derived.ChangeSame
import Derived.OpenShut
import Derived.RowKit
set_option linter.unusedSimpArgs false
set_option linter.unusedVariables false
/- Limits: a function's answer, whatever the fuel. -/
namespace Bz
open Go

def leC (C C' : Callee) : Prop := ∀ f a H r, C f a H = some r → C' f a H = some r

theorem acall_mono {X X' : Ctx} (ho : X'.own = X.own) (hC : leC X.C X'.C) {nm : Nat} {H : Heap} {f : Nat} {args : List AV} {r : AV × Upd × List Nat} (h : acall X nm H f args = some r) : acall X' nm H f args = some r := by
  unfold acall at h ⊢
  rw [ho]
  split at h
  · cases h
  · simp only at h ⊢
    split at h
    · cases h
    · split at h
      · cases h
      · rename_i rv Ho hc
        rw [hC _ _ _ _ hc]
        exact h

theorem aop_mono {X X' : Ctx} (ho : X'.own = X.own) (hC : leC X.C X'.C) {nm : Nat} {H : Heap} {op : AOpOf AV} {r : AV × Upd × List Nat} (h : aop X nm H op = some r) : aop X' nm H op = some r := by
  cases op
  case call f args =>
    simp only [aop] at h ⊢
    split at h
    · exact acall_mono ho hC h
    · cases h
  all_goals exact h

theorem aops_mono {X X' : Ctx} (ho : X'.own = X.own) (hC : leC X.C X'.C) {rid : Nat} : ∀ (r : List AOper) (i : Nat) (s s' : St), aops X rid r i s = some s' → aops X' rid r i s = some s'
  | [], _, _, _, h => h
  | o :: r, i, s, s', h => by
    simp only [aops] at h ⊢
    split at h
    · cases h
    · exact aops_mono ho hC r (i + 1) _ s' h
    · split at h
      · cases h
      · rename_i v u nw hop
        rw [aop_mono ho hC hop]
        simp only
        split at h
        · rename_i hf; rw [if_pos hf]; exact aops_mono ho hC r (i + 1) _ s' h
        · cases h

theorem aopsD_mono {X X' : Ctx} (ho : X'.own = X.own) (hC : leC X.C X'.C) {rid : Nat} {s0 : St} : ∀ (r : List AOper) (i : Nat) (s s' : St) (fs : List Foot), aopsD X rid s0 r i s fs = some s' → aopsD X' rid s0 r i s fs = some s'
  | [], _, _, _, _, h => h
  | o :: r, i, s, s', fs, h => by
    simp only [aopsD] at h ⊢
    split at h
    · cases h
    · exact aopsD_mono ho hC r (i + 1) _ s' fs h
    · split at h
      · cases h
      · rename_i v u nw hop
        rw [aop_mono ho hC hop]
        simp only
        split at h
        · rename_i hf; rw [if_pos hf]; exact aopsD_mono ho hC r (i + 1) _ s' _ h
        · cases h

theorem rounds_mono {b b' : St → Option (AExit × St)} (hb : ∀ s r, b s = some r → b' s = some r) (mask : Mask) : ∀ (n n' : Nat) (s : St) (r : AExit × St), n ≤ n' → rounds b mask n s = some r → rounds b' mask n' s = some r
  | 0, _, _, _, _, h => by simp [rounds] at h
  | n + 1, 0, _, _, hl, _ => by omega
  | n + 1, n' + 1, s, r, hl, h => by
    simp only [rounds] at h ⊢
    cases hbs : b (trim mask s) with
    | none => rw [hbs] at h; cases h
    | some q =>
      obtain ⟨e, s1⟩ := q
      rw [hbs] at h
      rw [hb _ _ hbs]
      cases e with
      | norm => exact rounds_mono hb mask n n' s1 r (by omega) h
      | exit id => exact h
      | ret => exact h
      | goto l => exact h

theorem jumps_mono {b b' : St → Option (AExit × St)} (hb : ∀ s r, b s = some r → b' s = some r) (mask : Mask) (l : Nat) : ∀ (n n' : Nat) (s : St) (r : AExit × St), n ≤ n' → jumps b mask l n s = some r → jumps b' mask l n' s = some r
  | 0, _, _, _, _, h => by simp [jumps] at h
  | n + 1, 0, _, _, hl, _ => by omega
  | n + 1, n' + 1, s, r, hl, h => by
    simp only [jumps] at h ⊢
    cases hbs : b (trim mask s) with
    | none => rw [hbs] at h; cases h
    | some q =>
      obtain ⟨e, s1⟩ := q
      rw [hbs] at h
      rw [hb _ _ hbs]
      cases e with
      | norm => exact h
      | exit id => exact h
      | ret => exact h
      | goto j =>
        simp only at h ⊢
        split at h
        · rename_i hj; rw [if_pos hj]; exact jumps_mono hb mask l n n' s1 r (by omega) h
        · cases h

theorem bothK_self {a b : Option (AExit × St)} {r : AExit × St} (h : bothK a b = some r) : bothK (some r) (some r) = some r := by
  obtain ⟨rfl, rfl⟩ := bothK_some h
  exact h

theorem aexec_mono {X X' : Ctx} (ho : X'.own = X.own) (hC : leC X.C X'.C) {k k' : Nat} (hk : k ≤ k') : ∀ (c : ACode) (s : St) (r : AExit × St), aexec X k c s = some r → aexec X' k' c s = some r := by
  intro c
  induction c with
  | skip => intro s r h; exact h
  | region id ops dr =>
    intro s r h
    simp only [aexec] at h ⊢
    obtain ⟨s1, h1, rfl⟩ := Option.map_eq_some_iff.1 h
    split at h1
    · rename_i hd; rw [if_pos hd, aopsD_mono ho hC _ _ _ _ _ h1]; rfl
    · rename_i hd; rw [if_neg hd, aops_mono ho hC _ _ _ _ h1]; rfl
  | seq a b iha ihb =>
    intro s r h
    simp only [aexec] at h ⊢
    cases ha : aexec X k a s with
    | none => rw [ha] at h; cases h
    | some q =>
      obtain ⟨e, s1⟩ := q
      rw [ha] at h
      rw [iha _ _ ha]
      cases e with
      | norm => exact ihb _ _ h
      | exit id => exact h
      | ret => exact h
      | goto l => exact h
  | cond c a b iha ihb =>
    intro s r h
    simp only [aexec] at h ⊢
    split at h
    · rename_i t ht
      cases t with
      | true => exact iha _ _ h
      | false => exact ihb _ _ h
    · obtain ⟨h1, h2⟩ := bothK_some h
      rw [iha _ _ h1, ihb _ _ h2]
      exact bothK_self h
    · cases h
  | guard p c a b ihp iha ihb =>
    intro s r h
    simp only [aexec] at h ⊢
    cases ha : aexec X k p s with
    | none => rw [ha] at h; cases h
    | some q =>
      obtain ⟨e, s1⟩ := q
      rw [ha] at h
      rw [ihp _ _ ha]
      cases e with
      | exit id => exact h
      | ret => exact h
      | goto l => exact h
      | norm =>
        simp only at h ⊢
        have hcut : ∀ {r : AExit × St}, cutN (aexec X k a s1) = some r → cutN (aexec X' k' a s1) = some r := by
          intro r h
          obtain ⟨h1, h2⟩ := cutN_some h
          rw [h1] at h
          rw [iha _ _ h1]
          exact h
        split at h
        · rename_i t ht
          cases t with
          | true => exact hcut h
          | false => exact ihb _ _ h
        · obtain ⟨h1, h2⟩ := bothK_some h
          rw [hcut h1, ihb _ _ h2]
          exact bothK_self h
        · cases h
  | block id c ih =>
    intro s r h
    simp only [aexec] at h ⊢
    cases ha : aexec X k c s with
    | none => rw [ha] at h; cases h
    | some q => rw [ha] at h; rw [ih _ _ ha]; exact h
  | loop mask c ih =>
    intro s r h
    simp only [aexec] at h ⊢
    exact rounds_mono ih mask k k' s r hk h
  | mask m c ih => intro s r h; simp only [aexec] at h ⊢; exact ih _ _ h
  | exit id => intro s r h; exact h
  | ret => intro s r h; exact h
  | goto l => intro s r h; exact h
  | scope l m p b ihp ihb =>
    intro s r h
    simp only [aexec] at h ⊢
    cases ha : aexec X k p s with
    | none => rw [ha] at h; cases h
    | some q =>
      obtain ⟨e, s1⟩ := q
      rw [ha] at h
      rw [ihp _ _ ha]
      cases e with
      | norm => exact jumps_mono ihb m l k k' s1 r hk h
      | exit id => exact h
      | ret => exact h
      | goto l => cases h
  | bad => intro s r h; simp [aexec] at h

/-- what a body's end comes to -/
def finish (X : Ctx) (f : Nat) (rs : List ARes) (H : Heap) : Option (AExit × St) → Option (AV × Heap)
  | some (.norm, s) | some (.ret, s) =>
    match aresults s rs with
    | none => none
    | some vs =>
      match viewRes (X.retOwn f) s.H (mkRes vs) with
      | none => none
      | some (rv, H2) =>
        let L := reach H2 RF (List.range H.length ++ refs rv) []
        match pack H2 (fun l => L.idxOf l) 0 L with
        | none => none
        | some Ho => if nodupB L && (L.take H.length == List.range H.length) then some (ren (fun l => L.idxOf l) rv, Ho) else none
  | _ => none

def start (n : Nat) (args : List AV) (H : Heap) : St := { E := args ++ List.replicate (n - args.length) .undef, H := H }

theorem abody_eq (X : Ctx) (k f : Nat) (fn : AFunc) (args : List AV) (H : Heap) : abody X k f fn args H = finish X f fn.results H (aexec X k fn.body (start fn.ntmps args H)) := by
  unfold abody finish start
  rfl

theorem finish_mono {X X' : Ctx} (hr : X'.retOwn = X.retOwn) (f : Nat) (rs : List ARes) (H : Heap) (o : Option (AExit × St)) : finish X' f rs H o = finish X f rs H o := by
  unfold finish
  rw [hr]

section
variable (own retOwn : Nat → Bool) (ext : Callee) (code : Nat → Option AFunc)

theorem run_mono1 : ∀ k, leC (run own retOwn ext code k) (run own retOwn ext code (k + 1))
  | 0, _, _, _, _, h => by simp [run] at h
  | k + 1, f, a, H, r, h => by
    have ih := run_mono1 k
    rw [run] at h ⊢
    cases he : ext f a H with
    | some q => rw [he] at h; exact h
    | none =>
      rw [he] at h
      cases hc : code f with
      | none => rw [hc] at h; cases h
      | some fn =>
        rw [hc] at h
        simp only at h ⊢
        rw [abody_eq] at h ⊢
        cases hx : aexec { own, retOwn, C := run own retOwn ext code k } k fn.body (start fn.ntmps a H) with
        | none => rw [hx] at h; simp [finish] at h
        | some q =>
          have := aexec_mono (X := { own, retOwn, C := run own retOwn ext code k }) (X' := { own, retOwn, C := run own retOwn ext code (k + 1) }) rfl ih (Nat.le_succ k) _ _ _ hx
          rw [this]
          rw [hx] at h
          exact h

theorem run_mono {k k' : Nat} (h : k ≤ k') : leC (run own retOwn ext code k) (run own retOwn ext code k') := by
  induction h with
  | refl => exact fun _ _ _ _ h => h
  | step _ ih => exact fun f a H r h => run_mono1 own retOwn ext code _ f a H r (ih f a H r h)

open Classical in
noncomputable def lim {α : Type} (f : Nat → Option α) : Option α := if h : ∃ n r, f n = some r then some (Classical.choose (Classical.choose_spec h)) else none

theorem lim_some {α : Type} {f : Nat → Option α} {r : α} (h : lim f = some r) : ∃ n, f n = some r := by
  unfold lim at h
  split at h
  · rename_i hex
    cases h
    exact ⟨_, Classical.choose_spec (Classical.choose_spec hex)⟩
  · cases h

theorem lim_of {α : Type} {f : Nat → Option α} (hm : ∀ n m r, n ≤ m → f n = some r → f m = some r) {n : Nat} {r : α} (h : f n = some r) : lim f = some r := by
  have hex : ∃ n r, f n = some r := ⟨n, r, h⟩
  have : ∃ r', lim f = some r' := by unfold lim; rw [dif_pos hex]; exact ⟨_, rfl⟩
  obtain ⟨r', hr'⟩ := this
  obtain ⟨m, hm'⟩ := lim_some hr'
  have h1 := hm n (max n m) r (Nat.le_max_left _ _) h
  have h2 := hm m (max n m) r' (Nat.le_max_right _ _) hm'
  rw [h1] at h2; cases h2
  exact hr'

/-- a function's answer -/
noncomputable def RUN : Callee := fun f args H => lim fun k => run own retOwn ext code k f args H

noncomputable def XL : Ctx := { own, retOwn, C := RUN own retOwn ext code }

theorem RUN_some {f : Nat} {args : List AV} {H : Heap} {r : AV × Heap} (h : RUN own retOwn ext code f args H = some r) : ∃ k, run own retOwn ext code k f args H = some r := lim_some h

theorem RUN_run {k f : Nat} {args : List AV} {H : Heap} {r : AV × Heap} (h : run own retOwn ext code k f args H = some r) : RUN own retOwn ext code f args H = some r :=
  lim_of (fun _ _ _ hl h => run_mono own retOwn ext code hl _ _ _ _ h) h

/-- one after another -/
def seqK (r : Option (AExit × St)) (k : St → Option (AExit × St)) : Option (AExit × St) := match r with
  | some (.norm, s) => k s
  | r => r

/-- behind what stands ahead of the label -/
def scpK (r : Option (AExit × St)) (k : St → Option (AExit × St)) : Option (AExit × St) := match r with
  | some (.norm, s) => k s
  | some (.goto _, _) => none
  | r => r

def blkK (id : Nat) (r : Option (AExit × St)) : Option (AExit × St) := match r with
  | some (.exit j, s) => if j = id then some (.norm, s) else some (.exit j, s)
  | r => r

def condK (v : AV) (a b : Option (AExit × St)) : Option (AExit × St) := match v with
  | .d (.bool t) => if t = true then a else b
  | .anyb => bothK a b
  | _ => none

/-- code, loops as long as they take -/
noncomputable def exL (X : Ctx) : ACode → St → Option (AExit × St)
  | .skip, s => some (.norm, s)
  | .region id ops dr, s => (if dr then aopsD X id s ops 0 s [] else aops X id ops 0 s).map (.norm, ·)
  | .seq a b, s => seqK (exL X a s) fun s => exL X b s
  | .cond c a b, s => condK (aev s.E c) (exL X a s) (exL X b s)
  | .guard p c a b, s => seqK (exL X p s) fun s => condK (aev s.E c) (cutN (exL X a s)) (exL X b s)
  | .block id c, s => blkK id (exL X c s)
  | .loop mask c, s => lim fun n => rounds (exL X c) mask n s
  | .mask m c, s => exL X c (trim m s)
  | .exit id, s => some (.exit id, s)
  | .ret, s => some (.ret, s)
  | .goto l, s => some (.goto l, s)
  | .scope l m p b, s => scpK (exL X p s) fun s => lim fun n => jumps (exL X b) m l n s
  | .bad, _ => none

/-- a pass that jumps, and the others -/
theorem scope_goto {X : Ctx} {l : Nat} {m : Mask} {c : ACode} {s s' : St} {r : AExit × St} (h : exL X c (trim m s) = some (.goto l, s')) (h' : (lim fun n => jumps (exL X c) m l n s') = some r) : (lim fun n => jumps (exL X c) m l n s) = some r := by
  obtain ⟨n, hn⟩ := lim_some h'
  refine lim_of (fun n n' r hl h => jumps_mono (fun _ _ h => h) m l n n' s r hl h) (n := n + 1) ?_
  simp only [jumps, h, hn, if_true]
/-- the last pass -/
theorem scope_end {X : Ctx} {l : Nat} {m : Mask} {c : ACode} {s s' : St} {e : AExit} (h : exL X c (trim m s) = some (e, s')) (he : ∀ j, e ≠ .goto j) : (lim fun n => jumps (exL X c) m l n s) = some (e, s') := by
  refine lim_of (fun n n' r hl h => jumps_mono (fun _ _ h => h) m l n n' s r hl h) (n := 1) ?_
  simp only [jumps, h]
  cases e with
  | goto j => exact absurd rfl (he j)
  | _ => rfl

theorem loop_norm {X : Ctx} {mask : Mask} {c : ACode} {s s' : St} {r : AExit × St} (h : exL X c (trim mask s) = some (.norm, s')) (h' : exL X (.loop mask c) s' = some r) : exL X (.loop mask c) s = some r := by
  simp only [exL] at h' ⊢
  obtain ⟨n, hn⟩ := lim_some h'
  refine lim_of (fun n m r hl h => rounds_mono (fun _ _ h => h) mask n m s r hl h) (n := n + 1) ?_
  simp only [rounds, h, hn]

theorem loop_end {X : Ctx} {mask : Mask} {c : ACode} {s s' : St} {e : AExit} (h : exL X c (trim mask s) = some (e, s')) (he : e ≠ .norm) : exL X (.loop mask c) s = some (e, s') := by
  simp only [exL]
  refine lim_of (fun n m r hl h => rounds_mono (fun _ _ h => h) mask n m s r hl h) (n := 1) ?_
  simp only [rounds, h]
  cases e with
  | norm => exact absurd rfl he
  | _ => rfl

/-! ### from the limit to some fuel -/
theorem acall_cont {nm : Nat} {H : Heap} {f : Nat} {args : List AV} {r : AV × Upd × List Nat} (h : acall (XL own retOwn ext code) nm H f args = some r) : ∃ k, acall { own, retOwn, C := run own retOwn ext code k } nm H f args = some r := by
  change acall { own, retOwn, C := RUN own retOwn ext code } nm H f args = some r at h
  unfold acall at h
  dsimp only at h
  split at h
  · cases h
  · rename_i as has
    split at h
    · cases h
    · rename_i q hq
      split at h
      · cases h
      · rename_i rv Ho hc
        obtain ⟨k, hk⟩ := RUN_some own retOwn ext code hc
        refine ⟨k, ?_⟩
        unfold acall
        dsimp only
        rw [has]
        dsimp only
        rw [hq]
        dsimp only
        rw [hk]
        exact h

theorem aop_cont {nm : Nat} {H : Heap} {op : AOpOf AV} {r : AV × Upd × List Nat} (h : aop (XL own retOwn ext code) nm H op = some r) : ∃ k, aop { own, retOwn, C := run own retOwn ext code k } nm H op = some r := by
  cases op
  case call f args =>
    simp only [aop] at h ⊢
    split at h
    · exact acall_cont own retOwn ext code h
    · cases h
  all_goals exact ⟨0, h⟩

theorem aops_cont {rid : Nat} : ∀ (r : List AOper) (i : Nat) (s s' : St), aops (XL own retOwn ext code) rid r i s = some s' → ∃ k, aops { own, retOwn, C := run own retOwn ext code k } rid r i s = some s'
  | [], _, _, _, h => ⟨0, h⟩
  | o :: r, i, s, s', h => by
    simp only [aops] at h ⊢
    split at h
    · cases h
    · exact aops_cont r (i + 1) _ s' h
    · split at h
      · cases h
      · rename_i v u nw hop
        split at h
        · rename_i hf
          obtain ⟨k1, h1⟩ := aop_cont own retOwn ext code hop
          obtain ⟨k2, h2⟩ := aops_cont r (i + 1) _ s' h
          refine ⟨max k1 k2, ?_⟩
          rw [aop_mono (X := { own, retOwn, C := run own retOwn ext code k1 }) (X' := { own, retOwn, C := run own retOwn ext code (max k1 k2) }) rfl (run_mono own retOwn ext code (Nat.le_max_left k1 k2)) h1]
          simp only [hf, if_true]
          exact aops_mono (X := { own, retOwn, C := run own retOwn ext code k2 }) (X' := { own, retOwn, C := run own retOwn ext code (max k1 k2) }) rfl (run_mono own retOwn ext code (Nat.le_max_right k1 k2)) _ _ _ _ h2
        · cases h

theorem aopsD_cont {rid : Nat} {s0 : St} : ∀ (r : List AOper) (i : Nat) (s s' : St) (fs : List Foot), aopsD (XL own retOwn ext code) rid s0 r i s fs = some s' → ∃ k, aopsD { own, retOwn, C := run own retOwn ext code k } rid s0 r i s fs = some s'
  | [], _, _, _, _, h => ⟨0, h⟩
  | o :: r, i, s, s', fs, h => by
    simp only [aopsD] at h ⊢
    split at h
    · cases h
    · exact aopsD_cont r (i + 1) _ s' fs h
    · split at h
      · cases h
      · rename_i v u nw hop
        split at h
        · rename_i hf
          obtain ⟨k1, h1⟩ := aop_cont own retOwn ext code hop
          obtain ⟨k2, h2⟩ := aopsD_cont r (i + 1) _ s' _ h
          refine ⟨max k1 k2, ?_⟩
          rw [aop_mono (X := { own, retOwn, C := run own retOwn ext code k1 }) (X' := { own, retOwn, C := run own retOwn ext code (max k1 k2) }) rfl (run_mono own retOwn ext code (Nat.le_max_left k1 k2)) h1]
          simp only [hf, if_true]
          exact aopsD_mono (X := { own, retOwn, C := run own retOwn ext code k2 }) (X' := { own, retOwn, C := run own retOwn ext code (max k1 k2) }) rfl (run_mono own retOwn ext code (Nat.le_max_right k1 k2)) _ _ _ _ _ h2
        · cases h

theorem exL_cont : ∀ (c : ACode) (s : St) (r : AExit × St), exL (XL own retOwn ext code) c s = some r → ∃ k, aexec { own, retOwn, C := run own retOwn ext code k } k c s = some r := by
  have up : ∀ {k k' : Nat} {c : ACode} {s : St} {r : AExit × St}, k ≤ k' → aexec { own, retOwn, C := run own retOwn ext code k } k c s = some r → aexec { own, retOwn, C := run own retOwn ext code k' } k' c s = some r :=
    fun {k k'} _ _ _ hl h => aexec_mono (X := { own, retOwn, C := run own retOwn ext code k }) (X' := { own, retOwn, C := run own retOwn ext code k' }) rfl (run_mono own retOwn ext code hl) hl _ _ _ h
  intro c
  induction c with
  | skip => intro s r h; exact ⟨0, h⟩
  | region id ops dr =>
    intro s r h
    simp only [exL] at h
    obtain ⟨s1, h1, rfl⟩ := Option.map_eq_some_iff.1 h
    simp only [aexec]
    split at h1
    · rename_i hd
      obtain ⟨k, hk⟩ := aopsD_cont own retOwn ext code _ _ _ _ _ h1
      exact ⟨k, by rw [if_pos hd, hk]; rfl⟩
    · rename_i hd
      obtain ⟨k, hk⟩ := aops_cont own retOwn ext code _ _ _ _ h1
      exact ⟨k, by rw [if_neg hd, hk]; rfl⟩
  | seq a b iha ihb =>
    intro s r h
    simp only [exL, seqK] at h
    simp only [aexec]
    cases ha : exL (XL own retOwn ext code) a s with
    | none => rw [ha] at h; cases h
    | some q =>
      obtain ⟨e, s1⟩ := q
      rw [ha] at h
      obtain ⟨k1, h1⟩ := iha _ _ ha
      cases e with
      | norm =>
        obtain ⟨k2, h2⟩ := ihb _ _ h
        refine ⟨max k1 k2, ?_⟩
        rw [up (Nat.le_max_left k1 k2) h1]
        exact up (Nat.le_max_right k1 k2) h2
      | exit id => exact ⟨k1, by rw [h1]; exact h⟩
      | ret => exact ⟨k1, by rw [h1]; exact h⟩
      | goto l => exact ⟨k1, by rw [h1]; exact h⟩
  | cond c a b iha ihb =>
    intro s r h
    simp only [exL, condK] at h
    simp only [aexec]
    split at h
    · rename_i t ht
      simp only [ht]
      cases t with
      | true => exact iha _ _ h
      | false => exact ihb _ _ h
    · rename_i ht
      simp only [ht]
      obtain ⟨h1, h2⟩ := bothK_some h
      obtain ⟨k1, g1⟩ := iha _ _ h1
      obtain ⟨k2, g2⟩ := ihb _ _ h2
      refine ⟨max k1 k2, ?_⟩
      rw [up (Nat.le_max_left k1 k2) g1, up (Nat.le_max_right k1 k2) g2]
      exact bothK_self h
    · cases h
  | guard p c a b ihp iha ihb =>
    intro s r h
    simp only [exL, seqK] at h
    simp only [aexec]
    cases ha : exL (XL own retOwn ext code) p s with
    | none => rw [ha] at h; cases h
    | some q =>
      obtain ⟨e, s1⟩ := q
      rw [ha] at h
      obtain ⟨k0, h0⟩ := ihp _ _ ha
      cases e with
      | exit id => exact ⟨k0, by rw [h0]; exact h⟩
      | ret => exact ⟨k0, by rw [h0]; exact h⟩
      | goto l => exact ⟨k0, by rw [h0]; exact h⟩
      | norm =>
        have hcut : ∀ {r : AExit × St}, cutN (exL (XL own retOwn ext code) a s1) = some r → ∃ k, cutN (aexec { own, retOwn, C := run own retOwn ext code k } k a s1) = some r ∧ aexec { own, retOwn, C := run own retOwn ext code k } k a s1 = some r := by
          intro r h
          obtain ⟨h1, h2⟩ := cutN_some h
          obtain ⟨k, hk⟩ := iha _ _ h1
          rw [h1] at h
          exact ⟨k, by rw [hk]; exact h, hk⟩
        simp only [condK] at h
        split at h
        · rename_i t ht
          cases t with
          | true =>
            obtain ⟨k1, g1, g2⟩ := hcut h
            refine ⟨max k0 k1, ?_⟩
            rw [up (Nat.le_max_left k0 k1) h0]
            simp only [ht, if_true]
            rw [up (Nat.le_max_right k0 k1) g2]
            rw [g2] at g1
            exact g1
          | false =>
            obtain ⟨k1, g1⟩ := ihb _ _ h
            refine ⟨max k0 k1, ?_⟩
            rw [up (Nat.le_max_left k0 k1) h0]
            simp only [ht, Bool.false_eq_true, if_false]
            exact up (Nat.le_max_right k0 k1) g1
        · rename_i ht
          obtain ⟨h1, h2⟩ := bothK_some h
          obtain ⟨k1, g1, g2⟩ := hcut h1
          obtain ⟨k2, g3⟩ := ihb _ _ h2
          refine ⟨max k0 (max k1 k2), ?_⟩
          rw [up (Nat.le_max_left _ _) h0]
          simp only [ht]
          rw [up (Nat.le_trans (Nat.le_max_left k1 k2) (Nat.le_max_right _ _)) g2, up (Nat.le_trans (Nat.le_max_right k1 k2) (Nat.le_max_right _ _)) g3]
          rw [g2] at g1
          rw [g1]
          exact bothK_self h
        · cases h
  | block id c ih =>
    intro s r h
    simp only [exL, blkK] at h
    simp only [aexec]
    cases ha : exL (XL own retOwn ext code) c s with
    | none => rw [ha] at h; cases h
    | some q =>
      obtain ⟨k, hk⟩ := ih _ _ ha
      rw [ha] at h
      exact ⟨k, by rw [hk]; exact h⟩
  | loop mask c ih =>
    intro s r h
    simp only [exL] at h
    obtain ⟨n, hn⟩ := lim_some h
    simp only [aexec]
    have key : ∀ (n : Nat) (s : St), rounds (exL (XL own retOwn ext code) c) mask n s = some r → ∃ k, rounds (aexec { own, retOwn, C := run own retOwn ext code k } k c) mask n s = some r := by
      intro n
      induction n with
      | zero => intro s h; simp [rounds] at h
      | succ n ihn =>
        intro s h
        simp only [rounds] at h ⊢
        cases ha : exL (XL own retOwn ext code) c (trim mask s) with
        | none => rw [ha] at h; cases h
        | some q =>
          obtain ⟨e, s1⟩ := q
          rw [ha] at h
          obtain ⟨k1, h1⟩ := ih _ _ ha
          cases e with
          | norm =>
            obtain ⟨k2, h2⟩ := ihn s1 h
            refine ⟨max k1 k2, ?_⟩
            rw [up (Nat.le_max_left k1 k2) h1]
            exact rounds_mono (fun s r h => up (Nat.le_max_right k1 k2) h) mask n n s1 r (Nat.le_refl _) h2
          | exit id => exact ⟨k1, by rw [h1]; exact h⟩
          | ret => exact ⟨k1, by rw [h1]; exact h⟩
          | goto l => exact ⟨k1, by rw [h1]; exact h⟩
    obtain ⟨k, hk⟩ := key n s hn
    exact ⟨max k n, rounds_mono (fun s r h => up (Nat.le_max_left k n) h) mask n (max k n) s r (Nat.le_max_right k n) hk⟩
  | mask m c ih => intro s r h; simp only [exL] at h; simp only [aexec]; exact ih _ _ h
  | exit id => intro s r h; exact ⟨0, h⟩
  | ret => intro s r h; exact ⟨0, h⟩
  | goto l => intro s r h; exact ⟨0, h⟩
  | scope l m p b ihp ihb =>
    intro s r h
    simp only [exL, scpK] at h
    simp only [aexec]
    cases ha : exL (XL own retOwn ext code) p s with
    | none => rw [ha] at h; cases h
    | some q =>
      obtain ⟨e, s1⟩ := q
      rw [ha] at h
      obtain ⟨k1, h1⟩ := ihp _ _ ha
      cases e with
      | exit id => exact ⟨k1, by rw [h1]; exact h⟩
      | ret => exact ⟨k1, by rw [h1]; exact h⟩
      | goto l => cases h
      | norm =>
        obtain ⟨n, hn⟩ := lim_some h
        have key : ∀ (n : Nat) (s : St), jumps (exL (XL own retOwn ext code) b) m l n s = some r → ∃ k, jumps (aexec { own, retOwn, C := run own retOwn ext code k } k b) m l n s = some r := by
          intro n
          induction n with
          | zero => intro s h; simp [jumps] at h
          | succ n ihn =>
            intro s h
            simp only [jumps] at h ⊢
            cases ha : exL (XL own retOwn ext code) b (trim m s) with
            | none => rw [ha] at h; cases h
            | some q =>
              obtain ⟨e, s1⟩ := q
              rw [ha] at h
              obtain ⟨k1, h1⟩ := ihb _ _ ha
              cases e with
              | norm => exact ⟨k1, by rw [h1]; exact h⟩
              | exit id => exact ⟨k1, by rw [h1]; exact h⟩
              | ret => exact ⟨k1, by rw [h1]; exact h⟩
              | goto j =>
                simp only at h
                split at h
                · rename_i hj
                  obtain ⟨k2, h2⟩ := ihn s1 h
                  refine ⟨max k1 k2, ?_⟩
                  rw [up (Nat.le_max_left k1 k2) h1]
                  simp only [hj, if_true]
                  exact jumps_mono (fun s r h => up (Nat.le_max_right k1 k2) h) m l n n s1 r (Nat.le_refl _) h2
                · cases h
        obtain ⟨k, hk⟩ := key n s1 hn
        refine ⟨max k1 (max k n), ?_⟩
        rw [up (Nat.le_max_left _ _) h1]
        exact jumps_mono (fun s r h => up (Nat.le_trans (Nat.le_max_left k n) (Nat.le_max_right _ _)) h) m l n _ s1 r (Nat.le_trans (Nat.le_max_right k n) (Nat.le_max_right _ _)) hk
  | bad => intro s r h; simp [exL] at h

/-- one function's equation -/
theorem RUN_of {f : Nat} {fn : AFunc} {args : List AV} {H : Heap} {r : AV × Heap} (he : ext f args H = none) (hc : code f = some fn) (h : finish (XL own retOwn ext code) f fn.results H (exL (XL own retOwn ext code) fn.body (start fn.ntmps args H)) = some r) :
    RUN own retOwn ext code f args H = some r := by
  cases hx : exL (XL own retOwn ext code) fn.body (start fn.ntmps args H) with
  | none => rw [hx] at h; simp [finish] at h
  | some q =>
    obtain ⟨k, hk⟩ := exL_cont own retOwn ext code _ _ _ hx
    refine RUN_run own retOwn ext code (k := k + 1) ?_
    rw [run, he, hc]
    simp only
    rw [abody_eq, hk]
    rw [hx] at h
    exact h

theorem RUN_ext {f : Nat} {args : List AV} {H : Heap} {r : AV × Heap} (he : ext f args H = some r) : RUN own retOwn ext code f args H = some r :=
  RUN_run own retOwn ext code (k := 1) (by rw [run, he])

theorem RUN_good {P : Program} (hext : Good P ext) (hcode : ∀ f fn, code f = some fn → Shows P f fn) : Good P (RUN own retOwn ext code) := fun f args H rv Ho h => by
  obtain ⟨k, hk⟩ := RUN_some own retOwn ext code h
  exact run_sound hext hcode k f args H rv Ho hk
end
end Bz

/- Rules by which code is carried out. -/
namespace Bz
open Go

/-- code behind what was carried out -/
noncomputable def seqC (X : Ctx) (r : Option (AExit × St)) (b : ACode) : Option (AExit × St) := seqK r fun s => exL X b s

@[simp] theorem exL_skip (X : Ctx) (s : St) : exL X .skip s = some (.norm, s) := rfl
@[simp] theorem exL_region (X : Ctx) (id : Nat) (ops : List AOper) (s : St) : exL X (.region id ops false) s = (aops X id ops 0 s).map (.norm, ·) := rfl
@[simp] theorem exL_regionD (X : Ctx) (id : Nat) (ops : List AOper) (s : St) : exL X (.region id ops true) s = (aopsD X id s ops 0 s []).map (.norm, ·) := rfl
@[simp] theorem exL_seq (X : Ctx) (a b : ACode) (s : St) : exL X (.seq a b) s = seqC X (exL X a s) b := rfl
@[simp] theorem exL_cond (X : Ctx) (c : AOpd) (a b : ACode) (s : St) : exL X (.cond c a b) s = condK (aev s.E c) (exL X a s) (exL X b s) := rfl
/-- behind a guard -/
noncomputable def grdC (X : Ctx) (r : Option (AExit × St)) (c : AOpd) (a b : ACode) : Option (AExit × St) := seqK r fun s => condK (aev s.E c) (cutN (exL X a s)) (exL X b s)
@[simp] theorem exL_guard (X : Ctx) (p : ACode) (c : AOpd) (a b : ACode) (s : St) : exL X (.guard p c a b) s = grdC X (exL X p s) c a b := rfl
@[simp] theorem grdC_norm (X : Ctx) (s : St) (c : AOpd) (a b : ACode) : grdC X (some (.norm, s)) c a b = condK (aev s.E c) (cutN (exL X a s)) (exL X b s) := rfl
@[simp] theorem cutN_ret (s : St) : cutN (some (.ret, s)) = some (.ret, s) := rfl
@[simp] theorem cutN_exit (i : Nat) (s : St) : cutN (some (.exit i, s)) = some (.exit i, s) := rfl
@[simp] theorem exL_block (X : Ctx) (id : Nat) (c : ACode) (s : St) : exL X (.block id c) s = blkK id (exL X c s) := rfl
@[simp] theorem exL_mask (X : Ctx) (m : Mask) (c : ACode) (s : St) : exL X (.mask m c) s = exL X c (trim m s) := rfl
@[simp] theorem exL_exit (X : Ctx) (id : Nat) (s : St) : exL X (.exit id) s = some (.exit id, s) := rfl
@[simp] theorem exL_ret (X : Ctx) (s : St) : exL X .ret s = some (.ret, s) := rfl
@[simp] theorem exL_goto (X : Ctx) (l : Nat) (s : St) : exL X (.goto l) s = some (.goto l, s) := rfl
/-- the passes from a label on -/
noncomputable def scpJ (X : Ctx) (l : Nat) (m : Mask) (b : ACode) (s : St) : Option (AExit × St) := lim fun n => jumps (exL X b) m l n s
noncomputable def scpC (X : Ctx) (l : Nat) (m : Mask) (b : ACode) (r : Option (AExit × St)) : Option (AExit × St) := scpK r fun s => scpJ X l m b s
@[simp] theorem exL_scope (X : Ctx) (l : Nat) (m : Mask) (p b : ACode) (s : St) : exL X (.scope l m p b) s = scpC X l m b (exL X p s) := rfl
@[simp] theorem scpC_norm (X : Ctx) (l : Nat) (m : Mask) (b : ACode) (s : St) : scpC X l m b (some (.norm, s)) = scpJ X l m b s := rfl
/-- two ways meet -/
def meetO (c : Prop) [Decidable c] : Option (AExit × St) → Option (AExit × St) → Option (AExit × St)
  | some (.norm, s), some (.norm, s') => some (.norm, { E := if c then s.E else s'.E, H := if c then s.H else s'.H })
  | a, b => if c then a else b

theorem meetO_eq (c : Prop) [Decidable c] (a b : Option (AExit × St)) : meetO c a b = if c then a else b := by
  unfold meetO
  split
  · split <;> rfl
  · rfl

/-- what stays of each way -/
def jn (m : Mask) : Option (AExit × St) → Option (AExit × St)
  | some (.norm, s) => some (.norm, trim m s)
  | r => r

@[simp] theorem meetO_nn (c : Prop) [Decidable c] (E E' : List AV) (H H' : Heap) : meetO c (some (.norm, ⟨E, H⟩)) (some (.norm, ⟨E', H'⟩)) = some (.norm, ⟨if c then E else E', if c then H else H'⟩) := rfl
@[simp] theorem meetO_rl (c : Prop) [Decidable c] (s : St) (b : Option (AExit × St)) : meetO c (some (.ret, s)) b = if c then some (.ret, s) else b := by rw [meetO_eq]
@[simp] theorem meetO_rr (c : Prop) [Decidable c] (s : St) (a : Option (AExit × St)) : meetO c a (some (.ret, s)) = if c then a else some (.ret, s) := by rw [meetO_eq]
@[simp] theorem meetO_gl (c : Prop) [Decidable c] (i : Nat) (s : St) (b : Option (AExit × St)) : meetO c (some (.goto i, s)) b = if c then some (.goto i, s) else b := by rw [meetO_eq]
@[simp] theorem meetO_gr (c : Prop) [Decidable c] (i : Nat) (s : St) (a : Option (AExit × St)) : meetO c a (some (.goto i, s)) = if c then a else some (.goto i, s) := by rw [meetO_eq]
@[simp] theorem meetO_xl (c : Prop) [Decidable c] (i : Nat) (s : St) (b : Option (AExit × St)) : meetO c (some (.exit i, s)) b = if c then some (.exit i, s) else b := by rw [meetO_eq]
@[simp] theorem meetO_xr (c : Prop) [Decidable c] (i : Nat) (s : St) (a : Option (AExit × St)) : meetO c a (some (.exit i, s)) = if c then a else some (.exit i, s) := by rw [meetO_eq]
@[simp] theorem meetO_il (c d : Prop) [Decidable c] [Decidable d] (a a' b : Option (AExit × St)) : meetO c (if d then a else a') b = if c then (if d then a else a') else b := by rw [meetO_eq]
@[simp] theorem meetO_ir (c d : Prop) [Decidable c] [Decidable d] (a b b' : Option (AExit × St)) : meetO c a (if d then b else b') = if c then a else (if d then b else b') := by rw [meetO_eq]
@[simp] theorem jn_norm (m : Mask) (s : St) : jn m (some (.norm, s)) = some (.norm, trim m s) := rfl
@[simp] theorem jn_goto (m : Mask) (i : Nat) (s : St) : jn m (some (.goto i, s)) = some (.goto i, s) := rfl
@[simp] theorem jn_ret (m : Mask) (s : St) : jn m (some (.ret, s)) = some (.ret, s) := rfl
@[simp] theorem jn_exit (m : Mask) (i : Nat) (s : St) : jn m (some (.exit i, s)) = some (.exit i, s) := rfl
@[simp] theorem jn_none (m : Mask) : jn m none = none := rfl
@[simp] theorem jn_ite (m : Mask) (c : Prop) [Decidable c] (a b : Option (AExit × St)) : jn m (if c then a else b) = meetO c (jn m a) (jn m b) := by rw [meetO_eq]; split <;> rfl
@[simp] theorem seqC_mask (X : Ctx) (r : Option (AExit × St)) (m : Mask) (b : ACode) : seqC X r (.mask m b) = seqC X (jn m r) b := by
  cases r with
  | none => rfl
  | some p => obtain ⟨e, s⟩ := p; cases e <;> rfl
@[simp] theorem map_norm_ite (c : Prop) [Decidable c] (a b : Option St) : (if c then a else b).map (fun s => (AExit.norm, s)) = if c then a.map (fun s => (AExit.norm, s)) else b.map (fun s => (AExit.norm, s)) := by split <;> rfl
@[simp] theorem seqC_norm (X : Ctx) (s : St) (b : ACode) : seqC X (some (.norm, s)) b = exL X b s := rfl
@[simp] theorem seqC_exit (X : Ctx) (id : Nat) (s : St) (b : ACode) : seqC X (some (.exit id, s)) b = some (.exit id, s) := rfl
@[simp] theorem seqC_goto (X : Ctx) (i : Nat) (s : St) (b : ACode) : seqC X (some (.goto i, s)) b = some (.goto i, s) := rfl
@[simp] theorem seqC_ret (X : Ctx) (s : St) (b : ACode) : seqC X (some (.ret, s)) b = some (.ret, s) := rfl
@[simp] theorem seqC_none (X : Ctx) (b : ACode) : seqC X none b = none := rfl
theorem seqC_ite (X : Ctx) (c : Prop) [Decidable c] (r t : Option (AExit × St)) (b : ACode) : seqC X (if c then r else t) b = if c then seqC X r b else seqC X t b := by split <;> rfl
@[simp] theorem seqC_ite_skip (X : Ctx) (c : Prop) [Decidable c] (r t : Option (AExit × St)) : seqC X (if c then r else t) .skip = if c then seqC X r .skip else seqC X t .skip := seqC_ite X c r t _
@[simp] theorem seqC_ite_region (X : Ctx) (c : Prop) [Decidable c] (r t : Option (AExit × St)) (id : Nat) (ops : List AOper) (dr : Bool) : seqC X (if c then r else t) (.region id ops dr) = if c then seqC X r (.region id ops dr) else seqC X t (.region id ops dr) := seqC_ite X c r t _
@[simp] theorem seqC_ite_seq (X : Ctx) (c : Prop) [Decidable c] (r t : Option (AExit × St)) (a b : ACode) : seqC X (if c then r else t) (.seq a b) = if c then seqC X r (.seq a b) else seqC X t (.seq a b) := seqC_ite X c r t _
@[simp] theorem seqC_ite_cond (X : Ctx) (c : Prop) [Decidable c] (r t : Option (AExit × St)) (o : AOpd) (a b : ACode) : seqC X (if c then r else t) (.cond o a b) = if c then seqC X r (.cond o a b) else seqC X t (.cond o a b) := seqC_ite X c r t _
@[simp] theorem seqC_ite_block (X : Ctx) (c : Prop) [Decidable c] (r t : Option (AExit × St)) (id : Nat) (a : ACode) : seqC X (if c then r else t) (.block id a) = if c then seqC X r (.block id a) else seqC X t (.block id a) := seqC_ite X c r t _
@[simp] theorem seqC_ite_loop (X : Ctx) (c : Prop) [Decidable c] (r t : Option (AExit × St)) (m : Mask) (a : ACode) : seqC X (if c then r else t) (.loop m a) = if c then seqC X r (.loop m a) else seqC X t (.loop m a) := seqC_ite X c r t _
@[simp] theorem seqC_ite_exit (X : Ctx) (c : Prop) [Decidable c] (r t : Option (AExit × St)) (id : Nat) : seqC X (if c then r else t) (.exit id) = if c then seqC X r (.exit id) else seqC X t (.exit id) := seqC_ite X c r t _
@[simp] theorem seqC_ite_ret (X : Ctx) (c : Prop) [Decidable c] (r t : Option (AExit × St)) : seqC X (if c then r else t) .ret = if c then seqC X r .ret else seqC X t .ret := seqC_ite X c r t _
@[simp] theorem blkK_norm (id : Nat) (s : St) : blkK id (some (.norm, s)) = some (.norm, s) := rfl
@[simp] theorem blkK_goto (id i : Nat) (s : St) : blkK id (some (.goto i, s)) = some (.goto i, s) := rfl
@[simp] theorem blkK_ret (id : Nat) (s : St) : blkK id (some (.ret, s)) = some (.ret, s) := rfl
@[simp] theorem blkK_exit (id j : Nat) (s : St) : blkK id (some (.exit j, s)) = if j = id then some (.norm, s) else some (.exit j, s) := rfl
@[simp] theorem blkK_none (id : Nat) : blkK id none = none := rfl
@[simp] theorem blkK_ite (id : Nat) (c : Prop) [Decidable c] (a b : Option (AExit × St)) : blkK id (if c then a else b) = if c then blkK id a else blkK id b := by split <;> rfl
mutual
theorem eqD_self : ∀ a : D, eqD a a = true
  | .int .. => by simp [eqD]
  | .bool _ => by simp [eqD]
  | .str _ => by simp [eqD]
  | .vs a x => by simp [eqD, eqDss_self x]
  | .nilp => rfl
  | .nilm => rfl
  | .nilf => rfl
  | .nili => rfl
  | .ifc t x => by simp [eqD, eqD_self x]
theorem eqDs_self : ∀ a : List D, eqDs a a = true
  | [] => rfl
  | x :: r => by simp [eqDs, eqD_self x, eqDs_self r]
theorem eqDss_self : ∀ a : List (List D), eqDss a a = true
  | [] => rfl
  | x :: r => by simp [eqDss, eqDs_self x, eqDss_self r]
end
mutual
theorem eqA_self : ∀ a : AV, eqA a a = true
  | .undef => rfl
  | .anyb => rfl
  | .d x => by simp [eqA, eqD_self x]
  | .os .. => by simp [eqA]
  | .pv .. => by simp [eqA]
  | .pa .. => by simp [eqA]
  | .vp a _ => by simp [eqA, eqDs_self a]
  | .map _ => by simp [eqA]
  | .fn _ b => by simp [eqA, eqAs_self b]
  | .agg a => by simp [eqA, eqAs_self a]
  | .tup a => by simp [eqA, eqAs_self a]
theorem eqAs_self : ∀ a : List AV, eqAs a a = true
  | [] => rfl
  | x :: r => by simp [eqAs, eqA_self x, eqAs_self r]
end
@[simp] theorem bothK_same (e : AExit) (E : List AV) : bothK (some (e, ⟨E, []⟩)) (some (e, ⟨E, []⟩)) = some (e, ⟨E, []⟩) := by
  simp [bothK, eqR, eqAs_self, eqH]
@[simp] theorem bothK_same1 (e : AExit) (E : List AV) (l sz : Nat) (es : List (List D)) : bothK (some (e, ⟨E, [(l, .arr sz es)]⟩)) (some (e, ⟨E, [(l, .arr sz es)]⟩)) = some (e, ⟨E, [(l, .arr sz es)]⟩) := by
  simp [bothK, eqR, eqAs_self, eqH, eqO, eqDss_self]
@[simp] theorem condK_any (a b : Option (AExit × St)) : condK .anyb a b = bothK a b := rfl
@[simp] theorem condK_bool (t : Bool) (a b : Option (AExit × St)) : condK (.d (.bool t)) a b = if t = true then a else b := rfl

@[simp] theorem ite_res (c : Prop) [Decidable c] (a b : AV × Heap) : (if c then some a else some b) = some (if c then a else b) := by split <;> rfl
@[simp] theorem ite_pair (c : Prop) [Decidable c] (a b : AV) (h g : Heap) : (if c then (a, h) else (b, g)) = (if c then a else b, if c then h else g) := by split <;> rfl
@[simp] theorem ite_cons {α : Type} (c : Prop) [Decidable c] (a b : α) (r s : List α) : (if c then a :: r else b :: s) = (if c then a else b) :: (if c then r else s) := by split <;> rfl
@[simp] theorem ite_d (c : Prop) [Decidable c] (a b : D) : (if c then AV.d a else AV.d b) = AV.d (if c then a else b) := by split <;> rfl
@[simp] theorem ite_int (c : Prop) [Decidable c] (k : IntKind) (a b : Int) : (if c then D.int k a else D.int k b) = D.int k (if c then a else b) := by split <;> rfl
@[simp] theorem ite_bool (c : Prop) [Decidable c] (a b : Bool) : (if c then D.bool a else D.bool b) = D.bool (if c then a else b) := by split <;> rfl
@[simp] theorem ite_str (c : Prop) [Decidable c] (a b : List UInt8) : (if c then D.str a else D.str b) = D.str (if c then a else b) := by split <;> rfl
@[simp] theorem ite_agg (c : Prop) [Decidable c] (a b : List AV) : (if c then AV.agg a else AV.agg b) = AV.agg (if c then a else b) := by split <;> rfl
@[simp] theorem ite_dec (p : Prop) [Decidable p] (y : Bool) : (if p then decide p else y) = (decide p || y) := by by_cases h : p <;> simp [h]
@[simp] theorem ite_ndec (p : Prop) [Decidable p] (y : Bool) : (if p then y else decide p) = (decide p && y) := by by_cases h : p <;> simp [h]

@[simp] theorem finish_ite (X : Ctx) (f : Nat) (rs : List ARes) (H : Heap) (c : Prop) [Decidable c] (a b : Option (AExit × St)) : finish X f rs H (if c then a else b) = if c then finish X f rs H a else finish X f rs H b := by split <;> rfl

def finE (X : Ctx) (f : Nat) (rs : List ARes) (H : Heap) (s : St) : Option (AV × Heap) := match aresults s rs with
  | none => none
  | some vs => match viewRes (X.retOwn f) s.H (mkRes vs) with
    | none => none
    | some (rv, H2) =>
      let L := reach H2 RF (List.range H.length ++ refs rv) []
      match pack H2 (fun l => L.idxOf l) 0 L with
      | none => none
      | some Ho => if nodupB L && (L.take H.length == List.range H.length) then some (ren (fun l => L.idxOf l) rv, Ho) else none

@[simp] theorem finish_ret (X : Ctx) (f : Nat) (rs : List ARes) (H : Heap) (s : St) : finish X f rs H (some (.ret, s)) = finE X f rs H s := rfl
@[simp] theorem finish_norm (X : Ctx) (f : Nat) (rs : List ARes) (H : Heap) (s : St) : finish X f rs H (some (.norm, s)) = finE X f rs H s := rfl

/-- one round more -/
theorem loop_next {X : Ctx} {mask : Mask} {c : ACode} {s t : St} {r : AExit × St} (h : (exL X c (trim mask s)).map (fun p => (p.1, trim mask p.2)) = some (.norm, t)) (h' : ∀ s', trim mask s' = t → exL X (.loop mask c) s' = some r) :
    exL X (.loop mask c) s = some r := by
  obtain ⟨p, hp, e⟩ := Option.map_eq_some_iff.1 h
  obtain ⟨e', s'⟩ := p
  cases e
  exact loop_norm hp (h' s' rfl)

/-! ### operations, one by one -/
/-- behind an operation's answer -/
def aopsK (X : Ctx) (rid : Nat) (d : Option Nat) (r : List AOper) (i : Nat) (s : St) : Option (AV × Upd × List Nat) → Option St
  | none => none
  | some (v, u, nw) => if freshU s.E s.H nw then aops X rid r (i + 1) { E := putE s.E d v, H := applyU s.H u } else none

/-- an operation whose guard's slot holds v -/
def aopsG (X : Ctx) (rid : Nat) (d : Option Nat) (op : AOp) (r : List AOper) (i : Nat) (s : St) (g : Nat) (v : AV) (t : Bool) : Option St := match v with
  | .d (.bool b) => if b = t then aopsK X rid d r i { s with E := s.E.set g v } (aop X (nameOf rid i) s.H (op.map (aev (s.E.set g v)))) else aops X rid r (i + 1) { s with E := putE (s.E.set g v) d (.tup []) }
  | .tup [] => aops X rid r (i + 1) { s with E := putE s.E d (.tup []) }
  | _ => none

theorem set_same {E : List AV} {g : Nat} {v : AV} (h : nth E g = v) (hv : v ≠ .undef) : E.set g v = E := by
  have hl : g < E.length := by
    rcases Nat.lt_or_ge g E.length with h' | h'
    · exact h'
    · rw [nth_eq, List.getElem?_eq_none h'] at h; exact absurd h.symm hv
  rw [nth_eq, List.getElem?_eq_getElem hl] at h
  simp only [Option.getD_some] at h
  subst h
  exact List.set_getElem_self hl

@[simp] theorem aops_nil (X : Ctx) (rid i : Nat) (s : St) : aops X rid [] i s = some s := rfl
@[simp] theorem aops_free (X : Ctx) (rid i : Nat) (d : Option Nat) (op : AOp) (bef : List Nat) (r : List AOper) (s : St) :
    aops X rid (⟨d, op, none, bef⟩ :: r) i s = aopsK X rid d r i s (aop X (nameOf rid i) s.H (op.map (aev s.E))) := by
  simp only [aops, wants, aopsK]
  split <;> simp_all
@[simp] theorem aops_guard (X : Ctx) (rid i : Nat) (d : Option Nat) (op : AOp) (g : Nat) (t : Bool) (bef : List Nat) (r : List AOper) (s : St) :
    aops X rid (⟨d, op, some (g, t), bef⟩ :: r) i s = aopsG X rid d op r i s g (nth s.E g) t := by
  simp only [aops, wants, aopsG]
  generalize hv : nth s.E g = v
  cases v with
  | d x =>
    cases x with
    | bool b =>
      have hs := set_same hv (by simp)
      simp only [hs, aopsK]
      cases b <;> cases t <;> simp <;> (split <;> simp_all)
    | _ => rfl
  | tup cs => cases cs <;> rfl
  | _ => rfl
def aopsGt (X : Ctx) (rid : Nat) (d : Option Nat) (op : AOp) (r : List AOper) (i : Nat) (s : St) (g : Nat) : Bool → Option St
  | true => aopsK X rid d r i { s with E := s.E.set g (.d (.bool true)) } (aop X (nameOf rid i) s.H (op.map (aev (s.E.set g (.d (.bool true))))))
  | false => aops X rid r (i + 1) { s with E := putE (s.E.set g (.d (.bool true))) d (.tup []) }
def aopsGf (X : Ctx) (rid : Nat) (d : Option Nat) (op : AOp) (r : List AOper) (i : Nat) (s : St) (g : Nat) : Bool → Option St
  | true => aops X rid r (i + 1) { s with E := putE (s.E.set g (.d (.bool false))) d (.tup []) }
  | false => aopsK X rid d r i { s with E := s.E.set g (.d (.bool false)) } (aop X (nameOf rid i) s.H (op.map (aev (s.E.set g (.d (.bool false))))))
@[simp] theorem aopsGt_t (X : Ctx) (rid : Nat) (d : Option Nat) (op : AOp) (r : List AOper) (i : Nat) (s : St) (g : Nat) : aopsGt X rid d op r i s g true = aopsK X rid d r i { s with E := s.E.set g (.d (.bool true)) } (aop X (nameOf rid i) s.H (op.map (aev (s.E.set g (.d (.bool true)))))) := rfl
@[simp] theorem aopsGt_f (X : Ctx) (rid : Nat) (d : Option Nat) (op : AOp) (r : List AOper) (i : Nat) (s : St) (g : Nat) : aopsGt X rid d op r i s g false = aops X rid r (i + 1) { s with E := putE (s.E.set g (.d (.bool true))) d (.tup []) } := rfl
@[simp] theorem aopsGf_t (X : Ctx) (rid : Nat) (d : Option Nat) (op : AOp) (r : List AOper) (i : Nat) (s : St) (g : Nat) : aopsGf X rid d op r i s g true = aops X rid r (i + 1) { s with E := putE (s.E.set g (.d (.bool false))) d (.tup []) } := rfl
@[simp] theorem aopsGf_f (X : Ctx) (rid : Nat) (d : Option Nat) (op : AOp) (r : List AOper) (i : Nat) (s : St) (g : Nat) : aopsGf X rid d op r i s g false = aopsK X rid d r i { s with E := s.E.set g (.d (.bool false)) } (aop X (nameOf rid i) s.H (op.map (aev (s.E.set g (.d (.bool false)))))) := rfl
@[simp] theorem aopsG_tup (X : Ctx) (rid : Nat) (d : Option Nat) (op : AOp) (r : List AOper) (i : Nat) (s : St) (g : Nat) (t : Bool) : aopsG X rid d op r i s g (.tup []) t = aops X rid r (i + 1) { s with E := putE s.E d (.tup []) } := rfl
@[simp] theorem aopsG_bool (X : Ctx) (rid : Nat) (d : Option Nat) (op : AOp) (r : List AOper) (i : Nat) (s : St) (g : Nat) (b t : Bool) : aopsG X rid d op r i s g (.d (.bool b)) t = if b = true then aopsGt X rid d op r i s g t else aopsGf X rid d op r i s g t := by cases b <;> cases t <;> rfl
@[simp] theorem aopsK_some (X : Ctx) (rid : Nat) (d : Option Nat) (r : List AOper) (i : Nat) (s : St) (v : AV) (u : Upd) : aopsK X rid d r i s (some (v, u, [])) = aops X rid r (i + 1) { E := putE s.E d v, H := applyU s.H u } := rfl
@[simp] theorem aopsK_new (X : Ctx) (rid : Nat) (d : Option Nat) (r : List AOper) (i : Nat) (s : St) (v : AV) (u : Upd) (l : Nat) (nw : List Nat) :
    aopsK X rid d r i s (some (v, u, l :: nw)) = if freshU s.E s.H (l :: nw) = true then aops X rid r (i + 1) { E := putE s.E d v, H := applyU s.H u } else none := rfl
/-! ### operations whose order is open -/
def dK (X : Ctx) (rid : Nat) (s0 : St) (d : Option Nat) (r : List AOper) (i : Nat) (s : St) (fs : List Foot) (bef : List Nat) (op : AOpOf AV) : Option (AV × Upd × List Nat) → Option St
  | none => none
  | some (v, u, nw) => if freshU s0.E s0.H nw && freshU s.E s.H nw && clears bef (footOf i op v u nw) fs then
      aopsD X rid s0 r (i + 1) { E := putE s.E d v, H := applyU s.H u } (footOf i op v u nw :: fs) else none

def dG (X : Ctx) (rid : Nat) (s0 : St) (d : Option Nat) (op : AOp) (r : List AOper) (i : Nat) (s : St) (fs : List Foot) (bef : List Nat) (g : Nat) (v : AV) (t : Bool) : Option St := match v with
  | .d (.bool b) => if b = t then dK X rid s0 d r i { s with E := s.E.set g v } fs bef (op.map (aev (s.E.set g v))) (aop X (nameOf rid i) s.H (op.map (aev (s.E.set g v)))) else aopsD X rid s0 r (i + 1) { s with E := putE (s.E.set g v) d (.tup []) } fs
  | .tup [] => aopsD X rid s0 r (i + 1) { s with E := putE s.E d (.tup []) } fs
  | _ => none

@[simp] theorem aopsD_nil (X : Ctx) (rid : Nat) (s0 : St) (i : Nat) (s : St) (fs : List Foot) : aopsD X rid s0 [] i s fs = some s := rfl
@[simp] theorem aopsD_free (X : Ctx) (rid : Nat) (s0 : St) (i : Nat) (d : Option Nat) (op : AOp) (bef : List Nat) (r : List AOper) (s : St) (fs : List Foot) :
    aopsD X rid s0 (⟨d, op, none, bef⟩ :: r) i s fs = dK X rid s0 d r i s fs bef (op.map (aev s.E)) (aop X (nameOf rid i) s.H (op.map (aev s.E))) := by
  simp only [aopsD, wants, dK]
  split <;> simp_all
@[simp] theorem aopsD_guard (X : Ctx) (rid : Nat) (s0 : St) (i : Nat) (d : Option Nat) (op : AOp) (g : Nat) (t : Bool) (bef : List Nat) (r : List AOper) (s : St) (fs : List Foot) :
    aopsD X rid s0 (⟨d, op, some (g, t), bef⟩ :: r) i s fs = dG X rid s0 d op r i s fs bef g (nth s.E g) t := by
  simp only [aopsD, wants, dG]
  generalize hv : nth s.E g = v
  cases v with
  | d x =>
    cases x with
    | bool b =>
      have hs := set_same hv (by simp)
      simp only [hs, dK]
      cases b <;> cases t <;> simp <;> (split <;> simp_all)
    | _ => rfl
  | tup cs => cases cs <;> rfl
  | _ => rfl
def dGt (X : Ctx) (rid : Nat) (s0 : St) (d : Option Nat) (op : AOp) (r : List AOper) (i : Nat) (s : St) (fs : List Foot) (bef : List Nat) (g : Nat) : Bool → Option St
  | true => dK X rid s0 d r i { s with E := s.E.set g (.d (.bool true)) } fs bef (op.map (aev (s.E.set g (.d (.bool true))))) (aop X (nameOf rid i) s.H (op.map (aev (s.E.set g (.d (.bool true))))))
  | false => aopsD X rid s0 r (i + 1) { s with E := putE (s.E.set g (.d (.bool true))) d (.tup []) } fs
def dGf (X : Ctx) (rid : Nat) (s0 : St) (d : Option Nat) (op : AOp) (r : List AOper) (i : Nat) (s : St) (fs : List Foot) (bef : List Nat) (g : Nat) : Bool → Option St
  | true => aopsD X rid s0 r (i + 1) { s with E := putE (s.E.set g (.d (.bool false))) d (.tup []) } fs
  | false => dK X rid s0 d r i { s with E := s.E.set g (.d (.bool false)) } fs bef (op.map (aev (s.E.set g (.d (.bool false))))) (aop X (nameOf rid i) s.H (op.map (aev (s.E.set g (.d (.bool false))))))
@[simp] theorem dGt_t (X : Ctx) (rid : Nat) (s0 : St) (d : Option Nat) (op : AOp) (r : List AOper) (i : Nat) (s : St) (fs : List Foot) (bef : List Nat) (g : Nat) : dGt X rid s0 d op r i s fs bef g true = dK X rid s0 d r i { s with E := s.E.set g (.d (.bool true)) } fs bef (op.map (aev (s.E.set g (.d (.bool true))))) (aop X (nameOf rid i) s.H (op.map (aev (s.E.set g (.d (.bool true)))))) := rfl
@[simp] theorem dGt_f (X : Ctx) (rid : Nat) (s0 : St) (d : Option Nat) (op : AOp) (r : List AOper) (i : Nat) (s : St) (fs : List Foot) (bef : List Nat) (g : Nat) : dGt X rid s0 d op r i s fs bef g false = aopsD X rid s0 r (i + 1) { s with E := putE (s.E.set g (.d (.bool true))) d (.tup []) } fs := rfl
@[simp] theorem dGf_t (X : Ctx) (rid : Nat) (s0 : St) (d : Option Nat) (op : AOp) (r : List AOper) (i : Nat) (s : St) (fs : List Foot) (bef : List Nat) (g : Nat) : dGf X rid s0 d op r i s fs bef g true = aopsD X rid s0 r (i + 1) { s with E := putE (s.E.set g (.d (.bool false))) d (.tup []) } fs := rfl
@[simp] theorem dGf_f (X : Ctx) (rid : Nat) (s0 : St) (d : Option Nat) (op : AOp) (r : List AOper) (i : Nat) (s : St) (fs : List Foot) (bef : List Nat) (g : Nat) : dGf X rid s0 d op r i s fs bef g false = dK X rid s0 d r i { s with E := s.E.set g (.d (.bool false)) } fs bef (op.map (aev (s.E.set g (.d (.bool false))))) (aop X (nameOf rid i) s.H (op.map (aev (s.E.set g (.d (.bool false)))))) := rfl
@[simp] theorem dG_tup (X : Ctx) (rid : Nat) (s0 : St) (d : Option Nat) (op : AOp) (r : List AOper) (i : Nat) (s : St) (fs : List Foot) (bef : List Nat) (g : Nat) (t : Bool) : dG X rid s0 d op r i s fs bef g (.tup []) t = aopsD X rid s0 r (i + 1) { s with E := putE s.E d (.tup []) } fs := rfl
@[simp] theorem dG_bool (X : Ctx) (rid : Nat) (s0 : St) (d : Option Nat) (op : AOp) (r : List AOper) (i : Nat) (s : St) (fs : List Foot) (bef : List Nat) (g : Nat) (b t : Bool) : dG X rid s0 d op r i s fs bef g (.d (.bool b)) t = if b = true then dGt X rid s0 d op r i s fs bef g t else dGf X rid s0 d op r i s fs bef g t := by cases b <;> cases t <;> rfl
@[simp] theorem dK_some (X : Ctx) (rid : Nat) (s0 : St) (d : Option Nat) (r : List AOper) (i : Nat) (s : St) (fs : List Foot) (bef : List Nat) (op : AOpOf AV) (v : AV) (u : Upd) (nw : List Nat) :
    dK X rid s0 d r i s fs bef op (some (v, u, nw)) = if (freshU s0.E s0.H nw && freshU s.E s.H nw && clears bef (footOf i op v u nw) fs) = true then
      aopsD X rid s0 r (i + 1) { E := putE s.E d v, H := applyU s.H u } (footOf i op v u nw :: fs) else none := rfl
attribute [simp] footOf clears disj rd
@[simp] theorem ite_pos_pos {α : Type} (c : Prop) [Decidable c] (a b d : α) : (if c then (if c then a else b) else d) = if c then a else d := by split <;> rfl
@[simp] theorem ite_neg_neg {α : Type} (c : Prop) [Decidable c] (a b d : α) : (if c then a else (if c then b else d)) = if c then a else d := by split <;> rfl

/-! ### operators -/
@[simp] theorem abin_int {op : BinOp} (k : IntKind) (a b : Int) (h1 : op ≠ .shl) (h2 : op ≠ .shr) : abin op (.d (.int k a)) (.d (.int k b)) = intBin op k a b := by
  unfold abin; cases op <;> simp_all
@[simp] theorem abin_str {op : BinOp} (a b : List UInt8) : abin op (.d (.str a)) (.d (.str b)) = strBin op a b := rfl
@[simp] theorem intBin_eql (k : IntKind) (a b : Int) : intBin .eql k a b = some (.d (.bool (decide (a = b)))) := rfl
@[simp] theorem intBin_neq (k : IntKind) (a b : Int) : intBin .neq k a b = some (.d (.bool (!decide (a = b)))) := rfl
@[simp] theorem intBin_lss (k : IntKind) (a b : Int) : intBin .lss k a b = some (.d (.bool (decide (a < b)))) := rfl
@[simp] theorem intBin_leq (k : IntKind) (a b : Int) : intBin .leq k a b = some (.d (.bool (decide (a ≤ b)))) := rfl
@[simp] theorem intBin_gtr (k : IntKind) (a b : Int) : intBin .gtr k a b = some (.d (.bool (decide (b < a)))) := rfl
@[simp] theorem intBin_geq (k : IntKind) (a b : Int) : intBin .geq k a b = some (.d (.bool (decide (b ≤ a)))) := rfl
@[simp] theorem intBin_add (k : IntKind) (a b : Int) : intBin .add k a b = some (.d (.int k (k.wrap (a + b)))) := rfl
@[simp] theorem intBin_sub (k : IntKind) (a b : Int) : intBin .sub k a b = some (.d (.int k (k.wrap (a - b)))) := rfl
@[simp] theorem intBin_mul (k : IntKind) (a b : Int) : intBin .mul k a b = some (.d (.int k (k.wrap (a * b)))) := rfl
def orK (k : IntKind) (a b : Int) : Int := k.wrap (BitVec.ofInt k.bits a ||| BitVec.ofInt k.bits b).toNat
def andK (k : IntKind) (a b : Int) : Int := k.wrap (BitVec.ofInt k.bits a &&& BitVec.ofInt k.bits b).toNat
@[simp] theorem intBin_or (k : IntKind) (a b : Int) : intBin .or k a b = some (.d (.int k (orK k a b))) := rfl
@[simp] theorem intBin_and (k : IntKind) (a b : Int) : intBin .and k a b = some (.d (.int k (andK k a b))) := rfl
@[simp] theorem strBin_lss (a b : List UInt8) : strBin .lss a b = some (.d (.bool (Go.Op.bytesLess a b))) := rfl
@[simp] theorem strBin_leq (a b : List UInt8) : strBin .leq a b = some (.d (.bool (Go.Op.bytesLess a b || a == b))) := rfl
@[simp] theorem strBin_gtr (a b : List UInt8) : strBin .gtr a b = some (.d (.bool (!(Go.Op.bytesLess a b || a == b)))) := rfl
@[simp] theorem strBin_geq (a b : List UInt8) : strBin .geq a b = some (.d (.bool (!(Go.Op.bytesLess a b)))) := rfl
@[simp] theorem strBin_eql (a b : List UInt8) : strBin .eql a b = some (.d (.bool (decide (a = b)))) := by
  have : (a == b) = decide (a = b) := by rw [Bool.eq_iff_iff]; simp
  simp only [strBin, boolV, this]
@[simp] theorem strBin_neq (a b : List UInt8) : strBin .neq a b = some (.d (.bool (!decide (a = b)))) := by
  have : (a == b) = decide (a = b) := by rw [Bool.eq_iff_iff]; simp
  simp only [strBin, boolV, this]
@[simp] theorem abinb_f (a b : Bool) : abinb false (.d (.bool a)) (.d (.bool b)) = some (.d (.bool (decide (a = b)))) := by
  simp only [abinb, boolV]; cases a <;> cases b <;> rfl
@[simp] theorem abinb_t (a b : Bool) : abinb true (.d (.bool a)) (.d (.bool b)) = some (.d (.bool (!decide (a = b)))) := by
  simp only [abinb, boolV]; cases a <;> cases b <;> rfl

@[simp] theorem XL_own (own retOwn : Nat → Bool) (ext : Callee) (code : Nat → Option AFunc) : (XL own retOwn ext code).own = own := rfl
@[simp] theorem XL_retOwn (own retOwn : Nat → Bool) (ext : Callee) (code : Nat → Option AFunc) : (XL own retOwn ext code).retOwn = retOwn := rfl

theorem reach_nil' (H : Heap) (k : Nat) (seen : List Nat) : reach H k [] seen = seen := by cases k <;> rfl

/-! ### slots, few of them -/
def look : List (Nat × AV) → Nat → AV
  | [], _ => .undef
  | (k, v) :: r, i => if i = k then v else look r i

def mkE (n : Nat) (l : List (Nat × AV)) : List AV := (List.range n).map (look l)

def insE : List (Nat × AV) → Nat → AV → List (Nat × AV)
  | [], d, v => [(d, v)]
  | (k, x) :: r, d, v => if d < k then (d, v) :: (k, x) :: r else if d = k then (d, v) :: r else (k, x) :: insE r d v

def keepL (ks : List Nat) : List (Nat × AV) → List (Nat × AV)
  | [] => []
  | (k, v) :: r => if ks.contains k then (k, v) :: keepL ks r else keepL ks r

def numE : List AV → Nat → List (Nat × AV)
  | [], _ => []
  | v :: r, i => (i, v) :: numE r (i + 1)

def valsL : List (Nat × AV) → List AV
  | [] => []
  | (_, v) :: r => v :: valsL r

/-- keys rise, from a to below n -/
def okL (n : Nat) : Nat → List (Nat × AV) → Bool
  | _, [] => true
  | a, (k, _) :: r => decide (a ≤ k) && decide (k < n) && okL n (k + 1) r

def renM (g : Nat → Nat) : List (Nat × AV) → List (Nat × AV)
  | [] => []
  | (k, v) :: r => (k, ren g v) :: renM g r

theorem look_ins : ∀ (l : List (Nat × AV)) (d : Nat) (v : AV) (i : Nat), look (insE l d v) i = if i = d then v else look l i
  | [], d, v, i => rfl
  | (k, x) :: r, d, v, i => by
    simp only [insE]
    split
    · rfl
    · split
      · rename_i h; subst h
        simp only [look]; split <;> rfl
      · rename_i h1 h2
        simp only [look, look_ins r d v i]
        by_cases e : i = k
        · subst e
          have h3 : ¬ i = d := fun h => h2 h.symm
          simp [h3]
        · simp [e]

theorem mkE_len (n : Nat) (l : List (Nat × AV)) : (mkE n l).length = n := by simp [mkE]

@[simp] theorem nth_mkE (n : Nat) (l : List (Nat × AV)) (i : Nat) : nth (mkE n l) i = if i < n then look l i else .undef := by
  rw [nth_eq, mkE, List.getElem?_map]
  by_cases h : i < n
  · rw [List.getElem?_range h, if_pos h]; rfl
  · rw [List.getElem?_eq_none (by simpa using h), if_neg h]; rfl

@[simp] theorem set_mkE (n : Nat) (l : List (Nat × AV)) (d : Nat) (v : AV) : (mkE n l).set d v = mkE n (insE l d v) := by
  apply List.ext_getElem?
  intro i
  rw [List.getElem?_set]
  by_cases hi : i < n
  · simp only [mkE, List.getElem?_map, List.getElem?_range hi, Option.map_some, look_ins, List.length_map, List.length_range]
    by_cases e : d = i
    · subst e; simp [hi]
    · have e' : ¬ i = d := fun h => e h.symm
      simp [e, e']
  · have e1 : (mkE n (insE l d v))[i]? = none := List.getElem?_eq_none (by rw [mkE_len]; omega)
    have e2 : (mkE n l)[i]? = none := List.getElem?_eq_none (by rw [mkE_len]; omega)
    rw [e1, e2, mkE_len]
    split
    · rename_i e; subst e; simp [hi]
    · rfl

theorem look_keep (ks : List Nat) : ∀ (l : List (Nat × AV)) (i : Nat), look (keepL ks l) i = if ks.contains i then look l i else .undef
  | [], i => by simp [keepL, look]
  | (k, v) :: r, i => by
    simp only [keepL]
    split
    · rename_i h
      simp only [look, look_keep ks r i]
      by_cases e : i = k
      · subst e; rw [if_pos rfl, if_pos h, if_pos rfl]
      · rw [if_neg e, if_neg e]
    · rename_i h
      simp only [look, look_keep ks r i]
      by_cases e : i = k
      · subst e; rw [if_neg h, if_neg h]
      · rw [if_neg e]

theorem maskE_get (ks : List Nat) : ∀ (E : List AV) (a i : Nat), (maskE ks E a)[i]? = (E[i]?).map fun v => if ks.contains (a + i) then v else .undef
  | [], _, _ => by simp [maskE]
  | v :: r, a, 0 => by simp [maskE]
  | v :: r, a, i + 1 => by
    simp only [maskE, List.getElem?_cons_succ, maskE_get ks r (a + 1) i]
    rw [show a + 1 + i = a + (i + 1) by omega]

@[simp] theorem maskE_mkE (ks : List Nat) (n : Nat) (l : List (Nat × AV)) : maskE ks (mkE n l) 0 = mkE n (keepL ks l) := by
  apply List.ext_getElem?
  intro i
  rw [maskE_get]
  by_cases hi : i < n
  · simp [mkE, hi, look_keep]
  · rw [List.getElem?_eq_none (by rw [mkE_len]; omega), List.getElem?_eq_none (by rw [mkE_len]; omega)]; rfl

theorem look_num : ∀ (vs : List AV) (a i : Nat), look (numE vs a) (a + i) = (vs[i]?).getD .undef
  | [], a, i => by simp [numE, look]
  | v :: r, a, 0 => by simp [numE, look]
  | v :: r, a, i + 1 => by
    have := look_num r (a + 1) i
    simp only [numE, look, List.getElem?_cons_succ]
    rw [if_neg (by omega), ← this]
    congr 1; omega

theorem start_mkE {n : Nat} {args : List AV} (H : Heap) (h : args.length ≤ n) : start n args H = ⟨mkE n (numE args 0), H⟩ := by
  unfold start
  congr 1
  apply List.ext_getElem?
  intro i
  by_cases hi : i < n
  · have := look_num args 0 i
    rw [Nat.zero_add] at this
    simp only [mkE, List.getElem?_map, List.getElem?_range hi, Option.map_some, this]
    by_cases h2 : i < args.length
    · rw [List.getElem?_append_left h2, List.getElem?_eq_getElem h2]; rfl
    · rw [List.getElem?_append_right (by omega), List.getElem?_replicate, if_pos (by omega), List.getElem?_eq_none (by omega)]; rfl
  · rw [List.getElem?_eq_none (by simp; omega), List.getElem?_eq_none (by rw [mkE_len]; omega)]

theorem look_low {n a : Nat} : ∀ {l : List (Nat × AV)}, okL n a l = true → ∀ i, i < a → look l i = .undef
  | [], _, _, _ => rfl
  | (k, v) :: r, h, i, hi => by
    simp only [okL, Bool.and_eq_true, decide_eq_true_eq] at h
    simp only [look]
    rw [if_neg (by omega)]
    exact look_low h.2 i (by omega)

theorem refsL_undef : ∀ (l : List Nat) (f : Nat → AV), (∀ i ∈ l, f i = .undef) → refsL (l.map f) = []
  | [], _, _ => rfl
  | a :: r, f, h => by simp only [List.map_cons, refsL, h a (by simp), refs, List.nil_append]; exact refsL_undef r f fun i hi => h i (by simp [hi])

theorem refsL_app (a b : List AV) : refsL (a ++ b) = refsL a ++ refsL b := by
  induction a with
  | nil => rfl
  | cons x r ih => simp [refsL, ih]

theorem refsL_mkE' : ∀ (l : List (Nat × AV)) (a n : Nat), okL n a l = true → a ≤ n → refsL ((List.range' a (n - a)).map (look l)) = refsL (valsL l)
  | [], a, n, _, _ => refsL_undef _ _ fun _ _ => rfl
  | (k, v) :: r, a, n, h, ha => by
    simp only [okL, Bool.and_eq_true, decide_eq_true_eq] at h
    obtain ⟨⟨h1, h2⟩, h3⟩ := h
    have e1 : List.range' a (n - a) = List.range' a (k - a) ++ List.range' k (n - k) := by
      have : n - a = (k - a) + (n - k) := by omega
      rw [this, ← List.range'_append_1]
      congr 2; omega
    have e2 : List.range' k (n - k) = k :: List.range' (k + 1) (n - (k + 1)) := by
      have : n - k = (n - (k + 1)) + 1 := by omega
      rw [this, List.range'_succ]
    rw [e1, List.map_append, refsL_app, e2, refsL_undef (List.range' a (k - a)) _ (fun i hi => ?_), List.map_cons]
    · have e3 : (List.range' (k + 1) (n - (k + 1))).map (look ((k, v) :: r)) = (List.range' (k + 1) (n - (k + 1))).map (look r) := by
        apply List.map_congr_left
        intro i hi
        have := (List.mem_range'_1.1 hi).1
        simp only [look]; rw [if_neg (by omega)]
      rw [e3]
      simp only [refsL, valsL, refsL_mkE' r (k + 1) n h3 (by omega), List.nil_append]
      simp [look]
    · have := List.mem_range'_1.1 hi
      simp only [look]
      rw [if_neg (by omega)]
      exact look_low h3 i (by omega)

theorem refsL_mkE {n : Nat} {l : List (Nat × AV)} (h : okL n 0 l = true) : refsL (mkE n l) = refsL (valsL l) := by
  have := refsL_mkE' l 0 n h (Nat.zero_le _)
  rwa [Nat.sub_zero, ← List.range_eq_range'] at this

@[simp] theorem renL_mkE (g : Nat → Nat) (n : Nat) (l : List (Nat × AV)) : renL g (mkE n l) = mkE n (renM g l) := by
  apply List.ext_getElem?
  intro i
  rw [renL_get]
  have hl : ∀ (l : List (Nat × AV)) (i : Nat), look (renM g l) i = ren g (look l i) := by
    intro l
    induction l with
    | nil => intro i; simp [renM, look, ren]
    | cons x r ih => obtain ⟨k, v⟩ := x; intro i; simp only [renM, look, ih]; split <;> rfl
  by_cases hi : i < n
  · simp [mkE, hi, hl]
  · rw [List.getElem?_eq_none (by rw [mkE_len]; omega), List.getElem?_eq_none (by rw [mkE_len]; omega)]; rfl

@[simp] theorem ite_mkE (c : Prop) [Decidable c] (n : Nat) (l l' : List (Nat × AV)) : (if c then mkE n l else mkE n l') = mkE n (if c then l else l') := by split <;> rfl
@[simp] theorem ite_slot (c : Prop) [Decidable c] (k : Nat) (a b : AV) : (if c then (k, a) else (k, b)) = (k, if c then a else b) := by split <;> rfl
@[simp] theorem ite_os (c : Prop) [Decidable c] (l n n' o o' m m' : Nat) : (if c then AV.os l n o m else AV.os l n' o' m') = AV.os l (if c then n else n') (if c then o else o') (if c then m else m') := by split <;> rfl
@[simp] theorem ite_arr (c : Prop) [Decidable c] (z : Nat) (a b : List (List D)) : (if c then AObj.arr z a else AObj.arr z b) = AObj.arr z (if c then a else b) := by split <;> rfl
@[simp] theorem ite_var (c : Prop) [Decidable c] (a b : List AV) : (if c then AObj.var a else AObj.var b) = AObj.var (if c then a else b) := by split <;> rfl
@[simp] theorem ite_name (c : Prop) [Decidable c] (k : Nat) (a b : AObj) : (if c then (k, a) else (k, b)) = (k, if c then a else b) := by split <;> rfl
@[simp] theorem ite_vsf (c : Prop) [Decidable c] (t : Bool) (x y : List (List D)) : (if c then D.vs t x else D.vs t y) = D.vs t (if c then x else y) := by split <;> rfl

def gcM (l : List (Nat × AV)) (H : Heap) : Heap :=
  let L := reach H RF ((H.map (·.1)).filter (fun l => decide (l < 10000)) ++ refsL (valsL l)) []
  H.filter fun x => L.contains x.1

theorem gcH_nil (E : List AV) : gcH E [] = [] := rfl
theorem gcH_mkE {n : Nat} {l : List (Nat × AV)} (h : okL n 0 l = true) (H : Heap) : gcH (mkE n l) H = gcM l H := by
  unfold gcH gcM
  rw [refsL_mkE h]
@[simp] theorem gcM_nil (l : List (Nat × AV)) : gcM l [] = [] := rfl

theorem trim_mkE {m : Mask} {n : Nat} {l : List (Nat × AV)} (H : Heap) (h : okL n 0 (keepL m.keep l) = true) :
    trim m ⟨mkE n l, H⟩ = sortS (gcP m.pro (proms m.pro ⟨mkE n (keepL m.keep l), gcM (keepL m.keep l) H⟩)) := by
  unfold trim trim1
  simp only [maskE_mkE, gcH_mkE h]

theorem noRef_mkE {x n : Nat} {l : List (Nat × AV)} (H : Heap) (h : okL n 0 l = true) : noRef x (mkE n l) H = (!(refsL (valsL l)).contains x && H.all fun (m, o) => m == x || !(refsO o).contains x) := by
  unfold noRef
  rw [refsL_mkE h]

/-! ### calls -/
/-- the end of a call -/
def callE (nm : Nat) (lent : Upd) (L : List Nat) (rv : AV) (Ho : Heap) : Option (AV × Upd × List Nat) :=
  if L.isEmpty && Ho.isEmpty && noViews rv then some (rv, [], [])
  else
    let back : Nat → Nat := fun j => if j < L.length then L.getD j 0 else nm + (j - L.length)
    if backOK L.length rv Ho && nodupB L && L.all fun l => decide (l < nm) || decide (nm + 10 ≤ l) then
      some (ren back rv, lent ++ Ho.map fun x => (back x.1, renO back x.2), (Ho.filter fun x => decide (L.length ≤ x.1)).map fun x => back x.1)
    else none

/-- what is handed over, and what comes of it -/
def callG (C : Callee) (nm : Nat) (H1 : Heap) (lent : Upd) (f : Nat) (as : List AV) (L : List Nat) : Option Heap → Option (AV × Upd × List Nat)
  | none => none
  | some Hin => match C f (renL (fun l => L.idxOf l) as) Hin with
    | none => none
    | some (rv, Ho) => callE nm lent L rv Ho

def callV (C : Callee) (nm : Nat) (H : Heap) (lent : Upd) (f : Nat) : Option (List AV) → Option (AV × Upd × List Nat)
  | none => none
  | some as => callG C nm (applyU H lent) lent f as (reach (applyU H lent) RF (refsL as) []) (pack (applyU H lent) (fun l => (reach (applyU H lent) RF (refsL as) []).idxOf l) 0 (reach (applyU H lent) RF (refsL as) []))

def callB (b : Bool) (C : Callee) (nm : Nat) (H : Heap) (f : Nat) (args : List AV) : Option (AV × Upd × List Nat) :=
  match b with
  | true => callV C nm H [] f (some args)
  | false => callV C nm H (frz H (args.flatMap arrsOf)) f (vws H args)

@[simp] theorem acall_eq (X : Ctx) (nm : Nat) (H : Heap) (f : Nat) (args : List AV) : acall X nm H f args = callB (X.own f) X.C nm H f args := by
  unfold acall callB callV callG callE
  cases X.own f <;> rfl
@[simp] theorem callB_t (C : Callee) (nm : Nat) (H : Heap) (f : Nat) (args : List AV) : callB true C nm H f args = callV C nm H [] f (some args) := rfl
@[simp] theorem callB_f (C : Callee) (nm : Nat) (H : Heap) (f : Nat) (args : List AV) : callB false C nm H f args = callV C nm H (frz H (args.flatMap arrsOf)) f (vws H args) := rfl
@[simp] theorem callV_none (C : Callee) (nm : Nat) (H : Heap) (lent : Upd) (f : Nat) : callV C nm H lent f none = none := rfl

mutual
theorem ren_none (g : Nat → Nat) : ∀ v : AV, refs v = [] → ren g v = v
  | .undef, _ => rfl
  | .d _, _ => rfl
  | .os .., h => by simp [refs] at h
  | .pv .., h => by simp [refs] at h
  | .pa .., h => by simp [refs] at h
  | .vp .., _ => rfl
  | .anyb, _ => rfl
  | .map _, h => by simp [refs] at h
  | .fn f cs, h => by simp only [ren, renL_none g cs h]
  | .agg cs, h => by simp only [ren, renL_none g cs h]
  | .tup cs, h => by simp only [ren, renL_none g cs h]
theorem renL_none (g : Nat → Nat) : ∀ cs : List AV, refsL cs = [] → renL g cs = cs
  | [], _ => rfl
  | v :: r, h => by
    simp only [refsL, List.append_eq_nil_iff] at h
    simp only [renL, ren_none g v h.1, renL_none g r h.2]
end

def callR (nm : Nat) (lent : Upd) : Option (AV × Heap) → Option (AV × Upd × List Nat)
  | none => none
  | some (rv, Ho) => callE nm lent [] rv Ho

@[simp] theorem callR_some (nm : Nat) (lent : Upd) (rv : AV) (Ho : Heap) : callR nm lent (some (rv, Ho)) = callE nm lent [] rv Ho := rfl

def callW (l : List Nat) (C : Callee) (nm : Nat) (H : Heap) (lent : Upd) (f : Nat) (as : List AV) : Option (AV × Upd × List Nat) := match l with
  | [] => callR nm lent (C f as [])
  | l :: r => callG C nm (applyU H lent) lent f as (reach (applyU H lent) RF (l :: r) []) (pack (applyU H lent) (fun k => (reach (applyU H lent) RF (l :: r) []).idxOf k) 0 (reach (applyU H lent) RF (l :: r) []))

/-- with data alone -/
@[simp] theorem callV_some (C : Callee) (nm : Nat) (H : Heap) (lent : Upd) (f : Nat) (as : List AV) : callV C nm H lent f (some as) = callW (refsL as) C nm H lent f as := by
  cases h : refsL as with
  | nil => simp only [callV, h, reach_nil', pack, callG, renL_none _ as h, callR, callW]
  | cons l r => simp only [callV, callW, h]
@[simp] theorem callW_nil (C : Callee) (nm : Nat) (H : Heap) (lent : Upd) (f : Nat) (as : List AV) : callW [] C nm H lent f as = callR nm lent (C f as []) := rfl
@[simp] theorem callW_cons (l : Nat) (r : List Nat) (C : Callee) (nm : Nat) (H : Heap) (lent : Upd) (f : Nat) (as : List AV) : callW (l :: r) C nm H lent f as =
  callG C nm (applyU H lent) lent f as (reach (applyU H lent) RF (l :: r) []) (pack (applyU H lent) (fun k => (reach (applyU H lent) RF (l :: r) []).idxOf k) 0 (reach (applyU H lent) RF (l :: r) [])) := rfl
def callK (nm : Nat) (lent : Upd) (L : List Nat) : Option (AV × Heap) → Option (AV × Upd × List Nat)
  | none => none
  | some (rv, Ho) => callE nm lent L rv Ho
@[simp] theorem callG_some (C : Callee) (nm : Nat) (H1 : Heap) (lent : Upd) (f : Nat) (as : List AV) (L : List Nat) (Hin : Heap) :
    callG C nm H1 lent f as L (some Hin) = callK nm lent L (C f (renL (fun l => L.idxOf l) as) Hin) := by
  unfold callG callK; rfl
@[simp] theorem callK_some (nm : Nat) (lent : Upd) (L : List Nat) (rv : AV) (Ho : Heap) : callK nm lent L (some (rv, Ho)) = callE nm lent L rv Ho := rfl

/-- the end of a call, where there are names -/
def callN (nm : Nat) (lent : Upd) (L : List Nat) (rv : AV) (Ho : Heap) : Option (AV × Upd × List Nat) :=
    let back : Nat → Nat := fun j => if j < L.length then L.getD j 0 else nm + (j - L.length)
    if backOK L.length rv Ho && nodupB L && L.all fun l => decide (l < nm) || decide (nm + 10 ≤ l) then
      some (ren back rv, lent ++ Ho.map fun x => (back x.1, renO back x.2), (Ho.filter fun x => decide (L.length ≤ x.1)).map fun x => back x.1)
    else none

theorem noViews_refs {rv : AV} (h : noViews rv = true) : refs rv = [] := by
  have cells : ∀ cs : List AV, (∀ x ∈ cs, ∃ d, x = .d d) → refsL cs = [] := by
    intro cs
    induction cs with
    | nil => intro _; rfl
    | cons a r ih =>
      intro hc
      obtain ⟨d, rfl⟩ := hc a (by simp)
      simp only [refsL, refs, List.nil_append]
      exact ih fun x hx => hc x (by simp [hx])
  cases rv with
  | d x => rfl
  | agg cs =>
    simp only [refs]
    refine cells cs fun x hx => ?_
    obtain ⟨i, hi⟩ := List.getElem?_of_mem hx
    obtain ⟨d, hd, _⟩ := noViews_agg h i x hi
    exact ⟨d, hd⟩
  | tup cs =>
    simp only [refs]
    refine cells cs fun x hx => ?_
    obtain ⟨i, hi⟩ := List.getElem?_of_mem hx
    obtain ⟨d, hd, _⟩ := noViews_tup h i x hi
    exact ⟨d, hd⟩
  | _ => simp [noViews] at h

def refK {α : Type} : List Nat → α → α → α
  | [], a, _ => a
  | _ :: _, _, b => b
@[simp] theorem refK_nil {α : Type} (a b : α) : refK [] a b = a := rfl
@[simp] theorem refK_cons {α : Type} (l : Nat) (r : List Nat) (a b : α) : refK (l :: r) a b = b := rfl

@[simp] theorem callE_names (nm : Nat) (lent : Upd) (l : Nat) (L : List Nat) (rv : AV) (Ho : Heap) : callE nm lent (l :: L) rv Ho = callN nm lent (l :: L) rv Ho := rfl
@[simp] theorem callE_made (nm : Nat) (lent : Upd) (rv : AV) (h : Nat × AObj) (Ho : Heap) : callE nm lent [] rv (h :: Ho) = callN nm lent [] rv (h :: Ho) := rfl
@[simp] theorem callE_data (nm : Nat) (rv : AV) : callE nm [] [] rv [] = refK (refs rv) (some (rv, [], [])) none := by
  cases h : refs rv with
  | cons l r =>
    unfold callE
    have hv : noViews rv = false := by
      cases hv : noViews rv with
      | false => rfl
      | true => exact absurd h (by rw [noViews_refs hv]; simp)
    simp [hv, backOK, h, hget, refK]
  | nil =>
    unfold callE
    simp only [refK]
    split
    · rfl
    · simp [backOK, h, nodupB, ren_none _ rv h]
@[simp] theorem callE_lent (nm : Nat) (x : Nat × AObj) (lent : Upd) (rv : AV) : callE nm (x :: lent) [] rv [] = bif noViews rv then some (rv, [], []) else refK (refs rv) (some (rv, x :: lent, [])) none := by
  cases hv : noViews rv with
  | true => unfold callE; simp [hv]
  | false =>
    unfold callE
    cases h : refs rv with
    | nil => simp [hv, backOK, h, nodupB, ren_none _ rv h]
    | cons l r => simp [hv, backOK, h, hget, refK]

@[simp] theorem noViews_int (k : IntKind) (n : Int) : noViews (.d (.int k n)) = true := rfl
@[simp] theorem noViews_bool (b : Bool) : noViews (.d (.bool b)) = true := rfl
@[simp] theorem noViews_str (s : List UInt8) : noViews (.d (.str s)) = true := rfl
@[simp] theorem noViews_nilp : noViews (.d .nilp) = true := rfl
@[simp] theorem noViews_nili : noViews (.d .nili) = true := rfl
@[simp] theorem noViews_cons (t : Bool) (c : List D) (r : List (List D)) : noViews (.d (.vs t (c :: r))) = false := rfl
@[simp] theorem noViews_pv (l j : Nat) : noViews (.pv l j) = false := rfl
def plainC : AV → Bool
  | .d (.int ..) | .d (.bool ..) | .d (.str ..) | .d .nili | .d (.vs _ []) => true | .d (.ifc _ (.int ..)) => true | _ => false
@[simp] theorem noViewsT (cs : List AV) : noViews (.tup cs) = cs.all plainC := rfl
@[simp] theorem noViewsA (cs : List AV) : noViews (.agg cs) = cs.all plainC := rfl
@[simp] theorem plainC_int (k : IntKind) (n : Int) : plainC (.d (.int k n)) = true := rfl
@[simp] theorem plainC_bool (b : Bool) : plainC (.d (.bool b)) = true := rfl
@[simp] theorem plainC_str (s : List UInt8) : plainC (.d (.str s)) = true := rfl
@[simp] theorem plainC_nili : plainC (.d .nili) = true := rfl
@[simp] theorem plainC_agg (cs : List AV) : plainC (.agg cs) = false := rfl
@[simp] theorem plainC_cons (t : Bool) (c : List D) (r : List (List D)) : plainC (.d (.vs t (c :: r))) = false := rfl

@[simp] theorem reach_nil (H : Heap) (k : Nat) (seen : List Nat) : reach H k [] seen = seen := by cases k <;> rfl
theorem RF_eq : RF = 64 := rfl

attribute [simp] aop putE nth aev AOpOf.map cellsOf freshU applyU hset hget aload cut mkVal boolV intV nameOf aresults aresult mkRes vwT vw viewRes finE pack nodupB ren renL renO solid flatA liveA afaddr anil aindex szAt alen reach RF astore Bz.put frz arrsT arrsOf
@[simp] theorem sized_nil (sz : Nat) : sized sz [] = true := rfl
@[simp] theorem sized_cons (sz : Nat) (c : List D) (r : List (List D)) : sized sz (c :: r) = (c.length == sz && sized sz r) := rfl
theorem sized_app (sz : Nat) (a b : List (List D)) : sized sz (a ++ b) = (sized sz a && sized sz b) := by simp [sized]
theorem sized_map {α : Type} (sz : Nat) (f : α → List D) (h : ∀ x, (f x).length = sz) (l : List α) : sized sz (l.map f) = true := by simp [sized, h]
@[simp] theorem take_len_map {α β : Type} (f : α → β) (l : List α) : (l.map f).take l.length = l.map f := by rw [← List.map_take, List.take_length]
attribute [simp] sized_app
attribute [simp] callN backOK
attribute [simp] aidx aslice bounds asI nowhere alookup amapupd adelete amksl acopy aappend aappz rowOf rowLen isNil isNilU aun fillCells fillRow keyOK cellsOK skOK findE setE delE avEq scalEq aggEq aeqagg isNilC
attribute [simp] look insE keepL numE valsL okL renM trim_mkE noRef_mkE gcM start_mkE refs refsL refsO sortS sortH insH proms prom proAt proSet isF demote gcP gcH_nil gcH_mkE renS freeN norm normA vwD vwDs vws
end Bz

/- Loops over a list, and what else walks want. -/
namespace Bz
open Go

/-- rounds over a list, till one leaves -/
def foldS {α σ ρ : Type} (f : Nat → σ → α → σ ⊕ ρ) : List α → Nat → σ → σ ⊕ ρ
  | [], _, a => .inl a
  | x :: r, i, a => match f i a x with
    | .inl a' => foldS f r (i + 1) a'
    | .inr b => .inr b

@[simp] theorem foldS_nil {α σ ρ : Type} (f : Nat → σ → α → σ ⊕ ρ) (i : Nat) (a : σ) : foldS f [] i a = .inl a := rfl
theorem foldS_cons {α σ ρ : Type} (f : Nat → σ → α → σ ⊕ ρ) (x : α) (r : List α) (i : Nat) (a : σ) : foldS f (x :: r) i a = match f i a x with
    | .inl a' => foldS f r (i + 1) a'
    | .inr b => .inr b := rfl

/-- what leaves a loop -/
def outS {σ ρ : Type} (N : σ → AExit × St) (E : ρ → AExit × St) : σ ⊕ ρ → AExit × St
  | .inl a => N a
  | .inr b => E b
@[simp] theorem outS_inl {σ ρ : Type} (N : σ → AExit × St) (E : ρ → AExit × St) (a : σ) : outS N E (.inl a) = N a := rfl
@[simp] theorem outS_inr {σ ρ : Type} (N : σ → AExit × St) (E : ρ → AExit × St) (b : ρ) : outS N E (.inr b) = E b := rfl

/-- one round -/
def Round {σ ρ : Type} (X : Ctx) (mask : Mask) (body : ACode) (s : St) (S' : σ → St) (I' : σ → Prop) (E : ρ → AExit × St) : σ ⊕ ρ → Prop
  | .inl a' => I' a' ∧ (exL X body s).map (fun p => (p.1, trim mask p.2)) = some (.norm, S' a')
  | .inr b => exL X body s = some (E b)
@[simp] theorem Round_inl {σ ρ : Type} (X : Ctx) (mask : Mask) (body : ACode) (s : St) (S' : σ → St) (I' : σ → Prop) (E : ρ → AExit × St) (a' : σ) :
    Round X mask body s S' I' E (.inl a') = (I' a' ∧ (exL X body s).map (fun p => (p.1, trim mask p.2)) = some (.norm, S' a')) := rfl
@[simp] theorem Round_inr {σ ρ : Type} (X : Ctx) (mask : Mask) (body : ACode) (s : St) (S' : σ → St) (I' : σ → Prop) (E : ρ → AExit × St) (b : ρ) :
    Round X mask body s S' I' E (.inr b) = (exL X body s = some (E b)) := rfl

theorem loop_list {α σ ρ : Type} {X : Ctx} {mask : Mask} {body : ACode} (l : List α) (S : Nat → σ → St) (I : Nat → σ → Prop) (f : Nat → σ → α → σ ⊕ ρ) (N : σ → AExit × St) (E : ρ → AExit × St)
    (hN : ∀ a, (N a).1 ≠ .norm) (hE : ∀ b, (E b).1 ≠ .norm)
    (step : ∀ (i : Nat) (a : σ) (x : α) (hi : i < l.length), l[i] = x → I i a → Round X mask body (S i a) (S (i + 1)) (I (i + 1)) E (f i a x))
    (fin : ∀ a, I l.length a → exL X body (S l.length a) = some (N a)) (a0 : σ) (h0 : I 0 a0) (s : St) (hs : trim mask s = S 0 a0) :
    exL X (.loop mask body) s = some (outS N E (foldS f l 0 a0)) := by
  have key : ∀ (r : List α) (i : Nat) (a : σ) (s : St), l.drop i = r → i + r.length = l.length → I i a → trim mask s = S i a → exL X (.loop mask body) s = some (outS N E (foldS f r i a)) := by
    intro r
    induction r with
    | nil =>
      intro i a s hd hi hI hs
      have : i = l.length := by simpa using hi
      subst this
      have hf := fin a hI
      rw [← hs] at hf
      simp only [foldS, outS]
      have hn := hN a
      cases hNa : N a with
      | mk e s1 =>
        rw [hNa] at hf hn
        exact loop_end hf hn
    | cons x r ih =>
      intro i a s hd hi hI hs
      have hlt : i < l.length := by simp at hi; omega
      have hx : l[i] = x := by
        have : l[i]? = some x := by rw [← List.head?_drop, hd]; rfl
        rw [List.getElem?_eq_getElem hlt] at this; exact Option.some.inj this
      have hd' : l.drop (i + 1) = r := by rw [← List.tail_drop, hd]; rfl
      have st := step i a x hlt hx hI
      rw [foldS_cons]
      cases hf : f i a x with
      | inl a' =>
        rw [hf] at st
        simp only [Round_inl] at st
        refine loop_next (t := S (i + 1) a') (by rw [hs]; exact st.2) fun s' hs' => ?_
        exact ih (i + 1) a' s' hd' (by simp at hi; omega) st.1 hs'
      | inr b =>
        rw [hf] at st
        simp only [Round_inr] at st
        rw [← hs] at st
        have hn := hE b
        simp only [outS]
        cases hEb : E b with
        | mk e s1 =>
          rw [hEb] at st hn
          exact loop_end st hn
  exact key l 0 a0 s (by simp) (by simp) h0 hs

/-- rounds over a list, all of them -/
def foldI {α σ : Type} (g : Nat → σ → α → σ) : List α → Nat → σ → σ
  | [], _, a => a
  | x :: r, i, a => foldI g r (i + 1) (g i a x)
@[simp] theorem foldI_nil {α σ : Type} (g : Nat → σ → α → σ) (i : Nat) (a : σ) : foldI g [] i a = a := rfl
theorem foldI_cons {α σ : Type} (g : Nat → σ → α → σ) (x : α) (r : List α) (i : Nat) (a : σ) : foldI g (x :: r) i a = foldI g r (i + 1) (g i a x) := rfl

theorem loop_fold {α σ : Type} {X : Ctx} {mask : Mask} {body : ACode} (l : List α) (S : Nat → σ → St) (I : Nat → σ → Prop) (g : Nat → σ → α → σ) (N : σ → AExit × St) (hN : ∀ a, (N a).1 ≠ .norm)
    (step : ∀ (i : Nat) (a : σ) (x : α) (hi : i < l.length), l[i] = x → I i a → I (i + 1) (g i a x) ∧ (exL X body (S i a)).map (fun p => (p.1, trim mask p.2)) = some (.norm, S (i + 1) (g i a x)))
    (fin : ∀ a, I l.length a → exL X body (S l.length a) = some (N a)) (a0 : σ) (h0 : I 0 a0) (s : St) (hs : trim mask s = S 0 a0) :
    exL X (.loop mask body) s = some (N (foldI g l 0 a0)) := by
  have h := loop_list (ρ := Empty) (X := X) (mask := mask) (body := body) l S I (fun i a x => .inl (g i a x)) N (fun b => b.elim) hN (fun b => b.elim) (fun i a x hi hx hI => step i a x hi hx hI) fin a0 h0 s hs
  have key : ∀ (r : List α) (i : Nat) (a : σ), foldS (ρ := Empty) (fun i a x => .inl (g i a x)) r i a = .inl (foldI g r i a) := by
    intro r
    induction r with
    | nil => intro i a; rfl
    | cons x r ih => intro i a; rw [foldS_cons, foldI_cons]; exact ih (i + 1) _
  rw [key] at h
  exact h

/-- the first that is so -/
def findI {α : Type} (p : Nat → α → Bool) : List α → Nat → Option (Nat × α)
  | [], _ => none
  | x :: r, i => if p i x = true then some (i, x) else findI p r (i + 1)

def outF {α : Type} (N : AExit × St) (E : Nat → α → AExit × St) : Option (Nat × α) → AExit × St
  | none => N
  | some p => E p.1 p.2
@[simp] theorem outF_none {α : Type} (N : AExit × St) (E : Nat → α → AExit × St) : outF N E none = N := rfl
@[simp] theorem outF_some {α : Type} (N : AExit × St) (E : Nat → α → AExit × St) (p : Nat × α) : outF N E (some p) = E p.1 p.2 := rfl

/-- a loop that looks for something -/
theorem loop_find {α : Type} {X : Ctx} {mask : Mask} {body : ACode} (l : List α) (S : Nat → St) (p : Nat → α → Bool) (N : AExit × St) (E : Nat → α → AExit × St) (hN : N.1 ≠ .norm) (hE : ∀ i x, (E i x).1 ≠ .norm)
    (step : ∀ (i : Nat) (x : α) (hi : i < l.length), l[i] = x → p i x = false → (exL X body (S i)).map (fun p => (p.1, trim mask p.2)) = some (.norm, S (i + 1)))
    (found : ∀ (i : Nat) (x : α) (hi : i < l.length), l[i] = x → p i x = true → exL X body (S i) = some (E i x))
    (fin : exL X body (S l.length) = some N) (s : St) (hs : trim mask s = S 0) :
    exL X (.loop mask body) s = some (outF N E (findI p l 0)) := by
  have h := loop_list (σ := Unit) (ρ := Nat × α) (X := X) (mask := mask) (body := body) l (fun i _ => S i) (fun _ _ => True) (fun i _ x => if p i x = true then .inr (i, x) else .inl ()) (fun _ => N) (fun q => E q.1 q.2) (fun _ => hN) (fun q => hE q.1 q.2)
    (fun i a x hi hx _ => by
      cases hp : p i x with
      | true => simp only [if_true, Round_inr]; exact found i x hi hx hp
      | false => simp only [Bool.false_eq_true, if_false, Round_inl]; exact ⟨trivial, step i x hi hx hp⟩) (fun _ _ => fin) () trivial s hs
  rw [h]
  have key : ∀ (r : List α) (i : Nat), foldS (fun i (_ : Unit) x => if p i x = true then Sum.inr (i, x) else .inl ()) r i () = match findI p r i with | none => .inl () | some q => .inr q := by
    intro r
    induction r with
    | nil => intro i; rfl
    | cons x r ih =>
      intro i
      rw [foldS_cons]
      simp only [findI]
      cases hp : p i x with
      | true => simp
      | false => simp only [Bool.false_eq_true, if_false]; exact ih (i + 1)
  rw [key]
  cases findI p l 0 <;> rfl

theorem findI_any {α : Type} (p : α → Bool) : ∀ (l : List α) (i : Nat), (findI (fun _ => p) l i).isSome = l.any p
  | [], _ => rfl
  | x :: r, i => by
    simp only [findI, List.any_cons]
    by_cases hp : p x = true
    · rw [if_pos hp, hp]; rfl
    · rw [if_neg hp, findI_any p r (i + 1), Bool.eq_false_iff.2 hp, Bool.false_or]

theorem findI_none {α : Type} (p : Nat → α → Bool) : ∀ (l : List α) (i : Nat), findI p l i = none ↔ ∀ (k : Nat) (x : α), l[k]? = some x → p (i + k) x = false
  | [], i => by simp [findI]
  | x :: r, i => by
    simp only [findI]
    constructor
    · intro h k y hk
      cases hp : p i x with
      | true => rw [hp] at h; simp at h
      | false =>
        rw [hp] at h
        simp only [Bool.false_eq_true, if_false] at h
        cases k with
        | zero => simp at hk; subst hk; exact hp
        | succ k =>
          have := (findI_none p r (i + 1)).1 h k y (by simpa using hk)
          rwa [show i + 1 + k = i + (k + 1) by omega] at this
    · intro h
      have h0 := h 0 x rfl
      rw [Nat.add_zero] at h0
      rw [h0]
      simp only [Bool.false_eq_true, if_false]
      refine (findI_none p r (i + 1)).2 fun k y hk => ?_
      have := h (k + 1) y (by simpa using hk)
      rwa [show i + (k + 1) = i + 1 + k by omega] at this

theorem findI_some {α : Type} (p : Nat → α → Bool) : ∀ (l : List α) (i : Nat) (q : Nat × α), findI p l i = some q → ∃ k, q.1 = i + k ∧ l[k]? = some q.2 ∧ p q.1 q.2 = true ∧ ∀ (j : Nat) (x : α), j < k → l[j]? = some x → p (i + j) x = false
  | [], i, q, h => by simp [findI] at h
  | x :: r, i, q, h => by
    simp only [findI] at h
    cases hp : p i x with
    | true =>
      rw [hp] at h
      simp only [if_true, Option.some.injEq] at h
      subst h
      exact ⟨0, rfl, rfl, hp, by omega⟩
    | false =>
      rw [hp] at h
      simp only [Bool.false_eq_true, if_false] at h
      obtain ⟨k, h1, h2, h3, h4⟩ := findI_some p r (i + 1) q h
      refine ⟨k + 1, by omega, by simpa using h2, h3, fun j y hj hy => ?_⟩
      cases j with
      | zero => simp at hy; subst hy; exact hp
      | succ j =>
        have := h4 j y (by omega) (by simpa using hy)
        rwa [show i + 1 + j = i + (j + 1) by omega] at this

theorem wrap_ok {a : Int} (h1 : -9223372036854775808 ≤ a) (h2 : a < 9223372036854775808) : IntKind.i64.wrap a = a := by
  simp [IntKind.wrap, IntKind.signed, IntKind.bits]
  omega

theorem map_ite {α β : Type} (c : Prop) [Decidable c] (f : α → β) (a b : List α) : (if c then a else b).map f = if c then a.map f else b.map f := by split <;> rfl
theorem mk_eq {n : Nat} {l l' : List (Nat × AV)} (h : l = l') : mkE n l = mkE n l' := by rw [h]

@[simp] theorem range_1 : List.range 1 = [0] := rfl
@[simp] theorem range_2 : List.range 2 = [0, 1] := rfl
@[simp] theorem range_3 : List.range 3 = [0, 1, 2] := rfl
@[simp] theorem range_4 : List.range 4 = [0, 1, 2, 3] := rfl
@[simp] theorem range_5 : List.range 5 = [0, 1, 2, 3, 4] := rfl
@[simp] theorem range_6 : List.range 6 = [0, 1, 2, 3, 4, 5] := rfl
@[simp] theorem idx_hit (a : Nat) (r : List Nat) : List.idxOf a (a :: r) = 0 := by simp
theorem idx_miss (a b : Nat) (r : List Nat) : List.idxOf a (b :: r) = if b = a then 0 else List.idxOf a r + 1 := by
  rw [List.idxOf_cons]
  by_cases h : b = a
  · simp [h]
  · rw [if_neg h, beq_false_of_ne h]; rfl
attribute [simp] idx_miss
@[simp] theorem nat_neg (n : Nat) : ((n : Int) < 0) = False := by simp
@[simp] theorem take_drop_len {α β : Type} (f : α → β) (b : List α) (k : Nat) : List.take (b.length - k) (List.drop k (List.map f b)) = List.drop k (List.map f b) := by
  rw [List.take_of_length_le]; simp
@[simp] theorem take_add_len {α β : Type} (f : α → β) (b : List α) (x : β) : List.take (b.length + 1) (List.map f b ++ [x]) = List.map f b ++ [x] := by
  rw [List.take_of_length_le]; simp

/-! ### bytes -/
def byC (b : UInt8) : List D := [.int .u8 (b.toNat : Int)]
@[simp] theorem byC_eq (b : UInt8) : byC b = [.int .u8 (b.toNat : Int)] := rfl
@[simp] theorem dOfBytes_eq (s : List UInt8) : dOfBytes s = s.map byC := rfl
@[simp] theorem sized_by (s : List UInt8) : sized 1 (s.map byC) = true := sized_map 1 byC (fun _ => rfl) s
@[simp] theorem bytesOfD_by (s : List UInt8) : bytesOfD (s.map byC) = some s := by
  induction s with
  | nil => rfl
  | cons b r ih =>
    have : byteOfD (byC b) = some b := by simp [byteOfD]
    simp [bytesOfD, ih, byteOfD]
@[simp] theorem bytesOfD_nil : bytesOfD [] = some [] := rfl

/-- a number's last octet -/
def toB (n : Int) : UInt8 := UInt8.ofNat (n % 256).toNat
theorem toB_val (n : Int) : ((toB n).toNat : Int) = n % 256 := by
  unfold toB
  have h1 : 0 ≤ n % 256 := Int.emod_nonneg _ (by omega)
  have h2 : n % 256 < 256 := Int.emod_lt_of_pos _ (by omega)
  rw [UInt8.toNat_ofNat_of_lt' (by simp [UInt8.size]; omega)]
  omega
@[simp] theorem wrap_u8 (n : Int) : IntKind.u8.wrap n = ((toB n).toNat : Int) := by
  rw [toB_val]
  simp [IntKind.wrap, IntKind.bits, IntKind.signed]
theorem toB_nat (b : UInt8) : toB (b.toNat : Int) = b := by
  have h := toB_val b.toNat
  have h2 := b.toNat_lt
  apply UInt8.toNat_inj.1
  omega

end Bz

/- Loops with a measure: rounds till one leaves. -/
namespace Bz
open Go

/-- whatever is trimmed to the state it begins with, ends alike -/
theorem loop_meas {σ : Type} {X : Ctx} {mask : Mask} {body : ACode} (S : σ → St) (I : σ → Prop) (μ : σ → Nat) (Q : AExit × St → Prop)
    (step : ∀ a, I a → (∃ a', I a' ∧ μ a' < μ a ∧ (exL X body (S a)).map (fun p => (p.1, trim mask p.2)) = some (.norm, S a')) ∨ (∃ r, exL X body (S a) = some r ∧ r.1 ≠ .norm ∧ Q r))
    (a0 : σ) (h0 : I a0) : ∃ r, Q r ∧ ∀ s, trim mask s = S a0 → exL X (.loop mask body) s = some r := by
  have key : ∀ (n : Nat) (a : σ), μ a ≤ n → I a → ∃ r, Q r ∧ ∀ s, trim mask s = S a → exL X (.loop mask body) s = some r := by
    intro n
    induction n with
    | zero =>
      intro a hm hI
      rcases step a hI with ⟨a', _, hlt, _⟩ | ⟨r, hr, hn, hq⟩
      · omega
      · obtain ⟨e, s1⟩ := r
        exact ⟨_, hq, fun s hs => loop_end (by rw [hs]; exact hr) hn⟩
    | succ n ih =>
      intro a hm hI
      rcases step a hI with ⟨a', hI', hlt, hr⟩ | ⟨r, hr, hn, hq⟩
      · obtain ⟨p, hp, e⟩ := Option.map_eq_some_iff.1 hr
        obtain ⟨e', s'⟩ := p
        obtain ⟨rfl, e2⟩ := Prod.mk.inj e
        obtain ⟨q, h2, h1⟩ := ih a' (by omega) hI'
        exact ⟨q, h2, fun s hs => loop_norm (by rw [hs]; exact hp) (h1 _ e2)⟩
      · obtain ⟨e, s1⟩ := r
        exact ⟨_, hq, fun s hs => loop_end (by rw [hs]; exact hr) hn⟩
  exact key (μ a0) a0 (Nat.le_refl _) h0

/-- passes from a label on -/
theorem scope_meas {σ : Type} {X : Ctx} {l : Nat} {m : Mask} {body : ACode} (S : σ → St) (I : σ → Prop) (μ : σ → Nat) (Q : AExit × St → Prop)
    (step : ∀ a, I a → (∃ a', I a' ∧ μ a' < μ a ∧ (exL X body (S a)).map (fun p => (p.1, trim m p.2)) = some (.goto l, S a')) ∨ (∃ r, exL X body (S a) = some r ∧ (∀ j, r.1 ≠ .goto j) ∧ Q r))
    (a0 : σ) (h0 : I a0) : ∃ r, Q r ∧ ∀ s, trim m s = S a0 → scpJ X l m body s = some r := by
  have key : ∀ (n : Nat) (a : σ), μ a ≤ n → I a → ∃ r, Q r ∧ ∀ s, trim m s = S a → scpJ X l m body s = some r := by
    intro n
    induction n with
    | zero =>
      intro a hm hI
      rcases step a hI with ⟨a', _, hlt, _⟩ | ⟨r, hr, hn, hq⟩
      · omega
      · obtain ⟨e, s1⟩ := r
        exact ⟨_, hq, fun s hs => scope_end (by rw [hs]; exact hr) hn⟩
    | succ n ih =>
      intro a hm hI
      rcases step a hI with ⟨a', hI', hlt, hr⟩ | ⟨r, hr, hn, hq⟩
      · obtain ⟨p, hp, e⟩ := Option.map_eq_some_iff.1 hr
        obtain ⟨e', s'⟩ := p
        obtain ⟨rfl, e2⟩ := Prod.mk.inj e
        obtain ⟨q, h2, h1⟩ := ih a' (by omega) hI'
        exact ⟨q, h2, fun s hs => scope_goto (by rw [hs]; exact hp) (h1 _ e2)⟩
      · obtain ⟨e, s1⟩ := r
        exact ⟨_, hq, fun s hs => scope_end (by rw [hs]; exact hr) hn⟩
  exact key (μ a0) a0 (Nat.le_refl _) h0

/-- over a list, by place -/
theorem loop_upto {σ : Type} {X : Ctx} {mask : Mask} {body : ACode} (n : Nat) (S : Nat → σ → St) (I : Nat → σ → Prop) (Q : AExit × St → Prop)
    (step : ∀ i a, i < n → I i a → (∃ a', I (i + 1) a' ∧ (exL X body (S i a)).map (fun p => (p.1, trim mask p.2)) = some (.norm, S (i + 1) a')) ∨ (∃ r, exL X body (S i a) = some r ∧ r.1 ≠ .norm ∧ Q r))
    (fin : ∀ a, I n a → ∃ r, exL X body (S n a) = some r ∧ r.1 ≠ .norm ∧ Q r)
    (a0 : σ) (h0 : I 0 a0) : ∃ r, Q r ∧ ∀ s, trim mask s = S 0 a0 → exL X (.loop mask body) s = some r := by
  refine loop_meas (σ := Nat × σ) (fun p => S p.1 p.2) (fun p => p.1 ≤ n ∧ I p.1 p.2) (fun p => n - p.1) Q ?_ (0, a0) ⟨Nat.zero_le _, h0⟩
  rintro ⟨i, a⟩ ⟨hi, hI⟩
  simp only at hi hI
  by_cases h : i < n
  · rcases step i a h hI with ⟨a', h1, h2⟩ | h1
    · exact .inl ⟨(i + 1, a'), ⟨h, h1⟩, by simp only; omega, h2⟩
    · exact .inr h1
  · have : i = n := by omega
    subst this
    exact .inr (fin a hI)

@[simp] theorem take_two {α β γ : Type} (f : α → β) (g : γ → β) (l : List α) (m : List γ) : List.take (l.length + m.length) (l.map f ++ m.map g) = l.map f ++ m.map g := by
  rw [List.take_of_length_le]; simp
@[simp] theorem gcH_mkE0 (n : Nat) (H : Heap) : gcH (mkE n []) H = gcM [] H := gcH_mkE rfl H
end Bz

/- A byte's place in a text: what stands for bytealg.IndexByteString. -/
namespace Bz
open Go

def extByte (f : Nat) : Callee := fun g args H => if g = f then match args, H with
    | [.d (.str s), .d (.int .u8 c)], [] => some (.d (.int .i64 (firstIdx ⟨s.toArray⟩ c.toNat.toUInt8)), [])
    | _, _ => none
  else none

theorem extByte_good {P : Program} {f : FuncId} {fn : Func} (hf : P.funcs[f]? = some fn) (hname : (fn.name == "runtime.NumGoroutine") = false)
    (hb : fn.body.isNone = true) (hn : Extern.findNext fn = none) (he : Extern.find fn = some Extern.BytealgIndexByte.indexByte) : Good P (extByte f) := by
  intro g args H rv Ho h
  unfold extByte at h
  split at h
  · rename_i hg
    subst hg
    split at h
    · rename_i s c
      cases h
      intro ρ S w vs hi ha
      obtain ⟨a, b, rfl, h1, h2⟩ := ha.two
      cases relA_str h1
      cases relA_int h2
      refine .inr ⟨.int .i64 (firstIdx ⟨s.toArray⟩ c.toNat.toUInt8), w, ?_, _, ρ, S, rfl, .refl hi, rel_int _ _⟩
      rw [run_callFunc_indexByte hf hname hb hn he, run_indexByte_string]; rfl
    · cases h
  · cases h

end Bz

/- What a row asks behind the call, where nothing that was there has turned. -/
namespace Bz
open Go Go.RowKit Go.ChangeShapes

section
variable {H : Type} {enc : TypeId × Value → H} {P : Program}

theorem post_law {f : Func} {s : ChangeSpec} {W W' : World} {args : Array Value} {ds gs : List (DataW H)} {before : List MemPlace}
    (hW : DataW.Whole enc P f.params.toList s.vars false W args.toList ds gs before) (hv : s.vars = [])
    (hfn : (s.fn H ds).results = [.lit (.bool true)] ∧ (s.fn H ds).args = ds ∧ (s.fn H ds).vars = [])
    (hl : laidOutB P = true) (hr : (f.params.toList.all fun t => P.readableRec t && decide (t < P.types.size)) = true) {bt : TypeId} (hrt : f.resultTypes = #[bt]) (hbt : P.underlying bt = some .bool) (hb : Below W.heap.size W W') :
    s.post enc P f false true false false W args (.bool true) W' := by
  have hW' := hW
  obtain ⟨p, q, hA, hV, hpq, hfz, hnd⟩ := hW
  rw [hv] at hV
  obtain ⟨rfl, rfl⟩ := trodVars_none hV
  obtain ⟨f1, f2, f3⟩ := hfn
  refine ⟨ds, [], before, [], before, [], hW', ?_, ?_, ?_, hb.frame _, fun h => by cases h⟩
  · rw [List.append_nil, f1, hrt]
    exact trodAll_cons_mk (shut_bool hbt true) trodAll_mk0
  · rw [List.append_nil, f2, hpq, List.append_nil]
    exact trodAll_back hl hb _ _ _ _ hr hA
  · rw [List.append_nil, f3, hv]; rfl
end
end Bz
