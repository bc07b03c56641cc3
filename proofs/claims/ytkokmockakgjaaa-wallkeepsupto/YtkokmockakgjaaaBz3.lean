/- The clean machine, part 4: values without memory, an interpreter of translated code over them, and that it is right about the program; no program in sight. No condition. -/
import Derived.Sort.Walk0
import Derived.Test.YtkokmockakgjaaaBz2
import Derived.Sort.EncStr
import Derived.Sort.Grow
import Derived.Test.YtkokmockakgjaaaBz1
import Derived.Maps.RangeRun
set_option linter.unusedSimpArgs false
set_option linter.unusedVariables false
/- Sorting, plainly: by insertion; sorted lists of the same members are one. -/
namespace Bz
open Go

/-- 'less', so that of any two unlike ones just one is less -/
structure TotLt {α : Type} (lt : α → α → Bool) : Prop where
  irr : ∀ x, lt x x = false
  tra : ∀ x y z, lt x y = true → lt y z = true → lt x z = true
  tot : ∀ x y, lt x y = false → lt y x = false → x = y

section
variable {α : Type} {lt : α → α → Bool}

def insB (lt : α → α → Bool) (x : α) : List α → List α
  | [] => [x]
  | y :: r => if lt y x = true then y :: insB lt x r else x :: y :: r

def isort (lt : α → α → Bool) : List α → List α
  | [] => []
  | x :: r => insB lt x (isort lt r)

/-- never less than what stands ahead -/
def UpB (lt : α → α → Bool) (l : List α) : Prop := l.Pairwise fun a b => lt b a = false

theorem TotLt.asym (h : TotLt lt) {x y : α} (e : lt x y = true) : lt y x = false := by
  cases q : lt y x with
  | false => rfl
  | true => have := h.tra x y x e q; rw [h.irr] at this; cases this
theorem TotLt.ntra (h : TotLt lt) {x y z : α} (a : lt y x = false) (b : lt z y = false) : lt z x = false := by
  cases q : lt z x with
  | false => rfl
  | true =>
    cases p : lt x y with
    | true => have := h.tra z x y q p; rw [b] at this; cases this
    | false => have := h.tot x y p a; subst this; rw [b] at q; cases q

theorem insB_perm (x : α) : ∀ l : List α, (insB lt x l).Perm (x :: l)
  | [] => .refl _
  | y :: r => by
    unfold insB
    split
    · exact ((insB_perm x r).cons y).trans (.swap x y r)
    · exact .refl _
theorem isort_perm : ∀ l : List α, (isort lt l).Perm l
  | [] => .refl _
  | x :: r => (insB_perm x _).trans ((isort_perm r).cons x)
theorem isort_len (l : List α) : (isort lt l).length = l.length := (isort_perm l).length_eq
theorem isort_mem {l : List α} {a : α} : a ∈ isort lt l ↔ a ∈ l := (isort_perm l).mem_iff

theorem insB_up (h : TotLt lt) (x : α) : ∀ {l : List α}, UpB lt l → UpB lt (insB lt x l)
  | [], _ => List.pairwise_singleton _ _
  | y :: r, hu => by
    have hu' := List.pairwise_cons.1 hu
    unfold insB
    split
    · rename_i e
      refine List.pairwise_cons.2 ⟨fun b hb => ?_, insB_up h x hu'.2⟩
      rcases List.mem_cons.1 ((insB_perm x r).mem_iff.1 hb) with rfl | hb
      · exact h.asym e
      · exact hu'.1 b hb
    · rename_i e
      have e : lt y x = false := by simpa using e
      refine List.pairwise_cons.2 ⟨fun b hb => ?_, hu⟩
      rcases List.mem_cons.1 hb with rfl | hb
      · exact e
      · exact h.ntra e (hu'.1 b hb)
theorem isort_up (h : TotLt lt) : ∀ l : List α, UpB lt (isort lt l)
  | [] => List.Pairwise.nil
  | x :: r => insB_up h x (isort_up h r)

/-- sorted lists of the same members are one -/
theorem up_unique (h : TotLt lt) : ∀ {a b : List α}, UpB lt a → UpB lt b → a.Perm b → a = b
  | [], b, _, _, p => by rw [List.nil_perm.1 p]
  | x :: r, b, ha, hb, p => by
    cases b with
    | nil => exact absurd p.length_eq (by simp)
    | cons y s =>
      have ha' := List.pairwise_cons.1 ha
      have hb' := List.pairwise_cons.1 hb
      have hxy : x = y := by
        have h1 : x ∈ y :: s := p.mem_iff.1 (by simp)
        have h2 : y ∈ x :: r := p.mem_iff.2 (by simp)
        rcases List.mem_cons.1 h1 with e | h1
        · exact e
        rcases List.mem_cons.1 h2 with e | h2
        · exact e.symm
        exact h.tot x y (hb'.1 x h1) (ha'.1 y h2)
      subst hxy
      rw [up_unique h ha'.2 hb'.2 ((List.perm_cons x).1 p)]
theorem isort_of_perm (h : TotLt lt) {a b : List α} (p : a.Perm b) : isort lt a = isort lt b :=
  up_unique h (isort_up h a) (isort_up h b) ((isort_perm a).trans (p.trans (isort_perm b).symm))
theorem isort_id (h : TotLt lt) {l : List α} (hu : UpB lt l) : isort lt l = l := up_unique h (isort_up h l) hu (isort_perm l)
end

/-! ### texts -/
theorem blt_tot : TotLt Op.bytesLess where
  irr x := by rw [Go.Proofs.bytesLess_eq]; simp
  tra x y z h1 h2 := by
    rw [Go.Proofs.bytesLess_eq] at *
    simp only [decide_eq_true_eq] at *
    exact List.lt_trans h1 h2
  tot x y h1 h2 := by
    rw [Go.Proofs.bytesLess_eq] at *
    simp only [decide_eq_false_iff_not, List.not_lt] at *
    exact List.le_antisymm h2 h1

theorem isort_merge (l : List (List UInt8)) : isort Op.bytesLess l = l.mergeSort fun x y => decide (x ≤ y) := by
  refine up_unique blt_tot (isort_up blt_tot l) ?_ ((isort_perm l).trans (List.mergeSort_perm l _).symm)
  have := List.pairwise_mergeSort (le := fun x y : List UInt8 => decide (x ≤ y)) (fun a b c h1 h2 => by
    simp only [decide_eq_true_eq] at *; exact List.le_trans h1 h2) (fun a b => by
    simp only [Bool.or_eq_true, decide_eq_true_eq]; exact List.le_total a b) l
  refine this.imp fun {a b} h => ?_
  rw [Go.Proofs.bytesLess_eq]
  simp only [decide_eq_false_iff_not, List.not_lt]
  simpa using h
end Bz

/- slices.Sort of texts: what stands for it. -/
namespace Bz
open Go Go.Sort Go.Proofs

def strD : List D → Option (List UInt8)
  | [.str s] => some s
  | _ => none

def strsD : List (List D) → Option (List (List UInt8))
  | [] => some []
  | c :: r => match strD c with
    | none => none
    | some s => match strsD r with
      | none => none
      | some l => some (s :: l)

def sortTx (ss : List (List UInt8)) : List (List UInt8) := isort Op.bytesLess ss

theorem strsD_eq : ∀ {es : List (List D)} {ss : List (List UInt8)}, strsD es = some ss → es = ss.map fun s => [.str s]
  | [], ss, h => by simp only [strsD] at h; cases h; rfl
  | c :: r, ss, h => by
    simp only [strsD] at h
    split at h
    · cases h
    · rename_i s hs
      split at h
      · cases h
      · rename_i l hl
        cases h
        have : c = [.str s] := by
          match c, hs with
          | [.str s'], h => simp only [strD] at h; cases h; rfl
        rw [strsD_eq hl, this]; rfl

/-- new blocks, named by nothing -/
theorem step_more {N : Nat → Prop} {ρ : Nat → Nat} {S : Nat → Prop} {H : Heap} {w : World} (hi : Inv ρ S H w) (w' : World) (os : Array Obj) (hw : w'.heap = w.heap ++ os) (hout : Outer w w') :
    Step N ρ S H w ρ S H w' := by
  have hget : ∀ b, b < w.heap.size → w'.heap[b]? = w.heap[b]? := fun b hb => by rw [hw, Array.getElem?_append_left hb]
  have hg : Grow w w' := fun b cs T fr hb => ⟨cs, fr, by rw [hget b (lt_of_get hb)]; exact hb, rfl⟩
  have hS : ∀ b, S b → w'.heap[b]? = w.heap[b]? := fun b hb => hget b (hi.dom b hb)
  have hsz : w.heap.size ≤ w'.heap.size := by rw [hw, Array.size_append]; omega
  refine ⟨⟨fun l o ho => ?_, hi.inj, hi.sep, fun b hb => Nat.lt_of_lt_of_le (hi.dom b hb) hsz⟩, fun _ h => h, fun _ h => .inl h, fun b hb _ => hget b hb, hg, hsz, fun l hl => .inr ⟨l, hl, rfl⟩, fun l _ => .refl ρ H l, hout⟩
  exact (hi.obj l o ho).keep (fun hr => hget _ ((hi.obj l o ho).lt hr)) (fun _ h => h) hS hg fun m _ => .refl ρ H m

def extSort (f : Nat) : Callee := fun g args H => if g = f then match args, H with
    | [.os 0 n 0 len], [(0, .arr 1 es)] => if es.length = n ∧ len = n ∧ n ≤ LIM then (strsD es).map fun ss => (.tup [], [(0, .arr 1 ((sortTx ss).map fun s => [.str s]))]) else none
    | [.d (.vs _ [])], [] => some (.tup [], [])
    | _, _ => none
  else none

/-- what the kit says of slices.Sort -/
structure Sorts (P : Program) (f : Nat) : Prop where
  coded : Coded P f
  some_ : ∀ (blk off cap : Nat) (ss : List (List UInt8)) (w : World), Holds encStr w blk off ss.toArray → blk < w.heap.size → ss.length < 4611686018427387904 →
    Calls P f #[.slice (some ⟨blk, off, none⟩) ss.length cap] w fun e w' =>
      e = .returned (.tuple #[]) ∧ ∃ n os, w' = grow (putRow encStr (Sort.ahead w n) blk off (ss.mergeSort fun x y => decide (x ≤ y)).toArray) os
  none_ : ∀ (p : Option Addr) (cap : Nat) (w : World), Calls P f #[.slice p 0 cap] w fun e w' => e = .returned (.tuple #[]) ∧ w' = w

theorem rel_tup0 {ρ : Nat → Nat} {S : Nat → Prop} {H : Heap} {w : World} : RelA ρ S H w (.tup []) (.tuple #[]) :=
  .tup [] #[] (fun _ => undef) rfl (fun i x h => by simp at h) (fun i x h => by simp at h)

/-- a row's cells turned, new blocks behind: what a sort leaves -/
theorem step_row {ρ : Nat → Nat} {S : Nat → Prop} {w : World} {sz : Nat} {es es' : List (List D)} (hi : Inv ρ S [(0, .arr sz es)] w) (hne : es ≠ []) (hlen : es'.length = es.length)
    {vs vs' : Array Value} {T : TypeId} (hb : w.heap[ρ 0]? = some (.cells vs T (0, 0))) (hvs : vs'.size = vs.size) (w' : World) (os : Array Obj)
    (hw : w'.heap = (w.heap.modify (ρ 0) fun _ => .cells vs' T (0, 0)) ++ os) (hout : Outer w w') (hrow : RowAt S w sz es' vs') :
    Step (fun l => 1 ≤ l) ρ S [(0, .arr sz es)] w ρ S [(0, .arr sz es')] w' := by
  have hlt := lt_of_get hb
  have hne' : es' ≠ [] := fun e => by rw [e] at hlen; exact hne (List.length_eq_zero_iff.1 hlen.symm)
  have hl : Live [(0, .arr sz es)] 0 := ⟨_, rfl, by simpa [isLive] using hne⟩
  let w1 : World := { w' with heap := w.heap.modify (ρ 0) fun _ => .cells vs' T (0, 0) }
  have hother : ∀ c, c ≠ ρ 0 → w1.heap[c]? = w.heap[c]? := fun c hc => by
    show (w.heap.modify (ρ 0) _)[c]? = _
    rw [Array.getElem?_modify, if_neg (fun e => hc e.symm)]
  have hself : w1.heap[ρ 0]? = some (.cells vs' T (0, 0)) := by
    show (w.heap.modify (ρ 0) _)[ρ 0]? = _
    rw [Array.getElem?_modify, if_pos rfl, hb]; rfl
  have hgrow : Grow w w1 := fun b cs T' fr hb' => by
    by_cases e : b = ρ 0
    · subst e; rw [hb] at hb'; cases hb'
      exact ⟨vs', _, hself, hvs⟩
    · exact ⟨cs, fr, by rw [hother b e]; exact hb', rfl⟩
  have hsize : w1.heap.size = w.heap.size := by show (w.heap.modify _ _).size = _; simp
  have h1 : Step (fun l => 1 ≤ l) ρ S [(0, .arr sz es)] w (upd ρ 0 (ρ 0)) S (hset [(0, .arr sz es)] 0 (.arr sz es')) w1 := by
    refine step_write hi 0 (.arr sz es') (ρ 0) w1 (.inr ⟨hl, rfl⟩) hother hgrow (Nat.le_of_eq hsize.symm) (.inr ?_) (.inl (by simp)) (fun _ hd => ⟨(hi.obj 0 _ rfl).1, fun _ => ⟨vs', T, hself, ?_⟩⟩) hout
    · refine ⟨fun sz' m' hm' => ⟨m', ?_, Nat.le_refl _, fun _ => upd_self ..⟩, fun hv => ?_, fun hv => ?_⟩
      · obtain ⟨q, hq, e⟩ := hm'
        rw [hget_set_self] at hq
        rcases hq with hq | hq <;> cases hq
        exact ⟨es, .inl rfl, by rw [← hlen]; exact e⟩
      · obtain ⟨q, hq⟩ := hv; rw [hget_set_self] at hq; cases hq
      · obtain ⟨_, _, q, hq⟩ := hv; rw [hget_set_self] at hq; cases hq
    · refine ⟨hrow.1, fun i c hi => ⟨(hrow.2 i c hi).1, fun j x hj => ?_⟩⟩
      obtain ⟨v, hv, hr⟩ := (hrow.2 i c hi).2 j x hj
      exact ⟨v, hv, hd _ _ hr⟩
  have eu : upd ρ 0 (ρ 0) = ρ := by funext k; by_cases e : k = 0 <;> simp [upd, e]
  rw [eu] at h1
  have h2 : Step (fun _ => False) ρ S (hset [(0, .arr sz es)] 0 (.arr sz es')) w1 ρ S (hset [(0, .arr sz es)] 0 (.arr sz es')) w' := step_more h1.inv w' os hw ⟨rfl, rfl, rfl, by first | exact Nat.le_refl _ | exact Nat.le_add_right _ _⟩
  have := (h1.trans h2).weaken (N' := fun l => 1 ≤ l) (fun l h => h.elim id False.elim)
  simpa [hset] using this

theorem extSort_good {P : Program} {f : Nat} (hf : Sorts P f) : Good P (extSort f) := by
  intro g args H rv Ho h
  unfold extSort at h
  split at h
  · rename_i hg
    subst hg
    split at h
    · rename_i n len es
      split at h
      · rename_i hc
        obtain ⟨h1, h2, h3⟩ := hc
        obtain ⟨ss, hss, h⟩ := Option.map_eq_some_iff.1 h
        cases h
        subst h2
        have hes := strsD_eq hss
        intro ρ S w vs hi ha
        obtain ⟨a, rfl, hr⟩ := ha.one
        cases hr with
        | os _ _ _ _ _ hfl hr =>
        obtain ⟨_, hr⟩ := hr 1 es.length ⟨es, .inl rfl, rfl⟩
        have hr := hr h1.symm
        refine .inl ⟨hf.coded, ?_⟩
        have hlen : ss.length = es.length := by rw [hes]; simp
        rcases hr with ⟨h0, _, b, rfl⟩ | ⟨⟨hn0, _⟩, b, cap, cs, T, fr, rfl, hcap, hb, hcell, hfit⟩
        · refine (hf.none_ b 0 w).mono fun e w' ⟨he, hw⟩ => ?_
          subst hw
          have : ss = [] := List.length_eq_zero_iff.1 (by omega)
          subst this
          have : es = [] := by simpa using hes
          subst this
          exact ⟨_, ρ, S, he, by simpa [sortTx, isort] using Step.refl hi, rel_tup0⟩
        · have hne : es ≠ [] := fun e => by rw [e] at h1; exact hn0 h1.symm
          have hb : b = ⟨ρ 0, 0, none⟩ := by
            rcases hb with hb | hb
            · omega
            · simpa using hb
          subst hb
          obtain ⟨hpos, hobj⟩ := hi.obj 0 _ rfl
          obtain ⟨vs, T', hblk, hrow⟩ := hobj hne
          have hcellv : ∀ (i : Nat) (s : List UInt8), ss[i]? = some s → vs[i]? = some (encStr s) := fun i s hs => by
            have hc : es[i]? = some [D.str s] := by rw [hes]; simp [hs]
            obtain ⟨v, hv, hr⟩ := (hrow.2 i _ hc).2 0 (D.str s) rfl
            cases hr
            simpa using hv
          have hH : Holds encStr w (ρ 0) 0 ss.toArray := fun j hj => by
            have hj' : j < ss.length := by simpa using hj
            have hvj := hcellv j ss[j] (List.getElem?_eq_getElem hj')
            refine ⟨?_, ?_⟩
            · simp only [World.cell?, hblk, Nat.zero_add, Option.isSome_none, Bool.false_eq_true, if_false, hvj]
              simp [hj']
            · simp only [World.frozen?, hblk]; simp
          have hcall := hf.some_ (ρ 0) 0 cap ss w hH (lt_of_get hblk) (by have : LIM < 4611686018427387904 := by unfold LIM; omega
                                                                          omega)
          rw [show ss.length = len by omega] at hcall
          refine hcall.mono fun e w' ⟨he, k, os, hw⟩ => ?_
          rw [← isort_merge] at hw
          have hlen' : (sortTx ss).length = ss.length := isort_len ss
          refine ⟨_, ρ, S, he, ?_, rel_tup0⟩
          refine step_row hi hne (by simp [hlen', hlen]) hblk (vs' := putCells encStr 0 (sortTx ss).toArray vs) (by simp [putCells]) w' os ?_ (by subst hw; exact ⟨rfl, rfl, rfl, by first | exact Nat.le_refl _ | exact Nat.le_add_right _ _⟩) ?_
          · subst hw
            show (w.heap.modify (ρ 0) (onCells _)) ++ os = _
            congr 1
            apply Array.ext_getElem?
            intro b
            simp only [Array.getElem?_modify]
            by_cases e : ρ 0 = b
            · subst e; simp only [if_true, hblk, Option.map_some, onCells]; rfl
            · simp [e]
          · have hv1 := hrow.1
            refine ⟨by simp [putCells, hlen', hlen]; omega, fun i c hic => ?_⟩
            simp only [List.getElem?_map, Option.map_eq_some_iff] at hic
            obtain ⟨s, hs, rfl⟩ := hic
            refine ⟨rfl, fun j x hj => ?_⟩
            have hj0 : j = 0 := by cases j with | zero => rfl | succ j => simp at hj
            subst hj0
            simp at hj; subst hj
            have hi' : i < (sortTx ss).length := by
              rcases Nat.lt_or_ge i (sortTx ss).length with h | h
              · exact h
              · rw [List.getElem?_eq_none h] at hs; cases hs
            have hvi : i < vs.size := by omega
            refine ⟨encStr s, ?_, .str s⟩
            have := List.getElem?_eq_some_iff.1 hs
            obtain ⟨q, hq⟩ := this
            simp [putCells, hvi, hi', hq]
      · cases h
    · rename_i b
      cases h
      intro ρ S w vs hi ha
      obtain ⟨a, rfl, hr⟩ := ha.one
      cases hr with
      | d _ _ hr =>
      refine .inl ⟨hf.coded, ?_⟩
      have : ∃ p cap, a = .slice p 0 cap := by
        cases hr with
        | vnil t b => exact ⟨_, _, rfl⟩
        | vs a sz cap es xs _ _ _ _ _ => exact ⟨_, _, rfl⟩
      obtain ⟨p, cap, rfl⟩ := this
      refine (hf.none_ p cap w).mono fun e w' ⟨he, hw⟩ => ?_
      subst hw
      exact ⟨_, ρ, S, he, .refl hi, rel_tup0⟩
    · cases h
  · cases h

/-- one, else the other -/
def extOr (a b : Callee) : Callee := fun f args H => match a f args H with
  | some r => some r
  | none => b f args H

theorem Good.or {P : Program} {a b : Callee} (ha : Good P a) (hb : Good P b) : Good P (extOr a b) := by
  intro f args H rv Ho h
  unfold extOr at h
  split at h
  · rename_i r hr
    cases h
    exact ha f args H rv Ho hr
  · exact hb f args H rv Ho h

def extNone : Callee := fun _ _ _ => none
theorem extNone_good {P : Program} : Good P extNone := fun _ _ _ _ _ h => by simp [extNone] at h

theorem extOr_none {a b : Callee} {f : Nat} {args : List AV} {H : Heap} (ha : a f args H = none) (hb : b f args H = none) : extOr a b f args H = none := by
  unfold extOr; rw [ha]; exact hb
theorem extOr_l {a b : Callee} {f : Nat} {args : List AV} {H : Heap} {r : AV × Heap} (ha : a f args H = some r) : extOr a b f args H = some r := by
  unfold extOr; rw [ha]
theorem extOr_r {a b : Callee} {f : Nat} {args : List AV} {H : Heap} {r : AV × Heap} (ha : a f args H = none) (hb : b f args H = some r) : extOr a b f args H = some r := by
  unfold extOr; rw [ha]; exact hb
theorem extSort_none {f g : Nat} {args : List AV} {H : Heap} (h : g ≠ f) : extSort f g args H = none := by
  unfold extSort; rw [if_neg h]
theorem extByte_none {f g : Nat} {args : List AV} {H : Heap} (h : g ≠ f) : extByte f g args H = none := by
  unfold extByte; rw [if_neg h]

/-! ### a map's clone -/
def extClone (f : Nat) : Callee := fun g args H => if g = f then match args, H with
    | [.map 0], [(0, .mp ag ks es)] => some (.map 1, [(0, .mp ag ks es), (1, .mp ag ks es)])
    | [.d .nilm], [] => some (.d .nilm, [])
    | _, _ => none
  else none
theorem extClone_none {f g : Nat} {args : List AV} {H : Heap} (h : g ≠ f) : extClone f g args H = none := by
  unfold extClone; rw [if_neg h]

/-- what the kit says of maps.Clone -/
structure Clones (P : Program) (f : Nat) : Prop where
  coded : Coded P f
  some_ : ∀ (b : Nat) (es : Array MapEntry) (clock : Nat) (w : World), w.heap[b]? = some (.map es clock) →
    Calls P f #[.map (some b)] w fun e w' => e = .returned (.map (some w.heap.size)) ∧ w' = w.alloc (.map es clock)
  nil_ : ∀ (w : World), Calls P f #[.map none] w fun e w' => e = .returned (.map none) ∧ w' = w

theorem extClone_good {P : Program} {f : Nat} (hf : Clones P f) : Good P (extClone f) := by
  intro g args H rv Ho h
  unfold extClone at h
  split at h
  · rename_i hg
    subst hg
    split at h
    · rename_i ag ks es
      cases h
      intro ρ S w vs hi ha
      obtain ⟨a, rfl, hr⟩ := ha.one
      cases hr with
      | map _ _ hfl hr =>
      have hv := hr ⟨ag, ks, es, rfl⟩
      subst hv
      obtain ⟨ents, clk, hb, hsz, hents⟩ := hi.obj 0 _ rfl
      refine .inl ⟨hf.coded, ?_⟩
      refine (hf.some_ (ρ 0) ents clk w hb).mono fun e w' ⟨he, hw⟩ => ?_
      subst hw
      have st : Step (fun l => 1 ≤ l) ρ S [(0, .mp ag ks es)] w (upd ρ 1 w.heap.size) S (hset [(0, .mp ag ks es)] 1 (.mp ag ks es)) (w.alloc (.map ents clk)) := by
        refine step_push hi 1 _ (.map ents clk) _ rfl (Nat.le_refl _) (fun m p hm _ => ?_) (fun hrel _ hq => ?_)
        · simp only [hget] at hm
          split at hm
          · cases hm; simp [refsO]
          · cases hm
        · refine ⟨ents, clk, hq, hsz, fun i k v hi => ?_⟩
          obtain ⟨e, h1, h2, h3, h4, h5, h6⟩ := hents i k v hi
          exact ⟨e, h1, h2, h3, h4, hrel _ _ (by rw [keyOK_refs h2]; simp) h5, hrel _ _ (by rw [h3]; simp) h6⟩
      exact ⟨_, _, _, he, st, .map 1 _ trivial fun _ => by simp [upd]⟩
    · cases h
      intro ρ S w vs hi ha
      obtain ⟨a, rfl, hr⟩ := ha.one
      cases hr with
      | d _ _ hr =>
      cases hr
      refine .inl ⟨hf.coded, ?_⟩
      refine (hf.nil_ w).mono fun e w' ⟨he, hw⟩ => ?_
      subst hw
      exact ⟨_, ρ, S, he, .refl hi, .d _ _ .nilm⟩
    · cases h
  · cases h

end Bz

/- m[k]++ on a map, in whichever order its steps come. -/
namespace Bz
open Go

section
variable {P : Program}

/-- a region in any order: what holds of whatever was carried out -/
theorem any_inv {ops : Array Oper} (hedge : edgesOK ops = true) {Q : Exit → Act → World → Prop} (J : (Nat → Bool) → Act → World → Prop)
    (hstep : ∀ (L : Nat → Bool) (i : Nat) (o : Oper) (a : Act) (w : World), J L a w → ops[i]? = some o → L i = false → (∀ e ∈ o.after, Region.binds .any e = true → L e.on = true) →
      ∀ K : Act → World → Prop, (∀ a' w', J (fun k => if k = i then true else L k) a' w' → K a' w') → wpOp P ops Q i K a w)
    (hend : ∀ (L : Nat → Bool) (a : Act) (w : World), (∀ i, i < ops.size → L i = true) → J L a w → Q .normal a w) :
    ∀ (fuel : Nat) (listed : Array Bool) (a : Act) (w : World), listed.size = ops.size → fuel + listed.toList.count true = ops.size → J (fun k => listed.getD k false) a w → wpAny P .any ops Q fuel listed a w := by
  have getD_set : ∀ (A : Array Bool) (i : Nat), i < A.size → (fun k => (A.setIfInBounds i true).getD k false) = fun k => if k = i then true else A.getD k false := by
    intro A i hi
    funext k
    simp only [Array.getD_eq_getD_getElem?, Array.getElem?_setIfInBounds]
    by_cases e : k = i
    · subst e; simp [hi]
    · rw [if_neg (fun q => e q.symm), if_neg e]
  intro fuel
  induction fuel with
  | zero =>
    intro listed a w hsz hcnt hJ
    have hall : ∀ i, i < ops.size → listed.getD i false = true := by
      intro i hi
      have hc : listed.toList.count true = listed.toList.length := by simp [hsz]; simpa using hcnt
      have := List.count_eq_length.1 hc (listed[i]'(hsz ▸ hi)) (by simp)
      simp [Array.getD, hsz, hi, ← this]
    refine ⟨?_, hend _ a w hall hJ⟩
    unfold Region.ready
    refine List.filter_eq_nil_iff.2 fun i hi => ?_
    have hi := List.mem_range.1 hi
    have h1 := hall i hi
    have : listed.getD i true = true := by simp [Array.getD, hsz, hi] at h1 ⊢; exact h1
    simp [this]
  | succ fuel ih =>
    intro listed a w hsz hcnt hJ
    refine ⟨fun hr => ?_, fun i hi => ?_⟩
    · have hall : ∀ i, i < ops.size → listed.getD i false = true := by
        intro i
        induction i using Nat.strongRecOn with
        | _ i ih =>
          intro hi
          cases hb : listed.getD i false with
          | true => rfl
          | false =>
            exfalso
            have hmem : i ∈ Region.ready .any ops listed := by
              unfold Region.ready
              refine List.mem_filter.2 ⟨List.mem_range.2 hi, ?_⟩
              have h1 : listed.getD i true = false := by simp [Array.getD, hsz, hi] at hb ⊢; exact hb
              have h2 := List.all_eq_true.1 hedge i (List.mem_range.2 hi)
              simp only [Array.getElem?_eq_getElem hi] at h2
              simp only [h1, Array.getElem?_eq_getElem hi, Option.map_some, Option.getD_some, Bool.not_false, Bool.true_and]
              rw [Array.all_eq_true_iff_forall_mem] at h2 ⊢
              intro e he
              have := h2 e he
              simp only [Bool.or_eq_true, decide_eq_true_eq] at this ⊢
              exact this.imp id fun hlt => ih e.on hlt (by omega)
            rw [hr] at hmem; cases hmem
      exact hend _ a w hall hJ
    · unfold Region.ready at hi
      obtain ⟨hi1, hi2⟩ := List.mem_filter.1 hi
      have hin : i < ops.size := List.mem_range.1 hi1
      simp only [Array.getElem?_eq_getElem hin, Option.map_some, Option.getD_some, Bool.and_eq_true, Bool.not_eq_true'] at hi2
      obtain ⟨hun, hedges⟩ := hi2
      have hun' : listed.getD i false = false := by simp [Array.getD, hsz, hin] at hun ⊢; exact hun
      refine hstep _ i ops[i] a w hJ (Array.getElem?_eq_getElem hin) hun' (fun e he hb => ?_) _ fun a' w' hJ' => ?_
      · have := (Array.all_eq_true_iff_forall_mem.1 hedges) e he
        rw [hb] at this
        simpa using this
      · have hlt : i < listed.size := hsz ▸ hin
        refine ih _ a' w' (by simpa using hsz) ?_ (by rw [getD_set listed i hlt]; exact hJ')
        have hc : (listed.setIfInBounds i true).toList.count true = listed.toList.count true + 1 := by
          rw [Array.toList_setIfInBounds]
          have hl : i < listed.toList.length := by simpa using hlt
          have hv : listed.toList[i] = false := by
            simp [Array.getD, hlt] at hun'; simpa using hun'
          rw [List.count_set hl, hv]
          simp
        omega

theorem skOK_self {s : SK} {x : D} (hs : skOK s x = true) : scalEq x x = some true := by
  cases s <;> cases x <;> simp_all [skOK, scalEq]
theorem cellsOK_self : ∀ {ks : List SK} {cs : List AV}, cellsOK ks cs = true → aggEq cs cs = some true
  | [], [], _ => rfl
  | [], _ :: _, h => by simp [cellsOK] at h
  | _ :: _, [], h => by simp [cellsOK] at h
  | s :: ks, a :: r, h => by
    cases a with
    | d x =>
      simp only [cellsOK, Bool.and_eq_true] at h
      simp only [aggEq, skOK_self h.1, cellsOK_self h.2]
    | _ => simp [cellsOK] at h
theorem keyOK_self {ag : Bool} {ks : List SK} {k : AV} (h : keyOK ag ks k = true) : avEq k k = some true := by
  unfold keyOK at h
  split at h
  · exact cellsOK_self h
  · split at h
    · exact skOK_self h
    · cases h
  · cases h

section
variable {ρ : Nat → Nat} {S : Nat → Prop} {H : Heap} {w : World}

theorem upd_id (ρ : Nat → Nat) (l : Nat) : upd ρ l (ρ l) = ρ := by funext k; by_cases e : k = l <;> simp [upd, e]

theorem modify_list {ents : Array MapEntry} {j : Nat} {en : MapEntry} (h : ents[j]? = some en) (f : MapEntry → MapEntry) : (ents.modify j f).toList = ents.toList.set j (f en) := by
  apply List.ext_getElem?
  intro i
  rw [List.getElem?_set, Array.toList_modify, List.getElem?_modify]
  have h' : ents.toList[j]? = some en := by rw [Array.getElem?_toList]; exact h
  by_cases c : j = i
  · subst c
    have hl : j < ents.toList.length := (List.getElem?_eq_some_iff.1 h').1
    simp only [if_true, h', hl]; rfl
  · simp [c]
theorem modify_born {ents : Array MapEntry} {j clk : Nat} {en : MapEntry} (h : ents[j]? = some en) (f : MapEntry → MapEntry) (hf : (f en).born = en.born) (hb : Born ents clk) : Born (ents.modify j f) clk :=
  hb.same (by
    have h' : ents.toList[j]? = some en := by rw [Array.getElem?_toList]; exact h
    have hl : j < ents.toList.length := (List.getElem?_eq_some_iff.1 h').1
    rw [modify_list h, List.map_set]
    apply List.ext_getElem?
    intro i
    rw [List.getElem?_set]
    by_cases c : j = i
    · subst c
      rw [List.getElem?_map, h', if_pos rfl, if_pos (by simpa using hl), hf]; rfl
    · rw [if_neg c])

/-- the entry of a key, made if there is none -/
theorem mapentry_rel {t kt e : TypeId} (ht : P.underlying t = some (.map kt e)) {ag : Bool} {ks : List SK} (hk : keyKind P kt = some (ag, ks)) {z : AV} (hz : zeroOf P e = some z) (hzr : refs (normA z) = []) (hzs : solid (normA z) = true)
    (hi : Inv ρ S H w) {l : Nat} {es : List (AV × AV)} (hes : hget H l = some (.mp ag ks es)) {k : AV} {vk : Value} (hko : keyOK ag ks k = true) (hkr : RelA ρ S H w k vk) {r : Option AV} (hf : findE k es = some r) :
    ∃ cv en j ents clk w', (Instr.mapEntry t (.map (some (ρ l))) vk).run P w = .ok (.tuple #[cv, goInt (en.born : Nat)]) w' ∧ Step No ρ S H w ρ S (hset H l (.mp ag ks (setE k (r.getD (normA z)) es))) w' ∧
      RelA ρ S (hset H l (.mp ag ks (setE k (r.getD (normA z)) es))) w' (r.getD (normA z)) cv ∧ w'.heap[ρ l]? = some (.map ents clk) ∧ ents[j]? = some en ∧ idxE k (setE k (r.getD (normA z)) es) = some j := by
  obtain ⟨ents, clk, hb, he⟩ := entsRel_of hi hes
  obtain ⟨f1, f2, f3⟩ := findKey_run (P := P) hk hko hkr he hf
  have hgo : (getObj (ρ l)).run P w = .ok (.map ents clk) w := by simp [getObj, Sem.run, hb]
  have hlt := lt_of_get hb
  rw [setE_idx]
  cases hj : idxE k es with
  | none =>
    rw [hj] at f1
    have hr : r = none := by cases r with | none => rfl | some x => rw [hj] at f2; simp at f2
    subst hr
    obtain ⟨zv, hzv, hzrel⟩ : ∃ zv, (∀ w, (zeroValue e).run P w = .ok zv w) ∧ RelA ρ S H w (normA z) zv := by
      unfold zeroOf at hz
      obtain ⟨zv, h1, h2⟩ := Option.bind_eq_some_iff.1 hz
      obtain ⟨i, h3, h4⟩ := Option.bind_eq_some_iff.1 h1
      exact ⟨zv, run_zero h3 h4, (cv_rel h2).normA⟩
    have st := map_step (w' := { w with heap := w.heap.setIfInBounds (ρ l) (.map (ents.push { key := vk, val := zv, born := clk }) (clk + 1)) }) hi hes hb rfl (by simpa using entsRel_push (e := { key := vk, val := zv, born := clk }) he hko hzr hzs hkr hzrel) ((born_of hi hes hb).push vk zv)
    rw [upd_id] at st
    refine ⟨zv, { key := vk, val := zv, born := clk }, ents.size, ents.push { key := vk, val := zv, born := clk }, clk + 1, _, ?_, st, hzrel.step st hi fun _ _ => id, by simp [hlt], by simp, ?_⟩
    · simp only [Instr.mapEntry, Sem.run_bind, run_underlying ht, Result.andThen_ok, hgo, checkKey_run hk hko hkr, f1, Option.bind_none, hzv]
      rw [setObj_run hb (fun _ _ _ e => by cases e)]
      rfl
    · have hlen : ents.size = es.length := by simpa using he.1
      simp only [Option.getD_none]
      have key : ∀ es : List (AV × AV), idxE k es = none → avEq k k = some true → idxE k (es ++ [(k, normA z)]) = some es.length := by
        intro es
        induction es with
        | nil => intro _ h; simp only [List.nil_append, idxE, h, if_true]; rfl
        | cons p r ih =>
          intro h1 h2
          obtain ⟨q, x⟩ := p
          simp only [idxE, List.cons_append] at h1 ⊢
          split at h1
          · cases h1
          · rename_i hne
            have h3 : idxE k r = none := by
              cases hq : idxE k r with
              | none => rfl
              | some i => rw [hq] at h1; cases h1
            rw [ih h3 h2]; rfl
      rw [hlen]
      exact key es hj (keyOK_self hko)
  | some j =>
    obtain ⟨x0, hx0⟩ := idxE_spec hj
    obtain ⟨en, e1, _, e3, e4, e5, e6⟩ := he.2 j k x0 hx0
    rw [hj] at f1
    simp only [Option.bind_some, e1, Option.map_some] at f1
    have hej : ents[j]? = some en := by simpa using e1
    have hr : r = some x0 := by
      cases r with
      | none => rw [hj] at f2; simp at f2
      | some x =>
        obtain ⟨j', q, g1, g2⟩ := f3 x rfl
        rw [hj] at g1; cases g1
        rw [hx0] at g2; cases g2; rfl
    subst hr
    obtain ⟨w1, key, hrun, hw1, hout1, hkey⟩ := stays_run (P := P) (w := w) en.key vk
    have hkey' : RelA ρ S H w k key := by rcases hkey with rfl | rfl <;> assumption
    have hb1 : w1.heap[ρ l]? = some (.map ents clk) := by rw [hw1]; exact hb
    have st := map_step (w' := { w1 with heap := w1.heap.setIfInBounds (ρ l) (.map (ents.modify j fun e => { e with key }) clk) }) (es' := es.set j (k, x0)) (hi.heap hw1) hes hb1 rfl (by
      rw [modify_list hej]
      exact (entsRel_set (e := { en with key }) he hko e3 e4 hkey' e6).heap hw1) (modify_born hej _ rfl (born_of hi hes hb))
    rw [upd_id] at st
    refine ⟨en.val, { en with key }, j, ents.modify j fun e => { e with key }, clk, _, ?_, Step.heap0 (w0 := w1) st hw1 hout1, e6.step (Step.heap0 (w0 := w1) st hw1 hout1) hi fun _ _ => id, by simp [hw1, hlt], ?_, ?_⟩
    · simp only [Instr.mapEntry, Sem.run_bind, run_underlying ht, Result.andThen_ok, hgo, checkKey_run hk hko hkr, f1, hej, Option.map_some, Option.getD_some, hrun]
      rw [setObj_run hb1 (fun _ _ _ e => by cases e)]
      rfl
    · rw [Array.getElem?_modify, if_pos rfl, hej]; rfl
    · simp only [Option.getD_some]
      have key : ∀ (es : List (AV × AV)) (j : Nat), idxE k es = some j → avEq k k = some true → idxE k (es.set j (k, x0)) = some j := by
        intro es
        induction es with
        | nil => intro j h; simp [idxE] at h
        | cons p r ih =>
          intro j h1 h2
          obtain ⟨q, x⟩ := p
          simp only [idxE] at h1
          split at h1
          · cases h1; simp only [List.set_cons_zero, idxE, h2, if_true]
          · rename_i hne
            obtain ⟨i, hi, rfl⟩ := Option.map_eq_some_iff.1 h1
            simp only [List.set_cons_succ, idxE]
            rw [ih i hi h2]; rfl
      exact key es j hj (keyOK_self hko)

theorem setE_setE {k a b : AV} (hk : avEq k k = some true) : ∀ es : List (AV × AV), setE k b (setE k a es) = setE k b es
  | [] => by simp only [setE, hk, if_true]
  | (q, x) :: r => by
    simp only [setE]
    by_cases h : avEq k q = some true
    · simp only [h, if_true, setE]
    · simp only [h, if_false, setE, setE_setE hk r]
theorem findE_setE {k a : AV} {r : Option AV} (hk : avEq k k = some true) : ∀ {es : List (AV × AV)}, findE k es = some r → findE k (setE k a es) = some (some a)
  | [], _ => by simp only [setE, findE, hk]
  | (q, x) :: t, h => by
    simp only [findE] at h
    simp only [setE]
    split at h
    · rename_i e; simp only [e, if_true, findE]
    · rename_i e; simp only [e, if_false, findE, Option.some.injEq, Bool.false_eq_true]; exact findE_setE hk h
    · cases h

theorem findBorn {ents : Array MapEntry} {clk j : Nat} {en : MapEntry} (hb : Born ents clk) (hj : ents[j]? = some en) : ents.findIdx? (fun e => (e.born : Int) == (en.born : Int)) = some j := by
  obtain ⟨hlt, he⟩ := Array.getElem?_eq_some_iff.1 hj
  rw [Array.findIdx?_eq_some_iff_getElem]
  refine ⟨hlt, by rw [he]; simp, fun i hi => ?_⟩
  have hn := hb.1
  intro hc
  have hc : ents[i].born = en.born := Int.ofNat.inj (by simpa using hc)
  have hi' : i < ents.size := by omega
  rw [← he] at hc
  have := List.pairwise_iff_getElem.1 hn i j (by simpa using hi') (by simpa using hlt) hi
  exact this (by simpa using hc)

theorem entrystore_rel {t : TypeId} {ag : Bool} {ks : List SK} (hi : Inv ρ S H w) {l : Nat} {es : List (AV × AV)} (hes : hget H l = some (.mp ag ks es)) {ents : Array MapEntry} {clk : Nat} (hb : w.heap[ρ l]? = some (.map ents clk))
    {j : Nat} {en : MapEntry} (hj : ents[j]? = some en) {k : AV} (hidx : idxE k es = some j) {v : AV} {x : Value} (hv1 : refs v = []) (hv2 : solid v = true) (hrel : RelA ρ S H w v x) :
    ∃ w', (Instr.entryStore t (.map (some (ρ l))) (goInt (en.born : Nat)) x).run P w = .ok () w' ∧ Step No ρ S H w ρ S (hset H l (.mp ag ks (setE k v es))) w' := by
  obtain ⟨ents', clk', hb', he⟩ := entsRel_of hi hes
  rw [hb] at hb'; cases hb'
  have hbn := born_of hi hes hb
  have hgo : (getObj (ρ l)).run P w = .ok (.map ents clk) w := by simp [getObj, Sem.run, hb]
  obtain ⟨x0, hx0⟩ := idxE_spec hidx
  obtain ⟨en', e1, e2, e3, e4, e5, e6⟩ := he.2 j k x0 hx0
  have e1' : ents[j]? = some en' := by simpa using e1
  rw [hj] at e1'; cases e1'
  have st := map_step (w' := { w with heap := w.heap.setIfInBounds (ρ l) (.map (ents.modify j fun e => { e with val := x }) clk) }) (es' := es.set j (k, v)) hi hes hb rfl (by
    rw [modify_list hj]
    exact entsRel_set (e := { en with val := x }) he e2 hv1 hv2 e5 hrel) (modify_born hj _ rfl hbn)
  rw [upd_id] at st
  rw [setE_idx, hidx]
  refine ⟨_, ?_, st⟩
  simp only [Instr.entryStore, Sem.run_bind, hgo, Result.andThen_ok, goInt, asInt, asIntOf, Sem.run_pure, findBorn hbn hj]
  rw [setObj_run hb (fun _ _ _ e => by cases e)]
end

/-! ### the region -/
structure Bump where
  off : Nat
  ag : Bool
  ks : List SK
  a : Nat
  b : Nat
  c : Nat
  d : Nat

def plainO (o : Oper) (d : Option Nat) : Bool := o.guard.isNone && o.dst == d
def aft (o : Oper) (js : List Nat) : Bool := js.all fun j => o.after.any fun e => Region.binds .any e && e.on == j
def isMov (q : Option AOp) (n : Nat) : Bool := match q with | some (.mov (.t m)) => m == n | _ => false
def isChk (q : Option AOp) (n : Nat) : Bool := match q with | some (.nilchk (.t m)) => m == n | _ => false
def isFad (q : Option AOp) (off n : Nat) : Bool := match q with | some (.faddr o (.t m)) => o == off && m == n | _ => false
def isLoad (q : Option AOp) (n : Nat) : Bool := match q with | some (.load 1 false (.t m)) => m == n | _ => false
def isBld (q : Option AOp) (b : Bump) : Bool := match q with | some (.build [.d (.str []), .d (.str [])] [(x, y, .t 16), (u, v, .t 17)]) => x == b.a && y == b.b && u == b.c && v == b.d | _ => false
def mapTy (P : Program) (b : Bump) (t : TypeId) : Bool := match P.underlying t with
  | some (.map kt e) => match keyKind P kt, zeroOf P e with
    | some (ag, ks), some (.d (.int .i64 0)) => ag == b.ag && decide (ks = b.ks)
    | _, _ => false
  | _ => false
def isLook (P : Program) (b : Bump) (o : Op) : Bool := match o with | .lookup t (.tmp 15) (.tmp 18) false => mapTy P b t | _ => false
def isInc (o : Op) : Bool := match o with | .binOp .add _ (.tmp 19) (.const (.int .i64 1)) _ => true | _ => false
def isMade (P : Program) (b : Bump) (o : Op) : Bool := match o with | .mapEntry t (.tmp 15) (.tmp 18) => mapTy P b t | _ => false
def isExt (o : Op) : Bool := match o with | .extract (.tmp 21) 1 => true | _ => false
def isPut (o : Op) : Bool := match o with | .entryStore _ (.tmp 15) (.tmp 22) (.tmp 20) => true | _ => false

def bumpOK (P : Program) (b : Bump) (ops : Array Oper) : Bool := match ops.toList with
  | [o0, o1, o2, o3, o4, o5, o6, o7, o8, o9, o10, o11] => edgesOK ops && P.follows .mixedOrders &&
    (plainO o0 (some 12) && isMov (cvOp P o0.op) 0) &&
    (plainO o1 (some 13) && isChk (cvOp P o1.op) 12 && aft o1 [0]) &&
    (plainO o2 (some 14) && isFad (cvOp P o2.op) b.off 13 && aft o2 [1]) &&
    (plainO o3 (some 15) && isLoad (cvOp P o3.op) 14 && aft o3 [2]) &&
    (plainO o4 (some 16) && isMov (cvOp P o4.op) 1) &&
    (plainO o5 (some 17) && isMov (cvOp P o5.op) 2) &&
    (plainO o6 (some 18) && isBld (cvOp P o6.op) b && aft o6 [4, 5]) &&
    (plainO o7 (some 19) && isLook P b o7.op && aft o7 [3, 6]) &&
    (plainO o8 (some 20) && isInc o8.op && aft o8 [7]) &&
    (plainO o9 (some 21) && isMade P b o9.op && aft o9 [0, 1, 2, 3, 4, 5, 6]) &&
    (plainO o10 (some 22) && isExt o10.op && aft o10 [9]) &&
    (plainO o11 none && isPut o11.op && aft o11 [0, 1, 2, 3, 4, 5, 6, 7, 8, 9, 10])
  | _ => false

def envB (V : Nat → AV) (L : Nat → Bool) : List AV → Nat → List AV
  | [], _ => []
  | x :: r, k => (if 12 ≤ k ∧ k ≤ 22 ∧ L (k - 12) = true then V (k - 12) else x) :: envB V L r (k + 1)

theorem envB_len (V : Nat → AV) (L : Nat → Bool) : ∀ (E : List AV) (k : Nat), (envB V L E k).length = E.length
  | [], _ => rfl
  | _ :: r, k => by simp [envB, envB_len V L r]
theorem envB_nth (V : Nat → AV) (L : Nat → Bool) : ∀ (E : List AV) (k i : Nat), i < E.length → nth (envB V L E k) i = if 12 ≤ k + i ∧ k + i ≤ 22 ∧ L (k + i - 12) = true then V (k + i - 12) else nth E i
  | x :: r, k, 0, _ => rfl
  | x :: r, k, i + 1, h => by
    simp only [envB, nth]
    rw [envB_nth V L r (k + 1) i (by simpa using h), show k + 1 + i = k + (i + 1) by omega]

def pureV (X : Ctx) (H : Heap) (q : AOpOf AV) : Option AV := match aop X 0 H q with
  | some (v, [], []) => some v
  | _ => none
theorem pureV_iff {X : Ctx} {H : Heap} {q : AOpOf AV} {v : AV} (h : pureV X H q = some v) : aop X 0 H q = some (v, [], []) := by
  unfold pureV at h
  split at h
  · rename_i e; cases h; exact e
  · cases h

/-- the whole: the number at a key, one up -/
def bumpS (X : Ctx) (b : Bump) (s : St) : Option St :=
  if s.E.length < 23 then none else
  (pureV X s.H (.nilchk (nth s.E 0))).bind fun v1 => (pureV X s.H (.faddr b.off v1)).bind fun v2 => (pureV X s.H (.load 1 false v2)).bind fun v3 =>
  (pureV X s.H (.build [.d (.str []), .d (.str [])] [(b.a, b.b, nth s.E 1), (b.c, b.d, nth s.E 2)])).bind fun k =>
  match v3 with
  | .map l => match hget s.H l with
    | some (.mp ag ks es) => if ag = b.ag ∧ ks = b.ks ∧ keyOK ag ks k = true then match findE k es with
        | some r => match r.getD (intV 0) with
          | .d (.int .i64 n) => some { E := envB (fun _ => .undef) (fun _ => true) s.E 0, H := hset s.H l (.mp ag ks (setE k (intV (IntKind.i64.wrap (n + 1))) es)) }
          | _ => none
        | none => none
      else none
    | _ => none
  | _ => none

section
variable {P : Program}

theorem isMov_eq {q : Option AOp} {n : Nat} (h : isMov q n = true) : q = some (.mov (.t n)) := by
  unfold isMov at h; split at h
  · simp only [beq_iff_eq] at h; rw [h]
  · cases h
theorem isChk_eq {q : Option AOp} {n : Nat} (h : isChk q n = true) : q = some (.nilchk (.t n)) := by
  unfold isChk at h; split at h
  · simp only [beq_iff_eq] at h; rw [h]
  · cases h
theorem isFad_eq {q : Option AOp} {off n : Nat} (h : isFad q off n = true) : q = some (.faddr off (.t n)) := by
  unfold isFad at h; split at h
  · simp only [Bool.and_eq_true, beq_iff_eq] at h; rw [h.1, h.2]
  · cases h
theorem isLoad_eq {q : Option AOp} {n : Nat} (h : isLoad q n = true) : q = some (.load 1 false (.t n)) := by
  unfold isLoad at h; split at h
  · simp only [beq_iff_eq] at h; rw [h]
  · cases h
theorem isBld_eq {q : Option AOp} {b : Bump} (h : isBld q b = true) : q = some (.build [.d (.str []), .d (.str [])] [(b.a, b.b, .t 16), (b.c, b.d, .t 17)]) := by
  unfold isBld at h; split at h
  · simp only [Bool.and_eq_true, beq_iff_eq] at h
    obtain ⟨⟨⟨h2, h3⟩, h4⟩, h5⟩ := h
    rw [h2, h3, h4, h5]
  · cases h
theorem mapTy_eq {b : Bump} {t : TypeId} (h : mapTy P b t = true) : ∃ kt e, P.underlying t = some (.map kt e) ∧ keyKind P kt = some (b.ag, b.ks) ∧ zeroOf P e = some (intV 0) := by
  unfold mapTy at h; split at h
  · rename_i kt e ht
    split at h
    · rename_i ag ks hk hz
      simp only [Bool.and_eq_true, beq_iff_eq, decide_eq_true_eq] at h
      exact ⟨kt, e, ht, by rw [hk, h.1, h.2], hz⟩
    · cases h
  · cases h
theorem isLook_eq {b : Bump} {o : Op} (h : isLook P b o = true) : ∃ t kt e, o = .lookup t (.tmp 15) (.tmp 18) false ∧ P.underlying t = some (.map kt e) ∧ keyKind P kt = some (b.ag, b.ks) ∧ zeroOf P e = some (intV 0) := by
  unfold isLook at h; split at h
  · obtain ⟨kt, e, a⟩ := mapTy_eq h; exact ⟨_, kt, e, rfl, a⟩
  · cases h
theorem isInc_eq {o : Op} (h : isInc o = true) : ∃ t c, o = .binOp .add t (.tmp 19) (.const (.int .i64 1)) c := by
  unfold isInc at h; split at h
  · exact ⟨_, _, rfl⟩
  · cases h
theorem isMade_eq {b : Bump} {o : Op} (h : isMade P b o = true) : ∃ t kt e, o = .mapEntry t (.tmp 15) (.tmp 18) ∧ P.underlying t = some (.map kt e) ∧ keyKind P kt = some (b.ag, b.ks) ∧ zeroOf P e = some (intV 0) := by
  unfold isMade at h; split at h
  · obtain ⟨kt, e, a⟩ := mapTy_eq h; exact ⟨_, kt, e, rfl, a⟩
  · cases h
theorem isExt_eq {o : Op} (h : isExt o = true) : o = .extract (.tmp 21) 1 := by
  unfold isExt at h; split at h
  · rfl
  · cases h
theorem isPut_eq {o : Op} (h : isPut o = true) : ∃ t, o = .entryStore t (.tmp 15) (.tmp 22) (.tmp 20) := by
  unfold isPut at h; split at h
  · exact ⟨_, rfl⟩
  · cases h
theorem aft_spec {o : Oper} {js : List Nat} (h : aft o js = true) {L : Nat → Bool} (hl : ∀ e ∈ o.after, Region.binds .any e = true → L e.on = true) : ∀ j ∈ js, L j = true := by
  intro j hj
  have := List.all_eq_true.1 h j hj
  rw [← Array.any_toList] at this
  obtain ⟨e, he, h2⟩ := List.any_eq_true.1 this
  have he : e ∈ o.after := by simpa using he
  simp only [Bool.and_eq_true, beq_iff_eq] at h2
  have := hl e he h2.1
  rwa [h2.2] at this

theorem wpOp_go {ops : Array Oper} {Q : Exit → Act → World → Prop} {i : Nat} {o : Oper} {K : Act → World → Prop} {a : Act} {w : World} {d : Option Nat} (ho : ops[i]? = some o) (hp : plainO o d = true) (h : o.wp P a w K Q) : wpOp P ops Q i K a w := by
  unfold wpOp
  simp only [ho]
  simp only [plainO, Bool.and_eq_true, Option.isNone_iff_eq_none] at hp
  have : Region.wanted o (yielded ops a.tmps) = true := by unfold Region.wanted; rw [hp.1]
  rw [this]
  exact .inl h
theorem plain_dst {o : Oper} {d : Option Nat} (h : plainO o d = true) : o.dst = d := by
  simp only [plainO, Bool.and_eq_true, beq_iff_eq] at h
  exact h.2

theorem rel_put {V : Nat → AV} {L : Nat → Bool} {E : List AV} {ρ : Nat → Nat} {S : Nat → Prop} {H : Heap} {w : World} {a : Act} {x : Value} {i : Nat} (hlen : 23 ≤ E.length) (hi : i ≤ 10) (he : RelE ρ S H w (envB V L E 0) a.tmps) (hv : RelA ρ S H w (V i) x) :
    RelE ρ S H w (envB V (fun k => if k = i then true else L k) E 0) (a.put (some (12 + i)) x).tmps := by
  have h := he.put (some (12 + i)) hv
  refine ⟨?_, fun k => ?_⟩
  · rw [envB_len, ← h.size]; simp [putE, envB_len]
  · have hk := h.at_ k
    by_cases hlt : k < E.length
    · rw [envB_nth _ _ E 0 k hlt]
      simp only [putE, nth_set, envB_len] at hk
      rw [envB_nth _ _ E 0 k hlt] at hk
      simp only [Nat.zero_add] at hk ⊢
      by_cases e : k = 12 + i
      · subst e
        rw [if_pos ⟨rfl, by omega⟩] at hk
        rw [if_pos ⟨by omega, by omega, by rw [if_pos (by omega)]⟩, show 12 + i - 12 = i by omega]
        exact hk
      · rw [if_neg (fun h => e h.1)] at hk
        by_cases c : 12 ≤ k ∧ k ≤ 22
        · rw [if_neg (show ¬ k - 12 = i by omega)]; exact hk
        · rw [if_neg (fun h => c ⟨h.1, h.2.1⟩)] at hk ⊢; exact hk
    · have e1 : nth (envB V (fun k => if k = i then true else L k) E 0) k = .undef := by
        rw [nth_eq, List.getElem?_eq_none (by rw [envB_len]; omega)]; rfl
      rw [e1]; exact .undef _
/-- what is asked for in slots under 23 alone -/
theorem rel_same {V V' : Nat → AV} {L L' : Nat → Bool} {E : List AV} {ρ : Nat → Nat} {S : Nat → Prop} {H : Heap} {w : World} {ts : Array Value} (he : RelE ρ S H w (envB V L E 0) ts)
    (h : ∀ i, i ≤ 10 → (L' i = true ∧ V' i = .undef) ∨ (L i = L' i ∧ (L i = true → V i = V' i))) : RelE ρ S H w (envB V' L' E 0) ts := by
  refine ⟨by rw [envB_len, ← he.size, envB_len], fun k => ?_⟩
  by_cases hlt : k < E.length
  · have hk := he.at_ k
    rw [envB_nth _ _ E 0 k hlt] at hk ⊢
    simp only [Nat.zero_add] at hk ⊢
    by_cases c : 12 ≤ k ∧ k ≤ 22
    · rcases h (k - 12) (by omega) with ⟨h1, h2⟩ | ⟨h1, h2⟩
      · rw [if_pos ⟨c.1, c.2, h1⟩, h2]; exact .undef _
      · rw [← h1]
        by_cases hl : L (k - 12) = true
        · rw [if_pos ⟨c.1, c.2, hl⟩] at hk ⊢; rw [← h2 hl]; exact hk
        · rw [if_neg (fun h => hl h.2.2)] at hk ⊢; exact hk
    · rw [if_neg (fun h => c ⟨h.1, h.2.1⟩)] at hk ⊢; exact hk
  · rw [nth_eq, List.getElem?_eq_none (by rw [envB_len]; omega)]; exact .undef _

theorem relA_mp {ρ : Nat → Nat} {S : Nat → Prop} {H : Heap} {w : World} {l : Nat} {v : Value} {ag : Bool} {ks : List SK} {es : List (AV × AV)} (h : RelA ρ S H w (.map l) v) (hm : hget H l = some (.mp ag ks es)) : v = .map (some (ρ l)) := by
  cases h with
  | map _ _ _ h => exact h ⟨_, _, _, hm⟩

section
variable {a : Act} {w w' : World} {next : Act → World → Prop} {Q : Exit → Act → World → Prop} {o : Oper} {y : Value}
theorem lookup_wp {t : TypeId} {x k : Operand} {c : Bool} (hop : o.op = .lookup t x k c) (hr : (Instr.lookup t (a.eval x) (a.eval k) c).run P w = .ok y w') (hn : next (a.put o.dst y) w') : o.wp P a w next Q := by
  obtain ⟨dst, op, type, pos, after, guard⟩ := o
  simp only at hop; subst hop
  exact val_wp rfl hr hn
theorem bin_wp {op : BinOp} {t : TypeId} {x k : Operand} {c : TypeId} (hop : o.op = .binOp op t x k c) (hr : ((do eqGuard op t x k (a.eval x) (a.eval k); binOp op t (a.eval x) (a.eval k) : Sem Value)).run P w = .ok y w') (hn : next (a.put o.dst y) w') : o.wp P a w next Q := by
  obtain ⟨dst, op', type, pos, after, guard⟩ := o
  simp only at hop; subst hop
  exact val_wp (s := (do eqGuard op t x k (a.eval x) (a.eval k); binOp op t (a.eval x) (a.eval k))) rfl hr hn
theorem made_wp {t : TypeId} {x k : Operand} (hop : o.op = .mapEntry t x k) (hr : (Instr.mapEntry t (a.eval x) (a.eval k)).run P w = .ok y w') (hn : next (a.put o.dst y) w') : o.wp P a w next Q := by
  obtain ⟨dst, op, type, pos, after, guard⟩ := o
  simp only at hop; subst hop
  exact val_wp rfl hr hn
theorem ext_wp {x : Operand} {i : Nat} (hop : o.op = .extract x i) (hr : (Instr.extract (a.eval x) i).run P w = .ok y w') (hn : next (a.put o.dst y) w') : o.wp P a w next Q := by
  obtain ⟨dst, op, type, pos, after, guard⟩ := o
  simp only at hop; subst hop
  exact val_wp rfl hr hn
theorem put_wp {t : TypeId} {x k v : Operand} (hop : o.op = .entryStore t x k v) (hr : (Instr.entryStore t (a.eval x) (a.eval k) (a.eval v)).run P w = .ok () w') (hn : next (a.put o.dst Go.undef) w') : o.wp P a w next Q := by
  obtain ⟨dst, op, type, pos, after, guard⟩ := o
  simp only at hop; subst hop
  exact skip_wp rfl hr hn
end

def valB (s : St) (v1 v2 k : AV) (l : Nat) (n : Int) (born : Nat) : Nat → AV
  | 0 => nth s.E 0 | 1 => v1 | 2 => v2 | 3 => .map l | 4 => nth s.E 1 | 5 => nth s.E 2 | 6 => k | 7 => intV n | 8 => intV (IntKind.i64.wrap (n + 1)) | 9 => .tup [intV n, intV born] | _ => intV born

theorem bump_sound {X : Ctx} (hC : Good P X.C) {b : Bump} {ops : Array Oper} (hok : bumpOK P b ops = true) {s s' : St} (h : bumpS X b s = some s') {ρ : Nat → Nat} {S : Nat → Prop} {w : World} {a : Act} {Q : Exit → Act → World → Prop}
    (hi : Inv ρ S s.H w) (he : RelE ρ S s.H w s.E a.tmps) (hn : ∀ ρ' S' w' (a' : Act), Step Big ρ S s.H w ρ' S' s'.H w' → RelE ρ' S' s'.H w' s'.E a'.tmps → a'.defers = a.defers → Q .normal a' w') (rid : Nat) : (Code.region rid ops true).wp P Q a w := by
  unfold bumpS at h
  split at h
  · cases h
  rename_i hlen
  have hlen : 23 ≤ s.E.length := by omega
  obtain ⟨v1, h1, g1⟩ := Option.bind_eq_some_iff.1 h
  clear h
  obtain ⟨v2, h2, g2⟩ := Option.bind_eq_some_iff.1 g1
  clear g1
  obtain ⟨v3, h3, g3⟩ := Option.bind_eq_some_iff.1 g2
  clear g2
  obtain ⟨k, h4, h⟩ := Option.bind_eq_some_iff.1 g3
  clear g3
  replace h1 := pureV_iff h1
  replace h2 := pureV_iff h2
  replace h3 := pureV_iff h3
  replace h4 := pureV_iff h4
  obtain ⟨l, rfl⟩ : ∃ l, v3 = .map l := by cases v3 <;> first | exact ⟨_, rfl⟩ | cases h
  simp only at h
  obtain ⟨ag, ks, es, hes⟩ : ∃ ag ks es, hget s.H l = some (.mp ag ks es) := by
    cases hh : hget s.H l with
    | none => rw [hh] at h; cases h
    | some o => cases o <;> first | exact ⟨_, _, _, rfl⟩ | (rw [hh] at h; cases h)
  rw [hes] at h
  simp only at h
  by_cases hcond : ag = b.ag ∧ ks = b.ks ∧ keyOK ag ks k = true
  case neg => rw [if_neg hcond] at h; cases h
  rw [if_pos hcond] at h
  obtain ⟨rfl, rfl, hko⟩ := hcond
  obtain ⟨r, hf⟩ : ∃ r, findE k es = some r := by
    cases hh : findE k es with
    | none => rw [hh] at h; cases h
    | some r => exact ⟨r, rfl⟩
  rw [hf] at h
  simp only at h
  obtain ⟨n, hr⟩ : ∃ n, r.getD (intV 0) = .d (.int .i64 n) := by
    split at h
    · rename_i n e; exact ⟨n, e⟩
    · cases h
  rw [hr] at h
  simp only [Option.some.injEq] at h
  subst h
  unfold bumpOK at hok
  split at hok
  case h_2 => cases hok
  rename_i o0 o1 o2 o3 o4 o5 o6 o7 o8 o9 o10 o11 hops
  simp only [Bool.and_eq_true] at hok
  obtain ⟨⟨⟨⟨⟨⟨⟨⟨⟨⟨⟨⟨⟨hedge, hmix⟩, p0, q0⟩, ⟨p1, q1⟩, a1⟩, ⟨p2, q2⟩, a2⟩, ⟨p3, q3⟩, a3⟩, p4, q4⟩, p5, q5⟩, ⟨p6, q6⟩, a6⟩, ⟨p7, q7⟩, a7⟩, ⟨p8, q8⟩, a8⟩, ⟨p9, q9⟩, a9⟩, ⟨p10, q10⟩, a10⟩, ⟨p11, q11⟩, a11⟩ := hok
  replace q0 := isMov_eq q0
  replace q1 := isChk_eq q1
  replace q2 := isFad_eq q2
  replace q3 := isLoad_eq q3
  replace q4 := isMov_eq q4
  replace q5 := isMov_eq q5
  replace q6 := isBld_eq q6
  obtain ⟨t7, kt7, e7, q7, u7, k7, z7⟩ := isLook_eq q7
  obtain ⟨t8, c8, q8⟩ := isInc_eq q8
  obtain ⟨t9, kt9, e9, q9, u9, k9, z9⟩ := isMade_eq q9
  replace q10 := isExt_eq q10
  obtain ⟨t11, q11⟩ := isPut_eq q11
  have hsz : ops.size = 12 := by rw [← Array.length_toList, hops]; rfl
  have hrn : r.getD (normA (intV 0)) = intV n := hr
  have hself := keyOK_self hko
  refine wp_region_any hmix (any_inv hedge (fun L a' w' => a'.defers = a.defers ∧ (
     (L 9 = false ∧ L 10 = false ∧ L 11 = false ∧ ∃ ρ' S', Step Big ρ S s.H w ρ' S' s.H w' ∧ RelE ρ' S' s.H w' (envB (valB s v1 v2 k l n 0) L s.E 0) a'.tmps) ∨
     (L 9 = true ∧ L 11 = false ∧ (∀ i, i ≤ 6 → L i = true) ∧ ∃ ρ' S' ents clk j en, Step Big ρ S s.H w ρ' S' (hset s.H l (.mp b.ag b.ks (setE k (intV n) es))) w' ∧ RelE ρ' S' (hset s.H l (.mp b.ag b.ks (setE k (intV n) es))) w' (envB (valB s v1 v2 k l n en.born) L s.E 0) a'.tmps ∧
        w'.heap[ρ' l]? = some (.map ents clk) ∧ ents[j]? = some en ∧ idxE k (setE k (intV n) es) = some j) ∨
     ((∀ i, i < 12 → L i = true) ∧ ∃ ρ' S', Step Big ρ S s.H w ρ' S' (hset s.H l (.mp b.ag b.ks (setE k (intV (IntKind.i64.wrap (n + 1))) es))) w' ∧ RelE ρ' S' (hset s.H l (.mp b.ag b.ks (setE k (intV (IntKind.i64.wrap (n + 1))) es))) w' (envB (fun _ => .undef) (fun _ => true) s.E 0) a'.tmps)))
    ?_ ?_ ops.size _ a _ (by simp) (by simp [List.count_replicate]) ?_)
  · intro L i o a' w' ⟨hd, hJ⟩ ho hLi hed K hK
    -- a step that leaves memory as it is, ahead of the entry
    have dput : ∀ (d : Option Nat) (y : Value), (a'.put d y).defers = a.defers := fun d y => by rw [← hd]; cases d <;> rfl
    have stepA : ∀ (i : Nat) (o : Oper) (q : AOp) (K : Act → World → Prop), (L 9 = false ∧ L 10 = false ∧ L 11 = false ∧ ∃ ρ' S', Step Big ρ S s.H w ρ' S' s.H w' ∧ RelE ρ' S' s.H w' (envB (valB s v1 v2 k l n 0) L s.E 0) a'.tmps) → i ≤ 8 → ops[i]? = some o → plainO o (some (12 + i)) = true → cvOp P o.op = some q →
        aop X 0 s.H (q.map (aev (envB (valB s v1 v2 k l n 0) L s.E 0))) = some (valB s v1 v2 k l n 0 i, [], []) →
        (∀ (a'' : Act) (w'' : World), a''.defers = a.defers ∧ ((if 9 = i then true else L 9) = false ∧ (if 10 = i then true else L 10) = false ∧ (if 11 = i then true else L 11) = false ∧ ∃ ρ' S', Step Big ρ S s.H w ρ' S' s.H w'' ∧ RelE ρ' S' s.H w'' (envB (valB s v1 v2 k l n 0) (fun k => if k = i then true else L k) s.E 0) a''.tmps) → K a'' w'') → wpOp P ops Q i K a' w' := by
      intro i o q K ⟨l9, l10, l11, ρ1, S1, st, he1⟩ hi8 ho hp hq hop hK
      refine wpOp_go ho hp (op_sound (X := X) hC st.inv he1 hq hop (fun _ hm => by cases hm) fun w2 y ρ2 S2 st2 hr2 => hK _ _ ⟨dput _ y, ?_⟩)
      refine ⟨by rw [if_neg (by omega)]; exact l9, by rw [if_neg (by omega)]; exact l10, by rw [if_neg (by omega)]; exact l11, ρ2, S2, (st.trans st2).weaken fun _ h => h.elim (fun h => h) (fun h => nomatch h), ?_⟩
      rw [plain_dst hp]
      refine rel_put hlen (by omega) ?_ hr2
      exact he1.step st2 st.inv fun _ _ h => by cases h
    have nthE : ∀ (born : Nat) (j : Nat), j < s.E.length → nth (envB (valB s v1 v2 k l n born) L s.E 0) j = if 12 ≤ j ∧ j ≤ 22 ∧ L (j - 12) = true then valB s v1 v2 k l n born (j - 12) else nth s.E j := fun born j hj => by
      rw [envB_nth _ _ _ _ _ hj, Nat.zero_add]
    have low : ∀ (born : Nat) (j : Nat), j < 12 → nth (envB (valB s v1 v2 k l n born) L s.E 0) j = nth s.E j := fun born j hj => by
      rw [nthE born j (by omega), if_neg (fun h => by omega)]
    have at_ : ∀ (born : Nat) (j : Nat), j ≤ 10 → L j = true → nth (envB (valB s v1 v2 k l n born) L s.E 0) (12 + j) = valB s v1 v2 k l n born j := fun born j hj hl => by
      rw [nthE born (12 + j) (by omega), if_pos ⟨by omega, by omega, by rw [Nat.add_sub_cancel_left]; exact hl⟩, Nat.add_sub_cancel_left]
    have h7 : ∀ (H : Heap) (es' : List (AV × AV)), hget H l = some (.mp b.ag b.ks es') → alookup H b.ag b.ks (.map l) k = findE k es' := fun H es' hh => by
      unfold alookup
      rw [if_pos hko]
      simp only [hh, and_self, if_true]
    have eqf : ∀ j, i ≠ j → (if j = i then true else L j) = L j := fun j h => if_neg fun e => h e.symm
    rcases hJ with hA | ⟨l9, l11, hlow, ρ1, S1, ents, clk, j, en, st, he1, hb, hj, hidx⟩ | ⟨hall, _⟩
    · -- ahead of the entry
      have kA : ∀ (a'' : Act) (w'' : World), a''.defers = a.defers ∧ ((if 9 = i then true else L 9) = false ∧ (if 10 = i then true else L 10) = false ∧ (if 11 = i then true else L 11) = false ∧ ∃ ρ' S', Step Big ρ S s.H w ρ' S' s.H w'' ∧ RelE ρ' S' s.H w'' (envB (valB s v1 v2 k l n 0) (fun k => if k = i then true else L k) s.E 0) a''.tmps) → K a'' w'' := fun a'' w'' ⟨d, h⟩ => hK a'' w'' ⟨d, .inl h⟩
      have hidx := ho
      rw [← Array.getElem?_toList, hops] at hidx
      match i, hidx with
      | 0, e =>
        cases e
        exact stepA 0 _ _ K hA (by omega) ho p0 q0 (by simp only [AOpOf.map, aop, aev]; rw [low 0 0 (by omega)]; rfl) kA
      | 1, e =>
        cases e
        have d := aft_spec a1 hed
        exact stepA 1 _ _ K hA (by omega) ho p1 q1 (by simp only [AOpOf.map, aev]; rw [at_ 0 0 (by omega) (d 0 (by simp))]; exact h1) kA
      | 2, e =>
        cases e
        have d := aft_spec a2 hed
        exact stepA 2 _ _ K hA (by omega) ho p2 q2 (by simp only [AOpOf.map, aev]; rw [at_ 0 1 (by omega) (d 1 (by simp))]; exact h2) kA
      | 3, e =>
        cases e
        have d := aft_spec a3 hed
        exact stepA 3 _ _ K hA (by omega) ho p3 q3 (by simp only [AOpOf.map, aev]; rw [at_ 0 2 (by omega) (d 2 (by simp))]; exact h3) kA
      | 4, e =>
        cases e
        exact stepA 4 _ _ K hA (by omega) ho p4 q4 (by simp only [AOpOf.map, aop, aev]; rw [low 0 1 (by omega)]; rfl) kA
      | 5, e =>
        cases e
        exact stepA 5 _ _ K hA (by omega) ho p5 q5 (by simp only [AOpOf.map, aop, aev]; rw [low 0 2 (by omega)]; rfl) kA
      | 6, e =>
        cases e
        have d := aft_spec a6 hed
        exact stepA 6 _ _ K hA (by omega) ho p6 q6 (by simp only [AOpOf.map, aev, List.map]; rw [at_ 0 4 (by omega) (d 4 (by simp)), at_ 0 5 (by omega) (d 5 (by simp))]; exact h4) kA
      | 7, e =>
        cases e
        have d := aft_spec a7 hed
        obtain ⟨l9, l10, l11, ρ1, S1, st, he1⟩ := hA
        have r15 := he1.at_ (12 + 3)
        have r18 := he1.at_ (12 + 6)
        rw [at_ 0 3 (by omega) (d 3 (by simp))] at r15
        rw [at_ 0 6 (by omega) (d 6 (by simp))] at r18
        obtain ⟨y, hrun, hrel⟩ := lookup_rel (P := P) u7 k7 z7 st.inv r15 r18 (r := r) (by show alookup s.H b.ag b.ks (.map l) k = some r; rw [h7 _ _ hes]; exact hf) false
        rw [hrn] at hrel
        refine wpOp_go ho p7 (lookup_wp q7 hrun (kA _ _ ⟨dput _ y, l9, l10, l11, ρ1, S1, st, ?_⟩))
        rw [plain_dst p7]
        exact rel_put (i := 7) hlen (by omega) he1 hrel
      | 8, e =>
        cases e
        have d := aft_spec a8 hed
        obtain ⟨l9, l10, l11, ρ1, S1, st, he1⟩ := hA
        have r19 := he1.at_ (12 + 7)
        rw [at_ 0 7 (by omega) (d 7 (by simp))] at r19
        obtain ⟨y, hrun, hrel⟩ := abin_rel (P := P) (op := .add) (x := intV n) (y := intV 1) (v := intV (IntKind.i64.wrap (n + 1))) (b := .int .i64 1) t8 (.tmp 19) (.const (.int .i64 1)) r19 (rel_int _ _) rfl
        refine wpOp_go ho p8 (bin_wp q8 hrun (kA _ _ ⟨dput _ y, l9, l10, l11, ρ1, S1, st, ?_⟩))
        rw [plain_dst p8]
        exact rel_put (i := 8) hlen (by omega) he1 hrel
      | 9, e =>
        cases e
        have d := aft_spec a9 hed
        obtain ⟨l9, l10, l11, ρ1, S1, st, he1⟩ := hA
        have r15 := he1.at_ (12 + 3)
        have r18 := he1.at_ (12 + 6)
        rw [at_ 0 3 (by omega) (d 3 (by simp))] at r15
        rw [at_ 0 6 (by omega) (d 6 (by simp))] at r18
        have hmv := relA_mp r15 hes
        obtain ⟨cv, en, j, ents, clk, w2, hrun, st2, hcv, hb, hj, hix⟩ := mapentry_rel (P := P) u9 k9 z9 rfl rfl st.inv hes hko r18 hf
        rw [hrn] at st2 hcv hix
        have hev : a'.eval (.tmp 15) = .map (some (ρ1 l)) := hmv
        rw [← hev] at hrun
        refine wpOp_go ho p9 (made_wp q9 hrun (hK _ _ ⟨dput _ _, .inr (.inl ⟨rfl, l11, fun i hi => ?_, ρ1, S1, ents, clk, j, en, (st.trans st2).weaken fun _ h => h.elim (fun h => h) (fun h => nomatch h), ?_, hb, hj, hix⟩)⟩))
        · show (if i = 9 then true else L i) = true
          rw [if_neg (by omega)]; exact d i (by simp; omega)
        · rw [plain_dst p9]
          refine rel_put (i := 9) hlen (by omega) (rel_same (V := valB s v1 v2 k l n 0) (L := L) (he1.step st2 st.inv fun _ _ h => h) fun i hi => .inr ⟨rfl, fun hl => ?_⟩) ?_
          · by_cases e9 : i = 9
            · rw [e9, l9] at hl; cases hl
            · by_cases e10 : i = 10
              · rw [e10, l10] at hl; cases hl
              · match i, hi, e9, e10 with
                | 0, _, _, _ | 1, _, _, _ | 2, _, _, _ | 3, _, _, _ | 4, _, _, _ | 5, _, _, _ | 6, _, _, _ | 7, _, _, _ | 8, _, _, _ => rfl
                | 9, _, h, _ => exact absurd rfl h
                | 10, _, _, h => exact absurd rfl h
                | i + 11, h, _, _ => omega
          · exact .tup _ _ (fun i => (#[cv, goInt (en.born : Nat)] : Array Value).getD i Go.undef) rfl (fun i x hx => by
              match i with
              | 0 => rfl
              | 1 => rfl
              | i + 2 => simp at hx) (fun i x hx => by
              match i with
              | 0 => simp at hx; subst hx; exact hcv
              | 1 => simp at hx; subst hx; exact rel_int _ _
              | i + 2 => simp at hx)
      | 10, e =>
        cases e
        have d := aft_spec a10 hed
        exact absurd (d 9 (by simp)) (by rw [hA.1]; simp)
      | 11, e =>
        cases e
        have d := aft_spec a11 hed
        exact absurd (d 9 (by simp)) (by rw [hA.1]; simp)
      | i + 12, e => simp at e
    · have hix := ho
      rw [← Array.getElem?_toList, hops] at hix
      have hes2 : hget (hset s.H l (.mp b.ag b.ks (setE k (intV n) es))) l = some (.mp b.ag b.ks (setE k (intV n) es)) := hget_set_self _ _ _
      have kB : ∀ (a'' : Act), a''.defers = a.defers → i ≠ 11 → RelE ρ1 S1 (hset s.H l (.mp b.ag b.ks (setE k (intV n) es))) w' (envB (valB s v1 v2 k l n en.born) (fun k => if k = i then true else L k) s.E 0) a''.tmps → K a'' w' := fun a'' d hne h =>
        hK a'' w' ⟨d, .inr (.inl ⟨by simp only [l9]; split <;> rfl, (eqf 11 hne).trans l11, fun k hk => by simp only [hlow k hk]; split <;> rfl, ρ1, S1, ents, clk, j, en, st, h, hb, hj, hidx⟩)⟩
      have no : i ≤ 6 → False := fun h => by rw [hlow i h] at hLi; cases hLi
      match i, hix with
      | 0, _ | 1, _ | 2, _ | 3, _ | 4, _ | 5, _ | 6, _ => exact (no (by omega)).elim
      | 7, e =>
        cases e
        have r15 := he1.at_ (12 + 3)
        have r18 := he1.at_ (12 + 6)
        rw [at_ _ 3 (by omega) (hlow 3 (by omega))] at r15
        rw [at_ _ 6 (by omega) (hlow 6 (by omega))] at r18
        obtain ⟨y, hrun, hrel⟩ := lookup_rel (P := P) u7 k7 z7 st.inv r15 r18 (r := some (intV n)) (by show alookup _ b.ag b.ks (.map l) k = _; rw [h7 _ _ hes2]; exact findE_setE hself hf) false
        refine wpOp_go ho p7 (lookup_wp q7 hrun (kB _ (dput _ y) (by omega) ?_))
        rw [plain_dst p7]
        exact rel_put (i := 7) hlen (by omega) he1 hrel
      | 8, e =>
        cases e
        have d := aft_spec a8 hed
        have r19 := he1.at_ (12 + 7)
        rw [at_ _ 7 (by omega) (d 7 (by simp))] at r19
        obtain ⟨y, hrun, hrel⟩ := abin_rel (P := P) (op := .add) (x := intV n) (y := intV 1) (v := intV (IntKind.i64.wrap (n + 1))) (b := .int .i64 1) t8 (.tmp 19) (.const (.int .i64 1)) r19 (rel_int _ _) rfl
        refine wpOp_go ho p8 (bin_wp q8 hrun (kB _ (dput _ y) (by omega) ?_))
        rw [plain_dst p8]
        exact rel_put (i := 8) hlen (by omega) he1 hrel
      | 9, e => rw [l9] at hLi; cases hLi
      | 10, e =>
        cases e
        have r21 := he1.at_ (12 + 9)
        rw [at_ _ 9 (by omega) l9] at r21
        obtain ⟨y, hrun, hrel⟩ : ∃ y, (Instr.extract (a'.eval (.tmp 21)) 1).run P w' = .ok y w' ∧ RelA ρ1 S1 (hset s.H l (.mp b.ag b.ks (setE k (intV n) es))) w' (intV en.born) y := by
          generalize hev : a'.eval (.tmp 21) = ev
          have r21 : RelA ρ1 S1 (hset s.H l (.mp b.ag b.ks (setE k (intV n) es))) w' (.tup [intV n, intV en.born]) ev := by rw [← hev]; exact r21
          cases r21 with
          | tup _ vs ys h1 h2 h3 => exact ⟨ys 1, by simp [Instr.extract, h2 1 _ rfl], h3 1 _ rfl⟩
        refine wpOp_go ho p10 (ext_wp q10 hrun (kB _ (dput _ y) (by omega) ?_))
        rw [plain_dst p10]
        exact rel_put (i := 10) hlen (by omega) he1 hrel
      | 11, e =>
        cases e
        have d := aft_spec a11 hed
        have r15 := he1.at_ (12 + 3)
        have r20 := he1.at_ (12 + 8)
        have r22 := he1.at_ (12 + 10)
        rw [at_ _ 3 (by omega) (d 3 (by simp))] at r15
        rw [at_ _ 8 (by omega) (d 8 (by simp))] at r20
        rw [at_ _ 10 (by omega) (d 10 (by simp))] at r22
        have e15 : a'.eval (.tmp 15) = .map (some (ρ1 l)) := relA_mp r15 hes2
        have e22 : a'.eval (.tmp 22) = goInt (en.born : Nat) := relA_int r22
        obtain ⟨w2, hrun, st2⟩ := entrystore_rel (P := P) (t := t11) st.inv hes2 hb hj hidx (v := intV (IntKind.i64.wrap (n + 1))) rfl rfl r20
        rw [← e15, ← e22] at hrun
        rw [setE_setE hself] at st2
        have hext : ∀ m, hget (hset s.H l (.mp b.ag b.ks (setE k (intV (IntKind.i64.wrap (n + 1))) es))) m = hget (hset (hset s.H l (.mp b.ag b.ks (setE k (intV n) es))) l (.mp b.ag b.ks (setE k (intV (IntKind.i64.wrap (n + 1))) es))) m := fun m => by
          by_cases c : m = l
          · subst c; rw [hget_set_self, hget_set_self]
          · rw [hget_set_ne _ _ c, hget_set_ne _ _ c, hget_set_ne _ _ c]
        have st3 := step_ext (N := No) st2.inv hext
        refine wpOp_go ho p11 (put_wp q11 hrun (hK _ _ ⟨dput _ _, .inr (.inr ⟨fun i hi => ?_, ρ1, S1, ((st.trans st2).trans st3).weaken fun _ h => h.elim (fun h => h.elim (fun h => h) (fun h => nomatch h)) (fun h => nomatch h), ?_⟩)⟩))
        · show (if i = 11 then true else L i) = true
          by_cases c : i = 11
          · simp [c]
          · rw [if_neg c]; exact d i (by simp; omega)
        · rw [plain_dst p11]
          exact rel_same ((he1.step st2 st.inv fun _ _ h => h).step st3 st2.inv fun _ _ h => h) fun i _ => .inl ⟨rfl, rfl⟩
      | i + 12, e => simp at e
    · have : i < 12 := by
        have := (Array.getElem?_eq_some_iff.1 ho).1
        omega
      rw [hall i this] at hLi; cases hLi
  · intro L a' w' hall ⟨hd, hJ⟩
    rcases hJ with ⟨h9, _⟩ | ⟨_, h11, _⟩ | ⟨_, ρ', S', st, he'⟩
    · rw [hall 9 (by omega)] at h9; cases h9
    · rw [hall 11 (by omega)] at h11; cases h11
    · exact hn ρ' S' w' a' st he' hd
  · have hfalse : (fun k => (Array.replicate ops.size false).getD k false) = fun _ => false := by
      funext k
      simp only [Array.getD_eq_getD_getElem?, Array.getElem?_replicate]
      split <;> rfl
    refine ⟨rfl, .inl ?_⟩
    rw [hfalse]
    refine ⟨rfl, rfl, rfl, ρ, S, Step.heap0 (w := w) (w0 := { w with drawn := w.drawn + 1 }) (Step.refl (hi.heap rfl)) rfl, ?_⟩
    have he0 : RelE ρ S s.H { w with drawn := w.drawn + 1 } s.E a.tmps := ⟨he.size, fun i => (he.at_ i).heap rfl⟩
    refine ⟨by rw [envB_len]; exact he0.size, fun i => ?_⟩
    by_cases hlt : i < s.E.length
    · rw [envB_nth _ _ _ _ _ hlt]; simpa using he0.at_ i
    · rw [nth_eq, List.getElem?_eq_none (by rw [envB_len]; omega)]; exact .undef _
end
end
end Bz

/- A loop over a map, whichever way it is gone through. -/
namespace Bz
open Go

/-! ### what is put aside, and attached again -/
/-- what is not the caller's, nor map l -/
def looseH (l : Nat) (H : Heap) : Heap := H.filter fun x => decide (10000 ≤ x.1) && x.1 != l
def callerH (H : Heap) : Heap := H.filter fun x => decide (x.1 < 10000)

theorem hget_loose (l k : Nat) (H : Heap) : hget (looseH l H) k = if 10000 ≤ k ∧ k ≠ l then hget H k else none := by
  unfold looseH
  rw [hget_filter (fun k => decide (10000 ≤ k) && k != l)]
  by_cases h1 : 10000 ≤ k <;> by_cases h2 : k = l <;> simp [h1, h2]
theorem hget_caller (k : Nat) (H : Heap) : hget (callerH H) k = if k < 10000 then hget H k else none := by
  unfold callerH
  rw [hget_filter (fun k => decide (k < 10000))]
  by_cases h1 : k < 10000 <;> simp [h1]
theorem hget_app : ∀ (A B : Heap) (k : Nat), hget (A ++ B) k = match hget A k with | some o => some o | none => hget B k
  | [], B, k => by simp [hget]
  | (m, o) :: r, B, k => by
    simp only [List.cons_append, hget]
    by_cases h : k = m
    · simp [h]
    · simp only [if_neg h]; exact hget_app r B k

/-- all names in a state are a function's own -/
def tight (s : St) : Bool := (refsL s.E).all (fun l => decide (10000 ≤ l)) && s.H.all fun x => decide (10000 ≤ x.1) && (refsO x.2).all fun l => decide (10000 ≤ l)
/-- the caller's lead to the caller's -/
def shut (H : Heap) : Bool := H.all fun x => !decide (x.1 < 10000) || (refsO x.2).all fun l => decide (l < 10000)

theorem hget_memR : ∀ {H : Heap} {l : Nat} {o : AObj}, hget H l = some o → (l, o) ∈ H
  | (m, p) :: r, l, o, h => by
    simp only [hget] at h
    split at h
    · rename_i e; cases h; subst e; exact List.mem_cons_self
    · exact List.mem_cons_of_mem _ (hget_memR h)

theorem attach {N : Nat → Prop} {ρ ρ' : Nat → Nat} {S S' : Nat → Prop} {H H0 : Heap} {w w' : World} {s' : St} {ts : Array Value} (hi : Inv ρ S H w) (hi0 : Inv ρ S H0 w) (sub : ∀ l o, hget H0 l = some o → 10000 ≤ l ∧ hget H l = some o)
    (st : Step N ρ S H0 w ρ' S' s'.H w') (he : RelE ρ' S' s'.H w' s'.E ts) (ht : tight s' = true) (hs : shut H = true) :
    Step Big ρ S H w (fun l => if l < 10000 then ρ l else ρ' l) S' (callerH H ++ s'.H) w' ∧ RelE (fun l => if l < 10000 then ρ l else ρ' l) S' (callerH H ++ s'.H) w' s'.E ts := by
  simp only [tight, Bool.and_eq_true, List.all_eq_true, decide_eq_true_eq] at ht
  obtain ⟨hE, hH⟩ := ht
  have hH' : ∀ l, l < 10000 → hget s'.H l = none := fun l hl => by
    cases h : hget s'.H l with
    | none => rfl
    | some o => have := (hH _ (hget_memR h)).1; omega
  have low : ∀ l, l < 10000 → hget (callerH H ++ s'.H) l = hget H l := fun l hl => by
    rw [hget_app, hget_caller, if_pos hl]
    cases h : hget H l with
    | none => exact hH' l hl
    | some o => rfl
  have high : ∀ l, ¬ l < 10000 → hget (callerH H ++ s'.H) l = hget s'.H l := fun l hl => by
    rw [hget_app, hget_caller, if_neg hl]
  have lv0 : ∀ m, Live H0 m → Live H m ∧ 10000 ≤ m := fun m ⟨o, h1, h2⟩ => ⟨⟨o, (sub m o h1).2, h2⟩, (sub m o h1).1⟩
  have live : ∀ l, Live (callerH H ++ s'.H) l → (l < 10000 ∧ Live H l) ∨ (¬ l < 10000 ∧ Live s'.H l) := fun l ⟨o, h1, h2⟩ => by
    by_cases hl : l < 10000
    · rw [low l hl] at h1; exact .inl ⟨hl, o, h1, h2⟩
    · rw [high l hl] at h1; exact .inr ⟨hl, o, h1, h2⟩
  have compL : ∀ l, l < 10000 → Comp ρ H l (fun l => if l < 10000 then ρ l else ρ' l) (callerH H ++ s'.H) l := fun l hl => comp_same (low l hl) (by simp only [if_pos hl])
  have compH : ∀ l, 10000 ≤ l → Comp ρ' s'.H l (fun l => if l < 10000 then ρ l else ρ' l) (callerH H ++ s'.H) l := fun l hl => comp_same (high l (by omega)) (by simp only [if_neg (show ¬ l < 10000 by omega)])
  have hw : ∀ b, S b → w'.heap[b]? = w.heap[b]? := st.same hi0
  refine ⟨⟨⟨fun l o ho => ?_, fun l l' a b e => ?_, fun l a => ?_, st.inv.dom⟩, st.sub, fun b hb => ?_, fun b hb hf => ?_, st.grow, st.size, fun l a => ?_, fun l hn => compL l (by unfold Big at hn; omega), st.outer⟩, he.size, fun i => ?_⟩
  · by_cases hl : l < 10000
    · rw [low l hl] at ho
      simp only [if_pos hl]
      refine (hi.obj l o ho).keep (fun hr => ?_) st.sub hw st.grow fun m hm => compL m ?_
      · refine st.frame _ ((hi.obj l o ho).lt hr) fun m hm e => ?_
        obtain ⟨hm1, hm2⟩ := lv0 m hm
        cases hlv : isLive o with
        | true => have := hi.inj m l hm1 ⟨o, ho, hlv⟩ e; omega
        | false =>
          cases o with
          | fz sz es => exact hi.sep m hm1 (e ▸ ((hi.obj l _ ho).2 (by simpa [isReal] using hr)).1)
          | arr sz es => simp [isLive, isReal] at hlv hr; exact absurd hlv hr
          | _ => simp [isLive] at hlv
      · have := List.all_eq_true.1 hs _ (hget_memR ho)
        simp only [Bool.or_eq_true, Bool.not_eq_true', decide_eq_false_iff_not, List.all_eq_true, decide_eq_true_eq] at this
        exact this.resolve_left (fun h => h hl) m hm
    · rw [high l hl] at ho
      simp only [if_neg hl]
      exact (st.inv.obj l o ho).keep (fun _ => rfl) (fun _ h => h) (fun _ _ => rfl) (.refl w') fun m hm => compH m ((hH _ (hget_memR ho)).2 m hm)
  · have cross : ∀ l l', l < 10000 → Live H l → Live s'.H l' → ρ l ≠ ρ' l' := by
      intro l l' hl h1 h2 e
      rcases st.live l' h2 with h | ⟨l0, h3, h4⟩
      · have := hi.live_lt h1; omega
      · obtain ⟨h5, h6⟩ := lv0 l0 h3
        have := hi.inj l0 l h5 h1 (h4.trans e.symm)
        omega
    rcases live l a with ⟨h1, h2⟩ | ⟨h1, h2⟩ <;> rcases live l' b with ⟨h3, h4⟩ | ⟨h3, h4⟩
    · simp only [if_pos h1, if_pos h3] at e; exact hi.inj l l' h2 h4 e
    · simp only [if_pos h1, if_neg h3] at e; exact absurd e (cross l l' h1 h2 h4)
    · simp only [if_neg h1, if_pos h3] at e; exact absurd e.symm (cross l' l h3 h4 h2)
    · simp only [if_neg h1, if_neg h3] at e; exact st.inv.inj l l' h2 h4 e
  · rcases live l a with ⟨h1, h2⟩ | ⟨h1, h2⟩
    · simp only [if_pos h1]
      intro hs'
      rcases st.new _ hs' with h | h | ⟨l0, h3, h4⟩
      · exact hi.sep l h2 h
      · have := hi.live_lt h2; omega
      · obtain ⟨h5, h6⟩ := lv0 l0 h3
        have := hi.inj l0 l h5 h2 h4
        omega
    · simp only [if_neg h1]; exact st.inv.sep l h2
  · rcases st.new b hb with h | h | ⟨l, h1, h2⟩
    · exact .inl h
    · exact .inr (.inl h)
    · exact .inr (.inr ⟨l, (lv0 l h1).1, h2⟩)
  · exact st.frame b hb fun l hl => hf l (lv0 l hl).1
  · rcases live l a with ⟨h1, h2⟩ | ⟨h1, h2⟩
    · exact .inr ⟨l, h2, by simp only [if_pos h1]⟩
    · rcases st.live l h2 with h | ⟨l0, h3, h4⟩
      · exact .inl (by simpa only [if_neg h1] using h)
      · exact .inr ⟨l0, (lv0 l0 h3).1, by simpa only [if_neg h1] using h4⟩
  · exact (he.at_ i).keep (fun _ h => h) (fun _ _ => rfl) (.refl w') fun m hm => compH m (hE m (nth_refs _ i m hm))

/-! ### the iterator -/
/-- a block that is nobody's was turned -/
theorem step_aside {N : Nat → Prop} {ρ0 ρ : Nat → Nat} {S0 S : Nat → Prop} {H0 H : Heap} {w0 w w' : World} (st : Step N ρ0 S0 H0 w0 ρ S H w) (r : Nat) (hr : w0.heap.size ≤ r) (hlive : ∀ m, Live H m → ρ m ≠ r) (hS : ¬ S r)
    (hother : ∀ b, b ≠ r → w'.heap[b]? = w.heap[b]?) (hnot : ∀ cs T fr, w.heap[r]? ≠ some (.cells cs T fr)) (hsize : w'.heap.size = w.heap.size) (hout : Outer w w') :
    Step N ρ0 S0 H0 w0 ρ S H w' := by
  have hg : Grow w w' := fun b cs T fr hb => ⟨cs, fr, by rw [hother b fun e => hnot cs T fr (e ▸ hb)]; exact hb, rfl⟩
  have hw : ∀ b, S b → w'.heap[b]? = w.heap[b]? := fun b hb => hother b fun e => hS (e ▸ hb)
  refine ⟨⟨fun l o ho => ?_, st.inv.inj, st.inv.sep, fun b hb => by rw [hsize]; exact st.inv.dom b hb⟩, st.sub, st.new, fun b hb hf => ?_, st.grow.trans hg, by rw [hsize]; exact st.size, st.live, st.comp,
    ⟨hout.1.trans st.outer.1, hout.2.1.trans st.outer.2.1, hout.2.2.1.trans st.outer.2.2.1, Nat.le_trans st.outer.2.2.2 hout.2.2.2⟩⟩
  · refine (st.inv.obj l o ho).keep (fun hrl => hother _ fun e => ?_) (fun _ h => h) hw hg fun m _ => .refl ρ H m
    cases hlv : isLive o with
    | true => exact hlive l ⟨o, ho, hlv⟩ e
    | false =>
      cases o with
      | fz sz es => exact hS (e ▸ ((st.inv.obj l _ ho).2 (by simpa [isReal] using hrl)).1)
      | arr sz es => simp [isLive, isReal] at hlv hrl; exact absurd hlv hrl
      | _ => simp [isLive] at hlv
  · rw [hother b (by omega)]; exact st.frame b hb hf

theorem relE_aside {ρ : Nat → Nat} {S : Nat → Prop} {H : Heap} {w w' : World} {E : List AV} {ts : Array Value} (he : RelE ρ S H w E ts) (r : Nat) (hS : ¬ S r)
    (hother : ∀ b, b ≠ r → w'.heap[b]? = w.heap[b]?) (hnot : ∀ cs T fr, w.heap[r]? ≠ some (.cells cs T fr)) : RelE ρ S H w' E ts := by
  have hg : Grow w w' := fun b cs T fr hb => ⟨cs, fr, by rw [hother b fun e => hnot cs T fr (e ▸ hb)]; exact hb, rfl⟩
  exact ⟨he.size, fun i => (he.at_ i).keep (fun _ h => h) (fun b hb => hother b fun e => hS (e ▸ hb)) hg fun m _ => .refl ρ H m⟩

/-- what is still to come -/
def leftL (L : List (MapEntry × (AV × AV))) (seen : Array Nat) : List (MapEntry × (AV × AV)) := L.filter fun p => !seen.contains p.1.born

theorem leftL_push : ∀ {L : List (MapEntry × (AV × AV))} {seen : Array Nat} {p : MapEntry × (AV × AV)}, (L.map fun p => p.1.born).Nodup → p ∈ leftL L seen → List.Perm (leftL L seen) (p :: leftL L (seen.push p.1.born))
  | [], seen, p, _, h => by simp [leftL] at h
  | x :: r, seen, p, hn, h => by
    have hn' := List.nodup_cons.1 hn
    have hxr : ∀ y ∈ r, y.1.born ≠ x.1.born := fun y hy e => hn'.1 (List.mem_map.2 ⟨y, hy, e⟩)
    unfold leftL at h ⊢
    simp only [List.filter_cons] at h ⊢
    by_cases hx : x = p
    · subst hx
      have hmem : (!seen.contains x.1.born) = true := by
        by_cases hc : (!seen.contains x.1.born) = true
        · exact hc
        · rw [if_neg hc] at h
          exact absurd rfl (hxr x ((List.mem_filter.1 h).1))
      rw [if_pos hmem]
      have hps : (!(seen.push x.1.born).contains x.1.born) = false := by simp
      rw [if_neg (by rw [hps]; simp)]
      refine .cons _ (List.Perm.of_eq (List.filter_congr fun y hy => ?_))
      have := hxr y hy
      simp only [Array.contains_push]
      have e : (y.1.born == x.1.born) = false := by simpa using this
      rw [e]; simp
    · have hpr : p ∈ r.filter fun p => !seen.contains p.1.born := by
        by_cases hc : (!seen.contains x.1.born) = true
        · rw [if_pos hc] at h
          exact (List.mem_cons.1 h).resolve_left fun e => hx e.symm
        · rw [if_neg hc] at h; exact h
      have ih := leftL_push hn'.2 hpr
      have hne : x.1.born ≠ p.1.born := fun e => hxr p ((List.mem_filter.1 hpr).1) e.symm
      have e : (!(seen.push p.1.born).contains x.1.born) = !seen.contains x.1.born := by
        have : (x.1.born == p.1.born) = false := by simpa using hne
        simp only [Array.contains_push, this]; simp
      rw [e]
      by_cases hc : (!seen.contains x.1.born) = true
      · rw [if_pos hc, if_pos hc]
        exact (List.Perm.cons _ ih).trans (.swap ..)
      · rw [if_neg hc, if_neg hc]; exact ih


/-! ### the loop -/
structure Each where
  rid : Nat
  ops : List AOper
  x : AOpd
  it : Nat
  bid : Nat
  mask : Mask
  nx : Nat
  ok : Nat
  endM : Mask
  bodyM : Mask
  bid2 : Nat
  en : Nat
  rid2 : Nat
  ops2 : List AOper
  rest : ACode

def bareE (e : Each) : Each := { e with mask := ⟨[], []⟩, endM := ⟨[], []⟩, bodyM := ⟨[], []⟩, rest := bare e.rest }

def isMapT (P : Program) (t : TypeId) : Bool := match P.underlying t with
  | some (.map _ _) => true
  | _ => false

/-- a loop over a map, as the program has it -/
def eachOf (P : Program) : Code → Option Each
  | .seq (.region i1 o1 false) (.block b (.loop (.seq (.region _ o2 false) (.seq (.cond (.tmp ok1) .skip (.exit b')) (.block b2 (.seq (.region i3 o3 false) r)))))) =>
    match o1.toList.reverse, o2.toList, o3.toList with
    | ⟨some it, .range t x, _, _, _, none⟩ :: pre, [⟨some nx, .next (.tmp it1) false, _, _, _, none⟩, ⟨some ok, .extract (.tmp nx1) 0, _, _, _, none⟩], ⟨some en, .entry (.tmp it2), _, _, _, none⟩ :: post =>
      if it1 = it ∧ it2 = it ∧ nx1 = nx ∧ ok1 = ok ∧ b' = b ∧ isMapT P t = true then
        (cvO x).map fun qx => { rid := i1, ops := cvOpers P o1 false #[] pre.reverse 0, x := qx, it, bid := b, mask := ⟨[], []⟩, nx, ok, endM := ⟨[], []⟩, bodyM := ⟨[], []⟩, bid2 := b2, en, rid2 := i3, ops2 := cvOpers P o3 false #[] post 1, rest := bare (cvCode P r) }
      else none
    | _, _, _ => none
  | _ => none

/-- the iterator's name -/
def itN : Nat := 9999
theorem itN_small : ¬ Big itN := by unfold Big itN; omega
def highH (H : Heap) : Heap := H.filter fun x => decide (10000 ≤ x.1)
theorem hget_high (k : Nat) (H : Heap) : hget (highH H) k = if 10000 ≤ k then hget H k else none := by
  unfold highH
  rw [hget_filter (fun k => decide (10000 ≤ k))]
  by_cases h1 : 10000 ≤ k <;> simp [h1]

/-- is the iterator where it was? -/
def inLoop (e : Each) (s : St) : Bool := (match nth s.E e.it with
  | .pa l 0 0 0 => l == itN
  | _ => false) && (match hget s.H itN with
  | some (.fz 1 []) => true
  | _ => false) && decide (e.nx < s.E.length) && decide (e.ok < s.E.length)

theorem inLoop_spec {e : Each} {s : St} (h : inLoop e s = true) : nth s.E e.it = .pa itN 0 0 0 ∧ hget s.H itN = some (.fz 1 []) ∧ e.nx < s.E.length ∧ e.ok < s.E.length := by
  unfold inLoop at h
  simp only [Bool.and_eq_true, decide_eq_true_eq] at h
  obtain ⟨⟨⟨h1, h2⟩, h3⟩, h4⟩ := h
  refine ⟨?_, ?_, h3, h4⟩
  · split at h1
    · rename_i l hl; rw [hl]; simp at h1; rw [h1]
    · cases h1
  · split at h2
    · assumption
    · cases h2

def blkO (id : Nat) : Option (AExit × St) → Option (AExit × St)
  | some (.exit j, s') => if j = id then some (.norm, s') else some (.exit j, s')
  | r => r

/-- a round: what has come is k, v -/
noncomputable def roundR (X : Ctx) (e : Each) (p : AV × AV) (s : St) : Option (AExit × St) :=
  let s1 := trim e.bodyM { s with E := putE (putE s.E (some e.nx) (.tup [.d (.bool true), p.1, p.2])) (some e.ok) (.d (.bool true)) }
  if inLoop e s1 then
    match aops X e.rid2 e.ops2 1 { s1 with E := putE s1.E (some e.en) (.tup [p.1, p.2]) } with
    | none => none
    | some s2 => blkO e.bid2 (exL X e.rest s2)
  else none

/-- nothing is left -/
def endR (e : Each) (s : St) : St := trim e.endM { s with E := putE (putE s.E (some e.nx) (.tup [.d (.bool false)])) (some e.ok) (.d (.bool false)) }

/-- what behind a round -/
def nextR (e : Each) (k : St → Option (AExit × St)) : Option (AExit × St) → Option (AExit × St)
  | none => none
  | some (.norm, s) => k s
  | some (.exit j, s) => if j = e.bid then some (.norm, s) else some (.exit j, s)
  | some (.ret, s) => some (.ret, s)
  | some (.goto _, _) => none

/-- the rounds, in this order -/
noncomputable def eachR (X : Ctx) (e : Each) : List (AV × AV) → St → Option (AExit × St)
  | [], s => if inLoop e (trim e.mask s) then some (.norm, endR e (trim e.mask s)) else none
  | p :: r, s => if inLoop e (trim e.mask s) then nextR e (eachR X e r) (roundR X e p (trim e.mask s)) else none

def eachP (X : Ctx) (e : Each) (s : St) (Q : AExit → St → Prop) : Prop :=
  ∃ s1 l ag ks es, aops X e.rid e.ops 0 s = some s1 ∧ aev s1.E e.x = .map l ∧ hget s1.H l = some (.mp ag ks es) ∧ (hget s1.H itN).isNone = true ∧ freshU s1.E s1.H [itN] = true ∧ shut s1.H = true ∧
    ∀ π : List (AV × AV), π.Perm es → ∃ ex s4, eachR X e π { E := putE s1.E (some e.it) (.pa itN 0 0 0), H := hset (looseH l s1.H) itN (.fz 1 []) } = some (ex, s4) ∧ tight { s4 with H := highH s4.H } = true ∧ Q ex { s4 with H := callerH s1.H ++ highH s4.H }

section
variable {P : Program} {X : Ctx}

theorem aops_soundK (hC : Good P X.C) {ops : Array Oper} {bs : Array Nat} {rid : Nat} {Q : Exit → Act → World → Prop} {tail : List Nat} : ∀ (r : List Oper) (i : Nat) (s s' : St) (ρ : Nat → Nat) (S : Nat → Prop) (w : World) (a : Act),
    (∀ k o, r[k]? = some o → ops[i + k]? = some o) → aops X rid (cvOpers P ops false bs r i) i s = some s' → Inv ρ S s.H w → RelE ρ S s.H w s.E a.tmps →
    (∀ ρ' S' w' (a' : Act), Step Big ρ S s.H w ρ' S' s'.H w' → RelE ρ' S' s'.H w' s'.E a'.tmps → a'.defers = a.defers → wpOps P ops Q tail a' w') →
    wpOps P ops Q (List.range' i r.length ++ tail) a w
  | [], i, s, s', ρ, S, w, a, _, h, hi, he, hn => by
    simp only [cvOpers, aops] at h
    cases h
    exact hn ρ S w a (.refl hi) he rfl
  | o :: r, i, s, s', ρ, S, w, a, hops, h, hi, he, hn => by
    have ho : ops[i]? = some o := hops 0 o rfl
    simp only [List.length_cons, List.range'_succ, List.cons_append]
    rw [wpOps_cons]
    simp only [cvOpers, aops] at h
    have rest : ∀ {E' : List AV} {H' : Heap} {ρ1 : Nat → Nat} {S1 : Nat → Prop} {w1 : World} {a1 : Act}, aops X rid (cvOpers P ops false bs r (i + 1)) (i + 1) { E := E', H := H' } = some s' → Step Big ρ S s.H w ρ1 S1 H' w1 →
        RelE ρ1 S1 H' w1 E' a1.tmps → a1.defers = a.defers → wpOps P ops Q (List.range' (i + 1) r.length ++ tail) a1 w1 := by
      intro E' H' ρ1 S1 w1 a1 h1 st1 he1 hd
      refine aops_soundK hC r (i + 1) _ s' ρ1 S1 w1 a1 (fun k o hk => ?_) h1 st1.inv he1 fun ρ' S' w' a' st he' hd' => hn ρ' S' w' a' ((st1.trans st).weaken fun _ h => h.elim id id) he' (hd'.trans hd)
      have := hops (k + 1) o (by simpa using hk)
      rwa [show i + 1 + k = i + (k + 1) by omega]
    rcases cvOper_cases (P := P) ops false bs o i with ⟨g, q, hg, hq, hcv⟩ | ⟨hbad, hgn⟩
    · rw [hcv] at h
      simp only at h
      split at h
      · cases h
      · rename_i hw
        refine oper_sound hC ho hi he hg hq (rid := rid) (.inl ⟨hw, rfl, rfl, rfl⟩) (fun l hl => by simp at hl) fun w' y ρ' S' st he' => ?_
        exact rest h st he' (by cases o.dst <;> rfl)
      · rename_i hw
        split at h
        · cases h
        · rename_i v u nw hop
          split at h
          · rename_i hf
            refine oper_sound hC ho hi he hg hq (rid := rid) (.inr ⟨hw, hop⟩) (fresh_spec hf) fun w' y ρ' S' st he' => ?_
            exact rest h st he' (by cases o.dst <;> rfl)
          · cases h
    · rw [hbad, hgn] at h
      simp [wants, AOpOf.map, aop] at h

theorem spec_op {ops : Array Oper} {Q : Exit → Act → World → Prop} {tail : List Nat} {i : Nat} {o : Oper} {a : Act} {w w' : World} {v : Value} (ho : ops[i]? = some o) (hg : o.guard = none)
    (hrun : (execOp a.eval o).run P w = .ok (.value v) w') (hn : wpOps P ops Q tail (a.put o.dst v) w') : wpOps P ops Q (i :: tail) a w := by
  rw [wpOps_cons]
  unfold wpOp
  simp only [ho]
  have : Region.wanted o (yielded ops a.tmps) = true := by unfold Region.wanted; rw [hg]
  rw [this]
  simp only [if_true]
  refine .inl ?_
  unfold Oper.wp
  rw [hrun]
  exact hn

theorem exL_sound {own retOwn : Nat → Bool} {ext : Callee} {code : Nat → Option AFunc} (hext : Good P ext) (hcode : ∀ f fn, code f = some fn → Shows P f fn) {c : Code} {ac : ACode} (hb : bare ac = bare (cvCode P c))
    {s s' : St} {e : AExit} {ρ : Nat → Nat} {S : Nat → Prop} {w : World} {a : Act} {Q : Exit → Act → World → Prop} (h : exL (XL own retOwn ext code) ac s = some (e, s')) (hi : Inv ρ S s.H w) (he : RelE ρ S s.H w s.E a.tmps)
    (hn : ∀ ρ' S' w' (a' : Act), Step Big ρ S s.H w ρ' S' s'.H w' → RelE ρ' S' s'.H w' s'.E a'.tmps → a'.defers = a.defers → Q (exitOf e) a' w') : c.wp P Q a w := by
  obtain ⟨k, hk⟩ := exL_cont own retOwn ext code ac s _ h
  exact aexec_sound (X := { own, retOwn, C := run own retOwn ext code k }) (run_sound hext hcode k) c ac hb k s s' e ρ S w a Q hk hi he hn


/-- what stands while the loop is under way -/
structure Held (bl r clk : Nat) (ents : Array MapEntry) (seen : Array Nat) (ρ : Nat → Nat) (S : Nat → Prop) (H : Heap) (w : World) : Prop where
  live : ∀ m, Live H m → ρ m ≠ bl ∧ ρ m ≠ r
  nS : ¬ S r
  map : w.heap[bl]? = some (.map ents clk)
  iter : w.heap[r]? = some (.mapIter (some bl) clk seen clk)
  pin : Cnt H itN 1 0 → ρ itN = r

theorem Held.step {bl r clk : Nat} {ents : Array MapEntry} {seen : Array Nat} {ρ ρ' : Nat → Nat} {S S' : Nat → Prop} {H H' : Heap} {w w' : World} (h : Held bl r clk ents seen ρ S H w) (st : Step Big ρ S H w ρ' S' H' w') :
    Held bl r clk ents seen ρ' S' H' w' := by
  have hb := lt_of_get h.map
  have hr := lt_of_get h.iter
  refine ⟨fun m hm => ?_, fun hs => ?_, ?_, ?_, fun hc => ?_⟩
  · rcases st.live m hm with q | ⟨l0, h1, h2⟩
    · exact ⟨by omega, by omega⟩
    · rw [← h2]; exact h.live l0 h1
  · rcases st.new r hs with q | q | ⟨l, h1, h2⟩
    · exact h.nS q
    · omega
    · exact (h.live l h1).2 h2
  · rw [st.frame bl hb fun l hl => (h.live l hl).1]; exact h.map
  · rw [st.frame r hr fun l hl => (h.live l hl).2]; exact h.iter
  · obtain ⟨m, hm, hle, e⟩ := (st.comp itN itN_small).1 1 0 hc
    have : m = 0 := by omega
    subst this
    rw [e rfl]; exact h.pin hm

theorem inLoop_at {e : Each} {s : St} {bl r clk : Nat} {ents : Array MapEntry} {seen : Array Nat} {ρ : Nat → Nat} {S : Nat → Prop} {w : World} {ts : Array Value} (h : inLoop e s = true) (hd : Held bl r clk ents seen ρ S s.H w) (he : RelE ρ S s.H w s.E ts) :
    ts.getD e.it undef = .pointer (some ⟨r, 0, none⟩) := by
  obtain ⟨h1, h2, _⟩ := inLoop_spec h
  have hr := he.at_ e.it
  rw [h1] at hr
  generalize ts.getD e.it undef = v at hr
  cases hr with
  | pa _ _ _ _ _ hf hc =>
    have hcnt : Cnt s.H itN 1 0 := ⟨[], .inr h2, rfl⟩
    obtain ⟨_, hv⟩ := hc 1 0 hcnt
    rw [hv rfl, hd.pin hcnt]

theorem getD_put {a : Act} {d : Nat} {v : Value} (h : d < a.tmps.size) : (a.put (some d) v).tmps.getD d undef = v := by
  simp [Act.put, h]


theorem eachOf_spec {c : Code} {e : Each} (h : eachOf P c = some e) : ∃ (i2 : Nat) (o1 o2 o3 : Array Oper) (r : Code) (t : TypeId) (x : Operand) (pre post : List Oper) (y1 y2 y3 y4 : TypeId × String × Array Edge),
    c = .seq (.region e.rid o1 false) (.block e.bid (.loop (.seq (.region i2 o2 false) (.seq (.cond (.tmp e.ok) .skip (.exit e.bid)) (.block e.bid2 (.seq (.region e.rid2 o3 false) r)))))) ∧
    o1.toList = pre ++ [⟨some e.it, .range t x, y1.1, y1.2.1, y1.2.2, none⟩] ∧
    o2.toList = [⟨some e.nx, .next (.tmp e.it) false, y2.1, y2.2.1, y2.2.2, none⟩, ⟨some e.ok, .extract (.tmp e.nx) 0, y3.1, y3.2.1, y3.2.2, none⟩] ∧
    o3.toList = ⟨some e.en, .entry (.tmp e.it), y4.1, y4.2.1, y4.2.2, none⟩ :: post ∧ isMapT P t = true ∧ cvO x = some e.x ∧
    e.ops = cvOpers P o1 false #[] pre 0 ∧ e.ops2 = cvOpers P o3 false #[] post 1 ∧ e.rest = bare (cvCode P r) := by
  unfold eachOf at h
  split at h
  · rename_i i1 o1 b i2 o2 ok1 b' b2 i3 o3 r
    split at h
    · rename_i it t x ty1 p1 af1 pre nx it1 ty2 p2 af2 ok nx1 ty3 p3 af3 en it2 ty4 p4 af4 post h1 h2 h3
      split at h
      · rename_i hc
        obtain ⟨rfl, rfl, rfl, rfl, rfl, hm⟩ := hc
        obtain ⟨qx, hx, h⟩ := Option.map_eq_some_iff.1 h
        cases h
        refine ⟨i2, o1, o2, o3, r, t, x, pre.reverse, post, (ty1, p1, af1), (ty2, p2, af2), (ty3, p3, af3), (ty4, p4, af4), rfl, ?_, h2, h3, hm, hx, rfl, rfl, rfl⟩
        have := congrArg List.reverse h1
        simpa using this
      · cases h
    · cases h
  · cases h

theorem tup_rel {ρ : Nat → Nat} {S : Nat → Prop} {H : Heap} {w : World} {vs : List AV} {zs : Array Value} (h : ArgsRel ρ S H w vs zs) : RelA ρ S H w (.tup vs) (.tuple zs) :=
  .tup _ zs (fun i => (zs[i]?).getD undef) h.1 (fun i x hx => by obtain ⟨y, hy, _⟩ := h.2 i x hx; rw [hy]; rfl) (fun i x hx => by obtain ⟨y, hy, hr⟩ := h.2 i x hx; rw [hy]; exact hr)

theorem world_drew_heap (w : World) : w.drew.heap = w.heap := rfl

section
variable {own retOwn : Nat → Bool} {ext : Callee} {code : Nat → Option AFunc}

theorem born_zip {ents : Array MapEntry} {es : List (AV × AV)} (hlen : ents.size = es.length) : (ents.toList.zip es).map (·.1) = ents.toList := List.map_fst_zip (by simp [hlen])

theorem each_round (hext : Good P ext) (hcode : ∀ f fn, code f = some fn → Shows P f fn) {e : Each} {i2 : Nat} {o2 o3 : Array Oper} {r : Code} {post : List Oper} {y2 y3 y4 : TypeId × String × Array Edge}
    (ho2 : o2.toList = [⟨some e.nx, .next (.tmp e.it) false, y2.1, y2.2.1, y2.2.2, none⟩, ⟨some e.ok, .extract (.tmp e.nx) 0, y3.1, y3.2.1, y3.2.2, none⟩])
    (ho3 : o3.toList = ⟨some e.en, .entry (.tmp e.it), y4.1, y4.2.1, y4.2.2, none⟩ :: post) (hops2 : e.ops2 = cvOpers P o3 false #[] post 1) (hrest : bare e.rest = bare (cvCode P r))
    {N' : Nat → Prop} (hN : ∀ l, Big l → N' l) {ρ0 : Nat → Nat} {S0 : Nat → Prop} {H0 : Heap} {w0 : World} (hi0 : Inv ρ0 S0 H0 w0) {bl it clk : Nat} {ents : Array MapEntry} {es : List (AV × AV)} (hlen : ents.size = es.length) (hborn : Born ents clk) (hit0 : w0.heap.size ≤ it)
    (hents : ∀ p ∈ ents.toList.zip es, refs p.2.1 = [] ∧ refs p.2.2 = [] ∧ RelA ρ0 S0 H0 w0 p.2.1 p.1.key ∧ RelA ρ0 S0 H0 w0 p.2.2 p.1.val)
    {F : AExit → St → Prop} {Q : Exit → Act → World → Prop} {d0 : List Deferred}
    (hn : ∀ ex s4, F ex s4 → ∀ ρ' S' w' (a' : Act), Step N' ρ0 S0 H0 w0 ρ' S' s4.H w' → RelE ρ' S' s4.H w' s4.E a'.tmps → a'.defers = d0 → Q (exitOf ex) a' w')
    (seen : Array Nat) (s : St) (ρ : Nat → Nat) (S : Nat → Prop) (w : World) (a : Act)
    (hrun : ∀ π, π.Perm ((leftL (ents.toList.zip es) seen).map (·.2)) → ∃ ex s4, eachR (XL own retOwn ext code) e π s = some (ex, s4) ∧ F ex s4)
    (st0 : Step N' ρ0 S0 H0 w0 ρ S s.H w) (he0 : RelE ρ S s.H w s.E a.tmps) (hd0 : Held bl it clk ents seen ρ S s.H w) (hdef : a.defers = d0) (K : Act → World → Prop)
    (next : ∀ p ∈ leftL (ents.toList.zip es) seen, ∀ s3, (∀ π, π.Perm ((leftL (ents.toList.zip es) (seen.push p.1.born)).map (·.2)) → ∃ ex s4, eachR (XL own retOwn ext code) e π s3 = some (ex, s4) ∧ F ex s4) →
      ∀ ρ S w (a : Act), Step N' ρ0 S0 H0 w0 ρ S s3.H w → RelE ρ S s3.H w s3.E a.tmps → Held bl it clk ents (seen.push p.1.born) ρ S s3.H w → a.defers = d0 → K a w) :
      (Code.seq (.region i2 o2 false) (.seq (.cond (.tmp e.ok) .skip (.exit e.bid)) (.block e.bid2 (.seq (.region e.rid2 o3 false) r)))).wp P (Exit.then K (Exit.inBlock e.bid Q)) a w := by
  have hC : Good P (XL own retOwn ext code).C := RUN_good own retOwn ext code hext hcode
  have hnodup : ((ents.toList.zip es).map fun p => p.1.born).Nodup := by
    have h1 := hborn.1
    rw [← born_zip hlen, List.map_map] at h1
    exact h1
  have hleft : (leftL (ents.toList.zip es) seen).map (·.1) = (leftOf ents seen).toList := by
    unfold leftL leftOf
    rw [Array.toList_filter]
    conv => rhs; rw [← born_zip hlen, List.filter_map]
    rfl
  -- the loop's head
  obtain ⟨ρ1, S1, st1, he1⟩ := trim_sound e.mask st0.inv he0
  have hd1 := hd0.step st1
  have st01 : Step N' ρ0 S0 H0 w0 ρ1 S1 (trim e.mask s).H w := (st0.trans st1).weaken fun l h => h.elim id (hN l)
  have hin : inLoop e (trim e.mask s) = true := by
    obtain ⟨ex, s4, hr, _⟩ := hrun _ (List.Perm.refl _)
    cases hl : (leftL (ents.toList.zip es) seen).map (·.2) with
    | nil => rw [hl] at hr; simp only [eachR] at hr; split at hr
             · assumption
             · cases hr
    | cons p q => rw [hl] at hr; simp only [eachR] at hr; split at hr
                  · assumption
                  · cases hr
  have hrun' : ∀ π, π.Perm ((leftL (ents.toList.zip es) seen).map (·.2)) → ∃ ex s4, (match π with | [] => some (AExit.norm, endR e (trim e.mask s)) | p :: r => nextR e (eachR (XL own retOwn ext code) e r) (roundR (XL own retOwn ext code) e p (trim e.mask s))) = some (ex, s4) ∧ F ex s4 := by
    intro π hπ
    obtain ⟨ex, s4, hr, hf⟩ := hrun π hπ
    refine ⟨ex, s4, ?_, hf⟩
    cases π with
    | nil => simpa only [eachR, hin, if_true] using hr
    | cons p q => simpa only [eachR, hin, if_true] using hr
  clear hrun
  generalize trim e.mask s = s1 at *
  obtain ⟨_, _, hnx, hok⟩ := inLoop_spec hin
  have hval := inLoop_at hin hd1 he1
  have hsz2 : o2.size = 2 := by rw [← Array.length_toList, ho2]; rfl
  have hop0 : o2[0]? = some ⟨some e.nx, .next (.tmp e.it) false, y2.1, y2.2.1, y2.2.2, none⟩ := by rw [← Array.getElem?_toList, ho2]; rfl
  have hop1 : o2[1]? = some ⟨some e.ok, .extract (.tmp e.nx) 0, y3.1, y3.2.1, y3.2.2, none⟩ := by rw [← Array.getElem?_toList, ho2]; rfl
  refine wp_seq (wp_region ?_)
  rw [hsz2]
  show wpOps P o2 _ [0, 1] a w
  have heval : a.eval (.tmp e.it) = .pointer (some ⟨it, 0, none⟩) := hval
  have hlt : e.nx < a.tmps.size := he1.size ▸ hnx
  have hlt2 : e.ok < a.tmps.size := he1.size ▸ hok
  rcases run_next_at (P := P) w y2.1 it bl clk clk seen ents clk hd1.iter hd1.map hborn.2 (Nat.le_refl _) with ⟨h0, hrunN⟩ | ⟨x, hx, w1, hw1, hrunN⟩
  · -- nothing is left
    have hnil : leftL (ents.toList.zip es) seen = [] := by
      have := congrArg List.length hleft
      simp [h0] at this
      exact this
    rw [hnil] at hrun'
    obtain ⟨ex, s4, hr, hf⟩ := hrun' [] (.refl _)
    simp only [Option.some.injEq, Prod.mk.injEq] at hr
    obtain ⟨rfl, rfl⟩ := hr
    refine spec_op hop0 rfl (v := .tuple #[.bool false]) (w' := w) (by simp only [execOp, heval, Sem.run_bind, hrunN, Result.andThen_ok, Sem.run_pure]) ?_
    have heN : (a.put (some e.nx) (.tuple #[.bool false])).eval (.tmp e.nx) = .tuple #[.bool false] := getD_put hlt
    refine spec_op hop1 rfl (v := .bool false) (w' := w) (by simp [execOp, heN, Instr.extract]) ?_
    show (Code.seq (.cond (.tmp e.ok) .skip (.exit e.bid)) (.block e.bid2 (.seq (.region e.rid2 o3 false) r))).wp P (Exit.then K (Exit.inBlock e.bid Q)) _ w
    have heT : RelE ρ1 S1 s1.H w (putE (putE s1.E (some e.nx) (.tup [.d (.bool false)])) (some e.ok) (.d (.bool false))) ((a.put (some e.nx) (.tuple #[.bool false])).put (some e.ok) (.bool false)).tmps :=
      (he1.put (a := a) (some e.nx) (tup_rel ⟨rfl, fun i x hx => by
        match i, hx with
        | 0, hx => simp at hx; subst hx; exact ⟨_, rfl, .d _ _ (.bool false)⟩
        | i + 1, hx => simp at hx⟩)).put (some e.ok) (.d _ _ (.bool false))
    refine wp_seq (wp_cond (t := false) (getD_put (by simpa [Act.put] using hlt2)) ?_)
    refine wp_exit ?_
    show (if e.bid = e.bid then Q .normal _ w else Q (.exit e.bid) _ w)
    rw [if_pos rfl]
    obtain ⟨ρ2, S2, st2, he2⟩ := trim_sound (s := { s1 with E := putE (putE s1.E (some e.nx) (.tup [.d (.bool false)])) (some e.ok) (.d (.bool false)) }) (a := (a.put (some e.nx) (.tuple #[.bool false])).put (some e.ok) (.bool false)) e.endM st01.inv heT
    exact hn .norm _ hf ρ2 S2 w _ ((st01.trans st2).weaken fun l h => h.elim id (hN l)) he2 hdef
  · -- one has come
    have hxm : x ∈ (leftL (ents.toList.zip es) seen).map (·.1) := by rw [hleft]; exact hx
    obtain ⟨p, hp, rfl⟩ := List.mem_map.1 hxm
    have hpL : p ∈ ents.toList.zip es := (List.mem_filter.1 hp).1
    obtain ⟨hk1, hk2, hkr, hvr⟩ := hents p hpL
    have hsame : w1.heap = w.heap := by rcases hw1 with rfl | rfl <;> rfl
    have hout1 : Outer w w1 := by rcases hw1 with rfl | rfl <;> exact ⟨rfl, rfl, rfl, by first | exact Nat.le_refl _ | exact Nat.le_add_right _ _⟩
    have hitlt := lt_of_get hd1.iter
    generalize hw2 : Go.ChangeMaps.setBlock w1 it (.mapIter (some bl) clk (seen.push p.1.born) clk) = w2 at hrunN
    have hoth : ∀ b, b ≠ it → w2.heap[b]? = w.heap[b]? := fun b hb => by
      rw [← hw2]
      show (w1.heap.setIfInBounds it _)[b]? = _
      rw [Array.getElem?_setIfInBounds_ne (fun q => hb q.symm), hsame]
    have hself : w2.heap[it]? = some (.mapIter (some bl) clk (seen.push p.1.born) clk) := by
      rw [← hw2]
      show (w1.heap.setIfInBounds it _)[it]? = _
      rw [Array.getElem?_setIfInBounds_self, if_pos (by rw [hsame]; exact hitlt)]
    have hnotc : ∀ cs T fr, w.heap[it]? ≠ some (.cells cs T fr) := fun cs T fr h => by rw [hd1.iter] at h; cases h
    have hsize : w2.heap.size = w.heap.size := by
      rw [← hw2]
      show (w1.heap.setIfInBounds it _).size = _
      rw [Array.size_setIfInBounds, hsame]
    have hblne : bl ≠ it := fun e => by have := hd1.map; rw [e, hd1.iter] at this; cases this
    have st02 : Step N' ρ0 S0 H0 w0 ρ1 S1 s1.H w2 := step_aside st01 it hit0 (fun m hm => (hd1.live m hm).2) hd1.nS hoth hnotc hsize (by rw [← hw2]; exact hout1)
    have he2 : RelE ρ1 S1 s1.H w2 s1.E a.tmps := relE_aside he1 it hd1.nS hoth hnotc
    have hd2 : Held bl it clk ents (seen.push p.1.born) ρ1 S1 s1.H w2 := ⟨hd1.live, hd1.nS, by rw [hoth bl hblne]; exact hd1.map, hself, hd1.pin⟩
    have hkey : RelA ρ1 S1 s1.H w2 p.2.1 p.1.key := hkr.step st02 hi0 (by rw [hk1]; simp)
    have hvalr : RelA ρ1 S1 s1.H w2 p.2.2 p.1.val := hvr.step st02 hi0 (by rw [hk2]; simp)
    refine spec_op hop0 rfl (v := .tuple #[.bool true, p.1.key, p.1.val]) (w' := w2) (by simp only [execOp, heval, Sem.run_bind, hrunN, Result.andThen_ok, Sem.run_pure]) ?_
    have heN : (a.put (some e.nx) (.tuple #[.bool true, p.1.key, p.1.val])).eval (.tmp e.nx) = .tuple #[.bool true, p.1.key, p.1.val] := getD_put hlt
    refine spec_op hop1 rfl (v := .bool true) (w' := w2) (by simp [execOp, heN, Instr.extract]) ?_
    show (Code.seq (.cond (.tmp e.ok) .skip (.exit e.bid)) (.block e.bid2 (.seq (.region e.rid2 o3 false) r))).wp P (Exit.then K (Exit.inBlock e.bid Q)) _ w2
    generalize ha2 : (a.put (some e.nx) (.tuple #[.bool true, p.1.key, p.1.val])).put (some e.ok) (.bool true) = a2
    have hdef2 : a2.defers = d0 := by rw [← ha2]; exact hdef
    have heT : RelE ρ1 S1 s1.H w2 (putE (putE s1.E (some e.nx) (.tup [.d (.bool true), p.2.1, p.2.2])) (some e.ok) (.d (.bool true))) a2.tmps := by
      rw [← ha2]
      exact (he2.put (a := a) (some e.nx) (tup_rel ⟨rfl, fun i x hx => by
        match i, hx with
        | 0, hx => simp at hx; subst hx; exact ⟨_, rfl, .d _ _ (.bool true)⟩
        | 1, hx => simp at hx; subst hx; exact ⟨_, rfl, hkey⟩
        | 2, hx => simp at hx; subst hx; exact ⟨_, rfl, hvalr⟩
        | i + 3, hx => simp at hx⟩)).put (some e.ok) (.d _ _ (.bool true))
    refine wp_seq (wp_cond (t := true) (by rw [← ha2]; exact getD_put (by simpa [Act.put] using hlt2)) ?_)
    simp only [if_true]
    refine wp_skip ?_
    show (Code.block e.bid2 (.seq (.region e.rid2 o3 false) r)).wp P (Exit.then K (Exit.inBlock e.bid Q)) a2 w2
    -- the round
    have hround : ∃ ex s3, roundR (XL own retOwn ext code) e p.2 s1 = some (ex, s3) ∧ (∀ π, π.Perm ((leftL (ents.toList.zip es) (seen.push p.1.born)).map (·.2)) → ∃ ex' s4, nextR e (eachR (XL own retOwn ext code) e π) (some (ex, s3)) = some (ex', s4) ∧ F ex' s4) := by
      have hperm : ∀ π, π.Perm ((leftL (ents.toList.zip es) (seen.push p.1.born)).map (·.2)) → (p.2 :: π).Perm ((leftL (ents.toList.zip es) seen).map (·.2)) := fun π hπ =>
        (List.Perm.cons _ hπ).trans ((leftL_push hnodup hp).map (Prod.snd)).symm
      cases hR : roundR (XL own retOwn ext code) e p.2 s1 with
      | none =>
        obtain ⟨ex, s4, hr, _⟩ := hrun' _ (hperm _ (.refl _))
        simp only [hR, nextR] at hr; cases hr
      | some q =>
        obtain ⟨ex, s3⟩ := q
        refine ⟨ex, s3, rfl, fun π hπ => ?_⟩
        obtain ⟨ex', s4, hr, hf⟩ := hrun' _ (hperm π hπ)
        simp only [hR] at hr
        exact ⟨ex', s4, hr, hf⟩
    obtain ⟨ex, s3, hR, hrest'⟩ := hround
    unfold roundR at hR
    simp only at hR
    obtain ⟨ρ3, S3, st3, he3⟩ := trim_sound (s := { s1 with E := putE (putE s1.E (some e.nx) (.tup [.d (.bool true), p.2.1, p.2.2])) (some e.ok) (.d (.bool true)) }) (a := a2) e.bodyM st02.inv heT
    have hd3 := hd2.step st3
    have st03 := (st02.trans st3).weaken (N' := N') fun l h => h.elim id (hN l)
    generalize trim e.bodyM { s1 with E := putE (putE s1.E (some e.nx) (.tup [.d (.bool true), p.2.1, p.2.2])) (some e.ok) (.d (.bool true)) } = t1 at *
    split at hR
    · rename_i hin3
      have hval3 := inLoop_at hin3 hd3 he3
      split at hR
      · cases hR
      · rename_i t2 hops
        refine wp_block (wp_seq (wp_region ?_))
        have hsz3 : o3.size = post.length + 1 := by rw [← Array.length_toList, ho3]; rfl
        have hop3 : o3[0]? = some ⟨some e.en, .entry (.tmp e.it), y4.1, y4.2.1, y4.2.2, none⟩ := by rw [← Array.getElem?_toList, ho3]; rfl
        rw [hsz3, List.range_eq_range', List.range'_succ]
        have heval3 : a2.eval (.tmp e.it) = .pointer (some ⟨it, 0, none⟩) := hval3
        have hmem : p.1 ∈ ents.toList := by rw [← born_zip hlen]; exact List.mem_map_of_mem hpL
        have hent := run_entry_at (P := P) w2 it bl clk seen ents clk p.1 hself hd2.map hmem hborn.1
        refine spec_op hop3 rfl (v := .tuple #[p.1.key, p.1.val]) (w' := w2) (by simp only [execOp, heval3, Sem.run_bind, hent, Result.andThen_ok, Sem.run_pure]) ?_
        have hkey3 : RelA ρ3 S3 t1.H w2 p.2.1 p.1.key := hkey.step st3 st02.inv (by rw [hk1]; simp)
        have hval3' : RelA ρ3 S3 t1.H w2 p.2.2 p.1.val := hvalr.step st3 st02.inv (by rw [hk2]; simp)
        have he4 : RelE ρ3 S3 t1.H w2 (putE t1.E (some e.en) (.tup [p.2.1, p.2.2])) (a2.put (some e.en) (.tuple #[p.1.key, p.1.val])).tmps :=
          he3.put (a := a2) (some e.en) (tup_rel ⟨rfl, fun i x hx => by
            match i, hx with
            | 0, hx => simp at hx; subst hx; exact ⟨_, rfl, hkey3⟩
            | 1, hx => simp at hx; subst hx; exact ⟨_, rfl, hval3'⟩
            | i + 2, hx => simp at hx⟩)
        rw [hops2] at hops
        have hK := aops_soundK (P := P) (Q := Exit.then (r.wp P (Exit.inBlock e.bid2 (Exit.then K (Exit.inBlock e.bid Q)))) (Exit.inBlock e.bid2 (Exit.then K (Exit.inBlock e.bid Q)))) (tail := []) hC (ops := o3) (bs := #[]) post 1 { t1 with E := putE t1.E (some e.en) (.tup [p.2.1, p.2.2]) } t2 ρ3 S3 w2 (a2.put (some e.en) (.tuple #[p.1.key, p.1.val]))
          (fun k o hk => by rw [← Array.getElem?_toList, ho3, Nat.add_comm]; exact hk) hops st3.inv he4 (fun ρ4 S4 w4 a4 st4 he5 hdef4 => by
            show r.wp P (Exit.inBlock e.bid2 (Exit.then K (Exit.inBlock e.bid Q))) a4 w4
            cases hex : exL (XL own retOwn ext code) e.rest t2 with
            | none => rw [hex] at hR; simp [blkO] at hR
            | some q =>
              obtain ⟨ex1, t3⟩ := q
              refine exL_sound hext hcode hrest hex st4.inv he5 fun ρ5 S5 w5 a5 st5 he6 hdef5 => ?_
              have st45 := (st4.trans st5).weaken (N' := Big) fun _ h => h.elim id id
              have hd5 := hd3.step st45
              have st05 := (st03.trans st45).weaken (N' := N') fun l h => h.elim id (hN l)
              have hd05 : a5.defers = d0 := hdef5.trans (hdef4.trans hdef2)
              rw [hex] at hR
              have norm : ex = .norm → s3 = t3 → K a5 w5 := by
                rintro rfl rfl
                refine next p hp s3 (fun π hπ => ?_) ρ5 S5 w5 a5 st05 he6 hd5 hd05
                obtain ⟨ex', s4, hr, hf⟩ := hrest' π hπ
                exact ⟨ex', s4, hr, hf⟩
              obtain ⟨ex', s4, hr, hf⟩ := hrest' _ (.refl _)
              cases ex1 with
              | norm =>
                simp only [blkO] at hR
                cases hR
                exact norm rfl rfl
              | exit j =>
                simp only [blkO] at hR
                show (if j = e.bid2 then Exit.then K (Exit.inBlock e.bid Q) .normal a5 w5 else Exit.then K (Exit.inBlock e.bid Q) (.exit j) a5 w5)
                split at hR
                · rename_i hj
                  rw [if_pos hj]
                  cases hR
                  exact norm rfl rfl
                · rename_i hj
                  rw [if_neg hj]
                  cases hR
                  show (if j = e.bid then Q .normal a5 w5 else Q (.exit j) a5 w5)
                  simp only [nextR] at hr
                  split at hr
                  · rename_i hj2
                    cases hr
                    rw [if_pos hj2]
                    exact hn .norm _ hf ρ5 S5 w5 a5 st05 he6 hd05
                  · rename_i hj2
                    cases hr
                    rw [if_neg hj2]
                    exact hn (.exit j) _ hf ρ5 S5 w5 a5 st05 he6 hd05
              | ret =>
                simp only [blkO] at hR
                cases hR
                simp only [nextR] at hr
                cases hr
                exact hn .ret _ hf ρ5 S5 w5 a5 st05 he6 hd05
              | goto j =>
                simp only [blkO] at hR
                cases hR
                simp only [nextR] at hr
                cases hr)
        simpa using hK
    · cases hR

theorem each_rounds (hext : Good P ext) (hcode : ∀ f fn, code f = some fn → Shows P f fn) {e : Each} {i2 : Nat} {o2 o3 : Array Oper} {r : Code} {post : List Oper} {y2 y3 y4 : TypeId × String × Array Edge}
    (ho2 : o2.toList = [⟨some e.nx, .next (.tmp e.it) false, y2.1, y2.2.1, y2.2.2, none⟩, ⟨some e.ok, .extract (.tmp e.nx) 0, y3.1, y3.2.1, y3.2.2, none⟩])
    (ho3 : o3.toList = ⟨some e.en, .entry (.tmp e.it), y4.1, y4.2.1, y4.2.2, none⟩ :: post) (hops2 : e.ops2 = cvOpers P o3 false #[] post 1) (hrest : bare e.rest = bare (cvCode P r))
    {N' : Nat → Prop} (hN : ∀ l, Big l → N' l) {ρ0 : Nat → Nat} {S0 : Nat → Prop} {H0 : Heap} {w0 : World} (hi0 : Inv ρ0 S0 H0 w0) {bl it clk : Nat} {ents : Array MapEntry} {es : List (AV × AV)} (hlen : ents.size = es.length) (hborn : Born ents clk) (hit0 : w0.heap.size ≤ it)
    (hents : ∀ p ∈ ents.toList.zip es, refs p.2.1 = [] ∧ refs p.2.2 = [] ∧ RelA ρ0 S0 H0 w0 p.2.1 p.1.key ∧ RelA ρ0 S0 H0 w0 p.2.2 p.1.val)
    {F : AExit → St → Prop} {Q : Exit → Act → World → Prop} {d0 : List Deferred}
    (hn : ∀ ex s4, F ex s4 → ∀ ρ' S' w' (a' : Act), Step N' ρ0 S0 H0 w0 ρ' S' s4.H w' → RelE ρ' S' s4.H w' s4.E a'.tmps → a'.defers = d0 → Q (exitOf ex) a' w') :
    ∀ (n : Nat) (seen : Array Nat) (s : St) (ρ : Nat → Nat) (S : Nat → Prop) (w : World) (a : Act), (leftL (ents.toList.zip es) seen).length = n →
      (∀ π, π.Perm ((leftL (ents.toList.zip es) seen).map (·.2)) → ∃ ex s4, eachR (XL own retOwn ext code) e π s = some (ex, s4) ∧ F ex s4) →
      Step N' ρ0 S0 H0 w0 ρ S s.H w → RelE ρ S s.H w s.E a.tmps → Held bl it clk ents seen ρ S s.H w → a.defers = d0 →
      Code.rounds P (.seq (.region i2 o2 false) (.seq (.cond (.tmp e.ok) .skip (.exit e.bid)) (.block e.bid2 (.seq (.region e.rid2 o3 false) r)))) (Exit.inBlock e.bid Q) (n + 1) a w := by
  have hnodup : ((ents.toList.zip es).map fun p => p.1.born).Nodup := by
    have h1 := hborn.1
    rw [← born_zip hlen, List.map_map] at h1
    exact h1
  intro n
  induction n with
  | zero =>
    intro seen s ρ S w a hl hrun st he hd hdef
    rw [rounds_succ]
    refine each_round hext hcode ho2 ho3 hops2 hrest hN hi0 hlen hborn hit0 hents hn seen s ρ S w a hrun st he hd hdef _ fun p hp => ?_
    rw [List.length_eq_zero_iff.1 hl] at hp; cases hp
  | succ n ih =>
    intro seen s ρ S w a hl hrun st he hd hdef
    rw [rounds_succ]
    refine each_round hext hcode ho2 ho3 hops2 hrest hN hi0 hlen hborn hit0 hents hn seen s ρ S w a hrun st he hd hdef _ fun p hp s3 hrun3 ρ3 S3 w3 a3 st3 he3 hd3 hdef3 => ?_
    refine ih _ s3 ρ3 S3 w3 a3 ?_ hrun3 st3 he3 hd3 hdef3
    have := (leftL_push hnodup hp).length_eq
    simp at this; omega

theorem each_sound (hext : Good P ext) (hcode : ∀ f fn, code f = some fn → Shows P f fn) {c : Code} {e : Each} (hc : eachOf P c = some (bareE e)) {s : St} {F : AExit → St → Prop} (h : eachP (XL own retOwn ext code) e s F)
    {ρ : Nat → Nat} {S : Nat → Prop} {w : World} {a : Act} {Q : Exit → Act → World → Prop} (hi : Inv ρ S s.H w) (he : RelE ρ S s.H w s.E a.tmps)
    (hn : ∀ ex s', F ex s' → ∀ ρ' S' w' (a' : Act), Step Big ρ S s.H w ρ' S' s'.H w' → RelE ρ' S' s'.H w' s'.E a'.tmps → a'.defers = a.defers → Q (exitOf ex) a' w') : c.wp P Q a w := by
  have hC : Good P (XL own retOwn ext code).C := RUN_good own retOwn ext code hext hcode
  obtain ⟨i2, o1, o2, o3, r, t, x, pre, post, y1, y2, y3, y4, rfl, ho1, ho2, ho3, hmt, hx, hops, hops2, hrest⟩ := eachOf_spec hc
  obtain ⟨s1, l, ag, ks, es, h1, h2, h3, h4, hfr, h5, h6⟩ := h
  obtain ⟨hfrE, hfrO⟩ := fresh_spec hfr itN (by simp)
  have hsz1 : o1.size = pre.length + 1 := by rw [← Array.length_toList, ho1]; simp
  refine wp_seq (wp_region ?_)
  rw [hsz1, List.range_eq_range', List.range'_concat]
  rw [show e.ops = _ from hops] at h1
  refine aops_soundK (P := P) hC (ops := o1) (bs := #[]) pre 0 s s1 ρ S w a (fun k o hk => ?_) h1 hi he fun ρ1 S1 w1 a1 st1 he1 hdef1 => ?_
  · rw [← Array.getElem?_toList, ho1, Nat.zero_add, List.getElem?_append_left (List.getElem?_eq_some_iff.1 hk).1]; exact hk
  have hop1 : o1[0 + 1 * pre.length]? = some ⟨some e.it, .range t x, y1.1, y1.2.1, y1.2.2, none⟩ := by rw [← Array.getElem?_toList, ho1]; simp; rfl
  -- the map
  obtain ⟨ents, clk, hblk, ⟨hlen, hborn⟩, hents⟩ := st1.inv.obj l _ h3
  have hxv : a1.eval x = .map (some (ρ1 l)) := by
    have hr := (cvO_rel he1 hx).rel
    rw [show (bareE e).x = e.x from rfl, h2] at hr
    generalize a1.eval x = v at hr
    cases hr with
    | map _ _ _ hm => exact hm ⟨ag, ks, es, h3⟩
  have hut : ∃ k v, P.underlying t = some (.map k v) := by
    unfold isMapT at hmt
    split at hmt
    · rename_i k v hu; exact ⟨k, v, hu⟩
    · cases hmt
  obtain ⟨tk, tv, hut⟩ := hut
  have hlt := lt_of_get hblk
  refine spec_op hop1 rfl (v := .pointer (some ⟨w1.heap.size, 0, none⟩)) (w' := w1.alloc (.mapIter (some (ρ1 l)) clk #[] clk)) (by
    simp only [execOp, hxv, Sem.run_bind, run_range_map w1 t tk tv (ρ1 l) ents clk hut hblk, Result.andThen_ok, Sem.run_pure]) ?_
  show (Code.block e.bid (.loop (.seq (.region i2 o2 false) (.seq (.cond (.tmp e.ok) .skip (.exit e.bid)) (.block e.bid2 (.seq (.region e.rid2 o3 false) r)))))).wp P Q (a1.put (some e.it) (.pointer (some ⟨w1.heap.size, 0, none⟩))) (w1.alloc (.mapIter (some (ρ1 l)) clk #[] clk))
  -- what is put aside
  have sub0 : ∀ k, hget (looseH l s1.H) k = hget s1.H k ∨ hget (looseH l s1.H) k = none := fun k => by rw [hget_loose]; split <;> simp
  have stL : Step Big ρ1 S1 s1.H w1 ρ1 S1 (looseH l s1.H) w1 := step_sub st1.inv sub0
  have hi0 := stL.inv
  have hlivel : Live s1.H l := ⟨_, h3, rfl⟩
  have hlive0 : ∀ m, Live (looseH l s1.H) m → ρ1 m ≠ ρ1 l := fun m ⟨o, ho, hlo⟩ e => by
    rw [hget_loose] at ho
    split at ho
    · rename_i hc; exact hc.2 (st1.inv.inj m l ⟨o, ho, hlo⟩ hlivel e)
    · cases ho
  have stI : Step (fun k => k = itN) ρ1 S1 (looseH l s1.H) w1 (upd ρ1 itN w1.heap.size) S1 (hset (looseH l s1.H) itN (.fz 1 [])) (w1.alloc (.mapIter (some (ρ1 l)) clk #[] clk)) := by
    refine step_push hi0 itN (.fz 1 []) (.mapIter (some (ρ1 l)) clk #[] clk) _ rfl rfl (fun m p hm _ => ?_) (fun _ _ _ => ⟨Nat.one_pos, fun h => absurd rfl h⟩)
    rw [hget_loose] at hm
    split at hm
    · rename_i hc
      exact hfrO m p hm (by unfold itN; omega)
    · cases hm
  have hN : ∀ k, Big k → Big k ∨ k = itN := fun _ h => .inl h
  have stLI : Step (fun k => Big k ∨ k = itN) ρ1 S1 (looseH l s1.H) w1 (upd ρ1 itN w1.heap.size) S1 (hset (looseH l s1.H) itN (.fz 1 [])) (w1.alloc (.mapIter (some (ρ1 l)) clk #[] clk)) := stI.weaken fun _ h => .inr h
  have heL : RelE ρ1 S1 (looseH l s1.H) w1 s1.E a1.tmps := ⟨he1.size, fun i => (he1.at_ i).keep (fun _ h => h) (fun _ _ => rfl) (.refl w1) fun m _ => by
    rcases sub0 m with e | e
    · exact comp_same e rfl
    · exact comp_dead e⟩
  have heI : RelE (upd ρ1 itN w1.heap.size) S1 (hset (looseH l s1.H) itN (.fz 1 [])) (w1.alloc (.mapIter (some (ρ1 l)) clk #[] clk)) s1.E a1.tmps :=
    heL.step stI hi0 fun k hk e => hfrE (e ▸ hk)
  have heP : RelE (upd ρ1 itN w1.heap.size) S1 (hset (looseH l s1.H) itN (.fz 1 [])) (w1.alloc (.mapIter (some (ρ1 l)) clk #[] clk)) (putE s1.E (some e.it) (.pa itN 0 0 0)) (a1.put (some e.it) (.pointer (some ⟨w1.heap.size, 0, none⟩))).tmps := by
    refine heI.put (a := a1) (some e.it) (.pa _ _ _ _ _ trivial fun sz m hm => ⟨Nat.zero_le _, fun _ => ?_⟩)
    simp [upd]
  have hrefs : ∀ k v, (k, v) ∈ es → refs k = [] ∧ refs v = [] := fun k v hkv => by
    obtain ⟨i, hi⟩ := List.getElem?_of_mem hkv
    obtain ⟨_, _, hk, hv, _⟩ := hents i k v hi
    exact ⟨keyOK_refs hk, hv⟩
  have hentsL : ∀ p ∈ ents.toList.zip es, refs p.2.1 = [] ∧ refs p.2.2 = [] ∧ RelA ρ1 S1 (looseH l s1.H) w1 p.2.1 p.1.key ∧ RelA ρ1 S1 (looseH l s1.H) w1 p.2.2 p.1.val := by
    rintro ⟨en, k, v⟩ hp
    obtain ⟨i, hi⟩ := List.getElem?_of_mem hp
    rw [List.getElem?_zip_eq_some] at hi
    obtain ⟨hi1, hi2⟩ := hi
    obtain ⟨en', he', hk, hv, _, hr1, hr2⟩ := hents i k v hi2
    have : en' = en := by
      simp only at hi1
      rw [Array.getElem?_toList] at hi1
      rw [hi1] at he'; exact (Option.some.inj he').symm
    subst this
    exact ⟨keyOK_refs hk, hv, hr1.keep (fun _ h => h) (fun _ _ => rfl) (.refl w1) (by rw [keyOK_refs hk]; simp), hr2.keep (fun _ h => h) (fun _ _ => rfl) (.refl w1) (by rw [hv]; simp)⟩
  have hall : leftL (ents.toList.zip es) #[] = ents.toList.zip es := by
    unfold leftL
    rw [List.filter_eq_self]; simp
  have hsnd : (ents.toList.zip es).map (·.2) = es := List.map_snd_zip (by simp [hlen])
  refine wp_block (wp_loop_rounds (es.length + 1) ?_)
  refine each_rounds (ext := ext) (own := own) (retOwn := retOwn) (code := code) (e := e) (es := es) (bl := ρ1 l) hext hcode ho2 ho3 hops2 (show bare e.rest = _ from hrest) hN hi0 hlen hborn (Nat.le_refl _) hentsL
    (F := fun ex s4 => tight { s4 with H := highH s4.H } = true ∧ F ex { s4 with H := callerH s1.H ++ highH s4.H }) (d0 := a.defers) (fun ex s4 hF ρ' S' w' a' st' he' hd' => ?_)
    es.length #[] { E := putE s1.E (some e.it) (.pa itN 0 0 0), H := hset (looseH l s1.H) itN (.fz 1 []) } _ _ _ _ (by rw [hall]; simp [hlen]) (fun π hπ => ?_) stLI heP ⟨fun m hm => ?_, fun hs => ?_, ?_, ?_, fun _ => upd_self ..⟩ hdef1
  · obtain ⟨hF1, hF2⟩ := hF
    have stH : Step Big ρ' S' s4.H w' ρ' S' (highH s4.H) w' := step_sub st'.inv fun k => by rw [hget_high]; split <;> simp
    have heH : RelE ρ' S' (highH s4.H) w' s4.E a'.tmps := ⟨he'.size, fun i => (he'.at_ i).keep (fun _ h => h) (fun _ _ => rfl) (.refl w') fun m _ => by
      by_cases hm : 10000 ≤ m
      · exact comp_same (by rw [hget_high, if_pos hm]) rfl
      · exact comp_dead (by rw [hget_high, if_neg hm])⟩
    obtain ⟨g1, g2⟩ := attach (s' := { s4 with H := highH s4.H }) st1.inv hi0 (fun k o ho => by
      rw [hget_loose] at ho
      split at ho
      · rename_i hc; exact ⟨hc.1, ho⟩
      · cases ho) (st'.trans stH) heH hF1 h5
    exact hn ex _ hF2 _ S' w' a' ((st1.trans g1).weaken fun _ h => h.elim id id) g2 hd'
  · rw [hall, hsnd] at hπ
    obtain ⟨ex, s4, hr, hF⟩ := h6 π hπ
    exact ⟨ex, s4, hr, hF⟩
  · have : m ≠ itN ∧ Live (looseH l s1.H) m := by
      rcases live_hset hm with rfl | q
      · obtain ⟨o, ho, hlo⟩ := hm
        rw [hget_set_self] at ho; cases ho; simp [isLive] at hlo
      · exact q
    rw [upd_ne _ _ this.1]
    exact ⟨hlive0 m this.2, fun e => by have := hi0.live_lt this.2; omega⟩
  · exact absurd (hi0.dom _ hs) (Nat.lt_irrefl _)
  · show (w1.heap.push _)[ρ1 l]? = _
    rw [Array.getElem?_push_lt hlt, ← Array.getElem?_eq_getElem hlt]; exact hblk
  · exact heap_alloc_new w1 _

/-! ### a function with such a loop -/
inductive RCode where
  | code (c : ACode)
  | seq (a b : RCode)
  | mask (m : Mask) (a : RCode)
  | each (e : Each)
  | bump (b : Bump)

structure RFunc where
  ntmps : Nat
  results : List ARes
  body : RCode

def rbare : RCode → RCode
  | .code c => .code (bare c)
  | .seq a b => .seq (rbare a) (rbare b)
  | .mask _ a => rbare a
  | .each e => .each (bareE e)
  | .bump b => .bump b

/-- the program's code, as that of a function with such a loop -/
def rcv (P : Program) : RCode → Code → Option RCode
  | .code _, c => some (.code (bare (cvCode P c)))
  | .seq a b, .seq x y => match rcv P a x, rcv P b y with
    | some p, some q => some (.seq p q)
    | _, _ => none
  | .mask _ a, c => rcv P a c
  | .each _, c => (eachOf P c).map .each
  | .bump b, .region _ ops true => if bumpOK P b ops then some (.bump b) else none
  | _, _ => none

def RShows (P : Program) (f : Nat) (fn : RFunc) : Prop :=
  ∃ F c, P.funcs[f]? = some F ∧ F.body = some c ∧ rcv P fn.body c = some (rbare fn.body) ∧ fn.ntmps = F.ntmps ∧ fn.results = F.results.toList.map (cvRes P) ∧
    (F.results.toList.all fun | .cell _ t => (aggOf P t).isSome && szOf P t != 0 | _ => true) = true ∧ (F.name == "runtime.NumGoroutine") = false

def aw (X : Ctx) : RCode → St → (AExit → St → Prop) → Prop
  | .code c, s, Q => ∃ e s', exL X c s = some (e, s') ∧ Q e s'
  | .seq a b, s, Q => aw X a s fun e s' => (e = .norm → aw X b s' Q) ∧ (e ≠ .norm → Q e s')
  | .mask m a, s, Q => aw X a (trim m s) Q
  | .each e, s, Q => eachP X e s Q
  | .bump b, s, Q => ∃ s', bumpS X b s = some s' ∧ Q .norm s'

theorem aw_and {X : Ctx} : ∀ {c : RCode} {s : St} {Q Q' : AExit → St → Prop}, aw X c s Q → aw X c s Q' → aw X c s fun e s => Q e s ∧ Q' e s
  | .code c, s, Q, Q', ⟨e, s', h1, h2⟩, ⟨e', s'', h3, h4⟩ => by
    rw [h1] at h3; cases h3
    exact ⟨e, s', h1, h2, h4⟩
  | .seq a b, s, Q, Q', h, h' => by
    have := aw_and (c := a) h h'
    exact aw_mono a (fun e s' ⟨⟨h1, h2⟩, h3, h4⟩ => ⟨fun he => aw_and (c := b) (h1 he) (h3 he), fun he => ⟨h2 he, h4 he⟩⟩) this
  | .mask m a, s, Q, Q', h, h' => aw_and (c := a) h h'
  | .each e, s, Q, Q', ⟨s1, l, ag, ks, es, h1, h2, h3, h4, h5, h6, h7⟩, ⟨s1', l', ag', ks', es', h1', h2', h3', h4', h5', h6', h7'⟩ => by
    rw [h1] at h1'; cases h1'
    rw [h2] at h2'; cases h2'
    rw [h3] at h3'; cases h3'
    refine ⟨s1, l, ag, ks, es, h1, h2, h3, h4, h5, h6, fun π hπ => ?_⟩
    obtain ⟨ex, s4, g1, g2, g3⟩ := h7 π hπ
    obtain ⟨ex', s4', g1', _, g3'⟩ := h7' π hπ
    rw [g1] at g1'; cases g1'
    exact ⟨ex, s4, g1, g2, g3, g3'⟩
  | .bump b, s, Q, Q', ⟨s1, h1, h2⟩, ⟨s2, h3, h4⟩ => by
    rw [h1] at h3; cases h3
    exact ⟨s1, h1, h2, h4⟩
where
  aw_mono : ∀ (c : RCode) {s : St} {Q Q' : AExit → St → Prop}, (∀ e s, Q e s → Q' e s) → aw X c s Q → aw X c s Q'
  | .code c, s, Q, Q', hq, ⟨e, s', h1, h2⟩ => ⟨e, s', h1, hq _ _ h2⟩
  | .seq a b, s, Q, Q', hq, h => aw_mono a (fun e s' ⟨h1, h2⟩ => ⟨fun he => aw_mono b hq (h1 he), fun he => hq _ _ (h2 he)⟩) h
  | .mask m a, s, Q, Q', hq, h => aw_mono a hq h
  | .each e, s, Q, Q', hq, ⟨s1, l, ag, ks, es, h1, h2, h3, h4, h5, h6, h7⟩ => ⟨s1, l, ag, ks, es, h1, h2, h3, h4, h5, h6, fun π hπ => by
      obtain ⟨ex, s4, g1, g2, g3⟩ := h7 π hπ
      exact ⟨ex, s4, g1, g2, hq _ _ g3⟩⟩
  | .bump b, s, Q, Q', hq, ⟨s1, h1, h2⟩ => ⟨s1, h1, hq _ _ h2⟩

theorem aw_ex {X : Ctx} : ∀ {c : RCode} {s : St} {Q : AExit → St → Prop}, aw X c s Q → ∃ e s', Q e s'
  | .code c, s, Q, ⟨e, s', h1, h2⟩ => ⟨e, s', h2⟩
  | .seq a b, s, Q, h => by
    obtain ⟨e, s', h1, h2⟩ := aw_ex (c := a) h
    by_cases he : e = .norm
    · exact aw_ex (c := b) (h1 he)
    · exact ⟨e, s', h2 he⟩
  | .mask m a, s, Q, h => aw_ex (c := a) h
  | .each e, s, Q, ⟨s1, l, ag, ks, es, h1, h2, h3, h4, h5, h6, h7⟩ => by
    obtain ⟨ex, s4, _, _, g3⟩ := h7 es (.refl _)
    exact ⟨_, _, g3⟩
  | .bump b, s, Q, ⟨s1, h1, h2⟩ => ⟨_, _, h2⟩

theorem aw_sound (hext : Good P ext) (hcode : ∀ f fn, code f = some fn → Shows P f fn) : ∀ (rc : RCode) (c : Code), rcv P rc c = some (rbare rc) → ∀ {s : St} {F : AExit → St → Prop}, aw (XL own retOwn ext code) rc s F →
    ∀ {ρ : Nat → Nat} {S : Nat → Prop} {w : World} {a : Act} {Q : Exit → Act → World → Prop}, Inv ρ S s.H w → RelE ρ S s.H w s.E a.tmps →
    (∀ ex s', F ex s' → ∀ ρ' S' w' (a' : Act), Step Big ρ S s.H w ρ' S' s'.H w' → RelE ρ' S' s'.H w' s'.E a'.tmps → a'.defers = a.defers → Q (exitOf ex) a' w') → c.wp P Q a w
  | .code ac, c, hc, s, F, ⟨e, s', h1, h2⟩, ρ, S, w, a, Q, hi, he, hn => by
    simp only [rcv, rbare, Option.some.injEq, RCode.code.injEq] at hc
    exact exL_sound hext hcode hc.symm h1 hi he fun ρ' S' w' a' st he' hd => hn e s' h2 ρ' S' w' a' st he' hd
  | .seq x y, c, hc, s, F, h, ρ, S, w, a, Q, hi, he, hn => by
    cases c with
    | seq cx cy =>
      simp only [rcv, rbare] at hc
      split at hc
      · rename_i p q hp hq
        cases hc
        refine wp_seq (aw_sound hext hcode x cx hp h hi he fun ex s' ⟨h1, h2⟩ ρ1 S1 w1 a1 st1 he1 hd1 => ?_)
        by_cases hex : ex = .norm
        · subst hex
          exact aw_sound hext hcode y cy hq (h1 rfl) st1.inv he1 fun ex s' hF ρ' S' w' a' st he' hd => hn ex s' hF ρ' S' w' a' ((st1.trans st).weaken fun _ h => h.elim id id) he' (hd.trans hd1)
        · have := hn ex s' (h2 hex) ρ1 S1 w1 a1 st1 he1 hd1
          cases ex with
          | norm => exact absurd rfl hex
          | exit id => exact this
          | ret => exact this
          | goto l => exact this
      · cases hc
    | _ => simp [rcv] at hc
  | .mask m x, c, hc, s, F, h, ρ, S, w, a, Q, hi, he, hn => by
    obtain ⟨ρ0, S0, st0, he0⟩ := trim_sound m hi he
    exact aw_sound hext hcode x c (by simpa only [rcv, rbare] using hc) h st0.inv he0 fun ex s' hF ρ' S' w' a' st he' hd => hn ex s' hF ρ' S' w' a' ((st0.trans st).weaken fun _ h => h.elim id id) he' hd
  | .each e, c, hc, s, F, h, ρ, S, w, a, Q, hi, he, hn => by
    simp only [rcv, rbare] at hc
    obtain ⟨e', he', hee⟩ := Option.map_eq_some_iff.1 hc
    cases hee
    exact each_sound hext hcode he' h hi he hn
  | .bump b, c, hc, s, F, ⟨s1, h1, h2⟩, ρ, S, w, a, Q, hi, he, hn => by
    cases c with
    | region rid ops dr =>
      cases dr with
      | true =>
        simp only [rcv] at hc
        split at hc
        · rename_i hok
          exact bump_sound (X := XL own retOwn ext code) (RUN_good own retOwn ext code hext hcode) hok h1 hi he (fun ρ' S' w' a' st he' hd => hn .norm s1 h2 ρ' S' w' a' st he' hd) rid
        · cases hc
      | false => simp [rcv] at hc
    | _ => simp [rcv] at hc

theorem rbody_sound (hext : Good P ext) (hcode : ∀ f fn, code f = some fn → Shows P f fn) {f : Nat} {fn : RFunc} (hs : RShows P f fn) {args : List AV} {H : Heap} {rv : AV} {Ho : Heap}
    (h : aw (XL own retOwn ext code) fn.body (start fn.ntmps args H) fun e s => finish (XL own retOwn ext code) f fn.results H (some (e, s)) = some (rv, Ho)) : Meets P f args H rv Ho := by
  obtain ⟨F, c, hF, hbody, hbare, hnt, hres, hcells, hname⟩ := hs
  refine fun ρ S w vs hi ha => .inl ⟨⟨F, hF, by simp [hbody], hname⟩, ?_⟩
  refine calls_of_wp hF hbody ?_
  have he : RelE ρ S H w (start fn.ntmps args H).E (vs ++ Array.replicate (F.ntmps - vs.size) undef) := by
    show RelE ρ S H w (args ++ List.replicate (fn.ntmps - args.length) .undef) _
    refine ⟨by simp [ha.1, hnt], fun i => ?_⟩
    by_cases hlt : i < args.length
    · obtain ⟨y, hy, hr⟩ := ha.2 i _ (List.getElem?_eq_getElem hlt)
      rw [nth_eq, List.getElem?_append_left hlt, List.getElem?_eq_getElem hlt]
      have hlt' : i < vs.size := ha.1 ▸ hlt
      rw [Array.getD_eq_getD_getElem?, Array.getElem?_append_left hlt', hy]
      exact hr
    · rw [nth_eq, List.getElem?_append_right (by omega)]
      have : (List.replicate (fn.ntmps - args.length) AV.undef)[i - args.length]?.getD .undef = .undef := by
        rw [List.getElem?_replicate]; split <;> rfl
      rw [this]; exact .undef _
  refine aw_sound hext hcode fn.body c hbare h (a := { tmps := vs ++ Array.replicate (F.ntmps - vs.size) undef, defers := [] }) hi he fun e s hfin ρ1 S1 w1 a1 st1 he1 hd1 => ?_
  have hee : (e = .norm ∨ e = .ret) ∧ ∃ rs rv0 H2 Ho', aresults s fn.results = some rs ∧ viewRes (retOwn f) s.H (mkRes rs) = some (rv0, H2) ∧ pack H2 (fun l => (reach H2 RF (List.range H.length ++ refs rv0) []).idxOf l) 0 (reach H2 RF (List.range H.length ++ refs rv0) []) = some Ho' ∧
      (nodupB (reach H2 RF (List.range H.length ++ refs rv0) []) && ((reach H2 RF (List.range H.length ++ refs rv0) []).take H.length == List.range H.length)) = true ∧ ren (fun l => (reach H2 RF (List.range H.length ++ refs rv0) []).idxOf l) rv0 = rv ∧ Ho' = Ho := by
    unfold finish at hfin
    have key : (match aresults s fn.results with
      | none => none
      | some vs =>
        match viewRes (retOwn f) s.H (mkRes vs) with
        | none => none
        | some (rv, H2) =>
          let L := reach H2 RF (List.range H.length ++ refs rv) []
          match pack H2 (fun l => L.idxOf l) 0 L with
          | none => none
          | some Ho => if nodupB L && (L.take H.length == List.range H.length) then some (ren (fun l => L.idxOf l) rv, Ho) else none) = some (rv, Ho) → ∃ rs rv0 H2 Ho', aresults s fn.results = some rs ∧ viewRes (retOwn f) s.H (mkRes rs) = some (rv0, H2) ∧ pack H2 (fun l => (reach H2 RF (List.range H.length ++ refs rv0) []).idxOf l) 0 (reach H2 RF (List.range H.length ++ refs rv0) []) = some Ho' ∧
      (nodupB (reach H2 RF (List.range H.length ++ refs rv0) []) && ((reach H2 RF (List.range H.length ++ refs rv0) []).take H.length == List.range H.length)) = true ∧ ren (fun l => (reach H2 RF (List.range H.length ++ refs rv0) []).idxOf l) rv0 = rv ∧ Ho' = Ho := by
      intro h
      split at h
      · cases h
      · rename_i rs hrs
        split at h
        · cases h
        · rename_i rv0 H2 hview
          simp only at h
          split at h
          · cases h
          · rename_i Ho' hpack
            split at h
            · rename_i hcond
              cases h
              exact ⟨rs, rv0, H2, _, hrs, hview, hpack, hcond, rfl, rfl⟩
            · cases h
    cases e with
    | norm => exact ⟨.inl rfl, key hfin⟩
    | ret => exact ⟨.inr rfl, key hfin⟩
    | exit j => simp at hfin
    | goto j => simp at hfin
  obtain ⟨hee, rs, rv0, H2, Ho', hrs, hview, hpack, hcond, rfl, rfl⟩ := hee
  generalize hL : reach H2 RF (List.range H.length ++ refs rv0) [] = L at *
  simp only [Bool.and_eq_true, beq_iff_eq] at hcond
  obtain ⟨hnd, htake⟩ := hcond
  have hnd := nodupB_iff hnd
  rw [hres] at hrs
  obtain ⟨zs, hzs, hargs⟩ := results_list (P := P) st1.inv he1 F.results.toList rs hcells hrs
  have hrun : (results F a1.tmps).run P w1 = .ok (if h : zs.toArray.size = 1 then zs.toArray[0] else .tuple zs.toArray) w1 := by
    rw [results_eq, Array.mapM_eq_mapM_toList]
    simp only [Sem.run_bind, map_eq_pure_bind, hzs, Result.andThen_ok, Sem.run_pure]
  obtain ⟨S2, st2, hr2⟩ := viewRes_rel (N := Big) st1.inv hview (mkRes_rel hargs)
  obtain ⟨hip, hcp, hlp⟩ := packed st2.inv hnd hpack
  have st : Step Big ρ S H w ρ1 S2 H2 w1 := (st1.trans st2).weaken fun _ h => h.elim id id
  have hlen : H.length ≤ L.length := by
    have := congrArg List.length htake
    simp at this; omega
  have hsmall : L.length ≤ 64 := by rw [← hL]; have := reach_len H2 RF (List.range H.length ++ refs rv0) []; simpa [RF] using this
  have hstep : Step (fun l => H.length ≤ l) ρ S H w (fun j => ρ1 (L.getD j 0)) S2 Ho' w1 := by
    refine ⟨hip, st.sub, st.new, st.frame, st.grow, st.size, fun l hl => ?_, fun l hl => ?_, st.outer⟩
    · obtain ⟨l0, h1, h2⟩ := hlp l hl
      have : L.getD l 0 = l0 := by rw [List.getD, h1]; rfl
      simp only [this]
      exact st.live l0 h2
    · have hlt : l < H.length := Nat.lt_of_not_le hl
      have hget : L[l]? = some l := by
        have : (L.take H.length)[l]? = some l := by rw [htake, List.getElem?_range hlt]
        rwa [List.getElem?_take, if_pos hlt] at this
      have := (st.comp l (by unfold Big; omega)).trans (hcp l)
      rwa [idx_of hnd hget] at this
  have hrel := hr2.trans (fun l => L.idxOf l) (S' := S2) (H' := Ho') (w' := w1) (ρ' := fun j => ρ1 (L.getD j 0)) (fun _ h => h) (fun _ _ => rfl) (.refl w1) fun l _ => hcp l
  rcases hee with rfl | rfl
  · exact ⟨hd1, _, hrun, _, _, _, rfl, hstep, hrel⟩
  · exact ⟨hd1, _, hrun, _, _, _, rfl, hstep, hrel⟩

/-- what stands for function f: its answer, whichever way its map is gone through -/
noncomputable def extRange (X : Ctx) (f : Nat) (fn : RFunc) : Callee := fun g args H => if g = f then
    (open Classical in if h : ∃ r : AV × Heap, aw X fn.body (start fn.ntmps args H) (fun e s => finish X f fn.results H (some (e, s)) = some r) then some (Classical.choose h) else none)
  else none

theorem extRange_none {X : Ctx} {f g : Nat} {fn : RFunc} {args : List AV} {H : Heap} (h : g ≠ f) : extRange X f fn g args H = none := by
  unfold extRange; rw [if_neg h]

theorem extRange_of {X : Ctx} {f : Nat} {fn : RFunc} {args : List AV} {H : Heap} {r : AV × Heap} (h : aw X fn.body (start fn.ntmps args H) fun e s => finish X f fn.results H (some (e, s)) = some r) : extRange X f fn f args H = some r := by
  unfold extRange
  rw [if_pos rfl]
  have hex : ∃ r : AV × Heap, aw X fn.body (start fn.ntmps args H) (fun e s => finish X f fn.results H (some (e, s)) = some r) := ⟨r, h⟩
  rw [dif_pos hex]
  obtain ⟨e, s, h1, h2⟩ := aw_ex (aw_and h (Classical.choose_spec hex))
  rw [h1] at h2
  rw [← Option.some.inj h2]

theorem extRange_good (hext : Good P ext) (hcode : ∀ f fn, code f = some fn → Shows P f fn) {f : Nat} {fn : RFunc} (hs : RShows P f fn) : Good P (extRange (XL own retOwn ext code) f fn) := by
  intro g args H rv Ho h
  unfold extRange at h
  split at h
  · rename_i hg
    subst hg
    split at h
    · rename_i hex
      have := Classical.choose_spec hex
      rw [Option.some.inj h] at this
      exact rbody_sound hext hcode hs this
    · cases h
  · cases h

/-- what is answered without the loop over a map is answered with it -/
theorem run_ext_mono {ext' : Callee} {f : Nat} (he : ∀ g, g ≠ f → ext' g = ext g) (h1 : ext' f = fun _ _ => none) (h2 : code f = none) : ∀ k, leC (run own retOwn ext' code k) (run own retOwn ext code k)
  | 0, g, args, H, r, h => by simp [run] at h
  | k + 1, g, args, H, r, h => by
    simp only [run] at h ⊢
    by_cases hg : g = f
    · subst hg
      rw [h1, h2] at h
      cases h
    · rw [he g hg] at h
      split at h
      · exact h
      · cases hc : code g with
        | none => rw [hc] at h; cases h
        | some fn =>
          rw [hc] at h
          simp only [abody_eq] at h ⊢
          cases hx : aexec { own, retOwn, C := run own retOwn ext' code k } k fn.body (start fn.ntmps args H) with
          | none => rw [hx] at h; simp [finish] at h
          | some q =>
            rw [hx] at h
            rw [aexec_mono (X := { own, retOwn, C := run own retOwn ext' code k }) (X' := { own, retOwn, C := run own retOwn ext code k }) rfl (run_ext_mono he h1 h2 k) (Nat.le_refl k) _ _ _ hx]
            rw [finish_mono (X := { own, retOwn, C := run own retOwn ext' code k }) (X' := { own, retOwn, C := run own retOwn ext code k }) rfl]
            exact h

theorem RUN_ext_mono {ext' : Callee} {f : Nat} (he : ∀ g, g ≠ f → ext' g = ext g) (h1 : ext' f = fun _ _ => none) (h2 : code f = none) : leC (RUN own retOwn ext' code) (RUN own retOwn ext code) := by
  intro g args H r h
  obtain ⟨k, hk⟩ := RUN_some own retOwn ext' code h
  exact RUN_run own retOwn ext code (run_ext_mono he h1 h2 k _ _ _ _ hk)
end
end
end Bz

/- Rules by which a loop over a map is carried out. -/
namespace Bz
open Go

theorem aw_seq_code {X : Ctx} {c : ACode} {b : RCode} {s s' : St} {Q : AExit → St → Prop} (h : exL X c s = some (.norm, s')) (h2 : aw X b s' Q) : aw X (.seq (.code c) b) s Q :=
  ⟨.norm, s', h, fun _ => h2, fun h => absurd rfl h⟩
theorem aw_mask {X : Ctx} {m : Mask} {b : RCode} {s s' : St} {Q : AExit → St → Prop} (h : trim m s = s') (h2 : aw X b s' Q) : aw X (.mask m b) s Q := by
  show aw X b (trim m s) Q
  rw [h]; exact h2
theorem aw_code {X : Ctx} {c : ACode} {s s' : St} {e : AExit} {Q : AExit → St → Prop} (h : exL X c s = some (e, s')) (h2 : Q e s') : aw X (.code c) s Q := ⟨e, s', h, h2⟩

/-- the loop, whose rounds all go on -/
theorem aw_seq_each {X : Ctx} {e : Each} {b : RCode} {s : St} {Q : AExit → St → Prop} (s1 : St) (l : Nat) (ag : Bool) (ks : List SK) (es : List (AV × AV)) (h1 : aops X e.rid e.ops 0 s = some s1) (h2 : aev s1.E e.x = .map l)
    (h3 : hget s1.H l = some (.mp ag ks es)) (h4 : (hget s1.H itN).isNone = true ∧ freshU s1.E s1.H [itN] = true ∧ shut s1.H = true)
    (h5 : ∀ π : List (AV × AV), π.Perm es → ∃ s4, eachR X e π { E := putE s1.E (some e.it) (.pa itN 0 0 0), H := hset (looseH l s1.H) itN (.fz 1 []) } = some (.norm, s4) ∧ tight { s4 with H := highH s4.H } = true ∧ aw X b { s4 with H := callerH s1.H ++ highH s4.H } Q) :
    aw X (.seq (.each e) b) s Q :=
  ⟨s1, l, ag, ks, es, h1, h2, h3, h4.1, h4.2.1, h4.2.2, fun π hπ => by
    obtain ⟨s4, g1, g2, g3⟩ := h5 π hπ
    exact ⟨.norm, s4, g1, g2, fun _ => g3, fun h => absurd rfl h⟩⟩

theorem each_fold {X : Ctx} {e : Each} {σ : Type} (S : σ → St) (I : Nat → σ → Prop) (g : σ → AV × AV → σ) (hin : ∀ a, inLoop e (S a) = true) : ∀ (π : List (AV × AV)) (k : Nat) (s : St) (a : σ),
    (∀ i a p, k ≤ i → i < k + π.length → p ∈ π → I i a → I (i + 1) (g a p) ∧ (roundR X e p (S a)).map (fun q => (q.1, trim e.mask q.2)) = some (.norm, S (g a p))) →
    trim e.mask s = S a → I k a → eachR X e π s = some (.norm, endR e (S (π.foldl g a))) ∧ I (k + π.length) (π.foldl g a)
  | [], k, s, a, _, hs, hI => by
    simp only [eachR, hs, hin, if_true, List.foldl_nil]
    exact ⟨by simp, hI⟩
  | p :: r, k, s, a, hst, hs, hI => by
    obtain ⟨h1, h2⟩ := hst k a p (Nat.le_refl _) (by simp) (by simp) hI
    simp only [eachR, hs, hin, if_true, List.foldl_cons]
    cases hR : roundR X e p (S a) with
    | none => rw [hR] at h2; cases h2
    | some q =>
      obtain ⟨ex, s3⟩ := q
      rw [hR] at h2
      simp only [Option.map_some, Option.some.injEq, Prod.mk.injEq] at h2
      obtain ⟨rfl, h3⟩ := h2
      have ih := each_fold S I g hin r (k + 1) s3 (g a p) (fun i a p hi hi2 hp hI => hst i a p (by omega) (by simp; omega) (by simp [hp]) hI) h3 h1
      simp only [List.length_cons]
      rw [show k + (r.length + 1) = k + 1 + r.length by omega]
      exact ih

theorem perm_map {α β : Type} {f : α → β} {l : List β} {m : List α} (h : l.Perm (m.map f)) : ∃ m' : List α, m'.Perm m ∧ l = m'.map f := by
  generalize hq : m.map f = q at h
  induction h generalizing m with
  | nil => exact ⟨[], by simpa using hq.symm, rfl⟩
  | cons x _ ih =>
    cases m with
    | nil => cases hq
    | cons y r =>
      simp only [List.map_cons, List.cons.injEq] at hq
      obtain ⟨rfl, hq⟩ := hq
      obtain ⟨m', h1, h2⟩ := ih hq
      exact ⟨y :: m', .cons _ h1, by rw [h2]; rfl⟩
  | swap x y t =>
    match m, hq with
    | a :: b :: r, hq =>
      simp only [List.map_cons, List.cons.injEq] at hq
      obtain ⟨rfl, rfl, rfl⟩ := hq
      exact ⟨b :: a :: r, .swap _ _ _, rfl⟩
  | trans _ _ ih1 ih2 =>
    obtain ⟨m1, h1, h2⟩ := ih2 hq
    obtain ⟨m2, h3, h4⟩ := ih1 h2.symm
    exact ⟨m2, h3.trans h1, h4⟩
end Bz
