/- The clean machine, part 4: values without memory, an interpreter of translated code over them, and that it is right about the program; no program in sight. No condition. -/
import Derived.Sort.Walk0
import Derived.Test.YtfmebmnifpjmpaaBz2
import Derived.Sort.EncStr
import Derived.Sort.Grow
set_option linter.unusedSimpArgs false
set_option linter.unusedVariables false
/- Sorting, plainly: by insertion; sorted lists of the same members are one. -/
namespace Bz
open Go

/-- 'less', so that of any two unlike ones just one is less -/
structure TotLt {α : Type} (lt : α → α → Bool) : Prop where
  irr : ∀ x, lt x x = false
  tra : ∀ x y z, lt x y = true → lt y z = true → lt x z = true
  tot : ∀ x y, lt x y = false → lt y x = false → x = y

section
variable {α : Type} {lt : α → α → Bool}

def insB (lt : α → α → Bool) (x : α) : List α → List α
  | [] => [x]
  | y :: r => if lt y x = true then y :: insB lt x r else x :: y :: r

def isort (lt : α → α → Bool) : List α → List α
  | [] => []
  | x :: r => insB lt x (isort lt r)

/-- never less than what stands ahead -/
def UpB (lt : α → α → Bool) (l : List α) : Prop := l.Pairwise fun a b => lt b a = false

theorem TotLt.asym (h : TotLt lt) {x y : α} (e : lt x y = true) : lt y x = false := by
  cases q : lt y x with
  | false => rfl
  | true => have := h.tra x y x e q; rw [h.irr] at this; cases this
theorem TotLt.ntra (h : TotLt lt) {x y z : α} (a : lt y x = false) (b : lt z y = false) : lt z x = false := by
  cases q : lt z x with
  | false => rfl
  | true =>
    cases p : lt x y with
    | true => have := h.tra z x y q p; rw [b] at this; cases this
    | false => have := h.tot x y p a; subst this; rw [b] at q; cases q

theorem insB_perm (x : α) : ∀ l : List α, (insB lt x l).Perm (x :: l)
  | [] => .refl _
  | y :: r => by
    unfold insB
    split
    · exact ((insB_perm x r).cons y).trans (.swap x y r)
    · exact .refl _
theorem isort_perm : ∀ l : List α, (isort lt l).Perm l
  | [] => .refl _
  | x :: r => (insB_perm x _).trans ((isort_perm r).cons x)
theorem isort_len (l : List α) : (isort lt l).length = l.length := (isort_perm l).length_eq
theorem isort_mem {l : List α} {a : α} : a ∈ isort lt l ↔ a ∈ l := (isort_perm l).mem_iff

theorem insB_up (h : TotLt lt) (x : α) : ∀ {l : List α}, UpB lt l → UpB lt (insB lt x l)
  | [], _ => List.pairwise_singleton _ _
  | y :: r, hu => by
    have hu' := List.pairwise_cons.1 hu
    unfold insB
    split
    · rename_i e
      refine List.pairwise_cons.2 ⟨fun b hb => ?_, insB_up h x hu'.2⟩
      rcases List.mem_cons.1 ((insB_perm x r).mem_iff.1 hb) with rfl | hb
      · exact h.asym e
      · exact hu'.1 b hb
    · rename_i e
      have e : lt y x = false := by simpa using e
      refine List.pairwise_cons.2 ⟨fun b hb => ?_, hu⟩
      rcases List.mem_cons.1 hb with rfl | hb
      · exact e
      · exact h.ntra e (hu'.1 b hb)
theorem isort_up (h : TotLt lt) : ∀ l : List α, UpB lt (isort lt l)
  | [] => List.Pairwise.nil
  | x :: r => insB_up h x (isort_up h r)

/-- sorted lists of the same members are one -/
theorem up_unique (h : TotLt lt) : ∀ {a b : List α}, UpB lt a → UpB lt b → a.Perm b → a = b
  | [], b, _, _, p => by rw [List.nil_perm.1 p]
  | x :: r, b, ha, hb, p => by
    cases b with
    | nil => exact absurd p.length_eq (by simp)
    | cons y s =>
      have ha' := List.pairwise_cons.1 ha
      have hb' := List.pairwise_cons.1 hb
      have hxy : x = y := by
        have h1 : x ∈ y :: s := p.mem_iff.1 (by simp)
        have h2 : y ∈ x :: r := p.mem_iff.2 (by simp)
        rcases List.mem_cons.1 h1 with e | h1
        · exact e
        rcases List.mem_cons.1 h2 with e | h2
        · exact e.symm
        exact h.tot x y (hb'.1 x h1) (ha'.1 y h2)
      subst hxy
      rw [up_unique h ha'.2 hb'.2 ((List.perm_cons x).1 p)]
theorem isort_of_perm (h : TotLt lt) {a b : List α} (p : a.Perm b) : isort lt a = isort lt b :=
  up_unique h (isort_up h a) (isort_up h b) ((isort_perm a).trans (p.trans (isort_perm b).symm))
theorem isort_id (h : TotLt lt) {l : List α} (hu : UpB lt l) : isort lt l = l := up_unique h (isort_up h l) hu (isort_perm l)
end

/-! ### texts -/
theorem blt_tot : TotLt Op.bytesLess where
  irr x := by rw [Go.Proofs.bytesLess_eq]; simp
  tra x y z h1 h2 := by
    rw [Go.Proofs.bytesLess_eq] at *
    simp only [decide_eq_true_eq] at *
    exact List.lt_trans h1 h2
  tot x y h1 h2 := by
    rw [Go.Proofs.bytesLess_eq] at *
    simp only [decide_eq_false_iff_not, List.not_lt] at *
    exact List.le_antisymm h2 h1

theorem isort_merge (l : List (List UInt8)) : isort Op.bytesLess l = l.mergeSort fun x y => decide (x ≤ y) := by
  refine up_unique blt_tot (isort_up blt_tot l) ?_ ((isort_perm l).trans (List.mergeSort_perm l _).symm)
  have := List.pairwise_mergeSort (le := fun x y : List UInt8 => decide (x ≤ y)) (fun a b c h1 h2 => by
    simp only [decide_eq_true_eq] at *; exact List.le_trans h1 h2) (fun a b => by
    simp only [Bool.or_eq_true, decide_eq_true_eq]; exact List.le_total a b) l
  refine this.imp fun {a b} h => ?_
  rw [Go.Proofs.bytesLess_eq]
  simp only [decide_eq_false_iff_not, List.not_lt]
  simpa using h
end Bz

/- slices.Sort of texts: what stands for it. -/
namespace Bz
open Go Go.Sort Go.Proofs

def strD : List D → Option (List UInt8)
  | [.str s] => some s
  | _ => none

def strsD : List (List D) → Option (List (List UInt8))
  | [] => some []
  | c :: r => match strD c with
    | none => none
    | some s => match strsD r with
      | none => none
      | some l => some (s :: l)

def sortTx (ss : List (List UInt8)) : List (List UInt8) := isort Op.bytesLess ss

theorem strsD_eq : ∀ {es : List (List D)} {ss : List (List UInt8)}, strsD es = some ss → es = ss.map fun s => [.str s]
  | [], ss, h => by simp only [strsD] at h; cases h; rfl
  | c :: r, ss, h => by
    simp only [strsD] at h
    split at h
    · cases h
    · rename_i s hs
      split at h
      · cases h
      · rename_i l hl
        cases h
        have : c = [.str s] := by
          match c, hs with
          | [.str s'], h => simp only [strD] at h; cases h; rfl
        rw [strsD_eq hl, this]; rfl

/-- new blocks, named by nothing -/
theorem step_more {N : Nat → Prop} {ρ : Nm} {S : Nat → Prop} {H : Heap} {w : World} (hi : Inv ρ S H w) (w' : World) (os : Array Obj) (hw : w'.heap = w.heap ++ os) (hout : Outer w w') :
    Step N ρ S H w ρ S H w' := by
  have hget : ∀ b, b < w.heap.size → w'.heap[b]? = w.heap[b]? := fun b hb => by rw [hw, Array.getElem?_append_left hb]
  have hg : Grow w w' := fun b cs T fr hb => ⟨cs, fr, by rw [hget b (lt_of_get hb)]; exact hb, rfl⟩
  have hS : ∀ b, S b → w'.heap[b]? = w.heap[b]? := fun b hb => hget b (hi.dom b hb)
  have hsz : w.heap.size ≤ w'.heap.size := by rw [hw, Array.size_append]; omega
  refine ⟨⟨fun l o ho => ?_, hi.inj, hi.sep, fun b hb => Nat.lt_of_lt_of_le (hi.dom b hb) hsz, fun l b hl hb => Nat.lt_of_lt_of_le (hi.hlt l b hl hb) hsz, hi.hno⟩, fun _ h => h, fun _ h => .inl h, fun b hb _ => hget b hb, hg, hsz, fun l b hl hf => .inr ⟨l, hl, hf⟩, fun l _ => .refl ρ H l, hout⟩
  exact (hi.obj l o ho).keep (fun hr => hget _ ((hi.obj l o ho).lt hr)) (fun hl c hc => hget _ (hi.hlt l c ⟨o, ho, hl⟩ hc)) (fun _ h => h) hS hg fun m _ => .refl ρ H m

def extSort (f : Nat) : Callee := fun g args H => if g = f then match args, H with
    | [.os 0 n 0 len], [(0, .arr 1 es)] => if es.length = n ∧ len = n ∧ n ≤ LIM then (strsD es).map fun ss => (.tup [], [(0, .arr 1 ((sortTx ss).map fun s => [.str s]))]) else none
    | [.d (.vs _ [])], [] => some (.tup [], [])
    | _, _ => none
  else none

/-- what the kit says of slices.Sort -/
structure Sorts (P : Program) (f : Nat) : Prop where
  coded : Coded P f
  some_ : ∀ (blk off cap : Nat) (ss : List (List UInt8)) (w : World), Holds encStr w blk off ss.toArray → blk < w.heap.size → ss.length < 4611686018427387904 →
    Calls P f #[.slice (some ⟨blk, off, none⟩) ss.length cap] w fun e w' =>
      e = .returned (.tuple #[]) ∧ ∃ n os, w' = grow (putRow encStr (Sort.ahead w n) blk off (ss.mergeSort fun x y => decide (x ≤ y)).toArray) os
  none_ : ∀ (p : Option Addr) (cap : Nat) (w : World), Calls P f #[.slice p 0 cap] w fun e w' => e = .returned (.tuple #[]) ∧ w' = w

theorem rel_tup0 {ρ : Nm} {S : Nat → Prop} {H : Heap} {w : World} : RelA ρ S H w (.tup []) (.tuple #[]) :=
  .tup [] #[] (fun _ => undef) rfl (fun i x h => by simp at h) (fun i x h => by simp at h)

/-- a row's cells turned, new blocks behind: what a sort leaves -/
theorem step_row {ρ : Nm} {S : Nat → Prop} {w : World} {sz : Nat} {es es' : List (List D)} (hi : Inv ρ S [(0, .arr sz es)] w) (hne : es ≠ []) (hlen : es'.length = es.length)
    {vs vs' : Array Value} {T : TypeId} (hb : w.heap[ρ 0]? = some (.cells vs T (0, 0))) (hvs : vs'.size = vs.size) (w' : World) (os : Array Obj)
    (hw : w'.heap = (w.heap.modify (ρ 0) fun _ => .cells vs' T (0, 0)) ++ os) (hout : Outer w w') (hrow : RowAt S w sz es' vs') :
    Step (fun l => 1 ≤ l) ρ S [(0, .arr sz es)] w (upd ρ 0 (ρ 0)) S [(0, .arr sz es')] w' := by
  have hlt := lt_of_get hb
  have hne' : es' ≠ [] := fun e => by rw [e] at hlen; exact hne (List.length_eq_zero_iff.1 hlen.symm)
  have hl : Live [(0, .arr sz es)] 0 := ⟨_, rfl, by simpa [isLive] using hne⟩
  let w1 : World := { w' with heap := w.heap.modify (ρ 0) fun _ => .cells vs' T (0, 0) }
  have hother : ∀ c, c ≠ ρ 0 → w1.heap[c]? = w.heap[c]? := fun c hc => by
    show (w.heap.modify (ρ 0) _)[c]? = _
    rw [Array.getElem?_modify, if_neg (fun e => hc e.symm)]
  have hself : w1.heap[ρ 0]? = some (.cells vs' T (0, 0)) := by
    show (w.heap.modify (ρ 0) _)[ρ 0]? = _
    rw [Array.getElem?_modify, if_pos rfl, hb]; rfl
  have hgrow : Grow w w1 := fun b cs T' fr hb' => by
    by_cases e : b = ρ 0
    · subst e; rw [hb] at hb'; cases hb'
      exact ⟨vs', _, hself, hvs⟩
    · exact ⟨cs, fr, by rw [hother b e]; exact hb', rfl⟩
  have hsize : w1.heap.size = w.heap.size := by show (w.heap.modify _ _).size = _; simp
  have h1 : Step (fun l => 1 ≤ l) ρ S [(0, .arr sz es)] w (upd ρ 0 (ρ 0)) S (hset [(0, .arr sz es)] 0 (.arr sz es')) w1 := by
    refine step_write hi 0 (.arr sz es') (ρ 0) w1 (.inr ⟨hl, rfl⟩) hother hgrow (Nat.le_of_eq hsize.symm) (.inr ?_) (.inl (by simp)) (fun _ hd => ⟨(hi.obj 0 _ rfl).1, fun _ => ⟨vs', T, hself, ?_⟩⟩) hout
    · refine ⟨fun sz' m' hm' => ⟨m', ?_, Nat.le_refl _, fun _ => upd_self ..⟩, fun hv => ?_, fun hv => ?_⟩
      · have e := cnt_of (hget_set_self ..) hm'
        simp only [rowsOf, Option.some.injEq, Prod.mk.injEq] at e
        obtain ⟨rfl, e⟩ := e
        exact cnt_arr rfl (by rw [← hlen]; exact e)
      · obtain ⟨q, hq⟩ := hv; rw [hget_set_self] at hq; cases hq
      · obtain ⟨_, _, q, hq⟩ := hv; rw [hget_set_self] at hq; cases hq
    · refine ⟨hrow.1, fun i c hi => ⟨(hrow.2 i c hi).1, fun j x hj => ?_⟩⟩
      obtain ⟨v, hv, hr⟩ := (hrow.2 i c hi).2 j x hj
      exact ⟨v, hv, hd _ _ hr⟩
  have h2 : Step (fun _ => False) (upd ρ 0 (ρ 0)) S (hset [(0, .arr sz es)] 0 (.arr sz es')) w1 (upd ρ 0 (ρ 0)) S (hset [(0, .arr sz es)] 0 (.arr sz es')) w' := step_more h1.inv w' os hw ⟨rfl, rfl, rfl, by first | exact Nat.le_refl _ | exact Nat.le_add_right _ _⟩
  have := (h1.trans h2).weaken (N' := fun l => 1 ≤ l) (fun l h => h.elim id False.elim)
  simpa [hset] using this

theorem extSort_good {P : Program} {f : Nat} (hf : Sorts P f) : Good P (extSort f) := by
  intro g args H rv Ho h
  unfold extSort at h
  split at h
  · rename_i hg
    subst hg
    split at h
    · rename_i n len es
      split at h
      · rename_i hc
        obtain ⟨h1, h2, h3⟩ := hc
        obtain ⟨ss, hss, h⟩ := Option.map_eq_some_iff.1 h
        cases h
        subst h2
        have hes := strsD_eq hss
        intro ρ S w vs hi ha
        obtain ⟨a, rfl, hr⟩ := ha.one
        cases hr with
        | os _ _ _ _ _ hfl hr =>
        obtain ⟨_, hr⟩ := hr 1 es.length (cnt_arr rfl rfl)
        have hr := hr h1.symm
        refine .inl ⟨hf.coded, ?_⟩
        have hlen : ss.length = es.length := by rw [hes]; simp
        rcases hr with ⟨h0, _, b, rfl⟩ | ⟨⟨hn0, _⟩, b, cap, cs, T, fr, rfl, hcap, hb, hcell, hfit⟩
        · refine (hf.none_ b 0 w).mono fun e w' ⟨he, hw⟩ => ?_
          subst hw
          have : ss = [] := List.length_eq_zero_iff.1 (by omega)
          subst this
          have : es = [] := by simpa using hes
          subst this
          exact ⟨_, ρ, S, he, by simpa [sortTx, isort] using Step.refl hi, rel_tup0⟩
        · have hne : es ≠ [] := fun e => by rw [e] at h1; exact hn0 h1.symm
          have hb : b = ⟨ρ 0, 0, none⟩ := by
            rcases hb with hb | hb
            · omega
            · simpa using hb
          subst hb
          obtain ⟨hpos, hobj⟩ := hi.obj 0 _ rfl
          obtain ⟨vs, T', hblk, hrow⟩ := hobj hne
          have hcellv : ∀ (i : Nat) (s : List UInt8), ss[i]? = some s → vs[i]? = some (encStr s) := fun i s hs => by
            have hc : es[i]? = some [D.str s] := by rw [hes]; simp [hs]
            obtain ⟨v, hv, hr⟩ := (hrow.2 i _ hc).2 0 (D.str s) rfl
            cases hr
            simpa using hv
          have hH : Holds encStr w (ρ 0) 0 ss.toArray := fun j hj => by
            have hj' : j < ss.length := by simpa using hj
            have hvj := hcellv j ss[j] (List.getElem?_eq_getElem hj')
            refine ⟨?_, ?_⟩
            · simp only [World.cell?, hblk, Nat.zero_add, Option.isSome_none, Bool.false_eq_true, if_false, hvj]
              simp [hj']
            · simp only [World.frozen?, hblk]; simp
          have hcall := hf.some_ (ρ 0) 0 cap ss w hH (lt_of_get hblk) (by have : LIM < 4611686018427387904 := by unfold LIM; omega
                                                                          omega)
          rw [show ss.length = len by omega] at hcall
          refine hcall.mono fun e w' ⟨he, k, os, hw⟩ => ?_
          rw [← isort_merge] at hw
          have hlen' : (sortTx ss).length = ss.length := isort_len ss
          refine ⟨_, upd ρ 0 (ρ 0), S, he, ?_, rel_tup0⟩
          refine step_row hi hne (by simp [hlen', hlen]) hblk (vs' := putCells encStr 0 (sortTx ss).toArray vs) (by simp [putCells]) w' os ?_ (by subst hw; exact ⟨rfl, rfl, rfl, by first | exact Nat.le_refl _ | exact Nat.le_add_right _ _⟩) ?_
          · subst hw
            show (w.heap.modify (ρ 0) (onCells _)) ++ os = _
            congr 1
            apply Array.ext_getElem?
            intro b
            simp only [Array.getElem?_modify]
            by_cases e : ρ 0 = b
            · subst e; simp only [if_true, hblk, Option.map_some, onCells]; rfl
            · simp [e]
          · have hv1 := hrow.1
            refine ⟨by simp [putCells, hlen', hlen]; omega, fun i c hic => ?_⟩
            simp only [List.getElem?_map, Option.map_eq_some_iff] at hic
            obtain ⟨s, hs, rfl⟩ := hic
            refine ⟨rfl, fun j x hj => ?_⟩
            have hj0 : j = 0 := by cases j with | zero => rfl | succ j => simp at hj
            subst hj0
            simp at hj; subst hj
            have hi' : i < (sortTx ss).length := by
              rcases Nat.lt_or_ge i (sortTx ss).length with h | h
              · exact h
              · rw [List.getElem?_eq_none h] at hs; cases hs
            have hvi : i < vs.size := by omega
            refine ⟨encStr s, ?_, .str s⟩
            have := List.getElem?_eq_some_iff.1 hs
            obtain ⟨q, hq⟩ := this
            simp [putCells, hvi, hi', hq]
      · cases h
    · rename_i b
      cases h
      intro ρ S w vs hi ha
      obtain ⟨a, rfl, hr⟩ := ha.one
      cases hr with
      | d _ _ hr =>
      refine .inl ⟨hf.coded, ?_⟩
      have : ∃ p cap, a = .slice p 0 cap := by
        cases hr with
        | vnil t b => exact ⟨_, _, rfl⟩
        | vs a sz cap es xs _ _ _ _ _ => exact ⟨_, _, rfl⟩
      obtain ⟨p, cap, rfl⟩ := this
      refine (hf.none_ p cap w).mono fun e w' ⟨he, hw⟩ => ?_
      subst hw
      exact ⟨_, ρ, S, he, .refl hi, rel_tup0⟩
    · cases h
  · cases h

/-- one, else the other -/
def extOr (a b : Callee) : Callee := fun f args H => match a f args H with
  | some r => some r
  | none => b f args H

theorem Good.or {P : Program} {a b : Callee} (ha : Good P a) (hb : Good P b) : Good P (extOr a b) := by
  intro f args H rv Ho h
  unfold extOr at h
  split at h
  · rename_i r hr
    cases h
    exact ha f args H rv Ho hr
  · exact hb f args H rv Ho h

def extNone : Callee := fun _ _ _ => none
theorem extNone_good {P : Program} : Good P extNone := fun _ _ _ _ _ h => by simp [extNone] at h

theorem extOr_none {a b : Callee} {f : Nat} {args : List AV} {H : Heap} (ha : a f args H = none) (hb : b f args H = none) : extOr a b f args H = none := by
  unfold extOr; rw [ha]; exact hb
theorem extOr_l {a b : Callee} {f : Nat} {args : List AV} {H : Heap} {r : AV × Heap} (ha : a f args H = some r) : extOr a b f args H = some r := by
  unfold extOr; rw [ha]
theorem extOr_r {a b : Callee} {f : Nat} {args : List AV} {H : Heap} {r : AV × Heap} (ha : a f args H = none) (hb : b f args H = some r) : extOr a b f args H = some r := by
  unfold extOr; rw [ha]; exact hb
theorem extSort_none {f g : Nat} {args : List AV} {H : Heap} (h : g ≠ f) : extSort f g args H = none := by
  unfold extSort; rw [if_neg h]
theorem extByte_none {f g : Nat} {args : List AV} {H : Heap} (h : g ≠ f) : extByte f g args H = none := by
  unfold extByte; rw [if_neg h]

/-! ### a map's clone -/
def extClone (f : Nat) : Callee := fun g args H => if g = f then match args, H with
    | [.map 0], [(0, .mp ag ks es)] => some (.map 1, [(0, .mp ag ks es), (1, .mp ag ks es)])
    | [.d .nilm], [] => some (.d .nilm, [])
    | _, _ => none
  else none
theorem extClone_none {f g : Nat} {args : List AV} {H : Heap} (h : g ≠ f) : extClone f g args H = none := by
  unfold extClone; rw [if_neg h]

/-- what the kit says of maps.Clone -/
structure Clones (P : Program) (f : Nat) : Prop where
  coded : Coded P f
  some_ : ∀ (b : Nat) (es : Array MapEntry) (clock : Nat) (w : World), w.heap[b]? = some (.map es clock) →
    Calls P f #[.map (some b)] w fun e w' => e = .returned (.map (some w.heap.size)) ∧ w' = w.alloc (.map es clock)
  nil_ : ∀ (w : World), Calls P f #[.map none] w fun e w' => e = .returned (.map none) ∧ w' = w

theorem extClone_good {P : Program} {f : Nat} (hf : Clones P f) : Good P (extClone f) := by
  intro g args H rv Ho h
  unfold extClone at h
  split at h
  · rename_i hg
    subst hg
    split at h
    · rename_i ag ks es
      cases h
      intro ρ S w vs hi ha
      obtain ⟨a, rfl, hr⟩ := ha.one
      cases hr with
      | map _ _ hfl hr =>
      have hv := hr ⟨ag, ks, es, rfl⟩
      subst hv
      obtain ⟨ents, clk, hb, hsz, hents⟩ := hi.obj 0 _ rfl
      refine .inl ⟨hf.coded, ?_⟩
      refine (hf.some_ (ρ 0) ents clk w hb).mono fun e w' ⟨he, hw⟩ => ?_
      subst hw
      have st : Step (fun l => 1 ≤ l) ρ S [(0, .mp ag ks es)] w (upd ρ 1 w.heap.size) S (hset [(0, .mp ag ks es)] 1 (.mp ag ks es)) (w.alloc (.map ents clk)) := by
        refine step_push hi 1 _ (.map ents clk) _ rfl (Nat.le_refl _) (fun m p hm _ => ?_) (fun hrel _ hq => ?_)
        · simp only [hget] at hm
          split at hm
          · cases hm; simp [refsO]
          · cases hm
        · refine ⟨ents, clk, hq, hsz, fun i k v hi => ?_⟩
          obtain ⟨e, h1, h2, h3, h4, h5, h6⟩ := hents i k v hi
          exact ⟨e, h1, h2, h3, h4, hrel _ _ (by rw [keyOK_refs h2]; simp) h5, hrel _ _ (by rw [h3]; simp) h6⟩
      exact ⟨_, _, _, he, st, .map 1 _ trivial fun _ => by simp [updK]⟩
    · cases h
      intro ρ S w vs hi ha
      obtain ⟨a, rfl, hr⟩ := ha.one
      cases hr with
      | d _ _ hr =>
      cases hr
      refine .inl ⟨hf.coded, ?_⟩
      refine (hf.nil_ w).mono fun e w' ⟨he, hw⟩ => ?_
      subst hw
      exact ⟨_, ρ, S, he, .refl hi, .d _ _ .nilm⟩
    · cases h
  · cases h

end Bz
