/- Layer 10's laws, walked. -/
import Derived.Test.YtpkpkpaiaofmiaaTypes
import Derived.KernelRfl
set_option linter.unusedSimpArgs false
set_option linter.unusedVariables false
namespace Bz.S
open Go Bz
set_option maxRecDepth 10000
set_option maxHeartbeats 4000000

theorem run_alive10 : R F_law10_alive [] [] = some (.d (.bool true), []) :=
  RUN_run own retOwn ext code (k := 60) (by kernel_rfl)

/-! ### the kind, and a code -/
def typE (l : List Dc) (e : Ex) : Int × Int := if astCheck e = 0 then kindE l e else (0, astCheck e)
theorem run_typesOf (l : List Dc) (hl : l.length ≤ BIG) (e : Ex) (hb : exN e ≤ BIG) : R F_types_Of [dcS l, exA e] [] = some (.tup [.d (.int .i64 (typE l e).1), .d (.int .i64 (typE l e).2)], []) := by
  refine R_of at_types_Of (by decide) ?_
  have h1 := run_Check e hb
  unfold typE
  by_cases hc : astCheck e = 0
  · have h2 := run_kind l hl e hb (check_ok.1 hc).2.2
    rw [hc] at h1
    simp -implicitDefEqProofs [code_types_Of, h1, h2, hc]
  · simp -implicitDefEqProofs [code_types_Of, h1, hc]
theorem run_refOf (l : List Dc) (hl : l.length ≤ BIG) (e : Ex) (hb : exN e ≤ BIG) : R F_ref10_Of [dcS l, exA e] [] = some (.tup [.d (.int .i64 (typE l e).1), .d (.int .i64 (typE l e).2)], []) := by
  refine R_of at_ref10_Of (by decide) ?_
  have h1 := run_refCheck e hb
  unfold typE
  by_cases hc : astCheck e = 0
  · have h2 := run_refkind l hl e hb (check_ok.1 hc).2.2
    rw [hc] at h1
    simp -implicitDefEqProofs [code_ref10_Of, h1, h2, hc]
  · simp -implicitDefEqProofs [code_ref10_Of, h1, hc]
def truthE (l : List Dc) (e : Ex) : Int := if (typE l e).2 = 0 ∧ ¬ (typE l e).1 = 2 then 31 else (typE l e).2
theorem run_Truth (l : List Dc) (hl : l.length ≤ BIG) (e : Ex) (hb : exN e ≤ BIG) : R F_types_Truth [dcS l, exA e] [] = some (.d (.int .i64 (truthE l e)), []) := by
  refine R_of at_types_Truth (by decide) ?_
  have h := run_typesOf l hl e hb
  unfold truthE
  generalize typE l e = t at *
  obtain ⟨a, c⟩ := t
  by_cases hc : c = 0
  · by_cases ha : a = 2
    · simp -implicitDefEqProofs [code_types_Truth, h, hc, ha]
    · simp -implicitDefEqProofs [code_types_Truth, h, hc, ha]
  · simp -implicitDefEqProofs [code_types_Truth, h, hc]
theorem run_refTruth (l : List Dc) (hl : l.length ≤ BIG) (e : Ex) (hb : exN e ≤ BIG) : R F_ref10_Truth [dcS l, exA e] [] = some (.d (.int .i64 (truthE l e)), []) := by
  refine R_of at_ref10_Truth (by decide) ?_
  have h := run_refOf l hl e hb
  unfold truthE
  generalize typE l e = t at *
  obtain ⟨a, c⟩ := t
  by_cases hc : c = 0
  · by_cases ha : a = 2
    · simp -implicitDefEqProofs [code_ref10_Truth, h, hc, ha]
    · simp -implicitDefEqProofs [code_ref10_Truth, h, hc, ha]
  · simp -implicitDefEqProofs [code_ref10_Truth, h, hc]

theorem run_TypesTells (l : List Dc) (e : Ex) (hb0 : bulkL [.vs false (l.map dcC)] + bulkL (exC e) ≤ 1048576) : R F_law10_TypesTells [dcS l, exA e] [] = some (.d (.bool true), []) := by
  refine R_of at_law10_TypesTells (by decide) ?_
  have hb : exN e ≤ BIG := by unfold exN BIG; omega
  have hl : l.length ≤ BIG := by
    have := len_bulkLL dcC (fun _ => by simp [bulkL, bulkD]) l
    simp only [bulkL, bulkD] at hb0
    unfold BIG; omega
  have h1 := run_typesOf l hl e hb
  have h2 := run_refOf l hl e hb
  have h3 := run_Truth l hl e hb
  have h4 := run_refTruth l hl e hb
  simp -implicitDefEqProofs [code_law10_TypesTells, run_alive10, h1, h2, h3, h4]

/-! ### declarations -/
structure DcOK (d : Dc) : Prop where
  n : d.name.length ≤ LIM
def declF (l : List Dc) : Nat → Unit → Dc → Unit ⊕ Int := fun i _ d =>
  if nameB d.name = false then .inr 16 else if d.kind < 1 ∨ 4 < d.kind then .inr 12 else if (ofE (l.take i) d.name).2 = 0 then .inr 22 else .inl ()
def declsE (l : List Dc) : Int := if 8 < l.length then 3 else match foldS (declF l) l 0 () with | .inl _ => 0 | .inr c => c

theorem run_Decls (l : List Dc) (hl : l.length ≤ BIG) (hd : ∀ d ∈ l, DcOK d) : R F_types_Decls [dcS l] [] = some (.d (.int .i64 (declsE l)), []) := by
  refine R_of at_types_Decls (by decide) ?_
  unfold declsE
  by_cases h8 : 8 < l.length
  · have h8' : (8 : Int) < l.length := by omega
    simp -implicitDefEqProofs [code_types_Decls, h8, h8']
  · have h8' : ¬ (8 : Int) < l.length := by omega
    have hL := loop_list (X := X) (mask := mask_types_Decls_0) (body := body_types_Decls_0) l
      (fun i (_ : Unit) => ⟨mkE 43 [(0, dcS l), (10, dcS l), (11, .d (.int .i64 l.length)), (12, .d (.int .i64 i))], []⟩)
      (fun _ _ => True) (declF l) (fun _ => (.exit 0, ⟨mkE 43 [], []⟩)) (fun c => (.ret, ⟨mkE 43 [(2, .d (.int .i64 c))], []⟩)) (by simp) (by simp)
      (fun i a d hi hx _ => by
        have hw := wrap_ok (a := (i : Int) + 1) (by omega) (by omega)
        have h1 := run_lexName d.name (hd d (hx ▸ List.getElem_mem hi)).n
        have h2 := run_of (l.take i) (by simp; unfold BIG; omega) d.name
        simp -implicitDefEqProofs [dcS] at h2
        have hi2 : (i : Int) ≤ l.length := by omega
        unfold declF
        cases hn : nameB d.name with
        | false =>
          rw [hn] at h1
          simp only [if_true, Round_inr]
          simp -implicitDefEqProofs [body_types_Decls_0, mask_types_Decls_0, hi, hx, h1]
        | true =>
          rw [hn] at h1
          simp only [Bool.true_eq_false, if_false]
          by_cases hk1 : d.kind < 1
          · simp only [hk1, true_or, if_true, Round_inr]
            simp -implicitDefEqProofs [body_types_Decls_0, mask_types_Decls_0, hi, hx, h1, hk1]
          · by_cases hk2 : 4 < d.kind
            · simp only [hk2, or_true, if_true, Round_inr]
              simp -implicitDefEqProofs [body_types_Decls_0, mask_types_Decls_0, hi, hx, h1, hk1, hk2]
            · simp only [hk1, hk2, or_self, if_false]
              by_cases hz : (ofE (l.take i) d.name).2 = 0
              · rw [hz] at h2
                simp only [hz, if_true, Round_inr]
                simp -implicitDefEqProofs [body_types_Decls_0, mask_types_Decls_0, hi, hx, h1, hk1, hk2, h2, hi2]
              · simp only [hz, if_false, Round_inl]
                refine ⟨trivial, ?_⟩
                simp -implicitDefEqProofs [body_types_Decls_0, mask_types_Decls_0, hi, hx, h1, hk1, hk2, h2, hz, hi2, hw])
      (fun a _ => by simp -implicitDefEqProofs [body_types_Decls_0]) () trivial
    simp -implicitDefEqProofs [code_types_Decls, h8, h8']
    rw [hL _ (by simp -implicitDefEqProofs [mask_types_Decls_0])]
    cases foldS (declF l) l 0 () <;> simp -implicitDefEqProofs

theorem run_refDecls (l : List Dc) (hl : l.length ≤ BIG) (hd : ∀ d ∈ l, DcOK d) : R F_ref10_Decls [dcS l] [] = some (.d (.int .i64 (declsE l)), []) := by
  refine R_of at_ref10_Decls (by decide) ?_
  unfold declsE
  by_cases h8 : 8 < l.length
  · have h8' : (8 : Int) < l.length := by omega
    simp -implicitDefEqProofs [code_ref10_Decls, h8, h8']
  · have h8' : ¬ (8 : Int) < l.length := by omega
    have hL := loop_list (X := X) (mask := mask_ref10_Decls_0) (body := body_ref10_Decls_0) l
      (fun i (_ : Unit) => ⟨mkE 49 [(0, dcS l), (3, .d (.int .i64 i))], []⟩)
      (fun _ _ => True) (declF l) (fun _ => (.exit 0, ⟨mkE 49 [], []⟩)) (fun c => (.ret, ⟨mkE 49 [(2, .d (.int .i64 c))], []⟩)) (by simp) (by simp)
      (fun i a d hi hx _ => by
        have hw := wrap_ok (a := (i : Int) + 1) (by omega) (by omega)
        have h1 := run_refName d.name (hd d (hx ▸ List.getElem_mem hi)).n
        have h2 := run_Declared (l.take i) (by simp; unfold BIG; omega) d.name
        simp -implicitDefEqProofs [dcS] at h2
        have hi2 : (i : Int) ≤ l.length := by omega
        unfold declF
        cases hn : nameB d.name with
        | false =>
          rw [hn] at h1
          simp only [if_true, Round_inr]
          simp -implicitDefEqProofs [body_ref10_Decls_0, mask_ref10_Decls_0, hi, hx, h1]
        | true =>
          rw [hn] at h1
          simp only [Bool.true_eq_false, if_false]
          by_cases hk1 : d.kind < 1
          · simp only [hk1, true_or, if_true, Round_inr]
            simp -implicitDefEqProofs [body_ref10_Decls_0, mask_ref10_Decls_0, hi, hx, h1, hk1]
          · by_cases hk2 : 4 < d.kind
            · simp only [hk2, or_true, if_true, Round_inr]
              simp -implicitDefEqProofs [body_ref10_Decls_0, mask_ref10_Decls_0, hi, hx, h1, hk1, hk2]
            · simp only [hk1, hk2, or_self, if_false]
              by_cases hz : (ofE (l.take i) d.name).2 = 0
              · simp -implicitDefEqProofs [hz] at h2
                simp only [hz, if_true, Round_inr]
                simp -implicitDefEqProofs [body_ref10_Decls_0, mask_ref10_Decls_0, hi, hx, h1, hk1, hk2, h2, hi2]
              · simp -implicitDefEqProofs [hz] at h2
                simp only [hz, if_false, Round_inl]
                refine ⟨trivial, ?_⟩
                simp -implicitDefEqProofs [body_ref10_Decls_0, mask_ref10_Decls_0, hi, hx, h1, hk1, hk2, h2, hi2, hw])
      (fun a _ => by simp -implicitDefEqProofs [body_ref10_Decls_0]) () trivial
    simp -implicitDefEqProofs [code_ref10_Decls, h8, h8']
    rw [hL _ (by simp -implicitDefEqProofs [mask_ref10_Decls_0])]
    cases foldS (declF l) l 0 () <;> simp -implicitDefEqProofs

theorem dc_bulk (l : List Dc) : l.length ≤ bulkLL (l.map dcC) ∧ ∀ d ∈ l, d.name.length ≤ bulkLL (l.map dcC) := by
  induction l with
  | nil => simp
  | cons t r ih =>
    simp only [List.map_cons, List.length_cons, bulkLL, dcC, bulkL, bulkD]
    refine ⟨by omega, fun u hu => ?_⟩
    rcases List.mem_cons.1 hu with rfl | hu
    · omega
    · have := ih.2 u hu; omega
theorem run_TypesDecls (l : List Dc) (hb0 : bulkL [.vs false (l.map dcC)] ≤ 1048576) : R F_law10_TypesDecls [dcS l] [] = some (.d (.bool true), []) := by
  refine R_of at_law10_TypesDecls (by decide) ?_
  have h := dc_bulk l
  simp only [bulkL, bulkD] at hb0
  have hd : ∀ d ∈ l, DcOK d := fun d hd => ⟨by have := h.2 d hd; unfold LIM; omega⟩
  have h1 := run_Decls l (by unfold BIG; omega) hd
  have h2 := run_refDecls l (by unfold BIG; omega) hd
  simp -implicitDefEqProofs [code_law10_TypesDecls, run_alive10, h1, h2]

/-! ### what is in it -/
theorem kindsE_mem {l : List Dc} : ∀ {kids : List Ex} {ks : List Int}, kindsE l kids = .inl ks → ∀ k ∈ kids, (kindE l k).2 = 0
  | [], ks, _, k, hk => by simp at hk
  | a :: r, ks, h, k, hk => by
    simp only [kindsE] at h
    split at h
    · rename_i ha
      rcases List.mem_cons.1 hk with rfl | hk
      · exact ha
      · cases hr : kindsE l r with
        | inl q => exact kindsE_mem hr k hk
        | inr c => rw [hr] at h; cases h
    · cases h
theorem kid_kind {l : List Dc} {e k : Ex} (hc : astCheck e = 0) (h : (kindE l e).2 = 0) (hk : k ∈ e.kids) : (kindE l k).2 = 0 := by
  have hm := (check_ok.1 hc).2.2
  by_cases h4 : e.kind = 4
  · rw [may_eq, if_pos h4, Bool.and_eq_true] at hm
    have h5 := hm.2
    unfold setOK at h5
    simp only [Bool.and_eq_true, List.all_eq_true] at h5
    have t1 := ((text_iff k).1 (h5.1.1 k hk)).1
    rw [kindE_eq, t1]
    simp [astKids, leafE]
  · rw [may_eq, if_neg h4, Bool.and_eq_true, Bool.and_eq_true] at hm
    have hal : astKids e.kind = e.kids.length := by simpa using hm.1.1
    have hpos : 0 < e.kids.length := List.length_pos_of_mem hk
    rw [kindE_eq, if_neg (by omega)] at h
    cases hks : kindsE l e.kids with
    | inr c => rw [hks] at h; exact absurd h (kindsE_bad l _ _ hks)
    | inl ks => exact kindsE_mem hks k hk

theorem run_TypesParts (l : List Dc) (e : Ex) (hb0 : bulkL [.vs false (l.map dcC)] + bulkL (exC e) ≤ 1048576) : R F_law10_TypesParts [dcS l, exA e] [] = some (.d (.bool true), []) := by
  refine R_of at_law10_TypesParts (by decide) ?_
  have hb : exN e ≤ BIG := by unfold exN BIG; omega
  have hl : l.length ≤ BIG := by
    have := (dc_bulk l).1
    simp only [bulkL, bulkD] at hb0
    unfold BIG; omega
  have hlen : e.kids.length ≤ BIG := by have := exNs_len e.kids; have := exN_eq e; omega
  have hkb : ∀ k ∈ e.kids, exN k ≤ BIG := fun k hk => by have := kid_lt hk; omega
  unfold BIG at hlen
  have h1 := run_typesOf l hl e hb
  have h2 := run_Check e hb
  by_cases hz : (typE l e).2 = 0
  · have hc : astCheck e = 0 := by
      unfold typE at hz
      split at hz
      · assumption
      · exact hz
    have hz' : (kindE l e).2 = 0 := by unfold typE at hz; rw [if_pos hc] at hz; exact hz
    have hL := loop_fold (σ := Unit) (X := X) (mask := mask_law10_TypesParts_0) (body := body_law10_TypesParts_0) e.kids
      (fun i _ => ⟨mkE 42 [(0, dcS l), (3, .pv 10000 0), (7, .d (.int .i64 i))], [(10000, .var (exV e))]⟩) (fun _ _ => True)
      (fun _ _ _ => ()) (fun _ => (.exit 0, ⟨mkE 42 [(3, .pv 10000 0)], [(10000, .var (exV e))]⟩)) (by simp) (fun i a k hi hx _ => by
        have hm : k ∈ e.kids := hx ▸ List.getElem_mem hi
        have a1 := (kid_ok hc hm).1
        have a2 := kid_kind hc hz' hm
        have c1 := run_typesOf l hl k (hkb k hm)
        have e2 : (typE l k).2 = 0 := by unfold typE; rw [if_pos a1]; exact a2
        rw [e2] at c1
        have hw := wrap_ok (a := (i : Int) + 1) (by omega) (by omega)
        simp -implicitDefEqProofs [body_law10_TypesParts_0, mask_law10_TypesParts_0, hi, hx, c1, hw]) (fun a _ => by simp -implicitDefEqProofs [body_law10_TypesParts_0]) () trivial
    rw [hz] at h1
    rw [hc] at h2
    simp -implicitDefEqProofs [code_law10_TypesParts, run_alive10, h1]
    rw [hL _ (by simp -implicitDefEqProofs [mask_law10_TypesParts_0])]
    simp -implicitDefEqProofs [h2]
  · simp -implicitDefEqProofs [code_law10_TypesParts, run_alive10, h1, hz]

/-! ### more declarations -/
theorem findI_app {α : Type} (p : α → Bool) : ∀ (l m : List α) (i : Nat) (q : Nat × α), findI (fun _ => p) l i = some q → findI (fun _ => p) (l ++ m) i = some q
  | [], _, _, _, h => by cases h
  | a :: r, m, i, q, h => by
    simp only [findI, List.cons_append] at h ⊢
    split
    · rename_i hp; rw [if_pos hp] at h; exact h
    · rename_i hp; rw [if_neg hp] at h; exact findI_app p r m (i + 1) q h
theorem ofE_more {l : List Dc} {s : Txt} (m : List Dc) (h : (ofE l s).2 = 0) : ofE (l ++ m) s = ofE l s := by
  unfold ofE at h ⊢
  cases hF : findI (fun _ d => decide (d.name = s)) l 0 with
  | none => rw [hF] at h; cases h
  | some q => rw [findI_app (fun d : Dc => decide (d.name = s)) l m 0 q hF]
theorem leafE_more {l : List Dc} {k : Int} {s : Txt} (m : List Dc) (h : (leafE l k s).2 = 0) : leafE (l ++ m) k s = leafE l k s := by
  unfold leafE at h ⊢
  split
  · rename_i h5; rw [if_pos h5] at h; exact ofE_more m h
  · rfl
theorem kindsE_more {l m : List Dc} : ∀ {kids : List Ex} {ks : List Int}, (∀ k ∈ kids, (kindE l k).2 = 0 → kindE (l ++ m) k = kindE l k) → kindsE l kids = .inl ks → kindsE (l ++ m) kids = .inl ks
  | [], ks, _, h => h
  | a :: r, ks, hk, h => by
    simp only [kindsE] at h ⊢
    split at h
    · rename_i ha
      rw [hk a (by simp) ha, if_pos ha]
      cases hr : kindsE l r with
      | inl q =>
        rw [hr] at h
        rw [kindsE_more (fun k hm => hk k (by simp [hm])) hr]
        exact h
      | inr c => rw [hr] at h; cases h
    · cases h
theorem kindE_more (l m : List Dc) : ∀ e : Ex, (kindE l e).2 = 0 → kindE (l ++ m) e = kindE l e := by
  refine exInd fun e IH h => ?_
  rw [kindE_eq] at h
  rw [kindE_eq (l ++ m), kindE_eq l]
  by_cases hk : astKids e.kind < 1
  · rw [if_pos hk] at h ⊢
    rw [if_pos hk]
    exact leafE_more m h
  · rw [if_neg hk] at h ⊢
    rw [if_neg hk]
    cases hks : kindsE l e.kids with
    | inr c => rw [hks] at h; exact absurd h (kindsE_bad l _ _ hks)
    | inl ks => rw [kindsE_more IH hks]

@[simp] theorem take_two' {α β γ : Type} (f : α → β) (g : γ → β) (l : List α) (m : List γ) : List.take (l.length + m.length) (l.map f ++ m.map g) = l.map f ++ m.map g := by
  rw [List.take_of_length_le]; simp
theorem run_TypesMore (l m : List Dc) (e : Ex) (hb0 : bulkL [.vs false (l.map dcC)] + (bulkL [.vs false (m.map dcC)] + bulkL (exC e)) ≤ 1048576) : R F_law10_TypesMore [dcS l, dcS m, exA e] [] = some (.d (.bool true), []) := by
  refine R_of at_law10_TypesMore (by decide) ?_
  have hb : exN e ≤ BIG := by unfold exN BIG; omega
  have q1 := (dc_bulk l).1
  have q2 := (dc_bulk m).1
  simp only [bulkL, bulkD] at hb0
  have hl : l.length ≤ BIG := by unfold BIG; omega
  have h1 := run_typesOf l hl e hb
  have h2 := run_typesOf (l ++ m) (by simp; unfold BIG; omega) e hb
  have hmore : (typE l e).2 = 0 → typE (l ++ m) e = typE l e := by
    unfold typE
    split
    · exact kindE_more l m e
    · intro _; rfl
  have g1 : l.length ≤ LIM := big_lim hl
  have g2 : m.length ≤ LIM := by unfold LIM; omega
  have g3 : l.length + m.length ≤ LIM := by unfold LIM; omega
  have fin : ∀ (a b c d : Int), (b = 0 → c = a ∧ d = 0) → (¬ b = 0 ∨ b = 0 ∧ c = a ∧ d = 0) := by intro a b c d h; by_cases hb : b = 0 <;> simp [hb, h]
  have hf := fin (typE l e).1 (typE l e).2 (typE (l ++ m) e).1 (typE (l ++ m) e).2 (fun h => by rw [hmore h]; exact ⟨rfl, h⟩)
  generalize typE (l ++ m) e = t2 at *
  generalize typE l e = t1 at *
  obtain ⟨a, b⟩ := t1
  obtain ⟨c, d⟩ := t2
  simp only at hf
  by_cases l0 : l = []
  · subst l0
    by_cases m0 : m = []
    · subst m0
      simp -implicitDefEqProofs [dcS] at h1 h2
      rcases hf with hf | ⟨rfl, rfl, rfl⟩ <;> simp -implicitDefEqProofs [code_law10_TypesMore, run_alive10, h1, h2, *]
    · simp -implicitDefEqProofs [dcS] at h1 h2
      rcases hf with hf | ⟨rfl, rfl, rfl⟩ <;> simp -implicitDefEqProofs [code_law10_TypesMore, run_alive10, h1, h2, *]
  · simp -implicitDefEqProofs [dcS] at h1 h2
    rcases hf with hf | ⟨rfl, rfl, rfl⟩ <;> simp -implicitDefEqProofs [code_law10_TypesMore, run_alive10, h1, h2, *]

theorem typ_dc {P : Program} {t : TypeId} {fs : Array Field} (hu : P.underlying t = some (.struct fs)) {i1 i2 : TypeId} (hfs : fs.toList.map (·.type) = [i1, i2])
    (h1 : P.underlying i1 = some .string) (h2 : P.underlying i2 = some (.int .i64)) (x : List D) (h : Typed P t x) : ∃ d : Dc, x = dcC d := by
  obtain ⟨parts, rfl, hp⟩ := typ_fields h hu hfs
  obtain ⟨a, r, rfl, ha, hp⟩ := tall_cons hp
  obtain ⟨b, r, rfl, hb, hp⟩ := tall_cons hp
  cases tall_nil hp
  obtain ⟨m1, rfl⟩ := typ_str ha h1
  obtain ⟨m2, rfl, _⟩ := typ_int hb h2
  exact ⟨⟨m1, m2⟩, rfl⟩
theorem typ_dcs {P : Program} {q t : TypeId} {fs : Array Field} (hq : P.underlying q = some (.slice t)) (hu : P.underlying t = some (.struct fs)) {i1 i2 : TypeId} (hfs : fs.toList.map (·.type) = [i1, i2])
    (h1 : P.underlying i1 = some .string) (h2 : P.underlying i2 = some (.int .i64)) (x : List D) (h : Typed P q x) : ∃ m : List Dc, x = [.vs false (m.map dcC)] := by
  obtain ⟨es, rfl, hes⟩ := typ_slice h hq
  obtain ⟨m, rfl⟩ := mem_map_all dcC (es := es) fun c hc => typ_dc hu hfs h1 h2 c (hes c hc)
  exact ⟨m, rfl⟩
end Bz.S
