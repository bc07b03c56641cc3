/- Which kind an expression is of: the program's package types, and the page's (ref10), walked. -/
import Derived.Test.YtpkpkpaiaofmiaaLaw07
import Derived.Test.YtpkpkpaiaofmiaaTypM
set_option linter.unusedSimpArgs false
set_option linter.unusedVariables false
namespace Bz.S
open Go Bz
set_option maxRecDepth 10000
set_option maxHeartbeats 4000000

/-- api.Decl -/
structure Dc where
  name : Txt
  kind : Int
def dcC (d : Dc) : List D := [.str d.name, .int .i64 d.kind]
@[simp] theorem dcC_eq (d : Dc) : dcC d = [.str d.name, .int .i64 d.kind] := rfl
@[simp] theorem sized_dc (l : List Dc) : sized 2 (l.map dcC) = true := sized_map 2 dcC (fun _ => rfl) l
abbrev dcS (l : List Dc) : AV := .d (.vs false (l.map dcC))
abbrev dcA (d : Dc) : AV := .agg [.d (.str d.name), .d (.int .i64 d.kind)]

/-- the declared kind of a name, and a code -/
def ofE (l : List Dc) (s : Txt) : Int × Int := match findI (fun _ d => decide (d.name = s)) l 0 with
  | none => (0, 14)
  | some q => (q.2.kind, 0)

theorem run_of1 (d : Dc) (s : Txt) : R F_types_of_1 [dcA d, .pv 0 0] [(0, .var [.d (.str s)])] = some (.d (.bool (decide (d.name = s))), [(0, .var [.d (.str s)])]) := by
  refine R_of at_types_of_1 (by decide) ?_
  simp -implicitDefEqProofs [code_types_of_1]

theorem run_IndexDc (l : List Dc) (hl : l.length ≤ BIG) (f : Nat) (hf : own f = false) (s : Txt) (p : Dc → Bool) (hp : ∀ d, R f [dcA d, .pv 0 0] [(0, .var [.d (.str s)])] = some (.d (.bool (p d)), [(0, .var [.d (.str s)])])) :
    R F_slices_IndexFunc_api_Decl_api_Decl [dcS l, .fn f [.pv 0 0]] [(0, .var [.d (.str s)])] = some (.d (.int .i64 (idxK p l)), [(0, .var [.d (.str s)])]) := by
  refine R_of at_slices_IndexFunc_api_Decl_api_Decl (by decide) ?_
  unfold BIG at hl
  have hL := loop_find (X := X) (mask := mask_slices_IndexFunc_api_Decl_api_Decl_0) (body := body_slices_IndexFunc_api_Decl_api_Decl_0) l
    (fun i => ⟨mkE 19 [(0, dcS l), (1, .fn f [.pv 0 0]), (7, .d (.int .i64 l.length)), (8, .d (.int .i64 i))], [(0, .var [.d (.str s)])]⟩)
    (fun _ => p) (.exit 0, ⟨mkE 19 [], [(0, .var [.d (.str s)])]⟩) (fun i _ => (.ret, ⟨mkE 19 [(4, .d (.int .i64 i))], [(0, .var [.d (.str s)])]⟩)) (by simp) (by simp)
    (fun i e hi he hq => by
      have hw := wrap_ok (a := (i : Int) + 1) (by omega) (by omega)
      have hc := hp e
      simp -implicitDefEqProofs [body_slices_IndexFunc_api_Decl_api_Decl_0, mask_slices_IndexFunc_api_Decl_api_Decl_0, hi, he, hc, hf, hq, hw])
    (fun i e hi he hq => by
      have hc := hp e
      simp -implicitDefEqProofs [body_slices_IndexFunc_api_Decl_api_Decl_0, hi, he, hc, hf, hq]) (by simp -implicitDefEqProofs [body_slices_IndexFunc_api_Decl_api_Decl_0])
  simp -implicitDefEqProofs [code_slices_IndexFunc_api_Decl_api_Decl]
  rw [hL _ (by simp [mask_slices_IndexFunc_api_Decl_api_Decl_0])]
  unfold idxK
  cases findI (fun _ => p) l 0 <;> simp -implicitDefEqProofs

theorem run_of (l : List Dc) (hl : l.length ≤ BIG) (s : Txt) : R F_types_of [dcS l, .d (.str s)] [] = some (.tup [.d (.int .i64 (ofE l s).1), .d (.int .i64 (ofE l s).2)], []) := by
  refine R_of at_types_of (by decide) ?_
  have h := run_IndexDc l hl F_types_of_1 rfl s (fun d => decide (d.name = s)) (fun d => run_of1 d s)
  unfold ofE
  unfold idxK at h
  cases hF : findI (fun _ d => decide (d.name = s)) l 0 with
  | none =>
    rw [hF] at h
    simp -implicitDefEqProofs [code_types_of, h]
  | some q =>
    rw [hF] at h
    obtain ⟨k, h1, h2, _⟩ := findI_some _ _ _ _ hF
    rw [Nat.zero_add] at h1
    obtain ⟨hk, hkx⟩ := List.getElem?_eq_some_iff.1 h2
    simp only [h1] at h
    simp -implicitDefEqProofs [code_types_of, h, hk, hkx]

theorem run_Declared (l : List Dc) (hl : l.length ≤ BIG) (s : Txt) : R F_ref10_Declared [dcS l, .d (.str s)] [] = some (.tup [.d (.int .i64 (ofE l s).1), .d (.bool (decide ((ofE l s).2 = 0)))], []) := by
  refine R_of at_ref10_Declared (by decide) ?_
  unfold BIG at hl
  have hL := loop_find (X := X) (mask := mask_ref10_Declared_0) (body := body_ref10_Declared_0) l
    (fun i => ⟨mkE 25 [(0, dcS l), (1, .d (.str s)), (6, .d (.int .i64 i))], []⟩)
    (fun _ d => decide (d.name = s)) (.exit 0, ⟨mkE 25 [], []⟩) (fun i d => (.ret, ⟨mkE 25 [(4, .d (.int .i64 d.kind)), (5, .d (.bool true))], []⟩)) (by simp) (by simp)
    (fun i e hi he hq => by
      have hw := wrap_ok (a := (i : Int) + 1) (by omega) (by omega)
      have hq' : ¬ e.name = s := by simpa using hq
      simp -implicitDefEqProofs [body_ref10_Declared_0, mask_ref10_Declared_0, hi, he, hq', hw])
    (fun i e hi he hq => by
      have hq' : e.name = s := by simpa using hq
      simp -implicitDefEqProofs [body_ref10_Declared_0, hi, he, hq']) (by simp -implicitDefEqProofs [body_ref10_Declared_0])
  unfold ofE
  simp -implicitDefEqProofs [code_ref10_Declared]
  rw [hL _ (by simp [mask_ref10_Declared_0])]
  cases findI (fun _ d => decide (d.name = s)) l 0 <;> simp -implicitDefEqProofs

/-! ### what kinds come to -/
def pairK (k a b : Int) : Int :=
  if k = 8 ∨ k = 9 ∨ k = 10 then (if a = 1 ∧ b = 1 then 1 else 0)
  else if k = 15 ∨ k = 16 then (if a = b ∧ (a = 1 ∨ a = 3) then 2 else 0)
  else if k = 14 then (if a = b then 2 else 0)
  else if k = 17 then (if a = 3 ∧ b = 4 then 2 else 0)
  else if a = 2 ∧ b = 2 then 2 else 0
def singleK (k a : Int) : Int :=
  if k = 11 then (if a = 1 then 1 else 0)
  else if k = 12 then (if a = 3 ∨ a = 4 then 1 else 0)
  else if a = 2 then 2 else 0
def leafE (l : List Dc) (k : Int) (s : Txt) : Int × Int := if k = 5 ∨ k = 6 then ofE l s else if k = 7 ∨ k = 13 then (1, 0) else if k = 21 then (2, 0) else (k, 0)

theorem run_pair (k a b : Int) : R F_types_pair [.d (.int .i64 k), .d (.int .i64 a), .d (.int .i64 b)] [] = some (.d (.int .i64 (pairK k a b)), []) := by
  refine R_of at_types_pair (by decide) ?_
  by_cases h8 : k = 8
  · subst h8; simp -implicitDefEqProofs [code_types_pair, pairK] <;> grind
  by_cases h9 : k = 9
  · subst h9; simp -implicitDefEqProofs [code_types_pair, pairK] <;> grind
  by_cases h10 : k = 10
  · subst h10; simp -implicitDefEqProofs [code_types_pair, pairK] <;> grind
  by_cases h15 : k = 15
  · subst h15; simp -implicitDefEqProofs [code_types_pair, pairK]; grind
  by_cases h16 : k = 16
  · subst h16; simp -implicitDefEqProofs [code_types_pair, pairK]; grind
  by_cases h14 : k = 14
  · subst h14; simp -implicitDefEqProofs [code_types_pair, pairK]
  by_cases h17 : k = 17
  · subst h17; simp -implicitDefEqProofs [code_types_pair, pairK] <;> grind
  simp -implicitDefEqProofs [code_types_pair, pairK, h8, h9, h10, h15, h16, h14, h17] <;> grind
theorem run_single (k a : Int) : R F_types_single [.d (.int .i64 k), .d (.int .i64 a)] [] = some (.d (.int .i64 (singleK k a)), []) := by
  refine R_of at_types_single (by decide) ?_
  by_cases h1 : k = 11
  · subst h1; simp -implicitDefEqProofs [code_types_single, singleK]
  by_cases h2 : k = 12
  · subst h2; simp -implicitDefEqProofs [code_types_single, singleK] <;> grind
  simp -implicitDefEqProofs [code_types_single, singleK, h1, h2]
theorem run_leaf (l : List Dc) (hl : l.length ≤ BIG) (e : Ex) : R F_types_leaf [dcS l, exA e] [] = some (.tup [.d (.int .i64 (leafE l e.kind e.name).1), .d (.int .i64 (leafE l e.kind e.name).2)], []) := by
  refine R_of at_types_leaf (by decide) ?_
  have h := run_of l hl e.name
  obtain ⟨k, s, n, lo, hi, kids⟩ := e
  simp only [Ex.name] at h
  by_cases h5 : k = 5
  · subst h5; simp -implicitDefEqProofs [code_types_leaf, leafE, Ex.kind, Ex.name, h]
  by_cases h6 : k = 6
  · subst h6; simp -implicitDefEqProofs [code_types_leaf, leafE, Ex.kind, Ex.name, h]
  by_cases h7 : k = 7
  · subst h7; simp -implicitDefEqProofs [code_types_leaf, leafE, Ex.kind, Ex.name, h]
  by_cases h13 : k = 13
  · subst h13; simp -implicitDefEqProofs [code_types_leaf, leafE, Ex.kind, Ex.name, h]
  by_cases h21 : k = 21
  · subst h21; simp -implicitDefEqProofs [code_types_leaf, leafE, Ex.kind, Ex.name, h]
  simp -implicitDefEqProofs [code_types_leaf, leafE, Ex.kind, Ex.name, h5, h6, h7, h13, h21]

/-- what kids come to -/
def fitK (k : Int) : List Int → Int
  | [a] => singleK k a
  | a :: b :: _ => pairK k a b
  | [] => 0
theorem run_Fit (k : Int) (ks : List Int) (hk : (astKids k = 1 ∧ ks.length = 1) ∨ (astKids k = 2 ∧ ks.length = 2)) :
    ∃ v, R F_ref10_Fit [.d (.int .i64 k), i6S ks] [] = some (.tup [.d (.int .i64 v), .d (.bool (decide (¬ fitK k ks = 0)))], []) ∧ (¬ fitK k ks = 0 → v = fitK k ks) := by
  rcases hk with ⟨hk, hl⟩ | ⟨hk, hl⟩
  · obtain ⟨a, rfl⟩ : ∃ a, ks = [a] := by
      match ks, hl with
      | [a], _ => exact ⟨a, rfl⟩
    by_cases h1 : k = 11
    · subst h1
      refine ⟨1, R_of at_ref10_Fit (by decide) ?_, by simp [fitK, singleK]⟩
      simp -implicitDefEqProofs [code_ref10_Fit, fitK, singleK]
    by_cases h2 : k = 12
    · subst h2
      refine ⟨1, R_of at_ref10_Fit (by decide) ?_, by simp only [fitK, singleK]; grind⟩
      simp -implicitDefEqProofs [code_ref10_Fit, fitK, singleK]
    refine ⟨2, R_of at_ref10_Fit (by decide) ?_, by simp only [fitK, singleK]; grind⟩
    simp -implicitDefEqProofs [code_ref10_Fit, fitK, singleK, h1, h2]
  · obtain ⟨a, b, rfl⟩ : ∃ a b, ks = [a, b] := by
      match ks, hl with
      | [a, b], _ => exact ⟨a, b, rfl⟩
    have h1 : ¬ k = 11 := by intro h; subst h; simp [astKids] at hk
    have h2 : ¬ k = 12 := by intro h; subst h; simp [astKids] at hk
    by_cases h8 : k = 8 ∨ k = 9 ∨ k = 10
    · refine ⟨1, R_of at_ref10_Fit (by decide) ?_, by simp only [fitK, pairK]; grind⟩
      rcases h8 with rfl | rfl | rfl <;> simp -implicitDefEqProofs [code_ref10_Fit, fitK, pairK] <;> grind
    refine ⟨2, R_of at_ref10_Fit (by decide) ?_, by simp only [fitK, pairK]; grind⟩
    have g1 : ¬ k = 8 := by omega
    have g2 : ¬ k = 9 := by omega
    have g3 : ¬ k = 10 := by omega
    by_cases h14 : k = 14
    · subst h14; simp -implicitDefEqProofs [code_ref10_Fit, fitK, pairK]
    by_cases h15 : k = 15
    · subst h15; simp -implicitDefEqProofs [code_ref10_Fit, fitK, pairK] <;> grind
    by_cases h16 : k = 16
    · subst h16; simp -implicitDefEqProofs [code_ref10_Fit, fitK, pairK] <;> grind
    by_cases h17 : k = 17
    · subst h17; simp -implicitDefEqProofs [code_ref10_Fit, fitK, pairK]
    simp -implicitDefEqProofs [code_ref10_Fit, fitK, pairK, h1, h2, g1, g2, g3, h14, h15, h16, h17]

/-! ### the kind of an expression -/
mutual
def kindE (l : List Dc) : Ex → Int × Int
  | .mk k s _ _ _ kids => if astKids k < 1 then leafE l k s else match kindsE l kids with
    | .inr c => (0, c)
    | .inl ks => if fitK k ks = 0 then (0, 31) else (fitK k ks, 0)
def kindsE (l : List Dc) : List Ex → List Int ⊕ Int
  | [] => .inl []
  | e :: r => if (kindE l e).2 = 0 then (match kindsE l r with
      | .inl ks => .inl ((kindE l e).1 :: ks)
      | .inr c => .inr c) else .inr (kindE l e).2
end

theorem kindE_eq (l : List Dc) (e : Ex) : kindE l e = if astKids e.kind < 1 then leafE l e.kind e.name else match kindsE l e.kids with
    | .inr c => (0, c)
    | .inl ks => if fitK e.kind ks = 0 then (0, 31) else (fitK e.kind ks, 0) := by cases e; rfl

def kindF (l : List Dc) : Nat → List Int → Ex → List Int ⊕ Int := fun _ a k => if (kindE l k).2 = 0 then .inl (a ++ [(kindE l k).1]) else .inr (kindE l k).2
theorem kindF_fold (l : List Dc) : ∀ (kids : List Ex) (i : Nat) (a : List Int), foldS (kindF l) kids i a = match kindsE l kids with | .inl ks => .inl (a ++ ks) | .inr c => .inr c
  | [], i, a => by simp [kindsE]
  | k :: r, i, a => by
    rw [foldS_cons]
    simp only [kindF, kindsE]
    by_cases h : (kindE l k).2 = 0
    · simp only [h, if_true]
      have ih := kindF_fold l r (i + 1) (a ++ [(kindE l k).1])
      rw [ih]
      cases kindsE l r <;> simp
    · simp only [h, if_false]
theorem kindsE_len (l : List Dc) : ∀ (kids : List Ex) (ks : List Int), kindsE l kids = .inl ks → ks.length = kids.length
  | [], ks, h => by cases h; rfl
  | k :: r, ks, h => by
    simp only [kindsE] at h
    split at h
    · cases hr : kindsE l r with
      | inl q =>
        rw [hr] at h
        cases h
        simp [kindsE_len l r q hr]
      | inr c => rw [hr] at h; cases h
    · cases h
theorem kindsE_bad (l : List Dc) : ∀ (kids : List Ex) (c : Int), kindsE l kids = .inr c → ¬ c = 0
  | [], c, h => by cases h
  | k :: r, c, h => by
    simp only [kindsE] at h
    split at h
    · cases hr : kindsE l r with
      | inl q => rw [hr] at h; cases h
      | inr c' => rw [hr] at h; cases h; exact kindsE_bad l r c hr
    · cases h; assumption

theorem run_kind (l : List Dc) (hl : l.length ≤ BIG) : ∀ (e : Ex), exN e ≤ BIG → mayOK e = true → R F_types_kind [dcS l, exA e] [] = some (.tup [.d (.int .i64 (kindE l e).1), .d (.int .i64 (kindE l e).2)], []) := by
  refine exIndB fun e hb IH hm => ?_
  refine R_of at_types_kind (by decide) ?_
  have hlen : e.kids.length ≤ BIG := by have := exNs_len e.kids; have := exN_eq e; omega
  unfold BIG at hlen
  have hlf := run_leaf l hl e
  have hK := run_Kids e.kind
  rw [kindE_eq]
  by_cases hk : astKids e.kind < 1
  · simp -implicitDefEqProofs [code_types_kind, hK, hk, hlf]
  · have h4 : ¬ e.kind = 4 := by intro h; rw [h] at hk; simp [astKids] at hk
    rw [may_eq, if_neg h4, Bool.and_eq_true, Bool.and_eq_true, mayOKs_all, List.all_eq_true] at hm
    have hal : astKids e.kind = e.kids.length := by simpa using hm.1.1
    have hL := loop_list (X := X) (mask := mask_types_kind_0) (body := body_types_kind_0) e.kids
      (fun i (a : List Int) => ⟨mkE 63 [(0, dcS l), (3, .pv 10000 0), (6, .os 10000060 a.length 0 a.length), (22, exS e.kids), (23, .d (.int .i64 e.kids.length)), (24, .d (.int .i64 i))], [(10000, .var (exV e)), (10000060, .arr 1 (a.map i6C))]⟩)
      (fun i a => a.length = i) (kindF l)
      (fun a => (.exit 0, ⟨mkE 63 [(3, .pv 10000 0), (6, .os 10000060 a.length 0 a.length)], [(10000, .var (exV e)), (10000060, .arr 1 (a.map i6C))]⟩))
      (fun c => (.ret, ⟨mkE 63 [(4, .d (.int .i64 0)), (5, .d (.int .i64 c))], []⟩)) (by simp) (by simp)
      (fun i a k hi hx hI => by
        have hmem : k ∈ e.kids := hx ▸ List.getElem_mem hi
        have hc := IH k hmem (hm.2 k hmem)
        have hw := wrap_ok (a := (i : Int) + 1) (by omega) (by omega)
        have hal : a.length + 1 ≤ LIM := by unfold LIM; omega
        unfold kindF
        by_cases hz : (kindE l k).2 = 0
        · rw [hz] at hc
          simp only [if_pos hz, Round_inl]
          refine ⟨by simp [hI], ?_⟩
          simp -implicitDefEqProofs [body_types_kind_0, mask_types_kind_0, hi, hx, hc, hw, hal]
        · simp only [if_neg hz, Round_inr]
          simp -implicitDefEqProofs [body_types_kind_0, mask_types_kind_0, hi, hx, hc, hz])
      (fun a _ => by simp -implicitDefEqProofs [body_types_kind_0]) [] rfl
    rw [kindF_fold] at hL
    simp -implicitDefEqProofs [code_types_kind, hK, hk]
    rw [hL _ (by simp -implicitDefEqProofs [mask_types_kind_0])]
    cases hks : kindsE l e.kids with
    | inr c => simp -implicitDefEqProofs
    | inl ks =>
      have hkl := kindsE_len l _ _ hks
      have h12 : astKids e.kind = 1 ∨ astKids e.kind = 2 := by
        unfold astKids at hk hal ⊢
        grind
      rcases h12 with h12 | h12
      · obtain ⟨a, rfl⟩ : ∃ a, ks = [a] := by
          match ks, (by omega : ks.length = 1) with
          | [a], _ => exact ⟨a, rfl⟩
        have hs := run_single e.kind a
        by_cases hz : singleK e.kind a = 0
        · rw [hz] at hs
          simp -implicitDefEqProofs [hs, fitK, hz]
        · simp -implicitDefEqProofs [hs, fitK, hz]
      · obtain ⟨a, b, rfl⟩ : ∃ a b, ks = [a, b] := by
          match ks, (by omega : ks.length = 2) with
          | [a, b], _ => exact ⟨a, b, rfl⟩
        have hs := run_pair e.kind a b
        by_cases hz : pairK e.kind a b = 0
        · rw [hz] at hs
          simp -implicitDefEqProofs [hs, fitK, hz]
        · simp -implicitDefEqProofs [hs, fitK, hz]

theorem run_refkind (l : List Dc) (hl : l.length ≤ BIG) : ∀ (e : Ex), exN e ≤ BIG → mayOK e = true → R F_ref10_kind [dcS l, exA e] [] = some (.tup [.d (.int .i64 (kindE l e).1), .d (.int .i64 (kindE l e).2)], []) := by
  refine exIndB fun e hb IH hm => ?_
  refine R_of at_ref10_kind (by decide) ?_
  have hlen : e.kids.length ≤ BIG := by have := exNs_len e.kids; have := exN_eq e; omega
  unfold BIG at hlen
  have hD := run_Declared l hl e.name
  rw [kindE_eq]
  by_cases h56 : e.kind = 5 ∨ e.kind = 6
  · have hk : astKids e.kind < 1 := by rcases h56 with h | h <;> rw [h] <;> simp [astKids]
    have hle : leafE l e.kind e.name = ofE l e.name := by simp [leafE, h56]
    rw [if_pos hk, hle]
    have hcase : (ofE l e.name).2 = 0 ∨ ofE l e.name = (0, 14) := by unfold ofE; split <;> simp
    rcases hcase with hz | hz
    · rw [hz] at hD ⊢
      rcases h56 with h | h <;> simp -implicitDefEqProofs [code_ref10_kind, hD, eq_true h, h]
    · rw [hz] at hD ⊢
      rcases h56 with h | h <;> simp -implicitDefEqProofs [code_ref10_kind, hD, eq_true h, h]
  · have h5 : ¬ e.kind = 5 := by omega
    have h6 : ¬ e.kind = 6 := by omega
    by_cases hle : e.kind ≤ 4
    · have hk : astKids e.kind < 1 := by
        unfold astKids
        repeat' split
        all_goals omega
      have hl2 : leafE l e.kind e.name = (e.kind, 0) := by unfold leafE; grind
      rw [if_pos hk, hl2]
      simp -implicitDefEqProofs [code_ref10_kind, h5, h6, hle]
    by_cases h7 : e.kind = 7 ∨ e.kind = 13
    · have hk : astKids e.kind < 1 := by unfold astKids; grind
      have hl2 : leafE l e.kind e.name = (1, 0) := by unfold leafE; grind
      rw [if_pos hk, hl2]
      rcases h7 with h | h <;> simp -implicitDefEqProofs [code_ref10_kind, h]
    by_cases h21 : e.kind = 21
    · have hk : astKids e.kind < 1 := by unfold astKids; grind
      have hl2 : leafE l e.kind e.name = (2, 0) := by unfold leafE; grind
      rw [if_pos hk, hl2]
      simp -implicitDefEqProofs [code_ref10_kind, h21]
    have h4 : ¬ e.kind = 4 := by omega
    have g7 : ¬ e.kind = 7 := by omega
    have g13 : ¬ e.kind = 13 := by omega
    rw [may_eq, if_neg h4, Bool.and_eq_true, Bool.and_eq_true, mayOKs_all, List.all_eq_true] at hm
    have hal : astKids e.kind = e.kids.length := by simpa using hm.1.1
    have hk : ¬ astKids e.kind < 1 := by
      unfold astKids at hal ⊢
      grind
    rw [if_neg hk]
    have hL := loop_list (X := X) (mask := mask_ref10_kind_0) (body := body_ref10_kind_0) e.kids
      (fun i (a : List Int) => ⟨mkE 82 [(0, dcS l), (3, .pv 10000 0), (8, .os 10000080 a.length 0 a.length), (9, .d (.int .i64 i))], [(10000, .var (exV e)), (10000080, .arr 1 (a.map i6C))]⟩)
      (fun i a => a.length = i) (kindF l)
      (fun a => (.exit 0, ⟨mkE 82 [(3, .pv 10000 0), (8, .os 10000080 a.length 0 a.length)], [(10000, .var (exV e)), (10000080, .arr 1 (a.map i6C))]⟩))
      (fun c => (.ret, ⟨mkE 82 [(4, .d (.int .i64 0)), (5, .d (.int .i64 c))], []⟩)) (by simp) (by simp)
      (fun i a k hi hx hI => by
        have hmem : k ∈ e.kids := hx ▸ List.getElem_mem hi
        have hc := IH k hmem (hm.2 k hmem)
        have hw := wrap_ok (a := (i : Int) + 1) (by omega) (by omega)
        have hal : a.length + 1 ≤ LIM := by unfold LIM; omega
        unfold kindF
        by_cases hz : (kindE l k).2 = 0
        · rw [hz] at hc
          simp only [if_pos hz, Round_inl]
          refine ⟨by simp [hI], ?_⟩
          simp -implicitDefEqProofs [body_ref10_kind_0, mask_ref10_kind_0, hi, hx, hc, hw, hal]
        · simp only [if_neg hz, Round_inr]
          simp -implicitDefEqProofs [body_ref10_kind_0, mask_ref10_kind_0, hi, hx, hc, hz])
      (fun a _ => by simp -implicitDefEqProofs [body_ref10_kind_0]) [] rfl
    rw [kindF_fold] at hL
    simp -implicitDefEqProofs [code_ref10_kind, h5, h6, hle, g7, g13, h21]
    rw [hL _ (by simp -implicitDefEqProofs [mask_ref10_kind_0])]
    cases hks : kindsE l e.kids with
    | inr c => simp -implicitDefEqProofs
    | inl ks =>
      have hkl := kindsE_len l _ _ hks
      have h12 : (astKids e.kind = 1 ∧ ks.length = 1) ∨ (astKids e.kind = 2 ∧ ks.length = 2) := by
        unfold astKids at hk hal ⊢
        grind
      obtain ⟨v, hF, hv⟩ := run_Fit e.kind ks h12
      simp -implicitDefEqProofs at hF
      by_cases hz : fitK e.kind ks = 0
      · rw [hz] at hF
        simp -implicitDefEqProofs at hF
        simp -implicitDefEqProofs [hF, hz]
      · have := hv hz
        subst this
        simp -implicitDefEqProofs [hz] at hF
        simp -implicitDefEqProofs [hF, hz]
end Bz.S
