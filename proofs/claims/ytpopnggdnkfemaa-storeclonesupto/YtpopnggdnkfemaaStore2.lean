/- A store, walked: made, set, told, cloned. -/
import Derived.Test.YtpopnggdnkfemaaStore
set_option linter.unusedSimpArgs false
set_option linter.unusedVariables false
namespace Bz.S
open Go Bz
set_option maxRecDepth 10000
set_option maxHeartbeats 4000000

def decC (d : Dec) : List D := [.str d.n, .int .i64 d.k]
@[simp] theorem decC_eq (d : Dec) : decC d = [.str d.n, .int .i64 d.k] := rfl
@[simp] theorem sized_dec (l : List Dec) : sized 2 (l.map decC) = true := sized_map 2 decC (fun _ => rfl) l
abbrev decS (l : List Dec) : AV := .d (.vs false (l.map decC))

/-! ### maps -/
theorem findE_k (n : Txt) : ∀ K : List Dec, findE (.d (.str n)) (K.map kA) = some ((K.find? fun d => n = d.n).map fun d => .d (.int .i64 d.k))
  | [] => rfl
  | d :: r => by
    simp only [List.map_cons, findE, kA, avEq, scalEq]
    by_cases h : n = d.n
    · simp [h]
    · have : (n == d.n) = false := by simpa using h
      simp only [this, findE_k n r, List.find?_cons]
      simp [h]
theorem setE_new (n : Txt) (k : Int) : ∀ K : List Dec, (K.find? fun d => n = d.n) = none → setE (.d (.str n)) (.d (.int .i64 k)) (K.map kA) = (K ++ [(⟨n, k⟩ : Dec)]).map kA
  | [], _ => rfl
  | d :: r, h => by
    by_cases hn : n = d.n
    · rw [List.find?_cons, decide_eq_true hn] at h; cases h
    · have hb : (n == d.n) = false := by simpa using hn
      rw [List.find?_cons, decide_eq_false hn] at h
      simp only [List.map_cons, List.cons_append, setE, kA, avEq, scalEq, hb]
      rw [if_neg (by simp)]
      have ih := setE_new n k r h
      rw [ih]

def isK (e n : Txt) (c : Cel) : Bool := decide (e = c.e ∧ n = c.n)
theorem findE_S (e n : Txt) : ∀ S : List Cel, findE (keyA e n) (S.map entA) = some ((S.find? (isK e n)).map fun c => vaA c.v)
  | [] => rfl
  | c :: r => by
    have ih := findE_S e n r
    simp only [List.map_cons, findE, entA, keyA, avEq, aggEq, scalEq, List.find?_cons, isK] at ih ⊢
    by_cases h1 : e = c.e
    · by_cases h2 : n = c.n
      · subst h1; subst h2; simp
      · have hb : (n == c.n) = false := by simpa using h2
        simp only [h1, beq_self_eq_true, hb, h2, and_false, decide_false]
        simp only [Option.map_some]
        rw [← h1]; exact ih
    · have hb : (e == c.e) = false := by simpa using h1
      simp only [hb, h1, false_and, decide_false]
      cases (n == c.n) <;> simp <;> exact ih
def setC (e n : Txt) (v : Va) : List Cel → List Cel
  | [] => [⟨e, n, v⟩]
  | c :: r => if isK e n c then ⟨e, n, v⟩ :: r else c :: setC e n v r
theorem setE_S (e n : Txt) (v : Va) : ∀ S : List Cel, setE (keyA e n) (vaA v) (S.map entA) = (setC e n v S).map entA
  | [] => rfl
  | c :: r => by
    have ih := setE_S e n v r
    simp only [List.map_cons, setE, entA, keyA, avEq, aggEq, scalEq, setC, isK] at ih ⊢
    by_cases h1 : e = c.e
    · by_cases h2 : n = c.n
      · subst h1; subst h2; simp [entA]
      · have hb : (n == c.n) = false := by simpa using h2
        simp only [h1, beq_self_eq_true, hb, h2, and_false, decide_false]
        rw [if_neg (by simp), if_neg (by simp), ← h1, ih]
        simp [entA, h1]
    · have hb : (e == c.e) = false := by simpa using h1
      simp only [hb, h1, false_and, decide_false]
      rw [if_neg (by cases (n == c.n) <;> simp), if_neg (by simp), ih]; rfl
@[simp] theorem keyOK_k (n : Txt) : keyOK false [.str] (.d (.str n)) = true := rfl
@[simp] theorem keyOK_S (e n : Txt) : keyOK true [.str, .str] (keyA e n) = true := rfl

/-- what is declared, the first of a name that may be -/
def kindsG (K : List Dec) (d : Dec) : List Dec := if (K.find? fun q => d.n = q.n) = none ∧ 1 ≤ d.k ∧ d.k ≤ 4 then K ++ [d] else K
def kindK (K : List Dec) (n : Txt) : Int := ((K.find? fun d => n = d.n).map (·.k)).getD 0

theorem run_New (D : List Dec) (hl : D.length ≤ BIG) : R F_store_New [decS D] [] = some (.pv 0 0, sH (D.foldl kindsG []) []) := by
  refine R_of at_store_New (by decide) ?_
  unfold BIG at hl
  have hL := loop_fold (X := X) (mask := mask_store_New_0) (body := body_store_New_0) D
    (fun i (K : List Dec) => ⟨mkE 50 [(3, .pv 20030 0), (12, decS D), (13, .d (.int .i64 D.length)), (14, .d (.int .i64 i))], [(20000, .mp false [.str] (K.map kA)), (20010, .mp true [.str, .str] []), (20030, .var [.map 20000, .map 20010])]⟩)
    (fun _ _ => True) (fun _ K d => kindsG K d) (fun K => (.exit 0, ⟨mkE 50 [(3, .pv 20030 0)], [(20000, .mp false [.str] (K.map kA)), (20010, .mp true [.str, .str] []), (20030, .var [.map 20000, .map 20010])]⟩)) (by simp)
    (fun i K d hi hd _ => by
      have hw := wrap_ok (a := (i : Int) + 1) (by omega) (by omega)
      refine ⟨trivial, ?_⟩
      obtain ⟨n, k⟩ := d
      have hf := findE_k n K
      unfold kindsG
      cases hF : (K.find? fun q => n = q.n) with
      | some q =>
        rw [hF] at hf
        simp -implicitDefEqProofs [body_store_New_0, mask_store_New_0, hi, hd, hw, hf]
      | none =>
        rw [hF] at hf
        have hs := setE_new n k K hF
        by_cases h1 : 1 ≤ k
        · by_cases h4 : k ≤ 4
          · simp -implicitDefEqProofs [body_store_New_0, mask_store_New_0, hi, hd, hw, hf, h1, h4, hs]
          · simp -implicitDefEqProofs [body_store_New_0, mask_store_New_0, hi, hd, hw, hf, h1, h4]
        · simp -implicitDefEqProofs [body_store_New_0, mask_store_New_0, hi, hd, hw, hf, h1])
    (fun K _ => by simp -implicitDefEqProofs [body_store_New_0]) [] trivial
  simp -implicitDefEqProofs [code_store_New]
  rw [hL _ (by simp -implicitDefEqProofs [mask_store_New_0])]
  have hf : ∀ (l : List Dec) (i : Nat) (a : List Dec), foldI (fun _ K d => kindsG K d) l i a = l.foldl kindsG a := by
    intro l
    induction l with
    | nil => intro i a; rfl
    | cons x r ih => intro i a; rw [foldI_cons, ih]; rfl
  rw [hf]
  simp -implicitDefEqProofs

theorem s_Kind (K : List Dec) (S : List Cel) (n : Txt) : R F_store_Store_Kind [.pv 0 0, stA n] (sH K S) = some (.d (.int .i64 (kindK K n)), sH K S) := by
  refine R_of at_store_Store_Kind (by decide) ?_
  have h := s_is K S
  have hf := findE_k n K
  unfold kindK
  cases hF : (K.find? fun q => n = q.n) with
  | none => rw [hF] at hf; simp -implicitDefEqProofs [code_store_Store_Kind, h, hf]
  | some q => rw [hF] at hf; simp -implicitDefEqProofs [code_store_Store_Kind, h, hf]

theorem run_own (v : Va) (hv : VaOK v) : R F_store_own [vaA v] [] = some (vaA v, []) := by
  refine R_of at_store_own (by decide) ?_
  have hl : v.l.length ≤ LIM := big_lim hv.l
  have h := run_CloneTx v.l hl
  obtain ⟨k, n, s, l⟩ := v
  simp -implicitDefEqProofs [code_store_own, h]

theorem s_Count (K : List Dec) (S : List Cel) : R F_store_Store_Count [.pv 0 0] (sH K S) = some (.d (.int .i64 S.length), sH K S) := by
  refine R_of at_store_Store_Count (by decide) ?_
  have h := s_is K S
  simp -implicitDefEqProofs [code_store_Store_Count, h]

/-- what a setting comes to -/
def setR (K : List Dec) (n : Txt) (v : Va) : Int := if kindK K n = 0 then 14 else if ¬ kindK K n = v.kind then 31 else vaCheck v

theorem s_Set (K : List Dec) (S : List Cel) (e n : Txt) (v : Va) (hv : VaOK v) :
    R F_store_Store_Set [.pv 0 0, stA e, stA n, vaA v] (sH K S) = some (.d (.int .i64 (setR K n v)), sH K (if setR K n v = 0 then setC e n v S else S)) := by
  refine R_of at_store_Store_Set (by decide) ?_
  have h1 := s_is K S
  have h2 := s_Kind K S n
  have h3 := run_vaCheck v hv
  have h4 := run_own v hv
  have h5 := findE_S e n S
  have h6 := setE_S e n v S
  obtain ⟨k, m, s, l⟩ := v
  unfold setR
  by_cases g1 : kindK K n = 0
  · simp -implicitDefEqProofs [code_store_Store_Set, h1, h2, g1]
  · by_cases g2 : kindK K n = k
    · rw [g2] at h2 g1 ⊢
      by_cases g3 : vaCheck ⟨k, m, s, l⟩ = 0
      · simp -implicitDefEqProofs [code_store_Store_Set, h1, h2, g1, h3, g3, h4, h5, h6]
      · simp -implicitDefEqProofs [code_store_Store_Set, h1, h2, g1, h3, g3]
    · simp -implicitDefEqProofs [code_store_Store_Set, h1, h2, g1, g2]

def getR (K : List Dec) (S : List Cel) (e n : Txt) : Va × Bool :=
  if kindK K n = 0 then (⟨0, 0, [], []⟩, false) else match S.find? (isK e n) with
    | some c => (c.v, true)
    | none => (⟨kindK K n, 0, [], []⟩, true)

theorem run_Zero05 (k : Int) (h1 : 1 ≤ k) (h4 : k ≤ 4) : R F_value_Zero [.d (.int .i64 k)] [] = some (vaA ⟨k, 0, [], []⟩, []) := by
  refine R_of at_value_Zero (by decide) ?_
  have g1 : ¬ k < 1 := by omega
  have g2 : ¬ 4 < k := by omega
  simp -implicitDefEqProofs [code_value_Zero, g1, g2]

def KOK (K : List Dec) : Prop := ∀ d ∈ K, 1 ≤ d.k ∧ d.k ≤ 4
theorem kindK_ok {K : List Dec} (hK : KOK K) (n : Txt) : kindK K n = 0 ∨ 1 ≤ kindK K n ∧ kindK K n ≤ 4 := by
  unfold kindK
  cases h : K.find? fun d => n = d.n with
  | none => exact .inl rfl
  | some d => exact .inr (hK d (List.mem_of_find?_eq_some h))
theorem kindsG_ok {K : List Dec} (hK : KOK K) (d : Dec) : KOK (kindsG K d) := by
  unfold kindsG
  split
  · rename_i h
    intro q hq
    rcases List.mem_append.1 hq with hq | hq
    · exact hK q hq
    · simp at hq; subst hq; exact h.2
  · exact hK
theorem kinds_ok (D : List Dec) : KOK (D.foldl kindsG []) := by
  have : ∀ (D K : List Dec), KOK K → KOK (D.foldl kindsG K) := by
    intro D
    induction D with
    | nil => intro K h; exact h
    | cons d r ih => intro K h; exact ih _ (kindsG_ok h d)
  exact this D [] (fun d h => by cases h)

theorem s_Get (K : List Dec) (S : List Cel) (e n : Txt) (hK : KOK K) (hS : ∀ c ∈ S, VaOK c.v) :
    R F_store_Store_Get [.pv 0 0, stA e, stA n] (sH K S) = some (.tup [vaA (getR K S e n).1, .d (.bool (getR K S e n).2)], sH K S) := by
  refine R_of at_store_Store_Get (by decide) ?_
  have h2 := s_Kind K S n
  have h5 := findE_S e n S
  unfold getR
  rcases kindK_ok hK n with g1 | ⟨g1, g2⟩
  · simp -implicitDefEqProofs [code_store_Store_Get, h2, g1]
  · have g0 : ¬ kindK K n = 0 := by omega
    cases hF : S.find? (isK e n) with
    | none =>
      rw [hF] at h5
      have h6 := run_Zero05 _ g1 g2
      simp -implicitDefEqProofs [code_store_Store_Get, h2, g0, h5, h6]
    | some c =>
      rw [hF] at h5
      have h4 := run_own c.v (hS c (List.mem_of_find?_eq_some hF))
      obtain ⟨ce, cn, k, m, s, l⟩ := c
      simp -implicitDefEqProofs [code_store_Store_Get, h2, g0, h5, h4]

theorem s_Clone (K : List Dec) (S : List Cel) : R F_store_Store_Clone [.pv 0 0] (sH K S) =
    some (.pv 3 0, sH K S ++ [(3, .var [.map 4, .map 5]), (4, .mp false [.str] (K.map kA)), (5, .mp true [.str, .str] (S.map entA))]) := by
  refine R_of at_store_Store_Clone (by decide) ?_
  have h := s_is K S
  have c1 : R F_maps_Clone_map_string_int_string_int [.map 0] [(0, .mp false [.str] (K.map kA))] = some (.map 1, [(0, .mp false [.str] (K.map kA)), (1, .mp false [.str] (K.map kA))]) :=
    R_ext (ext_maps_Clone_map_string_int_string_int (by simp [extClone]))
  have c2 : R F_maps_Clone_map_store_key_api_Value_store_key_api_Value [.map 0] [(0, .mp true [.str, .str] (S.map entA))] = some (.map 1, [(0, .mp true [.str, .str] (S.map entA)), (1, .mp true [.str, .str] (S.map entA))]) :=
    R_ext (ext_maps_Clone_map_store_key_api_Value_store_key_api_Value (by simp [extClone]))
  simp -implicitDefEqProofs [code_store_Store_Clone, h, c1, c2]

/-! ### by the page -/
def celC (c : Cel) : List D := [.str c.e, .str c.n, .int .i64 c.v.kind, .int .i64 c.v.n, .str c.v.s, .vs false (c.v.l.map stC)]
@[simp] theorem celC_eq (c : Cel) : celC c = [.str c.e, .str c.n, .int .i64 c.v.kind, .int .i64 c.v.n, .str c.v.s, .vs false (c.v.l.map stC)] := rfl
@[simp] theorem sized_cel (l : List Cel) : sized 6 (l.map celC) = true := sized_map 6 celC (fun _ => rfl) l
abbrev celS (l : List Cel) : AV := .d (.vs false (l.map celC))
abbrev staA (Ds : List Dec) (C : List Cel) : AV := .agg [decS Ds, celS C]

def hasK (n : Txt) (d : Dec) : Bool := decide (d.n = n ∧ 1 ≤ d.k ∧ d.k ≤ 4)
def kindM (Ds : List Dec) (n : Txt) : Int := ((Ds.find? (hasK n)).map (·.k)).getD 0

theorem p_Kind (Ds : List Dec) (C : List Cel) (n : Txt) (hl : Ds.length ≤ BIG) : R F_ref05_Kind [staA Ds C, stA n] [] = some (.d (.int .i64 (kindM Ds n)), []) := by
  refine R_of at_ref05_Kind (by decide) ?_
  unfold BIG at hl
  have hL := loop_find (X := X) (mask := mask_ref05_Kind_0) (body := body_ref05_Kind_0) Ds
    (fun i => ⟨mkE 45 [(1, stA n), (2, .pv 10000 0), (5, .d (.int .i64 i))], [(10000, .var [decS Ds, celS C])]⟩)
    (fun _ d => hasK n d) (.exit 0, ⟨mkE 45 [], []⟩) (fun _ d => (.ret, ⟨mkE 45 [(4, .d (.int .i64 d.k))], []⟩)) (by simp) (by simp)
    (fun i d hi hd hq => by
      have hw := wrap_ok (a := (i : Int) + 1) (by omega) (by omega)
      obtain ⟨m, k⟩ := d
      unfold hasK at hq
      by_cases h1 : m = n
      · by_cases h2 : 1 ≤ k
        · have h3 : ¬ k ≤ 4 := fun h => by simp [h1, h2, h] at hq
          simp -implicitDefEqProofs [body_ref05_Kind_0, mask_ref05_Kind_0, hi, hd, hw, h1, h2, h3]
        · simp -implicitDefEqProofs [body_ref05_Kind_0, mask_ref05_Kind_0, hi, hd, hw, h1, h2]
      · simp -implicitDefEqProofs [body_ref05_Kind_0, mask_ref05_Kind_0, hi, hd, hw, h1])
    (fun i d hi hd hq => by
      obtain ⟨m, k⟩ := d
      simp only [hasK, decide_eq_true_eq] at hq
      obtain ⟨rfl, h2, h3⟩ := hq
      simp -implicitDefEqProofs [body_ref05_Kind_0, hi, hd, h2, h3]) (by simp -implicitDefEqProofs [body_ref05_Kind_0])
  simp -implicitDefEqProofs [code_ref05_Kind]
  rw [hL _ (by simp -implicitDefEqProofs [mask_ref05_Kind_0])]
  have hf : ∀ (l : List Dec) (i : Nat), (findI (fun _ d => hasK n d) l i).map (·.2) = l.find? (hasK n) := by
    intro l
    induction l with
    | nil => intro i; rfl
    | cons x r ih =>
      intro i
      unfold findI
      by_cases h : hasK n x = true
      · simp [h]
      · simp [h, ih]
  unfold kindM
  rw [← hf Ds 0]
  cases findI (fun _ d => hasK n d) Ds 0 <;> simp -implicitDefEqProofs
end Bz.S
