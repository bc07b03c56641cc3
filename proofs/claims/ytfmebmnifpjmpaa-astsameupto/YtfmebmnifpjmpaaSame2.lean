/- Expressions cloned: rows of their own. -/
import Derived.Test.YtfmebmnifpjmpaaSame
set_option linter.unusedSimpArgs false
set_option linter.unusedVariables false
namespace Bz.S
open Go Bz
set_option maxRecDepth 10000
set_option maxHeartbeats 4000000

/-! ### rows that an expression owns -/
mutual
def exO : Ex → List O
  | .mk k s n l h ks => [.d (.int .i64 k), .d (.str s), .d (.int .i64 n), .d (.int .i64 l), .d (.int .i64 h), if ks.length = 0 then .d (.vs true []) else .osl 6 ks.length (exOs ks)]
def exOs : List Ex → List (List O)
  | [] => []
  | e :: r => exO e :: exOs r
end

theorem exOs_map (l : List Ex) : exOs l = l.map exO := by
  induction l with
  | nil => rfl
  | cons e r ih => simp [exOs, ih]
def kidsO (l : List Ex) : O := if l.length = 0 then .d (.vs true []) else .osl 6 l.length (l.map exO)
def kidsA (l : List Ex) : AV := if l.length = 0 then .d (.vs true []) else .ow (.osl 6 l.length (l.map exO))
abbrev headA5 (e : Ex) (v : AV) : List AV := [.d (.int .i64 e.kind), .d (.str e.name), .d (.int .i64 e.n), .d (.int .i64 e.lo), .d (.int .i64 e.hi), v]
/-- an expression's row -/
def exR (e : Ex) : List AV := headA5 e (kidsA e.kids)
theorem exO_eq (e : Ex) : exO e = [.d (.int .i64 e.kind), .d (.str e.name), .d (.int .i64 e.n), .d (.int .i64 e.lo), .d (.int .i64 e.hi), kidsO e.kids] := by
  cases e; simp [exO, exOs_map, kidsO, Ex.kind, Ex.name, Ex.n, Ex.lo, Ex.hi, Ex.kids]
theorem ofO_kids (l : List Ex) : ofO (kidsO l) = kidsA l := by unfold kidsO kidsA; split <;> rfl
theorem toO_kids (l : List Ex) : toO (kidsA l) = some (kidsO l) := by unfold kidsO kidsA; split <;> rfl
theorem exO_ofO (e : Ex) : (exO e).map ofO = exR e := by rw [exO_eq]; simp [exR, ofO_kids]
theorem toOs_exR (e : Ex) : toOs (exR e) = some (exO e) := by rw [exO_eq]; simp [exR, toO_kids]
theorem toOss_exR (l : List Ex) : toOss (l.map exR) = some (l.map exO) := by
  induction l with
  | nil => rfl
  | cons e r ih => simp [toOss, ih, toOs_exR]
@[simp] theorem refs_kids (l : List Ex) : refs (kidsA l) = [] := by unfold kidsA; split <;> rfl
@[simp] theorem ren_kids (g : Nat → Nat) (l : List Ex) : ren g (kidsA l) = kidsA l := by unfold kidsA; split <;> rfl
theorem refsL_exR (e : Ex) : refsL (exR e) = [] := by simp [exR, refsL, refs, refs_kids]
@[simp] theorem refsLL_exR (l : List Ex) : refsLL (l.map exR) = [] := refsLL_none fun c hc => by obtain ⟨e, _, rfl⟩ := List.mem_map.1 hc; exact refsL_exR e
@[simp] theorem renL_exR (g : Nat → Nat) (e : Ex) : renL g (exR e) = exR e := by simp [exR, renL, ren, ren_kids]
@[simp] theorem ren_exRs (g : Nat → Nat) (l : List Ex) : (l.map exR).map (renL g) = l.map exR := by simp
@[simp] theorem ren_exRs' (g : Nat → Nat) (l : List Ex) : l.map (renL g ∘ exR) = l.map exR := by simp [Function.comp_def]
theorem refCols_exR (e : Ex) : refCols 0 (exR e) = [] := by
  simp only [exR, refCols]
  unfold kidsA; split <;> rfl
theorem refAt_closed (l : List Ex) : ∀ c ∈ l.map exR, refCols 0 c = [] := fun c hc => by obtain ⟨e, _, rfl⟩ := List.mem_map.1 hc; exact refCols_exR e
theorem pure_kids : ∀ (e : Ex), pureOs (exO e) = true
  | .mk k s n l h ks => by
    have hk : pureOss (exOs ks) = true := by
      have : ∀ l : List Ex, (∀ e ∈ l, pureOs (exO e) = true) → pureOss (exOs l) = true := by
        intro l
        induction l with
        | nil => intro _; rfl
        | cons a r ih => intro h; simp [exOs, pureOss, h a (by simp), ih fun e he => h e (by simp [he])]
      exact this ks fun e he => pure_kids e
    simp only [exO, pureOs, pureO, pureD, Bool.true_and, Bool.and_true]
    split
    · rfl
    · exact hk
@[simp] theorem pureC_kids (l : List Ex) : pureC (kidsA l) = true := by
  unfold kidsA; split
  · rfl
  · have : ∀ l : List Ex, pureOss (l.map exO) = true := by
      intro l
      induction l with
      | nil => rfl
      | cons a r ih => simp [pureOss, pure_kids, ih]
    simp [pureO, this]
@[simp] theorem pure_exR (l : List Ex) : ((l.map exR).all fun c => c.all pureC) = true := by
  simp only [List.all_eq_true]
  intro c hc
  obtain ⟨e, _, rfl⟩ := List.mem_map.1 hc
  simp [exR, pureC_kids]

mutual
theorem viewOs_exO : ∀ e : Ex, viewOs (exO e) = some (exC e)
  | .mk k s n l h ks => by
    have hl : (exCs ks).length = ks.length := by rw [exCs_map]; simp
    have hk : viewO (if ks.length = 0 then .d (.vs true []) else .osl 6 ks.length (exOs ks)) = some (.vs false (exCs ks)) := by
      split
      · rename_i h0
        have : ks = [] := List.length_eq_zero_iff.1 h0
        subst this
        rfl
      · simp only [viewO, viewOss_exOs ks]
        rw [List.take_of_length_le (by omega)]
    simp only [exO, viewOs, hk, exC]
    simp only [viewO, norm]
theorem viewOss_exOs : ∀ l : List Ex, viewOss (exOs l) = some (exCs l)
  | [] => rfl
  | e :: r => by simp only [exOs, viewOss, viewOs_exO e, viewOss_exOs r, exCs]
end

theorem view_kids (l : List Ex) : viewA (kidsA l) = some (.vs false (l.map exC)) := by
  unfold kidsA
  split
  · rename_i h0
    have : l = [] := List.length_eq_zero_iff.1 h0
    subst this; rfl
  · simp only [viewA, viewO, ← exOs_map, viewOss_exOs]
    rw [List.take_of_length_le (by rw [exCs_map]; simp), exCs_map]
theorem viewAs_exR (e : Ex) : viewAs (exR e) = some (exC e) := by
  simp only [exR, viewAs, viewA_d, norm, view_kids, exC_eq]
@[simp] theorem viewAss_exR (l : List Ex) : viewAss (l.map exR) = some (l.map exC) := by
  induction l with
  | nil => rfl
  | cons e r ih => simp only [List.map_cons, viewAss, viewAs_exR, ih]
@[simp] theorem sizedO_one (sz : Nat) (c : List AV) : sizedO sz [c] = (c.length == sz && c.all flatA) := by simp [sizedO]

/-- a row's slice, folded -/
theorem fold1_ex {H : Heap} {nm : Nat} {l : List Ex} (hn : 10000 ≤ nm) (h : hget H nm = some (.oar 6 (l.map exR))) : fold1 H (.os nm l.length 0 l.length) = some (kidsA l, nm) := by
  simp only [fold1, hn, if_true, h, List.length_map, and_self, toOss_exR]
  unfold kidsA
  split <;> rfl

@[simp] theorem refAt_all (a : List Ex) : refAt (a.map exR) = [] := refAtF_closed (refAt_closed a)
@[simp] theorem refAt_nil : refAt [] = [] := rfl
@[simp] theorem refAt_last (a : List Ex) (e : Ex) (l n o k : Nat) : refAt (a.map exR ++ [headA5 e (.os l n o k)]) = [(a.length, 5)] := by
  unfold refAt
  rw [refAtF_app, refAtF_closed (refAt_closed a)]
  simp [refAtF, refCols]
@[simp] theorem refAt_lastC (a : List Ex) (e : Ex) (l : List Ex) : refAt (a.map exR ++ [headA5 e (kidsA l)]) = [] := by
  unfold refAt
  rw [refAtF_app, refAtF_closed (refAt_closed a)]
  simp only [refAtF, refCols, List.nil_append]
  unfold kidsA; split <;> rfl
@[simp] theorem refAt_one (e : Ex) (l n o k : Nat) : refAt [headA5 e (.os l n o k)] = [(0, 5)] := rfl
theorem refAt_set (a : List Ex) {i : Nat} (hi : i < a.length) (c : List AV) : refAt ((a.map exR).set i c) = (refCols 0 c).map fun j => (i, j) := by
  unfold refAt
  rw [refAtF_set (refAt_closed a) (by simpa using hi), Nat.zero_add]
@[simp] theorem get_last (a : List Ex) (c : List AV) : (a.map exR ++ [c])[a.length]? = some c := by
  rw [List.getElem?_append_right (by simp)]; simp
@[simp] theorem set_last (a : List Ex) (c d : List AV) : (a.map exR ++ [c]).set a.length d = a.map exR ++ [d] := by
  rw [List.set_append_right _ _ (by simp)]; simp
attribute [simp] closeO closeRow closeE

/-- an expression, its kids in a row of its own -/
abbrev exOwn (e : Ex) : AV × Heap := (.agg [.d (.int .i64 e.kind), .d (.str e.name), .d (.int .i64 e.n), .d (.int .i64 e.lo), .d (.int .i64 e.hi), .os 0 e.kids.length 0 e.kids.length], [(0, .oar 6 (e.kids.map exR))])

theorem run_Clone : ∀ (e : Ex), exN e ≤ BIG → R F_ast_Clone [exA e] [] = some (exOwn e) := by
  refine exIndB fun e hb IH => ?_
  refine R_of at_ast_Clone (by decide) ?_
  have hlen : e.kids.length ≤ BIG := by have := exNs_len e.kids; have := exN_eq e; omega
  unfold BIG at hlen
  have hL := loop_fold (X := X) (mask := mask_ast_Clone_0) (body := body_ast_Clone_0) e.kids
    (fun i (a : List Ex) => ⟨mkE 22 [(1, .pv 10000 0), (2, .pv 10010 0), (3, .os 10000030 a.length 0 a.length), (7, exS e.kids), (8, .d (.int .i64 e.kids.length)), (9, .d (.int .i64 i))], [(10000, .var (exV e)), (10010, .var [.d (.int .i64 0), .d (.str []), .d (.int .i64 0), .d (.int .i64 0), .d (.int .i64 0), .d (.vs true [])]), (10000030, .oar 6 (a.map exR))]⟩)
    (fun i a => a.length = i) (fun _ a k => a ++ [k]) (fun a => (.exit 0, ⟨mkE 22 [(1, .pv 10000 0), (2, .pv 10010 0), (3, .os 10000030 a.length 0 a.length)], [(10000, .var (exV e)), (10010, .var [.d (.int .i64 0), .d (.str []), .d (.int .i64 0), .d (.int .i64 0), .d (.int .i64 0), .d (.vs true [])]), (10000030, .oar 6 (a.map exR))]⟩)) (by simp)
    (fun i a k hi hk hI => by
      have hw := wrap_ok (a := (i : Int) + 1) (by omega) (by omega)
      have hc := IH k (hk ▸ List.getElem_mem hi)
      have hal : a.length + 1 ≤ LIM := by unfold LIM; omega
      refine ⟨by simp [hI], ?_⟩
      simp -implicitDefEqProofs [body_ast_Clone_0, mask_ast_Clone_0, hi, hk, hw, hc, hal, fold1_ex, exR])
    (fun a _ => by simp -implicitDefEqProofs [body_ast_Clone_0]) [] rfl
  have hf : ∀ (l : List Ex) (i : Nat) (a : List Ex), foldI (fun _ a k => a ++ [k]) l i a = a ++ l := by
    intro l
    induction l with
    | nil => intro i a; simp
    | cons x r ih => intro i a; rw [foldI_cons, ih]; simp
  rw [hf, List.nil_append] at hL
  simp -implicitDefEqProofs [code_ast_Clone]
  rw [hL _ (by simp -implicitDefEqProofs [mask_ast_Clone_0])]
  simp -implicitDefEqProofs
end Bz.S
