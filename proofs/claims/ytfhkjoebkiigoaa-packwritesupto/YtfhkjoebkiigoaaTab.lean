/- Expressions as tables: rows out of expressions (the program's table.Of, the page's ref13.Of), walked. -/
import Derived.Test.YtfhkjoebkiigoaaLaw07
import Derived.Test.YtfhkjoebkiigoaaTypM
set_option linter.unusedSimpArgs false
set_option linter.unusedVariables false
namespace Bz.S
open Go Bz
set_option maxRecDepth 10000
set_option maxHeartbeats 4000000

/-- a row -/
structure Rw where
  kind : Int
  name : Txt
  n : Int
  lo : Int
  hi : Int
  set : List Txt
  kids : List Int
  deriving DecidableEq
def sxC (s : Txt) : List D := [.str s]
@[simp] theorem sxC_eq (s : Txt) : sxC s = [.str s] := rfl
@[simp] theorem sized_sx (l : List Txt) : sized 1 (l.map sxC) = true := sized_map 1 sxC (fun _ => rfl) l
abbrev sxS (l : List Txt) : AV := .d (.vs false (l.map sxC))
def rwC (r : Rw) : List D := [.int .i64 r.kind, .str r.name, .int .i64 r.n, .int .i64 r.lo, .int .i64 r.hi, .vs false (r.set.map sxC), .vs false (r.kids.map i6C)]
@[simp] theorem rwC_eq (r : Rw) : rwC r = [.int .i64 r.kind, .str r.name, .int .i64 r.n, .int .i64 r.lo, .int .i64 r.hi, .vs false (r.set.map sxC), .vs false (r.kids.map i6C)] := rfl
@[simp] theorem sized_rw (l : List Rw) : sized 7 (l.map rwC) = true := sized_map 7 rwC (fun _ => rfl) l
abbrev rwS (l : List Rw) : AV := .d (.vs false (l.map rwC))
abbrev rwA (r : Rw) : AV := .agg [.d (.int .i64 r.kind), .d (.str r.name), .d (.int .i64 r.n), .d (.int .i64 r.lo), .d (.int .i64 r.hi), sxS r.set, i6S r.kids]

/-- a row without its kids' places -/
def ownRow (e : Ex) : Rw := ⟨e.kind, e.name, e.n, e.lo, e.hi, if e.kind = 4 then e.kids.map Ex.name else [], []⟩
mutual
def rowsE : Ex → Nat → List Rw
  | .mk k s n lo hi kids, f => if k = 4 then [⟨k, s, n, lo, hi, kids.map Ex.name, []⟩] else (rowsEs kids f).1 ++ [⟨k, s, n, lo, hi, [], (rowsEs kids f).2⟩]
def rowsEs : List Ex → Nat → List Rw × List Int
  | [], _ => ([], [])
  | e :: r, f => (rowsE e f ++ (rowsEs r (f + (rowsE e f).length)).1, (((f + (rowsE e f).length : Nat) : Int) - 1) :: (rowsEs r (f + (rowsE e f).length)).2)
end

theorem rowsE_eq (e : Ex) (f : Nat) : rowsE e f = if e.kind = 4 then [ownRow e] else (rowsEs e.kids f).1 ++ [{ ownRow e with kids := (rowsEs e.kids f).2 }] := by
  obtain ⟨k, s, n, lo, hi, kids⟩ := e
  simp only [rowsE, ownRow, Ex.kind, Ex.name, Ex.n, Ex.lo, Ex.hi, Ex.kids]
  by_cases h : k = 4 <;> simp [h]
theorem rows_len : ∀ (e : Ex) (f : Nat), (rowsE e f).length = size e := by
  refine exInd (p := fun e => ∀ f, (rowsE e f).length = size e) fun e IH f => ?_
  have h2 : ∀ (l : List Ex), (∀ k ∈ l, ∀ f, (rowsE k f).length = size k) → ∀ f, (rowsEs l f).1.length = sizes l := by
    intro l
    induction l with
    | nil => intro _ f; rfl
    | cons k r ih =>
      intro h f
      simp only [rowsEs, sizes, List.length_append]
      rw [h k (by simp), ih fun k hk => h k (by simp [hk])]
  rw [rowsE_eq, size_eq]
  unfold innerK
  split
  · rfl
  · simp [h2 e.kids IH f]
theorem rowsEs_len (l : List Ex) (f : Nat) : (rowsEs l f).1.length = sizes l := by
  induction l generalizing f with
  | nil => rfl
  | cons k r ih =>
    simp only [rowsEs, sizes, List.length_append]
    rw [rows_len, ih]

/-! ### the program's -/
theorem run_tabOwn (e : Ex) (hb : exN e ≤ BIG) : R F_table_own [exA e] [] = some (.agg [.d (.int .i64 e.kind), .d (.str e.name), .d (.int .i64 e.n), .d (.int .i64 e.lo), .d (.int .i64 e.hi), .os 0 (ownRow e).set.length 0 (ownRow e).set.length, .d (.vs true [])], [(0, .arr 1 ((ownRow e).set.map sxC))]) := by
  refine R_of at_table_own (by decide) ?_
  have hlen : e.kids.length ≤ BIG := by have := exNs_len e.kids; have := exN_eq e; omega
  unfold BIG at hlen
  by_cases h4 : e.kind = 4
  · have hL := loop_fold (X := X) (mask := mask_table_own_0) (body := body_table_own_0) e.kids
      (fun i (a : List Txt) => ⟨mkE 36 [(2, .pv 10010 0), (3, .pv 20110 0), (21, exS e.kids), (22, .d (.int .i64 e.kids.length)), (23, .d (.int .i64 i))],
        [(10010, .var [.d (.int .i64 0), .d (.str []), .d (.int .i64 0), .d (.int .i64 0), .d (.int .i64 0), .d (.vs true []), .d (.vs true [])]),
         (20110, .var [.d (.int .i64 e.kind), .d (.str e.name), .d (.int .i64 e.n), .d (.int .i64 e.lo), .d (.int .i64 e.hi), .os 22011050 a.length 0 a.length, .d (.vs true [])]), (22011050, .arr 1 (a.map sxC))]⟩)
      (fun i a => a.length = i) (fun _ a k => a ++ [k.name])
      (fun a => (.exit 0, ⟨mkE 36 [(2, .pv 10010 0), (3, .pv 20110 0)],
        [(10010, .var [.d (.int .i64 0), .d (.str []), .d (.int .i64 0), .d (.int .i64 0), .d (.int .i64 0), .d (.vs true []), .d (.vs true [])]),
         (20110, .var [.d (.int .i64 e.kind), .d (.str e.name), .d (.int .i64 e.n), .d (.int .i64 e.lo), .d (.int .i64 e.hi), .os 22011050 a.length 0 a.length, .d (.vs true [])]), (22011050, .arr 1 (a.map sxC))]⟩)) (by simp)
      (fun i a k hi hk hI => by
        have hw := wrap_ok (a := (i : Int) + 1) (by omega) (by omega)
        have hal : a.length + 1 ≤ LIM := by unfold LIM; omega
        refine ⟨by simp [hI], ?_⟩
        simp -implicitDefEqProofs [body_table_own_0, mask_table_own_0, hi, hk, hw, hal]) (fun a _ => by simp -implicitDefEqProofs [body_table_own_0]) [] rfl
    have hf : ∀ (l : List Ex) (i : Nat) (a : List Txt), foldI (fun _ (a : List Txt) (k : Ex) => a ++ [k.name]) l i a = a ++ l.map Ex.name := by
      intro l
      induction l with
      | nil => intro i a; simp
      | cons x r ih => intro i a; rw [foldI_cons, ih]; simp
    rw [hf, List.nil_append] at hL
    have hS : (ownRow e).set = e.kids.map Ex.name := by unfold ownRow; rw [if_pos h4]
    rw [hS]
    generalize e.kids.map Ex.name = S at *
    simp -implicitDefEqProofs [code_table_own, eq_true h4]
    rw [hL _ (by simp -implicitDefEqProofs [mask_table_own_0])]
    simp -implicitDefEqProofs
  · have hS : (ownRow e).set = [] := by unfold ownRow; rw [if_neg h4]
    rw [hS]
    simp -implicitDefEqProofs [code_table_own, h4]

/-- the memory of table.Of's inner function -/
abbrev tbH (l : List Rw) : Heap := [(0, .var [.fn F_table_Of_1 [.pv 0 0, .pv 1 0]]), (1, .var [.os 2 l.length 0 l.length]), (2, .arr 7 (l.map rwC))]
abbrev tb0 : Heap := [(0, .var [.fn F_table_Of_1 [.pv 0 0, .pv 1 0]]), (1, .var [.d (.vs true [])])]

theorem size_pos (e : Ex) : 1 ≤ size e := by rw [size_eq]; omega

theorem run_put13 : ∀ (e : Ex), exN e ≤ BIG → ∀ l : List Rw, l.length + size e ≤ BIG →
    R F_table_Of_1 [exA e, .pv 0 0, .pv 1 0] (tbH l) = some (.d (.int .i64 (((l ++ rowsE e l.length).length : Nat) - 1 : Int)), tbH (l ++ rowsE e l.length)) := by
  refine exIndB fun e hb IH l hl => ?_
  refine R_of at_table_Of_1 (by decide) ?_
  have h1 := run_tabOwn e hb
  have hlen : e.kids.length ≤ BIG := by have := exNs_len e.kids; have := exN_eq e; omega
  have hsz := size_eq e
  unfold BIG at hl hlen
  rw [rowsE_eq]
  by_cases h4 : e.kind = 4
  · have hll : l.length + 1 ≤ LIM := by unfold LIM; have := size_pos e; omega
    have hw := wrap_ok (a := (l.length : Int)) (by omega) (by have := size_pos e; omega)
    rw [if_pos h4]
    have e0 : ownRow e = ⟨e.kind, e.name, e.n, e.lo, e.hi, (ownRow e).set, []⟩ := rfl
    generalize (ownRow e).set = S at h1 e0
    rw [e0]
    simp -implicitDefEqProofs [code_table_Of_1, eq_true h4, h1, hll, hw]
  · rw [if_neg h4]
    have hS : (ownRow e).set = [] := by unfold ownRow; rw [if_neg h4]
    rw [hS] at h1
    have e0 : ownRow e = ⟨e.kind, e.name, e.n, e.lo, e.hi, [], []⟩ := by rw [← hS]; rfl
    rw [e0]
    have hin : innerK e = e.kids := by unfold innerK; rw [if_neg h4]
    rw [hin] at hsz
    have hsub : ∀ i : Nat, i < e.kids.length → sizes (e.kids.take i) + size (e.kids[i]?.getD e) ≤ sizes e.kids := by
      intro i hi
      rw [List.getElem?_eq_getElem hi]
      have := sizes_take hi
      have := sizes_take_le e.kids (i + 1)
      simp only [Option.getD_some]
      omega
    have hL := loop_fold (X := X) (mask := mask_table_Of_1_0) (body := body_table_Of_1_0) e.kids
      (fun i (a : List Rw × List Int) => ⟨mkE 36 [(1, .pv 0 0), (2, .pv 1 0), (5, .pv 20020 0), (14, exS e.kids), (15, .d (.int .i64 e.kids.length)), (16, .d (.int .i64 i))],
        [(0, .var [.fn F_table_Of_1 [.pv 0 0, .pv 1 0]]), (1, .var [.os 2 a.1.length 0 a.1.length]), (2, .arr 7 (a.1.map rwC)),
         (20010, .arr 1 []), (20020, .var [.d (.int .i64 e.kind), .d (.str e.name), .d (.int .i64 e.n), .d (.int .i64 e.lo), .d (.int .i64 e.hi), .os 20010 0 0 0, .os 22002060 a.2.length 0 a.2.length]), (22002060, .arr 1 (a.2.map i6C))]⟩)
      (fun i a => a.2.length = i ∧ a.1.length = l.length + sizes (e.kids.take i)) (fun _ a k => (a.1 ++ rowsE k a.1.length, a.2 ++ [((a.1.length + (rowsE k a.1.length).length : Nat) : Int) - 1]))
      (fun a => (.exit 0, ⟨mkE 36 [(2, .pv 1 0), (5, .pv 20020 0)],
        [(0, .var [.fn F_table_Of_1 [.pv 0 0, .pv 1 0]]), (1, .var [.os 2 a.1.length 0 a.1.length]), (2, .arr 7 (a.1.map rwC)),
         (20010, .arr 1 []), (20020, .var [.d (.int .i64 e.kind), .d (.str e.name), .d (.int .i64 e.n), .d (.int .i64 e.lo), .d (.int .i64 e.hi), .os 20010 0 0 0, .os 22002060 a.2.length 0 a.2.length]), (22002060, .arr 1 (a.2.map i6C))]⟩)) (by simp)
      (fun i a k hi hk hI => by
        obtain ⟨m, ks⟩ := a
        simp only at hI
        have hs := hsub i hi
        rw [List.getElem?_eq_getElem hi, hk] at hs
        simp only [Option.getD_some] at hs
        have hst := sizes_take hi
        rw [hk] at hst
        have hc := IH k (hk ▸ List.getElem_mem hi) m (by rw [hI.2]; unfold BIG; omega)
        have hw := wrap_ok (a := (i : Int) + 1) (by omega) (by omega)
        have hal : ks.length + 1 ≤ LIM := by unfold LIM; omega
        refine ⟨by simp [hI, rows_len, hst]; omega, ?_⟩
        simp -implicitDefEqProofs at hc
        simp -implicitDefEqProofs [body_table_Of_1_0, mask_table_Of_1_0, hi, hk, hc, hw, hal]) (fun a _ => by simp -implicitDefEqProofs [body_table_Of_1_0]) (l, []) ⟨rfl, by simp [sizes]⟩
    have hf : ∀ (kids : List Ex) (i : Nat) (m : List Rw) (ks : List Int), foldI (fun _ (a : List Rw × List Int) (k : Ex) => (a.1 ++ rowsE k a.1.length, a.2 ++ [((a.1.length + (rowsE k a.1.length).length : Nat) : Int) - 1])) kids i (m, ks) = (m ++ (rowsEs kids m.length).1, ks ++ (rowsEs kids m.length).2) := by
      intro kids
      induction kids with
      | nil => intro i m ks; simp [rowsEs]
      | cons k r ih =>
        intro i m ks
        rw [foldI_cons, ih]
        simp [rowsEs]
    rw [hf, List.nil_append] at hL
    have hrl := rowsEs_len e.kids l.length
    generalize rowsEs e.kids l.length = Q at *
    obtain ⟨q, ks⟩ := Q
    simp only at hL hrl ⊢
    have hll : l.length + q.length + 1 ≤ LIM := by unfold LIM; omega
    have hw := wrap_ok (a := (l.length : Int) + q.length) (by omega) (by omega)
    simp -implicitDefEqProofs at h1
    simp -implicitDefEqProofs [code_table_Of_1, h4, h1]
    rw [hL _ (by simp -implicitDefEqProofs [mask_table_Of_1_0])]
    have ha : l.length + (q.length + 1) = l.length + q.length + 1 := by omega
    have ha2 : (l.length : Int) + ((q.length : Int) + 1) - 1 = l.length + q.length := by omega
    simp -implicitDefEqProofs [hll, hw, ha, ha2]

/-! ### the table -/
theorem run_put0 (e : Ex) (hb : exN e ≤ BIG) (hs : size e ≤ BIG) :
    R F_table_Of_1 [exA e, .pv 0 0, .pv 1 0] tb0 = some (.d (.int .i64 (((rowsE e 0).length : Nat) - 1 : Int)), tbH (rowsE e 0)) := by
  refine R_of at_table_Of_1 (by decide) ?_
  have h1 := run_tabOwn e hb
  have hlen : e.kids.length ≤ BIG := by have := exNs_len e.kids; have := exN_eq e; omega
  have hsz := size_eq e
  unfold BIG at hs hlen
  rw [rowsE_eq]
  by_cases h4 : e.kind = 4
  · have hll : 1 ≤ LIM := by unfold LIM; omega
    have hw := wrap_ok (a := (0 : Int)) (by omega) (by omega)
    rw [if_pos h4]
    have e0 : ownRow e = ⟨e.kind, e.name, e.n, e.lo, e.hi, (ownRow e).set, []⟩ := rfl
    generalize (ownRow e).set = S at h1 e0
    rw [e0]
    simp -implicitDefEqProofs [code_table_Of_1, eq_true h4, h1, hll, hw]
  · rw [if_neg h4]
    have hS : (ownRow e).set = [] := by unfold ownRow; rw [if_neg h4]
    rw [hS] at h1
    have e0 : ownRow e = ⟨e.kind, e.name, e.n, e.lo, e.hi, [], []⟩ := by rw [← hS]; rfl
    rw [e0]
    have hin : innerK e = e.kids := by unfold innerK; rw [if_neg h4]
    rw [hin] at hsz
    have hsub : ∀ i : Nat, i < e.kids.length → sizes (e.kids.take i) + size (e.kids[i]?.getD e) ≤ sizes e.kids := by
      intro i hi
      rw [List.getElem?_eq_getElem hi]
      have := sizes_take hi
      have := sizes_take_le e.kids (i + 1)
      simp only [Option.getD_some]
      omega
    have hL := loop_fold (X := X) (mask := mask_table_Of_1_0) (body := body_table_Of_1_0) e.kids
      (fun i (a : List Rw × List Int) => ⟨mkE 36 [(1, .pv 0 0), (2, .pv 1 0), (5, .pv 20020 0), (14, exS e.kids), (15, .d (.int .i64 e.kids.length)), (16, .d (.int .i64 i))],
        [(0, .var [.fn F_table_Of_1 [.pv 0 0, .pv 1 0]]), (1, .var [.os 20000100 a.1.length 0 a.1.length]), 
         (20010, .arr 1 []), (20020, .var [.d (.int .i64 e.kind), .d (.str e.name), .d (.int .i64 e.n), .d (.int .i64 e.lo), .d (.int .i64 e.hi), .os 20010 0 0 0, .os 22002060 a.2.length 0 a.2.length]), (20000100, .arr 7 (a.1.map rwC)), (22002060, .arr 1 (a.2.map i6C))]⟩)
      (fun i a => a.2.length = i ∧ a.1.length = sizes (e.kids.take i)) (fun _ a k => (a.1 ++ rowsE k a.1.length, a.2 ++ [((a.1.length + (rowsE k a.1.length).length : Nat) : Int) - 1]))
      (fun a => (.exit 0, ⟨mkE 36 [(2, .pv 1 0), (5, .pv 20020 0)],
        [(0, .var [.fn F_table_Of_1 [.pv 0 0, .pv 1 0]]), (1, .var [.os 20000100 a.1.length 0 a.1.length]), 
         (20010, .arr 1 []), (20020, .var [.d (.int .i64 e.kind), .d (.str e.name), .d (.int .i64 e.n), .d (.int .i64 e.lo), .d (.int .i64 e.hi), .os 20010 0 0 0, .os 22002060 a.2.length 0 a.2.length]), (20000100, .arr 7 (a.1.map rwC)), (22002060, .arr 1 (a.2.map i6C))]⟩)) (by simp)
      (fun i a k hi hk hI => by
        obtain ⟨m, ks⟩ := a
        simp only at hI
        have hs := hsub i hi
        rw [List.getElem?_eq_getElem hi, hk] at hs
        simp only [Option.getD_some] at hs
        have hst := sizes_take hi
        rw [hk] at hst
        have hc := run_put13 k (by have := kid_lt (hk ▸ List.getElem_mem hi : k ∈ e.kids); omega) m (by rw [hI.2]; unfold BIG; omega)
        have hw := wrap_ok (a := (i : Int) + 1) (by omega) (by omega)
        have hal : ks.length + 1 ≤ LIM := by unfold LIM; omega
        refine ⟨by simp [hI, rows_len, hst], ?_⟩
        simp -implicitDefEqProofs at hc
        simp -implicitDefEqProofs [body_table_Of_1_0, mask_table_Of_1_0, hi, hk, hc, hw, hal]) (fun a _ => by simp -implicitDefEqProofs [body_table_Of_1_0]) ([], []) ⟨rfl, by simp [sizes]⟩
    have hf : ∀ (kids : List Ex) (i : Nat) (m : List Rw) (ks : List Int), foldI (fun _ (a : List Rw × List Int) (k : Ex) => (a.1 ++ rowsE k a.1.length, a.2 ++ [((a.1.length + (rowsE k a.1.length).length : Nat) : Int) - 1])) kids i (m, ks) = (m ++ (rowsEs kids m.length).1, ks ++ (rowsEs kids m.length).2) := by
      intro kids
      induction kids with
      | nil => intro i m ks; simp [rowsEs]
      | cons k r ih =>
        intro i m ks
        rw [foldI_cons, ih]
        simp [rowsEs]
    rw [hf] at hL
    have hrl := rowsEs_len e.kids 0
    simp only [List.length_nil, List.nil_append] at hL
    generalize rowsEs e.kids 0 = Q at *
    obtain ⟨q, ks⟩ := Q
    simp only at hL hrl ⊢
    have hll : q.length + 1 ≤ LIM := by unfold LIM; omega
    have hw := wrap_ok (a := (q.length : Int)) (by omega) (by omega)
    simp -implicitDefEqProofs at h1
    simp -implicitDefEqProofs [code_table_Of_1, h4, h1]
    rw [hL _ (by simp -implicitDefEqProofs [mask_table_Of_1_0])]
    simp -implicitDefEqProofs [hll, hw]


def tabE (e : Ex) : List Rw := if astCheck e = 0 then rowsE e 0 else []
theorem run_tabOf (e : Ex) (hb : exN e ≤ BIG) : R F_table_Of [exA e] [] = some (rwS (tabE e), []) := by
  refine R_of at_table_Of (by decide) ?_
  have h1 := run_Check e hb
  unfold tabE
  by_cases hz : astCheck e = 0
  · rw [hz] at h1
    have h2 := run_put0 e hb (by have := size_le e; omega)
    rw [if_pos hz]
    generalize rowsE e 0 = q at *
    simp -implicitDefEqProofs [code_table_Of, h1, h2]
  · simp -implicitDefEqProofs [code_table_Of, h1, hz]

/-! ### the page's -/
theorem run_13Of : ∀ (e : Ex), exN e ≤ BIG → ∀ f : Nat, f + size e ≤ BIG → R F_ref13_Of [exA e, .d (.int .i64 f)] [] = some (rwS (rowsE e f), []) := by
  refine exIndB fun e hb IH f hf => ?_
  refine R_of at_ref13_Of (by decide) ?_
  have hlen : e.kids.length ≤ BIG := by have := exNs_len e.kids; have := exN_eq e; omega
  have hsz := size_eq e
  unfold BIG at hf hlen
  rw [rowsE_eq]
  by_cases h4 : e.kind = 4
  · rw [if_pos h4]
    have hL := loop_fold (X := X) (mask := mask_ref13_Of_0) (body := body_ref13_Of_0) e.kids
      (fun i (a : List Txt) => ⟨mkE 67 [(1, .d (.int .i64 f)), (2, .pv 10000 0), (5, .pv 20110 0), (6, .os 10000060 0 0 0), (7, .d (.int .i64 i))],
        [(10000, .var (exV e)), (20110, .var [.d (.int .i64 e.kind), .d (.str e.name), .d (.int .i64 e.n), .d (.int .i64 e.lo), .d (.int .i64 e.hi), .os 22011050 a.length 0 a.length, .os 22011060 0 0 0]), (10000060, .arr 7 []), (22011050, .arr 1 (a.map sxC)), (22011060, .arr 1 [])]⟩)
      (fun i a => a.length = i) (fun _ a k => a ++ [k.name])
      (fun a => (.exit 0, ⟨mkE 67 [(5, .pv 20110 0), (6, .os 10000060 0 0 0)],
        [(20110, .var [.d (.int .i64 e.kind), .d (.str e.name), .d (.int .i64 e.n), .d (.int .i64 e.lo), .d (.int .i64 e.hi), .os 22011050 a.length 0 a.length, .os 22011060 0 0 0]), (10000060, .arr 7 []), (22011050, .arr 1 (a.map sxC)), (22011060, .arr 1 [])]⟩)) (by simp)
      (fun i a k hi hk hI => by
        have hw := wrap_ok (a := (i : Int) + 1) (by omega) (by omega)
        have hal : a.length + 1 ≤ LIM := by unfold LIM; omega
        refine ⟨by simp [hI], ?_⟩
        simp -implicitDefEqProofs [body_ref13_Of_0, mask_ref13_Of_0, hi, hk, hw, hal, eq_true h4]) (fun a _ => by simp -implicitDefEqProofs [body_ref13_Of_0]) [] rfl
    have hfo : ∀ (l : List Ex) (i : Nat) (a : List Txt), foldI (fun _ (a : List Txt) (k : Ex) => a ++ [k.name]) l i a = a ++ l.map Ex.name := by
      intro l
      induction l with
      | nil => intro i a; simp
      | cons x r ih => intro i a; rw [foldI_cons, ih]; simp
    rw [hfo, List.nil_append] at hL
    unfold ownRow
    rw [if_pos h4]
    have h1L : 1 ≤ LIM := by unfold LIM; omega
    generalize e.kids.map Ex.name = S at *
    simp -implicitDefEqProofs [code_ref13_Of]
    rw [hL _ (by simp -implicitDefEqProofs [mask_ref13_Of_0])]
    simp -implicitDefEqProofs [h1L]
  · rw [if_neg h4]
    have hin : innerK e = e.kids := by unfold innerK; rw [if_neg h4]
    rw [hin] at hsz
    have hL := loop_fold (X := X) (mask := mask_ref13_Of_0) (body := body_ref13_Of_0) e.kids
      (fun i (a : List Rw × List Int) => ⟨mkE 67 [(1, .d (.int .i64 f)), (2, .pv 10000 0), (5, .pv 20110 0), (6, .os 10000060 a.1.length 0 a.1.length), (7, .d (.int .i64 i))],
        [(10000, .var (exV e)), (20110, .var [.d (.int .i64 e.kind), .d (.str e.name), .d (.int .i64 e.n), .d (.int .i64 e.lo), .d (.int .i64 e.hi), .os 22011050 0 0 0, .os 22011060 a.2.length 0 a.2.length]), (10000060, .arr 7 (a.1.map rwC)), (22011050, .arr 1 []), (22011060, .arr 1 (a.2.map i6C))]⟩)
      (fun i a => a.2.length = i ∧ a.1.length = sizes (e.kids.take i)) (fun _ a k => (a.1 ++ rowsE k (f + a.1.length), a.2 ++ [((f + (a.1.length + (rowsE k (f + a.1.length)).length) : Nat) : Int) - 1]))
      (fun a => (.exit 0, ⟨mkE 67 [(5, .pv 20110 0), (6, .os 10000060 a.1.length 0 a.1.length)],
        [(20110, .var [.d (.int .i64 e.kind), .d (.str e.name), .d (.int .i64 e.n), .d (.int .i64 e.lo), .d (.int .i64 e.hi), .os 22011050 0 0 0, .os 22011060 a.2.length 0 a.2.length]), (10000060, .arr 7 (a.1.map rwC)), (22011050, .arr 1 []), (22011060, .arr 1 (a.2.map i6C))]⟩)) (by simp)
      (fun i a k hi hk hI => by
        obtain ⟨m, ks⟩ := a
        simp only at hI
        have hst := sizes_take hi
        have hst2 := sizes_take_le e.kids (i + 1)
        rw [hk] at hst
        have hc := IH k (hk ▸ List.getElem_mem hi) (f + m.length) (by rw [hI.2]; unfold BIG; omega)
        have hrl := rows_len k (f + m.length)
        generalize rowsE k (f + m.length) = q at *
        have hw := wrap_ok (a := (i : Int) + 1) (by omega) (by omega)
        have hw1 := wrap_ok (a := (f : Int) + m.length) (by omega) (by omega)
        have hw2 := wrap_ok (a := (f : Int) + (m.length + q.length)) (by omega) (by omega)
        have hw3 := wrap_ok (a := (f : Int) + (m.length + q.length) - 1) (by omega) (by omega)
        have hal : ks.length + 1 ≤ LIM := by unfold LIM; omega
        have hal2 : m.length + q.length ≤ LIM := by unfold LIM; omega
        refine ⟨⟨by simp [hI], by simp [hI, hst, hrl]⟩, ?_⟩
        simp -implicitDefEqProofs at hc
        simp -implicitDefEqProofs [body_ref13_Of_0, mask_ref13_Of_0, hi, hk, hw, hal, hal2, h4, hw1, hc, hw2, hw3]) (fun a _ => by simp -implicitDefEqProofs [body_ref13_Of_0]) ([], []) ⟨rfl, by simp [sizes]⟩
    have hfo : ∀ (kids : List Ex) (i : Nat) (m : List Rw) (ks : List Int), foldI (fun _ (a : List Rw × List Int) (k : Ex) => (a.1 ++ rowsE k (f + a.1.length), a.2 ++ [((f + (a.1.length + (rowsE k (f + a.1.length)).length) : Nat) : Int) - 1])) kids i (m, ks) = (m ++ (rowsEs kids (f + m.length)).1, ks ++ (rowsEs kids (f + m.length)).2) := by
      intro kids
      induction kids with
      | nil => intro i m ks; simp [rowsEs]
      | cons k r ih =>
        intro i m ks
        rw [foldI_cons, ih]
        simp [rowsEs, Nat.add_assoc]
    rw [hfo] at hL
    simp only [List.nil_append, List.length_nil, Nat.add_zero] at hL
    have hrl := rowsEs_len e.kids f
    generalize rowsEs e.kids f = Q at *
    obtain ⟨q, ks⟩ := Q
    simp only at hL hrl ⊢
    have hll : q.length + 1 ≤ LIM := by unfold LIM; omega
    have hS : (ownRow e).set = [] := by unfold ownRow; rw [if_neg h4]
    have e0 : ownRow e = ⟨e.kind, e.name, e.n, e.lo, e.hi, [], []⟩ := by rw [← hS]; rfl
    rw [e0]
    simp -implicitDefEqProofs [code_ref13_Of]
    rw [hL _ (by simp -implicitDefEqProofs [mask_ref13_Of_0])]
    simp -implicitDefEqProofs [hll]
end Bz.S
