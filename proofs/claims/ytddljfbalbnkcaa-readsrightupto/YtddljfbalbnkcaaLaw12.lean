/- Chapter 12: what is looked at. -/
import Derived.Test.YtddljfbalbnkcaaRdU
import Derived.Test.YtddljfbalbnkcaaTyp
import Derived.KernelRfl
set_option linter.unusedSimpArgs false
set_option linter.unusedVariables false
namespace Bz.S
open Go Bz
set_option maxRecDepth 10000
set_option maxHeartbeats 4000000

theorem foldI_appT {α β : Type} (f : α → List β) : ∀ (l : List α) (i : Nat) (o : List β), foldI (fun _ out x => out ++ f x) l i o = o ++ l.flatMap f
  | [], _, o => by simp [foldI]
  | x :: r, i, o => by rw [foldI_cons, foldI_appT f r]; simp

theorem alive12 : R F_law12_alive [] [] = some (.d (.bool true), []) := RUN_run own retOwn ext code (k := 60) (by kernel_rfl)

def ownR (e : Ex) : List Rd := if e.kind = 5 ∨ e.kind = 6 then [⟨e.kind, e.name⟩] else []
theorem ownR_len (e : Ex) : (ownR e).length ≤ 1 := by unfold ownR; split <;> simp
def rdsOf (e : Ex) : List Rd := (allE e).flatMap ownR
theorem flat_len {α β : Type} {f : α → List β} (h : ∀ x, (f x).length ≤ 1) : ∀ l : List α, (l.flatMap f).length ≤ l.length
  | [] => Nat.le_refl _
  | x :: r => by
    have := flat_len h r
    have := h x
    simp only [List.flatMap_cons, List.length_append, List.length_cons]; omega
theorem rds_len (e : Ex) : (rdsOf e).length ≤ size e := by rw [← all_len]; exact flat_len ownR_len _
theorem rds_eq (e : Ex) : rdsOf e = if e.kind = 4 then [] else ownR e ++ e.kids.flatMap rdsOf := by
  unfold rdsOf
  rw [all_eq, List.flatMap_cons, allEs_flat]
  by_cases h : e.kind = 4
  · have : ownR e = [] := by unfold ownR; rw [if_neg (by omega)]
    simp [h, this, innerK]
  · have : innerK e = e.kids := by unfold innerK; rw [if_neg h]
    rw [if_neg h, this, List.flatMap_assoc]

theorem run_rall : ∀ (e : Ex), exN e ≤ BIG → R F_reads_all [exA e] [] = some (.os 0 (rdsOf e).length 0 (rdsOf e).length, [(0, .arr 2 ((rdsOf e).map rdC))]) := by
  refine exIndB fun e hb IH => ?_
  refine R_of at_reads_all (by decide) ?_
  have hlen : e.kids.length ≤ BIG := by have := exNs_len e.kids; have := exN_eq e; omega
  have hd := size_le e
  rw [size_eq] at hd
  unfold BIG at hb hlen
  by_cases h4 : e.kind = 4
  · have h5 : ¬ e.kind = 5 := by omega
    have h6 : ¬ e.kind = 6 := by omega
    rw [rds_eq, if_pos h4]
    simp -implicitDefEqProofs [code_reads_all, eq_true h4, eq_false h5, eq_false h6]
  · have hin : innerK e = e.kids := by unfold innerK; rw [if_neg h4]
    rw [hin] at hd
    have hol := ownR_len e
    have g1 : 1 ≤ LIM := by unfold LIM; omega
    have hL := loop_fold (X := X) (mask := mask_reads_all_0) (body := body_reads_all_0) e.kids
      (fun i (a : List Rd) => ⟨mkE 38 [(3, .os 10000030 a.length 0 a.length), (26, exS e.kids), (27, .d (.int .i64 e.kids.length)), (28, .d (.int .i64 i))], [(10000030, .arr 2 (a.map rdC))]⟩)
      (fun i a => a.length ≤ sizes (e.kids.take i) + 1)
      (fun _ a k => a ++ rdsOf k) (fun a => (.exit 0, ⟨mkE 38 [(3, .os 10000030 a.length 0 a.length)], [(10000030, .arr 2 (a.map rdC))]⟩)) (by simp) (fun i a k hi hk hI => by
        have hc := IH k (hk ▸ List.getElem_mem hi)
        have hw := wrap_ok (a := (i : Int) + 1) (by omega) (by omega)
        have hrl := rds_len k
        have hI' : a.length + (rdsOf k).length ≤ sizes (e.kids.take (i + 1)) + 1 := by
          rw [sizes_take hi, hk]; omega
        have hlim : a.length + (rdsOf k).length ≤ LIM := by
          have := sizes_take_le e.kids (i + 1)
          unfold LIM; omega
        refine ⟨by simpa using hI', ?_⟩
        simp -implicitDefEqProofs [body_reads_all_0, mask_reads_all_0, hi, hk, hc, hw, hlim]) (fun a _ => by simp -implicitDefEqProofs [body_reads_all_0]) (ownR e) (by simp [sizes]; omega)
    rw [foldI_appT] at hL
    rw [rds_eq, if_neg h4]
    unfold ownR at hL ⊢
    generalize e.kids.flatMap rdsOf = q at *
    by_cases h5 : e.kind = 5
    · rw [if_pos (.inl h5)] at hL ⊢
      simp -implicitDefEqProofs [code_reads_all, h4, eq_true h5, g1]
      rw [hL _ (by simp -implicitDefEqProofs [mask_reads_all_0, rdC_eq])]
      simp -implicitDefEqProofs
    · by_cases h6 : e.kind = 6
      · rw [if_pos (.inr h6)] at hL ⊢
        simp -implicitDefEqProofs [code_reads_all, h4, eq_false h5, eq_true h6, g1]
        rw [hL _ (by simp -implicitDefEqProofs [mask_reads_all_0, rdC_eq])]
        simp -implicitDefEqProofs
      · rw [if_neg (by omega)] at hL ⊢
        simp -implicitDefEqProofs [code_reads_all, h4, eq_false h5, eq_false h6]
        rw [hL _ (by simp -implicitDefEqProofs [mask_reads_all_0])]
        simp -implicitDefEqProofs
theorem rds_big {e : Ex} (h : exN e ≤ BIG) : (rdsOf e).length ≤ BIG := by have := rds_len e; have := size_le e; omega

theorem run_Of (e : Ex) (hb : exN e ≤ BIG) : R F_reads_Of [exA e] [] = some (rdS (setRd (rdsOf e)), []) := by
  refine R_of at_reads_Of (by decide) ?_
  have h1 := run_rall e hb
  have h2 := run_Union [rdsOf e] (by simp [BIG]) (by simpa using rds_big hb)
  simp only [List.flatten_cons, List.flatten_nil, List.append_nil] at h2
  simp -implicitDefEqProofs only [ccRdS, ccRdC_eq, List.map_cons, List.map_nil] at h2
  generalize setRd (rdsOf e) = z at *
  generalize rdsOf e = q at *
  cases v : noViews (.d (.vs false (z.map rdC))) <;>
  · simp -implicitDefEqProofs [code_reads_Of, h1, h2, v]

def upR (u : Up) : Rd := ⟨u.side, u.name⟩
theorem run_Writes (l : List Up) (hl : l.length ≤ BIG) : R F_reads_Writes [upS l] [] = some (rdS (setRd (l.map upR)), []) := by
  refine R_of at_reads_Writes (by decide) ?_
  unfold BIG at hl
  have hL := loop_fold (X := X) (mask := mask_reads_Writes_0) (body := body_reads_Writes_0) l
    (fun i (a : List Rd) => ⟨mkE 24 [(3, .os 10000030 a.length 0 a.length), (6, upS l), (7, .d (.int .i64 l.length)), (8, .d (.int .i64 i))], [(10000030, .arr 2 (a.map rdC))]⟩)
    (fun i a => a.length = i)
    (fun _ a k => a ++ [upR k]) (fun a => (.exit 0, ⟨mkE 24 [(3, .os 10000030 a.length 0 a.length)], [(10000030, .arr 2 (a.map rdC))]⟩)) (by simp) (fun i a k hi hk hI => by
      have hw := wrap_ok (a := (i : Int) + 1) (by omega) (by omega)
      have hlim : a.length + 1 ≤ LIM := by unfold LIM; omega
      refine ⟨by simp; omega, ?_⟩
      unfold upR
      simp -implicitDefEqProofs [body_reads_Writes_0, mask_reads_Writes_0, hi, hk, upC_eq, rdC_eq, hw, hlim]) (fun a _ => by simp -implicitDefEqProofs [body_reads_Writes_0]) [] rfl
  have e : ∀ (l : List Up) (i : Nat) (o : List Rd), foldI (fun _ a k => a ++ [upR k]) l i o = o ++ l.map upR := by
    intro l
    induction l with
    | nil => intro i o; simp [foldI]
    | cons x r ih => intro i o; rw [foldI_cons, ih]; simp
  rw [e, List.nil_append] at hL
  have h2 := run_Union [l.map upR] (by simp [BIG]) (by simp; unfold BIG; omega)
  simp only [List.flatten_cons, List.flatten_nil, List.append_nil] at h2
  simp -implicitDefEqProofs only [ccRdS, ccRdC_eq, List.map_cons, List.map_nil] at h2
  have hq : (l.map upR).length ≤ BIG := by simp; unfold BIG; omega
  generalize setRd (l.map upR) = z at *
  generalize l.map upR = q at *
  simp -implicitDefEqProofs [code_reads_Writes]
  rw [hL _ (by simp -implicitDefEqProofs [mask_reads_Writes_0])]
  cases v : noViews (.d (.vs false (z.map rdC))) <;>
  · simp -implicitDefEqProofs [h2, v]

/-- api.Right -/
structure Rt where
  name : Txt
  pre : Ex
  on : Ex
  before : List Up
  during : List Up
  after : List Up
  duties : List (List D)
def rtC (r : Rt) : List D := [.str r.name, .int .i64 r.pre.kind, .str r.pre.name, .int .i64 r.pre.n, .int .i64 r.pre.lo, .int .i64 r.pre.hi, .vs false (r.pre.kids.map exC), .int .i64 r.on.kind, .str r.on.name, .int .i64 r.on.n, .int .i64 r.on.lo, .int .i64 r.on.hi, .vs false (r.on.kids.map exC), .vs false (r.before.map upC), .vs false (r.during.map upC), .vs false (r.after.map upC), .vs false r.duties]
abbrev rtV (r : Rt) : List AV := [.d (.str r.name), .d (.int .i64 r.pre.kind), .d (.str r.pre.name), .d (.int .i64 r.pre.n), .d (.int .i64 r.pre.lo), .d (.int .i64 r.pre.hi), .d (.vs false (r.pre.kids.map exC)), .d (.int .i64 r.on.kind), .d (.str r.on.name), .d (.int .i64 r.on.n), .d (.int .i64 r.on.lo), .d (.int .i64 r.on.hi), .d (.vs false (r.on.kids.map exC)), .d (.vs false (r.before.map upC)), .d (.vs false (r.during.map upC)), .d (.vs false (r.after.map upC)), .d (.vs false r.duties)]
abbrev rtA (r : Rt) : AV := .agg (rtV r)

def upsN (l : List Up) : Nat := (l.map fun u => exN u.to).sum
theorem upsN_mem : ∀ {l : List Up} {u : Up}, u ∈ l → exN u.to ≤ upsN l
  | x :: r, u, h => by
    unfold upsN
    rcases List.mem_cons.1 h with rfl | h
    · simp
    · have := upsN_mem h; unfold upsN at this; simp; omega
def toR (u : Up) : List Rd := rdsOf u.to
theorem toR_len (u : Up) : (toR u).length ≤ exN u.to := by have := rds_len u.to; have := size_le u.to; unfold toR; omega
theorem flat_upto : ∀ (l : List Up), (l.flatMap toR).length ≤ upsN l
  | [] => Nat.zero_le _
  | x :: r => by
    have := flat_upto r
    have := toR_len x
    unfold upsN at *
    simp only [List.flatMap_cons, List.length_append, List.map_cons, List.sum_cons]; omega
theorem flat_step {α β : Type} (f : α → List β) {l : List α} {i : Nat} (hi : i < l.length) : (l.take (i + 1)).flatMap f = (l.take i).flatMap f ++ f l[i] := by
  rw [List.take_succ_eq_append_getElem hi, List.flatMap_append, List.flatMap_cons, List.flatMap_nil, List.append_nil]
theorem flat_le {α β : Type} (f : α → List β) (l : List α) (i : Nat) : ((l.take i).flatMap f).length ≤ (l.flatMap f).length := by
  have : l.flatMap f = (l.take i).flatMap f ++ (l.drop i).flatMap f := by rw [← List.flatMap_append, List.take_append_drop]
  rw [this, List.length_append]; omega

def rightL (r : Rt) : List Rd := rdsOf r.pre ++ rdsOf r.on ++ (r.before ++ r.during ++ r.after).flatMap toR
theorem run_Right (r : Rt) (h1 : exN r.pre ≤ 1048576) (h2 : exN r.on ≤ 1048576) (h3 : upsN r.before + upsN r.during + upsN r.after ≤ 1048576) (h4 : r.before.length + r.during.length + r.after.length ≤ 1048576) :
    R F_reads_Right [rtA r] [] = some (rdS (setRd (rightL r)), []) := by
  refine R_of at_reads_Right (by decide) ?_
  have e1 := run_rall r.pre (by unfold BIG; omega)
  have e2 := run_rall r.on (by unfold BIG; omega)
  have l1 := rds_len r.pre
  have l2 := rds_len r.on
  have l3 := size_le r.pre
  have l4 := size_le r.on
  have c1 := run_ConcatUp [r.before, r.during, r.after] (by simp [BIG]) (by simp; unfold BIG; omega)
  simp -implicitDefEqProofs only [ccUpS, ccUpC_eq, List.map_cons, List.map_nil, List.flatten_cons, List.flatten_nil, List.append_nil] at c1
  have hun : upsN (r.before ++ (r.during ++ r.after)) = upsN r.before + upsN r.during + upsN r.after := by unfold upsN; simp; omega
  have hul : (r.before ++ (r.during ++ r.after)).length = r.before.length + r.during.length + r.after.length := by simp; omega
  have hr : rightL r = rdsOf r.pre ++ rdsOf r.on ++ (r.before ++ (r.during ++ r.after)).flatMap toR := by unfold rightL; rw [List.append_assoc r.before]
  rw [hr]
  generalize r.before ++ (r.during ++ r.after) = us at *
  generalize hp : rdsOf r.pre = p at *
  generalize ho : rdsOf r.on = o at *
  have hfu := flat_upto us
  have hlp : p.length + o.length ≤ LIM := by unfold LIM; omega
  have hL := loop_fold (X := X) (mask := mask_reads_Right_0) (body := body_reads_Right_0) us
    (fun i (a : List Rd) => ⟨mkE 35 [(3, .os 10000030 a.length 0 a.length), (20, upS us), (21, .d (.int .i64 us.length)), (22, .d (.int .i64 i))], [(10000030, .arr 2 (a.map rdC))]⟩)
    (fun i a => a.length = p.length + o.length + ((us.take i).flatMap toR).length)
    (fun _ a k => a ++ toR k) (fun a => (.exit 0, ⟨mkE 35 [(3, .os 10000030 a.length 0 a.length)], [(10000030, .arr 2 (a.map rdC))]⟩)) (by simp) (fun i a k hi hk hI => by
      have hkm : k ∈ us := hk ▸ List.getElem_mem hi
      have hkn := upsN_mem hkm
      have hc := run_rall k.to (by unfold BIG; omega)
      have hw := wrap_ok (a := (i : Int) + 1) (by omega) (by omega)
      have hst := flat_step toR hi
      have hle := flat_le toR us (i + 1)
      have hst' := congrArg List.length hst
      rw [List.length_append, hk] at hst'
      have hlim : a.length + (toR k).length ≤ LIM := by unfold LIM; omega
      refine ⟨by simp only [List.length_append]; omega, ?_⟩
      have e : rdsOf k.to = toR k := rfl
      rw [e] at hc
      simp -implicitDefEqProofs [body_reads_Right_0, mask_reads_Right_0, hi, hk, upC_eq, hc, hw, hlim]) (fun a _ => by simp -implicitDefEqProofs [body_reads_Right_0]) (p ++ o) (by simp)
  rw [foldI_appT] at hL
  have h2 := run_Union [p ++ o ++ us.flatMap toR] (by simp [BIG]) (by simp only [List.flatten_cons, List.flatten_nil, List.append_nil, List.length_append]; unfold BIG; omega)
  simp only [List.flatten_cons, List.flatten_nil, List.append_nil] at h2
  simp -implicitDefEqProofs only [ccRdS, ccRdC_eq, List.map_cons, List.map_nil] at h2
  generalize setRd (p ++ o ++ us.flatMap toR) = z at *
  generalize p ++ o ++ us.flatMap toR = q at *
  cases v0 : noViews (.d (.vs false (us.map upC))) <;> cases v : noViews (.d (.vs false (z.map rdC))) <;>
  · simp -implicitDefEqProofs [code_reads_Right, e1, e2, c1, hlp, v0]
    rw [hL _ (by simp -implicitDefEqProofs [mask_reads_Right_0])]
    simp -implicitDefEqProofs [h2, v]

theorem run_12has (l : List Rd) (r : Rd) (hl : l.length ≤ BIG) : R F_law12_has [rdS l, rdA r] [] = some (.d (.bool (decide (r ∈ l))), []) := by
  refine R_of at_law12_has (by decide) ?_
  unfold BIG at hl
  have hL := loop_find (X := X) (mask := mask_law12_has_0) (body := body_law12_has_0) l
    (fun i => ⟨mkE 18 [(0, rdS l), (3, .pv 10000 0), (5, .d (.int .i64 i))], [(10000, .var [.d (.int .i64 r.side), .d (.str r.name)])]⟩)
    (fun _ x => decide (x = r)) (.exit 0, ⟨mkE 18 [], []⟩) (fun _ _ => (.ret, ⟨mkE 18 [(4, .d (.bool true))], []⟩)) (by simp) (by simp)
    (fun i x hi hx hq => by
      have hw := wrap_ok (a := (i : Int) + 1) (by omega) (by omega)
      simp -implicitDefEqProofs [body_law12_has_0, mask_law12_has_0, hi, hx, rdC_eq, -aeqagg, aeqagg_rd, hq, hw])
    (fun i x hi hx hq => by
      simp -implicitDefEqProofs [body_law12_has_0, hi, hx, rdC_eq, -aeqagg, aeqagg_rd, hq]) (by simp -implicitDefEqProofs [body_law12_has_0])
  have ha := findI_any (fun x => decide (x = r)) l 0
  have hm : l.any (fun x => decide (x = r)) = decide (r ∈ l) := by
    rw [Bool.eq_iff_iff, List.any_eq_true]
    simp
  rw [hm] at ha
  simp -implicitDefEqProofs [code_law12_has]
  rw [hL _ (by simp -implicitDefEqProofs [mask_law12_has_0])]
  cases hF : findI (fun _ x => decide (x = r)) l 0 with
  | some q => rw [hF] at ha; simp at ha; simp -implicitDefEqProofs [ha]
  | none => rw [hF] at ha; simp at ha; simp -implicitDefEqProofs [ha]

theorem run_12all (l : List Ex) (hl : l.length ≤ 1048576) (hb : ∀ e ∈ l, exN e ≤ BIG) (hs : (l.flatMap rdsOf).length ≤ BIG) : R F_law12_all [exS l] [] = some (rdS (l.flatMap rdsOf), []) := by
  refine R_of at_law12_all (by decide) ?_
  have inner : ∀ (i : Nat) (o : List Rd) (p : List Ex), p.length ≤ BIG → o.length ≤ BIG → ∀ s, trim mask_law12_all_0 s = ⟨mkE 53 [(0, exS l), (3, .os 10000030 o.length 0 o.length), (4, .d (.int .i64 i)), (5, exS p), (6, .d (.int .i64 0))], [(10000030, .arr 2 (o.map rdC))]⟩ →
      exL X (.loop mask_law12_all_0 body_law12_all_0) s = some (.exit 2, ⟨mkE 53 [(0, exS l), (3, .os 10000030 (o ++ p.flatMap ownR).length 0 (o ++ p.flatMap ownR).length), (4, .d (.int .i64 i))], [(10000030, .arr 2 ((o ++ p.flatMap ownR).map rdC))]⟩) := by
    intro i o p hp ho s hs
    unfold BIG at hp ho
    have hL := loop_fold (X := X) (mask := mask_law12_all_0) (body := body_law12_all_0) p
      (fun j (a : List Rd) => ⟨mkE 53 [(0, exS l), (3, .os 10000030 a.length 0 a.length), (4, .d (.int .i64 i)), (5, exS p), (6, .d (.int .i64 j))], [(10000030, .arr 2 (a.map rdC))]⟩)
      (fun j a => a.length ≤ o.length + j) (fun _ a k => a ++ ownR k)
      (fun a => (.exit 2, ⟨mkE 53 [(0, exS l), (3, .os 10000030 a.length 0 a.length), (4, .d (.int .i64 i))], [(10000030, .arr 2 (a.map rdC))]⟩)) (by simp)
      (fun j a k hj hk hI => by
        have hw := wrap_ok (a := (j : Int) + 1) (by omega) (by omega)
        have hlim : a.length + 1 ≤ LIM := by unfold LIM; omega
        have hol := ownR_len k
        refine ⟨by simp only [List.length_append]; omega, ?_⟩
        unfold ownR
        by_cases h5 : k.kind = 5
        · rw [if_pos (.inl h5)]
          simp -implicitDefEqProofs [body_law12_all_0, mask_law12_all_0, hj, hk, eq_true h5, rdC_eq, hw, hlim]
        · by_cases h6 : k.kind = 6
          · rw [if_pos (.inr h6)]
            simp -implicitDefEqProofs [body_law12_all_0, mask_law12_all_0, hj, hk, eq_false h5, eq_true h6, rdC_eq, hw, hlim]
          · rw [if_neg (by omega)]
            simp -implicitDefEqProofs [body_law12_all_0, mask_law12_all_0, hj, hk, eq_false h5, eq_false h6, hw]) (fun a _ => by simp -implicitDefEqProofs [body_law12_all_0]) o (by simp)
    rw [foldI_appT] at hL
    exact hL _ (by simpa using hs)
  have hL := loop_fold (X := X) (mask := mask_law12_all_1) (body := body_law12_all_1) l
    (fun i (a : List Rd) => ⟨mkE 53 [(0, exS l), (3, .os 10000030 a.length 0 a.length), (4, .d (.int .i64 i))], [(10000030, .arr 2 (a.map rdC))]⟩)
    (fun i a => a = (l.take i).flatMap rdsOf) (fun _ a k => a ++ rdsOf k)
    (fun a => (.exit 0, ⟨mkE 53 [(3, .os 10000030 a.length 0 a.length)], [(10000030, .arr 2 (a.map rdC))]⟩)) (by simp)
    (fun i a k hi hk hI => by
      have hw := wrap_ok (a := (i : Int) + 1) (by omega) (by omega)
      have hkm : k ∈ l := hk ▸ List.getElem_mem hi
      have hc := run_All k (hb k hkm)
      have hle := flat_le rdsOf l i
      have hn := inner i a (allE k) (all_big (hb k hkm)) (by rw [hI]; omega)
      have e : (allE k).flatMap ownR = rdsOf k := rfl
      rw [e] at hn
      refine ⟨by rw [flat_step rdsOf hi, hI, hk], ?_⟩
      simp -implicitDefEqProofs [body_law12_all_1, mask_law12_all_1, hi, hk, hc]
      rw [hn _ (by simp -implicitDefEqProofs [mask_law12_all_0])]
      simp -implicitDefEqProofs [hw]
      exact ⟨_, _, ⟨rfl, rfl⟩, rfl, by simp⟩) (fun a _ => by simp -implicitDefEqProofs [body_law12_all_1]) [] (by simp)
  rw [foldI_appT, List.nil_append] at hL
  generalize l.flatMap rdsOf = q at *
  simp -implicitDefEqProofs [code_law12_all]
  rw [hL _ (by simp -implicitDefEqProofs [mask_law12_all_1])]
  simp -implicitDefEqProofs

theorem run_12like (g w : List Rd) (hg : g.length ≤ BIG) (hw0 : w.length ≤ BIG) (hup : g.Pairwise fun p q => ltR p q = true) (hm : ∀ x, x ∈ g ↔ x ∈ w) : R F_law12_like [rdS g, rdS w] [] = some (.d (.bool true), []) := by
  refine R_of at_law12_like (by decide) ?_
  have hL1 := loop_fold (X := X) (mask := mask_law12_like_0) (body := body_law12_like_0) w
    (fun i (_ : Unit) => ⟨mkE 77 [(0, rdS g), (1, rdS w), (5, .d (.int .i64 i))], []⟩)
    (fun _ _ => True) (fun _ _ _ => ()) (fun _ => (.exit 0, ⟨mkE 77 [(0, rdS g), (1, rdS w)], []⟩)) (by simp)
    (fun i a p hi hx _ => by
      have hw := wrap_ok (a := (i : Int) + 1) (by unfold BIG at hw0; omega) (by unfold BIG at hw0; omega)
      have hpm : p ∈ g := (hm p).2 (hx ▸ List.getElem_mem hi)
      have h1 := run_12has g p hg
      simp only [hpm, decide_true] at h1
      refine ⟨trivial, ?_⟩
      simp -implicitDefEqProofs [body_law12_like_0, mask_law12_like_0, hi, hx, rdC_eq, hw, h1]) (fun a _ => by
      simp -implicitDefEqProofs [body_law12_like_0]) () trivial
  have hL2 := loop_fold (X := X) (mask := mask_law12_like_1) (body := body_law12_like_1) g
    (fun i (_ : Unit) => ⟨mkE 77 [(0, rdS g), (1, rdS w), (6, .d (.int .i64 i))], []⟩)
    (fun _ _ => True) (fun _ _ _ => ()) (fun _ => (.exit 2, ⟨mkE 77 [], []⟩)) (by simp)
    (fun i a p hi hx _ => by
      have hw := wrap_ok (a := (i : Int) + 1) (by unfold BIG at hg; omega) (by unfold BIG at hg; omega)
      have hpm : p ∈ w := (hm p).1 (hx ▸ List.getElem_mem hi)
      have h1 := run_12has w p hw0
      simp only [hpm, decide_true] at h1
      refine ⟨trivial, ?_⟩
      by_cases h0 : i = 0
      · subst h0
        have hw1 := wrap_ok (a := (1 : Int)) (by omega) (by omega)
        simp -implicitDefEqProofs [body_law12_like_1, mask_law12_like_1, hi, hx, rdC_eq, hw1, h1]
      · obtain ⟨k, rfl⟩ : ∃ k, i = k + 1 := ⟨i - 1, by omega⟩
        obtain ⟨q, hq⟩ : ∃ q, g[k] = q := ⟨_, rfl⟩
        have hk : k < g.length := by omega
        have hlt : ltR q p = true := by
          rw [List.pairwise_iff_getElem] at hup
          have := hup k (k + 1) hk hi (by omega)
          rw [hq, hx] at this
          exact this
        have hw1 := wrap_ok (a := (k : Int)) (by unfold BIG at hg; omega) (by unfold BIG at hg; omega)
        have p0 : (0 : Int) < (k : Int) + 1 := by omega
        have hc : ((k + 1 : Nat) : Int) = (k : Int) + 1 := by omega
        rw [hc] at hw
        have p4 : (k : Int) + 1 < g.length := by omega
        have p1 : (0 : Int) ≤ (k : Int) + 1 := by omega
        have p2 : ((k : Int) + 1).toNat = k + 1 := by omega
        have p3 : (k : Int) + 1 - 1 = k := by omega
        rcases ltR_iff.1 hlt with hl1 | ⟨hl1, hl2⟩
        · have n1 : ¬ p.side < q.side := by omega
          have n2 : ¬ q.side = p.side := by omega
          simp -implicitDefEqProofs [body_law12_like_1, mask_law12_like_1, hi, hx, hk, hq, rdC_eq, hw, hw1, h1, p0, p1, p2, p3, p4, n1, n2]
        · simp -implicitDefEqProofs [body_law12_like_1, mask_law12_like_1, hi, hx, hk, hq, rdC_eq, hw, hw1, h1, p0, p1, p2, p3, p4, hl1, hl2]) (fun a _ => by
      simp -implicitDefEqProofs [body_law12_like_1]) () trivial
  simp -implicitDefEqProofs [code_law12_like]
  rw [hL1 _ (by simp -implicitDefEqProofs [mask_law12_like_0])]
  simp -implicitDefEqProofs
  rw [hL2 _ (by simp -implicitDefEqProofs [mask_law12_like_1])]
  simp -implicitDefEqProofs

theorem like_set (l w : List Rd) (hg : l.length ≤ BIG) (hw0 : w.length ≤ BIG) (hm : ∀ x, x ∈ l ↔ x ∈ w) : R F_law12_like [rdS (setRd l), rdS w] [] = some (.d (.bool true), []) :=
  run_12like (setRd l) w (Nat.le_trans (setRd_len l) hg) hw0 (setRd_up l) fun x => by rw [setRd_mem]; exact hm x

theorem ups_bulk (l : List Up) : 2 * l.length + upsN l ≤ bulkLL (l.map upC) := by
  induction l with
  | nil => simp [upsN]
  | cons u r ih =>
    unfold upsN at *
    simp only [List.map_cons, List.length_cons, bulkLL, List.sum_cons]
    have e := exN_eq u.to
    have e2 : bulkLL (u.to.kids.map exC) = exNs u.to.kids := rfl
    simp only [upC, bulkL, bulkD, e2] at *
    omega

theorem run_ReadsTells (e : Ex) (l : List Up) (hb0 : bulkL (exC e) + bulkL [.vs false (l.map upC)] ≤ 1048576) : R F_law12_ReadsTells [exA e, upS l] [] = some (.d (.bool true), []) := by
  refine R_of at_law12_ReadsTells (by decide) ?_
  have hb : exN e ≤ BIG := by unfold exN BIG; omega
  have hbl := ups_bulk l
  simp only [bulkL, bulkD] at hb0
  have hl : l.length ≤ 1048576 := by omega
  have h1 := run_Of e hb
  have h2 := run_12all [e] (by simp) (by simpa using hb) (by simpa using rds_big hb)
  simp only [List.flatMap_cons, List.flatMap_nil, List.append_nil] at h2
  simp -implicitDefEqProofs only [exS, List.map_cons, List.map_nil, exC_eq] at h2
  have h3 := like_set (rdsOf e) (rdsOf e) (rds_big hb) (rds_big hb) (fun _ => Iff.rfl)
  have h4 := run_Writes l (by unfold BIG; omega)
  have h5 := like_set (l.map upR) (l.map upR) (by simp; unfold BIG; omega) (by simp; unfold BIG; omega) (fun _ => Iff.rfl)
  have hL := loop_fold (X := X) (mask := mask_law12_ReadsTells_0) (body := body_law12_ReadsTells_0) l
    (fun i (a : List Rd) => ⟨mkE 41 [(1, upS l), (2, .pv 10000 0), (5, .os 10000050 a.length 0 a.length), (6, .d (.int .i64 i))], [(10000, .var (exV e)), (10000050, .arr 2 (a.map rdC))]⟩)
    (fun i a => a.length = i)
    (fun _ a k => a ++ [upR k]) (fun a => (.exit 0, ⟨mkE 41 [(1, upS l), (2, .pv 10000 0), (5, .os 10000050 a.length 0 a.length)], [(10000, .var (exV e)), (10000050, .arr 2 (a.map rdC))]⟩)) (by simp) (fun i a k hi hk hI => by
      have hw := wrap_ok (a := (i : Int) + 1) (by omega) (by omega)
      have hlim : a.length + 1 ≤ LIM := by unfold LIM; omega
      refine ⟨by simp; omega, ?_⟩
      unfold upR
      simp -implicitDefEqProofs [body_law12_ReadsTells_0, mask_law12_ReadsTells_0, hi, hk, upC_eq, rdC_eq, hw, hlim]) (fun a _ => by simp -implicitDefEqProofs [body_law12_ReadsTells_0]) [] rfl
  have e0 : ∀ (l : List Up) (i : Nat) (o : List Rd), foldI (fun _ a k => a ++ [upR k]) l i o = o ++ l.map upR := by
    intro l
    induction l with
    | nil => intro i o; simp [foldI]
    | cons x r ih => intro i o; rw [foldI_cons, ih]; simp
  rw [e0, List.nil_append] at hL
  generalize setRd (l.map upR) = z at *
  generalize setRd (rdsOf e) = z2 at *
  generalize l.map upR = q at *
  generalize rdsOf e = q2 at *
  simp -implicitDefEqProofs [code_law12_ReadsTells, alive12]
  rw [hL _ (by simp -implicitDefEqProofs [mask_law12_ReadsTells_0])]
  cases v : noViews (.d (.vs false (z2.map rdC))) <;> cases v2 : noViews (.d (.vs false (q2.map rdC))) <;>
  · simp -implicitDefEqProofs [h1, h2, h3, h4, h5, v, v2]
end Bz.S
