/- Chapter 12: rights; several lists. -/
import Derived.Test.YtddljfbalbnkcaaLaw12
set_option linter.unusedSimpArgs false
set_option linter.unusedVariables false
namespace Bz.S
open Go Bz
set_option maxRecDepth 10000
set_option maxHeartbeats 4000000

theorem rds_bulk (l : List Rd) : l.length ≤ bulkLL (l.map rdC) := by
  induction l with
  | nil => simp
  | cons p r ih =>
    simp only [List.map_cons, List.length_cons, bulkLL]
    simp only [rdC, bulkL, bulkD] at *
    omega

theorem setRd_nil (l : List Rd) : setRd l = [] ↔ l = [] := by
  constructor
  · intro h
    cases l with
    | nil => rfl
    | cons x r => have : x ∈ setRd (x :: r) := setRd_mem.2 (by simp); rw [h] at this; cases this
  · intro h; subst h; rfl
theorem nv_rd (l : List Rd) : noViews (.d (.vs false (l.map rdC))) = decide (l = []) := by cases l <;> rfl
theorem nv_set (l : List Rd) : noViews (.d (.vs false ((setRd l).map rdC))) = decide (l = []) := by
  rw [nv_rd]
  by_cases h : l = [] <;> simp [setRd_nil, h]

theorem run_ReadsJoins (a b c : List Rd) (hb0 : bulkL [.vs false (a.map rdC)] + (bulkL [.vs false (b.map rdC)] + bulkL [.vs false (c.map rdC)]) ≤ 1048576) : R F_law12_ReadsJoins [rdS a, rdS b, rdS c] [] = some (.d (.bool true), []) := by
  refine R_of at_law12_ReadsJoins (by decide) ?_
  have l1 := rds_bulk a
  have l2 := rds_bulk b
  have l3 := rds_bulk c
  simp only [bulkL, bulkD] at hb0
  have hla : a.length ≤ LIM := by unfold LIM; omega
  have hlb : b.length ≤ LIM := by unfold LIM; omega
  have hlc : c.length ≤ LIM := by unfold LIM; omega
  have hlab : a.length + b.length ≤ LIM := by unfold LIM; omega
  have hlbc : b.length + c.length ≤ LIM := by unfold LIM; omega
  have hlac : a.length + c.length ≤ LIM := by unfold LIM; omega
  have hlabc : a.length + (b.length + c.length) ≤ LIM := by unfold LIM; omega
  have hlabc' : a.length + b.length + c.length ≤ LIM := by unfold LIM; omega
  have hsc := setRd_len c
  have bw : (a ++ (b ++ c)).length ≤ BIG := by simp only [List.length_append]; unfold BIG; omega
  have h1 := run_Union [a, b, c] (by simp [BIG]) (by simp only [List.flatten_cons, List.flatten_nil, List.append_nil]; exact bw)
  have h2 := run_Union [c, a, b] (by simp [BIG]) (by simp only [List.flatten_cons, List.flatten_nil, List.append_nil, List.length_append]; unfold BIG; omega)
  have h3 := run_Union [c] (by simp [BIG]) (by simp only [List.flatten_cons, List.flatten_nil, List.append_nil]; unfold BIG; omega)
  have h4 := run_Union [setRd c, a ++ (b ++ c)] (by simp [BIG]) (by simp only [List.flatten_cons, List.flatten_nil, List.append_nil, List.length_append]; unfold BIG; omega)
  simp only [List.flatten_cons, List.flatten_nil, List.append_nil] at h1 h2 h3 h4
  have k1 := like_set (a ++ (b ++ c)) (a ++ (b ++ c)) bw bw (fun _ => Iff.rfl)
  have k2 := like_set (c ++ (a ++ b)) (a ++ (b ++ c)) (by simp only [List.length_append]; unfold BIG; omega) bw (fun x => by simp only [List.mem_append]; grind)
  have k3 := like_set (setRd c ++ (a ++ (b ++ c))) (a ++ (b ++ c)) (by simp only [List.length_append]; unfold BIG; omega) bw (fun x => by simp only [List.mem_append, setRd_mem]; grind)
  simp -implicitDefEqProofs only [ccRdS, ccRdC_eq, List.map_cons, List.map_nil] at h1 h2 h3 h4
  have n1 := nv_set (a ++ (b ++ c))
  have n2 := nv_set (c ++ (a ++ b))
  have n3 := nv_set c
  have n4 := nv_set (setRd c ++ (a ++ (b ++ c)))
  have t1 : List.take (a.length + b.length + c.length) (a.map rdC ++ (b.map rdC ++ c.map rdC)) = a.map rdC ++ (b.map rdC ++ c.map rdC) := by rw [List.take_of_length_le (by simp; omega)]
  have t2 : a.length + (b.length + c.length) = a.length + b.length + c.length := by omega
  have n5 : noViews (.d (.vs false [])) = true := rfl
  have q3 : setRd c = [] ↔ c = [] := setRd_nil c
  generalize setRd (a ++ (b ++ c)) = z1 at *
  generalize setRd (c ++ (a ++ b)) = z2 at *
  generalize setRd (setRd c ++ (a ++ (b ++ c))) = z4 at *
  generalize setRd c = z3 at *
  have hz3 : z3.length ≤ LIM := by omega
  clear l1 l2 l3 hb0 bw hsc
  by_cases ha : a = []
  · subst ha
    by_cases hb : b = []
    · subst hb
      by_cases hc : c = []
      · subst hc
        have e3 : z3 = [] := q3.2 rfl
        subst e3
        simp only [rdS, List.nil_append, List.append_nil, List.map_nil, List.map_append] at h1 h2 h3 h4 k1 k2 k3
        simp only [List.nil_append, List.append_nil, List.append_eq_nil_iff, false_and, and_false, and_true, true_and, decide_true, decide_false, Bool.false_eq_true] at n1 n2 n3 n4
        simp -implicitDefEqProofs [code_law12_ReadsJoins, alive12, h1, h2, h3, h4, k1, k2, k3, n1, n2, n3, n4, n5, hla, hlb, hlc, hlab, hlbc, hlac, hlabc, hlabc']
      · skip
        simp only [rdS, List.nil_append, List.append_nil, List.map_nil, List.map_append] at h1 h2 h3 h4 k1 k2 k3
        simp only [List.nil_append, List.append_nil, List.append_eq_nil_iff, false_and, and_false, and_true, true_and, decide_true, decide_false, Bool.false_eq_true, hc] at n1 n2 n3 n4
        simp -implicitDefEqProofs [code_law12_ReadsJoins, alive12, h1, h2, h3, h4, k1, k2, k3, n1, n2, n3, n4, n5, hc, hla, hlb, hlc, hlab, hlbc, hlac, hlabc, hlabc']
    · by_cases hc : c = []
      · subst hc
        have e3 : z3 = [] := q3.2 rfl
        subst e3
        simp only [rdS, List.nil_append, List.append_nil, List.map_nil, List.map_append] at h1 h2 h3 h4 k1 k2 k3
        simp only [List.nil_append, List.append_nil, List.append_eq_nil_iff, false_and, and_false, and_true, true_and, decide_true, decide_false, Bool.false_eq_true, hb] at n1 n2 n3 n4
        simp -implicitDefEqProofs [code_law12_ReadsJoins, alive12, h1, h2, h3, h4, k1, k2, k3, n1, n2, n3, n4, n5, hb, hla, hlb, hlc, hlab, hlbc, hlac, hlabc, hlabc']
      · skip
        simp only [rdS, List.nil_append, List.append_nil, List.map_nil, List.map_append] at h1 h2 h3 h4 k1 k2 k3
        simp only [List.nil_append, List.append_nil, List.append_eq_nil_iff, false_and, and_false, and_true, true_and, decide_true, decide_false, Bool.false_eq_true, hb, hc] at n1 n2 n3 n4
        simp -implicitDefEqProofs [code_law12_ReadsJoins, alive12, h1, h2, h3, h4, k1, k2, k3, n1, n2, n3, n4, n5, hb, hc, hla, hlb, hlc, hlab, hlbc, hlac, hlabc, hlabc']
  · by_cases hb : b = []
    · subst hb
      by_cases hc : c = []
      · subst hc
        have e3 : z3 = [] := q3.2 rfl
        subst e3
        simp only [rdS, List.nil_append, List.append_nil, List.map_nil, List.map_append] at h1 h2 h3 h4 k1 k2 k3
        simp only [List.nil_append, List.append_nil, List.append_eq_nil_iff, false_and, and_false, and_true, true_and, decide_true, decide_false, Bool.false_eq_true, ha] at n1 n2 n3 n4
        simp -implicitDefEqProofs [code_law12_ReadsJoins, alive12, h1, h2, h3, h4, k1, k2, k3, n1, n2, n3, n4, n5, ha, hla, hlb, hlc, hlab, hlbc, hlac, hlabc, hlabc']
      · skip
        simp only [rdS, List.nil_append, List.append_nil, List.map_nil, List.map_append] at h1 h2 h3 h4 k1 k2 k3
        simp only [List.nil_append, List.append_nil, List.append_eq_nil_iff, false_and, and_false, and_true, true_and, decide_true, decide_false, Bool.false_eq_true, ha, hc] at n1 n2 n3 n4
        simp -implicitDefEqProofs [code_law12_ReadsJoins, alive12, h1, h2, h3, h4, k1, k2, k3, n1, n2, n3, n4, n5, ha, hc, hla, hlb, hlc, hlab, hlbc, hlac, hlabc, hlabc']
    · by_cases hc : c = []
      · subst hc
        have e3 : z3 = [] := q3.2 rfl
        subst e3
        simp only [rdS, List.nil_append, List.append_nil, List.map_nil, List.map_append] at h1 h2 h3 h4 k1 k2 k3
        simp only [List.nil_append, List.append_nil, List.append_eq_nil_iff, false_and, and_false, and_true, true_and, decide_true, decide_false, Bool.false_eq_true, ha, hb] at n1 n2 n3 n4
        simp -implicitDefEqProofs [code_law12_ReadsJoins, alive12, h1, h2, h3, h4, k1, k2, k3, n1, n2, n3, n4, n5, ha, hb, hla, hlb, hlc, hlab, hlbc, hlac, hlabc, hlabc']
      · skip
        simp only [rdS, List.nil_append, List.append_nil, List.map_nil, List.map_append] at h1 h2 h3 h4 k1 k2 k3
        simp only [List.nil_append, List.append_nil, List.append_eq_nil_iff, false_and, and_false, and_true, true_and, decide_true, decide_false, Bool.false_eq_true, ha, hb, hc] at n1 n2 n3 n4
        simp -implicitDefEqProofs [code_law12_ReadsJoins, alive12, h1, h2, h3, h4, k1, k2, k3, n1, n2, n3, n4, n5, ha, hb, hc, hla, hlb, hlc, hlab, hlbc, hlac, hlabc, hlabc', t1, t2]

@[simp] theorem rtC_eq (r : Rt) : rtC r = [.str r.name, .int .i64 r.pre.kind, .str r.pre.name, .int .i64 r.pre.n, .int .i64 r.pre.lo, .int .i64 r.pre.hi, .vs false (r.pre.kids.map exC), .int .i64 r.on.kind, .str r.on.name, .int .i64 r.on.n, .int .i64 r.on.lo, .int .i64 r.on.hi, .vs false (r.on.kids.map exC), .vs false (r.before.map upC), .vs false (r.during.map upC), .vs false (r.after.map upC), .vs false r.duties] := rfl
theorem rt_bulk (r : Rt) : exN r.pre + exN r.on + (bulkLL (r.before.map upC) + bulkLL (r.during.map upC) + bulkLL (r.after.map upC)) ≤ bulkL (rtC r) := by
  have e1 := exN_eq r.pre
  have e2 := exN_eq r.on
  have e3 : bulkLL (r.pre.kids.map exC) = exNs r.pre.kids := rfl
  have e4 : bulkLL (r.on.kids.map exC) = exNs r.on.kids := rfl
  simp only [rtC_eq, bulkL, bulkD, e3, e4]
  omega

theorem run_ReadsRight (r : Rt) (hb0 : bulkL (rtC r) ≤ 1048576) : R F_law12_ReadsRight [rtA r] [] = some (.d (.bool true), []) := by
  refine R_of at_law12_ReadsRight (by decide) ?_
  have hrb := rt_bulk r
  have ub := ups_bulk r.before
  have ud := ups_bulk r.during
  have ua := ups_bulk r.after
  have hR := run_Right r (by omega) (by omega) (by omega) (by omega)
  have hto : ∀ (l : List Up), (l.map Up.to).flatMap rdsOf = l.flatMap toR := fun l => by
    rw [List.flatMap_map]; rfl
  have hLe : ([r.pre, r.on] ++ r.before.map Up.to ++ r.during.map Up.to ++ r.after.map Up.to).flatMap rdsOf = rightL r := by
    unfold rightL
    simp only [List.flatMap_append, List.flatMap_cons, List.flatMap_nil, List.append_nil, hto, List.append_assoc]
  have hrl : (rightL r).length ≤ BIG := by
    have h1 := rds_len r.pre
    have h2 := size_le r.pre
    have h3 := rds_len r.on
    have h4 := size_le r.on
    have h5 := flat_upto (r.before ++ r.during ++ r.after)
    have h6 : upsN (r.before ++ r.during ++ r.after) = upsN r.before + upsN r.during + upsN r.after := by unfold upsN; simp; omega
    unfold rightL
    simp only [List.length_append]
    unfold BIG; omega
  have hin : ∀ e ∈ [r.pre, r.on] ++ r.before.map Up.to ++ r.during.map Up.to ++ r.after.map Up.to, exN e ≤ BIG := by
    intro e he
    simp only [List.mem_append, List.mem_cons, List.not_mem_nil, or_false, List.mem_map] at he
    unfold BIG
    rcases he with (((rfl | rfl) | ⟨u, hu, rfl⟩) | ⟨u, hu, rfl⟩) | ⟨u, hu, rfl⟩
    · omega
    · omega
    · have := upsN_mem hu; omega
    · have := upsN_mem hu; omega
    · have := upsN_mem hu; omega
  have hA := run_12all ([r.pre, r.on] ++ r.before.map Up.to ++ r.during.map Up.to ++ r.after.map Up.to) (by simp; omega) hin (by rw [hLe]; exact hrl)
  rw [hLe] at hA
  have hk := like_set (rightL r) (rightL r) hrl hrl (fun _ => Iff.rfl)
  generalize setRd (rightL r) = z at *
  generalize rightL r = q at *
  clear hLe hrl hin
  have hL0 := loop_fold (X := X) (mask := mask_law12_ReadsRight_0) (body := body_law12_ReadsRight_0) r.before
    (fun i (a : List Ex) => ⟨mkE 67 [(1, .pv 10000 0), (3, .os 10000030 a.length 0 a.length), (4, .d (.int .i64 i))], [(10000, .var (rtV r)), (10000030, .arr 6 (a.map exC))]⟩)
    (fun i a => a.length = 2 + i)
    (fun _ a k => a ++ [k.to]) (fun a => (.exit 0, ⟨mkE 67 [(1, .pv 10000 0), (3, .os 10000030 a.length 0 a.length)], [(10000, .var (rtV r)), (10000030, .arr 6 (a.map exC))]⟩)) (by simp) (fun i a k hi hk hI => by
      have hw := wrap_ok (a := (i : Int) + 1) (by omega) (by omega)
      have hlim : a.length + 1 ≤ LIM := by unfold LIM; omega
      refine ⟨by simp; omega, ?_⟩
      simp -implicitDefEqProofs [body_law12_ReadsRight_0, mask_law12_ReadsRight_0, hi, hk, upC_eq, hw, hlim]) (fun a _ => by simp -implicitDefEqProofs [body_law12_ReadsRight_0]) [r.pre, r.on] rfl
  have hL1 := fun (o : List Ex) (ho : o.length ≤ 1048580) => loop_fold (X := X) (mask := mask_law12_ReadsRight_1) (body := body_law12_ReadsRight_1) r.during
    (fun i (a : List Ex) => ⟨mkE 67 [(1, .pv 10000 0), (3, .os 10000030 a.length 0 a.length), (5, .d (.int .i64 i))], [(10000, .var (rtV r)), (10000030, .arr 6 (a.map exC))]⟩)
    (fun i a => a.length = o.length + i)
    (fun _ a k => a ++ [k.to]) (fun a => (.exit 2, ⟨mkE 67 [(1, .pv 10000 0), (3, .os 10000030 a.length 0 a.length)], [(10000, .var (rtV r)), (10000030, .arr 6 (a.map exC))]⟩)) (by simp) (fun i a k hi hk hI => by
      have hw := wrap_ok (a := (i : Int) + 1) (by omega) (by omega)
      have hlim : a.length + 1 ≤ LIM := by unfold LIM; omega
      refine ⟨by simp; omega, ?_⟩
      simp -implicitDefEqProofs [body_law12_ReadsRight_1, mask_law12_ReadsRight_1, hi, hk, upC_eq, hw, hlim]) (fun a _ => by simp -implicitDefEqProofs [body_law12_ReadsRight_1]) o rfl
  have hL2 := fun (o : List Ex) (ho : o.length ≤ 2097160) => loop_fold (X := X) (mask := mask_law12_ReadsRight_2) (body := body_law12_ReadsRight_2) r.after
    (fun i (a : List Ex) => ⟨mkE 67 [(1, .pv 10000 0), (3, .os 10000030 a.length 0 a.length), (6, .d (.int .i64 i))], [(10000, .var (rtV r)), (10000030, .arr 6 (a.map exC))]⟩)
    (fun i a => a.length = o.length + i)
    (fun _ a k => a ++ [k.to]) (fun a => (.exit 4, ⟨mkE 67 [(1, .pv 10000 0), (3, .os 10000030 a.length 0 a.length)], [(10000, .var (rtV r)), (10000030, .arr 6 (a.map exC))]⟩)) (by simp) (fun i a k hi hk hI => by
      have hw := wrap_ok (a := (i : Int) + 1) (by omega) (by omega)
      have hlim : a.length + 1 ≤ LIM := by unfold LIM; omega
      refine ⟨by simp; omega, ?_⟩
      simp -implicitDefEqProofs [body_law12_ReadsRight_2, mask_law12_ReadsRight_2, hi, hk, upC_eq, hw, hlim]) (fun a _ => by simp -implicitDefEqProofs [body_law12_ReadsRight_2]) o rfl
  have e0 : ∀ (l : List Up) (i : Nat) (o : List Ex), foldI (fun _ a k => a ++ [k.to]) l i o = o ++ l.map Up.to := by
    intro l
    induction l with
    | nil => intro i o; simp [foldI]
    | cons x r ih => intro i o; rw [foldI_cons, ih]; simp
  simp only [e0] at hL0 hL1 hL2
  have hL1' := hL1 ([r.pre, r.on] ++ r.before.map Up.to) (by simp; omega)
  have hL2' := hL2 ([r.pre, r.on] ++ r.before.map Up.to ++ r.during.map Up.to) (by simp; omega)
  generalize [r.pre, r.on] ++ r.before.map Up.to ++ r.during.map Up.to ++ r.after.map Up.to = w3 at *
  generalize [r.pre, r.on] ++ r.before.map Up.to ++ r.during.map Up.to = w2 at *
  generalize [r.pre, r.on] ++ r.before.map Up.to = w1 at *
  cases v : noViews (.d (.vs false (z.map rdC))) <;> cases v2 : noViews (.d (.vs false (q.map rdC))) <;>
  · simp -implicitDefEqProofs [code_law12_ReadsRight, alive12]
    rw [hL0 _ (by simp -implicitDefEqProofs [mask_law12_ReadsRight_0])]
    simp -implicitDefEqProofs
    rw [hL1' _ (by simp -implicitDefEqProofs [mask_law12_ReadsRight_1])]
    simp -implicitDefEqProofs
    rw [hL2' _ (by simp -implicitDefEqProofs [mask_law12_ReadsRight_2])]
    simp -implicitDefEqProofs [hR, hA, hk, v, v2]

theorem typ_rds {P : Program} {q t : TypeId} {fs : Array Field} (hq : P.underlying q = some (.slice t)) (hu : P.underlying t = some (.struct fs)) {a b : TypeId} (hfs : fs.toList.map (·.type) = [a, b])
    (h1 : P.underlying a = some (.int .i64)) (h2 : P.underlying b = some .string) (x : List D) (h : Typed P q x) : ∃ l : List Rd, x = [.vs false (l.map rdC)] := by
  obtain ⟨es, rfl, hes⟩ := typ_slice h hq
  obtain ⟨l, rfl⟩ := mem_map_all rdC (es := es) fun c hc => by
    obtain ⟨parts, rfl, hp⟩ := typ_fields (hes c hc) hu hfs
    obtain ⟨u, r, rfl, hu', hp⟩ := tall_cons hp
    obtain ⟨v, r, rfl, hv', hp⟩ := tall_cons hp
    cases tall_nil hp
    obtain ⟨m1, rfl, _⟩ := typ_int hu' h1
    obtain ⟨m2, rfl⟩ := typ_str hv' h2
    exact ⟨⟨m1, m2⟩, rfl⟩
  exact ⟨l, rfl⟩
theorem typ_ups {P : Program} {q t : TypeId} {fs : Array Field} (hq : P.underlying q = some (.slice t)) (hu : P.underlying t = some (.struct fs)) {a b c : TypeId} (hfs : fs.toList.map (·.type) = [a, b, c])
    (h1 : P.underlying a = some (.int .i64)) (h2 : P.underlying b = some .string) (h3 : ∀ x, Typed P c x → ∃ e : Ex, x = exC e) (x : List D) (h : Typed P q x) : ∃ l : List Up, x = [.vs false (l.map upC)] := by
  obtain ⟨es, rfl, hes⟩ := typ_slice h hq
  obtain ⟨l, rfl⟩ := mem_map_all upC (es := es) fun c hc => by
    obtain ⟨parts, rfl, hp⟩ := typ_fields (hes c hc) hu hfs
    obtain ⟨u, r, rfl, hu', hp⟩ := tall_cons hp
    obtain ⟨v, r, rfl, hv', hp⟩ := tall_cons hp
    obtain ⟨w, r, rfl, hw', hp⟩ := tall_cons hp
    cases tall_nil hp
    obtain ⟨m1, rfl, _⟩ := typ_int hu' h1
    obtain ⟨m2, rfl⟩ := typ_str hv' h2
    obtain ⟨e, rfl⟩ := h3 _ hw'
    exact ⟨⟨m1, m2, e⟩, by simp [upC]⟩
  exact ⟨l, rfl⟩
theorem typ_rt {P : Program} {t d dt : TypeId} {fs : Array Field} (hu : P.underlying t = some (.struct fs)) {s e u : TypeId} (hfs : fs.toList.map (·.type) = [s, e, e, u, u, u, d]) (hd : P.underlying d = some (.slice dt))
    (h1 : P.underlying s = some .string) (h3 : ∀ x, Typed P e x → ∃ e : Ex, x = exC e) (h4 : ∀ x, Typed P u x → ∃ l : List Up, x = [.vs false (l.map upC)]) (x : List D) (h : Typed P t x) : ∃ r : Rt, x = rtC r := by
  obtain ⟨parts, rfl, hp⟩ := typ_fields h hu hfs
  obtain ⟨a1, r, rfl, q1, hp⟩ := tall_cons hp
  obtain ⟨a2, r, rfl, q2, hp⟩ := tall_cons hp
  obtain ⟨a3, r, rfl, q3, hp⟩ := tall_cons hp
  obtain ⟨a4, r, rfl, q4, hp⟩ := tall_cons hp
  obtain ⟨a5, r, rfl, q5, hp⟩ := tall_cons hp
  obtain ⟨a6, r, rfl, q6, hp⟩ := tall_cons hp
  obtain ⟨a7, r, rfl, q7, hp⟩ := tall_cons hp
  cases tall_nil hp
  obtain ⟨m1, rfl⟩ := typ_str q1 h1
  obtain ⟨m2, rfl⟩ := h3 _ q2
  obtain ⟨m3, rfl⟩ := h3 _ q3
  obtain ⟨m4, rfl⟩ := h4 _ q4
  obtain ⟨m5, rfl⟩ := h4 _ q5
  obtain ⟨m6, rfl⟩ := h4 _ q6
  obtain ⟨m7, rfl, _⟩ := typ_slice q7 hd
  exact ⟨⟨m1, m2, m3, m4, m5, m6, m7⟩, by simp⟩
end Bz.S
