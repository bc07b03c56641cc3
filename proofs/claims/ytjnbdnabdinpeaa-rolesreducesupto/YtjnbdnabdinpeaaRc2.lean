/- Roles: which may be; names; tops. -/
import Derived.Test.YtjnbdnabdinpeaaRc
import Derived.Test.YtjnbdnabdinpeaaTypV
import Derived.KernelRfl
set_option linter.unusedSimpArgs false
set_option linter.unusedVariables false
namespace Bz.S
open Go Bz
set_option maxRecDepth 10000
set_option maxHeartbeats 4000000

theorem alive31 : R F_law31_alive [] [] = some (.d (.bool true), []) := RUN_run own retOwn ext code (k := 60) (by kernel_rfl)

def few31 (l : List Pr) : List Pr := l.take 30
theorem run_31few (l : List Pr) : R F_law31_few [prS l] [] = some (prS (few31 l), []) := by
  refine R_of at_law31_few (by decide) ?_
  unfold few31
  by_cases h : 30 < l.length
  · have h' : (30 : Int) < l.length := by omega
    have h2 : 30 ≤ l.length := by omega
    have h3 : (30 : Int) ≤ l.length := by omega
    simp -implicitDefEqProofs [code_law31_few, h', h2, h3]
  · have h' : ¬ (30 : Int) < l.length := by omega
    rw [List.take_of_length_le (by omega)]
    simp -implicitDefEqProofs [code_law31_few, h']

/-- are both no names? -/
def badPr (p : Pr) : Bool := !nameB p.low || !nameB p.high
theorem run_Check1 (p : Pr) (h1 : p.low.length ≤ LIM) (h2 : p.high.length ≤ LIM) : R F_roles_Check_1 [prA p] [] = some (.d (.bool (badPr p)), []) := by
  refine R_of at_roles_Check_1 (by decide) ?_
  obtain ⟨a, b⟩ := p
  have g1 := run_lexName a h1
  have g2 := run_lexName b h2
  unfold badPr
  simp only at *
  cases q1 : nameB a <;> rw [q1] at g1 <;> simp -implicitDefEqProofs [code_roles_Check_1, g1, g2]

structure PrsOK (l : List Pr) : Prop where
  len : l.length ≤ 1048576
  ok : ∀ p ∈ l, p.low.length ≤ LIM ∧ p.high.length ≤ LIM

def roCheck (l : List Pr) : Int := if 64 < l.length then 3 else if l.any badPr then 16 else if ringB l then 9 else 0
theorem run_RCheck (l : List Pr) (h : PrsOK l) : R F_roles_Check [prS l] [] = some (.d (.int .i64 (roCheck l)), []) := by
  refine R_of at_roles_Check (by decide) ?_
  unfold roCheck
  by_cases h1 : 64 < l.length
  · have h1' : (64 : Int) < l.length := by omega
    simp -implicitDefEqProofs [code_roles_Check, h1, h1']
  have h1' : ¬ (64 : Int) < l.length := by omega
  have hc := run_ContainsPr0 l (by have := h.len; unfold BIG; omega) F_roles_Check_1 rfl badPr (fun p hp => run_Check1 p (h.ok p hp).1 (h.ok p hp).2)
  have hr := run_ring l h.len
  cases q1 : l.any badPr with
  | true =>
    rw [q1] at hc
    simp -implicitDefEqProofs [code_roles_Check, h1, h1', hc]
  | false =>
    rw [q1] at hc
    cases q2 : ringB l with
    | true => rw [q2] at hr; simp -implicitDefEqProofs [code_roles_Check, h1, h1', hc, hr]
    | false => rw [q2] at hr; simp -implicitDefEqProofs [code_roles_Check, h1, h1', hc, hr]

theorem run_31check (l : List Pr) (h : PrsOK l) : R F_law31_check [prS l] [] = some (.d (.int .i64 (roCheck l)), []) := by
  refine R_of at_law31_check (by decide) ?_
  have hlen := h.len
  unfold roCheck
  by_cases h1 : 64 < l.length
  · have h1' : (64 : Int) < l.length := by omega
    simp -implicitDefEqProofs [code_law31_check, h1, h1']
  have h1' : ¬ (64 : Int) < l.length := by omega
  have hr := run_31ring l h.len
  have hL := loop_find (X := X) (mask := mask_law31_check_0) (body := body_law31_check_0) l
    (fun i => ⟨mkE 31 [(0, prS l), (3, .d (.int .i64 i))], []⟩)
    (fun _ => badPr) (.exit 0, ⟨mkE 31 [(0, prS l)], []⟩) (fun _ _ => (.ret, ⟨mkE 31 [(2, .d (.int .i64 16))], []⟩)) (by simp) (by simp)
    (fun i p hi hx hq => by
      have hw := wrap_ok (a := (i : Int) + 1) (by omega) (by omega)
      have hp := h.ok p (hx ▸ List.getElem_mem hi)
      obtain ⟨a, b⟩ := p
      have g1 := run_refName a hp.1
      have g2 := run_refName b hp.2
      unfold badPr at hq
      rw [Bool.or_eq_false_iff] at hq
      simp only [Bool.not_eq_false'] at hq
      rw [hq.1] at g1
      rw [hq.2] at g2
      simp -implicitDefEqProofs [body_law31_check_0, mask_law31_check_0, hi, hx, prC_eq, g1, g2, hw])
    (fun i p hi hx hq => by
      have hp := h.ok p (hx ▸ List.getElem_mem hi)
      obtain ⟨a, b⟩ := p
      have g1 := run_refName a hp.1
      have g2 := run_refName b hp.2
      unfold badPr at hq
      simp only at hq
      cases q1 : nameB a with
      | false => rw [q1] at g1; simp -implicitDefEqProofs [body_law31_check_0, hi, hx, prC_eq, g1]
      | true =>
        rw [q1] at g1 hq
        have q2 : nameB b = false := by simpa using hq
        rw [q2] at g2
        simp -implicitDefEqProofs [body_law31_check_0, hi, hx, prC_eq, g1, g2]) (by simp -implicitDefEqProofs [body_law31_check_0])
  have ha := findI_any badPr l 0
  cases hF : findI (fun _ => badPr) l 0 with
  | some q =>
    rw [hF] at ha
    have ha : l.any badPr = true := ha.symm
    rw [ha]
    simp -implicitDefEqProofs [code_law31_check, h1, h1']
    rw [hL _ (by simp [mask_law31_check_0])]
    simp -implicitDefEqProofs [hF]
  | none =>
    rw [hF] at ha
    have ha : l.any badPr = false := ha.symm
    rw [ha]
    cases q2 : ringB l with
    | true =>
      rw [q2] at hr
      simp -implicitDefEqProofs [code_law31_check, h1, h1']
      rw [hL _ (by simp [mask_law31_check_0])]
      simp -implicitDefEqProofs [hF, hr]
    | false =>
      rw [q2] at hr
      simp -implicitDefEqProofs [code_law31_check, h1, h1']
      rw [hL _ (by simp [mask_law31_check_0])]
      simp -implicitDefEqProofs [hF, hr]

theorem pr_bulk (l : List Pr) : l.length ≤ bulkLL (l.map prC) ∧ ∀ p ∈ l, p.low.length ≤ bulkLL (l.map prC) ∧ p.high.length ≤ bulkLL (l.map prC) := by
  induction l with
  | nil => simp
  | cons p r ih =>
    obtain ⟨h1, h2⟩ := ih
    simp only [List.map_cons, List.length_cons, bulkLL]
    have e : bulkL (prC p) = bulkL (prC p) := rfl
    simp only [prC, bulkL, bulkD] at *
    refine ⟨by omega, fun q hq => ?_⟩
    rcases List.mem_cons.1 hq with rfl | hq
    · omega
    · have := h2 q hq; omega
theorem prsOK_bulk {l : List Pr} (h : bulkL [.vs false (l.map prC)] ≤ 1048576) : PrsOK l := by
  have := pr_bulk l
  simp only [bulkL, bulkD] at h
  exact ⟨by omega, fun p hp => by have := this.2 p hp; unfold LIM; omega⟩

theorem run_RolesReaches (l : List Pr) (a b : Txt) (hb0 : bulkL [.vs false (l.map prC)] + (bulkL [.str a] + bulkL [.str b]) ≤ 1048576) :
    R F_law31_RolesReaches [prS l, .d (.str a), .d (.str b)] [] = some (.d (.bool true), []) := by
  refine R_of at_law31_RolesReaches (by decide) ?_
  have hf := run_31few l
  have hlen : (few31 l).length ≤ 30 := by unfold few31; simp; omega
  generalize few31 l = m at *
  have h1 := run_31reach m a (by omega)
  have h2 := run_RReach m a (by omega)
  have h3 := run_Rising (rcL m a) (by have := rcL_len m a; unfold BIG; omega)
  have h4 := run_RHas m a b (by omega)
  have h5 := run_plIn (rcL m a) b (by have := rcL_len m a; unfold BIG; omega)
  have e : (rcS m a).length ≤ BIG := by have := setT_len (rcL m a); have := rcL_len m a; unfold rcS BIG; omega
  have h6 := run_plTexts (rcS m a) (rcS m a) e e
  have e2 : setT (rcL m a) = rcS m a := rfl
  rw [e2] at h3
  simp only [decide_true] at h6
  simp -implicitDefEqProofs [code_law31_RolesReaches, alive31, hf, h1, h2, h3, h4, h5, h6]

theorem typ_prs {P : Program} {q t : TypeId} {fs : Array Field} (hq : P.underlying q = some (.slice t)) (hu : P.underlying t = some (.struct fs)) {a b : TypeId} (hfs : fs.toList.map (·.type) = [a, b])
    (h1 : P.underlying a = some .string) (h2 : P.underlying b = some .string) (x : List D) (h : Typed P q x) : ∃ l : List Pr, x = [.vs false (l.map prC)] := by
  obtain ⟨es, rfl, hes⟩ := typ_slice h hq
  obtain ⟨l, rfl⟩ := mem_map_all prC (es := es) fun c hc => by
    obtain ⟨parts, rfl, hp⟩ := typ_fields (hes c hc) hu hfs
    obtain ⟨u, r, rfl, hu', hp⟩ := tall_cons hp
    obtain ⟨v, r, rfl, hv', hp⟩ := tall_cons hp
    cases tall_nil hp
    obtain ⟨m1, rfl⟩ := typ_str hu' h1
    obtain ⟨m2, rfl⟩ := typ_str hv' h2
    exact ⟨⟨m1, m2⟩, rfl⟩
  exact ⟨l, rfl⟩
end Bz.S
