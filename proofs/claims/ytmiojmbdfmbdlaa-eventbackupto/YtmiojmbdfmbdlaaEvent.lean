/- What happens, as octets: the program's package event, and the page's (ref23), walked. -/
import Derived.Test.YtmiojmbdfmbdlaaBack
import Derived.Test.YtmiojmbdfmbdlaaCmp
import Derived.Test.YtmiojmbdfmbdlaaPlV
import Derived.Test.YtmiojmbdfmbdlaaLex
import Derived.Test.YtmiojmbdfmbdlaaTypV
import Derived.KernelRfl
set_option linter.unusedSimpArgs false
set_option linter.unusedVariables false
namespace Bz.S
open Go Bz
set_option maxRecDepth 10000
set_option maxHeartbeats 4000000

/-- api.Event -/
structure Ev where
  at_ : Int
  kind : Int
  id : Int
  s : Txt
  o : Txt
  n : Txt
  v : Va
  deriving DecidableEq
def evC (e : Ev) : List D := [.int .i64 e.at_, .int .i64 e.kind, .int .i64 e.id, .str e.s, .str e.o, .str e.n, .int .i64 e.v.kind, .int .i64 e.v.n, .str e.v.s, .vs false (e.v.l.map stC)]
@[simp] theorem evC_eq (e : Ev) : evC e = [.int .i64 e.at_, .int .i64 e.kind, .int .i64 e.id, .str e.s, .str e.o, .str e.n, .int .i64 e.v.kind, .int .i64 e.v.n, .str e.v.s, .vs false (e.v.l.map stC)] := rfl
abbrev evA (e : Ev) : AV := .agg [.d (.int .i64 e.at_), .d (.int .i64 e.kind), .d (.int .i64 e.id), .d (.str e.s), .d (.str e.o), .d (.str e.n), .d (.int .i64 e.v.kind), .d (.int .i64 e.v.n), .d (.str e.v.s), txS e.v.l]
structure EvOK (e : Ev) : Prop where
  s : e.s.length ≤ LIM
  o : e.o.length ≤ LIM
  n : e.n.length ≤ LIM
  v : VaOK e.v
def va0' : Va := ⟨0, 0, [], []⟩
def ev0 : Ev := ⟨0, 0, 0, [], [], [], va0'⟩

def blankE (e : Ev) : Bool :=
  if e.kind = 1 then decide (e.v = va0') else if e.kind = 2 then decide (e.v = va0') && (decide (e.s = []) && decide (e.o = []))
  else if e.kind = 3 then decide (e.v = va0') && (decide (e.s = []) && decide (e.o = [])) && decide (e.n = [])
  else if e.kind = 4 then decide (e.id = 0) && decide (e.o = []) else decide (e.v = va0') && (decide (e.s = []) && decide (e.o = [])) && decide (e.n = []) && decide (e.id = 0)
def namedE (e : Ev) : Bool :=
  if e.kind = 1 then nameB e.s && nameB e.o && nameB e.n else if e.kind = 2 then nameB e.n else if e.kind = 4 then nameB e.s && nameB e.n && decide (vaCheck e.v = 0) else true
def evCheck (e : Ev) : Int := if e.kind < 1 ∨ 5 < e.kind then 12 else if e.at_ < 0 ∨ e.id < 0 ∨ 64 ≤ e.id then 4 else if blankE e = false ∨ namedE e = false then 16 else 0

theorem run_blank (e : Ev) (he : EvOK e) : R F_event_blank [evA e] [] = some (.d (.bool (blankE e)), []) := by
  refine R_of at_event_blank (by decide) ?_
  have h := run_Same e.v va0' he.v.l (by simp [va0', BIG])
  unfold blankE
  generalize hb : decide (e.v = va0') = b
  rw [hb] at h
  clear hb
  simp -implicitDefEqProofs [va0', vaA, txS] at h
  obtain ⟨a, k, i, s, o, n, v⟩ := e
  simp only at h
  by_cases k1 : k = 1
  · subst k1; simp -implicitDefEqProofs [code_event_blank, h]
  by_cases k2 : k = 2
  · subst k2; simp -implicitDefEqProofs [code_event_blank, h] <;> grind
  by_cases k3 : k = 3
  · subst k3; simp -implicitDefEqProofs [code_event_blank, h] <;> grind
  by_cases k4 : k = 4
  · subst k4; simp -implicitDefEqProofs [code_event_blank, h] <;> grind
  simp -implicitDefEqProofs [code_event_blank, h, k1, k2, k3, k4] <;> grind
theorem run_named (e : Ev) (he : EvOK e) : R F_event_named [evA e] [] = some (.d (.bool (namedE e)), []) := by
  refine R_of at_event_named (by decide) ?_
  have h1 := run_lexName e.s he.s
  have h2 := run_lexName e.o he.o
  have h3 := run_lexName e.n he.n
  have h4 := run_vaCheck e.v he.v
  obtain ⟨a, k, i, s, o, n, v⟩ := e
  simp only at h1 h2 h3 h4
  unfold namedE
  by_cases k1 : k = 1
  · subst k1; simp -implicitDefEqProofs [code_event_named, h1, h2, h3] <;> grind
  by_cases k2 : k = 2
  · subst k2; simp -implicitDefEqProofs [code_event_named, h1, h2, h3]
  by_cases k4 : k = 4
  · subst k4; simp -implicitDefEqProofs [code_event_named, h1, h2, h3, h4] <;> grind
  simp -implicitDefEqProofs [code_event_named, k1, k2, k4]
theorem run_evCheck (e : Ev) (he : EvOK e) : R F_event_Check [evA e] [] = some (.d (.int .i64 (evCheck e)), []) := by
  refine R_of at_event_Check (by decide) ?_
  have h1 := run_blank e he
  have h2 := run_named e he
  unfold evCheck
  by_cases k1 : e.kind < 1
  · simp -implicitDefEqProofs [code_event_Check, k1]
  by_cases k2 : 5 < e.kind
  · simp -implicitDefEqProofs [code_event_Check, k1, k2]
  by_cases a1 : e.at_ < 0
  · simp -implicitDefEqProofs [code_event_Check, k1, k2, a1]
  by_cases a2 : e.id < 0
  · simp -implicitDefEqProofs [code_event_Check, k1, k2, a1, a2]
  by_cases a3 : 64 ≤ e.id
  · simp -implicitDefEqProofs [code_event_Check, k1, k2, a1, a2, a3]
  cases hb : blankE e <;> cases hn : namedE e <;> rw [hb] at h1 <;> rw [hn] at h2 <;> simp -implicitDefEqProofs [code_event_Check, k1, k2, a1, a2, a3, h1, h2]

theorem run_empty (v : Va) : R F_ref23_empty [vaA v] [] = some (.d (.bool (decide (v = va0'))), []) := by
  refine R_of at_ref23_empty (by decide) ?_
  obtain ⟨k, n, s, l⟩ := v
  simp -implicitDefEqProofs [code_ref23_empty, va0']

theorem name_nil : nameB [] = false := rfl

theorem run_23Check (e : Ev) (he : EvOK e) : R F_ref23_Check [evA e] [] = some (.d (.int .i64 (evCheck e)), []) := by
  refine R_of at_ref23_Check (by decide) ?_
  have h1 := run_refName e.s he.s
  have h2 := run_refName e.o he.o
  have h3 := run_refName e.n he.n
  have h4 := run_02Check e.v he.v
  have h5 := run_empty e.v
  have n1 : nameB e.s = true → ¬ e.s = [] := fun h h' => by rw [h'] at h; cases h
  have n2 : nameB e.o = true → ¬ e.o = [] := fun h h' => by rw [h'] at h; cases h
  have n3 : nameB e.n = true → ¬ e.n = [] := fun h h' => by rw [h'] at h; cases h
  obtain ⟨a, k, i, s, o, n, v⟩ := e
  simp only at h1 h2 h3 h4 h5 n1 n2 n3
  unfold evCheck blankE namedE
  simp only
  generalize nameB s = bs at *
  generalize nameB o = bo at *
  generalize nameB n = bn at *
  generalize decide (v = va0') = bv at *
  by_cases k1 : k < 1
  · simp -implicitDefEqProofs [code_ref23_Check, k1]
  by_cases k2 : 5 < k
  · simp -implicitDefEqProofs [code_ref23_Check, k1, k2]
  by_cases a1 : a < 0
  · simp -implicitDefEqProofs [code_ref23_Check, k1, k2, a1]
  by_cases a2 : i < 0
  · simp -implicitDefEqProofs [code_ref23_Check, k1, k2, a1, a2]
  by_cases a3 : 63 < i
  · have a4 : 64 ≤ i := by omega
    simp -implicitDefEqProofs [code_ref23_Check, k1, k2, a1, a2, a3, a4]
  have a4 : ¬ 64 ≤ i := by omega
  rcases (by omega : k = 1 ∨ k = 2 ∨ k = 3 ∨ k = 4 ∨ k = 5) with rfl | rfl | rfl | rfl | rfl
  · simp -implicitDefEqProofs [code_ref23_Check, a1, a2, a3, a4, h1, h2, h3, h4, h5]
    clear h1 h2 h3 h4 h5 he
    by_cases hs : s = [] <;> by_cases ho : o = [] <;> by_cases hn : n = [] <;> by_cases hz : vaCheck v = 0 <;> revert n1 n2 n3 <;> cases bs <;> cases bo <;> cases bn <;> cases bv <;> simp [hs, ho, hn, hz]
  · simp -implicitDefEqProofs [code_ref23_Check, a1, a2, a3, a4, h1, h2, h3, h4, h5]
    clear h1 h2 h3 h4 h5 he
    by_cases hs : s = [] <;> by_cases ho : o = [] <;> by_cases hn : n = [] <;> by_cases hz : vaCheck v = 0 <;> revert n1 n2 n3 <;> cases bs <;> cases bo <;> cases bn <;> cases bv <;> simp [hs, ho, hn, hz]
  · simp -implicitDefEqProofs [code_ref23_Check, a1, a2, a3, a4, h1, h2, h3, h4, h5]
    clear h1 h2 h3 h4 h5 he
    by_cases hs : s = [] <;> by_cases ho : o = [] <;> by_cases hn : n = [] <;> by_cases hz : vaCheck v = 0 <;> revert n1 n2 n3 <;> cases bs <;> cases bo <;> cases bn <;> cases bv <;> simp [hs, ho, hn, hz]
  · simp -implicitDefEqProofs [code_ref23_Check, a1, a2, a3, a4, h1, h2, h3, h4, h5]
    clear h1 h2 h3 h4 h5 he
    by_cases hs : s = [] <;> by_cases ho : o = [] <;> by_cases hn : n = [] <;> by_cases hz : vaCheck v = 0 <;> revert n1 n2 n3 <;> cases bs <;> cases bo <;> cases bn <;> cases bv <;> simp [hs, ho, hn, hz]
  · simp -implicitDefEqProofs [code_ref23_Check, a1, a2, a3, a4, h1, h2, h3, h4, h5]
    clear h1 h2 h3 h4 h5 he
    by_cases hs : s = [] <;> by_cases ho : o = [] <;> by_cases hn : n = [] <;> by_cases hz : vaCheck v = 0 <;> revert n1 n2 n3 <;> cases bs <;> cases bo <;> cases bn <;> cases bv <;> simp [hs, ho, hn, hz]
end Bz.S
