/- The law of expressions alike and of clones, walked. -/
import Derived.Test.YtfmebmnifpjmpaaSame3
set_option linter.unusedSimpArgs false
set_option linter.unusedVariables false
namespace Bz.S
open Go Bz
set_option maxRecDepth 10000
set_option maxHeartbeats 4000000

theorem run_aliveS : R F_law07_alive [] [] = some (.d (.bool true), []) :=
  RUN_run own retOwn ext code (k := 40) (by kernel_rfl)

theorem run_AstSame (a b : Ex) (hb0 : bulkL (exC a) + bulkL (exC b) ≤ 1048576) : R F_law07_AstSame [exA a, exA b] [] = some (.d (.bool true), []) := by
  refine R_of at_law07_AstSame (by decide) ?_
  have ha : exN a ≤ BIG := by unfold exN BIG; omega
  have hb : exN b ≤ BIG := by unfold exN BIG; omega
  have c1 := run_Copy a ha
  have c2 := run_Clone a ha
  have s1 := run_Same a ha b hb
  have s2 := run_Same a ha a ha
  have e1 := run_PlExpr a ha b hb
  have e2 := run_PlExpr a ha a ha
  have sp := run_spoil a ha
  rw [eqE_self] at s2 e2
  generalize a.kids.map spoilE = sk at sp
  have hp : (∀ (x : Ex), x ∈ a.kids → ∀ (x_1 : AV), x_1 ∈ exR x → pureC x_1 = true) = True := eq_true fun x _ y hy => by
    simp only [exR, List.mem_cons, List.not_mem_nil, or_false] at hy
    rcases hy with rfl | rfl | rfl | rfl | rfl | rfl <;> simp
  simp -implicitDefEqProofs [code_law07_AstSame, run_aliveS, c1, c2, s1, s2, e1, e2, sp, hp]
end Bz.S
