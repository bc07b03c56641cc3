/- Layer 7's laws, walked. -/
import Derived.Test.YtfmebmnifpjmpaaRef07
import Derived.KernelRfl
set_option linter.unusedSimpArgs false
set_option linter.unusedVariables false
namespace Bz.S
open Go Bz
set_option maxRecDepth 10000
set_option maxHeartbeats 4000000

theorem run_alive07 : R F_law07_alive [] [] = some (.d (.bool true), []) :=
  RUN_run own retOwn ext code (k := 40) (by kernel_rfl)

theorem run_AstChecks (e : Ex) (hb0 : bulkL (exC e) ≤ 1048576) : R F_law07_AstChecks [exA e] [] = some (.d (.bool true), []) := by
  refine R_of at_law07_AstChecks (by decide) ?_
  have hb : exN e ≤ BIG := by unfold exN BIG; omega
  have h1 := run_Check e hb
  have h2 := run_refCheck e hb
  simp -implicitDefEqProofs [code_law07_AstChecks, run_alive07, h1, h2]
end Bz.S
