/- Stores that nobody made. -/
import Derived.Test.YtpopnggdnkfemaaPlV
import Derived.Test.YtpopnggdnkfemaaTypV
import Derived.KernelRfl
set_option linter.unusedSimpArgs false
set_option linter.unusedVariables false
namespace Bz.S
open Go Bz
set_option maxRecDepth 10000
set_option maxHeartbeats 4000000

theorem alive05 : R F_law05_alive [] [] = some (.d (.bool true), []) := RUN_run own retOwn ext code (k := 60) (by kernel_rfl)

abbrev noH : Heap := [(0, .var [.d .nilm, .d .nilm])]
theorem st0_is : R F_store_Store_is [.d .nilp] [] = some (.d (.bool false), []) := by
  refine R_of at_store_Store_is (by decide) ?_
  simp -implicitDefEqProofs [code_store_Store_is]
theorem st1_is : R F_store_Store_is [.pv 0 0] noH = some (.d (.bool false), noH) := by
  refine R_of at_store_Store_is (by decide) ?_
  simp -implicitDefEqProofs [code_store_Store_is]
theorem st0_Kind (n : Txt) : R F_store_Store_Kind [.d .nilp, stA n] [] = some (.d (.int .i64 0), []) := by
  refine R_of at_store_Store_Kind (by decide) ?_
  simp -implicitDefEqProofs [code_store_Store_Kind, st0_is]
theorem st1_Kind (n : Txt) : R F_store_Store_Kind [.pv 0 0, stA n] noH = some (.d (.int .i64 0), noH) := by
  refine R_of at_store_Store_Kind (by decide) ?_
  simp -implicitDefEqProofs [code_store_Store_Kind, st1_is]
theorem st0_Count : R F_store_Store_Count [.d .nilp] [] = some (.d (.int .i64 0), []) := by
  refine R_of at_store_Store_Count (by decide) ?_
  simp -implicitDefEqProofs [code_store_Store_Count, st0_is]
theorem st1_Count : R F_store_Store_Count [.pv 0 0] noH = some (.d (.int .i64 0), noH) := by
  refine R_of at_store_Store_Count (by decide) ?_
  simp -implicitDefEqProofs [code_store_Store_Count, st1_is]
theorem st0_Clone : R F_store_Store_Clone [.d .nilp] [] = some (.d .nilp, []) := by
  refine R_of at_store_Store_Clone (by decide) ?_
  simp -implicitDefEqProofs [code_store_Store_Clone, st0_is]
theorem st1_Clone : R F_store_Store_Clone [.pv 0 0] noH = some (.d .nilp, noH) := by
  refine R_of at_store_Store_Clone (by decide) ?_
  simp -implicitDefEqProofs [code_store_Store_Clone, st1_is]
theorem st0_Names (n : Txt) : R F_store_Store_Names [.d .nilp, stA n] [] = some (txS [], []) := by
  refine R_of at_store_Store_Names (by decide) ?_
  simp -implicitDefEqProofs [code_store_Store_Names, st0_is]
theorem st1_Names (n : Txt) : R F_store_Store_Names [.pv 0 0, stA n] noH = some (txS [], noH) := by
  refine R_of at_store_Store_Names (by decide) ?_
  simp -implicitDefEqProofs [code_store_Store_Names, st1_is]
def va0 : Va := ⟨0, 0, [], []⟩
theorem st0_Get (e n : Txt) : R F_store_Store_Get [.d .nilp, stA e, stA n] [] = some (.tup [vaA va0, .d (.bool false)], []) := by
  refine R_of at_store_Store_Get (by decide) ?_
  simp -implicitDefEqProofs [code_store_Store_Get, st0_Kind, vaA, va0]
theorem st1_Get (e n : Txt) : R F_store_Store_Get [.pv 0 0, stA e, stA n] noH = some (.tup [vaA va0, .d (.bool false)], noH) := by
  refine R_of at_store_Store_Get (by decide) ?_
  simp -implicitDefEqProofs [code_store_Store_Get, st1_Kind, vaA, va0]
theorem st0_Set (e n : Txt) (v : Va) : R F_store_Store_Set [.d .nilp, stA e, stA n, vaA v] [] = some (.d (.int .i64 9), []) := by
  refine R_of at_store_Store_Set (by decide) ?_
  simp -implicitDefEqProofs [code_store_Store_Set, st0_Kind, st0_is, vaA]
theorem st1_Set (e n : Txt) (v : Va) : R F_store_Store_Set [.pv 0 0, stA e, stA n, vaA v] noH = some (.d (.int .i64 9), noH) := by
  refine R_of at_store_Store_Set (by decide) ?_
  simp -implicitDefEqProofs [code_store_Store_Set, st1_Kind, st1_is, vaA]
theorem run_StoreNobody (e n : Txt) (v : Va) (_hb0 : bulkL [.str e] + (bulkL [.str n] + bulkL (vaC v)) ≤ 1048576) : R F_law05_StoreNobody [stA e, stA n, vaA v] [] = some (.d (.bool true), []) := by
  refine R_of at_law05_StoreNobody (by decide) ?_
  have h := run_plValue va0 va0 (by simp [va0, BIG]) (by simp [va0, BIG])
  have hg := st0_Get e n
  have hg1 := st1_Get e n
  have hs := st0_Set e n v
  have hs1 := st1_Set e n v
  simp only [decide_true] at h
  simp only [vaA, va0, txS, List.map_nil] at h hg hg1 hs hs1
  simp -implicitDefEqProofs (maxSteps := 4000000) [code_law05_StoreNobody, alive05, h, hg, hg1, hs, hs1, st0_Clone, st1_Clone, st0_Count, st1_Count, st0_Names, st1_Names, st0_Kind, st1_Kind]
end Bz.S
