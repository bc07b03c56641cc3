/- What is put first: into what holds nothing yet. -/
import Derived.Test.YtfhkjoebkiigoaaOct4
set_option linter.unusedSimpArgs false
set_option linter.unusedVariables false
namespace Bz.S
open Go Bz
set_option maxRecDepth 10000
set_option maxHeartbeats 4000000

abbrev ow0H : Heap := [(0, .var [.d (.vs true []), .d (.int .i64 0)])]
theorem run_fail0 : R F_octet_Out_fail [.pv 0 0, .d (.int .i64 0)] ow0H = some (.d (.bool false), ow0H) := by
  refine R_of at_octet_Out_fail (by decide) ?_
  simp -implicitDefEqProofs [code_octet_Out_fail]
theorem run_OutByteZ (n : Int) (h0 : 0 ≤ n) (h1 : n ≤ 255) : R F_octet_Out_Byte [.pv 0 0, .d (.int .i64 n)] ow0H = some (.tup [], owH ⟨[toB n], 0⟩) := by
  refine R_of at_octet_Out_Byte (by decide) ?_
  have a1 : ¬ n < 0 := by omega
  have a2 : ¬ 255 < n := by omega
  have hl : 1 ≤ LIM := by unfold LIM; omega
  have hf := run_fail0
  simp -implicitDefEqProofs [code_octet_Out_Byte, a1, a2, hf, hl]
theorem run_OutIntZ (n : Int) : R F_octet_Out_Int [.pv 0 0, .d (.int .i64 n)] ow0H = some (.tup [], owH ⟨n8 n, 0⟩) := by
  refine R_of at_octet_Out_Int (by decide) ?_
  have hf := run_fail0
  have bb : IntKind.i64.bits = 64 := rfl
  have hw : ∀ z : Int, -8 ≤ z → z ≤ 56 → IntKind.i64.wrap z = z := fun z h1 h2 => wrap_ok (by omega) (by omega)
  have hL := loop_fold (X := X) (mask := mask_octet_Out_Int_0) (body := body_octet_Out_Int_0) [56, 48, 40, 32, 24, 16, 8, 0]
    (fun i (c : Txt) => ⟨mkE 24 [(0, .pv 0 0), (1, .d (.int .i64 n)), (4, .d (.int .i64 (56 - 8 * (i : Int))))], [(0, .var [.os 20000000 c.length 0 c.length, .d (.int .i64 0)]), (20000000, .arr 1 (c.map byC))]⟩)
    (fun i c => c.length = i) (fun _ c (s : Nat) => c ++ [toB (n.fdiv (2 ^ s))])
    (fun c => (.exit 0, ⟨mkE 24 [], [(0, .var [.os 20000000 c.length 0 c.length, .d (.int .i64 0)]), (20000000, .arr 1 (c.map byC))]⟩)) (by simp)
    (fun i c s hi hs hI => by
      have hcl : c.length + 1 ≤ LIM := by simp at hi; unfold LIM; omega
      have hi8 : i < 8 := hi
      refine ⟨by simp; omega, ?_⟩
      rcases (by omega : i = 0 ∨ i = 1 ∨ i = 2 ∨ i = 3 ∨ i = 4 ∨ i = 5 ∨ i = 6 ∨ i = 7) with rfl | rfl | rfl | rfl | rfl | rfl | rfl | rfl
      all_goals
        simp at hs
        subst hs
        simp -implicitDefEqProofs [body_octet_Out_Int_0, mask_octet_Out_Int_0, hcl, shr_ok, hw, bb]) (fun c _ => by simp -implicitDefEqProofs [body_octet_Out_Int_0]) [] (by simp)
  have hfo : foldI (fun _ (c : Txt) (s : Nat) => c ++ [toB (n.fdiv (2 ^ s))]) [56, 48, 40, 32, 24, 16, 8, 0] 0 [] = n8 n := by
    simp only [foldI_cons, foldI_nil, n8, List.append_assoc, List.cons_append, List.nil_append]
    simp
  rw [hfo] at hL
  simp -implicitDefEqProofs [code_octet_Out_Int, hf]
  rw [hL _ (by simp -implicitDefEqProofs [mask_octet_Out_Int_0])]
  simp -implicitDefEqProofs
end Bz.S
