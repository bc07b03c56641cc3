/- Verdicts and records, as the clean machine has them. -/
import Derived.Test.YtlciioiahkcnlaaOct
set_option linter.unusedSimpArgs false
set_option linter.unusedVariables false
namespace Bz.S
open Go Bz
set_option maxRecDepth 10000
set_option maxHeartbeats 4000000

/-- api.Verdict -/
structure Vd where
  id : Int
  kind : Int
  code : Int
  deriving DecidableEq

def vdC (v : Vd) : List D := [.int .i64 v.id, .int .i64 v.kind, .int .i64 v.code]
@[simp] theorem vdC_eq (v : Vd) : vdC v = [.int .i64 v.id, .int .i64 v.kind, .int .i64 v.code] := rfl
@[simp] theorem sized_vd (l : List Vd) : sized 3 (l.map vdC) = true := sized_map 3 vdC (fun _ => rfl) l
abbrev vdS (l : List Vd) : AV := .d (.vs false (l.map vdC))
abbrev vdA (v : Vd) : AV := .agg [.d (.int .i64 v.id), .d (.int .i64 v.kind), .d (.int .i64 v.code)]

theorem run_IndexVd (l : List Vd) (hl : l.length ≤ BIG) (f : Nat) (hf : own f = false) (p : Vd → Bool) (hp : ∀ e ∈ l, R f [vdA e] [] = some (.d (.bool (p e)), [])) :
    R F_slices_IndexFunc_api_Verdict_api_Verdict [vdS l, .fn f []] [] = some (.d (.int .i64 (idxK p l)), []) := by
  refine R_of at_slices_IndexFunc_api_Verdict_api_Verdict (by decide) ?_
  unfold BIG at hl
  have hL := loop_find (X := X) (mask := mask_slices_IndexFunc_api_Verdict_api_Verdict_0) (body := body_slices_IndexFunc_api_Verdict_api_Verdict_0) l
    (fun i => ⟨mkE 19 [(0, vdS l), (1, .fn f []), (7, .d (.int .i64 l.length)), (8, .d (.int .i64 i))], []⟩)
    (fun _ => p) (.exit 0, ⟨mkE 19 [], []⟩) (fun i _ => (.ret, ⟨mkE 19 [(4, .d (.int .i64 i))], []⟩)) (by simp) (by simp)
    (fun i e hi he hq => by
      have hw := wrap_ok (a := (i : Int) + 1) (by omega) (by omega)
      have hc := hp e (he ▸ List.getElem_mem hi)
      simp -implicitDefEqProofs [body_slices_IndexFunc_api_Verdict_api_Verdict_0, mask_slices_IndexFunc_api_Verdict_api_Verdict_0, hi, he, hc, hf, hq, hw])
    (fun i e hi he hq => by
      have hc := hp e (he ▸ List.getElem_mem hi)
      simp -implicitDefEqProofs [body_slices_IndexFunc_api_Verdict_api_Verdict_0, hi, he, hc, hf, hq]) (by simp -implicitDefEqProofs [body_slices_IndexFunc_api_Verdict_api_Verdict_0])
  simp -implicitDefEqProofs [code_slices_IndexFunc_api_Verdict_api_Verdict]
  rw [hL _ (by simp [mask_slices_IndexFunc_api_Verdict_api_Verdict_0])]
  unfold idxK
  cases findI (fun _ => p) l 0 <;> simp -implicitDefEqProofs

theorem run_ContainsVd (l : List Vd) (hl : l.length ≤ BIG) (f : Nat) (hf : own f = false) (p : Vd → Bool) (hp : ∀ e ∈ l, R f [vdA e] [] = some (.d (.bool (p e)), [])) :
    R F_slices_ContainsFunc_api_Verdict_api_Verdict [vdS l, .fn f []] [] = some (.d (.bool (l.any p)), []) := by
  refine R_of at_slices_ContainsFunc_api_Verdict_api_Verdict (by decide) ?_
  have h := run_IndexVd l hl f hf p hp
  simp -implicitDefEqProofs [code_slices_ContainsFunc_api_Verdict_api_Verdict, h, idxK_any]


end Bz.S
