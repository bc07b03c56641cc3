/- The law ReadsRight: called with any values of its parameters' types it answers true, and each argument reads behind the call as it read before. Condition: what is read is of bulk at most 1048576. -/
import Derived.Test.YtddljfbalbnkcaaRows
import Derived.Test.YtddljfbalbnkcaaLaw12b
import Derived.Test.YtddljfbalbnkcaaTyp
import Derived.Test.YtddljfbalbnkcaaShows
import Derived.Test.YtddljfbalbnkcaaBz2
import Derived.Test.YtddljfbalbnkcaaCmp0
import Derived.Test.YtddljfbalbnkcaaLays
import Derived.WalkKit
import Derived.ProofKit
import Derived.OpenShut
import Derived.JoinedCond
set_option linter.unusedSimpArgs false
set_option linter.unusedVariables false
namespace Go.Proofs.Ytddljfbalbnkcaa.readsRight
open Go.ChangeShapes Go.WideShapes Go.ChangeAt Go.RowKit Bz Bz.S

theorem ownKnobs : ownKnob Try.prog.godebug = none := by kernel_rfl
theorem laid : laidOutB Try.prog = true := by kernel_rfl
theorem tys : dataB Try.prog [41, 9, 29, 30, 39, 3, 2, 27, 32, 100, 4] = true := by kernel_rfl
theorem coded : Coded Try.prog 5 := ⟨_, Try.func5, by kernel_rfl, by kernel_rfl⟩
theorem extGood : Bz.Good Try.prog ext := .or (extSortF_good good_slices_SortFunc_reads_Read_reads_Read (by decide) (fun _ => rfl) decIT_ok (fun _ => rfl) totIT ⟨_, Try.func16, by kernel_rfl, by kernel_rfl⟩ (fun x y => RUN_good Bz.S.own retOwn extNone code extNone_good code_ok F_reads_compare _ _ _ _ (run0_cmpIT x y))) (extNone_good)
theorem bulk (H : Type) : BulkFn (H := H) Rows.uptoBulk Rows.uptoBulkAll :=
  ⟨fun b => by simp [Rows.uptoBulk], fun l => by cases l <;> simp [Rows.uptoBulk], by simp [Rows.uptoBulk], fun a b => by simp [Rows.uptoBulk], fun a => by simp [Rows.uptoBulk], by simp [Rows.uptoBulkAll], fun d r => by simp [Rows.uptoBulkAll]⟩

theorem law (xs : List (List D)) (hl : xs.length = [41].length) (ht : ∀ (i : Nat) (t : TypeId) (x : List D), [41][i]? = some t → xs[i]? = some x → Typed Try.prog t x) (hb : (xs.map bulkL).sum ≤ 1048576) :
    ∃ Ho, Meets Try.prog 5 (List.zipWith (argAV Try.prog) [41] xs) [] (.d (.bool true)) Ho := by
  match xs, hl with
  | [x0], _ =>
    obtain ⟨a0, rfl⟩ := typ_rt Try.underlying41 rfl Try.underlying39 Try.underlying9 (fun x hx => typ_ex Try.underlying29 Try.underlying27 rfl Try.underlying3 Try.underlying9 Try.underlying2 Try.underlying2 Try.underlying2 x hx) (fun x hx => typ_ups Try.underlying30 Try.underlying32 rfl Try.underlying3 Try.underlying9 (fun x hx => typ_ex Try.underlying29 Try.underlying27 rfl Try.underlying3 Try.underlying9 Try.underlying2 Try.underlying2 Try.underlying2 x hx) x hx) _ (ht 0 41 x0 rfl rfl)
    refine ⟨[], ?_⟩
    simp only [List.map_cons, List.map_nil, List.sum_cons, List.sum_nil] at hb
    have h := run_ReadsRight a0 (by simpa only [Nat.add_zero] using hb)
    have hg := RUN_good Bz.S.own retOwn ext code extGood code_ok F_law12_ReadsRight _ _ _ _ h
    have hz : List.zipWith (argAV Try.prog) [41] [((rtC a0))] = [(rtA a0)] := by simp [argAV, Try.underlying41]
    rw [hz]
    exact hg

set_option maxRecDepth 100000 in
theorem lifted (os : Os) (started : os.Started) (H : Type) (enc : TypeId × Value → H) (F : Stop.Interp) :
    ReturnsInHanded {} Try.checked os 5 .any ((Rows.OpenSpec.upto Rows.readsRightSpec).pre6 enc Try.prog Try.f5 Rows.readsRightUptoRow.domain false) (((Rows.OpenSpec.upto Rows.readsRightSpec).at F).post enc Try.prog Try.f5 false true false false) := by
  refine returnsInHanded_of_cond (C := Try.checked) (s := Rows.OpenSpec.upto Rows.readsRightSpec) (k := Rows.uptoSmall) rfl ownKnobs started (by kernel_rfl) Try.func5
    (OpenSpec.witness (enc := enc) (C := Try.checked) (s := Rows.OpenSpec.upto Rows.readsRightSpec) (k := Rows.uptoSmall) rfl false ⟨#[], #[.agg #[.string ByteArray.empty, .int .i64 0, .string ByteArray.empty, .int .i64 0, .int .i64 0, .int .i64 0, .slice none 0 0, .int .i64 0, .string ByteArray.empty, .int .i64 0, .int .i64 0, .int .i64 0, .slice none 0 0, .slice none 0 0, .slice none 0 0, .slice none 0 0, .slice none 0 0]], []⟩ 8 (by kernel_rfl) (by kernel_rfl) (by kernel_rfl)
      (x := ([.agg [.lit (.string []), .agg [.lit (.int .i64 0), .lit (.string []), .lit (.int .i64 0), .lit (.int .i64 0), .lit (.int .i64 0), .nil], .agg [.lit (.int .i64 0), .lit (.string []), .lit (.int .i64 0), .lit (.int .i64 0), .lit (.int .i64 0), .nil], .nil, .nil, .nil, .nil]], [], [])) (by kernel_rfl) rfl (by kernel_rfl)) ?_
  intro W base args ds gs before hval hW _ hk _
  have hW' := hW
  obtain ⟨p, q, hA0, hV, rfl, hfz, hnd⟩ := hW
  have hA : DataW.TrodAll enc Try.prog W 0 (fun _ => true) true Try.f5.params.toList args.toList ds p := hA0
  obtain ⟨rfl, rfl⟩ := trodVars_none hV
  have hlen : ds.length = 1 := by
    rw [Try.params5] at hA
    obtain ⟨v0, vs0, d0, ds0, p0, q0, hargs0, rfl, rfl, h0, r0⟩ := trodAll_cons hA
    obtain ⟨_, rfl, _⟩ := trodAll_nil r0
    rfl
  have hbulk : Rows.uptoBulkAll ds ≤ 1048576 := by
    have := of_decide_eq_true hk
    simpa using this
  refine (row_calls (P := Try.prog) tys (bulk H) coded (ps := [41]) (by kernel_rfl) law hA (fun j t v hj hv => hval j t v (by rw [Try.params5]; simpa using hj) hv) hbulk).mono fun e W' ⟨he, hbel⟩ => ?_
  subst he
  refine ⟨_, rfl, post_law hW' rfl ?_ laid (by kernel_rfl) rfl Try.underlying4 hbel⟩
  match ds, hlen with
  | [_], _ => exact ⟨rfl, rfl, rfl⟩

theorem over : Rows.readsRightUptoRow.holds Try.pinned (Rows.OpenSpec.upto Rows.readsRightSpec) :=
  OpenClaim.holds_of_cond 5 Try.f5 rfl rfl rfl rfl rfl rfl rfl ⟨rfl, rfl, rfl, rfl, rfl⟩ rfl rfl rfl rfl rfl (by kernel_rfl) Try.func5 (by kernel_rfl)
    (of_decide_eq_true (by kernel_rfl)) (by unfold Func.isWrapper; first | (rw [if_pos (by decide +kernel)]; kernel_rfl) | (rw [if_neg (by decide +kernel)]; exact ⟨rfl, rfl⟩))
    (fun os started H enc _ F => lifted os started H enc F)

theorem proved : Rows.ReadsRightUptoSaid := over
end Go.Proofs.Ytddljfbalbnkcaa.readsRight
