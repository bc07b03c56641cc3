/- The law AstSame: called with any values of its parameters' types it answers true, and each argument reads behind the call as it read before. Condition: what is read is of bulk at most 1048576. -/
import Derived.Test.YtfmebmnifpjmpaaRows
import Derived.Test.YtfmebmnifpjmpaaSame4
import Derived.Test.YtfmebmnifpjmpaaTyp
import Derived.Test.YtfmebmnifpjmpaaShows
import Derived.Test.YtfmebmnifpjmpaaBz2
import Derived.WalkKit
import Derived.ProofKit
import Derived.OpenShut
import Derived.JoinedCond
set_option linter.unusedSimpArgs false
set_option linter.unusedVariables false
namespace Go.Proofs.Ytfmebmnifpjmpaa.astSame
open Go.ChangeShapes Go.WideShapes Go.ChangeAt Go.RowKit Bz Bz.S

theorem ownKnobs : ownKnob Try.prog.godebug = none := by kernel_rfl
theorem laid : laidOutB Try.prog = true := by kernel_rfl
theorem tys : dataB Try.prog [40, 3, 9, 2, 38] = true := by kernel_rfl
theorem coded : Coded Try.prog 7 := ⟨_, Try.func7, by kernel_rfl, by kernel_rfl⟩
theorem extGood : Bz.Good Try.prog ext := .or (extByte_good Try.func67 (by kernel_rfl) (by kernel_rfl) (by kernel_rfl) (by kernel_rfl)) (extNone_good)
theorem bulk (H : Type) : BulkFn (H := H) Rows.uptoBulk Rows.uptoBulkAll :=
  ⟨fun b => by simp [Rows.uptoBulk], fun l => by cases l <;> simp [Rows.uptoBulk], by simp [Rows.uptoBulk], fun a b => by simp [Rows.uptoBulk], fun a => by simp [Rows.uptoBulk], by simp [Rows.uptoBulkAll], fun d r => by simp [Rows.uptoBulkAll]⟩

theorem law (xs : List (List D)) (hl : xs.length = [40, 40].length) (ht : ∀ (i : Nat) (t : TypeId) (x : List D), [40, 40][i]? = some t → xs[i]? = some x → Typed Try.prog t x) (hb : (xs.map bulkL).sum ≤ 1048576) :
    ∃ Ho, Meets Try.prog 7 (List.zipWith (argAV Try.prog) [40, 40] xs) [] (.d (.bool true)) Ho := by
  match xs, hl with
  | [x0, x1], _ =>
    obtain ⟨a0, rfl⟩ := typ_ex Try.underlying40 Try.underlying38 rfl Try.underlying3 Try.underlying9 Try.underlying2 Try.underlying2 Try.underlying2 _ (ht 0 40 x0 rfl rfl)
    obtain ⟨a1, rfl⟩ := typ_ex Try.underlying40 Try.underlying38 rfl Try.underlying3 Try.underlying9 Try.underlying2 Try.underlying2 Try.underlying2 _ (ht 1 40 x1 rfl rfl)
    refine ⟨[], ?_⟩
    simp only [List.map_cons, List.map_nil, List.sum_cons, List.sum_nil] at hb
    have h := run_AstSame a0 a1 (by simpa only [Nat.add_zero] using hb)
    have hg := RUN_good Bz.S.own retOwn ext code extGood code_ok F_law07_AstSame _ _ _ _ h
    have hz : List.zipWith (argAV Try.prog) [40, 40] [(exC a0), (exC a1)] = [(exA a0), (exA a1)] := by simp [argAV, Try.underlying40]
    rw [hz]
    exact hg

set_option maxRecDepth 100000 in
theorem lifted (os : Os) (started : os.Started) (H : Type) (enc : TypeId × Value → H) (F : Stop.Interp) :
    ReturnsInHanded {} Try.checked os 7 .any ((Rows.OpenSpec.upto Rows.astSameSpec).pre6 enc Try.prog Try.f7 Rows.astSameUptoRow.domain false) (((Rows.OpenSpec.upto Rows.astSameSpec).at F).post enc Try.prog Try.f7 false true false false) := by
  refine returnsInHanded_of_cond (C := Try.checked) (s := Rows.OpenSpec.upto Rows.astSameSpec) (k := Rows.uptoSmall) rfl ownKnobs started (by kernel_rfl) Try.func7
    (OpenSpec.witness (enc := enc) (C := Try.checked) (s := Rows.OpenSpec.upto Rows.astSameSpec) (k := Rows.uptoSmall) rfl false ⟨#[], #[.agg #[.int .i64 0, .string ByteArray.empty, .int .i64 0, .int .i64 0, .int .i64 0, .slice none 0 0], .agg #[.int .i64 0, .string ByteArray.empty, .int .i64 0, .int .i64 0, .int .i64 0, .slice none 0 0]], []⟩ 8 (by kernel_rfl) (by kernel_rfl) (by kernel_rfl)
      (x := ([.agg [.lit (.int .i64 0), .lit (.string []), .lit (.int .i64 0), .lit (.int .i64 0), .lit (.int .i64 0), .nil], .agg [.lit (.int .i64 0), .lit (.string []), .lit (.int .i64 0), .lit (.int .i64 0), .lit (.int .i64 0), .nil]], [], [])) (by kernel_rfl) rfl (by kernel_rfl)) ?_
  intro W base args ds gs before hval hW _ hk _
  have hW' := hW
  obtain ⟨p, q, hA0, hV, rfl, hfz, hnd⟩ := hW
  have hA : DataW.TrodAll enc Try.prog W 0 (fun _ => true) true Try.f7.params.toList args.toList ds p := hA0
  obtain ⟨rfl, rfl⟩ := trodVars_none hV
  have hlen : ds.length = 2 := by
    rw [Try.params7] at hA
    obtain ⟨v0, vs0, d0, ds0, p0, q0, hargs0, rfl, rfl, h0, r0⟩ := trodAll_cons hA
    obtain ⟨v1, vs1, d1, ds1, p1, q1, hargs1, rfl, rfl, h1, r1⟩ := trodAll_cons r0
    obtain ⟨_, rfl, _⟩ := trodAll_nil r1
    rfl
  have hbulk : Rows.uptoBulkAll ds ≤ 1048576 := by
    have := of_decide_eq_true hk
    simpa using this
  refine (row_calls (P := Try.prog) tys (bulk H) coded (ps := [40, 40]) (by kernel_rfl) law hA (fun j t v hj hv => hval j t v (by rw [Try.params7]; simpa using hj) hv) hbulk).mono fun e W' ⟨he, hbel⟩ => ?_
  subst he
  refine ⟨_, rfl, post_law hW' rfl ?_ laid (by kernel_rfl) rfl Try.underlying4 hbel⟩
  match ds, hlen with
  | [_, _], _ => exact ⟨rfl, rfl, rfl⟩

theorem over : Rows.astSameUptoRow.holds Try.pinned (Rows.OpenSpec.upto Rows.astSameSpec) :=
  OpenClaim.holds_of_cond 7 Try.f7 rfl rfl rfl rfl rfl rfl rfl ⟨rfl, rfl, rfl, rfl, rfl⟩ rfl rfl rfl rfl rfl (by kernel_rfl) Try.func7 (by kernel_rfl)
    (of_decide_eq_true (by kernel_rfl)) (by unfold Func.isWrapper; first | (rw [if_pos (by decide +kernel)]; kernel_rfl) | (rw [if_neg (by decide +kernel)]; exact ⟨rfl, rfl⟩))
    (fun os started H enc _ F => lifted os started H enc F)

theorem proved : Rows.AstSameUptoSaid := over
end Go.Proofs.Ytfmebmnifpjmpaa.astSame
