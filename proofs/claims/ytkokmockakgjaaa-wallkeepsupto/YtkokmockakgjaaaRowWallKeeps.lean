/- The law WallKeeps: called with any values of its parameters' types it answers true, and each argument reads behind the call as it read before. Condition: what is read is of bulk at most 1048576. -/
import Derived.Test.YtkokmockakgjaaaRows
import Derived.Test.YtkokmockakgjaaaWall9
import Derived.Test.YtkokmockakgjaaaTyp
import Derived.Test.YtkokmockakgjaaaShows
import Derived.Test.YtkokmockakgjaaaBz2
import Derived.Test.YtkokmockakgjaaaLays
import Derived.WalkKit
import Derived.ProofKit
import Derived.OpenShut
import Derived.JoinedCond
set_option linter.unusedSimpArgs false
set_option linter.unusedVariables false
namespace Go.Proofs.Ytkokmockakgjaaa.wallKeeps
open Go.ChangeShapes Go.WideShapes Go.ChangeAt Go.RowKit Bz Bz.S

theorem ownKnobs : ownKnob Try.prog.godebug = none := by kernel_rfl
theorem laid : laidOutB Try.prog = true := by kernel_rfl
theorem tys : dataB Try.prog [22, 23, 9, 49, 33, 3] = true := by kernel_rfl
theorem coded : Coded Try.prog 5 := ⟨_, Try.func5, by kernel_rfl, by kernel_rfl⟩
theorem ext1Good : Bz.Good Try.prog ext1 := .or (extSort_good good_slices_Sort_string_string) (.or (extClone_good good_maps_Clone_map_string_wall_class_string_wall_class) (.or (extClone_good good_maps_Clone_map_wall_sight_int_wall_sight_int) (extNone_good)))
theorem ext2Good : Bz.Good Try.prog ext2 := .or ext1Good (extRange_good ext1Good code_ok rshows_wall_Wall_Seen)
theorem extGood : Bz.Good Try.prog ext := .or ext2Good (extRange_good ext2Good code_ok rshows_wall_Wall_See)
theorem bulk (H : Type) : BulkFn (H := H) Rows.uptoBulk Rows.uptoBulkAll :=
  ⟨fun b => by simp [Rows.uptoBulk], fun l => by cases l <;> simp [Rows.uptoBulk], by simp [Rows.uptoBulk], fun a b => by simp [Rows.uptoBulk], fun a => by simp [Rows.uptoBulk], by simp [Rows.uptoBulkAll], fun d r => by simp [Rows.uptoBulkAll]⟩

theorem law (xs : List (List D)) (hl : xs.length = [22, 23, 9, 9, 9, 9].length) (ht : ∀ (i : Nat) (t : TypeId) (x : List D), [22, 23, 9, 9, 9, 9][i]? = some t → xs[i]? = some x → Typed Try.prog t x) (hb : (xs.map bulkL).sum ≤ 1048576) :
    ∃ Ho, Meets Try.prog 5 (List.zipWith (argAV Try.prog) [22, 23, 9, 9, 9, 9] xs) [] (.d (.bool true)) Ho := by
  match xs, hl with
  | [x0, x1, x2, x3, x4, x5], _ =>
    obtain ⟨a0, rfl⟩ := typ_cls Try.underlying22 Try.underlying49 rfl Try.underlying9 Try.underlying9 _ (ht 0 22 x0 rfl rfl)
    obtain ⟨a1, rfl⟩ := typ_oqs Try.underlying23 Try.underlying33 rfl Try.underlying3 Try.underlying9 Try.underlying9 _ (ht 1 23 x1 rfl rfl)
    obtain ⟨a2, rfl⟩ := typ_str (ht 2 9 x2 rfl rfl) Try.underlying9
    obtain ⟨a3, rfl⟩ := typ_str (ht 3 9 x3 rfl rfl) Try.underlying9
    obtain ⟨a4, rfl⟩ := typ_str (ht 4 9 x4 rfl rfl) Try.underlying9
    obtain ⟨a5, rfl⟩ := typ_str (ht 5 9 x5 rfl rfl) Try.underlying9
    refine ⟨[], ?_⟩
    simp only [List.map_cons, List.map_nil, List.sum_cons, List.sum_nil] at hb
    have h := run_WallKeeps a0 a1 a2 a3 a4 a5 (by simpa only [Nat.add_zero] using hb)
    have hg := RUN_good Bz.S.own retOwn ext code extGood code_ok F_law33_WallKeeps _ _ _ _ h
    have hz : List.zipWith (argAV Try.prog) [22, 23, 9, 9, 9, 9] [([.vs false (a0.map clC)]), ([.vs false (a1.map oqC)]), [(.str a2)], [(.str a3)], [(.str a4)], [(.str a5)]] = [(clS a0), (oqS a1), .d (.str a2), .d (.str a3), .d (.str a4), .d (.str a5)] := by simp [argAV, Try.underlying22, Try.underlying23, Try.underlying9]
    rw [hz]
    exact hg

set_option maxRecDepth 100000 in
theorem lifted (os : Os) (started : os.Started) (H : Type) (enc : TypeId × Value → H) (F : Stop.Interp) :
    ReturnsInHanded {} Try.checked os 5 .any ((Rows.OpenSpec.upto Rows.wallKeepsSpec).pre6 enc Try.prog Try.f5 Rows.wallKeepsUptoRow.domain false) (((Rows.OpenSpec.upto Rows.wallKeepsSpec).at F).post enc Try.prog Try.f5 false true false false) := by
  refine returnsInHanded_of_cond (C := Try.checked) (s := Rows.OpenSpec.upto Rows.wallKeepsSpec) (k := Rows.uptoSmall) rfl ownKnobs started (by kernel_rfl) Try.func5
    (OpenSpec.witness (enc := enc) (C := Try.checked) (s := Rows.OpenSpec.upto Rows.wallKeepsSpec) (k := Rows.uptoSmall) rfl false ⟨#[], #[.slice none 0 0, .slice none 0 0, .string ByteArray.empty, .string ByteArray.empty, .string ByteArray.empty, .string ByteArray.empty], []⟩ 8 (by kernel_rfl) (by kernel_rfl) (by kernel_rfl)
      (x := ([.nil, .nil, .lit (.string []), .lit (.string []), .lit (.string []), .lit (.string [])], [], [])) (by kernel_rfl) rfl (by kernel_rfl)) ?_
  intro W base args ds gs before hval hW _ hk _
  have hW' := hW
  obtain ⟨p, q, hA0, hV, rfl, hfz, hnd⟩ := hW
  have hA : DataW.TrodAll enc Try.prog W 0 (fun _ => true) true Try.f5.params.toList args.toList ds p := hA0
  obtain ⟨rfl, rfl⟩ := trodVars_none hV
  have hlen : ds.length = 6 := by
    rw [Try.params5] at hA
    obtain ⟨v0, vs0, d0, ds0, p0, q0, hargs0, rfl, rfl, h0, r0⟩ := trodAll_cons hA
    obtain ⟨v1, vs1, d1, ds1, p1, q1, hargs1, rfl, rfl, h1, r1⟩ := trodAll_cons r0
    obtain ⟨v2, vs2, d2, ds2, p2, q2, hargs2, rfl, rfl, h2, r2⟩ := trodAll_cons r1
    obtain ⟨v3, vs3, d3, ds3, p3, q3, hargs3, rfl, rfl, h3, r3⟩ := trodAll_cons r2
    obtain ⟨v4, vs4, d4, ds4, p4, q4, hargs4, rfl, rfl, h4, r4⟩ := trodAll_cons r3
    obtain ⟨v5, vs5, d5, ds5, p5, q5, hargs5, rfl, rfl, h5, r5⟩ := trodAll_cons r4
    obtain ⟨_, rfl, _⟩ := trodAll_nil r5
    rfl
  have hbulk : Rows.uptoBulkAll ds ≤ 1048576 := by
    have := of_decide_eq_true hk
    simpa using this
  refine (row_calls (P := Try.prog) tys (bulk H) coded (ps := [22, 23, 9, 9, 9, 9]) (by kernel_rfl) law hA (fun j t v hj hv => hval j t v (by rw [Try.params5]; simpa using hj) hv) hbulk).mono fun e W' ⟨he, hbel⟩ => ?_
  subst he
  refine ⟨_, rfl, post_law hW' rfl ?_ laid (by kernel_rfl) rfl Try.underlying4 hbel⟩
  match ds, hlen with
  | [_, _, _, _, _, _], _ => exact ⟨rfl, rfl, rfl⟩

theorem over : Rows.wallKeepsUptoRow.holds Try.pinned (Rows.OpenSpec.upto Rows.wallKeepsSpec) :=
  OpenClaim.holds_of_cond 5 Try.f5 rfl rfl rfl rfl rfl rfl rfl ⟨rfl, rfl, rfl, rfl, rfl⟩ rfl rfl rfl rfl rfl (by kernel_rfl) Try.func5 (by kernel_rfl)
    (of_decide_eq_true (by kernel_rfl)) (by unfold Func.isWrapper; first | (rw [if_pos (by decide +kernel)]; kernel_rfl) | (rw [if_neg (by decide +kernel)]; exact ⟨rfl, rfl⟩))
    (fun os started H enc _ F => lifted os started H enc F)

theorem proved : Rows.WallKeepsUptoSaid := over
end Go.Proofs.Ytkokmockakgjaaa.wallKeeps
