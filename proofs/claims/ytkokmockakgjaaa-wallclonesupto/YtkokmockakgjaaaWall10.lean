/- WallClones. -/
import Derived.Test.YtkokmockakgjaaaWall7
set_option linter.unusedSimpArgs false
set_option linter.unusedVariables false
namespace Bz.S
open Go Bz
set_option maxRecDepth 10000
set_option maxHeartbeats 4000000

theorem n1_is : R1 F_wall_Wall_is [.d .nilp] ([] : Heap) = some (.d (.bool false), ([] : Heap)) := by
  refine R1_of at_wall_Wall_is (by decide) ?_
  simp -implicitDefEqProofs [code_wall_Wall_is]
theorem n2_is : R2 F_wall_Wall_is [.d .nilp] ([] : Heap) = some (.d (.bool false), ([] : Heap)) := R1_R2 n1_is
theorem n_is : R F_wall_Wall_is [.d .nilp] ([] : Heap) = some (.d (.bool false), ([] : Heap)) := R2_R n2_is
theorem n2_May (a b : Txt) : R2 F_wall_Wall_May [.d .nilp, stA a, stA b] ([] : Heap) = some (.d (.bool false), ([] : Heap)) := by
  refine R2_of at_wall_Wall_May (by decide) ?_
  simp -implicitDefEqProofs [code_wall_Wall_May, n2_is]
theorem n_May (a b : Txt) : R F_wall_Wall_May [.d .nilp, stA a, stA b] ([] : Heap) = some (.d (.bool false), ([] : Heap)) := R2_R (n2_May a b)
theorem n2_Seen (e : Txt) : R2 F_wall_Wall_Seen [.d .nilp, stA e] ([] : Heap) = some (.os 0 0 0 0, [(0, .arr 1 [])]) := by
  refine R2_ext (ext2_wall_Wall_Seen ?_)
  simp only [rcode_wall_Wall_Seen]
  refine aw_seq_code (s' := ⟨mkE 31 [(0, .d .nilp), (1, stA e), (4, .d (.vs true []))], ([] : Heap)⟩) (by simp) ?_
  refine ⟨.ret, ⟨mkE 31 [(4, .os 10000040 0 0 0)], [(10000040, .arr 1 [])]⟩, by simp -implicitDefEqProofs [n1_is], fun h => (by cases h), fun _ => ?_⟩
  simp -implicitDefEqProofs [rcode_wall_Wall_Seen]
theorem n_Seen (e : Txt) : R F_wall_Wall_Seen [.d .nilp, stA e] ([] : Heap) = some (.os 0 0 0 0, [(0, .arr 1 [])]) := R2_R (n2_Seen e)
theorem n_See (a b : Txt) : R F_wall_Wall_See [.d .nilp, stA a, stA b] ([] : Heap) = some (.d (.bool false), ([] : Heap)) := by
  refine R_ext (ext_wall_Wall_See ?_)
  simp only [rcode_wall_Wall_See]
  refine aw_seq_code (s' := ⟨mkE 23 [(0, .d .nilp), (1, stA a), (2, stA b), (6, .d (.bool false))], ([] : Heap)⟩) (by simp) ?_
  refine ⟨.ret, ⟨mkE 23 [(6, .d (.bool false))], ([] : Heap)⟩, by simp -implicitDefEqProofs [n2_May], fun h => (by cases h), fun _ => ?_⟩
  simp -implicitDefEqProofs [rcode_wall_Wall_See]
theorem n_Forget (e : Txt) : R F_wall_Wall_Forget [.d .nilp, stA e] ([] : Heap) = some (.d (.int .i64 0), ([] : Heap)) := by
  refine R_of at_wall_Wall_Forget (by decide) ?_
  have hL := loop_fold (X := X) (mask := mask_wall_Wall_Forget_0) (body := body_wall_Wall_Forget_0) ([] : List Txt)
    (fun i (_ : Unit) => ⟨mkE 27 [(0, .d .nilp), (1, stA e), (5, .d (.int .i64 0)), (10, .os 30020 0 0 0), (11, .d (.int .i64 0)), (12, .d (.int .i64 i))], [(30020, .arr 1 [])]⟩)
    (fun _ _ => True) (fun _ a _ => a) (fun _ => (.exit 0, ⟨mkE 27 [(5, .d (.int .i64 0))], ([] : Heap)⟩)) (by simp)
    (fun i a x hi _ _ => by simp at hi)
    (fun a _ => by simp -implicitDefEqProofs [body_wall_Wall_Forget_0]) () trivial
  simp -implicitDefEqProofs [code_wall_Wall_Forget, n_Seen]
  rw [hL _ (by simp -implicitDefEqProofs [mask_wall_Wall_Forget_0])]
  simp -implicitDefEqProofs
theorem n_Leak (a b : Txt) : R F_wall_Wall_Leak [.d .nilp, stA a, stA b] ([] : Heap) = some (.d (.bool false), ([] : Heap)) := by
  refine R_of at_wall_Wall_Leak (by decide) ?_
  have hL := loop_fold (X := X) (mask := mask_wall_Wall_Leak_0) (body := body_wall_Wall_Leak_0) ([] : List Txt)
    (fun i (_ : Unit) => ⟨mkE 30 [(3, .pv 10000 0), (7, .d (.vs false [])), (17, .d (.vs false [])), (18, .d (.int .i64 0)), (19, .d (.int .i64 i))], [(10000, .var [.d .nilp])]⟩)
    (fun _ _ => True) (fun _ a _ => a) (fun _ => (.exit 0, ⟨mkE 30 [], ([] : Heap)⟩)) (by simp)
    (fun i a x hi _ _ => by simp at hi)
    (fun a _ => by simp -implicitDefEqProofs [body_wall_Wall_Leak_0]) () trivial
  simp -implicitDefEqProofs [code_wall_Wall_Leak, n_Seen]
  rw [hL _ (by simp -implicitDefEqProofs [mask_wall_Wall_Leak_0])]
  simp -implicitDefEqProofs
theorem n_Clone : R F_wall_Wall_Clone [.d .nilp] ([] : Heap) = some (.d .nilp, ([] : Heap)) := by
  refine R_of at_wall_Wall_Clone (by decide) ?_
  simp -implicitDefEqProofs [code_wall_Wall_Clone, n_is]

theorem o1_is : R1 F_wall_Wall_is [.pv 0 0] ([(0, .var [.d .nilm, .d .nilm])] : Heap) = some (.d (.bool false), ([(0, .var [.d .nilm, .d .nilm])] : Heap)) := by
  refine R1_of at_wall_Wall_is (by decide) ?_
  simp -implicitDefEqProofs [code_wall_Wall_is]
theorem o2_is : R2 F_wall_Wall_is [.pv 0 0] ([(0, .var [.d .nilm, .d .nilm])] : Heap) = some (.d (.bool false), ([(0, .var [.d .nilm, .d .nilm])] : Heap)) := R1_R2 o1_is
theorem o_is : R F_wall_Wall_is [.pv 0 0] ([(0, .var [.d .nilm, .d .nilm])] : Heap) = some (.d (.bool false), ([(0, .var [.d .nilm, .d .nilm])] : Heap)) := R2_R o2_is
theorem o2_May (a b : Txt) : R2 F_wall_Wall_May [.pv 0 0, stA a, stA b] ([(0, .var [.d .nilm, .d .nilm])] : Heap) = some (.d (.bool false), ([(0, .var [.d .nilm, .d .nilm])] : Heap)) := by
  refine R2_of at_wall_Wall_May (by decide) ?_
  simp -implicitDefEqProofs [code_wall_Wall_May, o2_is]
theorem o_May (a b : Txt) : R F_wall_Wall_May [.pv 0 0, stA a, stA b] ([(0, .var [.d .nilm, .d .nilm])] : Heap) = some (.d (.bool false), ([(0, .var [.d .nilm, .d .nilm])] : Heap)) := R2_R (o2_May a b)
theorem o2_Seen (e : Txt) : R2 F_wall_Wall_Seen [.pv 0 0, stA e] ([(0, .var [.d .nilm, .d .nilm])] : Heap) = some (.os 1 0 0 0, [(0, .var [.d .nilm, .d .nilm]), (1, .arr 1 [])]) := by
  refine R2_ext (ext2_wall_Wall_Seen ?_)
  simp only [rcode_wall_Wall_Seen]
  refine aw_seq_code (s' := ⟨mkE 31 [(0, .pv 0 0), (1, stA e), (4, .d (.vs true []))], ([(0, .var [.d .nilm, .d .nilm])] : Heap)⟩) (by simp) ?_
  refine ⟨.ret, ⟨mkE 31 [(4, .os 10000040 0 0 0)], [(0, .var [.d .nilm, .d .nilm]), (10000040, .arr 1 [])]⟩, by simp -implicitDefEqProofs [o1_is], fun h => (by cases h), fun _ => ?_⟩
  simp -implicitDefEqProofs [rcode_wall_Wall_Seen]
theorem o_Seen (e : Txt) : R F_wall_Wall_Seen [.pv 0 0, stA e] ([(0, .var [.d .nilm, .d .nilm])] : Heap) = some (.os 1 0 0 0, [(0, .var [.d .nilm, .d .nilm]), (1, .arr 1 [])]) := R2_R (o2_Seen e)
theorem o_See (a b : Txt) : R F_wall_Wall_See [.pv 0 0, stA a, stA b] ([(0, .var [.d .nilm, .d .nilm])] : Heap) = some (.d (.bool false), ([(0, .var [.d .nilm, .d .nilm])] : Heap)) := by
  refine R_ext (ext_wall_Wall_See ?_)
  simp only [rcode_wall_Wall_See]
  refine aw_seq_code (s' := ⟨mkE 23 [(0, .pv 0 0), (1, stA a), (2, stA b), (6, .d (.bool false))], ([(0, .var [.d .nilm, .d .nilm])] : Heap)⟩) (by simp) ?_
  refine ⟨.ret, ⟨mkE 23 [(6, .d (.bool false))], ([(0, .var [.d .nilm, .d .nilm])] : Heap)⟩, by simp -implicitDefEqProofs [o2_May], fun h => (by cases h), fun _ => ?_⟩
  simp -implicitDefEqProofs [rcode_wall_Wall_See]
theorem o_Forget (e : Txt) : R F_wall_Wall_Forget [.pv 0 0, stA e] ([(0, .var [.d .nilm, .d .nilm])] : Heap) = some (.d (.int .i64 0), ([(0, .var [.d .nilm, .d .nilm])] : Heap)) := by
  refine R_of at_wall_Wall_Forget (by decide) ?_
  have hL := loop_fold (X := X) (mask := mask_wall_Wall_Forget_0) (body := body_wall_Wall_Forget_0) ([] : List Txt)
    (fun i (_ : Unit) => ⟨mkE 27 [(0, .pv 0 0), (1, stA e), (5, .d (.int .i64 0)), (10, .os 30020 0 0 0), (11, .d (.int .i64 0)), (12, .d (.int .i64 i))], [(0, .var [.d .nilm, .d .nilm]), (30020, .arr 1 [])]⟩)
    (fun _ _ => True) (fun _ a _ => a) (fun _ => (.exit 0, ⟨mkE 27 [(5, .d (.int .i64 0))], ([(0, .var [.d .nilm, .d .nilm])] : Heap)⟩)) (by simp)
    (fun i a x hi _ _ => by simp at hi)
    (fun a _ => by simp -implicitDefEqProofs [body_wall_Wall_Forget_0]) () trivial
  simp -implicitDefEqProofs [code_wall_Wall_Forget, o_Seen]
  rw [hL _ (by simp -implicitDefEqProofs [mask_wall_Wall_Forget_0])]
  simp -implicitDefEqProofs
theorem o_Leak (a b : Txt) : R F_wall_Wall_Leak [.pv 0 0, stA a, stA b] ([(0, .var [.d .nilm, .d .nilm])] : Heap) = some (.d (.bool false), ([(0, .var [.d .nilm, .d .nilm])] : Heap)) := by
  refine R_of at_wall_Wall_Leak (by decide) ?_
  have hL := loop_fold (X := X) (mask := mask_wall_Wall_Leak_0) (body := body_wall_Wall_Leak_0) ([] : List Txt)
    (fun i (_ : Unit) => ⟨mkE 30 [(3, .pv 10000 0), (7, .d (.vs false [])), (17, .d (.vs false [])), (18, .d (.int .i64 0)), (19, .d (.int .i64 i))], [(0, .var [.d .nilm, .d .nilm]), (10000, .var [.pv 0 0])]⟩)
    (fun _ _ => True) (fun _ a _ => a) (fun _ => (.exit 0, ⟨mkE 30 [], ([(0, .var [.d .nilm, .d .nilm])] : Heap)⟩)) (by simp)
    (fun i a x hi _ _ => by simp at hi)
    (fun a _ => by simp -implicitDefEqProofs [body_wall_Wall_Leak_0]) () trivial
  simp -implicitDefEqProofs [code_wall_Wall_Leak, o_Seen]
  rw [hL _ (by simp -implicitDefEqProofs [mask_wall_Wall_Leak_0])]
  simp -implicitDefEqProofs
theorem o_Clone : R F_wall_Wall_Clone [.pv 0 0] ([(0, .var [.d .nilm, .d .nilm])] : Heap) = some (.d .nilp, ([(0, .var [.d .nilm, .d .nilm])] : Heap)) := by
  refine R_of at_wall_Wall_Clone (by decide) ?_
  simp -implicitDefEqProofs [code_wall_Wall_Clone, o_is]

end Bz.S
