/- Layer 24's last law, walked. -/
import Derived.Test.YtlciioiahkcnlaaOf
import Derived.Test.YtlciioiahkcnlaaLaw24
set_option linter.unusedSimpArgs false
set_option linter.unusedVariables false
namespace Bz.S
open Go Bz
set_option maxRecDepth 10000
set_option maxHeartbeats 4000000

def inC (x : Int) : List D := [.int .i64 x]
@[simp] theorem inC_eq (x : Int) : inC x = [.int .i64 x] := rfl
@[simp] theorem sized_in (l : List Int) : sized 1 (l.map inC) = true := sized_map 1 inC (fun _ => rfl) l

structure OfSt where
  want : List Vd
  ids : List Int
  n : Int

/-- was it met? -/
def met (ids : List Int) (x : Int) : Bool := ids.any fun y => decide (y = x)
def hasN (l : List Vd) (ids : List Int) : Nat := (l.filter fun v => met ids v.id).length
def ofStep (id : Int) (l : List Vd) (a : OfSt) (v : Vd) : OfSt :=
  if (!(met a.ids v.id) && decide (a.ids.length < 40)) = true then ⟨(if v.id = id then a.want ++ [v] else a.want), a.ids ++ [v.id], a.n + ((l.filter fun u => decide (u.id = v.id)).length : Nat)⟩ else ⟨(if v.id = id then a.want ++ [v] else a.want), a.ids, a.n⟩
structure OfInv (id : Int) (l : List Vd) (i : Nat) (a : OfSt) : Prop where
  want : a.want = (l.take i).filter fun v => decide (v.id = id)
  len : a.ids.length ≤ 40
  n : a.n = hasN l a.ids
  all : a.ids.length < 40 → ∀ v ∈ l.take i, (met a.ids v.id) = true
@[simp] theorem met_nil (x : Int) : met [] x = false := rfl
theorem met_add (ids : List Int) (x y : Int) : met (ids ++ [x]) y = (met ids y || decide (x = y)) := by simp only [met, List.any_append, List.any_cons, List.any_nil, Bool.or_false]
theorem hasN_nil (l : List Vd) : hasN l [] = 0 := by
  unfold hasN
  rw [List.filter_eq_nil_iff.2 (by simp)]; rfl
theorem hasN_add (ids : List Int) (x : Int) : ∀ (l : List Vd), met ids x = false → hasN l (ids ++ [x]) = hasN l ids + (l.filter fun u => decide (u.id = x)).length
  | [], _ => rfl
  | v :: r, h => by
    have ih := hasN_add ids x r h
    unfold hasN at ih ⊢
    simp only [met_add] at ih ⊢
    by_cases hv : v.id = x
    · have e : met ids v.id = false := by rw [hv]; exact h
      simp only [List.filter_cons, e]
      simp [hv]
      omega
    · have e : decide (x = v.id) = false := by simp; exact fun h => hv h.symm
      have e2 : decide (v.id = x) = false := by simp [hv]
      simp only [List.filter_cons, e, e2, Bool.or_false]
      cases met ids v.id <;> simp <;> omega
theorem hasN_le (l : List Vd) (ids : List Int) : hasN l ids ≤ l.length := List.length_filter_le _ _
theorem of_step {id : Int} {l : List Vd} {i : Nat} {a : OfSt} {v : Vd} (hi : i < l.length) (hv : l[i] = v) (h : OfInv id l i a) : OfInv id l (i + 1) (ofStep id l a v) := by
  have ht : l.take (i + 1) = l.take i ++ [v] := by rw [List.take_succ_eq_append_getElem hi, hv]
  obtain ⟨w, ids, n⟩ := a
  obtain ⟨h1, h2, h3, h4⟩ := h
  simp only at h1 h2 h3 h4
  have hw : (if v.id = id then w ++ [v] else w) = (l.take (i + 1)).filter fun v => decide (v.id = id) := by
    rw [ht, List.filter_append, ← h1]
    by_cases e : v.id = id <;> simp [e]
  unfold ofStep
  simp only
  by_cases hc : ((!(met ids v.id) && decide (ids.length < 40)) = true)
  · rw [if_pos hc]
    simp only [Bool.and_eq_true, Bool.not_eq_true', decide_eq_true_eq] at hc
    refine ⟨hw, by simp; omega, ?_, fun _ u hu => ?_⟩
    · simp only
      rw [hasN_add _ _ _ hc.1, h3]
      omega
    · rw [ht, List.mem_append] at hu
      rcases hu with hu | hu
      · have := h4 hc.2 u hu
        simp only [met_add, this, Bool.true_or]
      · have : u = v := by simpa using hu
        subst this
        simp [met_add]
  · rw [if_neg hc]
    refine ⟨hw, h2, h3, fun hl u hu => ?_⟩
    simp only at hl ⊢
    rw [ht, List.mem_append] at hu
    rcases hu with hu | hu
    · exact h4 hl u hu
    · have : u = v := by simpa using hu
      subst this
      simp only [Bool.and_eq_true, Bool.not_eq_true', decide_eq_true_eq] at hc
      cases hx : (met ids u.id) with
      | true => rfl
      | false => exact absurd ⟨hx, hl⟩ hc

theorem run_RecordOf (r : Int × List Vd) (id : Int) (_w : (Lit.int .i64 id).wf = true) (hb0 : bulkL (reC r) + (bulkL [.int .i64 id]) ≤ 1048576) : R F_law24_RecordOf [recA r.1 r.2, .d (.int .i64 id)] [] = some (.d (.bool true), []) := by
  refine R_of at_law24_RecordOf (by decide) ?_
  obtain ⟨code, l⟩ := r
  have hl : l.length ≤ BIG := by have := vd_bulk l; simp [reC, bulkL, bulkD] at hb0; unfold BIG; omega
  have hl' := hl
  unfold BIG at hl'
  have hO := fun id => run_Of code l hl id
  simp only
  have hIn := fun (v : Vd) (i : Nat) (w : List Vd) (ids : List Int) (n : Int) (_ : ids.length ≤ 40) => loop_fold (X := X) (mask := mask_law24_RecordOf_0) (body := body_law24_RecordOf_0) ids
    (fun j (m : Bool) => ⟨mkE 86 [(1, .d (.int .i64 id)), (2, .pv 10000 0), (5, .os 10000050 w.length 0 w.length), (6, .os 10000060 ids.length 0 ids.length), (7, .d (.int .i64 n)), (8, .d (.int .i64 i)), (9, .pv 100050 0), (10, .d (.bool m)), (11, .d (.int .i64 j))],
      [(10000, .var [.d (.int .i64 code), vdS l]), (100050, .var [.d (.int .i64 v.id), .d (.int .i64 v.kind), .d (.int .i64 v.code)]), (10000050, .arr 3 (w.map vdC)), (10000060, .arr 1 (ids.map inC))]⟩)
    (fun _ _ => True) (fun _ m x => m || decide (x = v.id))
    (fun m => (.exit 2, ⟨mkE 86 [(1, .d (.int .i64 id)), (2, .pv 10000 0), (5, .os 10000050 w.length 0 w.length), (6, .os 10000060 ids.length 0 ids.length), (7, .d (.int .i64 n)), (8, .d (.int .i64 i)), (9, .pv 100050 0), (10, .d (.bool m))],
      [(10000, .var [.d (.int .i64 code), vdS l]), (100050, .var [.d (.int .i64 v.id), .d (.int .i64 v.kind), .d (.int .i64 v.code)]), (10000050, .arr 3 (w.map vdC)), (10000060, .arr 1 (ids.map inC))]⟩)) (by simp)
    (fun j m x hj hx _ => by
      have hw := wrap_ok (a := (j : Int) + 1) (by omega) (by omega)
      refine ⟨trivial, ?_⟩
      cases m with
      | true => simp -implicitDefEqProofs [body_law24_RecordOf_0, mask_law24_RecordOf_0, hj, hx, hw]
      | false => simp -implicitDefEqProofs [body_law24_RecordOf_0, mask_law24_RecordOf_0, hj, hx, hw]) (fun m _ => by simp -implicitDefEqProofs [body_law24_RecordOf_0]) false trivial
  have hfold : ∀ (v : Vd) (ids : List Int) (i : Nat) (b : Bool), foldI (fun _ m x => m || decide (x = v.id)) ids i b = (b || met ids v.id) := by
    intro v ids
    induction ids with
    | nil => intro i b; simp [met]
    | cons x r ih => intro i b; rw [foldI_cons, ih]; simp only [met, List.any_cons, Bool.or_assoc]
  simp only [hfold, Bool.false_or] at hIn
  have h00 : OfInv id l 0 ⟨[], [], 0⟩ := ⟨rfl, by simp, by simp only [hasN_nil]; rfl, by simp⟩
  have hL := loop_fold (X := X) (mask := mask_law24_RecordOf_1) (body := body_law24_RecordOf_1) l
    (fun i (a : OfSt) => ⟨mkE 86 [(1, .d (.int .i64 id)), (2, .pv 10000 0), (5, .os 10000050 a.want.length 0 a.want.length), (6, .os 10000060 a.ids.length 0 a.ids.length), (7, .d (.int .i64 a.n)), (8, .d (.int .i64 i))],
      [(10000, .var [.d (.int .i64 code), vdS l]), (10000050, .arr 3 (a.want.map vdC)), (10000060, .arr 1 (a.ids.map inC))]⟩)
    (fun i a => OfInv id l i a) (fun _ a v => ofStep id l a v)
    (fun a => (.exit 0, ⟨mkE 86 [(1, .d (.int .i64 id)), (2, .pv 10000 0), (5, .os 10000050 a.want.length 0 a.want.length), (6, .os 10000060 a.ids.length 0 a.ids.length), (7, .d (.int .i64 a.n))],
      [(10000, .var [.d (.int .i64 code), vdS l]), (10000050, .arr 3 (a.want.map vdC)), (10000060, .arr 1 (a.ids.map inC))]⟩)) (by simp)
    (fun i a v hi hv hI => by
      refine ⟨of_step hi hv hI, ?_⟩
      obtain ⟨w, ids, n⟩ := a
      have hwl : w.length + 1 ≤ LIM := by
        have h1 := hI.want; simp only at h1; rw [h1]
        have := List.length_filter_le (fun v : Vd => decide (v.id = id)) (l.take i)
        simp at this; unfold LIM; omega
      have hil : ids.length + 1 ≤ LIM := by have := hI.len; simp only at this; unfold LIM; omega
      have hw := wrap_ok (a := (i : Int) + 1) (by omega) (by omega)
      have hnn : n + ((l.filter fun u => decide (u.id = v.id)).length : Nat) ≤ 2 * l.length ∧ 0 ≤ n := by
        have h1 := hI.n
        have h2 := hasN_le l ids
        have h3 := List.length_filter_le (fun u : Vd => decide (u.id = v.id)) l
        simp only at h1; omega
      have hw2 := wrap_ok (a := n + ((l.filter fun u => decide (u.id = v.id)).length : Nat)) (by omega) (by omega)
      have hOv := hO v.id
      have hlen := hI.len
      simp only at hlen
      by_cases he : v.id = id
      · have hin := hIn v i (w ++ [v]) ids n hlen
        simp -implicitDefEqProofs [he] at hin
        simp -implicitDefEqProofs [-Option.map_eq_some_iff, body_law24_RecordOf_1, mask_law24_RecordOf_1, hi, hv, he, hwl, hil]
        rw [hin _ (by simp -implicitDefEqProofs [mask_law24_RecordOf_0])]
        rw [he] at hOv hw2
        by_cases hc : (met ids id) = true
        · simp -implicitDefEqProofs [hc, ofStep, he, hw, mask_law24_RecordOf_1]
        · have hc' : (met ids id) = false := by simpa using hc
          by_cases hd : ids.length < 40
          · have hd' : (ids.length : Int) < 40 := by omega
            simp -implicitDefEqProofs [hc', ofStep, he, hw, hw2, hd, hd', hOv, hil, hwl, mask_law24_RecordOf_1]
            trace_state
          · have hd' : ¬ (ids.length : Int) < 40 := by omega
            simp -implicitDefEqProofs [hc', ofStep, he, hw, hd, hd', mask_law24_RecordOf_1]
      · have hin := hIn v i w ids n hlen
        simp -implicitDefEqProofs [-Option.map_eq_some_iff, body_law24_RecordOf_1, mask_law24_RecordOf_1, hi, hv, he, hwl, hil]
        rw [hin _ (by simp -implicitDefEqProofs [mask_law24_RecordOf_0])]
        by_cases hc : (met ids v.id) = true
        · simp -implicitDefEqProofs [hc, ofStep, he, hw, mask_law24_RecordOf_1]
        · have hc' : (met ids v.id) = false := by simpa using hc
          by_cases hd : ids.length < 40
          · have hd' : (ids.length : Int) < 40 := by omega
            simp -implicitDefEqProofs [hc', ofStep, he, hw, hw2, hd, hd', hOv, hil, hwl, mask_law24_RecordOf_1]
            trace_state
          · have hd' : ¬ (ids.length : Int) < 40 := by omega
            simp -implicitDefEqProofs [hc', ofStep, he, hw, hd, hd', mask_law24_RecordOf_1]
      ) (fun a _ => by simp -implicitDefEqProofs [body_law24_RecordOf_1]) ⟨[], [], 0⟩ h00
  have hJ := foldI_inv (fun _ a v => ofStep id l a v) (fun i a => OfInv id l i a) l 0 ⟨[], [], 0⟩ h00 (fun i a v hv hI => by
    rw [Nat.zero_add] at hI ⊢
    obtain ⟨g1, g2⟩ := List.getElem?_eq_some_iff.1 hv
    exact of_step g1 g2 hI)
  generalize foldI (fun _ a v => ofStep id l a v) l 0 ⟨[], [], 0⟩ = A at hL hJ
  rw [Nat.zero_add] at hJ
  obtain ⟨w, ids, n⟩ := A
  have hwant := hJ.want
  have hn := hJ.n
  have hall := hJ.all
  have hlen := hJ.len
  simp only [List.take_length] at hwant hn hall hlen
  have hP := run_plainVerdicts w w (by rw [hwant]; exact Nat.le_trans (List.length_filter_le _ _) hl)
  have hOi := hO id
  rw [← hwant] at hOi
  simp -implicitDefEqProofs at hP
  simp -implicitDefEqProofs [code_law24_RecordOf, run_alive24]
  rw [hL _ (by simp -implicitDefEqProofs [mask_law24_RecordOf_1])]
  by_cases h40 : ids.length = 40
  · have h40' : (ids.length : Int) = 40 := by omega
    simp -implicitDefEqProofs [hOi, hP, h40']
  · have h40' : ¬ (ids.length : Int) = 40 := by omega
    have hnl : n = l.length := by
      rw [hn]
      unfold hasN
      rw [List.filter_eq_self.2 (hall (by omega))]
    simp -implicitDefEqProofs [hOi, hP, h40', hnl]
end Bz.S
