/- Lists of texts, one behind the other: slices.Grow, slices.Concat. -/
import Derived.Test.YtphdgheppdbkgaaSet
set_option linter.unusedSimpArgs false
set_option linter.unusedVariables false
namespace Bz.S
open Go Bz
set_option maxRecDepth 10000
set_option maxHeartbeats 4000000

/-- a list of texts, as a row's element -/
def ccC (l : List Txt) : List D := [.vs false (l.map stC)]
theorem ccC_eq (l : List Txt) : ccC l = [.vs false (l.map stC)] := rfl
abbrev ccS (ls : List (List Txt)) : AV := .d (.vs false (ls.map ccC))

def growR (sz : Nat) (z : List D) (n : Nat) : AV × Heap := if n = 0 then (.d (.vs true []), []) else (.os 0 n 0 0, [(0, .arr sz (List.replicate n z))])
theorem run_Grow (n : Nat) (hn : n ≤ BIG) : R F_slices_Grow_string_string [.d (.vs true []), .d (.int .i64 n)] [] = some (growR 1 [.str []] n) := by
  unfold growR
  refine R_of at_slices_Grow_string_string (by decide) ?_
  unfold BIG at hn
  have h1 : ¬ (n : Int) < 0 := by omega
  have hw := wrap_ok (a := (n : Int)) (by omega) (by omega)
  have hw0 := wrap_ok (a := (0 : Int)) (by omega) (by omega)
  by_cases h0 : n = 0
  · subst h0
    simp -implicitDefEqProofs [code_slices_Grow_string_string, hw0]
  · have h2 : (0 : Int) < n := by omega
    have h2' : 0 < n := by omega
    have h3 : n ≤ LIM := by unfold LIM; omega
    simp -implicitDefEqProofs [code_slices_Grow_string_string, h0, h1, h2, h2', h3, hw, hw0]

theorem flat_take {α : Type} (ls : List (List α)) (i : Nat) (x : List α) (h : ls[i]? = some x) : (ls.take (i + 1)).flatten = (ls.take i).flatten ++ x := by
  rw [List.take_add_one, h]; simp
theorem flat_take_le {α : Type} (ls : List (List α)) (i : Nat) : (ls.take i).flatten.length ≤ ls.flatten.length := by
  have : ls.flatten = (ls.take i).flatten ++ (ls.drop i).flatten := by rw [← List.flatten_append, List.take_append_drop]
  rw [this, List.length_append]; omega
theorem put_behind {α : Type} (out x : List α) (z : α) (N : Nat) (h : out.length + x.length ≤ N) :
    Bz.put (out ++ List.replicate (N - out.length) z) out.length x = (out ++ x) ++ List.replicate (N - (out ++ x).length) z := by
  unfold Bz.put
  rw [List.take_left, List.drop_append, List.drop_eq_nil_of_le (by omega), List.nil_append, List.drop_replicate]
  simp only [List.length_append]
  rw [show N - out.length - (out.length + x.length - out.length) = N - (out.length + x.length) by omega]

theorem run_Concat (ls : List (List Txt)) (hl : ls.length ≤ BIG) (hf : ls.flatten.length ≤ BIG) : R F_slices_Concat_string_string [ccS ls] [] = some (.os 0 ls.flatten.length 0 ls.flatten.length, [(0, .arr 1 (ls.flatten.map stC))]) := by
  refine R_of at_slices_Concat_string_string (by decide) ?_
  have hG := run_Grow ls.flatten.length hf
  unfold BIG at hl hf
  have h0 := loop_fold (X := X) (mask := mask_slices_Concat_string_string_0) (body := body_slices_Concat_string_string_0) ls
    (fun i (m : Nat) => ⟨mkE 36 [(0, ccS ls), (3, .d (.int .i64 m)), (9, ccS ls), (10, .d (.int .i64 ls.length)), (11, .d (.int .i64 i))], []⟩)
    (fun i m => m = (ls.take i).flatten.length) (fun _ m x => m + x.length)
    (fun m => (.exit 0, ⟨mkE 36 [(0, ccS ls), (3, .d (.int .i64 m))], []⟩)) (by simp)
    (fun i m x hi hx hI => by
      have hx' : ls[i]? = some x := by rw [← hx]; exact List.getElem?_eq_getElem hi
      have e := flat_take ls i x hx'
      have le := flat_take_le ls (i + 1)
      rw [e, List.length_append] at le
      have hw := wrap_ok (a := (i : Int) + 1) (by omega) (by omega)
      have hw2 := wrap_ok (a := (m : Int) + x.length) (by omega) (by omega)
      have hn : ¬ (m : Int) + x.length < 0 := by omega
      refine ⟨by rw [e, List.length_append, hI], ?_⟩
      simp -implicitDefEqProofs [body_slices_Concat_string_string_0, mask_slices_Concat_string_string_0, hi, hx, ccC_eq, hw, hw2, hn]) (fun m hI => by
      simp -implicitDefEqProofs [body_slices_Concat_string_string_0]) 0 (by simp)
  have e0 : ∀ (l : List (List Txt)) (i m : Nat), foldI (fun _ m (x : List Txt) => m + x.length) l i m = m + l.flatten.length := by
    intro l
    induction l with
    | nil => intro i m; simp
    | cons x r ih => intro i m; rw [foldI_cons, ih]; simp; omega
  rw [e0, Nat.zero_add] at h0
  have h1 := loop_fold (X := X) (mask := mask_slices_Concat_string_string_1) (body := body_slices_Concat_string_string_1) ls
    (fun i (out : List Txt) => ⟨mkE 36 [(6, .os 10000060 ls.flatten.length 0 out.length), (25, ccS ls), (26, .d (.int .i64 ls.length)), (27, .d (.int .i64 i))], [(10000060, .arr 1 ((out ++ List.replicate (ls.flatten.length - out.length) []).map stC))]⟩)
    (fun i out => out = (ls.take i).flatten) (fun _ out x => out ++ x)
    (fun out => (.exit 2, ⟨mkE 36 [(6, .os 10000060 ls.flatten.length 0 out.length)], [(10000060, .arr 1 ((out ++ List.replicate (ls.flatten.length - out.length) []).map stC))]⟩)) (by simp)
    (fun i out x hi hx hI => by
      have hx' : ls[i]? = some x := by rw [← hx]; exact List.getElem?_eq_getElem hi
      have e := flat_take ls i x hx'
      have le := flat_take_le ls (i + 1)
      rw [e, ← hI, List.length_append] at le
      have hw := wrap_ok (a := (i : Int) + 1) (by omega) (by omega)
      refine ⟨by rw [e, hI], ?_⟩
      have hp := put_behind (out.map stC) (x.map stC) [D.str []] ls.flatten.length (by simpa using le)
      simp only [List.length_map] at hp
      generalize ls.flatten.length = N at *
      have hN : N ≤ LIM := by unfold LIM; omega
      by_cases hf : out.length = N
      · have hx0 : x = [] := List.length_eq_zero_iff.1 (by omega)
        subst hx0
        subst hf
        simp -implicitDefEqProofs [body_slices_Concat_string_string_1, mask_slices_Concat_string_string_1, hi, hx, ccC_eq, hw, hN]
      · have c1 : out.length + (N - out.length) = N := by omega
        have hd : List.drop (out.length + x.length) (out.map stC ++ List.replicate (N - out.length) [D.str []]) = List.replicate (N - (out.length + x.length)) [D.str []] := by
          rw [List.drop_append, List.drop_eq_nil_of_le (by simp), List.nil_append, List.drop_replicate]
          simp only [List.length_map]
          congr 1; omega
        simp -implicitDefEqProofs [body_slices_Concat_string_string_1, mask_slices_Concat_string_string_1, hi, hx, ccC_eq, hw, hN, hf, c1, le, hd]) (fun out hI => by
      simp -implicitDefEqProofs [body_slices_Concat_string_string_1]) [] (by simp)
  have e1 : ∀ (l : List (List Txt)) (i : Nat) (out : List Txt), foldI (fun _ out (x : List Txt) => out ++ x) l i out = out ++ l.flatten := by
    intro l
    induction l with
    | nil => intro i m; simp
    | cons x r ih => intro i m; rw [foldI_cons, ih]; simp
  rw [e1, List.nil_append] at h1
  generalize ls.flatten = F at *
  simp -implicitDefEqProofs [code_slices_Concat_string_string]
  rw [h0 _ (by simp -implicitDefEqProofs [mask_slices_Concat_string_string_0])]
  by_cases hN : F.length = 0
  · have hF : F = [] := List.length_eq_zero_iff.1 hN
    subst hF
    simp -implicitDefEqProofs [growR] at hG
    simp -implicitDefEqProofs [hG]
    rw [h1 _ (by simp -implicitDefEqProofs [mask_slices_Concat_string_string_1])]
    simp -implicitDefEqProofs
  · have hF : ¬ F = [] := fun e => hN (by rw [e]; rfl)
    simp -implicitDefEqProofs [growR, hF] at hG
    simp -implicitDefEqProofs [hG]
    rw [h1 _ (by simp -implicitDefEqProofs [mask_slices_Concat_string_string_1, stC_eq])]
    simp -implicitDefEqProofs
end Bz.S
