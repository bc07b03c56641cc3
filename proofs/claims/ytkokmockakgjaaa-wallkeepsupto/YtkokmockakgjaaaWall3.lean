/- Who saw whose, walked to the end: forget, leak, new, clone. -/
import Derived.Test.YtkokmockakgjaaaWall2
set_option linter.unusedSimpArgs false
set_option linter.unusedVariables false
namespace Bz.S
open Go Bz
set_option maxRecDepth 10000
set_option maxHeartbeats 4000000

/-! ### forget -/
def delW (e o : Txt) : List Ct → List Ct
  | [] => []
  | c :: r => if isW e o c then r else c :: delW e o r
theorem delE_W (e o : Txt) : ∀ S : List Ct, delE (keyW e o) (S.map entW) = (delW e o S).map entW
  | [] => rfl
  | d :: r => by
    have ih := delE_W e o r
    simp only [List.map_cons, entW, delE, avEq_W, delW]
    cases isW e o d with
    | true => rfl
    | false =>
      simp only [Option.some.injEq, Bool.false_eq_true, if_false, List.map_cons]
      exact congrArg _ ih
theorem w_Forget (K : List Cl) (S : List Ct) (e : Txt) (hS : S.length ≤ BIG) :
    R F_wall_Wall_Forget [.pv 0 0, stA e] (wH K S) = some (.d (.int .i64 (seenW S e).length), wH K ((seenW S e).foldl (fun S o => delW e o S) S)) := by
  refine R_of at_wall_Wall_Forget (by decide) ?_
  have h2 := w_Seen K S e hS
  have hl := seenW_len S e
  unfold BIG at hS
  generalize seenW S e = l at *
  have hL := loop_fold (X := X) (mask := mask_wall_Wall_Forget_0) (body := body_wall_Wall_Forget_0) l
    (fun i (S : List Ct) => ⟨mkE 27 [(0, .pv 0 0), (1, stA e), (5, .d (.int .i64 i)), (10, .os 30020 l.length 0 l.length), (11, .d (.int .i64 l.length)), (12, .d (.int .i64 i))], wH K S ++ [(30020, .arr 1 (l.map stC))]⟩)
    (fun _ _ => True) (fun _ S o => delW e o S) (fun S => (.exit 0, ⟨mkE 27 [(5, .d (.int .i64 l.length))], wH K S⟩)) (by simp)
    (fun i S o hi ho _ => by
      have hw := wrap_ok (a := (i : Int) + 1) (by omega) (by omega)
      refine ⟨trivial, ?_⟩
      have hd := delE_W e o S
      have hf := findE_W e o S
      simp -implicitDefEqProofs [body_wall_Wall_Forget_0, mask_wall_Wall_Forget_0, hi, ho, stC_eq, hw, hd, hf])
    (fun S _ => by simp -implicitDefEqProofs [body_wall_Wall_Forget_0]) S trivial
  simp -implicitDefEqProofs [code_wall_Wall_Forget, h2]
  rw [hL _ (by simp -implicitDefEqProofs [mask_wall_Wall_Forget_0])]
  have hf : ∀ (l : List Txt) (i : Nat) (a : List Ct), foldI (fun _ S o => delW e o S) l i a = l.foldl (fun S o => delW e o S) a := by
    intro l
    induction l with
    | nil => intro i a; rfl
    | cons x r ih => intro i a; rw [foldI_cons, ih]; rfl
  rw [hf]
  simp -implicitDefEqProofs

/-! ### leak -/
def clashK (q : Txt → Txt → Bool) : List Txt → List Txt → Bool
  | _, [] => false
  | out, x :: r => out.any (q x) || clashK q (out ++ [x]) r
theorem clash_find (q : Txt → Txt → Bool) (l : List Txt) : ∀ (r out : List Txt), l = out ++ r → (findI (fun i x => (l.take i).any (q x)) r out.length).isSome = clashK q out r
  | [], out, _ => rfl
  | x :: r, out, h => by
    have ih := clash_find q l r (out ++ [x]) (by rw [h]; simp)
    have ht : l.take out.length = out := by rw [h]; simp
    simp only [findI, clashK, ht]
    rw [List.length_append, List.length_singleton] at ih
    cases hq : out.any (q x) with
    | true => simp
    | false => simpa using ih
theorem w_Leak (K : List Cl) (S : List Ct) (a b : Txt) (hS : S.length ≤ 1000000) :
    R F_wall_Wall_Leak [.pv 0 0, stA a, stA b] (wH K S) = some (.d (.bool (clashK (foesK K) [] (seenW S a ++ seenW S b))), wH K S) := by
  refine R_of at_wall_Wall_Leak (by decide) ?_
  have h1 := w_Seen K S a (by unfold BIG; omega)
  have h2 := w_Seen K S b (by unfold BIG; omega)
  have l1 := seenW_len S a
  have l2 := seenW_len S b
  generalize seenW S a = p at *
  generalize seenW S b = q at *
  have hl : (p ++ q).length ≤ 2000000 := by simp; omega
  have hcl := clash_find (foesK K) (p ++ q) (p ++ q) [] rfl
  rw [← hcl]
  have g1 : p.length + q.length ≤ LIM := by unfold LIM; omega
  have tp : List.take p.length (p.map stC) = p.map stC := List.take_of_length_le (by simp)
  have tq : List.take q.length (q.map stC) = q.map stC := List.take_of_length_le (by simp)
  simp -implicitDefEqProofs [code_wall_Wall_Leak, h1, h2, g1, tp, tq]
  have e1 : p.map stC ++ q.map stC = (p ++ q).map stC := by simp
  have e2 : (p.length : Int) + q.length = ((p ++ q).length : Nat) := by simp
  rw [e1, e2]
  clear hcl e1 e2 tp tq g1 l1 l2 h1 h2
  generalize p ++ q = l at *
  have hL := loop_find (X := X) (mask := mask_wall_Wall_Leak_0) (body := body_wall_Wall_Leak_0) l
    (fun i => ⟨mkE 30 [(3, .pv 10000 0), (7, txS l), (17, txS l), (18, .d (.int .i64 l.length)), (19, .d (.int .i64 i))], wH K S ++ [(10000, .var [.pv 0 0])]⟩)
    (fun i x => (l.take i).any (foesK K x)) (.exit 0, ⟨mkE 30 [], wH K S⟩) (fun _ _ => (.ret, ⟨mkE 30 [(6, .d (.bool true))], wH K S⟩)) (by simp) (by simp)
    (fun i x hi hx hq => by
      have hw := wrap_ok (a := (i : Int) + 1) (by omega) (by omega)
      have h3 := R2_R (w2_Contains K S x F_wall_Wall_Leak_1 (foesK K x) (l.take i) (by unfold BIG; simp; omega) rfl rfl (w2_Leak1 K S x))
      have et : txS (l.take i) = .d (.vs false (List.take i (l.map stC))) := by show AV.d (.vs false ((l.take i).map stC)) = _; rw [List.map_take]
      rw [hq, et] at h3
      have i1 : i ≤ l.length := by omega
      simp -implicitDefEqProofs [body_wall_Wall_Leak_0, mask_wall_Wall_Leak_0, hi, hx, stC_eq, hw, h3, i1])
    (fun i x hi hx hq => by
      have h3 := R2_R (w2_Contains K S x F_wall_Wall_Leak_1 (foesK K x) (l.take i) (by unfold BIG; simp; omega) rfl rfl (w2_Leak1 K S x))
      have et : txS (l.take i) = .d (.vs false (List.take i (l.map stC))) := by show AV.d (.vs false ((l.take i).map stC)) = _; rw [List.map_take]
      rw [hq, et] at h3
      have i1 : i ≤ l.length := by omega
      simp -implicitDefEqProofs [body_wall_Wall_Leak_0, hi, hx, stC_eq, h3, i1]) (by simp -implicitDefEqProofs [body_wall_Wall_Leak_0])
  rw [hL _ (by simp -implicitDefEqProofs [mask_wall_Wall_Leak_0])]
  cases findI (fun i x => (l.take i).any (foesK K x)) l 0 <;> simp -implicitDefEqProofs

/-! ### new, clone -/
def clC (c : Cl) : List D := [.str c.n, .str c.c]
@[simp] theorem clC_eq (c : Cl) : clC c = [.str c.n, .str c.c] := rfl
abbrev clS (l : List Cl) : AV := .d (.vs false (l.map clC))
def newG (K : List Cl) (d : Cl) : List Cl := if clOf K d.n = none then K ++ [d] else K
theorem setE_cl (n c : Txt) : ∀ K : List Cl, clOf K n = none → setE (.d (.str n)) (.agg [.d (.str c)]) (K.map clA) = (K ++ [(⟨n, c⟩ : Cl)]).map clA
  | [], _ => rfl
  | d :: r, h => by
    unfold clOf at h
    simp only [List.find?_cons] at h
    by_cases e : n = d.n
    · simp [e] at h
    · have h' : (n == d.n) = false := by simpa using e
      rw [decide_eq_false e] at h
      have ih := setE_cl n c r h
      simp only [List.map_cons, List.cons_append, clA, setE, avEq, scalEq, h', Option.some.injEq, Bool.false_eq_true, if_false]
      exact congrArg _ ih
theorem run_WNew (D : List Cl) (hl : D.length ≤ BIG) : R F_wall_New [clS D] [] = some (.pv 0 0, wH (D.foldl newG []) []) := by
  refine R_of at_wall_New (by decide) ?_
  unfold BIG at hl
  have hL := loop_fold (X := X) (mask := mask_wall_New_0) (body := body_wall_New_0) D
    (fun i (K : List Cl) => ⟨mkE 41 [(3, .pv 20030 0), (12, clS D), (13, .d (.int .i64 D.length)), (14, .d (.int .i64 i))], [(20000, .mp false [.str] (K.map clA)), (20010, .mp true [.str, .str] []), (20030, .var [.map 20000, .map 20010])]⟩)
    (fun _ _ => True) (fun _ K d => newG K d) (fun K => (.exit 0, ⟨mkE 41 [(3, .pv 20030 0)], [(20000, .mp false [.str] (K.map clA)), (20010, .mp true [.str, .str] []), (20030, .var [.map 20000, .map 20010])]⟩)) (by simp)
    (fun i K d hi hd _ => by
      have hw := wrap_ok (a := (i : Int) + 1) (by omega) (by omega)
      refine ⟨trivial, ?_⟩
      obtain ⟨n, c⟩ := d
      have hf := findE_cl n K
      unfold newG
      cases hF : clOf K n with
      | some q =>
        rw [hF] at hf
        simp -implicitDefEqProofs [body_wall_New_0, mask_wall_New_0, hi, hd, hw, hf, hF]
      | none =>
        rw [hF] at hf
        have hs := setE_cl n c K hF
        simp -implicitDefEqProofs [body_wall_New_0, mask_wall_New_0, hi, hd, hw, hf, hs, hF])
    (fun K _ => by simp -implicitDefEqProofs [body_wall_New_0]) [] trivial
  simp -implicitDefEqProofs [code_wall_New]
  rw [hL _ (by simp -implicitDefEqProofs [mask_wall_New_0])]
  have hf : ∀ (l : List Cl) (i : Nat) (a : List Cl), foldI (fun _ K d => newG K d) l i a = l.foldl newG a := by
    intro l
    induction l with
    | nil => intro i a; rfl
    | cons x r ih => intro i a; rw [foldI_cons, ih]; rfl
  rw [hf]
  simp -implicitDefEqProofs
theorem w_Clone (K : List Cl) (S : List Ct) : R F_wall_Wall_Clone [.pv 0 0] (wH K S) =
    some (.pv 3 0, wH K S ++ [(3, .var [.map 4, .map 5]), (4, .mp false [.str] (K.map clA)), (5, .mp true [.str, .str] (S.map entW))]) := by
  refine R_of at_wall_Wall_Clone (by decide) ?_
  have h := w_is K S
  have c1 : R F_maps_Clone_map_string_wall_class_string_wall_class [.map 0] [(0, .mp false [.str] (K.map clA))] = some (.map 1, [(0, .mp false [.str] (K.map clA)), (1, .mp false [.str] (K.map clA))]) :=
    R_ext (ext_maps_Clone_map_string_wall_class_string_wall_class (by simp [extClone]))
  have c2 : R F_maps_Clone_map_wall_sight_int_wall_sight_int [.map 0] [(0, .mp true [.str, .str] (S.map entW))] = some (.map 1, [(0, .mp true [.str, .str] (S.map entW)), (1, .mp true [.str, .str] (S.map entW))]) :=
    R_ext (ext_maps_Clone_map_wall_sight_int_wall_sight_int (by simp [extClone]))
  simp -implicitDefEqProofs [code_wall_Wall_Clone, h, c1, c2]
end Bz.S
