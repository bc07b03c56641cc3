/- Reads: several lists in one, sorted, each once. -/
import Derived.Test.YtddljfbalbnkcaaRef07
import Derived.Test.YtddljfbalbnkcaaCat
import Derived.Test.YtddljfbalbnkcaaCmp0
set_option linter.unusedSimpArgs false
set_option linter.unusedVariables false
namespace Bz.S
open Go Bz
set_option maxRecDepth 10000
set_option maxHeartbeats 4000000

/-- reads.Read -/
structure Rd where
  side : Int
  name : Txt
  deriving DecidableEq
def rdC (r : Rd) : List D := [.int .i64 r.side, .str r.name]
theorem rdC_eq (r : Rd) : rdC r = [.int .i64 r.side, .str r.name] := rfl
abbrev rdA (r : Rd) : AV := .agg [.d (.int .i64 r.side), .d (.str r.name)]
abbrev rdS (l : List Rd) : AV := .d (.vs false (l.map rdC))
@[simp] theorem sized_rd (l : List Rd) : sized 2 (l.map rdC) = true := sized_map 2 rdC (fun _ => rfl) l
def rd0 : Rd := ⟨0, []⟩
@[simp] theorem rd0_C : rdC rd0 = [.int .i64 0, .str []] := rfl
/-- api.Update -/
structure Up where
  side : Int
  name : Txt
  to : Ex
def upC (u : Up) : List D := [.int .i64 u.side, .str u.name, .int .i64 u.to.kind, .str u.to.name, .int .i64 u.to.n, .int .i64 u.to.lo, .int .i64 u.to.hi, .vs false (u.to.kids.map exC)]
theorem upC_eq (u : Up) : upC u = [.int .i64 u.side, .str u.name, .int .i64 u.to.kind, .str u.to.name, .int .i64 u.to.n, .int .i64 u.to.lo, .int .i64 u.to.hi, .vs false (u.to.kids.map exC)] := rfl
abbrev upS (l : List Up) : AV := .d (.vs false (l.map upC))
@[simp] theorem sized_up (l : List Up) : sized 8 (l.map upC) = true := sized_map 8 upC (fun _ => rfl) l
def up0 : Up := ⟨0, [], .mk 0 [] 0 0 0 []⟩
@[simp] theorem up0_C : upC up0 = [.int .i64 0, .str [], .int .i64 0, .str [], .int .i64 0, .int .i64 0, .int .i64 0, .vs false []] := rfl
theorem aeqagg_rd (n : Bool) (x y : Rd) : aeqagg [.int .i64, .str] n (.agg [.d (.int .i64 x.side), .d (.str x.name)]) (.agg [.d (.int .i64 y.side), .d (.str y.name)]) = some (.d (.bool (if n = true then !decide (x = y) else decide (x = y)))) := by
  obtain ⟨a, b⟩ := x
  obtain ⟨c, d⟩ := y
  have q1 : (a == c) = decide (a = c) := by rw [Bool.eq_iff_iff]; simp
  have q2 : (b == d) = decide (b = d) := by rw [Bool.eq_iff_iff]; simp
  by_cases h1 : a = c <;> by_cases h2 : b = d <;> cases n <;> simp [q1, q2, h1, h2, boolV]

/-- a list of them, as a row's element -/
def ccRdC (l : List Rd) : List D := [.vs false (l.map rdC)]
theorem ccRdC_eq (l : List Rd) : ccRdC l = [.vs false (l.map rdC)] := rfl
abbrev ccRdS (ls : List (List Rd)) : AV := .d (.vs false (ls.map ccRdC))

theorem run_GrowRd (n : Nat) (hn : n ≤ BIG) : R F_slices_Grow_reads_Read_reads_Read [.d (.vs true []), .d (.int .i64 n)] [] = some (growR 2 [.int .i64 0, .str []] n) := by
  unfold growR
  refine R_of at_slices_Grow_reads_Read_reads_Read (by decide) ?_
  unfold BIG at hn
  have h1 : ¬ (n : Int) < 0 := by omega
  have hw := wrap_ok (a := (n : Int)) (by omega) (by omega)
  have hw0 := wrap_ok (a := (0 : Int)) (by omega) (by omega)
  by_cases h0 : n = 0
  · subst h0
    simp -implicitDefEqProofs [code_slices_Grow_reads_Read_reads_Read, hw0]
  · have h2 : (0 : Int) < n := by omega
    have h2' : 0 < n := by omega
    have h3 : n ≤ LIM := by unfold LIM; omega
    simp -implicitDefEqProofs [code_slices_Grow_reads_Read_reads_Read, h0, h1, h2, h2', h3, hw, hw0]

theorem run_ConcatRd (ls : List (List Rd)) (hl : ls.length ≤ BIG) (hf : ls.flatten.length ≤ BIG) : R F_slices_Concat_reads_Read_reads_Read [ccRdS ls] [] = some (.os 0 ls.flatten.length 0 ls.flatten.length, [(0, .arr 2 (ls.flatten.map rdC))]) := by
  refine R_of at_slices_Concat_reads_Read_reads_Read (by decide) ?_
  have hG := run_GrowRd ls.flatten.length hf
  unfold BIG at hl hf
  have h0 := loop_fold (X := X) (mask := mask_slices_Concat_reads_Read_reads_Read_0) (body := body_slices_Concat_reads_Read_reads_Read_0) ls
    (fun i (m : Nat) => ⟨mkE 36 [(0, ccRdS ls), (3, .d (.int .i64 m)), (9, ccRdS ls), (10, .d (.int .i64 ls.length)), (11, .d (.int .i64 i))], []⟩)
    (fun i m => m = (ls.take i).flatten.length) (fun _ m x => m + x.length)
    (fun m => (.exit 0, ⟨mkE 36 [(0, ccRdS ls), (3, .d (.int .i64 m))], []⟩)) (by simp)
    (fun i m x hi hx hI => by
      have hx' : ls[i]? = some x := by rw [← hx]; exact List.getElem?_eq_getElem hi
      have e := flat_take ls i x hx'
      have le := flat_take_le ls (i + 1)
      rw [e, List.length_append] at le
      have hw := wrap_ok (a := (i : Int) + 1) (by omega) (by omega)
      have hw2 := wrap_ok (a := (m : Int) + x.length) (by omega) (by omega)
      have hn : ¬ (m : Int) + x.length < 0 := by omega
      refine ⟨by rw [e, List.length_append, hI], ?_⟩
      simp -implicitDefEqProofs [body_slices_Concat_reads_Read_reads_Read_0, mask_slices_Concat_reads_Read_reads_Read_0, hi, hx, ccRdC_eq, hw, hw2, hn]) (fun m hI => by
      simp -implicitDefEqProofs [body_slices_Concat_reads_Read_reads_Read_0]) 0 (by simp)
  have e0 : ∀ (l : List (List Rd)) (i m : Nat), foldI (fun _ m (x : List Rd) => m + x.length) l i m = m + l.flatten.length := by
    intro l
    induction l with
    | nil => intro i m; simp
    | cons x r ih => intro i m; rw [foldI_cons, ih]; simp; omega
  rw [e0, Nat.zero_add] at h0
  have h1 := loop_fold (X := X) (mask := mask_slices_Concat_reads_Read_reads_Read_1) (body := body_slices_Concat_reads_Read_reads_Read_1) ls
    (fun i (out : List Rd) => ⟨mkE 36 [(6, .os 10000060 ls.flatten.length 0 out.length), (25, ccRdS ls), (26, .d (.int .i64 ls.length)), (27, .d (.int .i64 i))], [(10000060, .arr 2 ((out ++ List.replicate (ls.flatten.length - out.length) rd0).map rdC))]⟩)
    (fun i out => out = (ls.take i).flatten) (fun _ out x => out ++ x)
    (fun out => (.exit 2, ⟨mkE 36 [(6, .os 10000060 ls.flatten.length 0 out.length)], [(10000060, .arr 2 ((out ++ List.replicate (ls.flatten.length - out.length) rd0).map rdC))]⟩)) (by simp)
    (fun i out x hi hx hI => by
      have hx' : ls[i]? = some x := by rw [← hx]; exact List.getElem?_eq_getElem hi
      have e := flat_take ls i x hx'
      have le := flat_take_le ls (i + 1)
      rw [e, ← hI, List.length_append] at le
      have hw := wrap_ok (a := (i : Int) + 1) (by omega) (by omega)
      refine ⟨by rw [e, hI], ?_⟩
      have hp := put_behind (out.map rdC) (x.map rdC) [.int .i64 0, .str []] ls.flatten.length (by simpa using le)
      simp only [List.length_map] at hp
      generalize ls.flatten.length = N at *
      have hN : N ≤ LIM := by unfold LIM; omega
      by_cases hf : out.length = N
      · have hx0 : x = [] := List.length_eq_zero_iff.1 (by omega)
        subst hx0
        subst hf
        simp -implicitDefEqProofs [body_slices_Concat_reads_Read_reads_Read_1, mask_slices_Concat_reads_Read_reads_Read_1, hi, hx, ccRdC_eq, hw, hN]
      · have c1 : out.length + (N - out.length) = N := by omega
        have hd : List.drop (out.length + x.length) (out.map rdC ++ List.replicate (N - out.length) [.int .i64 0, .str []]) = List.replicate (N - (out.length + x.length)) [.int .i64 0, .str []] := by
          rw [List.drop_append, List.drop_eq_nil_of_le (by simp), List.nil_append, List.drop_replicate]
          simp only [List.length_map]
          congr 1; omega
        simp -implicitDefEqProofs [body_slices_Concat_reads_Read_reads_Read_1, mask_slices_Concat_reads_Read_reads_Read_1, hi, hx, ccRdC_eq, hw, hN, hf, c1, le, hd]) (fun out hI => by
      simp -implicitDefEqProofs [body_slices_Concat_reads_Read_reads_Read_1]) [] (by simp)
  have e1 : ∀ (l : List (List Rd)) (i : Nat) (out : List Rd), foldI (fun _ out (x : List Rd) => out ++ x) l i out = out ++ l.flatten := by
    intro l
    induction l with
    | nil => intro i m; simp
    | cons x r ih => intro i m; rw [foldI_cons, ih]; simp
  rw [e1, List.nil_append] at h1
  generalize ls.flatten = F at *
  simp -implicitDefEqProofs [code_slices_Concat_reads_Read_reads_Read]
  rw [h0 _ (by simp -implicitDefEqProofs [mask_slices_Concat_reads_Read_reads_Read_0])]
  by_cases hN : F.length = 0
  · have hF : F = [] := List.length_eq_zero_iff.1 hN
    subst hF
    simp -implicitDefEqProofs [growR] at hG
    simp -implicitDefEqProofs [hG]
    rw [h1 _ (by simp -implicitDefEqProofs [mask_slices_Concat_reads_Read_reads_Read_1])]
    simp -implicitDefEqProofs
  · have hF : ¬ F = [] := fun e => hN (by rw [e]; rfl)
    simp -implicitDefEqProofs [growR, hF] at hG
    simp -implicitDefEqProofs [hG]
    rw [h1 _ (by simp -implicitDefEqProofs [mask_slices_Concat_reads_Read_reads_Read_1])]
    simp -implicitDefEqProofs
/-- a list of them, as a row's element -/
def ccUpC (l : List Up) : List D := [.vs false (l.map upC)]
theorem ccUpC_eq (l : List Up) : ccUpC l = [.vs false (l.map upC)] := rfl
abbrev ccUpS (ls : List (List Up)) : AV := .d (.vs false (ls.map ccUpC))

theorem run_GrowUp (n : Nat) (hn : n ≤ BIG) : R F_slices_Grow_api_Update_api_Update [.d (.vs true []), .d (.int .i64 n)] [] = some (growR 8 [.int .i64 0, .str [], .int .i64 0, .str [], .int .i64 0, .int .i64 0, .int .i64 0, .vs false []] n) := by
  unfold growR
  refine R_of at_slices_Grow_api_Update_api_Update (by decide) ?_
  unfold BIG at hn
  have h1 : ¬ (n : Int) < 0 := by omega
  have hw := wrap_ok (a := (n : Int)) (by omega) (by omega)
  have hw0 := wrap_ok (a := (0 : Int)) (by omega) (by omega)
  by_cases h0 : n = 0
  · subst h0
    simp -implicitDefEqProofs [code_slices_Grow_api_Update_api_Update, hw0]
  · have h2 : (0 : Int) < n := by omega
    have h2' : 0 < n := by omega
    have h3 : n ≤ LIM := by unfold LIM; omega
    simp -implicitDefEqProofs [code_slices_Grow_api_Update_api_Update, h0, h1, h2, h2', h3, hw, hw0]

theorem run_ConcatUp (ls : List (List Up)) (hl : ls.length ≤ BIG) (hf : ls.flatten.length ≤ BIG) : R F_slices_Concat_api_Update_api_Update [ccUpS ls] [] = some (upS ls.flatten, []) := by
  refine R_of at_slices_Concat_api_Update_api_Update (by decide) ?_
  have hG := run_GrowUp ls.flatten.length hf
  unfold BIG at hl hf
  have h0 := loop_fold (X := X) (mask := mask_slices_Concat_api_Update_api_Update_0) (body := body_slices_Concat_api_Update_api_Update_0) ls
    (fun i (m : Nat) => ⟨mkE 36 [(0, ccUpS ls), (3, .d (.int .i64 m)), (9, ccUpS ls), (10, .d (.int .i64 ls.length)), (11, .d (.int .i64 i))], []⟩)
    (fun i m => m = (ls.take i).flatten.length) (fun _ m x => m + x.length)
    (fun m => (.exit 0, ⟨mkE 36 [(0, ccUpS ls), (3, .d (.int .i64 m))], []⟩)) (by simp)
    (fun i m x hi hx hI => by
      have hx' : ls[i]? = some x := by rw [← hx]; exact List.getElem?_eq_getElem hi
      have e := flat_take ls i x hx'
      have le := flat_take_le ls (i + 1)
      rw [e, List.length_append] at le
      have hw := wrap_ok (a := (i : Int) + 1) (by omega) (by omega)
      have hw2 := wrap_ok (a := (m : Int) + x.length) (by omega) (by omega)
      have hn : ¬ (m : Int) + x.length < 0 := by omega
      refine ⟨by rw [e, List.length_append, hI], ?_⟩
      simp -implicitDefEqProofs [body_slices_Concat_api_Update_api_Update_0, mask_slices_Concat_api_Update_api_Update_0, hi, hx, ccUpC_eq, hw, hw2, hn]) (fun m hI => by
      simp -implicitDefEqProofs [body_slices_Concat_api_Update_api_Update_0]) 0 (by simp)
  have e0 : ∀ (l : List (List Up)) (i m : Nat), foldI (fun _ m (x : List Up) => m + x.length) l i m = m + l.flatten.length := by
    intro l
    induction l with
    | nil => intro i m; simp
    | cons x r ih => intro i m; rw [foldI_cons, ih]; simp; omega
  rw [e0, Nat.zero_add] at h0
  have h1 := loop_fold (X := X) (mask := mask_slices_Concat_api_Update_api_Update_1) (body := body_slices_Concat_api_Update_api_Update_1) ls
    (fun i (out : List Up) => ⟨mkE 36 [(6, .os 10000060 ls.flatten.length 0 out.length), (25, ccUpS ls), (26, .d (.int .i64 ls.length)), (27, .d (.int .i64 i))], [(10000060, .arr 8 ((out ++ List.replicate (ls.flatten.length - out.length) up0).map upC))]⟩)
    (fun i out => out = (ls.take i).flatten) (fun _ out x => out ++ x)
    (fun out => (.exit 2, ⟨mkE 36 [(6, .os 10000060 ls.flatten.length 0 out.length)], [(10000060, .arr 8 ((out ++ List.replicate (ls.flatten.length - out.length) up0).map upC))]⟩)) (by simp)
    (fun i out x hi hx hI => by
      have hx' : ls[i]? = some x := by rw [← hx]; exact List.getElem?_eq_getElem hi
      have e := flat_take ls i x hx'
      have le := flat_take_le ls (i + 1)
      rw [e, ← hI, List.length_append] at le
      have hw := wrap_ok (a := (i : Int) + 1) (by omega) (by omega)
      refine ⟨by rw [e, hI], ?_⟩
      have hp := put_behind (out.map upC) (x.map upC) [.int .i64 0, .str [], .int .i64 0, .str [], .int .i64 0, .int .i64 0, .int .i64 0, .vs false []] ls.flatten.length (by simpa using le)
      simp only [List.length_map] at hp
      generalize ls.flatten.length = N at *
      have hN : N ≤ LIM := by unfold LIM; omega
      by_cases hf : out.length = N
      · have hx0 : x = [] := List.length_eq_zero_iff.1 (by omega)
        subst hx0
        subst hf
        simp -implicitDefEqProofs [body_slices_Concat_api_Update_api_Update_1, mask_slices_Concat_api_Update_api_Update_1, hi, hx, ccUpC_eq, hw, hN]
      · have c1 : out.length + (N - out.length) = N := by omega
        have hd : List.drop (out.length + x.length) (out.map upC ++ List.replicate (N - out.length) [.int .i64 0, .str [], .int .i64 0, .str [], .int .i64 0, .int .i64 0, .int .i64 0, .vs false []]) = List.replicate (N - (out.length + x.length)) [.int .i64 0, .str [], .int .i64 0, .str [], .int .i64 0, .int .i64 0, .int .i64 0, .vs false []] := by
          rw [List.drop_append, List.drop_eq_nil_of_le (by simp), List.nil_append, List.drop_replicate]
          simp only [List.length_map]
          congr 1; omega
        simp -implicitDefEqProofs [body_slices_Concat_api_Update_api_Update_1, mask_slices_Concat_api_Update_api_Update_1, hi, hx, ccUpC_eq, hw, hN, hf, c1, le, hd]) (fun out hI => by
      simp -implicitDefEqProofs [body_slices_Concat_api_Update_api_Update_1]) [] (by simp)
  have e1 : ∀ (l : List (List Up)) (i : Nat) (out : List Up), foldI (fun _ out (x : List Up) => out ++ x) l i out = out ++ l.flatten := by
    intro l
    induction l with
    | nil => intro i m; simp
    | cons x r ih => intro i m; rw [foldI_cons, ih]; simp
  rw [e1, List.nil_append] at h1
  generalize ls.flatten = F at *
  simp -implicitDefEqProofs [code_slices_Concat_api_Update_api_Update]
  rw [h0 _ (by simp -implicitDefEqProofs [mask_slices_Concat_api_Update_api_Update_0])]
  by_cases hN : F.length = 0
  · have hF : F = [] := List.length_eq_zero_iff.1 hN
    subst hF
    simp -implicitDefEqProofs [growR] at hG
    simp -implicitDefEqProofs [hG]
    rw [h1 _ (by simp -implicitDefEqProofs [mask_slices_Concat_api_Update_api_Update_1])]
    simp -implicitDefEqProofs
  · have hF : ¬ F = [] := fun e => hN (by rw [e]; rfl)
    simp -implicitDefEqProofs [growR, hF] at hG
    simp -implicitDefEqProofs [hG]
    rw [h1 _ (by simp -implicitDefEqProofs [mask_slices_Concat_api_Update_api_Update_1])]
    simp -implicitDefEqProofs
/-- the row behind: kept ahead, then nothing -/
abbrev compRd (l : List Rd) : List Rd := compL l ++ List.replicate (l.length - (compL l).length) ⟨0, []⟩

theorem run_CompactRd (l z : List Rd) (hl : l.length + z.length ≤ BIG) : R F_slices_Compact_reads_Read_reads_Read [.os 0 (l.length + z.length) 0 l.length] [(0, .arr 2 (l.map rdC ++ z.map rdC))] =
    some (.os 0 (l.length + z.length) 0 (compL l).length, [(0, .arr 2 ((compRd l).map rdC ++ z.map rdC))]) := by
  unfold BIG at hl
  refine R_of at_slices_Compact_reads_Read_reads_Read (by decide) ?_
  by_cases h2 : l.length < 2
  · have hc : compL l = l := by
      match l, h2 with
      | [], _ => rfl
      | [x], _ => rfl
    have h3 : (l.length : Int) < 2 := by omega
    simp -implicitDefEqProofs [code_slices_Compact_reads_Read_reads_Read, h3, hc]
  have h3 : ¬ (l.length : Int) < 2 := by omega
  -- from the first pair alike on
  have inner : ∀ i, (hi : i + 1 < l.length) → l[i]? = l[i + 1]? → (∀ (j : Nat) (a b : Rd), j + 1 < i + 1 → l[j]? = some a → l[j + 1]? = some b → a ≠ b) →
      ∃ L : List Rd, compInv l (i + 1) (l.length - (i + 1) - 1) ((compL l).length, L) ∧
      ∀ s, trim mask_slices_Compact_reads_Read_reads_Read_0 s = ⟨mkE 61 [(0, .os 0 (l.length + z.length) 0 l.length), (3, .d (.int .i64 ((i : Int) + 1))), (4, .os 0 (l.length + z.length) (i + 1) (l.length - (i + 1))), (5, .d (.int .i64 1))], [(0, .arr 2 (l.map rdC ++ z.map rdC))]⟩ →
      exL X (.loop mask_slices_Compact_reads_Read_reads_Read_0 body_slices_Compact_reads_Read_reads_Read_0) s =
        some (.exit 2, ⟨mkE 61 [(0, .os 0 (l.length + z.length) 0 l.length), (3, .d (.int .i64 ((compL l).length : Int)))], [(0, .arr 2 (L.map rdC ++ z.map rdC))]⟩) := by
    intro i hi he hm
    have hL := loop_fold (X := X) (mask := mask_slices_Compact_reads_Read_reads_Read_0) (body := body_slices_Compact_reads_Read_reads_Read_0) (l.drop (i + 1 + 1))
      (fun j (a : Nat × List Rd) => ⟨mkE 61 [(0, .os 0 (l.length + z.length) 0 l.length), (3, .d (.int .i64 a.1)), (4, .os 0 (l.length + z.length) (i + 1) (l.length - (i + 1))), (5, .d (.int .i64 ((j : Int) + 1)))], [(0, .arr 2 (a.2.map rdC ++ z.map rdC))]⟩)
      (compInv l (i + 1)) (compStep l (i + 1))
      (fun a => (.exit 2, ⟨mkE 61 [(0, .os 0 (l.length + z.length) 0 l.length), (3, .d (.int .i64 a.1))], [(0, .arr 2 (a.2.map rdC ++ z.map rdC))]⟩)) (by simp)
      (fun j a x hj hx hI => by
        have hj' : i + 1 + j + 1 < l.length := by simp at hj; omega
        have hx' : l[i + 1 + j + 1]? = some x := by
          have : (l.drop (i + 1 + 1))[j]? = some x := by rw [List.getElem?_eq_getElem hj, hx]
          rw [List.getElem?_drop] at this
          rw [show i + 1 + j + 1 = i + 1 + 1 + j by omega]; exact this
        refine ⟨compInv_step hx' hI, ?_⟩
        obtain ⟨k, L⟩ := a
        obtain ⟨i1, i2, i3, i4⟩ := hI
        simp only at i1 i2 i3 i4
        have hLx : L[i + 1 + j + 1]? = some x := by
          have := congrArg (fun t => t[1]?) i3
          simp only [List.getElem?_drop] at this
          rw [this]; exact hx'
        have hLy : L[i + 1 + j]? = l[i + 1 + j]? := by
          have := congrArg (fun t => t[0]?) i3
          simpa only [List.getElem?_drop, Nat.add_zero] using this
        obtain ⟨y, hy⟩ : ∃ y, l[i + 1 + j]? = some y := ⟨_, List.getElem?_eq_getElem (by omega)⟩
        rw [hy] at hLy
        have gLx : (L.map rdC ++ z.map rdC)[i + 1 + j + 1]? = some (rdC x) := by rw [List.getElem?_append_left (by simp; omega), List.getElem?_map, hLx]; rfl
        have gLy : (L.map rdC ++ z.map rdC)[i + 1 + j]? = some (rdC y) := by rw [List.getElem?_append_left (by simp; omega), List.getElem?_map, hLy]; rfl
        have hw := wrap_ok (a := (j : Int) + 1 + 1) (by omega) (by omega)
        have hw0 := wrap_ok (a := (j : Int)) (by omega) (by omega)
        have hw2 := wrap_ok (a := (k : Int) + 1) (by omega) (by omega)
        have p1 : (j : Int) + 1 < ((l.length - (i + 1) : Nat) : Int) := by omega
        have p0 : (j : Int) < ((l.length - (i + 1) : Nat) : Int) := by omega
        have p2 : (0 : Int) ≤ (j : Int) + 1 := by omega
        have p3 : k < L.length := by omega
        have p4 : (k : Int) < (l.length : Int) := by omega
        have e1 : i + 1 + (j + 1) = i + 1 + j + 1 := by omega
        have p5 : (L.map rdC ++ z.map rdC)[k]? = some (rdC L[k]) := by rw [List.getElem?_append_left (by simpa using p3), List.getElem?_map, List.getElem?_eq_getElem p3]; rfl
        have p6 : k < l.length := by omega
        have p7 : k < l.length + z.length := by omega
        have hset : (L.map rdC ++ z.map rdC).set k (rdC x) = (L.map rdC).set k (rdC x) ++ z.map rdC := List.set_append_left _ _ (by simpa using p3)
        by_cases hxy : y = x
        · have hc : compStep l (i + 1) j (k, L) x = (k, L) := by unfold compStep; rw [hy, hxy]; simp
          simp -implicitDefEqProofs [body_slices_Compact_reads_Read_reads_Read_0, mask_slices_Compact_reads_Read_reads_Read_0, i1, gLx, gLy, rdC_eq, -aeqagg, aeqagg_rd, hw, hw0, p1, p0, p2, e1, hc, hxy]
        · have hc : compStep l (i + 1) j (k, L) x = (k + 1, L.set k x) := by unfold compStep; rw [hy]; simp [hxy]
          have hxy' : ¬ x = y := fun e => hxy e.symm
          simp -implicitDefEqProofs [body_slices_Compact_reads_Read_reads_Read_0, mask_slices_Compact_reads_Read_reads_Read_0, i1, gLx, gLy, rdC_eq, -aeqagg, aeqagg_rd, hw, hw0, p1, p0, p2, e1, hc, hxy, hxy', hw2, p3, p4, p5, p6, p7, hset])
      (fun a hI => by
        obtain ⟨k, L⟩ := a
        have i1 := hI.1
        simp only at i1
        have e : ¬ ((l.length - (i + 1 + 1) : Nat) : Int) + 1 < ((l.length - (i + 1) : Nat) : Int) := by omega
        simp -implicitDefEqProofs [body_slices_Compact_reads_Read_reads_Read_0, e, i1])
      (i + 1, l)
    have hcut := comp_end (l := l) (k0 := i + 1) (by omega) hi (fun x hx => by rw [show i + 1 - 1 = i by omega, he]; exact hx) hm
    generalize hA : foldI (compStep l (i + 1)) (l.drop (i + 1 + 1)) 0 (i + 1, l) = A at hL hcut
    obtain ⟨k, L⟩ := A
    have hk : k = (compL l).length := by
      obtain ⟨c1, c2, c3, c4⟩ := hcut
      simp only at c1 c2 c3 c4
      rw [List.take_of_length_le (show l.length ≤ i + 1 + (l.length - (i + 1) - 1) + 1 by omega)] at c4
      rw [← c4]; simp; omega
    subst hk
    refine ⟨L, hcut, fun s hs => hL (comp_start (by omega) hi (fun x hx => by rw [show i + 1 - 1 = i by omega, he]; exact hx) hm) s (by simpa using hs)⟩
  obtain ⟨r, hQ, hL⟩ := loop_upto (X := X) (mask := mask_slices_Compact_reads_Read_reads_Read_1) (body := body_slices_Compact_reads_Read_reads_Read_1) (σ := Unit) (l.length - 1)
    (fun i _ => ⟨mkE 61 [(0, .os 0 (l.length + z.length) 0 l.length), (3, .d (.int .i64 ((i : Int) + 1)))], [(0, .arr 2 (l.map rdC ++ z.map rdC))]⟩)
    (fun i _ => ∀ (j : Nat) (a b : Rd), j + 1 < i + 1 → l[j]? = some a → l[j + 1]? = some b → a ≠ b)
    (fun r => (r = (.exit 0, ⟨mkE 61 [(0, .os 0 (l.length + z.length) 0 l.length)], [(0, .arr 2 (l.map rdC ++ z.map rdC))]⟩) ∧ compL l = l) ∨ r = (.ret, ⟨mkE 61 [(2, .os 0 (l.length + z.length) 0 (compL l).length)], [(0, .arr 2 ((compRd l).map rdC ++ z.map rdC))]⟩))
    (fun i _ hi hI => by
      have hi' : i + 1 < l.length := by omega
      have p3 : i < l.length := by omega
      have h1 : l[i + 1]? = some l[i + 1] := List.getElem?_eq_getElem hi'
      have h0 : l[i]? = some l[i] := List.getElem?_eq_getElem p3
      have g1 : (l.map rdC ++ z.map rdC)[i + 1]? = some (rdC l[i + 1]) := by rw [List.getElem?_append_left (by simpa using hi'), List.getElem?_map, h1]; rfl
      have g0 : (l.map rdC ++ z.map rdC)[i]? = some (rdC l[i]) := by rw [List.getElem?_append_left (by simpa using p3), List.getElem?_map, h0]; rfl
      have hw := wrap_ok (a := (i : Int) + 1 + 1) (by omega) (by omega)
      have hw2 := wrap_ok (a := (i : Int)) (by omega) (by omega)
      have p0 : (0 : Int) ≤ (i : Int) + 1 := by omega
      have p1 : (i : Int) + 1 < l.length := by omega
      have p2 : (i : Int) < l.length := by omega
      by_cases hne : l[i + 1] = l[i]
      · refine .inr ⟨_, ?_, ?_, .inr rfl⟩
        · obtain ⟨L, hcut, hin⟩ := inner i hi' (by rw [h0, h1, hne]) hI
          obtain ⟨c1, c2, c3, c4⟩ := hcut
          simp only at c1 c2 c3 c4
          rw [List.take_of_length_le (show l.length ≤ i + 1 + (l.length - (i + 1) - 1) + 1 by omega)] at c4
          have p4 := compL_len l
          have p5 : ((compL l).length : Int) ≤ (l.length : Int) := by omega
          have p6 : (i : Int) + 1 ≤ l.length := by omega
          simp -implicitDefEqProofs [body_slices_Compact_reads_Read_reads_Read_1, g1, g0, rdC_eq, -aeqagg, aeqagg_rd, hne, hw2, hi', p0, p1, p2, p3, p6]
          rw [hin _ (by simp [mask_slices_Compact_reads_Read_reads_Read_0])]
          have t1 : (L.map rdC ++ z.map rdC).take (compL l).length = (compL l).map rdC := by rw [List.take_append_of_le_length (by simp; omega), ← List.map_take, c4]
          have t2 : (L.map rdC ++ z.map rdC).drop l.length = z.map rdC := by rw [← c1, List.drop_append_of_le_length (by simp)]; simp
          have t3 : (compL l).length + (l.length - (compL l).length) = l.length := by omega
          have t4 : (compL l).length + (l.length - (compL l).length + z.length) = l.length + z.length := by omega
          simp -implicitDefEqProofs [c1, p4, p5, t1, t2, t3, t4, rdC_eq]
        · simp
      · refine .inl ⟨(), ?_, ?_⟩
        · intro j a b hj ha hb
          by_cases hji : j = i
          · subst hji
            rw [h0] at ha; rw [h1] at hb; cases ha; cases hb
            exact fun h => hne h.symm
          · exact hI j a b (by omega) ha hb
        · simp -implicitDefEqProofs [body_slices_Compact_reads_Read_reads_Read_1, mask_slices_Compact_reads_Read_reads_Read_1, g1, g0, rdC_eq, -aeqagg, aeqagg_rd, hne, hw, hw2, hi', p0, p1, p2, p3])
    (fun _ hI => by
      have p1 : ¬ ((l.length - 1 : Nat) : Int) + 1 < l.length := by omega
      refine ⟨(.exit 0, ⟨mkE 61 [(0, .os 0 (l.length + z.length) 0 l.length)], [(0, .arr 2 (l.map rdC ++ z.map rdC))]⟩), ?_, by simp, .inl ⟨rfl, compL_id fun j a b h1 h2 => ?_⟩⟩
      · simp -implicitDefEqProofs [body_slices_Compact_reads_Read_reads_Read_1, p1]
      · have := (List.getElem?_eq_some_iff.1 h2).1
        exact hI j a b (by omega) h1 h2)
    () (fun j a b hj => by omega)
  simp -implicitDefEqProofs [code_slices_Compact_reads_Read_reads_Read, h3]
  rw [hL _ (by simp [mask_slices_Compact_reads_Read_reads_Read_1])]
  rcases hQ with ⟨rfl, hc⟩ | rfl
  · simp -implicitDefEqProofs [hc]
  · simp -implicitDefEqProofs


/-! ### sorted -/
abbrev pRd (p : Rd) : Int × Txt := (p.side, p.name)
abbrev ofP (q : Int × Txt) : Rd := ⟨q.1, q.2⟩
def ltR (p q : Rd) : Bool := Go.Proofs.ltOf cfIT (pRd p) (pRd q)
def sortRd (l : List Rd) : List Rd := (isort (Go.Proofs.ltOf cfIT) (l.map pRd)).map ofP
theorem decs_rd : ∀ l : List Rd, decsF decIT (l.map rdC) = some (l.map pRd)
  | [] => rfl
  | p :: r => by
    have ih := decs_rd r
    simp only [List.map_cons, decsF, ih]
    rfl
theorem sortRd_perm (l : List Rd) : (sortRd l).Perm l := by
  unfold sortRd
  have := (isort_perm (lt := Go.Proofs.ltOf cfIT) (l.map pRd)).map ofP
  rw [List.map_map] at this
  have e : (ofP ∘ pRd) = id := by funext p; rfl
  rw [e, List.map_id] at this
  exact this
theorem sortRd_up (l : List Rd) : (sortRd l).Pairwise fun p q => ltR q p = false := by
  unfold sortRd
  rw [List.pairwise_map]
  exact isort_up totIT _
theorem run_SortRd (l : List Rd) (hl : l.length ≤ LIM) : R F_slices_SortFunc_reads_Read_reads_Read [.os 0 l.length 0 l.length, .fn F_reads_compare []] [(0, .arr 2 (l.map rdC))] = some (.tup [], [(0, .arr 2 ((sortRd l).map rdC))]) := by
  refine R_ext (ext_slices_SortFunc_reads_Read_reads_Read ?_)
  unfold extSortF
  rw [if_pos rfl]
  have h1 : (l.map rdC).take l.length = l.map rdC := by rw [List.take_of_length_le (by simp)]
  have h2 : (l.map rdC).drop l.length = [] := by rw [List.drop_eq_nil_of_le (by simp)]
  have h3 : (isort (Go.Proofs.ltOf cfIT) (l.map pRd)).map encIT = (sortRd l).map rdC := by
    unfold sortRd; rw [List.map_map]; rfl
  simp only [h1, h2, decs_rd, Option.map_some, h3]
  simp [hl]

theorem compL_upT {α : Type} [DecidableEq α] {lt : α → α → Bool} (ht : TotLt lt) : ∀ {l : List α}, (l.Pairwise fun p q => lt q p = false) → (compL l).Pairwise fun p q => lt p q = true
  | [], _ => by simp [compL]
  | [x], _ => by simp [compL]
  | x :: y :: r, h => by
    have hr := (List.pairwise_cons.1 h).2
    have ih := compL_upT ht hr
    unfold compL
    split
    · exact ih
    · rename_i hne
      refine List.pairwise_cons.2 ⟨fun z hz => ?_, ih⟩
      have hz' := compL_mem.1 hz
      have h1 := (List.pairwise_cons.1 h).1
      have hxy : lt x y = true := by
        cases q : lt x y with
        | true => rfl
        | false => exact absurd (ht.tot x y q (h1 y (by simp))) hne
      rcases List.mem_cons.1 hz' with rfl | hz'
      · exact hxy
      · have hyz := (List.pairwise_cons.1 hr).1 z hz'
        cases q : lt y z with
        | true => exact ht.tra _ _ _ hxy q
        | false => rw [← ht.tot y z q hyz]; exact hxy
theorem totR : TotLt ltR where
  irr x := totIT.irr _
  tra x y z h1 h2 := totIT.tra _ _ _ h1 h2
  tot x y h1 h2 := by
    obtain ⟨a, b⟩ := x
    obtain ⟨c, d⟩ := y
    have := totIT.tot _ _ h1 h2
    simp only [pRd, Prod.mk.injEq] at this
    rw [this.1, this.2]
theorem ltR_iff {p q : Rd} : ltR p q = true ↔ p.side < q.side ∨ (p.side = q.side ∧ Op.bytesLess p.name q.name = true) := ltIT

def setRd (l : List Rd) : List Rd := compL (sortRd l)
theorem setRd_mem {l : List Rd} {x : Rd} : x ∈ setRd l ↔ x ∈ l := by unfold setRd; rw [compL_mem, (sortRd_perm l).mem_iff]
theorem setRd_up (l : List Rd) : (setRd l).Pairwise fun p q => ltR p q = true := compL_upT totR (sortRd_up l)
theorem setRd_len (l : List Rd) : (setRd l).length ≤ l.length := by
  have h1 := compL_len (sortRd l)
  have h2 := (sortRd_perm l).length_eq
  unfold setRd; omega

theorem run_Union (ls : List (List Rd)) (hl : ls.length ≤ BIG) (hf : ls.flatten.length ≤ BIG) : R F_reads_Union [ccRdS ls] [] = some (rdS (setRd ls.flatten), []) := by
  refine R_of at_reads_Union (by decide) ?_
  have h1 := run_ConcatRd ls hl hf
  generalize ls.flatten = l at *
  have h2 := run_SortRd l (by unfold LIM; unfold BIG at hf; omega)
  have e := (sortRd_perm l).length_eq
  have h3 := run_CompactRd (sortRd l) [] (by simp; omega)
  simp only [List.length_nil, Nat.add_zero, List.map_nil, List.append_nil] at h3
  rw [e] at h3
  have hcl := compL_len (sortRd l)
  rw [e] at hcl
  unfold compRd at h3
  rw [e] at h3
  unfold setRd
  generalize compL (sortRd l) = c at *
  have q1 : c.length + (l.length - c.length) = l.length := by omega
  simp -implicitDefEqProofs [code_reads_Union, h1, h2, h3, q1, hcl]
end Bz.S
