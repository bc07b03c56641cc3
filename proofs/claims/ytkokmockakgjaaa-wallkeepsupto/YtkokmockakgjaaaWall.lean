/- Who saw whose, walked: whose one saw, may, see, forget, leak. -/
import Derived.Test.YtkokmockakgjaaaSet
import Derived.Test.YtkokmockakgjaaaTypM
set_option linter.unusedSimpArgs false
set_option linter.unusedVariables false
namespace Bz.S
open Go Bz
set_option maxRecDepth 10000
set_option maxHeartbeats 4000000

structure Cl where
  n : Txt
  c : Txt
structure Ct where
  w : Txt
  o : Txt
  k : Int
abbrev keyW (w o : Txt) : AV := .agg [.d (.str w), .d (.str o)]
def clA (p : Cl) : AV × AV := (.d (.str p.n), .agg [.d (.str p.c)])
def entW (c : Ct) : AV × AV := (keyW c.w c.o, .d (.int .i64 c.k))
abbrev wH (K : List Cl) (S : List Ct) : Heap := [(0, .var [.map 1, .map 2]), (1, .mp false [.str] (K.map clA)), (2, .mp true [.str, .str] (S.map entW))]

theorem w1_is (K : List Cl) (S : List Ct) : R1 F_wall_Wall_is [.pv 0 0] (wH K S) = some (.d (.bool true), wH K S) := by
  refine R1_of at_wall_Wall_is (by decide) ?_
  simp -implicitDefEqProofs [code_wall_Wall_is]
theorem w2_is (K : List Cl) (S : List Ct) : R2 F_wall_Wall_is [.pv 0 0] (wH K S) = some (.d (.bool true), wH K S) := R1_R2 (w1_is K S)
theorem w_is (K : List Cl) (S : List Ct) : R F_wall_Wall_is [.pv 0 0] (wH K S) = some (.d (.bool true), wH K S) := R2_R (w2_is K S)

theorem r1_SortTx (l : List Txt) (hl : l.length ≤ LIM) : R1 F_slices_Sort_string_string [.os 0 l.length 0 l.length] [(0, .arr 1 (l.map stC))] = some (.tup [], [(0, .arr 1 ((sortTx l).map stC))]) := by
  refine R1_ext (ext1_slices_Sort_string_string ?_)
  simp [extSort, hl, strsD_tx]

theorem sortTx_perm {a b : List Txt} (h : a.Perm b) : sortTx a = sortTx b := isort_of_perm blt_tot h
theorem sortTx_len (a : List Txt) : (sortTx a).length = a.length := isort_len a
theorem tight_mkE {n : Nat} {l : List (Nat × AV)} (H : Heap) (h : okL n 0 l = true) : tight ⟨mkE n l, H⟩ = ((refsL (valsL l)).all (fun l => decide (10000 ≤ l)) && H.all fun x => decide (10000 ≤ x.1) && (refsO x.2).all fun l => decide (10000 ≤ l)) := by
  unfold tight; rw [refsL_mkE h]
/-- whose one saw, as they come -/
def namW (e : Txt) (out : List Txt) (p : AV × AV) : List Txt := match p.1 with
  | .agg [.d (.str e'), .d (.str n)] => if e' = e then out ++ [n] else out
  | _ => out
theorem namW_len (e : Txt) (out : List Txt) (p : AV × AV) : (namW e out p).length ≤ out.length + 1 := by
  unfold namW; split
  · split <;> simp
  · omega
theorem namW_fold (e : Txt) : ∀ (S : List Ct) (out : List Txt), (S.map entW).foldl (namW e) out = out ++ (S.filter fun c => c.w = e).map (·.o)
  | [], out => by simp
  | c :: r, out => by
    simp only [List.map_cons, List.foldl_cons, namW_fold e r]
    by_cases h : c.w = e <;> simp [namW, entW, h]

def seenW (S : List Ct) (e : Txt) : List Txt := sortTx ((S.filter fun c => c.w = e).map (·.o))
theorem seenW_len (S : List Ct) (e : Txt) : (seenW S e).length ≤ S.length := by
  unfold seenW; rw [sortTx_len, List.length_map]; exact List.length_filter_le _ _

theorem e2_Seen (K : List Cl) (S : List Ct) (e : Txt) (hS : S.length ≤ BIG) :
    ext2 F_wall_Wall_Seen [.pv 0 0, stA e] (wH K S) = some (.os 3 (seenW S e).length 0 (seenW S e).length, wH K S ++ [(3, .arr 1 ((seenW S e).map stC))]) := by
  refine ext2_wall_Wall_Seen ?_
  have h1 := w1_is K S
  unfold BIG at hS
  unfold seenW
  simp only [rcode_wall_Wall_Seen]
  refine aw_seq_code (s' := ⟨mkE 31 [(0, .pv 0 0), (1, stA e), (4, .d (.vs true []))], wH K S⟩) (by simp) ?_
  refine aw_seq_code (s' := ⟨mkE 31 [(0, .pv 0 0), (1, stA e), (4, .d (.vs true [])), (7, .pv 0 0), (8, .d (.bool true)), (9, .d (.bool false))], wH K S⟩) (by simp -implicitDefEqProofs [h1]) ?_
  refine aw_mask (s' := ⟨mkE 31 [(0, .pv 0 0), (1, stA e)], wH K S⟩) (by simp -implicitDefEqProofs) ?_
  refine aw_seq_code (s' := ⟨mkE 31 [(0, .pv 0 0), (1, stA e), (5, .d (.vs true []))], wH K S⟩) (by simp) ?_
  refine aw_seq_each (s1 := ⟨mkE 31 [(0, .pv 0 0), (1, stA e), (5, .d (.vs true [])), (10, .pv 0 0), (11, .pv 0 0), (12, .pv 0 1), (13, .map 2)], wH K S⟩) (l := 2) (ag := true) (ks := [.str, .str]) (es := S.map entW)
    (by simp [each_wall_Wall_Seen_0]) (by simp [each_wall_Wall_Seen_0]) (by simp) (by simp [itN, freshU, shut]) fun π hπ => ?_
  obtain ⟨S', hS', rfl⟩ := perm_map hπ
  have hlen : S'.length = S.length := hS'.length_eq
  obtain ⟨hf, hI⟩ := each_fold (X := X1) (e := each_wall_Wall_Seen_0) (fun out => ⟨mkE 31 [(1, stA e), (5, .os 10000050 out.length 0 out.length), (14, .pa 9999 0 0 0)], [(9999, .fz 1 []), (10000050, .arr 1 (out.map stC))]⟩)
    (fun k out => out.length ≤ k) (namW e) (fun out => by simp [inLoop, each_wall_Wall_Seen_0, itN, mkE_len]) (S'.map entW) 0
    { E := putE (mkE 31 [(0, .pv 0 0), (1, stA e), (5, .d (.vs true [])), (10, .pv 0 0), (11, .pv 0 0), (12, .pv 0 1), (13, .map 2)]) (some 14) (.pa 9999 0 0 0), H := hset (looseH 2 (wH K S)) 9999 (.fz 1 []) } []
    (fun i out p _ hi hp hI => by
      obtain ⟨c, hc, rfl⟩ := List.mem_map.1 hp
      simp at hi
      have g1 : out.length + 1 ≤ LIM := by unfold LIM; omega
      refine ⟨by have := namW_len e out (entW c); omega, ?_⟩
      by_cases hce : c.w = e
      · simp -implicitDefEqProofs [roundR, each_wall_Wall_Seen_0, inLoop, itN, entW, namW, hce, g1, blkO, mkE_len]
      · simp -implicitDefEqProofs [roundR, each_wall_Wall_Seen_0, inLoop, itN, entW, namW, hce, g1, blkO, mkE_len])
    (by simp -implicitDefEqProofs [each_wall_Wall_Seen_0, looseH]) (Nat.le_refl _)
  rw [namW_fold] at hf hI
  simp only [List.nil_append] at hf hI
  have hperm : ((S'.filter fun c => c.w = e).map (·.o)).Perm ((S.filter fun c => c.w = e).map (·.o)) := (hS'.filter _).map _
  have hs := sortTx_perm hperm
  have hll : ((S'.filter fun c => c.w = e).map (·.o)).length ≤ LIM := by simp at hI ⊢; unfold LIM; omega
  generalize ((S'.filter fun c => c.w = e).map (·.o)) = out at *
  refine ⟨_, hf, ?_, ?_⟩
  · simp -implicitDefEqProofs [endR, each_wall_Wall_Seen_0, highH]
    rw [tight_mkE _ rfl]
    simp [valsL, refsL, refs, refsO]
  · have hst := r1_SortTx out hll
    refine aw_code (e := .ret) (s' := ⟨mkE 31 [(4, .os 10000040 out.length 0 out.length)], wH K S ++ [(10000040, .arr 1 ((sortTx out).map stC))]⟩) (by
      simp -implicitDefEqProofs [endR, each_wall_Wall_Seen_0, highH, callerH, hst]) ?_
    rw [← hs]
    have hl := sortTx_len out
    have ht : List.take out.length ((sortTx out).map stC) = (sortTx out).map stC := List.take_of_length_le (by simp [hl])
    simp -implicitDefEqProofs [rcode_wall_Wall_Seen, hl, ht]
theorem w2_Seen (K : List Cl) (S : List Ct) (e : Txt) (hS : S.length ≤ BIG) :
    R2 F_wall_Wall_Seen [.pv 0 0, stA e] (wH K S) = some (.os 3 (seenW S e).length 0 (seenW S e).length, wH K S ++ [(3, .arr 1 ((seenW S e).map stC))]) := R2_ext (e2_Seen K S e hS)
theorem w_Seen (K : List Cl) (S : List Ct) (e : Txt) (hS : S.length ≤ BIG) :
    R F_wall_Wall_Seen [.pv 0 0, stA e] (wH K S) = some (.os 3 (seenW S e).length 0 (seenW S e).length, wH K S ++ [(3, .arr 1 ((seenW S e).map stC))]) := R2_R (w2_Seen K S e hS)

/-! ### foes -/
def clOf (K : List Cl) (n : Txt) : Option Cl := K.find? fun d => n = d.n
def foesK (K : List Cl) (a b : Txt) : Bool := match clOf K a, clOf K b with
  | some x, some y => decide (a ≠ b) && decide (x.c = y.c)
  | _, _ => false
theorem findE_cl (n : Txt) : ∀ K : List Cl, findE (.d (.str n)) (K.map clA) = some ((clOf K n).map fun d => .agg [.d (.str d.c)])
  | [] => rfl
  | d :: r => by
    have ih := findE_cl n r
    simp only [clOf] at ih ⊢
    by_cases h : n = d.n
    · subst h; simp [clA, findE, avEq, scalEq]
    · have h' : (n == d.n) = false := by simpa using h
      simp only [List.map_cons, clA, findE, avEq, scalEq, List.find?_cons, h', decide_eq_false h]
      exact ih
@[simp] theorem keyOK_c (n : Txt) : keyOK false [.str] (.d (.str n)) = true := rfl
@[simp] theorem keyOK_W (w o : Txt) : keyOK true [.str, .str] (keyW w o) = true := rfl
theorem w2_foes (K : List Cl) (S : List Ct) (a b : Txt) : R2 F_wall_Wall_foes [.pv 0 0, stA a, stA b] (wH K S) = some (.d (.bool (foesK K a b)), wH K S) := by
  refine R2_of at_wall_Wall_foes (by decide) ?_
  have ha := findE_cl a K
  have hb := findE_cl b K
  unfold foesK
  by_cases e : a = b
  · subst e
    cases h : clOf K a with
    | none =>
      rw [h] at ha
      simp -implicitDefEqProofs [code_wall_Wall_foes, ha]
    | some x =>
      rw [h] at ha
      simp -implicitDefEqProofs [code_wall_Wall_foes, ha]
  · cases h : clOf K a with
    | none =>
      rw [h] at ha
      cases h2 : clOf K b with
      | none => rw [h2] at hb; simp -implicitDefEqProofs [code_wall_Wall_foes, ha, hb, e]
      | some y => rw [h2] at hb; simp -implicitDefEqProofs [code_wall_Wall_foes, ha, hb, e]
    | some x =>
      rw [h] at ha
      cases h2 : clOf K b with
      | none => rw [h2] at hb; simp -implicitDefEqProofs [code_wall_Wall_foes, ha, hb, e]
      | some y =>
        rw [h2] at hb
        by_cases e2 : x.c = y.c
        · simp -implicitDefEqProofs [code_wall_Wall_foes, ha, hb, e, e2]
        · have e3 : (x.c == y.c) = false := by simpa using e2
          simp -implicitDefEqProofs [code_wall_Wall_foes, ha, hb, e, e2, e3]
end Bz.S
