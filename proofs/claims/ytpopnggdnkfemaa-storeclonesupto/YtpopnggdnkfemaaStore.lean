/- A store, walked: what is set, told, named. -/
import Derived.Test.YtpopnggdnkfemaaSet
import Derived.Test.YtpopnggdnkfemaaTypV
import Derived.Test.YtpopnggdnkfemaaPlV
set_option linter.unusedSimpArgs false
set_option linter.unusedVariables false
namespace Bz.S
open Go Bz
set_option maxRecDepth 10000
set_option maxHeartbeats 4000000

structure Cel where
  e : Txt
  n : Txt
  v : Va
abbrev keyA (e n : Txt) : AV := .agg [.d (.str e), .d (.str n)]
def entA (c : Cel) : AV × AV := (keyA c.e c.n, vaA c.v)
structure Dec where
  n : Txt
  k : Int
def kA (p : Dec) : AV × AV := (.d (.str p.n), .d (.int .i64 p.k))
abbrev sH (K : List Dec) (S : List Cel) : Heap := [(0, .var [.map 1, .map 2]), (1, .mp false [.str] (K.map kA)), (2, .mp true [.str, .str] (S.map entA))]

theorem s1_is (K : List Dec) (S : List Cel) : R1 F_store_Store_is [.pv 0 0] (sH K S) = some (.d (.bool true), sH K S) := by
  refine R1_of at_store_Store_is (by decide) ?_
  simp -implicitDefEqProofs [code_store_Store_is]
theorem s_is (K : List Dec) (S : List Cel) : R F_store_Store_is [.pv 0 0] (sH K S) = some (.d (.bool true), sH K S) := R1_R (s1_is K S)

theorem r1_SortTx (l : List Txt) (hl : l.length ≤ LIM) : R1 F_slices_Sort_string_string [.os 0 l.length 0 l.length] [(0, .arr 1 (l.map stC))] = some (.tup [], [(0, .arr 1 ((sortTx l).map stC))]) := by
  refine R1_ext (ext1_slices_Sort_string_string ?_)
  simp [extSort, hl, strsD_tx]

theorem sortTx_perm {a b : List Txt} (h : a.Perm b) : sortTx a = sortTx b := isort_of_perm blt_tot h
theorem sortTx_len (a : List Txt) : (sortTx a).length = a.length := isort_len a
theorem tight_mkE {n : Nat} {l : List (Nat × AV)} (H : Heap) (h : okL n 0 l = true) : tight ⟨mkE n l, H⟩ = ((refsL (valsL l)).all (fun l => decide (10000 ≤ l)) && H.all fun x => decide (10000 ≤ x.1) && (refsO x.2).all fun l => decide (10000 ≤ l)) := by
  unfold tight; rw [refsL_mkE h]
/-- names of an entity, as they come -/
def namG (e : Txt) (out : List Txt) (p : AV × AV) : List Txt := match p.1 with
  | .agg [.d (.str e'), .d (.str n)] => if e' = e then out ++ [n] else out
  | _ => out
theorem namG_len (e : Txt) (out : List Txt) (p : AV × AV) : (namG e out p).length ≤ out.length + 1 := by
  unfold namG; split
  · split <;> simp
  · omega
theorem namG_fold (e : Txt) : ∀ (S : List Cel) (out : List Txt), (S.map entA).foldl (namG e) out = out ++ (S.filter fun c => c.e = e).map (·.n)
  | [], out => by simp
  | c :: r, out => by
    simp only [List.map_cons, List.foldl_cons, namG_fold e r]
    by_cases h : c.e = e <;> simp [namG, entA, h]

theorem run_Names (K : List Dec) (S : List Cel) (e : Txt) (hS : S.length ≤ BIG) :
    R F_store_Store_Names [.pv 0 0, stA e] (sH K S) = some (txS (sortTx ((S.filter fun c => c.e = e).map (·.n))), sH K S) := by
  refine R_ext (ext_store_Store_Names ?_)
  have h1 := s1_is K S
  unfold BIG at hS
  simp only [rcode_store_Store_Names]
  refine aw_seq_code (s' := ⟨mkE 31 [(0, .pv 0 0), (1, stA e), (4, .d (.vs true []))], sH K S⟩) (by simp) ?_
  refine aw_seq_code (s' := ⟨mkE 31 [(0, .pv 0 0), (1, stA e), (4, .d (.vs true [])), (7, .pv 0 0), (8, .d (.bool true)), (9, .d (.bool false))], sH K S⟩) (by simp -implicitDefEqProofs [h1]) ?_
  refine aw_mask (s' := ⟨mkE 31 [(0, .pv 0 0), (1, stA e)], sH K S⟩) (by simp -implicitDefEqProofs) ?_
  refine aw_seq_code (s' := ⟨mkE 31 [(0, .pv 0 0), (1, stA e), (5, .d (.vs true []))], sH K S⟩) (by simp) ?_
  refine aw_seq_each (s1 := ⟨mkE 31 [(0, .pv 0 0), (1, stA e), (5, .d (.vs true [])), (10, .pv 0 0), (11, .pv 0 0), (12, .pv 0 1), (13, .map 2)], sH K S⟩) (l := 2) (ag := true) (ks := [.str, .str]) (es := S.map entA)
    (by simp [each_store_Store_Names_0]) (by simp [each_store_Store_Names_0]) (by simp) (by simp [itN, freshU, shut]) fun π hπ => ?_
  obtain ⟨S', hS', rfl⟩ := perm_map hπ
  have hlen : S'.length = S.length := hS'.length_eq
  obtain ⟨hf, hI⟩ := each_fold (X := X1) (e := each_store_Store_Names_0) (fun out => ⟨mkE 31 [(1, stA e), (5, .os 10000050 out.length 0 out.length), (14, .pa 9999 0 0 0)], [(9999, .fz 1 []), (10000050, .arr 1 (out.map stC))]⟩)
    (fun k out => out.length ≤ k) (namG e) (fun out => by simp [inLoop, each_store_Store_Names_0, itN, mkE_len]) (S'.map entA) 0
    { E := putE (mkE 31 [(0, .pv 0 0), (1, stA e), (5, .d (.vs true [])), (10, .pv 0 0), (11, .pv 0 0), (12, .pv 0 1), (13, .map 2)]) (some 14) (.pa 9999 0 0 0), H := hset (looseH 2 (sH K S)) 9999 (.fz 1 []) } []
    (fun i out p _ hi hp hI => by
      obtain ⟨c, hc, rfl⟩ := List.mem_map.1 hp
      simp at hi
      have g1 : out.length + 1 ≤ LIM := by unfold LIM; omega
      refine ⟨by have := namG_len e out (entA c); omega, ?_⟩
      by_cases hce : c.e = e
      · simp -implicitDefEqProofs [roundR, each_store_Store_Names_0, inLoop, itN, entA, namG, hce, g1, blkO, mkE_len]
      · simp -implicitDefEqProofs [roundR, each_store_Store_Names_0, inLoop, itN, entA, namG, hce, g1, blkO, mkE_len])
    (by simp -implicitDefEqProofs [each_store_Store_Names_0, looseH]) (Nat.le_refl _)
  rw [namG_fold] at hf hI
  simp only [List.nil_append] at hf hI
  have hperm : ((S'.filter fun c => c.e = e).map (·.n)).Perm ((S.filter fun c => c.e = e).map (·.n)) := (hS'.filter _).map _
  have hs := sortTx_perm hperm
  have hll : ((S'.filter fun c => c.e = e).map (·.n)).length ≤ LIM := by simp at hI ⊢; unfold LIM; omega
  generalize ((S'.filter fun c => c.e = e).map (·.n)) = out at *
  refine ⟨_, hf, ?_, ?_⟩
  · simp -implicitDefEqProofs [endR, each_store_Store_Names_0, highH]
    rw [tight_mkE _ rfl]
    simp [valsL, refsL, refs, refsO]
  · have hst := r1_SortTx out hll
    refine aw_code (e := .ret) (s' := ⟨mkE 31 [(4, .os 10000040 out.length 0 out.length)], sH K S ++ [(10000040, .arr 1 ((sortTx out).map stC))]⟩) (by
      simp -implicitDefEqProofs [endR, each_store_Store_Names_0, highH, callerH, hst]) ?_
    rw [← hs]
    have hl := sortTx_len out
    have ht : List.take out.length ((sortTx out).map stC) = (sortTx out).map stC := List.take_of_length_le (by simp [hl])
    simp -implicitDefEqProofs [rcode_store_Store_Names, hl, ht]
end Bz.S
