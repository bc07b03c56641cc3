/- What a store keeps is its own. -/
import Derived.Test.YtpopnggdnkfemaaSet
import Derived.Test.YtpopnggdnkfemaaTypV
import Derived.Test.YtpopnggdnkfemaaPlV
import Derived.KernelRfl
set_option linter.unusedSimpArgs false
set_option linter.unusedVariables false
namespace Bz.S
open Go Bz
set_option maxRecDepth 10000
set_option maxHeartbeats 4000000

theorem alive05k : R F_law05_alive [] [] = some (.d (.bool true), []) := RUN_run own retOwn ext code (k := 60) (by kernel_rfl)

theorem run_RisingO (l : List Txt) (hl : l.length ≤ BIG) : R F_plain_Rising [txS l] [] = some (.os 0 (setT l).length 0 (setT l).length, [(0, .arr 1 ((setT l).map stC))]) := by
  refine R_of at_plain_Rising (by decide) ?_
  unfold BIG at hl
  have inner : ∀ (i : Nat) (x : Txt) (out : List Txt), (hi : i < l.length) → l[i] = x → out.length ≤ l.length → ∀ s, trim mask_plain_Rising_0 s = ⟨mkE 55 [(0, txS l), (3, .os 10000030 out.length 0 out.length), (4, .d (.int .i64 i)), (5, .d (.int .i64 0))], [(10000030, .arr 1 (out.map stC))]⟩ →
      exL X (.loop mask_plain_Rising_0 body_plain_Rising_0) s = some (.exit 2, ⟨mkE 55 [(0, txS l), (3, .os 10000030 out.length 0 out.length), (4, .d (.int .i64 i)), (5, .d (.int .i64 (atR out x)))], [(10000030, .arr 1 (out.map stC))]⟩) := by
    intro i x out hi hx ho s hs
    have hL := loop_find (X := X) (mask := mask_plain_Rising_0) (body := body_plain_Rising_0) out
      (fun j => ⟨mkE 55 [(0, txS l), (3, .os 10000030 out.length 0 out.length), (4, .d (.int .i64 i)), (5, .d (.int .i64 j))], [(10000030, .arr 1 (out.map stC))]⟩)
      (fun _ y => !Op.bytesLess y x) (.exit 2, ⟨mkE 55 [(0, txS l), (3, .os 10000030 out.length 0 out.length), (4, .d (.int .i64 i)), (5, .d (.int .i64 out.length))], [(10000030, .arr 1 (out.map stC))]⟩)
      (fun j _ => (.exit 2, ⟨mkE 55 [(0, txS l), (3, .os 10000030 out.length 0 out.length), (4, .d (.int .i64 i)), (5, .d (.int .i64 j))], [(10000030, .arr 1 (out.map stC))]⟩)) (by simp) (by simp)
      (fun j y hj hy hq => by
        have hw := wrap_ok (a := (j : Int) + 1) (by omega) (by omega)
        have hq' : Op.bytesLess y x = true := by simpa using hq
        simp -implicitDefEqProofs [body_plain_Rising_0, mask_plain_Rising_0, hi, hx, hj, hy, hq', hw])
      (fun j y hj hy hq => by
        have hq' : Op.bytesLess y x = false := by simpa using hq
        simp -implicitDefEqProofs [body_plain_Rising_0, hi, hx, hj, hy, hq']) (by
        simp -implicitDefEqProofs [body_plain_Rising_0])
    rw [hL _ (by simpa using hs)]
    have h := takeW_idx (fun y => Op.bytesLess y x) out 0
    unfold atR
    rw [← h]
    cases findI (fun _ e => !Op.bytesLess e x) out 0 <;> simp
  have hL := loop_fold (X := X) (mask := mask_plain_Rising_1) (body := body_plain_Rising_1) l
    (fun i (out : List Txt) => ⟨mkE 55 [(0, txS l), (3, .os 10000030 out.length 0 out.length), (4, .d (.int .i64 i))], [(10000030, .arr 1 (out.map stC))]⟩)
    (fun i out => out.length ≤ i) (fun _ out x => insR out x)
    (fun out => (.exit 0, ⟨mkE 55 [(3, .os 10000030 out.length 0 out.length)], [(10000030, .arr 1 (out.map stC))]⟩)) (by simp)
    (fun i out x hi hx hI => by
      have hw := wrap_ok (a := (i : Int) + 1) (by omega) (by omega)
      have hin := run_plIn out x (by unfold BIG; omega)
      have hl' := insR_len out x
      refine ⟨by omega, ?_⟩
      by_cases hm : x ∈ out
      · have e : insR out x = out := by unfold insR; rw [if_pos hm]
        simp -implicitDefEqProofs [body_plain_Rising_1, mask_plain_Rising_1, hi, hx, hin, hm, hw, e]
      · have e := insR_at out x hm
        have ha := atR_le out x
        have hn := inner i x out hi hx (by omega)
        simp -implicitDefEqProofs [body_plain_Rising_1, mask_plain_Rising_1, hi, hx, hin, hm, hw]
        rw [hn _ (by simp [mask_plain_Rising_0])]
        have g1 : out.length + 1 ≤ LIM := by unfold LIM; omega
        have g2 : ((atR out x : Nat) : Int) ≤ (out.length : Int) := by omega
        by_cases h0 : atR out x = 0
        · have g3 : 1 ≤ LIM := by omega
          have g4 : 1 + out.length ≤ LIM := by omega
          simp -implicitDefEqProofs [h0, e, g1, g3, g4, hi, hx, hw, stC_eq, Nat.add_comm 1]
          exact ⟨_, _, ⟨rfl, rfl⟩, rfl, by simp -implicitDefEqProofs [txS]⟩
        · have g3 : atR out x ≤ LIM := by omega
          have g4 : ¬ out = [] := fun q => by subst q; exact h0 rfl
          have g5 : atR out x + 1 ≤ LIM := by omega
          have g6 : (atR out x + 1) + (out.length - atR out x) ≤ LIM := by omega
          have g7 : atR out x + 1 + (out.length - atR out x) = out.length + 1 := by omega
          have g8 : atR out x + (out.length - atR out x + 1) = out.length + 1 := by omega
          simp -implicitDefEqProofs [h0, ha, e, g1, g2, g3, g4, g5, g6, hi, hx, hw, g7, g8, stC_eq]
          exact ⟨_, _, ⟨rfl, rfl⟩, rfl, by simp -implicitDefEqProofs [txS]⟩) (fun out hI => by
      simp -implicitDefEqProofs [body_plain_Rising_1]) [] (Nat.le_refl _)
  have hf : foldI (fun _ out x => insR out x) l 0 [] = setT l := by
    rw [← rising_set]
    have : ∀ (l : List Txt) (i : Nat) (a : List Txt), foldI (fun _ out x => insR out x) l i a = l.foldl insR a := by
      intro l
      induction l with
      | nil => intro i a; rfl
      | cons x r ih => intro i a; rw [foldI_cons, ih]; rfl
    exact this l 0 []
  rw [hf] at hL
  simp -implicitDefEqProofs [code_plain_Rising]
  rw [hL _ (by simp -implicitDefEqProofs [mask_plain_Rising_1])]
  simp -implicitDefEqProofs

@[simp] theorem bothK_same2 (e : AExit) (E : List AV) (l sz m sy : Nat) (es et : List (List D)) : bothK (some (e, ⟨E, [(l, .arr sz es), (m, .arr sy et)]⟩)) (some (e, ⟨E, [(l, .arr sz es), (m, .arr sy et)]⟩)) = some (e, ⟨E, [(l, .arr sz es), (m, .arr sy et)]⟩) := by
  simp [bothK, eqR, eqAs_self, eqH, eqO, eqDss_self]
theorem run_CloneH (l : List Txt) (hl : l.length ≤ LIM) : R F_slices_Clone_string_string [.os 0 l.length 0 l.length] [(0, .arr 1 (l.map stC))] = some (.os 1 l.length 0 l.length, [(0, .arr 1 (l.map stC)), (1, .arr 1 (l.map stC))]) := by
  refine R_of at_slices_Clone_string_string (by decide) ?_
  cases l with
  | nil => simp -implicitDefEqProofs [code_slices_Clone_string_string]
  | cons v r =>
    simp at hl
    simp -implicitDefEqProofs [code_slices_Clone_string_string, hl]
theorem run_CloneD (l : List Txt) (hl : l.length ≤ LIM) : R F_slices_Clone_string_string [txS l] [] = some (.os 0 l.length 0 l.length, [(0, .arr 1 (l.map stC))]) := by
  refine R_of at_slices_Clone_string_string (by decide) ?_
  cases l with
  | nil => simp -implicitDefEqProofs [code_slices_Clone_string_string]
  | cons v r =>
    simp at hl
    simp -implicitDefEqProofs [code_slices_Clone_string_string, hl, txS]
theorem run_ownH (k n : Int) (s : Txt) (l : List Txt) (hl : l.length ≤ LIM) : R F_store_own [.agg [.d (.int .i64 k), .d (.int .i64 n), .d (.str s), .os 0 l.length 0 l.length]] [(0, .arr 1 (l.map stC))] =
    some (.agg [.d (.int .i64 k), .d (.int .i64 n), .d (.str s), .os 1 l.length 0 l.length], [(0, .arr 1 (l.map stC)), (1, .arr 1 (l.map stC))]) := by
  refine R_of at_store_own (by decide) ?_
  have h := run_CloneH l hl
  simp -implicitDefEqProofs [code_store_own, h]
theorem run_ownD (v : Va) (hl : v.l.length ≤ LIM) : R F_store_own [vaA v] [] =
    some (.agg [.d (.int .i64 v.kind), .d (.int .i64 v.n), .d (.str v.s), .os 0 v.l.length 0 v.l.length], [(0, .arr 1 (v.l.map stC))]) := by
  refine R_of at_store_own (by decide) ?_
  have h := run_CloneD v.l hl
  simp -implicitDefEqProofs [code_store_own, h]

abbrev stH (n : Txt) (S : List (AV × AV)) : Heap := [(0, .var [.map 1, .map 2]), (1, .mp false [.str] [(.d (.str n), .d (.int .i64 4))]), (2, .mp true [.str, .str] S)]
theorem run_New1 (n : Txt) : R F_store_New [.d (.vs false [[.str n, .int .i64 4]])] [] = some (.pv 0 0, stH n []) := by
  refine R_of at_store_New (by decide) ?_
  obtain ⟨r, rfl, hL⟩ := loop_upto (X := X) (mask := mask_store_New_0) (body := body_store_New_0) (σ := Unit) 1
    (fun i _ => ⟨mkE 50 [(3, .pv 20030 0), (12, .d (.vs false [[.str n, .int .i64 4]])), (13, .d (.int .i64 1)), (14, .d (.int .i64 i))], [(20000, .mp false [.str] (if i = 0 then [] else [(.d (.str n), .d (.int .i64 4))])), (20010, .mp true [.str, .str] []), (20030, .var [.map 20000, .map 20010])]⟩)
    (fun _ _ => True) (fun r => r = (.exit 0, ⟨mkE 50 [(3, .pv 20030 0)], [(20000, .mp false [.str] [(.d (.str n), .d (.int .i64 4))]), (20010, .mp true [.str, .str] []), (20030, .var [.map 20000, .map 20010])]⟩))
    (fun i _ hi _ => by
      have : i = 0 := by omega
      subst this
      have hw := wrap_ok (a := (1 : Int)) (by omega) (by omega)
      refine .inl ⟨(), trivial, ?_⟩
      simp -implicitDefEqProofs [body_store_New_0, mask_store_New_0, hw])
    (fun _ _ => by
      refine ⟨_, ?_, ?_, rfl⟩
      · simp -implicitDefEqProofs [body_store_New_0]
      · simp) () trivial
  simp -implicitDefEqProofs [code_store_New]
  rw [hL _ (by simp -implicitDefEqProofs [mask_store_New_0])]
  simp -implicitDefEqProofs
theorem k_is (n : Txt) (S : List (AV × AV)) : R F_store_Store_is [.pv 0 0] (stH n S) = some (.d (.bool true), stH n S) := by
  refine R_of at_store_Store_is (by decide) ?_
  simp -implicitDefEqProofs [code_store_Store_is]
theorem k_Kind (n : Txt) (S : List (AV × AV)) : R F_store_Store_Kind [.pv 0 0, stA n] (stH n S) = some (.d (.int .i64 4), stH n S) := by
  refine R_of at_store_Store_Kind (by decide) ?_
  have h := k_is n S
  simp -implicitDefEqProofs [code_store_Store_Kind, h]

abbrev entK (e n : Txt) (l : List Txt) : List (AV × AV) := [(.agg [.d (.str e), .d (.str n)], .agg [.d (.int .i64 4), .d (.int .i64 0), .d (.str []), txS l])]
theorem k_Set (e n : Txt) (l : List Txt) (hl : l.length ≤ LIM) (c : Int) (hc : R F_value_Check [.agg [.d (.int .i64 4), .d (.int .i64 0), .d (.str []), txS l]] [] = some (.d (.int .i64 c), [])) :
    R F_store_Store_Set [.pv 0 0, stA e, stA n, .agg [.d (.int .i64 4), .d (.int .i64 0), .d (.str []), .os 3 l.length 0 l.length]] (stH n [] ++ [(3, .arr 1 (l.map stC))]) =
      some (.d (.int .i64 c), stH n (if c = 0 then entK e n l else []) ++ [(3, .arr 1 (l.map stC))]) := by
  refine R_of at_store_Store_Set (by decide) ?_
  have h1 := k_is n []
  have h2 := k_Kind n []
  have h3 := run_ownH 4 0 [] l hl
  by_cases h0 : c = 0
  · subst h0
    simp -implicitDefEqProofs [code_store_Store_Set, h1, h2, h3, hc]
  · simp -implicitDefEqProofs [code_store_Store_Set, h1, h2, h3, hc, h0]
theorem k_Get (e n : Txt) (l : List Txt) (hl : l.length ≤ LIM) : R F_store_Store_Get [.pv 0 0, stA e, stA n] (stH n (entK e n l)) =
    some (.tup [.agg [.d (.int .i64 4), .d (.int .i64 0), .d (.str []), .os 3 l.length 0 l.length], .d (.bool true)], stH n (entK e n l) ++ [(3, .arr 1 (l.map stC))]) := by
  refine R_of at_store_Store_Get (by decide) ?_
  have h2 := k_Kind n (entK e n l)
  have h3 := run_ownD ⟨4, 0, [], l⟩ hl
  simp -implicitDefEqProofs [code_store_Store_Get, h2, h3]

theorem run_05long (l : List Txt) (hl : l.length ≤ BIG) (hs : ∀ s ∈ l, s.length ≤ LIM) : R F_law05_long [txS l] [] = some (.d (.bool (l.any longS)), []) := by
  refine R_of at_law05_long (by decide) ?_
  unfold BIG at hl
  have hL := loop_find (X := X) (mask := mask_law05_long_0) (body := body_law05_long_0) l
    (fun i => ⟨mkE 16 [(0, txS l), (3, .d (.int .i64 i))], []⟩)
    (fun _ => longS) (.exit 0, ⟨mkE 16 [], []⟩) (fun _ _ => (.ret, ⟨mkE 16 [(2, .d (.bool true))], []⟩)) (by simp) (by simp)
    (fun i x hi hx hq => by
      have hw := wrap_ok (a := (i : Int) + 1) (by omega) (by omega)
      have h1 := hs x (hx ▸ List.getElem_mem hi)
      unfold longS at hq
      have h2 : ¬ (32 : Int) < x.length := by simp at hq; omega
      simp -implicitDefEqProofs [body_law05_long_0, mask_law05_long_0, hi, hx, stC_eq, h1, h2, hw])
    (fun i x hi hx hq => by
      have h1 := hs x (hx ▸ List.getElem_mem hi)
      unfold longS at hq
      have h2 : (32 : Int) < x.length := by simp at hq; omega
      simp -implicitDefEqProofs [body_law05_long_0, hi, hx, stC_eq, h1, h2]) (by simp -implicitDefEqProofs [body_law05_long_0])
  have ha := findI_any longS l 0
  simp -implicitDefEqProofs [code_law05_long]
  rw [hL _ (by simp -implicitDefEqProofs [mask_law05_long_0])]
  rw [← ha]
  cases hF : findI (fun _ => longS) l 0 <;> simp -implicitDefEqProofs

theorem run_StoreKeeps (e n : Txt) (l : List Txt) (hb0 : bulkL [.str e] + (bulkL [.str n] + bulkL [.vs false (l.map stC)]) ≤ 1048576) : R F_law05_StoreKeeps [stA e, stA n, txS l] [] = some (.d (.bool true), []) := by
  refine R_of at_law05_StoreKeeps (by decide) ?_
  have hbl : l.length ≤ bulkLL (l.map stC) ∧ ∀ s ∈ l, s.length ≤ bulkLL (l.map stC) := by
    clear hb0
    induction l with
    | nil => simp
    | cons x r ih =>
      obtain ⟨h1, h2⟩ := ih
      simp only [List.map_cons, List.length_cons, bulkLL, stC, bulkL, bulkD] at *
      refine ⟨by omega, fun s hs => ?_⟩
      rcases List.mem_cons.1 hs with rfl | hs
      · omega
      · have := h2 s hs; omega
  simp only [bulkL, bulkD] at hb0
  have hR := run_RisingO l (by unfold BIG; omega)
  have hwl := setT_len l
  have hws : ∀ s ∈ setT l, s.length ≤ LIM := fun s hs => by have := hbl.2 s (setT_mem.1 hs); unfold LIM; omega
  have hrise : rise (setT l) = true := by
    rw [rise_iff]
    intro i a b ha hb
    have hu := setT_up l
    unfold UpS at hu
    rw [List.pairwise_iff_getElem] at hu
    obtain ⟨i1, e1⟩ := List.getElem?_eq_some_iff.1 ha
    obtain ⟨i2, e2⟩ := List.getElem?_eq_some_iff.1 hb
    have := hu i (i + 1) i1 i2 (by omega)
    rw [e1, e2] at this
    exact this
  have hk : (setT l).length ≤ 1048576 := by omega
  generalize setT l = w at *
  have hkL : w.length ≤ LIM := by unfold LIM; omega
  have hkB : w.length ≤ BIG := by unfold BIG; omega
  have hN := run_New1 n
  have hC := run_vaCheck ⟨4, 0, [], w⟩ ⟨by simp [LIM], hkB, hws⟩
  have hlg := run_05long w hkB hws
  have hS := k_Set e n w hkL _ hC
  have hG := k_Get e n w hkL
  have hP := run_plTexts w w hkB hkB
  simp only [decide_true] at hP
  simp -implicitDefEqProofs only [stH, List.cons_append, List.nil_append] at hS hG hN
  have h0 : vaCheck ⟨4, 0, [], w⟩ = 0 ∨ (8 < w.length ∨ w.any longS = true) ∧ ¬ vaCheck ⟨4, 0, [], w⟩ = 0 := by
    unfold vaCheck oddVa
    simp [hrise]
    grind [longS]
  rcases h0 with h0 | ⟨hor, h0⟩
  · rw [h0] at hS
    simp only [if_true] at hS
    have hL0 := loop_fold (X := X) (mask := mask_law05_StoreKeeps_0) (body := body_law05_StoreKeeps_0) w
      (fun i (a : List Txt) => ⟨mkE 90 [(0, stA e), (1, stA n), (7, .pv 40030 0), (8, .pv 50030 0), (9, .os 10000090 w.length 0 w.length), (10, .d (.int .i64 i))], [(40010, .arr 1 (a.map stC)), (40030, .var [.d (.int .i64 4), .d (.int .i64 0), .d (.str []), .os 40010 w.length 0 w.length]), (50030, .var [.map 50031, .map 50032]), (50031, .mp false [.str] [(.d (.str n), .d (.int .i64 4))]), (50032, .mp true [.str, .str] (entK e n w)), (10000090, .arr 1 (w.map stC))]⟩)
      (fun _ a => a.length = w.length) (fun i a _ => a.set i [45])
      (fun a => (.exit 0, ⟨mkE 90 [(0, stA e), (1, stA n), (8, .pv 50030 0), (9, .os 10000090 w.length 0 w.length)], [(50030, .var [.map 50031, .map 50032]), (50031, .mp false [.str] [(.d (.str n), .d (.int .i64 4))]), (50032, .mp true [.str, .str] (entK e n w)), (10000090, .arr 1 (w.map stC))]⟩)) (by simp)
      (fun i a x hi hx hI => by
        have hw := wrap_ok (a := (i : Int) + 1) (by omega) (by omega)
        have hia : i < a.length := by omega
        refine ⟨by simpa using hI, ?_⟩
        simp -implicitDefEqProofs [body_law05_StoreKeeps_0, mask_law05_StoreKeeps_0, hi, hI, hia, hw, stC_eq]) (fun a hI => by
        simp -implicitDefEqProofs [body_law05_StoreKeeps_0, hI]) w rfl
    have hL1 := loop_fold (X := X) (mask := mask_law05_StoreKeeps_1) (body := body_law05_StoreKeeps_1) w
      (fun i (a : List Txt) => ⟨mkE 90 [(0, stA e), (1, stA n), (8, .pv 50030 0), (9, .os 10000090 w.length 0 w.length), (11, .pv 130070 0), (13, .d (.int .i64 i))], [(50030, .var [.map 50031, .map 50032]), (50031, .mp false [.str] [(.d (.str n), .d (.int .i64 4))]), (50032, .mp true [.str, .str] (entK e n w)), (130030, .arr 1 (a.map stC)), (130070, .var [.d (.int .i64 4), .d (.int .i64 0), .d (.str []), .os 130030 w.length 0 w.length]), (10000090, .arr 1 (w.map stC))]⟩)
      (fun _ a => a.length = w.length) (fun i a _ => a.set i [43])
      (fun a => (.exit 2, ⟨mkE 90 [(0, stA e), (1, stA n), (8, .pv 50030 0), (9, .os 10000090 w.length 0 w.length)], [(50030, .var [.map 50031, .map 50032]), (50031, .mp false [.str] [(.d (.str n), .d (.int .i64 4))]), (50032, .mp true [.str, .str] (entK e n w)), (10000090, .arr 1 (w.map stC))]⟩)) (by simp)
      (fun i a x hi hx hI => by
        have hw := wrap_ok (a := (i : Int) + 1) (by omega) (by omega)
        have hia : i < a.length := by omega
        refine ⟨by simpa using hI, ?_⟩
        simp -implicitDefEqProofs [body_law05_StoreKeeps_1, mask_law05_StoreKeeps_1, hi, hI, hia, hw, stC_eq]) (fun a hI => by
        simp -implicitDefEqProofs [body_law05_StoreKeeps_1, hI]) w rfl
    simp -implicitDefEqProofs [code_law05_StoreKeeps, alive05k, hR, hN, hS, hkL]
    rw [hL0 _ (by simp -implicitDefEqProofs [mask_law05_StoreKeeps_0])]
    simp -implicitDefEqProofs [hG, hP]
    rw [hL1 _ (by simp -implicitDefEqProofs [mask_law05_StoreKeeps_1])]
    simp -implicitDefEqProofs [hG, hP]
  · generalize vaCheck ⟨4, 0, [], w⟩ = c at *
    simp only [h0, if_false] at hS
    rcases hor with h8 | h8
    · have h8' : (8 : Int) < w.length := by omega
      simp -implicitDefEqProofs [code_law05_StoreKeeps, alive05k, hR, hN, hS, h0, h8', hlg, hkL]
    · rw [h8] at hlg
      by_cases h9 : (8 : Int) < w.length
      · simp -implicitDefEqProofs [code_law05_StoreKeeps, alive05k, hR, hN, hS, h0, h9, hlg, hkL]
      · simp -implicitDefEqProofs [code_law05_StoreKeeps, alive05k, hR, hN, hS, h0, h9, hlg, hkL]
end Bz.S
