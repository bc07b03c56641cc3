/- Tables as octets: the program's package pack, walked. -/
import Derived.Test.YtfhkjoebkiigoaaPackP
import Derived.Test.YtfhkjoebkiigoaaOut0
set_option linter.unusedSimpArgs false
set_option linter.unusedVariables false
namespace Bz.S
open Go Bz
set_option maxRecDepth 10000
set_option maxHeartbeats 4000000

/-! ### put -/
theorem run_OutIntOk14 (b : Txt) (n : Int) (hl : b.length + 8 ≤ LIM) : R F_octet_Out_Int [.pv 0 0, .d (.int .i64 n)] (owH ⟨b, 0⟩) = some (.tup [], owH ⟨b ++ n8 n, 0⟩) := by
  have h := run_OutInt ⟨b, 0⟩ n hl
  simp only [owInt, if_true] at h
  exact h
theorem run_DoneOk14 (b : Txt) (hl : b.length ≤ LIM) : R F_octet_Out_Done [.pv 0 0] (owH ⟨b, 0⟩) = some (.tup [byS b, .d (.int .i64 0)], owH ⟨b, 0⟩) := by
  have h := run_Done ⟨b, 0⟩ hl
  simp only [owDone, if_true] at h
  exact h
theorem flat_tx : ∀ (m : List Txt), (∀ t ∈ m, t.length ≤ 255) → (m.flatMap txB).length ≤ 256 * m.length
  | [], _ => by simp
  | t :: r, h => by
    have h1 := flat_tx r fun t ht => h t (by simp [ht])
    have h2 := h t (by simp)
    simp only [List.flatMap_cons, List.length_append, txB, List.length_cons] at h1 ⊢
    omega
theorem rwB_len {r : Rw} (h : RwPut r) : (rwB r).length ≤ 70000 := by
  have h1 := flat_tx r.set h.st.2
  have h2 := h.st.1
  have h3 := h.kd.1
  have h4 := h.s
  have e1 : ∀ n, (n8 n).length = 8 := fun _ => rfl
  simp only [rwB, txB, List.length_cons, List.length_append, List.length_map, e1]
  omega

theorem run_packrow (b : Txt) (r : Rw) (h : RwPut r) (hb : b.length ≤ 100000000) : R F_pack_row [.pv 0 0, rwA r] (owH ⟨b, 0⟩) = some (.tup [], owH ⟨b ++ rwB r, 0⟩) := by
  refine R_of at_pack_row (by decide) ?_
  have hft := flat_tx r.set h.st.2
  obtain ⟨k, s, n, lo, hi, st, kd⟩ := r
  obtain ⟨hk, hs, hn, hlo, hhi, hst, hkd⟩ := h
  simp only at hk hs hn hlo hhi hst hkd hft
  have e1 : ∀ n, (n8 n).length = 8 := fun _ => rfl
  have hLIM : (200000000 : Nat) ≤ LIM := by unfold LIM; omega
  have t1 := run_OutByteOk b k hk.1 hk.2 (by omega)
  have l1 : (b ++ [toB k]).length ≤ 100000001 := by simp; omega
  generalize hb1 : b ++ [toB k] = b1 at t1 l1
  have t2 := run_OutTextOk b1 s hs (by omega)
  have l2 : (b1 ++ txB s).length ≤ 100000301 := by simp [txB]; omega
  generalize hb2 : b1 ++ txB s = b2 at t2 l2
  have t3 := run_OutIntOk14 b2 n (by omega)
  have l3 : (b2 ++ n8 n).length ≤ 100000309 := by simp [e1]; omega
  generalize hb3 : b2 ++ n8 n = b3 at t3 l3
  have t4 := run_OutIntOk14 b3 lo (by omega)
  have l4 : (b3 ++ n8 lo).length ≤ 100000317 := by simp [e1]; omega
  generalize hb4 : b3 ++ n8 lo = b4 at t4 l4
  have t5 := run_OutIntOk14 b4 hi (by omega)
  have l5 : (b4 ++ n8 hi).length ≤ 100000325 := by simp [e1]; omega
  generalize hb5 : b4 ++ n8 hi = b5 at t5 l5
  have t6 := run_OutByteOk b5 st.length (by omega) (by omega) (by omega)
  have l6 : (b5 ++ [toB st.length]).length ≤ 100000326 := by simp; omega
  generalize hb6 : b5 ++ [toB st.length] = b6 at t6 l6
  have hL0 := loop_fold (X := X) (mask := mask_pack_row_0) (body := body_pack_row_0) st
    (fun i (c : Txt) => ⟨mkE 60 [(0, .pv 0 0), (3, .pv 10000 0), (34, sxS st), (35, .d (.int .i64 st.length)), (36, .d (.int .i64 i))], [(0, .var [.os 1 c.length 0 c.length, .d (.int .i64 0)]), (1, .arr 1 (c.map byC)), (10000, .var [.d (.int .i64 k), .d (.str s), .d (.int .i64 n), .d (.int .i64 lo), .d (.int .i64 hi), sxS st, i6S kd])]⟩)
    (fun i c => c.length ≤ 100000326 + 256 * i) (fun _ c t => c ++ txB t)
    (fun c => (.exit 0, ⟨mkE 60 [(0, .pv 0 0), (3, .pv 10000 0)], [(0, .var [.os 1 c.length 0 c.length, .d (.int .i64 0)]), (1, .arr 1 (c.map byC)), (10000, .var [.d (.int .i64 k), .d (.str s), .d (.int .i64 n), .d (.int .i64 lo), .d (.int .i64 hi), sxS st, i6S kd])]⟩)) (by simp)
    (fun i c t hi' ht hI => by
      have hw := wrap_ok (a := (i : Int) + 1) (by omega) (by omega)
      have htl := hst.2 t (ht ▸ List.getElem_mem hi')
      have h2 := run_OutTextOk c t htl (by omega)
      simp -implicitDefEqProofs [owH] at h2
      refine ⟨by simp [txB]; omega, ?_⟩
      simp -implicitDefEqProofs [body_pack_row_0, mask_pack_row_0, hi', ht, h2, hw]) (fun c _ => by simp -implicitDefEqProofs [body_pack_row_0]) b6 (by omega)
  have hf0 : ∀ (l : List Txt) (i : Nat) (c : Txt), foldI (fun _ (c : Txt) t => c ++ txB t) l i c = c ++ l.flatMap txB := by
    intro l
    induction l with
    | nil => intro i c; simp
    | cons t r ih => intro i c; rw [foldI_cons, ih]; simp
  rw [hf0] at hL0
  have l7 : (b6 ++ st.flatMap txB).length ≤ 100070000 := by simp only [List.length_append]; omega
  generalize hb7 : b6 ++ st.flatMap txB = b7 at hL0 l7
  have t8 := run_OutByteOk b7 kd.length (by omega) (by omega) (by omega)
  have l8 : (b7 ++ [toB kd.length]).length ≤ 100070001 := by simp; omega
  generalize hb8 : b7 ++ [toB kd.length] = b8 at t8 l8
  have hL1 := loop_fold (X := X) (mask := mask_pack_row_1) (body := body_pack_row_1) kd
    (fun i (c : Txt) => ⟨mkE 60 [(0, .pv 0 0), (50, i6S kd), (51, .d (.int .i64 kd.length)), (52, .d (.int .i64 i))], owH ⟨c, 0⟩⟩)
    (fun i c => c.length ≤ 100070001 + i) (fun _ c t => c ++ [toB t])
    (fun c => (.exit 2, ⟨mkE 60 [], owH ⟨c, 0⟩⟩)) (by simp)
    (fun i c t hi' ht hI => by
      have hw := wrap_ok (a := (i : Int) + 1) (by omega) (by omega)
      have htl := hkd.2 t (ht ▸ List.getElem_mem hi')
      have h2 := run_OutByteOk c t htl.1 htl.2 (by omega)
      simp -implicitDefEqProofs [owH] at h2
      refine ⟨by simp; omega, ?_⟩
      simp -implicitDefEqProofs [body_pack_row_1, mask_pack_row_1, hi', ht, h2, hw]) (fun c _ => by simp -implicitDefEqProofs [body_pack_row_1]) b8 (by omega)
  have hf1 : ∀ (l : List Int) (i : Nat) (c : Txt), foldI (fun _ (c : Txt) t => c ++ [toB t]) l i c = c ++ l.map toB := by
    intro l
    induction l with
    | nil => intro i c; simp
    | cons t r ih => intro i c; rw [foldI_cons, ih]; simp
  rw [hf1] at hL1
  have hfin : b ++ rwB ⟨k, s, n, lo, hi, st, kd⟩ = b8 ++ kd.map toB := by
    rw [← hb8, ← hb7, ← hb6, ← hb5, ← hb4, ← hb3, ← hb2, ← hb1]
    simp [rwB]
  rw [hfin]
  generalize b8 ++ kd.map toB = b9 at *
  simp -implicitDefEqProofs [owH] at t1 t2 t3 t4 t5 t6 t8
  simp -implicitDefEqProofs [code_pack_row, t1, t2, t3, t4, t5, t6]
  rw [hL0 _ (by simp -implicitDefEqProofs [mask_pack_row_0])]
  simp -implicitDefEqProofs [t8]
  rw [hL1 _ (by simp -implicitDefEqProofs [mask_pack_row_1])]
  simp -implicitDefEqProofs

theorem run_packPut (l : List Rw) (hT : TabB l) (hp : (tabBack l).2 = 0 → l.length ≤ 64 ∧ 1 ≤ l.length ∧ ∀ r ∈ l, RwPut r) : R F_pack_Put [rwS l] [] = some (.tup [byS (if (tabBack l).2 = 0 then octB l else []), .d (.int .i64 (tabBack l).2)], []) := by
  refine R_of at_pack_Put (by decide) ?_
  have hc := run_tabCheck l hT
  generalize (tabBack l).2 = C at *
  by_cases hz : C = 0
  · obtain ⟨h64, h1, hrp⟩ := hp hz
    subst hz
    have t1 := run_OutByteZ l.length (by omega) (by omega)
    have hL := loop_fold (X := X) (mask := mask_pack_Put_0) (body := body_pack_Put_0) l
      (fun i (c : Txt) => ⟨mkE 33 [(5, .pv 50010 0), (19, rwS l), (20, .d (.int .i64 l.length)), (21, .d (.int .i64 i))], [(50010, .var [.os 60030 c.length 0 c.length, .d (.int .i64 0)]), (60030, .arr 1 (c.map byC))]⟩)
      (fun i c => c.length ≤ 1 + 70000 * i) (fun _ c r => c ++ rwB r)
      (fun c => (.exit 0, ⟨mkE 33 [(5, .pv 50010 0)], [(50010, .var [.os 60030 c.length 0 c.length, .d (.int .i64 0)]), (60030, .arr 1 (c.map byC))]⟩)) (by simp)
      (fun i c r hi hr hI => by
        have hw := wrap_ok (a := (i : Int) + 1) (by omega) (by omega)
        have hrq := hrp r (hr ▸ List.getElem_mem hi)
        have h2 := run_packrow c r hrq (by omega)
        have h3 := rwB_len hrq
        refine ⟨by simp; omega, ?_⟩
        generalize hcd : c ++ rwB r = d at h2 ⊢
        simp -implicitDefEqProofs [owH] at h2
        simp -implicitDefEqProofs [body_pack_Put_0, mask_pack_Put_0, hi, hr, h2, hw]) (fun c _ => by simp -implicitDefEqProofs [body_pack_Put_0]) [toB l.length] (by simp)
    have hf : ∀ (m : List Rw) (i : Nat) (c : Txt), foldI (fun _ (c : Txt) r => c ++ rwB r) m i c = c ++ m.flatMap rwB := by
      intro m
      induction m with
      | nil => intro i c; simp
      | cons t r ih => intro i c; rw [foldI_cons, ih]; simp
    rw [hf] at hL
    have e : [toB (l.length : Int)] ++ l.flatMap rwB = octB l := rfl
    rw [e] at hL
    have hlen : (octB l).length ≤ LIM := by
      have : ∀ m : List Rw, (∀ r ∈ m, RwPut r) → (m.flatMap rwB).length ≤ 70000 * m.length := by
        intro m
        induction m with
        | nil => intro _; simp
        | cons r q ih =>
          intro h
          have h1 := ih fun r hr => h r (by simp [hr])
          have h2 := rwB_len (h r (by simp))
          simp only [List.flatMap_cons, List.length_append, List.length_cons]
          omega
      have := this l hrp
      unfold octB LIM
      simp only [List.length_cons]
      omega
    have t9 := run_DoneOk14 (octB l) hlen
    generalize octB l = B at *
    simp -implicitDefEqProofs [owH] at t1 t9
    simp -implicitDefEqProofs [code_pack_Put, hc, t1]
    rw [hL _ (by simp -implicitDefEqProofs [mask_pack_Put_0])]
    simp -implicitDefEqProofs [t9]
  · simp -implicitDefEqProofs [code_pack_Put, hc, hz]

/-! ### read -/
theorem run_packget (r : Option Txt) : R F_pack_get [.pv 0 0] [(0, inW r)] = some (rwA (getRw r).1, [(0, inW (getRw r).2)]) := by
  refine R_of at_pack_get (by decide) ?_
  have g1 := runw_Byte r
  simp only [getRw]
  generalize inByte r = v1 at *
  have g2 := runw_Text v1.2
  generalize inText v1.2 = v2 at *
  have g3 := runw_Int v2.2
  generalize inInt v2.2 = v3 at *
  have g4 := runw_Int v3.2
  generalize inInt v3.2 = v4 at *
  have g5 := runw_Int v4.2
  generalize inInt v4.2 = v5 at *
  have g6 := runw_Byte v5.2
  have b6 := inByte_lo v5.2
  generalize inByte v5.2 = v6 at *
  obtain ⟨n6, r6⟩ := v6
  simp only at b6 g6 ⊢
  obtain ⟨m, rfl⟩ : ∃ m : Nat, n6 = m := ⟨n6.toNat, by omega⟩
  simp only [Int.toNat_natCast]
  have hL0 := loop_fold (X := X) (mask := mask_pack_get_0) (body := body_pack_get_0) (List.replicate m ())
    (fun i (a : List Txt × Option Txt) => ⟨mkE 40 [(0, .pv 0 0), (2, .pv 10000 0), (3, .pv 20110 0), (16, .d (.int .i64 m)), (17, .d (.int .i64 i))],
      [(0, inW a.2), (10000, .var [.d (.int .i64 0), .d (.str []), .d (.int .i64 0), .d (.int .i64 0), .d (.int .i64 0), .d (.vs true []), .d (.vs true [])]),
       (20110, .var [.d (.int .i64 v1.1), .d (.str v2.1), .d (.int .i64 v3.1), .d (.int .i64 v4.1), .d (.int .i64 v5.1), .os 22011050 a.1.length 0 a.1.length, .os 22011060 0 0 0]), (22011050, .arr 1 (a.1.map sxC)), (22011060, .arr 1 [])]⟩)
    (fun i a => a.1.length = i) (fun _ a _ => (a.1 ++ [(inText a.2).1], (inText a.2).2))
    (fun a => (.exit 0, ⟨mkE 40 [(0, .pv 0 0), (2, .pv 10000 0), (3, .pv 20110 0)],
      [(0, inW a.2), (10000, .var [.d (.int .i64 0), .d (.str []), .d (.int .i64 0), .d (.int .i64 0), .d (.int .i64 0), .d (.vs true []), .d (.vs true [])]),
       (20110, .var [.d (.int .i64 v1.1), .d (.str v2.1), .d (.int .i64 v3.1), .d (.int .i64 v4.1), .d (.int .i64 v5.1), .os 22011050 a.1.length 0 a.1.length, .os 22011060 0 0 0]), (22011050, .arr 1 (a.1.map sxC)), (22011060, .arr 1 [])]⟩)) (by simp)
    (fun i a _ hi _ hI => by
      obtain ⟨l, r2⟩ := a
      simp only at hI
      have hi' : i < m := by simpa using hi
      have h2 := runw_Text r2
      have hw := wrap_ok (a := (i : Int) + 1) (by omega) (by omega)
      have hll : l.length + 1 ≤ LIM := by unfold LIM; omega
      refine ⟨by simp [hI], ?_⟩
      simp -implicitDefEqProofs [body_pack_get_0, mask_pack_get_0, hi', h2, hw, hll])
    (fun a _ => by simp -implicitDefEqProofs [body_pack_get_0]) ([], r6) (by simp)
  have hf0 : ∀ (n i : Nat) (l : List Txt) (r : Option Txt), foldI (fun _ (a : List Txt × Option Txt) (_ : Unit) => (a.1 ++ [(inText a.2).1], (inText a.2).2)) (List.replicate n ()) i (l, r) = (l ++ (inTexts n r).1, (inTexts n r).2) := by
    intro n
    induction n with
    | zero => intro i l r; simp [inTexts]
    | succ n ih => intro i l r; rw [List.replicate_succ, foldI_cons, ih]; simp [inTexts]
  rw [hf0, List.nil_append] at hL0
  generalize inTexts m r6 = v7 at *
  have g8 := runw_Byte v7.2
  have b8 := inByte_lo v7.2
  generalize inByte v7.2 = v8 at *
  obtain ⟨n8', r8⟩ := v8
  simp only at b8 g8 ⊢
  obtain ⟨k, rfl⟩ : ∃ k : Nat, n8' = k := ⟨n8'.toNat, by omega⟩
  simp only [Int.toNat_natCast]
  have hL1 := loop_fold (X := X) (mask := mask_pack_get_1) (body := body_pack_get_1) (List.replicate k ())
    (fun i (a : List Int × Option Txt) => ⟨mkE 40 [(0, .pv 0 0), (2, .pv 10000 0), (3, .pv 20110 0), (28, .d (.int .i64 k)), (29, .d (.int .i64 i))],
      [(0, inW a.2), (10000, .var [.d (.int .i64 0), .d (.str []), .d (.int .i64 0), .d (.int .i64 0), .d (.int .i64 0), .d (.vs true []), .d (.vs true [])]),
       (20110, .var [.d (.int .i64 v1.1), .d (.str v2.1), .d (.int .i64 v3.1), .d (.int .i64 v4.1), .d (.int .i64 v5.1), .os 22011050 v7.1.length 0 v7.1.length, .os 22011060 a.1.length 0 a.1.length]), (22011050, .arr 1 (v7.1.map sxC)), (22011060, .arr 1 (a.1.map i6C))]⟩)
    (fun i a => a.1.length = i) (fun _ a _ => (a.1 ++ [(inByte a.2).1], (inByte a.2).2))
    (fun a => (.exit 2, ⟨mkE 40 [(2, .pv 10000 0), (3, .pv 20110 0)],
      [(0, inW a.2), (10000, .var [.d (.int .i64 0), .d (.str []), .d (.int .i64 0), .d (.int .i64 0), .d (.int .i64 0), .d (.vs true []), .d (.vs true [])]),
       (20110, .var [.d (.int .i64 v1.1), .d (.str v2.1), .d (.int .i64 v3.1), .d (.int .i64 v4.1), .d (.int .i64 v5.1), .os 22011050 v7.1.length 0 v7.1.length, .os 22011060 a.1.length 0 a.1.length]), (22011050, .arr 1 (v7.1.map sxC)), (22011060, .arr 1 (a.1.map i6C))]⟩)) (by simp)
    (fun i a _ hi _ hI => by
      obtain ⟨l, r2⟩ := a
      simp only at hI
      have hi' : i < k := by simpa using hi
      have h2 := runw_Byte r2
      have hw := wrap_ok (a := (i : Int) + 1) (by omega) (by omega)
      have hll : l.length + 1 ≤ LIM := by unfold LIM; omega
      refine ⟨by simp [hI], ?_⟩
      simp -implicitDefEqProofs [body_pack_get_1, mask_pack_get_1, hi', h2, hw, hll])
    (fun a _ => by simp -implicitDefEqProofs [body_pack_get_1]) ([], r8) (by simp)
  have hf1 : ∀ (n i : Nat) (l : List Int) (r : Option Txt), foldI (fun _ (a : List Int × Option Txt) (_ : Unit) => (a.1 ++ [(inByte a.2).1], (inByte a.2).2)) (List.replicate n ()) i (l, r) = (l ++ (inBytes n r).1, (inBytes n r).2) := by
    intro n
    induction n with
    | zero => intro i l r; simp [inBytes]
    | succ n ih => intro i l r; rw [List.replicate_succ, foldI_cons, ih]; simp [inBytes]
  rw [hf1, List.nil_append] at hL1
  generalize inBytes k r8 = v9 at *
  simp -implicitDefEqProofs [code_pack_get, g1, g2, g3, g4, g5, g6]
  rw [hL0 _ (by simp -implicitDefEqProofs [mask_pack_get_0])]
  simp -implicitDefEqProofs [g8]
  rw [hL1 _ (by simp -implicitDefEqProofs [mask_pack_get_1])]
  simp -implicitDefEqProofs
end Bz.S
