/- Tables as octets: what is read, and the page's octets (ref13), walked. -/
import Derived.Test.YtfhkjoebkiigoaaPack
set_option linter.unusedSimpArgs false
set_option linter.unusedVariables false
namespace Bz.S
open Go Bz
set_option maxRecDepth 10000
set_option maxHeartbeats 4000000

abbrev rwV' (r : Rw) : List AV := [.d (.int .i64 r.kind), .d (.str r.name), .d (.int .i64 r.n), .d (.int .i64 r.lo), .d (.int .i64 r.hi), sxS r.set, i6S r.kids]
theorem oct_set (l : List Rw) (i : Nat) (r : Rw) (h : RwPut r) (c0 : Txt) (hc0 : c0.length ≤ 100000000) :
    ∀ s, trim mask_ref13_Octets_0 s = ⟨mkE 94 [(0, rwS l), (3, .os 10000030 c0.length 0 c0.length), (4, .d (.int .i64 i)), (5, .pv 60040 0), (6, .d (.int .i64 ((0 : Nat) : Int)))], [(60040, .var (rwV' r)), (10000030, .arr 1 (c0.map byC))]⟩ →
      exL X (.loop mask_ref13_Octets_0 body_ref13_Octets_0) s = some (.exit 2, ⟨mkE 94 [(0, rwS l), (3, .os 10000030 (c0 ++ r.set.flatMap txB).length 0 (c0 ++ r.set.flatMap txB).length), (4, .d (.int .i64 i)), (5, .pv 60040 0)], [(60040, .var (rwV' r)), (10000030, .arr 1 ((c0 ++ r.set.flatMap txB).map byC))]⟩) := by
  have hst := h.st
  have hL := loop_fold (X := X) (mask := mask_ref13_Octets_0) (body := body_ref13_Octets_0) r.set
    (fun j (c : Txt) => ⟨mkE 94 [(0, rwS l), (3, .os 10000030 c.length 0 c.length), (4, .d (.int .i64 i)), (5, .pv 60040 0), (6, .d (.int .i64 j))], [(60040, .var (rwV' r)), (10000030, .arr 1 (c.map byC))]⟩)
    (fun j c => c.length ≤ 100000000 + 256 * j) (fun _ c t => c ++ txB t)
    (fun c => (.exit 2, ⟨mkE 94 [(0, rwS l), (3, .os 10000030 c.length 0 c.length), (4, .d (.int .i64 i)), (5, .pv 60040 0)], [(60040, .var (rwV' r)), (10000030, .arr 1 (c.map byC))]⟩)) (by simp)
    (fun j c t hj ht hI => by
      have hw := wrap_ok (a := (j : Int) + 1) (by omega) (by omega)
      have htl := hst.2 t (ht ▸ List.getElem_mem hj)
      have h2 := run_04Text t (by unfold LIM; omega)
      have hal : c.length + (txB t).length ≤ LIM := by simp [txB]; unfold LIM; omega
      refine ⟨by simp [txB]; omega, ?_⟩
      generalize txB t = u at *
      simp -implicitDefEqProofs [body_ref13_Octets_0, mask_ref13_Octets_0, hj, ht, h2, hw, hal]) (fun c _ => by simp -implicitDefEqProofs [body_ref13_Octets_0]) c0 (by omega)
  have hf : ∀ (m : List Txt) (i : Nat) (c : Txt), foldI (fun _ (c : Txt) t => c ++ txB t) m i c = c ++ m.flatMap txB := by
    intro m
    induction m with
    | nil => intro i c; simp
    | cons t r ih => intro i c; rw [foldI_cons, ih]; simp
  rw [hf] at hL
  exact hL
theorem oct_kids (l : List Rw) (i : Nat) (r : Rw) (h : RwPut r) (c0 : Txt) (hc0 : c0.length ≤ 200000000) :
    ∀ s, trim mask_ref13_Octets_1 s = ⟨mkE 94 [(0, rwS l), (3, .os 10000030 c0.length 0 c0.length), (4, .d (.int .i64 i)), (5, .pv 60040 0), (7, .d (.int .i64 ((0 : Nat) : Int)))], [(60040, .var (rwV' r)), (10000030, .arr 1 (c0.map byC))]⟩ →
      exL X (.loop mask_ref13_Octets_1 body_ref13_Octets_1) s = some (.exit 4, ⟨mkE 94 [(0, rwS l), (3, .os 10000030 (c0 ++ r.kids.map toB).length 0 (c0 ++ r.kids.map toB).length), (4, .d (.int .i64 i))], [(10000030, .arr 1 ((c0 ++ r.kids.map toB).map byC))]⟩) := by
  have hkd := h.kd
  have hL := loop_fold (X := X) (mask := mask_ref13_Octets_1) (body := body_ref13_Octets_1) r.kids
    (fun j (c : Txt) => ⟨mkE 94 [(0, rwS l), (3, .os 10000030 c.length 0 c.length), (4, .d (.int .i64 i)), (5, .pv 60040 0), (7, .d (.int .i64 j))], [(60040, .var (rwV' r)), (10000030, .arr 1 (c.map byC))]⟩)
    (fun j c => c.length ≤ 200000000 + j) (fun _ c t => c ++ [toB t])
    (fun c => (.exit 4, ⟨mkE 94 [(0, rwS l), (3, .os 10000030 c.length 0 c.length), (4, .d (.int .i64 i))], [(10000030, .arr 1 (c.map byC))]⟩)) (by simp)
    (fun j c t hj ht hI => by
      have hw := wrap_ok (a := (j : Int) + 1) (by omega) (by omega)
      have hal : c.length + 1 ≤ LIM := by unfold LIM; omega
      refine ⟨by simp; omega, ?_⟩
      simp -implicitDefEqProofs [body_ref13_Octets_1, mask_ref13_Octets_1, hj, ht, hw, hal]) (fun c _ => by simp -implicitDefEqProofs [body_ref13_Octets_1]) c0 (by omega)
  have hf : ∀ (m : List Int) (i : Nat) (c : Txt), foldI (fun _ (c : Txt) t => c ++ [toB t]) m i c = c ++ m.map toB := by
    intro m
    induction m with
    | nil => intro i c; simp
    | cons t r ih => intro i c; rw [foldI_cons, ih]; simp
  rw [hf] at hL
  exact hL

theorem run_13Octets (l : List Rw) (hl : l.length ≤ 255) (h : ∀ r ∈ l, RwPut r) : R F_ref13_Octets [rwS l] [] = some (byS (octB l), []) := by
  refine R_of at_ref13_Octets (by decide) ?_
  have hL := loop_fold (X := X) (mask := mask_ref13_Octets_2) (body := body_ref13_Octets_2) l
    (fun i (c : Txt) => ⟨mkE 94 [(0, rwS l), (3, .os 10000030 c.length 0 c.length), (4, .d (.int .i64 i))], [(10000030, .arr 1 (c.map byC))]⟩)
    (fun i c => c.length ≤ 1 + 70000 * i) (fun _ c r => c ++ rwB r)
    (fun c => (.exit 0, ⟨mkE 94 [(3, .os 10000030 c.length 0 c.length)], [(10000030, .arr 1 (c.map byC))]⟩)) (by simp)
    (fun i c r hi hr hI => by
      have hw := wrap_ok (a := (i : Int) + 1) (by omega) (by omega)
      have hrq := h r (hr ▸ List.getElem_mem hi)
      have h3 := rwB_len hrq
      refine ⟨by simp; omega, ?_⟩
      have e1 : ∀ n, (n8 n).length = 8 := fun _ => rfl
      have hs := hrq.s
      have t2 := run_04Text r.name (by unfold LIM; omega)
      have t3 := run_04Int r.n
      have t4 := run_04Int r.lo
      have t5 := run_04Int r.hi
      have hLIM : (1000000000 : Nat) ≤ LIM := by unfold LIM; omega
      have hst := hrq.st
      have hkd := hrq.kd
      have hft := flat_tx r.set hst.2
      have q2 : (txB r.name).length ≤ 256 := by simp [txB]; omega
      generalize hu : txB r.name = u at *
      have q3 := e1 r.n
      have q4 := e1 r.lo
      have q5 := e1 r.hi
      generalize hv3 : n8 r.n = w3 at *
      generalize hv4 : n8 r.lo = w4 at *
      generalize hv5 : n8 r.hi = w5 at *
      have a1 : c.length + 1 ≤ LIM := by omega
      have a2 : c.length + 1 + u.length ≤ LIM := by omega
      have a3 : c.length + 1 + u.length + 8 ≤ LIM := by omega
      have a4 : c.length + 1 + u.length + 16 ≤ LIM := by omega
      have a5 : c.length + 1 + u.length + 24 ≤ LIM := by omega
      have a6 : c.length + 1 + u.length + 25 ≤ LIM := by omega
      have b2 : c.length + (u.length + 1) = c.length + 1 + u.length := by omega
      have b3 : c.length + (u.length + 9) = c.length + 1 + u.length + 8 := by omega
      have b4 : c.length + (u.length + 17) = c.length + 1 + u.length + 16 := by omega
      have b5 : c.length + (u.length + 25) = c.length + 1 + u.length + 24 := by omega
      have b6 : c.length + (u.length + 26) = c.length + 1 + u.length + 25 := by omega
      have h0 := oct_set l i r hrq (c ++ ([toB r.kind] ++ (u ++ (w3 ++ (w4 ++ (w5 ++ [toB r.set.length])))))) (by simp [q3, q4, q5]; omega)
      have hdl : (c ++ ([toB r.kind] ++ (u ++ (w3 ++ (w4 ++ (w5 ++ [toB r.set.length]))))) ++ r.set.flatMap txB).length ≤ 150000000 := by simp only [List.length_append, List.length_cons, List.length_nil, q3, q4, q5]; omega
      generalize hd : c ++ ([toB r.kind] ++ (u ++ (w3 ++ (w4 ++ (w5 ++ [toB r.set.length]))))) ++ r.set.flatMap txB = d at h0 hdl
      have h1 := oct_kids l i r hrq (d ++ [toB r.kids.length]) (by simp; omega)
      generalize hee : d ++ [toB r.kids.length] ++ r.kids.map toB = ee at h1
      have hfin : c ++ rwB r = ee := by
        rw [← hee, ← hd]
        simp [rwB, hu, hv3, hv4, hv5]
      have a7 : d.length + 1 ≤ LIM := by omega
      rw [hfin]
      simp -implicitDefEqProofs [body_ref13_Octets_2, mask_ref13_Octets_2, hi, hr, t2, t3, t4, t5, q3, q4, q5, a1, a2, a3, a4, a5, a6, b2, b3, b4, b5, b6]
      rw [h0 _ (by simp -implicitDefEqProofs [mask_ref13_Octets_0, q3, q4, q5, b2, b3, b4, b5, b6])]
      simp -implicitDefEqProofs [a7]
      rw [h1 _ (by simp -implicitDefEqProofs [mask_ref13_Octets_1])]
      simp -implicitDefEqProofs [hw]
      exact ⟨_, _, ⟨rfl, rfl⟩, rfl, by simp -implicitDefEqProofs⟩) (fun c _ => by simp -implicitDefEqProofs [body_ref13_Octets_2]) [toB l.length] (by simp)
  have hf : ∀ (m : List Rw) (i : Nat) (c : Txt), foldI (fun _ (c : Txt) r => c ++ rwB r) m i c = c ++ m.flatMap rwB := by
    intro m
    induction m with
    | nil => intro i c; simp
    | cons t r ih => intro i c; rw [foldI_cons, ih]; simp
  rw [hf] at hL
  have e : [toB (l.length : Int)] ++ l.flatMap rwB = octB l := rfl
  rw [e] at hL
  have h1L : 1 ≤ LIM := by unfold LIM; omega
  generalize octB l = B at *
  simp -implicitDefEqProofs [code_ref13_Octets, h1L]
  rw [hL _ (by simp -implicitDefEqProofs [mask_ref13_Octets_2])]
  simp -implicitDefEqProofs

/-! ### what is read -/
theorem getRws_fold : ∀ (n i : Nat) (l : List Rw) (r : Option Txt), foldI (fun _ (a : List Rw × Option Txt) (_ : Unit) => (a.1 ++ [(getRw a.2).1], (getRw a.2).2)) (List.replicate n ()) i (l, r) = (l ++ (getRws n r).1, (getRws n r).2) := by
  intro n
  induction n with
  | zero => intro i l r; simp [getRws]
  | succ n ih => intro i l r; rw [List.replicate_succ, foldI_cons, ih]; simp [getRws]
def readE (b : Txt) : Option (List Rw) := if (packGet b).2 = some [] ∧ (tabBack (packGet b).1).2 = 0 then some (packGet b).1 else none
theorem run_packRead (b : Txt) (hb : b.length ≤ BIG) (hT : TabB (packGet b).1) : R F_pack_Read [byS b] [] = some (.tup [rwS ((readE b).getD []), .d (.int .i64 (if (readE b).isSome then 0 else 16))], []) := by
  refine R_of at_pack_Read (by decide) ?_
  have hO := runw_Open b (big_lim hb)
  have hck := run_tabCheck _ hT
  have hlen := hT.n
  unfold readE
  unfold packGet at *
  have g1 := runw_Byte (some b)
  have b1 := inByte_lo (some b)
  generalize inByte (some b) = v1 at *
  obtain ⟨n1, r1⟩ := v1
  simp only at b1 g1 hck hlen ⊢
  obtain ⟨m, rfl⟩ : ∃ m : Nat, n1 = m := ⟨n1.toNat, by omega⟩
  simp only [Int.toNat_natCast] at hck hlen ⊢
  have hL := loop_fold (X := X) (mask := mask_pack_Read_0) (body := body_pack_Read_0) (List.replicate m ())
    (fun i (a : List Rw × Option Txt) => ⟨mkE 32 [(4, .pv 20010 0), (5, .os 10000050 a.1.length 0 a.1.length), (9, .d (.int .i64 m)), (10, .d (.int .i64 i))], [(20010, inW a.2), (10000050, .arr 7 (a.1.map rwC))]⟩)
    (fun i a => a.1.length = i) (fun _ a _ => (a.1 ++ [(getRw a.2).1], (getRw a.2).2))
    (fun a => (.exit 0, ⟨mkE 32 [(4, .pv 20010 0), (5, .os 10000050 a.1.length 0 a.1.length)], [(20010, inW a.2), (10000050, .arr 7 (a.1.map rwC))]⟩)) (by simp)
    (fun i a _ hi _ hI => by
      obtain ⟨l, r2⟩ := a
      simp only at hI
      have hi' : i < m := by simpa using hi
      have h2 := run_packget r2
      have hw := wrap_ok (a := (i : Int) + 1) (by omega) (by omega)
      have hll : l.length + 1 ≤ LIM := by unfold LIM; omega
      refine ⟨by simp [hI], ?_⟩
      simp -implicitDefEqProofs [body_pack_Read_0, mask_pack_Read_0, hi', h2, hw, hll])
    (fun a _ => by simp -implicitDefEqProofs [body_pack_Read_0]) ([], r1) (by simp)
  rw [getRws_fold, List.nil_append] at hL
  generalize getRws m r1 = v at *
  obtain ⟨l, r⟩ := v
  simp only at hL hck hlen ⊢
  have hE := runw_Err r
  have hLe := runw_Left r
  generalize (tabBack l).2 = C at *
  cases r with
  | none =>
    simp -implicitDefEqProofs at hE
    simp -implicitDefEqProofs [code_pack_Read, hO, g1]
    rw [hL _ (by simp -implicitDefEqProofs [mask_pack_Read_0])]
    simp -implicitDefEqProofs [hE]
  | some t =>
    simp -implicitDefEqProofs at hE
    cases t with
    | cons c t =>
      have h0 : (0 : Int) < t.length + 1 := by omega
      simp -implicitDefEqProofs at hLe
      simp -implicitDefEqProofs [code_pack_Read, hO, g1]
      rw [hL _ (by simp -implicitDefEqProofs [mask_pack_Read_0])]
      simp -implicitDefEqProofs [hE, hLe, h0]
    | nil =>
      simp -implicitDefEqProofs at hLe
      by_cases hz : C = 0
      · subst hz
        simp -implicitDefEqProofs [code_pack_Read, hO, g1]
        rw [hL _ (by simp -implicitDefEqProofs [mask_pack_Read_0])]
        simp -implicitDefEqProofs [hE, hLe, hck]
      · simp -implicitDefEqProofs [code_pack_Read, hO, g1]
        rw [hL _ (by simp -implicitDefEqProofs [mask_pack_Read_0])]
        simp -implicitDefEqProofs [hE, hLe, hck, hz]
end Bz.S
