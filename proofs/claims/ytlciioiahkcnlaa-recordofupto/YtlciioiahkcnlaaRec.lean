/- Records: the program's package record, and the reference's, walked. -/
import Derived.Test.YtlciioiahkcnlaaVd
set_option linter.unusedSimpArgs false
set_option linter.unusedVariables false
namespace Bz.S
open Go Bz
set_option maxRecDepth 10000
set_option maxHeartbeats 4000000

/-! ### one octet that is read -/
theorem run_InByte (r : Option Txt) : R F_octet_In_Byte [.pv 0 0] (inH r) = some (.d (.int .i64 (inByte r).1), inH (inByte r).2) := by
  refine R_of at_octet_In_Byte (by decide) ?_
  have ht := run_take r 1
  match r with
  | none =>
    simp -implicitDefEqProofs [inTake] at ht
    simp -implicitDefEqProofs [code_octet_In_Byte, inByte, ht]
    rw [loop_end (e := .exit 0) (s' := ⟨mkE 15 [], inH none⟩) (by simp -implicitDefEqProofs [mask_octet_In_Byte_0, body_octet_In_Byte_0]) (by simp)]
    simp -implicitDefEqProofs
  | some [] =>
    simp -implicitDefEqProofs [inTake, inH, byS] at ht
    simp -implicitDefEqProofs [code_octet_In_Byte, inByte, ht]
    rw [loop_end (e := .exit 0) (s' := ⟨mkE 15 [], inH none⟩) (by simp -implicitDefEqProofs [mask_octet_In_Byte_0, body_octet_In_Byte_0]) (by simp)]
    simp -implicitDefEqProofs
  | some (c :: b) =>
    have hl : ¬ b.length + 1 < 1 := by omega
    simp -implicitDefEqProofs [inTake, hl, inH, byS] at ht
    have hw := wrap_ok (a := (c.toNat : Int)) (by omega) (by have := c.toNat_lt; omega)
    simp -implicitDefEqProofs [code_octet_In_Byte, inByte, ht]
    rw [loop_end (e := .ret) (s' := ⟨mkE 15 [(2, .d (.int .i64 c.toNat))], inH (some b)⟩) (by simp -implicitDefEqProofs [mask_octet_In_Byte_0, body_octet_In_Byte_0, hw]) (by simp)]
    simp -implicitDefEqProofs

/-! ### may it be? -/
def outB (n a b : Int) : Bool := decide (n < a) || decide (b < n)
def oddV (v : Vd) : Bool := outB v.id 0 63 || outB v.kind 1 5 || outB v.code 0 255
def recMay (code : Int) (l : List Vd) : Int := if outB code 0 255 || l.any oddV then 4 else if 255 < l.length then 3 else 0

abbrev recA (code : Int) (l : List Vd) : AV := .agg [.d (.int .i64 code), vdS l]

theorem run_outside (n a b : Int) : R F_record_outside [.d (.int .i64 n), .d (.int .i64 a), .d (.int .i64 b)] [] = some (.d (.bool (outB n a b)), []) := by
  refine R_of at_record_outside (by decide) ?_
  simp -implicitDefEqProofs [code_record_outside, outB]
theorem run_odd (v : Vd) : R F_record_odd [vdA v] [] = some (.d (.bool (oddV v)), []) := by
  refine R_of at_record_odd (by decide) ?_
  simp -implicitDefEqProofs [code_record_odd, oddV, run_outside]
  grind
theorem run_recCheck (code : Int) (l : List Vd) (hl : l.length ≤ BIG) : R F_record_Check [recA code l] [] = some (.d (.int .i64 (recMay code l)), []) := by
  refine R_of at_record_Check (by decide) ?_
  have h := run_ContainsVd l hl F_record_odd rfl oddV fun v _ => run_odd v
  simp -implicitDefEqProofs [code_record_Check, recMay, run_outside, h]
  grind

/-! ### a record's octets -/
def vdB (v : Vd) : Txt := [toB v.id, toB v.kind, toB v.code]
def recB (code : Int) (l : List Vd) : Txt := toB code :: toB l.length :: l.flatMap vdB
theorem recB_len (code : Int) (l : List Vd) : (recB code l).length = 3 * l.length + 2 := by
  unfold recB
  simp only [List.length_cons]
  have : (l.flatMap vdB).length = 3 * l.length := by
    induction l with
    | nil => rfl
    | cons v r ih => simp [List.flatMap_cons, vdB]; simp [vdB] at ih; omega
  omega

theorem run_OutByte0 (b : Txt) (n : Int) (h0 : 0 ≤ n) (h1 : n ≤ 255) (hl : b.length + 1 ≤ LIM) : R F_octet_Out_Byte [.pv 0 0, .d (.int .i64 n)] (owH ⟨b, 0⟩) = some (.tup [], owH ⟨b ++ [toB n], 0⟩) := by
  have h := run_OutByte ⟨b, 0⟩ n hl
  have e : owByte ⟨b, 0⟩ n = ⟨b ++ [toB n], 0⟩ := by
    have h2 : ¬ (n < 0 ∨ 255 < n) := by omega
    simp [owByte, h2]
  rw [e] at h; exact h

theorem may_zero {code : Int} {l : List Vd} : recMay code l = 0 ↔ (0 ≤ code ∧ code ≤ 255) ∧ (∀ v ∈ l, (0 ≤ v.id ∧ v.id ≤ 63) ∧ (1 ≤ v.kind ∧ v.kind ≤ 5) ∧ (0 ≤ v.code ∧ v.code ≤ 255)) ∧ l.length ≤ 255 := by
  unfold recMay
  have h1 : outB code 0 255 = false ↔ 0 ≤ code ∧ code ≤ 255 := by simp [outB]; try omega
  have h2 : l.any oddV = false ↔ ∀ v ∈ l, (0 ≤ v.id ∧ v.id ≤ 63) ∧ (1 ≤ v.kind ∧ v.kind ≤ 5) ∧ (0 ≤ v.code ∧ v.code ≤ 255) := by
    rw [List.any_eq_false]
    constructor
    · intro h v hv
      have := h v hv
      simp [oddV, outB] at this
      omega
    · intro h v hv
      have := h v hv
      simp [oddV, outB]
      omega
  rw [← h1, ← h2]
  cases outB code 0 255 <;> cases l.any oddV <;> simp <;> omega

theorem run_recPut (code : Int) (l : List Vd) (hl : l.length ≤ BIG) : R F_record_Put [recA code l] [] = some (.tup [byS (if recMay code l = 0 then recB code l else []), .d (.int .i64 (recMay code l))], []) := by
  refine R_of at_record_Put (by decide) ?_
  have hc := run_recCheck code l hl
  by_cases hm : recMay code l = 0
  · obtain ⟨m1, m2, m3⟩ := may_zero.1 hm
    have hL := loop_fold (X := X) (mask := mask_record_Put_0) (body := body_record_Put_0) l
      (fun i (b : Txt) => ⟨mkE 48 [(5, .pv 50010 0), (25, vdS l), (26, .d (.int .i64 l.length)), (27, .d (.int .i64 i))], [(50010, .var [.os 25001000 b.length 0 b.length, .d (.int .i64 0)]), (25001000, .arr 1 (b.map byC))]⟩)
      (fun i b => b.length = 3 * i + 2) (fun _ b v => b ++ vdB v) (fun b => (.exit 0, ⟨mkE 48 [(5, .pv 50010 0)], [(50010, .var [.os 25001000 b.length 0 b.length, .d (.int .i64 0)]), (25001000, .arr 1 (b.map byC))]⟩)) (by simp) (fun i b v hi hv hI => by
        have hx := m2 v (hv ▸ List.getElem_mem hi)
        have hw := wrap_ok (a := (i : Int) + 1) (by omega) (by omega)
        have h1 := run_OutByte0 b v.id (by omega) (by omega) (by unfold LIM; omega)
        have h2 := run_OutByte0 (b ++ [toB v.id]) v.kind (by omega) (by omega) (by simp; unfold LIM; omega)
        have h3 := run_OutByte0 (b ++ [toB v.id] ++ [toB v.kind]) v.code (by omega) (by omega) (by simp; unfold LIM; omega)
        simp -implicitDefEqProofs [owH] at h1 h2 h3
        refine ⟨by simp [vdB]; omega, ?_⟩
        simp -implicitDefEqProofs [body_record_Put_0, mask_record_Put_0, hi, hv, h1, h2, h3, hw, vdB]) (fun b _ => by simp -implicitDefEqProofs [body_record_Put_0]) [toB code, toB l.length] (by simp)
    have hf : ∀ (l : List Vd) (i : Nat) (b : Txt), foldI (fun _ b v => b ++ vdB v) l i b = b ++ l.flatMap vdB := by
      intro l
      induction l with
      | nil => intro i b; simp
      | cons v r ih => intro i b; rw [foldI_cons, ih]; simp
    have h1 := run_OutByte0 [] code (by omega) (by omega) (by unfold LIM; simp)
    have h2 := run_OutByte0 [toB code] l.length (by omega) (by omega) (by unfold LIM; simp)
    have h3 := run_Done ⟨recB code l, 0⟩ (by rw [recB_len]; unfold LIM; omega)
    simp -implicitDefEqProofs [owH] at h1 h2
    simp -implicitDefEqProofs [owDone, owH] at h3
    simp -implicitDefEqProofs [code_record_Put, hc, hm, h1, h2]
    have e : [toB code, toB (l.length : Int)] ++ l.flatMap vdB = recB code l := rfl
    rw [hL _ (by simp [mask_record_Put_0]), hf, e]
    simp -implicitDefEqProofs [h3]
  · simp -implicitDefEqProofs [code_record_Put, hc, hm]

/-! ### a record that is read -/
def triples : Txt → List Vd
  | a :: b :: c :: r => ⟨a.toNat, b.toNat, c.toNat⟩ :: triples r
  | _ => []
/-- a record of its octets, if they are one's -/
def recRead (b : Txt) : Option (Int × List Vd) := match b with
  | c :: n :: rest => if rest.length = 3 * n.toNat ∧ recMay c.toNat (triples rest) = 0 then some (c.toNat, triples rest) else none
  | _ => none

def rdStep (a : Option Txt × List Vd) : Option Txt × List Vd :=
  let x := inByte a.1
  let y := inByte x.2
  let z := inByte y.2
  (z.2, a.2 ++ [⟨x.1, y.1, z.1⟩])
def rdLoop : Nat → Option Txt × List Vd → Option Txt × List Vd
  | 0, a => a
  | n + 1, a => rdLoop n (rdStep a)
theorem rdLoop_none (n : Nat) (vs : List Vd) : (rdLoop n (none, vs)).1 = none := by
  induction n generalizing vs with
  | zero => rfl
  | succ n ih => simp only [rdLoop, rdStep, inByte]; exact ih _
theorem rdLoop_len (n : Nat) (a : Option Txt × List Vd) : (rdLoop n a).2.length = a.2.length + n := by
  induction n generalizing a with
  | zero => rfl
  | succ n ih => simp only [rdLoop, ih, rdStep, List.length_append, List.length_cons, List.length_nil]; omega
theorem rdLoop_some : ∀ (n : Nat) (b : Txt) (vs : List Vd), (3 * n ≤ b.length → rdLoop n (some b, vs) = (some (b.drop (3 * n)), vs ++ triples (b.take (3 * n)))) ∧ (b.length < 3 * n → (rdLoop n (some b, vs)).1 = none)
  | 0, b, vs => by simp [rdLoop, triples]
  | n + 1, b, vs => by
    match b with
    | [] => exact ⟨fun h => by simp at h, fun _ => by simp only [rdLoop, rdStep, inByte]; exact rdLoop_none n _⟩
    | [x] => exact ⟨fun h => by simp at h; omega, fun _ => by simp only [rdLoop, rdStep, inByte]; exact rdLoop_none n _⟩
    | [x, y] => exact ⟨fun h => by simp at h; omega, fun _ => by simp only [rdLoop, rdStep, inByte]; exact rdLoop_none n _⟩
    | x :: y :: z :: r =>
      have e : rdLoop (n + 1) (some (x :: y :: z :: r), vs) = rdLoop n (some r, vs ++ [⟨x.toNat, y.toNat, z.toNat⟩]) := rfl
      rw [e]
      have ih := rdLoop_some n r (vs ++ [⟨x.toNat, y.toNat, z.toNat⟩])
      refine ⟨fun h => ?_, fun h => ih.2 (by simp at h; omega)⟩
      rw [ih.1 (by simp at h; omega), show 3 * (n + 1) = 3 * n + 1 + 1 + 1 by omega]
      simp [triples]

abbrev inV (r : Option Txt) : AObj := .var [.d (.vs r.isNone ((r.getD []).map byC)), .d (.bool true), .d (.int .i64 (if r.isNone then 16 else 0))]
theorem inH_eq (r : Option Txt) : inH r = [(0, inV r)] := by cases r <;> rfl

theorem inByte_lo (r : Option Txt) : 0 ≤ (inByte r).1 ∧ (inByte r).1 ≤ 255 := by
  unfold inByte
  split
  · rename_i c b; have := c.toNat_lt; simp; omega
  · simp

theorem foldI_rd (n i : Nat) (a : Option Txt × List Vd) : foldI (fun _ a (_ : Unit) => rdStep a) (List.replicate n ()) i a = rdLoop n a := by
  induction n generalizing i a with
  | zero => rfl
  | succ n ih => rw [List.replicate_succ, foldI_cons, ih]; rfl
theorem recRead_eq (b : Txt) : recRead b = match rdLoop (inByte (inByte (some b)).2).1.toNat ((inByte (inByte (some b)).2).2, []) with
    | (some [], vs) => if recMay (inByte (some b)).1 vs = 0 then some ((inByte (some b)).1, vs) else none
    | _ => none := by
  match b with
  | [] => rfl
  | [c] => rfl
  | c :: n :: rest =>
    simp only [recRead, inByte, Int.toNat_natCast]
    obtain ⟨h1, h2⟩ := rdLoop_some n.toNat rest []
    by_cases h : rest.length < 3 * n.toNat
    · have := h2 h
      generalize rdLoop n.toNat (some rest, []) = A at this
      obtain ⟨r, vs⟩ := A
      simp only at this
      subst this
      rw [if_neg (by omega)]
    · rw [h1 (by omega), List.nil_append]
      by_cases h3 : rest.length = 3 * n.toNat
      · rw [List.drop_of_length_le (by omega), List.take_of_length_le (by omega)]
        by_cases hm : recMay c.toNat (triples rest) = 0 <;> simp [h3, hm]
      · rw [if_neg (by omega)]
        have : rest.drop (3 * n.toNat) ≠ [] := by simp; omega
        match rest.drop (3 * n.toNat), this with
        | c :: t, _ => rfl
theorem run_recRead (b : Txt) (hl : b.length ≤ LIM) : R F_record_Read [byS b] [] = some (match recRead b with
    | some p => .tup [recA p.1 p.2, .d (.int .i64 0)]
    | none => .tup [recA 0 [], .d (.int .i64 16)], []) := by
  refine R_of at_record_Read (by decide) ?_
  have ho := run_Open b hl
  have hb1 := run_InByte (some b)
  have hb2 := run_InByte (inByte (some b)).2
  generalize hx : inByte (some b) = x at hb1 hb2
  generalize hy : inByte x.2 = y at hb2
  have hy0 := inByte_lo x.2
  rw [hy] at hy0
  have hL := loop_fold (X := X) (mask := mask_record_Read_0) (body := body_record_Read_0) (List.replicate y.1.toNat ())
    (fun i (a : Option Txt × List Vd) => ⟨mkE 43 [(2, .pv 10000 0), (4, .pv 20010 0), (5, .pv 30030 0), (12, .d (.int .i64 y.1)), (13, .d (.int .i64 i))],
      [(10000, .var [.d (.int .i64 0), .d (.vs true [])]), (20010, inV a.1), (30030, .var [.d (.int .i64 x.1), .os 23003010 a.2.length 0 a.2.length]), (23003010, .arr 3 (a.2.map vdC))]⟩)
    (fun i a => a.2.length = i) (fun _ a _ => rdStep a)
    (fun a => (.exit 0, ⟨mkE 43 [(2, .pv 10000 0), (4, .pv 20010 0), (5, .pv 30030 0)],
      [(10000, .var [.d (.int .i64 0), .d (.vs true [])]), (20010, inV a.1), (30030, .var [.d (.int .i64 x.1), .os 23003010 a.2.length 0 a.2.length]), (23003010, .arr 3 (a.2.map vdC))]⟩)) (by simp)
    (fun i a u hi hu hI => by
      have hlt : i < y.1.toNat := by simpa using hi
      have hlt' : (i : Int) < y.1 := by omega
      have hw := wrap_ok (a := (i : Int) + 1) (by omega) (by omega)
      obtain ⟨r, vs⟩ := a
      simp only at hI; subst hI
      have h1 := run_InByte r
      have h2 := run_InByte (inByte r).2
      have h3 := run_InByte (inByte (inByte r).2).2
      simp only [inH_eq] at h1 h2 h3
      have hlim : vs.length + 1 ≤ LIM := by unfold LIM; omega
      refine ⟨by simp [rdStep], ?_⟩
      simp -implicitDefEqProofs [inV] at h1 h2 h3
      simp -implicitDefEqProofs [body_record_Read_0, mask_record_Read_0, hlt', h1, h2, h3, hw, hlim, rdStep, inV]
      ) (fun a _ => by
        have hlt' : ¬ max y.1 0 < y.1 := by omega
        simp -implicitDefEqProofs [body_record_Read_0, hlt']) (y.2, []) (by simp)
  rw [foldI_rd] at hL
  rw [recRead_eq b, hx]
  simp only [hy]
  have hlen := rdLoop_len y.1.toNat (y.2, [])
  generalize rdLoop y.1.toNat (y.2, []) = A at hL hlen ⊢
  obtain ⟨r, vs⟩ := A
  have hv : vs.length ≤ BIG := by simp at hlen; unfold BIG; omega
  have he := run_Err r
  have hq := run_Left r
  have hc := run_recCheck x.1 vs hv
  simp only [inH_eq] at ho hb1 hb2 he hq
  simp -implicitDefEqProofs [inV] at ho hb1 hb2
  have hw0 : ¬ y.1 < 0 := by omega
  simp -implicitDefEqProofs [code_record_Read, ho, hb1, hb2]
  simp -implicitDefEqProofs [inV] at hL he hq
  rw [hL _ (by simp -implicitDefEqProofs [mask_record_Read_0])]
  match r with
  | none =>
    simp -implicitDefEqProofs at he hq
    simp -implicitDefEqProofs [he, hq, hc]
  | some [] =>
    simp -implicitDefEqProofs at he hq
    by_cases hm : recMay x.1 vs = 0
    · simp -implicitDefEqProofs [he, hq, hc, hm]
    · simp -implicitDefEqProofs [he, hq, hc, hm]
  | some (c :: t) =>
    simp -implicitDefEqProofs at he hq
    have h1 : (0 : Int) < (t.length : Int) + 1 := by omega
    simp -implicitDefEqProofs [he, hq, hc, h1]
end Bz.S
