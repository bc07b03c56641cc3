/- Octets that are read by the page (ref04's Reader), walked. -/
import Derived.Test.YtfhkjoebkiigoaaInV
set_option linter.unusedSimpArgs false
set_option linter.unusedVariables false
namespace Bz.S
open Go Bz
set_option maxRecDepth 10000
set_option maxHeartbeats 4000000

structure Rd where
  b : Txt
  at_ : Nat
  bad : Bool
abbrev rdA (p : Rd) : AV := .agg [byS p.b, .d (.int .i64 p.at_), .d (.bool p.bad)]
structure RdOK (p : Rd) : Prop where
  a : p.at_ ≤ p.b.length
  l : p.b.length ≤ BIG
/-- what is left of it -/
def rdO (p : Rd) : Option Txt := if p.bad then none else some (p.b.drop p.at_)
def rdAdv (p : Rd) (n : Nat) : Rd := if p.bad = true then p else if p.b.length < p.at_ + n then { p with bad := true } else { p with at_ := p.at_ + n }

theorem rdAdv_O {p : Rd} (h : RdOK p) (n : Nat) : rdO (rdAdv p n) = (inTake (rdO p) n).2 := by
  obtain ⟨b, a, x⟩ := p
  obtain ⟨h1, h2⟩ := h
  simp only at h1 h2
  unfold rdAdv rdO inTake
  cases x with
  | true => simp
  | false =>
    by_cases hn : b.length < a + n
    · have : b.length - a < n := by omega
      simp [hn, this]
    · have : ¬ b.length - a < n := by omega
      simp [hn, this]
theorem rdAdv_OK {p : Rd} (h : RdOK p) (n : Nat) : RdOK (rdAdv p n) ∧ (rdAdv p n).b = p.b := by
  obtain ⟨b, a, x⟩ := p
  obtain ⟨h1, h2⟩ := h
  simp only at h1 h2
  unfold rdAdv
  cases x with
  | true => exact ⟨⟨h1, h2⟩, rfl⟩
  | false =>
    by_cases hn : b.length < a + n
    · simp only [hn, Bool.false_eq_true, if_false, if_true]; exact ⟨⟨h1, h2⟩, trivial⟩
    · simp only [hn, Bool.false_eq_true, if_false]; exact ⟨⟨by simp only; omega, h2⟩, trivial⟩

theorem run_04take (p : Rd) (hp : RdOK p) (n : Nat) (hn : n ≤ BIG) : R F_ref04_take [rdA p, .d (.int .i64 n)] [] = some (.tup [.d (.int .i64 (if (rdAdv p n).bad then 0 else (p.at_ : Int))), rdA (rdAdv p n)], []) := by
  refine R_of at_ref04_take (by decide) ?_
  obtain ⟨b, a, x⟩ := p
  obtain ⟨h1, h2⟩ := hp
  simp only at h1 h2
  unfold BIG at h2 hn
  have w1 := wrap_ok (a := (b.length : Int) - a) (by omega) (by omega)
  have w2 := wrap_ok (a := (a : Int) + n) (by omega) (by omega)
  cases x with
  | true => simp -implicitDefEqProofs [code_ref04_take, rdAdv]
  | false =>
    by_cases hc : b.length < a + n
    · have hc' : (b.length : Int) - a < n := by omega
      simp -implicitDefEqProofs [code_ref04_take, rdAdv, hc, hc', w1]
    · have hc' : ¬ (b.length : Int) - a < n := by omega
      simp -implicitDefEqProofs [code_ref04_take, rdAdv, hc, hc', w1, w2]

/-! ### one octet -/
def rdByte (p : Rd) : Rd := rdAdv p 1
theorem run_04Byte (p : Rd) (hp : RdOK p) : R F_ref04_Byte [rdA p] [] = some (.tup [.d (.int .i64 (inByte (rdO p)).1), rdA (rdByte p)], []) := by
  refine R_of at_ref04_Byte (by decide) ?_
  have ht := run_04take p hp 1 (by unfold BIG; omega)
  unfold rdByte
  obtain ⟨b, a, x⟩ := p
  obtain ⟨h1, h2⟩ := hp
  simp only at h1 h2
  cases x with
  | true =>
    simp -implicitDefEqProofs [rdAdv] at ht
    simp -implicitDefEqProofs [code_ref04_Byte, rdAdv, ht, rdO, inByte]
  | false =>
    by_cases hc : b.length < a + 1
    · have e : a = b.length := by omega
      subst e
      simp -implicitDefEqProofs [rdAdv] at ht
      simp -implicitDefEqProofs [code_ref04_Byte, rdAdv, ht, rdO, inByte]
    · have hi : a < b.length := by omega
      have e : b.drop a = b[a] :: b.drop (a + 1) := List.drop_eq_getElem_cons hi
      generalize b.drop (a + 1) = B at e
      have hv := b[a].toNat_lt
      have hw := wrap_ok (a := (b[a].toNat : Int)) (by omega) (by omega)
      simp -implicitDefEqProofs [rdAdv, hc] at ht
      simp -implicitDefEqProofs [code_ref04_Byte, rdAdv, ht, rdO, inByte, hc, e, hi, hw]

/-! ### a text -/
def rdWords (p : Rd) : Rd := rdAdv (rdByte p) (inByte (rdO p)).1.toNat
theorem rdByte_O {p : Rd} (h : RdOK p) : rdO (rdByte p) = (inByte (rdO p)).2 := by
  unfold rdByte
  rw [rdAdv_O h]
  unfold inTake inByte
  cases rdO p with
  | none => rfl
  | some b => cases b <;> simp
theorem rdByte_OK {p : Rd} (h : RdOK p) : RdOK (rdByte p) ∧ (rdByte p).b = p.b := rdAdv_OK h 1
theorem rdWords_O {p : Rd} (h : RdOK p) : rdO (rdWords p) = (inText (rdO p)).2 := by
  unfold rdWords
  rw [rdAdv_O (rdByte_OK h).1, rdByte_O h]; rfl
theorem rdWords_OK {p : Rd} (h : RdOK p) : RdOK (rdWords p) ∧ (rdWords p).b = p.b := by
  have h1 := rdByte_OK h
  have h2 := rdAdv_OK h1.1 (inByte (rdO p)).1.toNat
  exact ⟨h2.1, h2.2.trans h1.2⟩
theorem rdAdv_bad {p : Rd} {n : Nat} (h : (rdAdv p n).bad = false) : p.bad = false ∧ p.at_ + n ≤ p.b.length ∧ (rdAdv p n).at_ = p.at_ + n := by
  unfold rdAdv at h ⊢
  cases hb : p.bad with
  | true => simp [hb] at h
  | false =>
    simp only [hb, Bool.false_eq_true, if_false] at h ⊢
    by_cases hn : p.b.length < p.at_ + n
    · simp [hn] at h
    · simp only [hn, if_false]; exact ⟨trivial, by omega, trivial⟩

theorem run_04Words (p : Rd) (hp : RdOK p) : R F_ref04_Words [rdA p] [] = some (.tup [.d (.str (inText (rdO p)).1), rdA (rdWords p)], []) := by
  refine R_of at_ref04_Words (by decide) ?_
  have h1 := run_04Byte p hp
  have hq := rdByte_OK hp
  have hb := inByte_lo (rdO p)
  have h2 := run_04take (rdByte p) hq.1 (inByte (rdO p)).1.toNat (by unfold BIG; omega)
  rw [show (((inByte (rdO p)).1.toNat : Nat) : Int) = (inByte (rdO p)).1 by omega] at h2
  have hv : (rdWords p).bad = false → (inText (rdO p)).1 = ((p.b.drop (rdByte p).at_).take (inByte (rdO p)).1.toNat) := by
    intro h
    have e1 := rdAdv_bad h
    unfold inText
    rw [← rdByte_O hp]
    unfold rdO inTake
    rw [e1.1, hq.2]
    have : ¬ p.b.length - (rdByte p).at_ < (inByte (rdO p)).1.toNat := by rw [← hq.2]; omega
    unfold rdO at this
    generalize (inByte (if p.bad = true then none else some (List.drop p.at_ p.b))).1.toNat = k at *
    simp [this]
  have hv2 : (rdWords p).bad = true → (inText (rdO p)).1 = [] := by
    intro h
    have e := rdWords_O hp
    unfold rdO at e
    rw [h] at e
    simp only [if_true] at e
    change none = (inText (rdO p)).2 at e
    unfold inText at e ⊢
    unfold inTake at e ⊢
    cases h9 : (inByte (rdO p)).2 with
    | none => rfl
    | some b =>
      rw [h9] at e
      simp only at e ⊢
      split
      · rfl
      · rename_i hh; rw [if_neg hh] at e; cases e
  have hw0 : rdAdv (rdByte p) (inByte (rdO p)).1.toNat = rdWords p := rfl
  rw [hw0] at h2
  have ha : (rdWords p).bad = false → (rdByte p).at_ + (inByte (rdO p)).1.toNat ≤ p.b.length := by
    intro h
    have e1 := rdAdv_bad h
    rw [hq.2] at e1
    exact e1.2.1
  generalize (inText (rdO p)).1 = T at *
  generalize rdWords p = q at *
  generalize inByte (rdO p) = c at *
  generalize rdByte p = q1 at *
  obtain ⟨n, r1⟩ := c
  obtain ⟨b, a, x⟩ := p
  obtain ⟨b1, a1, x1⟩ := q1
  obtain ⟨b2, a2, x2⟩ := q
  obtain ⟨hp1, hp2⟩ := hp
  simp only at *
  unfold BIG at hp2
  cases x2 with
  | true =>
    have e := hv2 rfl
    subst e
    simp -implicitDefEqProofs at h2
    simp -implicitDefEqProofs [code_ref04_Words, h1, h2]
  | false =>
    have e := hv rfl
    have ha := ha rfl
    subst e
    have w1 := wrap_ok (a := (a1 : Int) + n) (by omega) (by omega)
    have i1 : (a1 : Int) ≤ a1 + n := by omega
    have i2 : (a1 : Int) + n ≤ b.length := by omega
    have i3 : ((a1 : Int) + n).toNat - a1 = n.toNat := by omega
    simp -implicitDefEqProofs at h2
    have e4 : bytesOfD (List.take n.toNat (List.drop a1 (List.map byC b))) = some (List.take n.toNat (List.drop a1 b)) := by
      rw [← List.map_drop, ← List.map_take]; exact bytesOfD_by _
    simp -implicitDefEqProofs [code_ref04_Words, h1, h2, w1, i1, i2, i3, e4]

/-! ### a number -/
def sb (l : Txt) (n : Int) : Int := l.foldl (fun n c => n * 256 + c.toNat) n
theorem sb_nat : ∀ (l : Txt) (n : Int) (m : Nat), sb l n - (l.foldl (fun n c => n * 256 + c.toNat) m : Nat) = (n - m) * (256 ^ l.length : Nat)
  | [], n, m => by simp [sb]
  | c :: r, n, m => by
    have h := sb_nat r (n * 256 + c.toNat) (m * 256 + c.toNat)
    simp only [sb, List.foldl_cons, List.length_cons, Nat.pow_succ] at h ⊢
    rw [h]
    push_cast
    have : (n * 256 + (c.toNat : Int) - ((m : Int) * 256 + c.toNat)) = (n - m) * 256 := by omega
    rw [this, Int.mul_assoc, Int.mul_comm 256]
theorem wrap_cong {a b : Int} {k : Int} (h : b - a = k * 18446744073709551616) (h1 : -9223372036854775808 ≤ b) (h2 : b < 9223372036854775808) : IntKind.i64.wrap a = b := by
  simp [IntKind.wrap, IntKind.signed, IntKind.bits]
  omega
theorem i8_wrap (c : UInt8) : IntKind.i8.wrap (c.toNat : Int) = if c.toNat < 128 then (c.toNat : Int) else (c.toNat : Int) - 256 := by
  have := c.toNat_lt
  simp [IntKind.wrap, IntKind.signed, IntKind.bits]
  split <;> omega
theorem sb_lo : ∀ (l : Txt) (n : Int) (P : Nat), -(128 * (P : Int)) ≤ n → n < 128 * P → -(128 * ((P * 256 ^ l.length : Nat) : Int)) ≤ sb l n ∧ sb l n < 128 * ((P * 256 ^ l.length : Nat) : Int)
  | [], n, P, h1, h2 => by simp [sb]; omega
  | c :: r, n, P, h1, h2 => by
    have hc := c.toNat_lt
    have h := sb_lo r (n * 256 + c.toNat) (P * 256) (by push_cast; omega) (by push_cast; omega)
    simp only [sb, List.foldl_cons, List.length_cons, Nat.pow_succ] at h ⊢
    rwa [show P * (256 ^ r.length * 256) = P * 256 * 256 ^ r.length by rw [Nat.mul_comm (256 ^ r.length), Nat.mul_assoc]]

def rdNum (p : Rd) : Rd := rdAdv p 8
theorem rdNum_O {p : Rd} (h : RdOK p) : rdO (rdNum p) = (inInt (rdO p)).2 := rdAdv_O h 8
theorem rdNum_OK {p : Rd} (h : RdOK p) : RdOK (rdNum p) ∧ (rdNum p).b = p.b := rdAdv_OK h 8

theorem run_04Number (p : Rd) (hp : RdOK p) : R F_ref04_Number [rdA p] [] = some (.tup [.d (.int .i64 (inInt (rdO p)).1), rdA (rdNum p)], []) := by
  refine R_of at_ref04_Number (by decide) ?_
  have ht := run_04take p hp 8 (by unfold BIG; omega)
  unfold rdNum
  obtain ⟨b, a, x⟩ := p
  obtain ⟨h1, h2⟩ := hp
  simp only at h1 h2
  unfold BIG at h2
  have e0 : IntKind.i64.wrap 0 = 0 := rfl
  cases x with
  | true =>
    simp -implicitDefEqProofs [rdAdv] at ht
    simp -implicitDefEqProofs [code_ref04_Number, rdAdv, ht, rdO, inInt, inTake, be, e0]
  | false =>
    by_cases hc : b.length < a + 8
    · have e : b.length - a < 8 := by omega
      simp -implicitDefEqProofs [rdAdv, hc] at ht
      simp -implicitDefEqProofs [code_ref04_Number, rdAdv, ht, rdO, inInt, inTake, be, e0, hc, e]
    · have hi : a < b.length := by omega
      have e : ¬ b.length - a < 8 := by omega
      have hI : (inInt (rdO ⟨b, a, false⟩)).1 = sb ((b.drop (a + 1)).take 7) (IntKind.i8.wrap (b[a].toNat : Int)) := by
        unfold inInt rdO inTake
        simp only [Bool.false_eq_true, if_false, List.length_drop, e]
        have e8 : (b.drop a).take 8 = b[a] :: (b.drop (a + 1)).take 7 := by
          rw [List.drop_eq_getElem_cons hi, List.take_succ_cons]
        rw [e8]
        have hlen : ((b.drop (a + 1)).take 7).length = 7 := by simp; omega
        generalize (b.drop (a + 1)).take 7 = l at *
        have hc := b[a].toNat_lt
        generalize b[a] = c at *
        have hs := sb_nat l (IntKind.i8.wrap (c.toNat : Int)) c.toNat
        have hb := sb_lo l (IntKind.i8.wrap (c.toNat : Int)) 1 (by rw [i8_wrap]; split <;> omega) (by rw [i8_wrap]; split <;> omega)
        rw [hlen] at hs hb
        have e1 : be (c :: l) = l.foldl (fun n c => n * 256 + c.toNat) c.toNat := by simp [be]
        rw [e1]
        generalize sb l _ = S at *
        generalize List.foldl _ _ l = N at *
        rw [i8_wrap] at hs
        split at hs
        · exact wrap_cong (k := 0) (by omega) (by omega) (by omega)
        · exact wrap_cong (k := -1) (by omega) (by omega) (by omega)
      rw [hI]
      have hll : ((b.drop (a + 1)).take 7).length = 7 := by simp; omega
      have hla : ∀ i (h : i < ((b.drop (a + 1)).take 7).length), b[a + (i + 1)]? = some ((b.drop (a + 1)).take 7)[i] := by
        intro i h
        rw [hll] at h
        rw [List.getElem?_eq_getElem (by omega)]
        simp [Nat.add_comm, Nat.add_left_comm]
      generalize (b.drop (a + 1)).take 7 = l at *
      have hL := loop_fold (X := X) (mask := mask_ref04_Number_0) (body := body_ref04_Number_0) l
        (fun i (n : Int) => ⟨mkE 40 [(1, .pv 10000 0), (3, .pv 10020 0), (4, .d (.int .i64 a)), (5, .pv 20050 0), (6, .d (.int .i64 n)), (7, .d (.int .i64 ((i + 1 : Nat) : Int)))], [(10000, .var [byS b, .d (.int .i64 a), .d (.bool false)]), (10020, .var [.d (.vs true []), .d (.int .i64 0), .d (.bool false)]), (20050, .var [byS b, .d (.int .i64 ((a + 8 : Nat) : Int)), .d (.bool false)])]⟩)
        (fun i n => -(128 * ((256 ^ i : Nat) : Int)) ≤ n ∧ n < 128 * ((256 ^ i : Nat) : Int)) (fun _ n c => n * 256 + c.toNat)
        (fun n => (.exit 0, ⟨mkE 40 [(3, .pv 10020 0), (5, .pv 20050 0), (6, .d (.int .i64 n))], [(10020, .var [.d (.vs true []), .d (.int .i64 0), .d (.bool false)]), (20050, .var [byS b, .d (.int .i64 ((a + 8 : Nat) : Int)), .d (.bool false)])]⟩)) (by simp)
        (fun i n c hi' hx hI2 => by
          have hi7 : i < 7 := by omega
          have hP : 256 ^ i ≤ 256 ^ 6 := Nat.pow_le_pow_right (by omega) (by omega)
          have hcv := c.toNat_lt
          have hb2 := hla i hi'
          rw [hx] at hb2
          rw [Nat.pow_succ]
          refine ⟨by omega, ?_⟩
          have w1 := wrap_ok (a := n * 256) (by omega) (by omega)
          have w2 := wrap_ok (a := n * 256 + c.toNat) (by omega) (by omega)
          have w3 := wrap_ok (a := (c.toNat : Int)) (by omega) (by omega)
          have w4 := wrap_ok (a := (a : Int) + (i + 1)) (by omega) (by omega)
          have w5 := wrap_ok (a := (i : Int) + 1 + 1) (by omega) (by omega)
          have i2 : (a : Int) + (i + 1) < b.length := by omega
          have i1 : (0 : Int) ≤ (a : Int) + (i + 1) := by omega
          have i3 : ((a : Int) + (i + 1)).toNat = a + (i + 1) := by omega
          have i4 : (i : Int) + 1 < 8 := by omega
          simp -implicitDefEqProofs [body_ref04_Number_0, mask_ref04_Number_0, w1, w2, w3, w4, w5, i1, i2, i3, i4, hb2])
        (fun n _ => by simp -implicitDefEqProofs [body_ref04_Number_0, hll]) (IntKind.i8.wrap (b[a].toNat : Int)) (by
          have := b[a].toNat_lt
          rw [i8_wrap]; simp; split <;> omega)
      have hf : ∀ (l : Txt) (i : Nat) (n : Int), foldI (fun _ (n : Int) (c : UInt8) => n * 256 + c.toNat) l i n = sb l n := by
        intro l
        induction l with
        | nil => intro i n; rfl
        | cons c r ih => intro i n; rw [foldI_cons, ih]; rfl
      rw [hf] at hL
      have hw := wrap_ok (a := IntKind.i8.wrap (b[a].toNat : Int)) (by have := b[a].toNat_lt; rw [i8_wrap]; split <;> omega) (by have := b[a].toNat_lt; rw [i8_wrap]; split <;> omega)
      generalize sb l _ = N at *
      simp -implicitDefEqProofs [rdAdv, hc] at ht
      simp -implicitDefEqProofs at hL
      simp -implicitDefEqProofs [code_ref04_Number, rdAdv, ht, hc, hi, hw]
      rw [hL _ (by simp -implicitDefEqProofs [mask_ref04_Number_0])]
      simp -implicitDefEqProofs

theorem run_04Left (p : Rd) (hp : RdOK p) : R F_ref04_Left [rdA p] [] = some (.d (.int .i64 (((rdO p).getD []).length : Nat)), []) := by
  refine R_of at_ref04_Left (by decide) ?_
  obtain ⟨b, a, x⟩ := p
  obtain ⟨h1, h2⟩ := hp
  simp only at h1 h2
  unfold BIG at h2
  have w1 := wrap_ok (a := (b.length : Int) - a) (by omega) (by omega)
  cases x with
  | true => simp -implicitDefEqProofs [code_ref04_Left, rdO]
  | false =>
    simp -implicitDefEqProofs [code_ref04_Left, rdO, w1]
    omega
end Bz.S
