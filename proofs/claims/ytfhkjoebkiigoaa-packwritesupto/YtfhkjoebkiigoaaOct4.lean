/- Numbers, texts and values as octets: the program's package octet (put), and the page's (ref04), walked. -/
import Derived.Test.YtfhkjoebkiigoaaOct
import Derived.Test.YtfhkjoebkiigoaaVal
set_option linter.unusedSimpArgs false
set_option linter.unusedVariables false
namespace Bz.S
open Go Bz
set_option maxRecDepth 10000
set_option maxHeartbeats 4000000

/-- a number's octets -/
def n8 (n : Int) : Txt := [toB (n.fdiv (2 ^ 56)), toB (n.fdiv (2 ^ 48)), toB (n.fdiv (2 ^ 40)), toB (n.fdiv (2 ^ 32)), toB (n.fdiv (2 ^ 24)), toB (n.fdiv (2 ^ 16)), toB (n.fdiv (2 ^ 8)), toB n]

theorem shr_ok {k : IntKind} {a b : Int} (h : 0 ≤ b) : abin .shr (.d (.int k a)) (.d (.int k b)) = some (.d (.int k (a.fdiv (2 ^ (min b.toNat k.bits))))) := by
  have : ¬ b < 0 := by omega
  simp [abin, this]

def owInt (w : Ow) (n : Int) : Ow := if w.e = 0 then ⟨w.b ++ n8 n, 0⟩ else w
theorem run_OutInt (w : Ow) (n : Int) (hl : w.b.length + 8 ≤ LIM) : R F_octet_Out_Int [.pv 0 0, .d (.int .i64 n)] (owH w) = some (.tup [], owH (owInt w n)) := by
  refine R_of at_octet_Out_Int (by decide) ?_
  obtain ⟨b, x⟩ := w
  simp only at hl
  have hf := run_fail ⟨b, x⟩ 0
  have bb : IntKind.i64.bits = 64 := rfl
  have hw : ∀ z : Int, -8 ≤ z → z ≤ 56 → IntKind.i64.wrap z = z := fun z h1 h2 => wrap_ok (by omega) (by omega)
  by_cases h : x = 0
  · subst h
    simp -implicitDefEqProofs [owFail, owH] at hf
    have hL := loop_fold (X := X) (mask := mask_octet_Out_Int_0) (body := body_octet_Out_Int_0) [56, 48, 40, 32, 24, 16, 8, 0]
      (fun i (c : Txt) => ⟨mkE 24 [(0, .pv 0 0), (1, .d (.int .i64 n)), (4, .d (.int .i64 (56 - 8 * (i : Int))))], [(0, .var [.os 1 c.length 0 c.length, .d (.int .i64 0)]), (1, .arr 1 (c.map byC))]⟩)
      (fun i c => c.length = b.length + i) (fun _ c (s : Nat) => c ++ [toB (n.fdiv (2 ^ s))])
      (fun c => (.exit 0, ⟨mkE 24 [], [(0, .var [.os 1 c.length 0 c.length, .d (.int .i64 0)]), (1, .arr 1 (c.map byC))]⟩)) (by simp)
      (fun i c s hi hs hI => by
        have hcl : c.length + 1 ≤ LIM := by simp at hi; omega
        have hi8 : i < 8 := hi
        refine ⟨by simp; omega, ?_⟩
        rcases (by omega : i = 0 ∨ i = 1 ∨ i = 2 ∨ i = 3 ∨ i = 4 ∨ i = 5 ∨ i = 6 ∨ i = 7) with rfl | rfl | rfl | rfl | rfl | rfl | rfl | rfl
        all_goals
          simp at hs
          subst hs
          simp -implicitDefEqProofs [body_octet_Out_Int_0, mask_octet_Out_Int_0, hcl, shr_ok, hw, bb]) (fun c _ => by simp -implicitDefEqProofs [body_octet_Out_Int_0]) b (by simp)
    have hfo : foldI (fun _ (c : Txt) (s : Nat) => c ++ [toB (n.fdiv (2 ^ s))]) [56, 48, 40, 32, 24, 16, 8, 0] 0 b = b ++ n8 n := by
      simp only [foldI_cons, foldI_nil, n8, List.append_assoc, List.cons_append, List.nil_append]
      simp
    rw [hfo] at hL
    simp -implicitDefEqProofs [code_octet_Out_Int, owInt, hf]
    rw [hL _ (by simp -implicitDefEqProofs [mask_octet_Out_Int_0])]
    simp -implicitDefEqProofs
  · have h' : ¬ x = 0 := h
    simp -implicitDefEqProofs [owFail, h] at hf
    simp -implicitDefEqProofs [code_octet_Out_Int, owInt, h, hf]

theorem shr8 (a : Int) : abin .shr (.d (.int .i64 a)) (.d (.int .u64 8)) = some (.d (.int .i64 (a.fdiv 256))) := rfl
theorem toB_and (m : Int) : toB (andK .i64 m 255) = toB m := by
  apply UInt8.toNat_inj.1
  have h2 := toB_val m
  have e : (BitVec.ofInt 64 m &&& BitVec.ofInt 64 255).toNat = (m % 18446744073709551616).toNat % 256 := by
    rw [BitVec.toNat_and, BitVec.toNat_ofInt]
    have : (BitVec.ofInt 64 255).toNat = 2 ^ 8 - 1 := by decide
    rw [this, Nat.and_two_pow_sub_one_eq_mod]
    rfl
  have e2 : andK .i64 m 255 = (((m % 18446744073709551616).toNat % 256 : Nat) : Int) := by
    unfold andK
    rw [show IntKind.i64.bits = 64 from rfl, e]
    exact wrap_ok (by omega) (by omega)
  rw [e2]
  have h1 := toB_val (((m % 18446744073709551616).toNat % 256 : Nat) : Int)
  omega

theorem run_04Int (n : Int) : R F_ref04_Int [.d (.int .i64 n)] [] = some (byS (n8 n), []) := by
  refine R_of at_ref04_Int (by decide) ?_
  have hL := loop_fold (X := X) (mask := mask_ref04_Int_0) (body := body_ref04_Int_0) [0, 1, 2, 3, 4, 5, 6, 7]
    (fun i (a : Int × Txt) => ⟨mkE 19 [(0, .d (.int .i64 a.1)), (3, .os 20000 8 0 8), (4, .d (.int .i64 (7 - (i : Int))))], [(20000, .arr 1 (a.2.map byC))]⟩)
    (fun i a => a.2.length = 8) (fun _ a (j : Nat) => (a.1.fdiv 256, a.2.set (7 - j) (toB a.1)))
    (fun a => (.exit 0, ⟨mkE 19 [(3, .os 20000 8 0 8)], [(20000, .arr 1 (a.2.map byC))]⟩)) (by simp)
    (fun i a s hi hs hI => by
      obtain ⟨m, b⟩ := a
      simp only at hI
      refine ⟨by simp [hI], ?_⟩
      have hi8 : i < 8 := hi
      have bb : IntKind.u64.bits = 64 := rfl
      have bb2 : IntKind.i64.bits = 64 := rfl
      have hw : ∀ z : Int, -8 ≤ z → z ≤ 56 → IntKind.i64.wrap z = z := fun z h1 h2 => wrap_ok (by omega) (by omega)
      rcases (by omega : i = 0 ∨ i = 1 ∨ i = 2 ∨ i = 3 ∨ i = 4 ∨ i = 5 ∨ i = 6 ∨ i = 7) with rfl | rfl | rfl | rfl | rfl | rfl | rfl | rfl
      all_goals
        simp at hs
        subst hs
        simp -implicitDefEqProofs [body_ref04_Int_0, mask_ref04_Int_0, hw, shr8, toB_and, hI]) (fun a hI => by simp -implicitDefEqProofs [body_ref04_Int_0]) (n, List.replicate 8 0) (by simp)
  have hlim : 8 ≤ LIM := by unfold LIM; omega
  simp -implicitDefEqProofs [code_ref04_Int, hlim]
  have ez : ([[D.int .u8 0], [.int .u8 0], [.int .u8 0], [.int .u8 0], [.int .u8 0], [.int .u8 0], [.int .u8 0], [.int .u8 0]] : List (List D)) = (List.replicate 8 (0 : UInt8)).map byC := rfl
  rw [hL _ (by simp -implicitDefEqProofs [mask_ref04_Int_0])]
  simp -implicitDefEqProofs [foldI_cons, n8]
  have f : ∀ (a b : Int), 0 ≤ b → a.fdiv b = a / b := fun a b h => Int.fdiv_eq_ediv_of_nonneg a h
  have f0 : ∀ a : Int, a.fdiv 256 = a / 256 := fun a => f a 256 (by omega)
  rw [f n 72057594037927936 (by omega), f n 281474976710656 (by omega), f n 1099511627776 (by omega), f n 4294967296 (by omega), f n 16777216 (by omega), f n 65536 (by omega)]
  simp only [f0]
  have q2 : n / 256 / 256 = n / 65536 := by omega
  have q3 : n / 65536 / 256 = n / 16777216 := by omega
  have q4 : n / 16777216 / 256 = n / 4294967296 := by omega
  have q5 : n / 4294967296 / 256 = n / 1099511627776 := by omega
  have q6 : n / 1099511627776 / 256 = n / 281474976710656 := by omega
  have q7 : n / 281474976710656 / 256 = n / 72057594037927936 := by omega
  simp only [q2, q3, q4, q5, q6, q7, and_self]
/-- a text's octets -/
def txB (s : Txt) : Txt := toB s.length :: s
theorem run_04Text (s : Txt) (hl : s.length + 1 ≤ LIM) : R F_ref04_Text [.d (.str s)] [] = some (byS (txB s), []) := by
  refine R_of at_ref04_Text (by decide) ?_
  have h2 : s.length ≤ LIM := by omega
  have h3 : 1 + s.length ≤ LIM := by omega
  simp -implicitDefEqProofs [code_ref04_Text, txB, hl, h2, h3, Nat.add_comm 1 s.length]

def owText (w : Ow) (s : Txt) : Ow := if w.e = 0 then (if 255 < s.length then ⟨w.b, 5⟩ else ⟨w.b ++ txB s, 0⟩) else w
theorem run_OutText (w : Ow) (s : Txt) (hs : s.length ≤ LIM) (hl : w.b.length + 256 ≤ LIM) : R F_octet_Out_Text [.pv 0 0, .d (.str s)] (owH w) = some (.tup [], owH (owText w s)) := by
  refine R_of at_octet_Out_Text (by decide) ?_
  obtain ⟨b, x⟩ := w
  simp only at hl
  have hf := fun e => run_fail ⟨b, x⟩ e
  by_cases h : x = 0
  · subst h
    simp -implicitDefEqProofs [owFail, owH] at hf
    by_cases h2 : 255 < s.length
    · have h3 : (255 : Int) < s.length := by omega
      simp -implicitDefEqProofs [code_octet_Out_Text, owText, hf, h2, h3, hs]
    · have h3 : ¬ (255 : Int) < s.length := by omega
      have h4 : b.length + 1 + s.length ≤ LIM := by omega
      have h5 : b.length + 1 ≤ LIM := by omega
      simp -implicitDefEqProofs [code_octet_Out_Text, owText, hf, h2, h3, txB, h4, h5, hs]
      omega
  · simp -implicitDefEqProofs [owFail, h] at hf
    by_cases h2 : 255 < s.length
    · have h3 : (255 : Int) < s.length := by omega
      simp -implicitDefEqProofs [code_octet_Out_Text, owText, hf, h, h3, hs]
    · have h3 : ¬ (255 : Int) < s.length := by omega
      simp -implicitDefEqProofs [code_octet_Out_Text, owText, hf, h, h3, hs]
/-! ### values -/
/-- a value's octets, of one that may be -/
def vaB (v : Va) : Txt := toB v.kind :: (if v.kind = 1 then n8 v.n else if v.kind = 2 then [toB v.n] else if v.kind = 3 then txB v.s else if v.kind = 4 then toB v.l.length :: v.l.flatMap txB else [])

def owValue (w : Ow) (v : Va) : Ow :=
  if w.e = 0 then (if vaCheck v = 0 then ⟨w.b ++ vaB v, 0⟩ else ⟨w.b, vaCheck v⟩) else w

structure VaGood (v : Va) : Prop where
  k : v.kind = 1 ∨ v.kind = 2 ∨ v.kind = 3 ∨ v.kind = 4
  s : v.s.length ≤ 32
  ls : ∀ t ∈ v.l, t.length ≤ 32
  l : v.l.length ≤ 8
  odd : oddVa v = false
theorem va_good {v : Va} (h : vaCheck v = 0) : VaGood v := by
  unfold vaCheck at h
  split at h
  · cases h
  · split at h
    · cases h
    · split at h
      · cases h
      · split at h
        · cases h
        · rename_i h1 h2 h3 h4
          have h2' : longS v.s = false ∧ v.l.any longS = false := by simpa using h2
          refine ⟨by omega, by have := h2'.1; simp [longS] at this; omega, fun t ht => ?_, by omega, by simpa using h4⟩
          have := List.any_eq_false.1 h2'.2 t ht
          simp [longS] at this
          omega
theorem va_two {v : Va} (h : VaGood v) (hk : v.kind = 2) : v.n = 0 ∨ v.n = 1 := by
  have := h.odd
  simp [oddVa, hk] at this
  omega

theorem run_OutByteOk (b : Txt) (n : Int) (h0 : 0 ≤ n) (h1 : n ≤ 255) (hl : b.length + 1 ≤ LIM) : R F_octet_Out_Byte [.pv 0 0, .d (.int .i64 n)] (owH ⟨b, 0⟩) = some (.tup [], owH ⟨b ++ [toB n], 0⟩) := by
  have h := run_OutByte ⟨b, 0⟩ n hl
  have e : owByte ⟨b, 0⟩ n = ⟨b ++ [toB n], 0⟩ := by
    have h2 : ¬ (n < 0 ∨ 255 < n) := by omega
    simp [owByte, h2]
  rw [e] at h; exact h
theorem run_OutTextOk (b : Txt) (s : Txt) (hs : s.length ≤ 255) (hl : b.length + 256 ≤ LIM) : R F_octet_Out_Text [.pv 0 0, .d (.str s)] (owH ⟨b, 0⟩) = some (.tup [], owH ⟨b ++ txB s, 0⟩) := by
  have h := run_OutText ⟨b, 0⟩ s (by omega) hl
  have e : owText ⟨b, 0⟩ s = ⟨b ++ txB s, 0⟩ := by
    have h2 : ¬ (255 < s.length) := by omega
    simp [owText, h2]
  rw [e] at h; exact h

end Bz.S
