/- Octets, numbers and texts that are read: the program's package octet, walked. -/
import Derived.Test.YtfhkjoebkiigoaaOct
set_option linter.unusedSimpArgs false
set_option linter.unusedVariables false
namespace Bz.S
open Go Bz
set_option maxRecDepth 10000
set_option maxHeartbeats 4000000

/-! ### one octet that is read -/
theorem run_InByte (r : Option Txt) : R F_octet_In_Byte [.pv 0 0] (inH r) = some (.d (.int .i64 (inByte r).1), inH (inByte r).2) := by
  refine R_of at_octet_In_Byte (by decide) ?_
  have ht := run_take r 1
  match r with
  | none =>
    simp -implicitDefEqProofs [inTake] at ht
    simp -implicitDefEqProofs [code_octet_In_Byte, inByte, ht]
    rw [loop_end (e := .exit 0) (s' := ⟨mkE 15 [], inH none⟩) (by simp -implicitDefEqProofs [mask_octet_In_Byte_0, body_octet_In_Byte_0]) (by simp)]
    simp -implicitDefEqProofs
  | some [] =>
    simp -implicitDefEqProofs [inTake, inH, byS] at ht
    simp -implicitDefEqProofs [code_octet_In_Byte, inByte, ht]
    rw [loop_end (e := .exit 0) (s' := ⟨mkE 15 [], inH none⟩) (by simp -implicitDefEqProofs [mask_octet_In_Byte_0, body_octet_In_Byte_0]) (by simp)]
    simp -implicitDefEqProofs
  | some (c :: b) =>
    have hl : ¬ b.length + 1 < 1 := by omega
    simp -implicitDefEqProofs [inTake, hl, inH, byS] at ht
    have hw := wrap_ok (a := (c.toNat : Int)) (by omega) (by have := c.toNat_lt; omega)
    simp -implicitDefEqProofs [code_octet_In_Byte, inByte, ht]
    rw [loop_end (e := .ret) (s' := ⟨mkE 15 [(2, .d (.int .i64 c.toNat))], inH (some b)⟩) (by simp -implicitDefEqProofs [mask_octet_In_Byte_0, body_octet_In_Byte_0, hw]) (by simp)]
    simp -implicitDefEqProofs

abbrev inV (r : Option Txt) : AObj := .var [.d (.vs r.isNone ((r.getD []).map byC)), .d (.bool true), .d (.int .i64 (if r.isNone then 16 else 0))]
theorem inH_eq (r : Option Txt) : inH r = [(0, inV r)] := by cases r <;> rfl

theorem inByte_lo (r : Option Txt) : 0 ≤ (inByte r).1 ∧ (inByte r).1 ≤ 255 := by
  unfold inByte
  split
  · rename_i c b; have := c.toNat_lt; simp; omega
  · simp


/-! ### a number that is read -/
/-- octets as one number, the first one the highest -/
def be (b : Txt) : Nat := b.foldl (fun n c => n * 256 + c.toNat) 0
theorem be_step {b : Txt} : ∀ (n : Nat), b.foldl (fun n c => n * 256 + c.toNat) n < (n + 1) * 256 ^ b.length := by
  induction b with
  | nil => intro n; simp
  | cons c r ih =>
    intro n
    have h := ih (n * 256 + c.toNat)
    have hc := c.toNat_lt
    simp only [List.foldl_cons, List.length_cons, Nat.pow_succ]
    have : (n * 256 + c.toNat + 1) * 256 ^ r.length ≤ ((n + 1) * 256) * 256 ^ r.length := Nat.mul_le_mul_right _ (by omega)
    calc _ < _ := h
      _ ≤ _ := this
      _ = _ := by rw [Nat.mul_assoc, Nat.mul_comm 256]

theorem wrap_u64 {a : Int} (h1 : 0 ≤ a) (h2 : a < 18446744073709551616) : IntKind.u64.wrap a = a := by
  simp [IntKind.wrap, IntKind.signed, IntKind.bits]
  omega
theorem or_shift (a c : Nat) (ha : a < 2 ^ 56) (hc : c < 256) : orK .u64 ((a * 256 : Nat) : Int) (c : Int) = ((a * 256 + c : Nat) : Int) := by
  have e : (BitVec.ofInt 64 ((a * 256 : Nat) : Int) ||| BitVec.ofInt 64 (c : Int)).toNat = a * 256 + c := by
    rw [BitVec.toNat_or, BitVec.toNat_ofInt, BitVec.toNat_ofInt]
    have h1 : (((a * 256 : Nat) : Int) % ((2 ^ 64 : Nat) : Int)).toNat = a * 256 := by omega
    have h2 : ((c : Int) % ((2 ^ 64 : Nat) : Int)).toNat = c := by omega
    rw [h1, h2, show a * 256 = 2 ^ 8 * a by omega, ← Nat.two_pow_add_eq_or_of_lt (by omega : c < 2 ^ 8)]
  unfold orK
  rw [show IntKind.u64.bits = 64 from rfl, e]
  exact wrap_u64 (by omega) (by omega)

theorem shl8 (a : Int) : abin .shl (.d (.int .u64 a)) (.d (.int .u64 8)) = some (.d (.int .u64 (IntKind.u64.wrap (a * 256)))) := rfl
theorem take_8 (r : Option Txt) : (inTake r 8).1.length ≤ 8 := by
  unfold inTake
  split
  · simp
  · split <;> simp; omega
def inInt (r : Option Txt) : Int × Option Txt := (IntKind.i64.wrap (be (inTake r 8).1), (inTake r 8).2)
theorem run_InInt (r : Option Txt) : R F_octet_In_Int [.pv 0 0] (inH r) = some (.d (.int .i64 (inInt r).1), inH (inInt r).2) := by
  refine R_of at_octet_In_Int (by decide) ?_
  have ht := run_take r 8
  have h8 := take_8 r
  unfold inInt
  generalize inTake r 8 = x at ht h8 ⊢
  obtain ⟨t, r'⟩ := x
  simp only at ht h8 ⊢
  have hL := loop_fold (X := X) (mask := mask_octet_In_Int_0) (body := body_octet_In_Int_0) t
    (fun i (n : Nat) => ⟨mkE 21 [(3, .d (.int .u64 (n : Int))), (7, byS t), (8, .d (.int .i64 t.length)), (9, .d (.int .i64 i))], inH r'⟩)
    (fun i n => n < 256 ^ i) (fun _ n c => n * 256 + c.toNat) (fun n => (.exit 0, ⟨mkE 21 [(3, .d (.int .u64 (n : Int)))], inH r'⟩)) (by simp)
    (fun i n c hi hx hI => by
      have hw := wrap_ok (a := (i : Int) + 1) (by omega) (by omega)
      have hc := c.toNat_lt
      have hn : n < 2 ^ 56 := by
        have : 256 ^ i ≤ 256 ^ 7 := Nat.pow_le_pow_right (by omega) (by omega)
        omega
      have h1 : orK .u64 ((n : Int) * 256) (c.toNat : Int) = (n : Int) * 256 + c.toNat := by simpa using or_shift n c.toNat hn (by omega)
      have hw2 := wrap_u64 (a := (n : Int) * 256) (by omega) (by omega)
      have hw3 := wrap_u64 (a := (c.toNat : Int)) (by omega) (by omega)
      refine ⟨by rw [Nat.pow_succ]; omega, ?_⟩
      cases r' <;> simp -implicitDefEqProofs [inH, body_octet_In_Int_0, mask_octet_In_Int_0, hi, hx, hw, shl8, hw2, hw3, h1]) (fun n _ => by cases r' <;> simp -implicitDefEqProofs [inH, body_octet_In_Int_0]) 0 (by simp)
  have hf : ∀ (l : Txt) (i n : Nat), foldI (fun _ (n : Nat) (c : UInt8) => n * 256 + c.toNat) l i n = l.foldl (fun n c => n * 256 + c.toNat) n := by
    intro l
    induction l with
    | nil => intro i n; rfl
    | cons c r ih => intro i n; rw [foldI_cons, ih]; rfl
  rw [hf] at hL
  unfold be
  generalize t.foldl (fun n c => n * 256 + c.toNat) 0 = N at *
  cases r with
  | none =>
    cases r' <;> simp -implicitDefEqProofs [inH] at ht hL <;> simp -implicitDefEqProofs [inH, code_octet_In_Int, ht] <;> rw [hL _ (by simp -implicitDefEqProofs [mask_octet_In_Int_0])] <;> simp -implicitDefEqProofs
  | some b =>
    cases r' <;> simp -implicitDefEqProofs [inH] at ht hL <;> simp -implicitDefEqProofs [inH, code_octet_In_Int, ht] <;> rw [hL _ (by simp -implicitDefEqProofs [mask_octet_In_Int_0])] <;> simp -implicitDefEqProofs

/-! ### what is read, as one object -/
def inL (r : Option Txt) : List AV := [.d (.vs r.isNone ((r.getD []).map byC)), .d (.bool true), .d (.int .i64 (if r.isNone then 16 else 0))]
abbrev inW (r : Option Txt) : AObj := .var (inL r)
@[simp] theorem refsL_inL (r : Option Txt) : refsL (inL r) = [] := rfl
@[simp] theorem renL_inL (g : Nat → Nat) (r : Option Txt) : renL g (inL r) = inL r := rfl
theorem inH_W (r : Option Txt) : inH r = [(0, inW r)] := inH_eq r

theorem runw_Open (b : Txt) (hl : b.length ≤ LIM) : R F_octet_Open [byS b] [] = some (.pv 0 0, [(0, inW (some b))]) := run_Open b hl
theorem runw_bad (r : Option Txt) : R F_octet_In_bad [.pv 0 0] [(0, inW r)] = some (.tup [], [(0, inW none)]) := by rw [← inH_W, ← inH_W]; exact run_bad r
theorem runw_Err (r : Option Txt) : R F_octet_In_Err [.pv 0 0] [(0, inW r)] = some (.d (.int .i64 (if r.isSome then 0 else 16)), [(0, inW r)]) := by simpa only [inH_W] using run_Err r
theorem runw_Left (r : Option Txt) : R F_octet_In_Left [.pv 0 0] [(0, inW r)] = some (.d (.int .i64 ((r.getD []).length : Nat)), [(0, inW r)]) := by simpa only [inH_W] using run_Left r
theorem runw_take (r : Option Txt) (n : Nat) : R F_octet_In_take [.pv 0 0, .d (.int .i64 n)] [(0, inW r)] = some (byS (inTake r n).1, [(0, inW (inTake r n).2)]) := by simpa only [inH_W] using run_take r n
theorem runw_Byte (r : Option Txt) : R F_octet_In_Byte [.pv 0 0] [(0, inW r)] = some (.d (.int .i64 (inByte r).1), [(0, inW (inByte r).2)]) := by simpa only [inH_W] using run_InByte r
theorem runw_Int (r : Option Txt) : R F_octet_In_Int [.pv 0 0] [(0, inW r)] = some (.d (.int .i64 (inInt r).1), [(0, inW (inInt r).2)]) := by simpa only [inH_W] using run_InInt r

def inText (r : Option Txt) : Txt × Option Txt := inTake (inByte r).2 (inByte r).1.toNat
theorem runw_Text (r : Option Txt) : R F_octet_In_Text [.pv 0 0] [(0, inW r)] = some (.d (.str (inText r).1), [(0, inW (inText r).2)]) := by
  refine R_of at_octet_In_Text (by decide) ?_
  have h1 := runw_Byte r
  have h2 := runw_take (inByte r).2 (inByte r).1.toNat
  rw [show (((inByte r).1.toNat : Nat) : Int) = (inByte r).1 by have := inByte_lo r; omega] at h2
  simp -implicitDefEqProofs [code_octet_In_Text, h1, h2, inText]

theorem inTake_len (r : Option Txt) (n : Nat) : (inTake r n).1.length ≤ n := by
  unfold inTake
  split
  · simp
  · split <;> simp; omega
theorem inText_len (r : Option Txt) : (inText r).1.length ≤ 255 := by
  have h1 := inTake_len (inByte r).2 (inByte r).1.toNat
  have h2 := inByte_lo r
  unfold inText
  omega
end Bz.S
