/- Octets that are put, and octets that are read: the program's package octet, walked. -/
import Derived.Test.YtfhkjoebkiigoaaEx
set_option linter.unusedSimpArgs false
set_option linter.unusedVariables false
namespace Bz.S
open Go Bz
set_option maxRecDepth 10000
set_option maxHeartbeats 4000000

/-- octets as data -/
abbrev byS (s : Txt) : AV := .d (.vs false (s.map byC))

/-! ### octets that are put -/
/-- what is put: the octets, and the first error -/
structure Ow where
  b : Txt
  e : Int

abbrev owH (w : Ow) : Heap := [(0, .var [.os 1 w.b.length 0 w.b.length, .d (.int .i64 w.e)]), (1, .arr 1 (w.b.map byC))]

def owFail (w : Ow) (e : Int) : Ow := if w.e = 0 then ⟨w.b, e⟩ else w
def owByte (w : Ow) (n : Int) : Ow := if w.e = 0 then (if n < 0 ∨ 255 < n then ⟨w.b, 4⟩ else ⟨w.b ++ [toB n], 0⟩) else w

theorem run_fail (w : Ow) (e : Int) : R F_octet_Out_fail [.pv 0 0, .d (.int .i64 e)] (owH w) = some (.d (.bool (!decide ((owFail w e).e = 0))), owH (owFail w e)) := by
  refine R_of at_octet_Out_fail (by decide) ?_
  obtain ⟨b, x⟩ := w
  by_cases h : x = 0
  · subst h; simp -implicitDefEqProofs [code_octet_Out_fail, owFail]
  · simp -implicitDefEqProofs [code_octet_Out_fail, owFail, h]

theorem run_OutByte (w : Ow) (n : Int) (hl : w.b.length + 1 ≤ LIM) : R F_octet_Out_Byte [.pv 0 0, .d (.int .i64 n)] (owH w) = some (.tup [], owH (owByte w n)) := by
  refine R_of at_octet_Out_Byte (by decide) ?_
  obtain ⟨b, x⟩ := w
  simp only at hl
  have hf := fun e => run_fail ⟨b, x⟩ e
  by_cases h : x = 0
  · subst h
    simp -implicitDefEqProofs [owFail] at hf
    by_cases h1 : n < 0
    · simp -implicitDefEqProofs [code_octet_Out_Byte, owByte, h1, hf]
    · by_cases h2 : 255 < n
      · simp -implicitDefEqProofs [code_octet_Out_Byte, owByte, h1, h2, hf]
      · simp -implicitDefEqProofs [code_octet_Out_Byte, owByte, h1, h2, hf, hl]
  · simp -implicitDefEqProofs [owFail, h] at hf
    by_cases h1 : n < 0
    · simp -implicitDefEqProofs [code_octet_Out_Byte, owByte, h, h1, hf]
    · by_cases h2 : 255 < n
      · simp -implicitDefEqProofs [code_octet_Out_Byte, owByte, h, h1, h2, hf]
      · simp -implicitDefEqProofs [code_octet_Out_Byte, owByte, h, h1, h2, hf]

/-- all of it -/
def owDone (w : Ow) : Txt × Int := if w.e = 0 then (w.b, 0) else ([], w.e)
theorem run_Done (w : Ow) (hl : w.b.length ≤ LIM) : R F_octet_Out_Done [.pv 0 0] (owH w) = some (.tup [byS (owDone w).1, .d (.int .i64 (owDone w).2)], owH w) := by
  refine R_of at_octet_Out_Done (by decide) ?_
  obtain ⟨b, x⟩ := w
  simp only at hl
  by_cases h : x = 0
  · subst h; simp -implicitDefEqProofs [code_octet_Out_Done, owDone, hl]
  · simp -implicitDefEqProofs [code_octet_Out_Done, owDone, h]

/-! ### octets that are read -/
/-- what is left to be read; none: there was an error -/
abbrev inH : Option Txt → Heap
  | some b => [(0, .var [byS b, .d (.bool true), .d (.int .i64 0)])]
  | none => [(0, .var [.d (.vs true []), .d (.bool true), .d (.int .i64 16)])]

def inTake (r : Option Txt) (n : Nat) : Txt × Option Txt := match r with
  | none => ([], none)
  | some b => if b.length < n then ([], none) else (b.take n, some (b.drop n))
def inByte (r : Option Txt) : Int × Option Txt := match r with
  | some (c :: b) => (c.toNat, some b)
  | _ => (0, none)

theorem run_Open (b : Txt) (hl : b.length ≤ LIM) : R F_octet_Open [byS b] [] = some (.pv 0 0, inH (some b)) := by
  refine R_of at_octet_Open (by decide) ?_
  simp -implicitDefEqProofs [code_octet_Open, hl]

theorem run_bad (r : Option Txt) : R F_octet_In_bad [.pv 0 0] (inH r) = some (.tup [], inH none) := by
  refine R_of at_octet_In_bad (by decide) ?_
  cases r <;> simp -implicitDefEqProofs [code_octet_In_bad]

theorem run_Err (r : Option Txt) : R F_octet_In_Err [.pv 0 0] (inH r) = some (.d (.int .i64 (if r.isSome then 0 else 16)), inH r) := by
  refine R_of at_octet_In_Err (by decide) ?_
  cases r <;> simp -implicitDefEqProofs [code_octet_In_Err]

theorem run_Left (r : Option Txt) : R F_octet_In_Left [.pv 0 0] (inH r) = some (.d (.int .i64 ((r.getD []).length : Nat)), inH r) := by
  refine R_of at_octet_In_Left (by decide) ?_
  cases r <;> simp -implicitDefEqProofs [code_octet_In_Left]

theorem run_take (r : Option Txt) (n : Nat) : R F_octet_In_take [.pv 0 0, .d (.int .i64 n)] (inH r) = some (byS (inTake r n).1, inH (inTake r n).2) := by
  refine R_of at_octet_In_take (by decide) ?_
  cases r with
  | none => simp -implicitDefEqProofs [code_octet_In_take, inTake]
  | some b =>
    by_cases h : b.length < n
    · have hb := run_bad (some b)
      simp -implicitDefEqProofs [code_octet_In_take, inTake, h, hb]
    · have h' : n ≤ b.length := by omega
      cases n with
      | zero => simp -implicitDefEqProofs [code_octet_In_take, inTake]
      | succ n =>
        have h0 : ¬ (n : Int) + 1 = 0 := by omega
        have h1 : (0 : Int) ≤ (n : Int) + 1 := by omega
        have h2 : (n : Int) + 1 ≤ (b.length : Int) := by omega
        have h3 : ¬ (b.length : Int) < (n : Int) + 1 := by omega
        have h4 : ((n : Int) + 1).toNat = n + 1 := by omega
        have h5 : b.length ≤ b.length := Nat.le_refl _
        simp -implicitDefEqProofs [code_octet_In_take, inTake, h, h0, h1, h2, h3, h4]
end Bz.S
