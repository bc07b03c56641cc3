/- The order that a sort is handed, walked without anything that stands for the library. -/
import Derived.Test.YtddljfbalbnkcaaVal
import Derived.Test.YtddljfbalbnkcaaTypM
set_option linter.unusedSimpArgs false
set_option linter.unusedVariables false
namespace Bz.S
open Go Bz
set_option maxRecDepth 10000
set_option maxHeartbeats 4000000

noncomputable abbrev R0 : Callee := RUN own retOwn extNone code
noncomputable abbrev X0 : Ctx := XL own retOwn extNone code
theorem XC0 : (XL own retOwn extNone code).C = R0 := rfl
attribute [simp] XC0
theorem R0_of {f : Nat} {fn : AFunc} {args : List AV} {H : Heap} {r : AV × Heap} (hc : code f = some fn) (_hf : extL.contains f = false) (h : finish X0 f fn.results H (exL X0 fn.body (start fn.ntmps args H)) = some r) :
    R0 f args H = some r := RUN_of own retOwn extNone code rfl hc h
theorem or0E_cons (a : Int) (l : List Int) : ((a :: l).find? fun x => decide (¬ x = 0)).getD 0 = if a = 0 then (l.find? fun x => decide (¬ x = 0)).getD 0 else a := by
  rw [List.find?_cons]
  by_cases h : a = 0 <;> simp [h]

theorem run0_isNaNi (a : Int) : R0 F_cmp_isNaN_int [.d (.int .i64 a)] [] = some (.d (.bool false), []) := by
  refine R0_of at_cmp_isNaN_int (by decide) ?_
  simp -implicitDefEqProofs [code_cmp_isNaN_int]
theorem run0_isNaNs (a : Txt) : R0 F_cmp_isNaN_string [.d (.str a)] [] = some (.d (.bool false), []) := by
  refine R0_of at_cmp_isNaN_string (by decide) ?_
  simp -implicitDefEqProofs [code_cmp_isNaN_string]
theorem run0_cmpInt (a b : Int) : R0 F_cmp_Compare_int [.d (.int .i64 a), .d (.int .i64 b)] [] = some (.d (.int .i64 (cmpIB a b)), []) := by
  refine R0_of at_cmp_Compare_int (by decide) ?_
  unfold cmpIB
  by_cases h1 : a < b
  · simp -implicitDefEqProofs [code_cmp_Compare_int, run0_isNaNi, h1]
  · by_cases h2 : b < a
    · simp -implicitDefEqProofs [code_cmp_Compare_int, run0_isNaNi, h1, h2]
    · simp -implicitDefEqProofs [code_cmp_Compare_int, run0_isNaNi, h1, h2]
theorem run0_cmpStr (a b : Txt) : R0 F_cmp_Compare_string [.d (.str a), .d (.str b)] [] = some (.d (.int .i64 (cmpSB a b)), []) := by
  refine R0_of at_cmp_Compare_string (by decide) ?_
  have hl := bl_leq a b
  unfold cmpSB
  cases h1 : Op.bytesLess a b with
  | true => simp -implicitDefEqProofs [code_cmp_Compare_string, run0_isNaNs, h1]
  | false =>
    rw [h1, Bool.false_or] at hl
    cases h2 : Op.bytesLess b a with
    | true =>
      rw [h2] at hl
      have hne : ¬ a = b := by intro h; subst h; simp at hl
      simp -implicitDefEqProofs [code_cmp_Compare_string, run0_isNaNs, h1, hne]
    | false =>
      rw [h2] at hl
      have he : a = b := by simpa using hl
      subst he
      simp -implicitDefEqProofs [code_cmp_Compare_string, run0_isNaNs, h1]

/-- the first that is not nothing -/
def or0E (l : List Int) : Int := (l.find? fun x => decide (¬ x = 0)).getD 0
theorem run0_Or (l : List Int) (hl : l.length ≤ BIG) : R0 F_cmp_Or_int [i6S l] [] = some (.d (.int .i64 (or0E l)), []) := by
  refine R0_of at_cmp_Or_int (by decide) ?_
  unfold BIG at hl
  have hL := loop_list (X := X0) (mask := mask_cmp_Or_int_0) (body := body_cmp_Or_int_0) l
    (fun i (_ : Unit) => ⟨mkE 18 [(3, .d (.int .i64 0)), (6, i6S l), (7, .d (.int .i64 l.length)), (8, .d (.int .i64 i))], []⟩) (fun _ _ => True)
    (fun _ _ x => if x = 0 then Sum.inl () else Sum.inr x) (fun _ => (.exit 0, ⟨mkE 18 [(3, .d (.int .i64 0))], []⟩)) (fun x => (.ret, ⟨mkE 18 [(2, .d (.int .i64 x))], []⟩)) (by simp) (by simp)
    (fun i a x hi hx _ => by
      have hw := wrap_ok (a := (i : Int) + 1) (by omega) (by omega)
      by_cases hz : x = 0
      · subst hz
        simp only [if_true, Round_inl]
        refine ⟨trivial, ?_⟩
        simp -implicitDefEqProofs [body_cmp_Or_int_0, mask_cmp_Or_int_0, hi, hx, hw]
      · simp only [if_neg hz, Round_inr]
        simp -implicitDefEqProofs [body_cmp_Or_int_0, mask_cmp_Or_int_0, hi, hx, hz]) (fun a _ => by simp -implicitDefEqProofs [body_cmp_Or_int_0]) () trivial
  have hf : ∀ (l : List Int) (i : Nat), foldS (fun _ (_ : Unit) (x : Int) => if x = 0 then Sum.inl () else Sum.inr x) l i () = match l.find? fun x => decide (¬ x = 0) with | none => .inl () | some x => .inr x := by
    intro l
    induction l with
    | nil => intro i; rfl
    | cons x r ih =>
      intro i
      rw [foldS_cons]
      by_cases hz : x = 0
      · simp only [hz, if_true, List.find?_cons]
        simp only [not_true_eq_false, decide_false]
        exact ih (i + 1)
      · simp [hz]
  rw [hf] at hL
  unfold or0E
  generalize (l.find? fun x => decide (¬ x = 0)) = o at *
  simp -implicitDefEqProofs [code_cmp_Or_int]
  rw [hL _ (by simp -implicitDefEqProofs [mask_cmp_Or_int_0])]
  cases o <;> simp -implicitDefEqProofs


theorem run0_cmpIT (x y : Int × List UInt8) : R0 F_reads_compare [.agg ((encIT x).map .d), .agg ((encIT y).map .d)] [] = some (.d (.int .i64 (cfIT x y)), []) := by
  refine R0_of at_reads_compare (by decide) ?_
  obtain ⟨a, b⟩ := x
  obtain ⟨c, d⟩ := y
  have h1 := run0_cmpInt a c
  have h2 := run0_cmpStr b d
  have h3 := run0_Or [cmpIB a c, cmpSB b d] (by simp [BIG])
  have e : or0E [cmpIB a c, cmpSB b d] = cfIT (a, b) (c, d) := by
    unfold or0E cfIT lexB
    rw [or0E_cons, or0E_cons]
    simp only [List.find?_nil, Option.getD_none]
    by_cases h : cmpIB a c = 0 <;> by_cases h' : cmpSB b d = 0 <;> simp [h, h']
  rw [e] at h3
  simp -implicitDefEqProofs [i6S] at h3
  simp -implicitDefEqProofs [code_reads_compare, encIT, h1, h2, h3]
end Bz.S
