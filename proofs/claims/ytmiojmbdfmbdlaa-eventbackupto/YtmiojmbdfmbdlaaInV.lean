/- Values that are read: the program's package octet, walked. -/
import Derived.Test.YtmiojmbdfmbdlaaIn
import Derived.Test.YtmiojmbdfmbdlaaVal
set_option linter.unusedSimpArgs false
set_option linter.unusedVariables false
namespace Bz.S
open Go Bz
set_option maxRecDepth 10000
set_option maxHeartbeats 4000000

/-- so many texts -/
def inTexts : Nat → Option Txt → List Txt × Option Txt
  | 0, r => ([], r)
  | n + 1, r => ((inText r).1 :: (inTexts n (inText r).2).1, (inTexts n (inText r).2).2)
theorem inTexts_len : ∀ (n : Nat) (r : Option Txt), (inTexts n r).1.length = n
  | 0, _ => rfl
  | n + 1, r => by simp [inTexts, inTexts_len n]
theorem inTexts_each : ∀ (n : Nat) (r : Option Txt), ∀ t ∈ (inTexts n r).1, t.length ≤ 255
  | 0, _, t, h => by simp [inTexts] at h
  | n + 1, r, t, h => by
    simp only [inTexts, List.mem_cons] at h
    rcases h with rfl | h
    · exact inText_len r
    · exact inTexts_each n _ t h

def inBody (k : Int) (r : Option Txt) : Va × Option Txt :=
  if k = 1 then (⟨1, (inInt r).1, [], []⟩, (inInt r).2) else if k = 2 then (⟨2, (inByte r).1, [], []⟩, (inByte r).2)
  else if k = 3 then (⟨3, 0, (inText r).1, []⟩, (inText r).2) else if k = 4 then (⟨4, 0, [], (inTexts (inByte r).1.toNat (inByte r).2).1⟩, (inTexts (inByte r).1.toNat (inByte r).2).2)
  else (⟨k, 0, [], []⟩, r)

theorem run_InBody (k : Int) (r : Option Txt) : R F_octet_In_body [.pv 0 0, .d (.int .i64 k)] [(0, inW r)] = some (vaA (inBody k r).1, [(0, inW (inBody k r).2)]) := by
  refine R_of at_octet_In_body (by decide) ?_
  by_cases k1 : k = 1
  · subst k1
    have h1 := runw_Int r
    simp -implicitDefEqProofs [code_octet_In_body, h1, inBody]
  · by_cases k2 : k = 2
    · subst k2
      have h1 := runw_Byte r
      simp -implicitDefEqProofs [code_octet_In_body, h1, inBody]
    · by_cases k3 : k = 3
      · subst k3
        have h1 := runw_Text r
        simp -implicitDefEqProofs [code_octet_In_body, h1, inBody]
      · by_cases k4 : k = 4
        · subst k4
          have h1 := runw_Byte r
          have hb := inByte_lo r
          have he : inBody 4 r = (⟨4, 0, [], (inTexts (inByte r).1.toNat (inByte r).2).1⟩, (inTexts (inByte r).1.toNat (inByte r).2).2) := by simp [inBody]
          rw [he]
          generalize inByte r = q at *
          obtain ⟨n, r1⟩ := q
          simp only at h1 hb ⊢
          obtain ⟨m, rfl⟩ : ∃ m : Nat, n = m := ⟨n.toNat, by omega⟩
          have hL := loop_fold (X := X) (mask := mask_octet_In_body_0) (body := body_octet_In_body_0) (List.replicate m ())
            (fun i (a : List Txt × Option Txt) => ⟨mkE 39 [(0, .pv 0 0), (4, .pv 10000 0), (5, .pv 20020 0), (27, .d (.int .i64 m)), (28, .d (.int .i64 i))], [(0, inW a.2), (10000, .var [.d (.int .i64 0), .d (.int .i64 0), .d (.str []), .d (.vs true [])]), (20020, .var [.d (.int .i64 4), .d (.int .i64 0), .d (.str []), .os 22002030 a.1.length 0 a.1.length]), (22002030, .arr 1 (a.1.map stC))]⟩)
            (fun i a => a.1.length = i) (fun _ a _ => (a.1 ++ [(inText a.2).1], (inText a.2).2))
            (fun a => (.exit 1, ⟨mkE 39 [(4, .pv 10000 0), (5, .pv 20020 0)], [(0, inW a.2), (10000, .var [.d (.int .i64 0), .d (.int .i64 0), .d (.str []), .d (.vs true [])]), (20020, .var [.d (.int .i64 4), .d (.int .i64 0), .d (.str []), .os 22002030 a.1.length 0 a.1.length]), (22002030, .arr 1 (a.1.map stC))]⟩)) (by simp)
            (fun i a _ hi hx hI => by
              obtain ⟨l, r2⟩ := a
              simp only at hI
              have hi' : i < m := by simpa using hi
              have h2 := runw_Text r2
              have hw := wrap_ok (a := (i : Int) + 1) (by omega) (by omega)
              have hll : l.length + 1 ≤ LIM := by unfold LIM; omega
              refine ⟨by simp [hI], ?_⟩
              simp -implicitDefEqProofs [body_octet_In_body_0, mask_octet_In_body_0, hi', h2, hw, hll])
            (fun a _ => by simp -implicitDefEqProofs [body_octet_In_body_0, mask_octet_In_body_0]) ([], r1) (by simp)
          have hf : ∀ (n i : Nat) (l : List Txt) (r : Option Txt), foldI (fun _ (a : List Txt × Option Txt) (_ : Unit) => (a.1 ++ [(inText a.2).1], (inText a.2).2)) (List.replicate n ()) i (l, r) = (l ++ (inTexts n r).1, (inTexts n r).2) := by
            intro n
            induction n with
            | zero => intro i l r; simp [inTexts]
            | succ n ih => intro i l r; rw [List.replicate_succ, foldI_cons, ih]; simp [inTexts]
          rw [hf] at hL
          simp -implicitDefEqProofs [code_octet_In_body, h1]
          rw [hL _ (by simp -implicitDefEqProofs [mask_octet_In_body_0])]
          simp -implicitDefEqProofs
        · simp -implicitDefEqProofs [code_octet_In_body, k1, k2, k3, k4, inBody]

theorem inBody_OK (k : Int) (r : Option Txt) : VaOK (inBody k r).1 := by
  have h1 := inText_len r
  have h2 := inTexts_len (inByte r).1.toNat (inByte r).2
  have h3 := inTexts_each (inByte r).1.toNat (inByte r).2
  have hb := inByte_lo r
  unfold inBody
  split
  · exact ⟨by simp [LIM], by simp [BIG], by simp⟩
  · split
    · exact ⟨by simp [LIM], by simp [BIG], by simp⟩
    · split
      · exact ⟨by unfold LIM; simp; omega, by simp [BIG], by simp⟩
      · split
        · exact ⟨by simp [LIM], by unfold BIG; simp only; omega, fun t ht => by have := h3 t ht; unfold LIM; omega⟩
        · exact ⟨by simp [LIM], by simp [BIG], by simp⟩

def va0 : Va := ⟨0, 0, [], []⟩
def inValue (r : Option Txt) : Va × Option Txt :=
  if (inBody (inByte r).1 (inByte r).2).2.isSome ∧ vaCheck (inBody (inByte r).1 (inByte r).2).1 = 0 then inBody (inByte r).1 (inByte r).2 else (va0, none)

theorem run_InValue (r : Option Txt) : R F_octet_In_Value [.pv 0 0] [(0, inW r)] = some (vaA (inValue r).1, [(0, inW (inValue r).2)]) := by
  refine R_of at_octet_In_Value (by decide) ?_
  have h1 := runw_Byte r
  have h2 := run_InBody (inByte r).1 (inByte r).2
  have h3 := run_vaCheck _ (inBody_OK (inByte r).1 (inByte r).2)
  unfold inValue
  generalize inBody (inByte r).1 (inByte r).2 = x at *
  obtain ⟨v, r1⟩ := x
  simp only at h2 h3 ⊢
  have h4 := runw_Err r1
  have h5 := runw_bad r1
  have h6 := runw_Err none
  cases r1 with
  | none =>
    simp -implicitDefEqProofs at h4
    simp -implicitDefEqProofs [code_octet_In_Value, h1, h2, h3, h4, va0]
  | some b =>
    simp -implicitDefEqProofs at h4 h6
    by_cases hz : vaCheck v = 0
    · rw [hz] at h3
      simp -implicitDefEqProofs [code_octet_In_Value, h1, h2, h3, h4, va0, hz]
    · simp -implicitDefEqProofs [code_octet_In_Value, h1, h2, h3, h4, va0, hz, h5, h6]
end Bz.S
