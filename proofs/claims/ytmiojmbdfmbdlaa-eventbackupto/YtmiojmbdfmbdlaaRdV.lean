/- Values that are read by the page (ref04.Thing), walked. -/
import Derived.Test.YtmiojmbdfmbdlaaRd
set_option linter.unusedSimpArgs false
set_option linter.unusedVariables false
namespace Bz.S
open Go Bz
set_option maxRecDepth 10000
set_option maxHeartbeats 4000000

theorem inText_none : inText none = ([], none) := rfl
theorem inTexts_none : ∀ n : Nat, (inTexts n none).2 = none
  | 0 => rfl
  | n + 1 => by simp only [inTexts, inText_none]; exact inTexts_none n

/-- what follows the body -/
theorem inValue_of {r : Option Txt} : inValue r = if (inBody (inByte r).1 (inByte r).2).2.isSome ∧ vaCheck (inBody (inByte r).1 (inByte r).2).1 = 0 then inBody (inByte r).1 (inByte r).2 else (va0, none) := rfl

theorem rdO_bad {q : Rd} (h : q.bad = true) : rdO q = none := by unfold rdO; rw [if_pos h]
theorem rdO_ok {q : Rd} (h : q.bad = false) : rdO q = some (q.b.drop q.at_) := by unfold rdO; rw [h]; rfl

/-- behind a body's last octet -/
theorem thing_end {r : Option Txt} {q : Rd} {v : Va} (hb : inBody (inByte r).1 (inByte r).2 = (v, rdO q)) : inValue r = if q.bad = false ∧ vaCheck v = 0 then (v, rdO q) else (va0, none) := by
  rw [inValue_of, hb]
  simp only
  cases h : q.bad with
  | true => rw [rdO_bad h]; simp
  | false => rw [rdO_ok h]; simp

abbrev thH (p : Rd) (v : Va) : Heap := [(10000, .var [byS p.b, .d (.int .i64 p.at_), .d (.bool p.bad)]), (10010, .var [.d (.int .i64 0), .d (.int .i64 0), .d (.str []), .d (.vs true [])]), (10020, .var [.d (.vs true []), .d (.int .i64 0), .d (.bool false)]), (40020, .var [.d (.int .i64 v.kind), .d (.int .i64 v.n), .d (.str v.s), .os 24002030 v.l.length 0 v.l.length]), (24002030, .arr 1 (v.l.map stC))]

theorem run_texts04 (k : Nat) (hk : k ≤ 255) (p : Rd) (hp : RdOK p) :
    ∃ r, (∃ (l : List Txt) (q : Rd), r = (.exit 0, ⟨mkE 84 [(1, .pv 10000 0), (2, .pv 10010 0), (3, .pv 10020 0), (8, .pv 40020 0)], thH q ⟨4, 0, [], l⟩⟩) ∧ RdOK q ∧ q.b = p.b ∧ rdO q = (inTexts k (rdO p)).2 ∧ (q.bad = false → l = (inTexts k (rdO p)).1)) ∧ ∀ s, trim mask_ref04_Thing_0 s = ⟨mkE 84 [(1, .pv 10000 0), (2, .pv 10010 0), (3, .pv 10020 0), (6, .d (.int .i64 k)), (8, .pv 40020 0), (9, .d (.int .i64 ((0 : Nat) : Int)))], thH p ⟨4, 0, [], []⟩⟩ → exL X (.loop mask_ref04_Thing_0 body_ref04_Thing_0) s = some r := by
  refine loop_upto (σ := List Txt × Rd) k (fun i a => ⟨mkE 84 [(1, .pv 10000 0), (2, .pv 10010 0), (3, .pv 10020 0), (6, .d (.int .i64 k)), (8, .pv 40020 0), (9, .d (.int .i64 i))], thH a.2 ⟨4, 0, [], a.1⟩⟩)
    (fun i a => RdOK a.2 ∧ a.2.b = p.b ∧ a.1.length = i ∧ inTexts k (rdO p) = (a.1 ++ (inTexts (k - i) (rdO a.2)).1, (inTexts (k - i) (rdO a.2)).2)) _ ?_ ?_ ([], p) ⟨hp, rfl, rfl, by simp⟩
  · rintro i ⟨l, q⟩ hi ⟨h1, h2, h3, h4⟩
    simp only at h1 h2 h3 h4
    have hi' : (i : Int) < k := by omega
    cases hb : q.bad with
    | true =>
      refine .inr ⟨_, by simp -implicitDefEqProofs [body_ref04_Thing_0, thH, hb, hi']; rfl, by simp, l, q, by simp [thH, hb], h1, h2, ?_, fun h => by rw [hb] at h; cases h⟩
      rw [h4, rdO_bad hb, inTexts_none]
    | false =>
      have hw := rdWords_OK h1
      have hr := run_04Words q h1
      have w1 := wrap_ok (a := (i : Int) + 1) (by omega) (by omega)
      have hll : l.length + 1 ≤ LIM := by unfold LIM; omega
      refine .inl ⟨(l ++ [(inText (rdO q)).1], rdWords q), ⟨hw.1, hw.2.trans h2, by simp [h3], ?_⟩, ?_⟩
      · obtain ⟨m, hm⟩ : ∃ m, k - i = m + 1 := ⟨k - i - 1, by omega⟩
        have e : k - (i + 1) = m := by omega
        rw [h4, hm, e]
        simp only [inTexts, rdWords_O h1]
        simp
      · generalize (inText (rdO q)).1 = t at *
        generalize rdWords q = q' at *
        obtain ⟨b, a, x⟩ := q
        obtain ⟨b', a', x'⟩ := q'
        simp only at hb
        subst hb
        simp -implicitDefEqProofs [body_ref04_Thing_0, mask_ref04_Thing_0, thH, hi', hr, w1, hll]
  · rintro ⟨l, q⟩ ⟨h1, h2, h3, h4⟩
    simp only at h1 h2 h3 h4
    rw [Nat.sub_self] at h4
    refine ⟨_, by simp -implicitDefEqProofs [body_ref04_Thing_0, thH]; rfl, by simp, l, q, by simp [thH], h1, h2, ?_, fun _ => ?_⟩
    · rw [h4]; rfl
    · rw [h4]; simp [inTexts]

theorem run_04Thing (p : Rd) (hp : RdOK p) : ∃ q, R F_ref04_Thing [rdA p] [] = some (.tup [vaA (inValue (rdO p)).1, rdA q], []) ∧ RdOK q ∧ q.b = p.b ∧ rdO q = (inValue (rdO p)).2 := by
  have h1 := run_04Byte p hp
  have hq := rdByte_OK hp
  have hO := rdByte_O hp
  have hb := inByte_lo (rdO p)
  have hend := @thing_end (rdO p)
  generalize hr : inValue (rdO p) = res at hend ⊢
  clear hr
  have hOK := inBody_OK (inByte (rdO p)).1 (inByte (rdO p)).2
  generalize hc : inByte (rdO p) = c at *
  generalize hp1 : rdByte p = p1 at *
  obtain ⟨k, r1⟩ := c
  simp only at h1 hO hb hend hOK
  subst hO
  -- what is done with a body and a reader behind it
  have fin : ∀ (v : Va) (q : Rd), RdOK q → q.b = p.b → (q.bad = false → inBody k (rdO p1) = (v, rdO q)) → (q.bad = true → (inBody k (rdO p1)).2 = none) →
      ((q.bad = false → R F_ref02_Check [vaA v] [] = some (.d (.int .i64 (vaCheck v)), [])) → 
        R F_ref04_Thing [rdA p] [] = some (.tup [if q.bad = false ∧ vaCheck v = 0 then vaA v else vaA va0, if q.bad = false ∧ vaCheck v = 0 then rdA q else rdA { q with bad := true }], [])) →
      ∃ q, R F_ref04_Thing [rdA p] [] = some (.tup [vaA res.1, rdA q], []) ∧ RdOK q ∧ q.b = p.b ∧ rdO q = res.2 := by
    intro v q hq1 hq2 hq3 hq4 hrun
    cases hx : q.bad with
    | true =>
      have hn := hq4 hx
      have e : inBody k (rdO p1) = ((inBody k (rdO p1)).1, rdO q) := by rw [rdO_bad hx, ← hn]
      have hh := hend e
      rw [hx] at hh
      simp only [Bool.true_eq_false, false_and, if_false] at hh
      have := hrun (fun h => by rw [hx] at h; cases h)
      rw [hx] at this
      simp only [Bool.true_eq_false, false_and, if_false] at this
      exact ⟨{ q with bad := true }, by rw [hh]; exact this, ⟨hq1.1, hq1.2⟩, hq2, by rw [hh]; exact rdO_bad rfl⟩
    | false =>
      have e := hq3 hx
      have hh := hend e
      rw [hx] at hh
      have hv : VaOK v := by have := hOK; rw [e] at this; exact this
      have := hrun (fun _ => run_02Check v hv)
      rw [hx] at this
      by_cases hz : vaCheck v = 0
      · simp only [hz, and_self, if_true] at this hh
        exact ⟨q, by rw [hh]; exact this, hq1, hq2, by rw [hh]⟩
      · simp only [hz, and_false, if_false] at this hh
        exact ⟨{ q with bad := true }, by rw [hh]; exact this, ⟨hq1.1, hq1.2⟩, hq2, by rw [hh]; exact rdO_bad rfl⟩
  by_cases k1 : k = 1
  · subst k1
    have h2 := run_04Number p1 hq.1
    have hn := rdNum_OK hq.1
    have hO2 := rdNum_O hq.1
    refine fin ⟨1, (inInt (rdO p1)).1, [], []⟩ (rdNum p1) hn.1 (hn.2.trans hq.2) (fun _ => by simp [inBody, hO2]) (fun h => by simp [inBody, ← hO2, rdO_bad h]) fun hck => ?_
    refine R_of at_ref04_Thing (by decide) ?_
    generalize (inInt (rdO p1)).1 = N at *
    generalize rdNum p1 = q at *
    obtain ⟨b, a, x⟩ := q
    simp only at hck
    cases x with
    | true => simp -implicitDefEqProofs [code_ref04_Thing, h1, h2, va0]
    | false =>
      have hck := hck rfl
      simp -implicitDefEqProofs [vaA, txS] at hck
      by_cases hz : vaCheck ⟨1, N, [], []⟩ = 0
      · rw [hz] at hck
        simp -implicitDefEqProofs [code_ref04_Thing, h1, h2, va0, hck, hz]
      · simp -implicitDefEqProofs [code_ref04_Thing, h1, h2, va0, hck, hz]
  · by_cases k2 : k = 2
    · subst k2
      have h2 := run_04Byte p1 hq.1
      have hn := rdByte_OK hq.1
      have hO2 := rdByte_O hq.1
      refine fin ⟨2, (inByte (rdO p1)).1, [], []⟩ (rdByte p1) hn.1 (hn.2.trans hq.2) (fun _ => by simp [inBody, hO2]) (fun h => by simp [inBody, ← hO2, rdO_bad h]) fun hck => ?_
      refine R_of at_ref04_Thing (by decide) ?_
      generalize (inByte (rdO p1)).1 = N at *
      generalize rdByte p1 = q at *
      obtain ⟨b, a, x⟩ := q
      simp only at hck
      cases x with
      | true => simp -implicitDefEqProofs [code_ref04_Thing, h1, h2, va0]
      | false =>
        have hck := hck rfl
        simp -implicitDefEqProofs [vaA, txS] at hck
        by_cases hz : vaCheck ⟨2, N, [], []⟩ = 0
        · rw [hz] at hck
          simp -implicitDefEqProofs [code_ref04_Thing, h1, h2, va0, hck, hz]
        · simp -implicitDefEqProofs [code_ref04_Thing, h1, h2, va0, hck, hz]
    · by_cases k3 : k = 3
      · subst k3
        have h2 := run_04Words p1 hq.1
        have hn := rdWords_OK hq.1
        have hO2 := rdWords_O hq.1
        refine fin ⟨3, 0, (inText (rdO p1)).1, []⟩ (rdWords p1) hn.1 (hn.2.trans hq.2) (fun _ => by simp [inBody, hO2]) (fun h => by simp [inBody, ← hO2, rdO_bad h]) fun hck => ?_
        refine R_of at_ref04_Thing (by decide) ?_
        generalize (inText (rdO p1)).1 = N at *
        generalize rdWords p1 = q at *
        obtain ⟨b, a, x⟩ := q
        simp only at hck
        cases x with
        | true => simp -implicitDefEqProofs [code_ref04_Thing, h1, h2, va0]
        | false =>
          have hck := hck rfl
          simp -implicitDefEqProofs [vaA, txS] at hck
          by_cases hz : vaCheck ⟨3, 0, N, []⟩ = 0
          · rw [hz] at hck
            simp -implicitDefEqProofs [code_ref04_Thing, h1, h2, va0, hck, hz]
          · simp -implicitDefEqProofs [code_ref04_Thing, h1, h2, va0, hck, hz]
      · by_cases k4 : k = 4
        · subst k4
          have h2 := run_04Byte p1 hq.1
          have hn := rdByte_OK hq.1
          have hO2 := rdByte_O hq.1
          have hb2 := inByte_lo (rdO p1)
          have he : inBody 4 (rdO p1) = (⟨4, 0, [], (inTexts (inByte (rdO p1)).1.toNat (inByte (rdO p1)).2).1⟩, (inTexts (inByte (rdO p1)).1.toNat (inByte (rdO p1)).2).2) := by simp [inBody]
          obtain ⟨m, hm⟩ : ∃ m : Nat, (inByte (rdO p1)).1 = m := ⟨(inByte (rdO p1)).1.toNat, by omega⟩
          have hL := run_texts04 m (by omega) (rdByte p1) hn.1
          rw [hm] at h2
          rw [hm, Int.toNat_natCast, ← hO2] at he
          generalize inTexts m (rdO (rdByte p1)) = T at *
          generalize rdByte p1 = q1 at *
          obtain ⟨b1, a1, x1⟩ := q1
          obtain ⟨r, ⟨l, q, rfl, g1, g2, g3, g4⟩, hr⟩ := hL
          refine fin ⟨4, 0, [], l⟩ q g1 (g2.trans (hn.2.trans hq.2)) (fun h => by rw [he, g3, g4 h]) (fun h => by rw [he, ← g3, rdO_bad h]) fun hck => ?_
          refine R_of at_ref04_Thing (by decide) ?_
          obtain ⟨b, a, x⟩ := q
          simp only at hck g2
          simp -implicitDefEqProofs at hr
          cases x with
          | true =>
            simp -implicitDefEqProofs [code_ref04_Thing, h1, h2, va0]
            rw [hr _ (by simp -implicitDefEqProofs [mask_ref04_Thing_0])]
            simp -implicitDefEqProofs
          | false =>
            have hck := hck rfl
            simp -implicitDefEqProofs [vaA, txS] at hck
            by_cases hz : vaCheck ⟨4, 0, [], l⟩ = 0
            · rw [hz] at hck
              simp -implicitDefEqProofs [code_ref04_Thing, h1, h2, va0, hck, hz]
              rw [hr _ (by simp -implicitDefEqProofs [mask_ref04_Thing_0])]
              simp -implicitDefEqProofs [hck]
            · simp -implicitDefEqProofs [code_ref04_Thing, h1, h2, va0, hck, hz]
              rw [hr _ (by simp -implicitDefEqProofs [mask_ref04_Thing_0])]
              simp -implicitDefEqProofs [hck, hz]
        · refine fin ⟨k, 0, [], []⟩ p1 hq.1 hq.2 (fun _ => by simp [inBody, k1, k2, k3, k4]) (fun h => by simp [inBody, k1, k2, k3, k4, rdO_bad h]) fun hck => ?_
          refine R_of at_ref04_Thing (by decide) ?_
          obtain ⟨b, a, x⟩ := p1
          simp only at hck
          cases x with
          | true => simp -implicitDefEqProofs [code_ref04_Thing, h1, va0, k1, k2, k3, k4]
          | false =>
            have hck := hck rfl
            simp -implicitDefEqProofs [vaA, txS] at hck
            by_cases hz : vaCheck ⟨k, 0, [], []⟩ = 0
            · rw [hz] at hck
              simp -implicitDefEqProofs [code_ref04_Thing, h1, va0, hck, hz, k1, k2, k3, k4]
            · simp -implicitDefEqProofs [code_ref04_Thing, h1, va0, hck, hz, k1, k2, k3, k4]
end Bz.S
