/- Tables out of octets, by the page (ref13.row, ref13.Read), walked. -/
import Derived.Test.YtfhkjoebkiigoaaPack2
set_option linter.unusedSimpArgs false
set_option linter.unusedVariables false
namespace Bz.S
open Go Bz
set_option maxRecDepth 10000
set_option maxHeartbeats 4000000

theorem rdO_bad' {q : Rd} (h : q.bad = true) : rdO q = none := by unfold rdO; rw [if_pos h]

/-- the row that is being read -/
structure Rh where
  k : Int
  s : Txt
  n : Int
  lo : Int
  hi : Int
abbrev rowH (q : Rd) (h : Rh) (st : List Txt) (kd : List Int) : Heap := [(10000, .var [byS q.b, .d (.int .i64 q.at_), .d (.bool q.bad)]), (10010, .var [.d (.int .i64 0), .d (.str []), .d (.int .i64 0), .d (.int .i64 0), .d (.int .i64 0), .d (.vs true []), .d (.vs true [])]),
  (10020, .var [.d (.vs true []), .d (.int .i64 0), .d (.bool false)]), (80060, .var [.d (.int .i64 h.k), .d (.str h.s), .d (.int .i64 h.n), .d (.int .i64 h.lo), .d (.int .i64 h.hi), .os 28006050 st.length 0 st.length, .os 28006060 kd.length 0 kd.length]), (28006050, .arr 1 (st.map sxC)), (28006060, .arr 1 (kd.map i6C))]

theorem row_texts (h : Rh) (k : Nat) (hk : k ≤ 255) (p : Rd) (hp : RdOK p) :
    ∃ r, (∃ (l : List Txt) (q : Rd), r = (.exit 0, ⟨mkE 99 [(1, .pv 10000 0), (2, .pv 10010 0), (3, .pv 10020 0), (10, .pv 80060 0)], rowH q h l []⟩) ∧ RdOK q ∧ q.b = p.b ∧ rdO q = (inTexts k (rdO p)).2 ∧ (q.bad = false → l = (inTexts k (rdO p)).1) ∧ l.length ≤ 255) ∧
      ∀ s, trim mask_ref13_row_0 s = ⟨mkE 99 [(1, .pv 10000 0), (2, .pv 10010 0), (3, .pv 10020 0), (8, .d (.int .i64 k)), (10, .pv 80060 0), (11, .d (.int .i64 ((0 : Nat) : Int)))], rowH p h [] []⟩ → exL X (.loop mask_ref13_row_0 body_ref13_row_0) s = some r := by
  refine loop_upto (σ := List Txt × Rd) k (fun i a => ⟨mkE 99 [(1, .pv 10000 0), (2, .pv 10010 0), (3, .pv 10020 0), (8, .d (.int .i64 k)), (10, .pv 80060 0), (11, .d (.int .i64 i))], rowH a.2 h a.1 []⟩)
    (fun i a => RdOK a.2 ∧ a.2.b = p.b ∧ a.1.length = i ∧ inTexts k (rdO p) = (a.1 ++ (inTexts (k - i) (rdO a.2)).1, (inTexts (k - i) (rdO a.2)).2)) _ ?_ ?_ ([], p) ⟨hp, rfl, rfl, by simp⟩
  · rintro i ⟨l, q⟩ hi ⟨h1, h2, h3, h4⟩
    simp only at h1 h2 h3 h4
    have hi' : (i : Int) < k := by omega
    cases hb : q.bad with
    | true =>
      refine .inr ⟨_, by simp -implicitDefEqProofs [body_ref13_row_0, rowH, hb, hi']; rfl, by simp, l, q, by simp [rowH, hb], h1, h2, ?_, (fun h => by rw [hb] at h; cases h), by omega⟩
      rw [h4, rdO_bad' hb, inTexts_none]
    | false =>
      have hw := rdWords_OK h1
      have hr := run_04Words q h1
      have w1 := wrap_ok (a := (i : Int) + 1) (by omega) (by omega)
      have hll : l.length + 1 ≤ LIM := by unfold LIM; omega
      refine .inl ⟨(l ++ [(inText (rdO q)).1], rdWords q), ⟨hw.1, hw.2.trans h2, by simp [h3], ?_⟩, ?_⟩
      · obtain ⟨m, hm⟩ : ∃ m, k - i = m + 1 := ⟨k - i - 1, by omega⟩
        have e : k - (i + 1) = m := by omega
        rw [h4, hm, e]
        simp only [inTexts, rdWords_O h1]
        simp
      · generalize (inText (rdO q)).1 = t at *
        generalize rdWords q = q' at *
        obtain ⟨b, a, x⟩ := q
        obtain ⟨b', a', x'⟩ := q'
        simp only at hb
        subst hb
        simp -implicitDefEqProofs [body_ref13_row_0, mask_ref13_row_0, rowH, hi', hr, w1, hll]
  · rintro ⟨l, q⟩ ⟨h1, h2, h3, h4⟩
    simp only at h1 h2 h3 h4
    rw [Nat.sub_self] at h4
    refine ⟨_, by simp -implicitDefEqProofs [body_ref13_row_0, rowH]; rfl, by simp, l, q, by simp [rowH], h1, h2, ?_, (fun _ => ?_), by omega⟩
    · rw [h4]; rfl
    · rw [h4]; simp [inTexts]
theorem row_bytes (h : Rh) (st : List Txt) (k : Nat) (hk : k ≤ 255) (p : Rd) (hp : RdOK p) :
    ∃ r, (∃ (l : List Int) (q : Rd), r = (.exit 2, ⟨mkE 99 [(1, .pv 10000 0), (2, .pv 10010 0), (3, .pv 10020 0), (10, .pv 80060 0)], rowH q h st l⟩) ∧ RdOK q ∧ q.b = p.b ∧ rdO q = (inBytes k (rdO p)).2 ∧ (q.bad = false → l = (inBytes k (rdO p)).1)) ∧
      ∀ s, trim mask_ref13_row_1 s = ⟨mkE 99 [(1, .pv 10000 0), (2, .pv 10010 0), (3, .pv 10020 0), (8, .d (.int .i64 k)), (10, .pv 80060 0), (12, .d (.int .i64 ((0 : Nat) : Int)))], rowH p h st []⟩ → exL X (.loop mask_ref13_row_1 body_ref13_row_1) s = some r := by
  refine loop_upto (σ := List Int × Rd) k (fun i a => ⟨mkE 99 [(1, .pv 10000 0), (2, .pv 10010 0), (3, .pv 10020 0), (8, .d (.int .i64 k)), (10, .pv 80060 0), (12, .d (.int .i64 i))], rowH a.2 h st a.1⟩)
    (fun i a => RdOK a.2 ∧ a.2.b = p.b ∧ a.1.length = i ∧ inBytes k (rdO p) = (a.1 ++ (inBytes (k - i) (rdO a.2)).1, (inBytes (k - i) (rdO a.2)).2)) _ ?_ ?_ ([], p) ⟨hp, rfl, rfl, by simp⟩
  · rintro i ⟨l, q⟩ hi ⟨h1, h2, h3, h4⟩
    simp only at h1 h2 h3 h4
    have hi' : (i : Int) < k := by omega
    cases hb : q.bad with
    | true =>
      refine .inr ⟨_, by simp -implicitDefEqProofs [body_ref13_row_1, rowH, hb, hi']; rfl, by simp, l, q, by simp [rowH, hb], h1, h2, ?_, fun h => by rw [hb] at h; cases h⟩
      rw [h4, rdO_bad' hb, inBytes_none]
    | false =>
      have hw := rdByte_OK h1
      have hr := run_04Byte q h1
      have w1 := wrap_ok (a := (i : Int) + 1) (by omega) (by omega)
      have hll : l.length + 1 ≤ LIM := by unfold LIM; omega
      refine .inl ⟨(l ++ [(inByte (rdO q)).1], rdByte q), ⟨hw.1, hw.2.trans h2, by simp [h3], ?_⟩, ?_⟩
      · obtain ⟨m, hm⟩ : ∃ m, k - i = m + 1 := ⟨k - i - 1, by omega⟩
        have e : k - (i + 1) = m := by omega
        rw [h4, hm, e]
        simp only [inBytes, rdByte_O h1]
        simp
      · generalize (inByte (rdO q)).1 = t at *
        generalize rdByte q = q' at *
        obtain ⟨b, a, x⟩ := q
        obtain ⟨b', a', x'⟩ := q'
        simp only at hb
        subst hb
        simp -implicitDefEqProofs [body_ref13_row_1, mask_ref13_row_1, rowH, hi', hr, w1, hll]
  · rintro ⟨l, q⟩ ⟨h1, h2, h3, h4⟩
    simp only at h1 h2 h3 h4
    rw [Nat.sub_self] at h4
    refine ⟨_, by simp -implicitDefEqProofs [body_ref13_row_1, rowH]; rfl, by simp, l, q, by simp [rowH], h1, h2, ?_, fun _ => ?_⟩
    · rw [h4]; rfl
    · rw [h4]; simp [inBytes]

theorem run_13row (p : Rd) (hp : RdOK p) : ∃ (x : Rw) (q : Rd), R F_ref13_row [rdA p] [] = some (.tup [rwA x, rdA q], []) ∧ RdOK q ∧ q.b = p.b ∧ rdO q = (getRw (rdO p)).2 ∧ (q.bad = false → x = (getRw (rdO p)).1) := by
  have g1 := run_04Byte p hp
  have p1 := rdByte_OK hp
  have e1 := rdByte_O hp
  simp only [getRw]
  generalize rdByte p = q1 at *
  rw [← e1]
  generalize (inByte (rdO p)).1 = v1 at *
  have g2 := run_04Words q1 p1.1
  have p2 := rdWords_OK p1.1
  have e2 := rdWords_O p1.1
  generalize rdWords q1 = q2 at *
  rw [← e2]
  generalize (inText (rdO q1)).1 = v2 at *
  have g3 := run_04Number q2 p2.1
  have p3 := rdNum_OK p2.1
  have e3 := rdNum_O p2.1
  generalize rdNum q2 = q3 at *
  rw [← e3]
  generalize (inInt (rdO q2)).1 = v3 at *
  have g4 := run_04Number q3 p3.1
  have p4 := rdNum_OK p3.1
  have e4 := rdNum_O p3.1
  generalize rdNum q3 = q4 at *
  rw [← e4]
  generalize (inInt (rdO q3)).1 = v4 at *
  have g5 := run_04Number q4 p4.1
  have p5 := rdNum_OK p4.1
  have e5 := rdNum_O p4.1
  generalize rdNum q4 = q5 at *
  rw [← e5]
  generalize (inInt (rdO q4)).1 = v5 at *
  have g6 := run_04Byte q5 p5.1
  have p6 := rdByte_OK p5.1
  have e6 := rdByte_O p5.1
  have b6 := inByte_lo (rdO q5)
  generalize rdByte q5 = q6 at *
  rw [← e6]
  obtain ⟨m, hm⟩ : ∃ m : Nat, (inByte (rdO q5)).1 = m := ⟨(inByte (rdO q5)).1.toNat, by omega⟩
  rw [hm] at g6 ⊢
  simp only [Int.toNat_natCast]
  obtain ⟨r7, ⟨st, q7, rfl, p7, pb7, e7, ev7, hst⟩, hL0⟩ := row_texts ⟨v1, v2, v3, v4, v5⟩ m (by omega) q6 p6.1
  have hbase : q7.b = p.b := by rw [pb7, p6.2, p5.2, p4.2, p3.2, p2.2, p1.2]
  rw [← e7]
  have g8 := run_04Byte q7 p7
  have p8 := rdByte_OK p7
  have e8 := rdByte_O p7
  have b8 := inByte_lo (rdO q7)
  have hbad8 : (rdByte q7).bad = false → q7.bad = false := fun h => (rdAdv_bad h).1
  generalize rdByte q7 = q8 at *
  rw [← e8]
  obtain ⟨k, hk⟩ : ∃ k : Nat, (inByte (rdO q7)).1 = k := ⟨(inByte (rdO q7)).1.toNat, by omega⟩
  rw [hk] at g8 ⊢
  simp only [Int.toNat_natCast]
  obtain ⟨r9, ⟨kd, q9, rfl, p9, pb9, e9, ev9⟩, hL1⟩ := row_bytes ⟨v1, v2, v3, v4, v5⟩ st k (by omega) q8 p8.1
  have hbad9 : q9.bad = false → q8.bad = false := by
    intro h
    cases hb : q8.bad with
    | false => rfl
    | true =>
      rw [rdO_bad' hb, inBytes_none] at e9
      unfold rdO at e9
      rw [h] at e9
      cases e9
  refine ⟨⟨v1, v2, v3, v4, v5, st, kd⟩, q9, R_of at_ref13_row (by decide) ?_, p9, by rw [pb9, p8.2, hbase], e9, fun h => by rw [ev9 h, ev7 (hbad8 (hbad9 h))]⟩
  clear e1 e2 e3 e4 e5 e6 e7 e8 e9 ev7 ev9 p1 p2 p3 p4 p5 p6 p7 p8 p9 hbad8 hbad9 hbase pb7 pb9
  obtain ⟨b, a, x⟩ := p
  obtain ⟨b1, a1, x1⟩ := q1
  obtain ⟨b2, a2, x2⟩ := q2
  obtain ⟨b3, a3, x3⟩ := q3
  obtain ⟨b4, a4, x4⟩ := q4
  obtain ⟨b5, a5, x5⟩ := q5
  obtain ⟨b6', a6, x6⟩ := q6
  obtain ⟨b7, a7, x7⟩ := q7
  obtain ⟨b8', a8, x8⟩ := q8
  obtain ⟨b9, a9, x9⟩ := q9
  simp -implicitDefEqProofs [code_ref13_row, g1, g2, g3, g4, g5, g6]
  rw [hL0 _ (by simp -implicitDefEqProofs [mask_ref13_row_0, rowH])]
  simp -implicitDefEqProofs [g8, rowH]
  rw [hL1 _ (by simp -implicitDefEqProofs [mask_ref13_row_1, rowH])]
  simp -implicitDefEqProofs [rowH]
end Bz.S
