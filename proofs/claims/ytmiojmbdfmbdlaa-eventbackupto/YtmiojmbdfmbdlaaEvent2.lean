/- An event put, and read. -/
import Derived.Test.YtmiojmbdfmbdlaaEvent
import Derived.Test.YtmiojmbdfmbdlaaOut0
set_option linter.unusedSimpArgs false
set_option linter.unusedVariables false
namespace Bz.S
open Go Bz
set_option maxRecDepth 10000
set_option maxHeartbeats 4000000

theorem nameB_len {s : Txt} (h : nameB s = true) : s.length ≤ 16 := by
  unfold nameB at h
  split at h
  · cases h
  · simp at h
    simp
    omega
structure EvGood (e : Ev) : Prop where
  k : 1 ≤ e.kind ∧ e.kind ≤ 5
  i : 0 ≤ e.id ∧ e.id ≤ 63
  a : 0 ≤ e.at_
  s : e.s.length ≤ 16
  o : e.o.length ≤ 16
  n : e.n.length ≤ 16
  v4 : e.kind = 4 → vaCheck e.v = 0
  v0 : ¬ e.kind = 4 → e.v = va0'
theorem ev_good {e : Ev} (h : evCheck e = 0) : EvGood e := by
  obtain ⟨a, k, i, s, o, n, v⟩ := e
  unfold evCheck at h
  simp only at h
  by_cases c1 : k < 1 ∨ 5 < k
  · simp [c1] at h
  rw [if_neg c1] at h
  by_cases c2 : a < 0 ∨ i < 0 ∨ 64 ≤ i
  · simp [c2] at h
  rw [if_neg c2] at h
  have hbn : blankE ⟨a, k, i, s, o, n, v⟩ = true ∧ namedE ⟨a, k, i, s, o, n, v⟩ = true := by
    cases h1 : blankE ⟨a, k, i, s, o, n, v⟩ <;> cases h2 : namedE ⟨a, k, i, s, o, n, v⟩ <;> simp [h1, h2] at h ⊢
  obtain ⟨hb, hn⟩ := hbn
  unfold blankE at hb
  unfold namedE at hn
  simp only at hb hn
  rcases (by omega : k = 1 ∨ k = 2 ∨ k = 3 ∨ k = 4 ∨ k = 5) with rfl | rfl | rfl | rfl | rfl
  · simp at hb hn
    exact ⟨by simp, by simp; omega, by simp; omega, nameB_len hn.1.1, nameB_len hn.1.2, nameB_len hn.2, by simp, fun _ => hb⟩
  · simp at hb hn
    exact ⟨by simp, by simp; omega, by simp; omega, by simp [hb], by simp [hb], nameB_len hn, by simp, fun _ => hb.1⟩
  · simp at hb hn
    exact ⟨by simp, by simp; omega, by simp; omega, by simp [hb], by simp [hb], by simp [hb], by simp, fun _ => hb.1.1⟩
  · simp at hb hn
    exact ⟨by simp, by simp; omega, by simp; omega, nameB_len hn.1.1, by simp [hb], nameB_len hn.1.2, fun _ => hn.2, by simp⟩
  · simp at hb hn
    exact ⟨by simp, by simp; omega, by simp; omega, by simp [hb], by simp [hb], by simp [hb], by simp, fun _ => hb.1.1.1⟩

/-- an event's octets -/
def evB (e : Ev) : Txt := n8 e.at_ ++ [toB e.kind] ++ [toB e.id] ++ txB e.s ++ txB e.o ++ txB e.n ++ (if e.kind = 4 then vaB e.v else [])

theorem flat_len' : ∀ (m : List Txt), (∀ t ∈ m, t.length ≤ 32) → (m.flatMap txB).length ≤ 33 * m.length
  | [], _ => by simp
  | t :: r, h => by
    have h1 := flat_len' r fun t ht => h t (by simp [ht])
    have h2 := h t (by simp)
    simp only [List.flatMap_cons, List.length_append, txB, List.length_cons] at h1 ⊢
    omega
theorem vaB_len' {v : Va} (h : VaGood v) : (vaB v).length ≤ 300 := by
  have h1 := flat_len' v.l h.ls
  have h2 := h.l
  have h3 := h.s
  unfold vaB
  have hn : (n8 v.n).length = 8 := rfl
  split
  · simp [hn]
  · split
    · simp
    · split
      · simp [txB]; omega
      · split
        · simp; simp at h1; omega
        · simp

theorem run_OutIntOk (b : Txt) (n : Int) (hl : b.length + 8 ≤ LIM) : R F_octet_Out_Int [.pv 0 0, .d (.int .i64 n)] (owH ⟨b, 0⟩) = some (.tup [], owH ⟨b ++ n8 n, 0⟩) := by
  have h := run_OutInt ⟨b, 0⟩ n hl
  simp only [owInt, if_true] at h
  exact h
theorem run_OutValueOk (b : Txt) (v : Va) (hv : VaOK v) (hz : vaCheck v = 0) (hl : b.length + 1024 ≤ LIM) : R F_octet_Out_Value [.pv 0 0, vaA v] (owH ⟨b, 0⟩) = some (.tup [], owH ⟨b ++ vaB v, 0⟩) := by
  have h := run_OutValue ⟨b, 0⟩ v hv hl
  simp only [owValue, if_true, hz] at h
  exact h
theorem run_DoneOk (b : Txt) (hl : b.length ≤ LIM) : R F_octet_Out_Done [.pv 0 0] (owH ⟨b, 0⟩) = some (.tup [byS b, .d (.int .i64 0)], owH ⟨b, 0⟩) := by
  have h := run_Done ⟨b, 0⟩ hl
  simp only [owDone, if_true] at h
  exact h

theorem run_evPut (e : Ev) (he : EvOK e) : R F_event_Put [evA e] [] = some (.tup [byS (if evCheck e = 0 then evB e else []), .d (.int .i64 (evCheck e))], []) := by
  refine R_of at_event_Put (by decide) ?_
  have hc := run_evCheck e he
  by_cases hz : evCheck e = 0
  · have hg := ev_good hz
    rw [hz] at hc
    obtain ⟨gk, gi, ga, gs, go, gn, g4, g0⟩ := hg
    have hv := he.v
    have e1 : (n8 e.at_).length = 8 := rfl
    have hv3 : e.kind = 4 → (vaB e.v).length ≤ 300 := fun h => vaB_len' (va_good (g4 h))
    obtain ⟨a, k, i, s, o, n, v⟩ := e
    simp only at gk gi ga gs go gn g4 g0 hv e1 hv3
    have hL : (1000000 : Nat) ≤ LIM := by unfold LIM; omega
    have t1 := run_OutIntZ a
    have t2 := run_OutByteOk (n8 a) k (by omega) (by omega) (by omega)
    have t3 := run_OutByteOk (n8 a ++ [toB k]) i (by omega) (by omega) (by simp [e1]; omega)
    have t4 := run_OutTextOk (n8 a ++ [toB k] ++ [toB i]) s (by omega) (by simp [e1]; omega)
    have t5 := run_OutTextOk (n8 a ++ [toB k] ++ [toB i] ++ txB s) o (by omega) (by simp [e1, txB]; omega)
    have t6 := run_OutTextOk (n8 a ++ [toB k] ++ [toB i] ++ txB s ++ txB o) n (by omega) (by simp [e1, txB]; omega)
    by_cases k4 : k = 4
    · have hz4 := g4 k4
      have t7 := run_OutValueOk (n8 a ++ [toB k] ++ [toB i] ++ txB s ++ txB o ++ txB n) v hv hz4 (by simp [e1, txB]; omega)
      have t8 := run_DoneOk (n8 a ++ [toB k] ++ [toB i] ++ txB s ++ txB o ++ txB n ++ vaB v) (by have := hv3 k4; simp [e1, txB]; omega)
      simp only [hz, if_true, evB, k4] at t1 t2 t3 t4 t5 t6 t7 t8 ⊢
      generalize n8 a = w1 at *
      generalize w1 ++ [toB 4] = w2 at *
      generalize w2 ++ [toB i] = w3 at *
      generalize w3 ++ txB s = w4 at *
      generalize w4 ++ txB o = w5 at *
      generalize w5 ++ txB n = w6 at *
      generalize w6 ++ vaB v = w7 at *
      subst k4
      simp -implicitDefEqProofs [owH] at t1 t2 t3 t4 t5 t6 t7 t8
      simp -implicitDefEqProofs [code_event_Put, hc, hz, t1, t2, t3, t4, t5, t6, t7, t8]
    · have t8 := run_DoneOk (n8 a ++ [toB k] ++ [toB i] ++ txB s ++ txB o ++ txB n) (by simp [e1, txB]; omega)
      simp only [hz, if_true, evB, k4, if_false, List.append_nil] at t1 t2 t3 t4 t5 t6 t8 ⊢
      generalize n8 a = w1 at *
      generalize w1 ++ [toB k] = w2 at *
      generalize w2 ++ [toB i] = w3 at *
      generalize w3 ++ txB s = w4 at *
      generalize w4 ++ txB o = w5 at *
      generalize w5 ++ txB n = w6 at *
      simp -implicitDefEqProofs [owH] at t1 t2 t3 t4 t5 t6 t8
      simp -implicitDefEqProofs [code_event_Put, hc, hz, t1, t2, t3, t4, t5, t6, t8, k4]
  · simp -implicitDefEqProofs [code_event_Put, hc, hz]

/-! ### an event that is read -/
def evV (k : Int) (r : Option Txt) : Va × Option Txt := if k = 4 then inValue r else (va0', r)
def evGet (b : Txt) : Ev × Option Txt :=
  let i := inInt (some b)
  let k := inByte i.2
  let d := inByte k.2
  let s := inText d.2
  let o := inText s.2
  let n := inText o.2
  let v := evV k.1 n.2
  (⟨i.1, k.1, d.1, s.1, o.1, n.1, v.1⟩, v.2)
def evRes (x : Ev × Option Txt) : Ev × Int := if x.2 = some [] ∧ evCheck x.1 = 0 then (x.1, 0) else (ev0, 16)
def evRead (b : Txt) : Ev × Int := if 512 < b.length then (ev0, 5) else evRes (evGet b)

theorem inValue_OK' (r : Option Txt) : VaOK (inValue r).1 := by
  unfold inValue
  split
  · exact inBody_OK _ _
  · exact ⟨by simp [va0, LIM], by simp [va0, BIG], by simp [va0]⟩
theorem evGet_OK (b : Txt) : EvOK (evGet b).1 := by
  unfold evGet
  have h := fun r => inText_len r
  refine ⟨?_, ?_, ?_, ?_⟩
  · have := h (inByte (inByte (inInt (some b)).2).2).2; simp only; unfold LIM; omega
  · have := h (inText (inByte (inByte (inInt (some b)).2).2).2).2; simp only; unfold LIM; omega
  · have := h (inText (inText (inByte (inByte (inInt (some b)).2).2).2).2).2; simp only; unfold LIM; omega
  · simp only [evV]
    split
    · exact inValue_OK' _
    · exact ⟨by simp [va0', LIM], by simp [va0', BIG], by simp [va0']⟩

theorem run_evRead (b : Txt) (hb : b.length ≤ BIG) : R F_event_Read [byS b] [] = some (.tup [evA (evRead b).1, .d (.int .i64 (evRead b).2)], []) := by
  refine R_of at_event_Read (by decide) ?_
  unfold evRead
  by_cases h5 : 512 < b.length
  · have h5' : (512 : Int) < b.length := by omega
    simp -implicitDefEqProofs [code_event_Read, h5, h5', ev0, va0']
  · have h5' : ¬ (512 : Int) < b.length := by omega
    rw [if_neg h5]
    have hO := runw_Open b (big_lim hb)
    have hck := run_evCheck _ (evGet_OK b)
    simp only [evGet] at hck ⊢
    have g1 := runw_Int (some b)
    generalize inInt (some b) = i at *
    have g2 := runw_Byte i.2
    generalize inByte i.2 = k at *
    have g3 := runw_Byte k.2
    generalize inByte k.2 = d at *
    have g4 := runw_Text d.2
    generalize inText d.2 = s at *
    have g5 := runw_Text s.2
    generalize inText s.2 = o at *
    have g6 := runw_Text o.2
    generalize inText o.2 = n at *
    have g7 := run_InValue n.2
    have fin : ∀ v : Va × Option Txt, evV k.1 n.2 = v → finish X F_event_Read code_event_Read.results [] (exL X code_event_Read.body (start code_event_Read.ntmps [byS b] [])) =
        some (.tup [evA (evRes (⟨i.1, k.1, d.1, s.1, o.1, n.1, v.1⟩, v.2)).1, .d (.int .i64 (evRes (⟨i.1, k.1, d.1, s.1, o.1, n.1, v.1⟩, v.2)).2)], []) := by
      intro v hv
      unfold evRes
      rw [hv] at hck
      have hE := runw_Err v.2
      have hL := runw_Left v.2
      obtain ⟨w, r⟩ := v
      simp only at hck hE hL ⊢
      by_cases k4 : k.1 = 4
      · unfold evV at hv
        rw [if_pos k4] at hv
        rw [hv] at g7
        cases r with
        | none =>
          simp -implicitDefEqProofs at hE
          simp -implicitDefEqProofs [code_event_Read, h5', hO, g1, g2, g3, g4, g5, g6, g7, eq_true k4, hE, ev0, va0']
        | some t =>
          simp -implicitDefEqProofs at hE hL
          cases t with
          | cons c t =>
            have h0 : (0 : Int) < t.length + 1 := by omega
            simp -implicitDefEqProofs at hL
            simp -implicitDefEqProofs [code_event_Read, h5', hO, g1, g2, g3, g4, g5, g6, g7, eq_true k4, hE, hL, h0, ev0, va0']
          | nil =>
            simp -implicitDefEqProofs at hL
            by_cases hz : evCheck ⟨i.1, k.1, d.1, s.1, o.1, n.1, w⟩ = 0
            · rw [hz] at hck
              simp -implicitDefEqProofs [code_event_Read, h5', hO, g1, g2, g3, g4, g5, g6, g7, eq_true k4, hE, hL, hck, hz]
            · simp -implicitDefEqProofs [code_event_Read, h5', hO, g1, g2, g3, g4, g5, g6, g7, eq_true k4, hE, hL, hck, hz, ev0, va0']
      · unfold evV at hv
        rw [if_neg k4] at hv
        cases hv
        cases hr : n.2 with
        | none =>
          rw [hr] at g6 hE hL
          simp -implicitDefEqProofs at hE
          simp -implicitDefEqProofs [code_event_Read, h5', hO, g1, g2, g3, g4, g5, g6, k4, hE, ev0, va0']
        | some t =>
          rw [hr] at g6 hE hL
          simp -implicitDefEqProofs at hE hL
          cases t with
          | cons c t =>
            have h0 : (0 : Int) < t.length + 1 := by omega
            simp -implicitDefEqProofs at hL
            simp -implicitDefEqProofs [code_event_Read, h5', hO, g1, g2, g3, g4, g5, g6, k4, hE, hL, h0, ev0, va0']
          | nil =>
            simp -implicitDefEqProofs at hL
            by_cases hz : evCheck ⟨i.1, k.1, d.1, s.1, o.1, n.1, va0'⟩ = 0
            · generalize evCheck ⟨i.1, k.1, d.1, s.1, o.1, n.1, va0'⟩ = C at *
              subst hz
              simp -implicitDefEqProofs [va0', evA, txS] at hck
              simp -implicitDefEqProofs [code_event_Read, h5', hO, g1, g2, g3, g4, g5, g6, k4, hE, hL, hck, va0']
            · generalize evCheck ⟨i.1, k.1, d.1, s.1, o.1, n.1, va0'⟩ = C at *
              simp -implicitDefEqProofs [va0', evA, txS] at hck
              simp -implicitDefEqProofs [code_event_Read, h5', hO, g1, g2, g3, g4, g5, g6, k4, hE, hL, hck, hz, ev0, va0']
    exact fin _ rfl

/-! ### the page's -/
theorem run_23Read (b : Txt) (hb : b.length ≤ BIG) : R F_ref23_Read [byS b] [] = some (.tup [evA (evRead b).1, .d (.int .i64 (evRead b).2)], []) := by
  refine R_of at_ref23_Read (by decide) ?_
  unfold evRead
  by_cases h5 : 512 < b.length
  · have h5' : (512 : Int) < b.length := by omega
    simp -implicitDefEqProofs [code_ref23_Read, h5, h5', ev0, va0']
  · have h5' : ¬ (512 : Int) < b.length := by omega
    rw [if_neg h5]
    have hck := run_23Check _ (evGet_OK b)
    simp only [evGet] at hck ⊢
    have p0 : RdOK ⟨b, 0, false⟩ := ⟨Nat.zero_le _, hb⟩
    have e0 : rdO ⟨b, 0, false⟩ = some b := rfl
    have g1 := run_04Number ⟨b, 0, false⟩ p0
    have p1 := rdNum_OK p0
    have e1 := rdNum_O p0
    rw [e0] at g1 e1
    simp -implicitDefEqProofs [rdA] at g1
    generalize rdNum ⟨b, 0, false⟩ = q1 at *
    rw [← e1] at hck ⊢
    generalize (inInt (some b)).1 = v1 at *
    have g2 := run_04Byte q1 p1.1
    have p2 := rdByte_OK p1.1
    have e2 := rdByte_O p1.1
    generalize rdByte q1 = q2 at *
    rw [← e2] at hck ⊢
    generalize (inByte (rdO q1)).1 = v2 at *
    have g3 := run_04Byte q2 p2.1
    have p3 := rdByte_OK p2.1
    have e3 := rdByte_O p2.1
    generalize rdByte q2 = q3 at *
    rw [← e3] at hck ⊢
    generalize (inByte (rdO q2)).1 = v3 at *
    have g4 := run_04Words q3 p3.1
    have p4 := rdWords_OK p3.1
    have e4 := rdWords_O p3.1
    generalize rdWords q3 = q4 at *
    rw [← e4] at hck ⊢
    generalize (inText (rdO q3)).1 = v4 at *
    have g5 := run_04Words q4 p4.1
    have p5 := rdWords_OK p4.1
    have e5 := rdWords_O p4.1
    generalize rdWords q4 = q5 at *
    rw [← e5] at hck ⊢
    generalize (inText (rdO q4)).1 = v5 at *
    have g6 := run_04Words q5 p5.1
    have p6 := rdWords_OK p5.1
    have e6 := rdWords_O p5.1
    generalize rdWords q5 = q6 at *
    rw [← e6] at hck ⊢
    generalize (inText (rdO q5)).1 = v6 at *
    obtain ⟨q7, g7, p7, _, e7⟩ := run_04Thing q6 p6.1
    have hL6 := run_04Left q6 p6.1
    have hL7 := run_04Left q7 p7
    clear e0 e1 e2 e3 e4 e5 e6 p0 p1 p2 p3 p4 p5
    by_cases k4 : v2 = 4
    · subst k4
      simp only [evV, if_true] at hck ⊢
      rw [← e7] at ⊢
      generalize (inValue (rdO q6)).1 = w at *
      clear e7 hL6 p6
      obtain ⟨b1, a1, x1⟩ := q1
      obtain ⟨b2, a2, x2⟩ := q2
      obtain ⟨b3, a3, x3⟩ := q3
      obtain ⟨b4, a4, x4⟩ := q4
      obtain ⟨b5, a5, x5⟩ := q5
      obtain ⟨b6, a6, x6⟩ := q6
      obtain ⟨b7, a7, x7⟩ := q7
      obtain ⟨p71, p72⟩ := p7
      simp only at p71 p72
      unfold BIG at p72
      unfold evRes
      cases x7 with
      | true => simp -implicitDefEqProofs [code_ref23_Read, h5', g1, g2, g3, g4, g5, g6, g7, rdO, ev0, va0']
      | false =>
        by_cases ha : a7 = b7.length
        · subst ha
          simp -implicitDefEqProofs [rdO] at hL7
          by_cases hz : evCheck ⟨v1, 4, v3, v4, v5, v6, w⟩ = 0
          · rw [hz] at hck
            simp -implicitDefEqProofs [code_ref23_Read, h5', g1, g2, g3, g4, g5, g6, g7, rdO, hL7, hck, hz]
          · simp -implicitDefEqProofs [code_ref23_Read, h5', g1, g2, g3, g4, g5, g6, g7, rdO, hL7, hck, hz, ev0, va0']
        · have hd : ¬ b7.length ≤ a7 := by omega
          have hd2 : 0 < b7.length - a7 := by omega
          simp -implicitDefEqProofs [rdO] at hL7
          simp -implicitDefEqProofs [code_ref23_Read, h5', g1, g2, g3, g4, g5, g6, g7, rdO, hL7, hd, hd2, ev0, va0']
    · simp only [evV, if_neg k4] at hck ⊢
      clear e7 g7 hL7 p7
      obtain ⟨b1, a1, x1⟩ := q1
      obtain ⟨b2, a2, x2⟩ := q2
      obtain ⟨b3, a3, x3⟩ := q3
      obtain ⟨b4, a4, x4⟩ := q4
      obtain ⟨b5, a5, x5⟩ := q5
      obtain ⟨b6, a6, x6⟩ := q6
      obtain ⟨⟨p71, p72⟩, _⟩ := p6
      simp only at p71 p72
      unfold BIG at p72
      unfold evRes
      cases x6 with
      | true => simp -implicitDefEqProofs [code_ref23_Read, h5', g1, g2, g3, g4, g5, g6, rdO, ev0, va0', k4]
      | false =>
        by_cases ha : a6 = b6.length
        · subst ha
          simp -implicitDefEqProofs [rdO] at hL6
          by_cases hz : evCheck ⟨v1, v2, v3, v4, v5, v6, va0'⟩ = 0
          · generalize evCheck ⟨v1, v2, v3, v4, v5, v6, va0'⟩ = C at *
            subst hz
            simp -implicitDefEqProofs [va0', evA, txS] at hck
            simp -implicitDefEqProofs [code_ref23_Read, h5', g1, g2, g3, g4, g5, g6, rdO, hL6, hck, k4, va0']
          · generalize evCheck ⟨v1, v2, v3, v4, v5, v6, va0'⟩ = C at *
            simp -implicitDefEqProofs [va0', evA, txS] at hck
            simp -implicitDefEqProofs [code_ref23_Read, h5', g1, g2, g3, g4, g5, g6, rdO, hL6, hck, hz, ev0, va0', k4]
        · have hd : ¬ b6.length ≤ a6 := by omega
          have hd2 : 0 < b6.length - a6 := by omega
          simp -implicitDefEqProofs [rdO] at hL6
          simp -implicitDefEqProofs [code_ref23_Read, h5', g1, g2, g3, g4, g5, g6, rdO, hL6, hd, hd2, ev0, va0', k4]
end Bz.S
