/- Layer 23's laws, walked. -/
import Derived.Test.YtmiojmbdfmbdlaaEvent2
set_option linter.unusedSimpArgs false
set_option linter.unusedVariables false
namespace Bz.S
open Go Bz
set_option maxRecDepth 10000
set_option maxHeartbeats 4000000

theorem run_alive23 : R F_law23_alive [] [] = some (.d (.bool true), []) :=
  RUN_run own retOwn ext code (k := 60) (by kernel_rfl)

theorem run_plEvent (e : Ev) (hl : e.v.l.length ≤ BIG) : R F_plain_Event [evA e, evA e] [] = some (.d (.bool true), []) := by
  refine R_of at_plain_Event (by decide) ?_
  have h := run_plValue e.v e.v hl hl
  obtain ⟨a, k, i, s, o, n, v⟩ := e
  obtain ⟨vk, vn, vs, vl⟩ := v
  simp -implicitDefEqProofs [vaA, txS] at h
  simp -implicitDefEqProofs [code_plain_Event, h]

theorem evRead_OK (b : Txt) : EvOK (evRead b).1 := by
  have h0 : EvOK ev0 := ⟨by simp [ev0, LIM], by simp [ev0, LIM], by simp [ev0, LIM], ⟨by simp [ev0, va0', LIM], by simp [ev0, va0', BIG], by simp [ev0, va0']⟩⟩
  unfold evRead evRes
  split
  · exact h0
  · split
    · exact evGet_OK b
    · exact h0

theorem run_EventReads (b : Txt) (hb0 : bulkL [.vs false (b.map byC)] ≤ 1048576) : R F_law23_EventReads [byS b] [] = some (.d (.bool true), []) := by
  refine R_of at_law23_EventReads (by decide) ?_
  have hb : b.length ≤ BIG := by
    have := len_bulkLL byC (fun _ => by simp [bulkL, bulkD]) b
    simp only [bulkL, bulkD] at hb0
    unfold BIG; omega
  have h1 := run_evRead b hb
  have h2 := run_23Read b hb
  have h3 := run_plEvent (evRead b).1 (evRead_OK b).v.l
  generalize evRead b = x at *
  obtain ⟨e, c⟩ := x
  simp -implicitDefEqProofs [code_law23_EventReads, run_alive23, h1, h2, h3]

/-! ### there and back -/
theorem evB_len {e : Ev} (h : EvGood e) : (evB e).length ≤ 400 := by
  obtain ⟨gk, gi, ga, gs, go, gn, g4, g0⟩ := h
  have e1 : (n8 e.at_).length = 8 := rfl
  unfold evB
  split
  · rename_i k4
    have := vaB_len' (va_good (g4 k4))
    simp [e1, txB]; omega
  · simp [e1, txB]; omega
theorem ev_back {e : Ev} (hz : evCheck e = 0) (ha : e.at_ < 9223372036854775808) (hv : -9223372036854775808 ≤ e.v.n ∧ e.v.n < 9223372036854775808) : evRead (evB e) = (e, 0) := by
  have hg := ev_good hz
  have hl := evB_len hg
  obtain ⟨gk, gi, ga, gs, go, gn, g4, g0⟩ := hg
  unfold evRead
  rw [if_neg (by omega)]
  have hget : evGet (evB e) = (e, some []) := by
    unfold evGet evB
    simp only [List.append_assoc]
    rw [inInt_back (by omega) ha]
    simp only [List.cons_append, List.nil_append]
    rw [inByte_back (by omega) (by omega)]
    simp only
    rw [inByte_back (by omega) (by omega)]
    simp only
    rw [inText_back (by omega)]
    simp only
    rw [inText_back (by omega)]
    simp only
    rw [inText_back (by omega)]
    simp only [evV]
    by_cases k4 : e.kind = 4
    · simp only [k4, if_true]
      have := inValue_back (g4 k4) hv.1 hv.2 []
      rw [List.append_nil] at this
      rw [this]
      rw [← k4]
    · simp only [k4, if_false]
      rw [← g0 k4]
  rw [hget]
  simp [evRes, hz]
theorem ev_forth {b : Txt} {e : Ev} (h : evRead b = (e, 0)) : evCheck e = 0 ∧ evB e = b := by
  unfold evRead at h
  split at h
  · cases h
  · unfold evRes at h
    split at h
    · rename_i hc
      obtain ⟨h1, h2⟩ := hc
      have h3 : (evGet b).1 = e := by cases h; rfl
      rw [h3] at h2
      refine ⟨h2, ?_⟩
      have hg := ev_good h2
      have h4 : evGet b = (e, some []) := by rw [← h3, ← h1]
      unfold evGet at h4
      simp only [Prod.mk.injEq] at h4
      obtain ⟨h5, h6⟩ := h4
      cases hi : (inInt (some b)).2 with
      | none =>
        rw [hi] at h6
        have : ∀ k, (evV k none).2 = none := by intro k; unfold evV; split <;> rfl
        simp only [inByte, inText_none] at h6
        rw [this] at h6; cases h6
      | some r1 =>
      rw [hi] at h5 h6
      have f1 := inInt_forth (b := b) (r := r1) (n := (inInt (some b)).1) (by rw [← hi])
      cases hk : (inByte (some r1)).2 with
      | none =>
        rw [hk] at h6
        have : ∀ k, (evV k none).2 = none := by intro k; unfold evV; split <;> rfl
        simp only [inByte, inText_none] at h6
        rw [this] at h6; cases h6
      | some r2 =>
      rw [hk] at h5 h6
      have f2 := inByte_forth (b := r1) (r := r2) (n := (inByte (some r1)).1) (by rw [← hk])
      cases hd : (inByte (some r2)).2 with
      | none =>
        rw [hd] at h6
        have : ∀ k, (evV k none).2 = none := by intro k; unfold evV; split <;> rfl
        simp only [inText_none] at h6
        rw [this] at h6; cases h6
      | some r3 =>
      rw [hd] at h5 h6
      have f3 := inByte_forth (b := r2) (r := r3) (n := (inByte (some r2)).1) (by rw [← hd])
      cases hs : (inText (some r3)).2 with
      | none =>
        rw [hs] at h6
        have : ∀ k, (evV k none).2 = none := by intro k; unfold evV; split <;> rfl
        simp only [inText_none] at h6
        rw [this] at h6; cases h6
      | some r4 =>
      rw [hs] at h5 h6
      have f4 := (inText_forth (b := r3) (r := r4) (s := (inText (some r3)).1) (by rw [← hs])).1
      cases ho : (inText (some r4)).2 with
      | none =>
        rw [ho] at h6
        have : ∀ k, (evV k none).2 = none := by intro k; unfold evV; split <;> rfl
        simp only [inText_none] at h6
        rw [this] at h6; cases h6
      | some r5 =>
      rw [ho] at h5 h6
      have f5 := (inText_forth (b := r4) (r := r5) (s := (inText (some r4)).1) (by rw [← ho])).1
      cases hn : (inText (some r5)).2 with
      | none =>
        rw [hn] at h6
        have : ∀ k, (evV k none).2 = none := by intro k; unfold evV; split <;> rfl
        rw [this] at h6; cases h6
      | some r6 =>
      rw [hn] at h5 h6
      have f6 := (inText_forth (b := r5) (r := r6) (s := (inText (some r5)).1) (by rw [← hn])).1
      generalize (inInt (some b)).1 = vi at *
      generalize (inByte (some r1)).1 = vk at *
      generalize (inByte (some r2)).1 = vd at *
      generalize (inText (some r3)).1 = vs at *
      generalize (inText (some r4)).1 = vo at *
      generalize (inText (some r5)).1 = vn at *
      have f7 : r6 = (if vk = 4 then vaB e.v else []) := by
        unfold evV at h5 h6
        split
        · rename_i k4
          simp only [k4, if_true] at h5 h6
          have : inValue (some r6) = ((inValue (some r6)).1, some []) := by rw [← h6]
          have f := (inValue_forth this).1
          rw [List.append_nil] at f
          rw [← h5]
          exact f
        · rename_i k4
          simp only [k4, if_false] at h6
          simpa using h6
      rw [f1, f2, f3, f4, f5, f6, f7]
      rw [← h5]
      unfold evB
      simp only [List.append_assoc, List.cons_append, List.nil_append]
    · cases h
theorem run_EventBack (e : Ev) (b : Txt) (hw : (-9223372036854775808 ≤ e.at_ ∧ e.at_ < 9223372036854775808) ∧ (-9223372036854775808 ≤ e.v.n ∧ e.v.n < 9223372036854775808)) (hb0 : bulkL (evC e) + bulkL [.vs false (b.map byC)] ≤ 1048576) : R F_law23_EventBack [evA e, byS b] [] = some (.d (.bool true), []) := by
  refine R_of at_law23_EventBack (by decide) ?_
  have hb : b.length ≤ BIG := by
    have := len_bulkLL byC (fun _ => by simp [bulkL, bulkD]) b
    simp only [bulkL, bulkD] at hb0
    unfold BIG; omega
  have he : EvOK e := by
    have h1 : bulkL (vaC e.v) ≤ bulkL (evC e) := by simp only [vaC, evC, bulkL, bulkD]; omega
    have h2 : e.s.length ≤ bulkL (evC e) ∧ e.o.length ≤ bulkL (evC e) ∧ e.n.length ≤ bulkL (evC e) := by simp only [evC, bulkL, bulkD]; omega
    exact ⟨by unfold LIM; omega, by unfold LIM; omega, by unfold LIM; omega, vaOK_bulk (by omega)⟩
  have h1 := run_evPut e he
  have h2 := run_23Check e he
  have h3 := run_evRead b hb
  have h4 := run_evPut (evRead b).1 (evRead_OK b)
  have hf := @ev_forth b (evRead b).1
  generalize hx : evRead b = x at *
  obtain ⟨y, c⟩ := x
  simp only at h3 h4 hf
  have part2 : c = 0 → R F_event_Put [evA y] [] = some (.tup [byS b, .d (.int .i64 0)], []) := by
    intro hc
    subst hc
    obtain ⟨q1, q2⟩ := hf rfl
    rw [q1, if_pos rfl, q2] at h4
    exact h4
  by_cases hz : evCheck e = 0
  · have h5 := run_evRead (evB e) (by have := evB_len (ev_good hz); unfold BIG; omega)
    rw [ev_back hz hw.1.2 hw.2] at h5
    have h6 := run_plEvent e he.v.l
    rw [hz, if_pos rfl] at h1
    rw [hz] at h2
    by_cases hc : c = 0
    · have h7 := part2 hc
      subst hc
      simp -implicitDefEqProofs [code_law23_EventBack, run_alive23, h1, h2, h3, h5, h6, h7]
    · simp -implicitDefEqProofs [code_law23_EventBack, run_alive23, h1, h2, h3, h5, h6, hc]
  · rw [if_neg hz] at h1
    by_cases hc : c = 0
    · have h7 := part2 hc
      subst hc
      simp -implicitDefEqProofs [code_law23_EventBack, run_alive23, h1, h2, h3, h7, hz]
    · simp -implicitDefEqProofs [code_law23_EventBack, run_alive23, h1, h2, h3, hc, hz]

theorem typ_evW {P : Program} {t va l st : TypeId} {fs gs : Array Field} (hu : P.underlying t = some (.struct fs)) (huv : P.underlying va = some (.struct gs)) (hul : P.underlying l = some (.slice st)) {i1 i2 i3 s o n j1 j2 s2 : TypeId} (hfs : fs.toList.map (·.type) = [i1, i2, i3, s, o, n, va]) (hgs : gs.toList.map (·.type) = [j1, j2, s2, l])
    (h1 : P.underlying i1 = some (.int .i64)) (h2 : P.underlying i2 = some (.int .i64)) (h3 : P.underlying i3 = some (.int .i64)) (h4 : P.underlying s = some .string) (h5 : P.underlying o = some .string) (h6 : P.underlying n = some .string)
    (g1 : P.underlying j1 = some (.int .i64)) (g2 : P.underlying j2 = some (.int .i64)) (g3 : P.underlying s2 = some .string) (g4 : P.underlying st = some .string) (x : List D) (h : Typed P t x) : ∃ e : Ev, x = evC e ∧ (-9223372036854775808 ≤ e.at_ ∧ e.at_ < 9223372036854775808) ∧ (-9223372036854775808 ≤ e.v.n ∧ e.v.n < 9223372036854775808) := by
  obtain ⟨parts, rfl, hp⟩ := typ_fields h hu hfs
  obtain ⟨a, r, rfl, ha, hp⟩ := tall_cons hp
  obtain ⟨b, r, rfl, hb, hp⟩ := tall_cons hp
  obtain ⟨c, r, rfl, hc, hp⟩ := tall_cons hp
  obtain ⟨d, r, rfl, hd, hp⟩ := tall_cons hp
  obtain ⟨e, r, rfl, he, hp⟩ := tall_cons hp
  obtain ⟨f, r, rfl, hf, hp⟩ := tall_cons hp
  obtain ⟨g, r, rfl, hg, hp⟩ := tall_cons hp
  cases tall_nil hp
  obtain ⟨m1, rfl, w1⟩ := typ_int ha h1
  obtain ⟨m2, rfl, _⟩ := typ_int hb h2
  obtain ⟨m3, rfl, _⟩ := typ_int hc h3
  obtain ⟨m4, rfl⟩ := typ_str hd h4
  obtain ⟨m5, rfl⟩ := typ_str he h5
  obtain ⟨m6, rfl⟩ := typ_str hf h6
  obtain ⟨v, rfl, hv⟩ := typ_vaW huv hul hgs g1 g2 g3 g4 g hg
  exact ⟨⟨m1, m2, m3, m4, m5, m6, v⟩, rfl, i64_lo w1, hv⟩
end Bz.S
