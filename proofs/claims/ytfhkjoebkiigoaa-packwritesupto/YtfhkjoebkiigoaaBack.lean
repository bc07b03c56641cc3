/- What was put is read again; and what is read, was put: plain laws of octets. -/
import Derived.Test.YtfhkjoebkiigoaaRdV
import Derived.Test.YtfhkjoebkiigoaaOct4
set_option linter.unusedSimpArgs false
set_option linter.unusedVariables false
namespace Bz.S
open Go Bz
set_option maxRecDepth 10000
set_option maxHeartbeats 4000000

/-! ### what was put is read again -/
theorem toB_lo {n : Int} (h0 : 0 ≤ n) (h1 : n ≤ 255) : ((toB n).toNat : Int) = n := by
  rw [toB_val]; omega
theorem inByte_back {n : Int} (h0 : 0 ≤ n) (h1 : n ≤ 255) (r : Txt) : inByte (some (toB n :: r)) = (n, some r) := by
  simp [inByte, toB_lo h0 h1]
theorem inTake_back (a r : Txt) : inTake (some (a ++ r)) a.length = (a, some r) := by
  simp [inTake]
theorem be_n8 (n : Int) : (be (n8 n) : Int) = n % 18446744073709551616 := by
  have f : ∀ (a b : Int), 0 ≤ b → a.fdiv b = a / b := fun a b h => Int.fdiv_eq_ediv_of_nonneg a h
  simp only [be, n8, List.foldl_cons, List.foldl_nil]
  push_cast
  simp only [toB_val]
  rw [f n 72057594037927936 (by omega), f n 281474976710656 (by omega), f n 1099511627776 (by omega), f n 4294967296 (by omega), f n 16777216 (by omega), f n 65536 (by omega), f n 256 (by omega)]
  omega
theorem inInt_back {n : Int} (h0 : -9223372036854775808 ≤ n) (h1 : n < 9223372036854775808) (r : Txt) : inInt (some (n8 n ++ r)) = (n, some r) := by
  have e := inTake_back (n8 n) r
  have hl : (n8 n).length = 8 := rfl
  rw [hl] at e
  unfold inInt
  rw [e]
  have h := be_n8 n
  have : IntKind.i64.wrap (be (n8 n) : Int) = n := wrap_cong (k := n / 18446744073709551616) (by omega) h0 h1
  rw [this]
theorem inText_back {s : Txt} (h : s.length ≤ 255) (r : Txt) : inText (some (txB s ++ r)) = (s, some r) := by
  unfold inText txB
  rw [List.cons_append, inByte_back (by omega) (by omega)]
  simp only [Int.toNat_natCast]
  exact inTake_back s r
theorem inTexts_back : ∀ (l : List Txt) (_ : ∀ t ∈ l, t.length ≤ 255) (r : Txt), inTexts l.length (some (l.flatMap txB ++ r)) = (l, some r)
  | [], _, r => rfl
  | t :: l, h, r => by
    simp only [List.length_cons, inTexts, List.flatMap_cons, List.append_assoc]
    rw [inText_back (h t (by simp))]
    simp only
    rw [inTexts_back l (fun t ht => h t (by simp [ht])) r]
theorem inValue_back {v : Va} (hz : vaCheck v = 0) (h0 : -9223372036854775808 ≤ v.n) (h1 : v.n < 9223372036854775808) (r : Txt) : inValue (some (vaB v ++ r)) = (v, some r) := by
  have hg := va_good hz
  obtain ⟨hk, hs, hls, hll, hodd⟩ := hg
  have hk2 := fun h => va_two (va_good hz) h
  have e : inByte (some (vaB v ++ r)) = (v.kind, some ((if v.kind = 1 then n8 v.n else if v.kind = 2 then [toB v.n] else if v.kind = 3 then txB v.s else if v.kind = 4 then toB v.l.length :: v.l.flatMap txB else []) ++ r)) := by
    unfold vaB
    rw [List.cons_append, inByte_back (by omega) (by omega)]
  have hb : inBody v.kind (some ((if v.kind = 1 then n8 v.n else if v.kind = 2 then [toB v.n] else if v.kind = 3 then txB v.s else if v.kind = 4 then toB v.l.length :: v.l.flatMap txB else []) ++ r)) = (v, some r) := by
    obtain ⟨k, n, s, l⟩ := v
    simp only at hk hs hls hll hk2 h0 h1
    rcases hk with rfl | rfl | rfl | rfl
    · simp [oddVa] at hodd
      simp [inBody, inInt_back h0 h1, hodd]
    · simp [oddVa] at hodd
      have := hk2 rfl
      have hn : inByte (some (toB n :: r)) = (n, some r) := inByte_back (by omega) (by omega) r
      simp [inBody, hn, hodd]
    · simp [oddVa] at hodd
      simp [inBody, inText_back (by omega : s.length ≤ 255), hodd]
    · simp [oddVa] at hodd
      have hn := inByte_back (n := l.length) (by omega) (by omega) (l.flatMap txB ++ r)
      have ht := inTexts_back l (fun t ht => by have := hls t ht; omega) r
      simp [inBody, hn, ht, hodd]
  unfold inValue
  rw [e]
  simp only [hb, hz]
  simp


/-! ### what is read, was put -/
theorem byte_toB (c : UInt8) : toB (c.toNat : Int) = c := toB_nat c
theorem inByte_forth {b r : Txt} {n : Int} (h : inByte (some b) = (n, some r)) : b = toB n :: r := by
  cases b with
  | nil => cases h
  | cons c b =>
    simp only [inByte, Prod.mk.injEq, Option.some.injEq] at h
    rw [← h.1, ← h.2, toB_nat]
theorem inTake_forth {b r t : Txt} {n : Nat} (h : inTake (some b) n = (t, some r)) : b = t ++ r ∧ t.length = n := by
  unfold inTake at h
  simp only at h
  split at h
  · cases h
  · simp only [Prod.mk.injEq, Option.some.injEq] at h
    rw [← h.1, ← h.2]
    exact ⟨by simp, by simp; omega⟩
theorem inText_forth {b r s : Txt} (h : inText (some b) = (s, some r)) : b = txB s ++ r ∧ s.length ≤ 255 := by
  unfold inText at h
  have hb := inByte_lo (some b)
  cases hr : (inByte (some b)).2 with
  | none => rw [hr] at h; cases h
  | some b1 =>
    rw [hr] at h
    have h1 := inTake_forth h
    have h2 : inByte (some b) = ((inByte (some b)).1, some b1) := by rw [← hr]
    have h3 := inByte_forth h2
    have e : ((s.length : Nat) : Int) = (inByte (some b)).1 := by rw [h1.2]; omega
    refine ⟨?_, by omega⟩
    unfold txB
    rw [e, List.cons_append, ← h1.1]
    exact h3
theorem inTexts_forth : ∀ (k : Nat) {b r : Txt} {l : List Txt}, inTexts k (some b) = (l, some r) → b = l.flatMap txB ++ r
  | 0, b, r, l, h => by cases h; rfl
  | k + 1, b, r, l, h => by
    simp only [inTexts] at h
    cases hr : (inText (some b)).2 with
    | none =>
      rw [hr] at h
      have := inTexts_none k
      simp only [Prod.mk.injEq] at h
      rw [this] at h
      cases h.2
    | some b1 =>
      rw [hr] at h
      have h1 : inText (some b) = ((inText (some b)).1, some b1) := by rw [← hr]
      have h2 := (inText_forth h1).1
      simp only [Prod.mk.injEq] at h
      have h3 : inTexts k (some b1) = ((inTexts k (some b1)).1, some r) := by rw [← h.2]
      have h4 := inTexts_forth k h3
      rw [← h.1, List.flatMap_cons, List.append_assoc, ← h4]
      exact h2
theorem n8_be {l : Txt} (h : l.length = 8) : n8 (IntKind.i64.wrap (be l)) = l := by
  match l, h with
  | [a, b, c, d, e, f, g, i], _ =>
    have ha := a.toNat_lt
    have hb := b.toNat_lt
    have hc := c.toNat_lt
    have hd := d.toNat_lt
    have he := e.toNat_lt
    have hf := f.toNat_lt
    have hg := g.toNat_lt
    have hi := i.toNat_lt
    obtain ⟨n, hn⟩ : ∃ n : Int, IntKind.i64.wrap (be [a, b, c, d, e, f, g, i]) = n := ⟨_, rfl⟩
    obtain ⟨k, hk⟩ : ∃ k : Int, n = (be [a, b, c, d, e, f, g, i] : Int) - k * 18446744073709551616 := by
      rw [← hn]
      simp only [IntKind.wrap, IntKind.signed, IntKind.bits]
      refine ⟨((be [a, b, c, d, e, f, g, i] : Int) + 9223372036854775808) / 18446744073709551616, ?_⟩
      simp
      omega
    rw [hn]
    simp only [be, List.foldl_cons, List.foldl_nil] at hk
    push_cast at hk
    have q : ∀ (x : Int) (y : UInt8), x % 256 = y.toNat → toB x = y := fun x y h => by
      apply UInt8.toNat_inj.1
      have := toB_val x
      omega
    have f0 : ∀ (a b : Int), 0 ≤ b → a.fdiv b = a / b := fun a b h => Int.fdiv_eq_ediv_of_nonneg a h
    unfold n8
    rw [q (n.fdiv (2 ^ 56)) a (by rw [f0 _ _ (by omega)]; omega), q (n.fdiv (2 ^ 48)) b (by rw [f0 _ _ (by omega)]; omega), q (n.fdiv (2 ^ 40)) c (by rw [f0 _ _ (by omega)]; omega), q (n.fdiv (2 ^ 32)) d (by rw [f0 _ _ (by omega)]; omega),
      q (n.fdiv (2 ^ 24)) e (by rw [f0 _ _ (by omega)]; omega), q (n.fdiv (2 ^ 16)) f (by rw [f0 _ _ (by omega)]; omega), q (n.fdiv (2 ^ 8)) g (by rw [f0 _ _ (by omega)]; omega), q n i (by omega)]
theorem inInt_forth {b r : Txt} {n : Int} (h : inInt (some b) = (n, some r)) : b = n8 n ++ r := by
  unfold inInt at h
  simp only [Prod.mk.injEq] at h
  have h1 : inTake (some b) 8 = ((inTake (some b) 8).1, some r) := by rw [← h.2]
  have h2 := inTake_forth h1
  rw [← h.1, n8_be h2.2]
  exact h2.1
theorem inBody_kind (k : Int) (r : Option Txt) : (inBody k r).1.kind = k := by
  unfold inBody
  split
  · rename_i h; exact h.symm
  · split
    · rename_i h; exact h.symm
    · split
      · rename_i h; exact h.symm
      · split
        · rename_i h; exact h.symm
        · rfl
theorem inValue_forth {b r : Txt} {v : Va} (h : inValue (some b) = (v, some r)) : b = vaB v ++ r ∧ vaCheck v = 0 := by
  unfold inValue at h
  split at h
  · rename_i hc
    have hb := inByte_lo (some b)
    cases hr : (inByte (some b)).2 with
    | none =>
      rw [hr] at h hc
      exfalso
      have h0 : ∀ k, (inBody k none).2 = none := by
        intro k
        unfold inBody
        repeat' split
        all_goals first | rfl | exact inTexts_none _
      rw [h0] at hc
      exact absurd hc.1 (by simp)
    | some b1 =>
      rw [hr] at h hc
      have h2 : inByte (some b) = ((inByte (some b)).1, some b1) := by rw [← hr]
      have h3 := inByte_forth h2
      have hz : vaCheck v = 0 := by rw [h] at hc; exact hc.2
      refine ⟨?_, hz⟩
      have hk : v.kind = (inByte (some b)).1 := by
        have h9 := inBody_kind (inByte (some b)).1 (some b1)
        rw [h] at h9
        exact h9
      have hg := (va_good hz).k
      rw [h3, ← hk]
      unfold vaB
      rw [List.cons_append]
      rw [← hk] at h
      congr 1
      obtain ⟨k, n, s, l⟩ := v
      simp only at h hg ⊢
      rcases hg with rfl | rfl | rfl | rfl
      · simp only [inBody, if_true] at h
        simp only [Prod.mk.injEq, Va.mk.injEq] at h
        have : inInt (some b1) = (n, some r) := by rw [← h.2, ← h.1.2.1]
        simpa using inInt_forth this
      · simp [inBody] at h
        have : inByte (some b1) = (n, some r) := by rw [← h.2, ← h.1.1]
        simpa using inByte_forth this
      · simp [inBody] at h
        have : inText (some b1) = (s, some r) := by rw [← h.2, ← h.1.2.1]
        simpa using (inText_forth this).1
      · simp [inBody] at h
        obtain ⟨⟨h5, h6, h7⟩, h8⟩ := h
        cases hr2 : (inByte (some b1)).2 with
        | none => rw [hr2, inTexts_none] at h8; cases h8
        | some b2 =>
          rw [hr2] at h7 h8
          have g1 : inByte (some b1) = ((inByte (some b1)).1, some b2) := by rw [← hr2]
          have g2 := inByte_forth g1
          have g3 : inTexts (inByte (some b1)).1.toNat (some b2) = (l, some r) := by rw [← h8, ← h7]
          have g4 := inTexts_forth _ g3
          have g5 : l.length = (inByte (some b1)).1.toNat := by rw [← h7, inTexts_len]
          have hb1 := inByte_lo (some b1)
          have g6 : (l.length : Int) = (inByte (some b1)).1 := by omega
          simp only [g6]
          simp
          rw [← g4]
          exact g2
  · cases h
end Bz.S
