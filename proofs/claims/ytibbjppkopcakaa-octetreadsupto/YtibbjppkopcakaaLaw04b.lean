/- Layer 4's other laws, walked: what is read. -/
import Derived.Test.YtibbjppkopcakaaLaw04
import Derived.Test.YtibbjppkopcakaaRdV
import Derived.Test.YtibbjppkopcakaaPlV
import Derived.Test.YtibbjppkopcakaaTypM
set_option linter.unusedSimpArgs false
set_option linter.unusedVariables false
namespace Bz.S
open Go Bz
set_option maxRecDepth 10000
set_option maxHeartbeats 4000000

theorem inValue_OK (r : Option Txt) : VaOK (inValue r).1 := by
  unfold inValue
  split
  · exact inBody_OK _ _
  · exact ⟨by simp [va0, LIM], by simp [va0, BIG], by simp [va0]⟩

theorem run_step04 (p : Rd) (hp : RdOK p) (k : Int) : ∃ q, R F_law04_step [.pv 0 0, rdA p, .d (.int .i64 k)] [(0, inW (rdO p))] = some (.tup [rdA q, .d (.bool true)], [(0, inW (rdO q))]) ∧ RdOK q := by
  by_cases k1 : k = 1
  · subst k1
    have h1 := run_04Byte p hp
    have hq := rdByte_OK hp
    have hO := rdByte_O hp
    have h2 := runw_Byte (rdO p)
    rw [← hO] at h2
    refine ⟨rdByte p, ?_, hq.1⟩
    have h3 := run_04Left (rdByte p) hq.1
    have h4 := runw_Err (rdO (rdByte p))
    have h5 := runw_Left (rdO (rdByte p))
    generalize inByte (rdO p) = c at *
    generalize rdO p = r at *
    generalize rdByte p = q at *
    refine R_of at_law04_step (by decide) ?_
    obtain ⟨b, a, x⟩ := p
    obtain ⟨b', a', x'⟩ := q
    have hx : (rdO ⟨b', a', x'⟩).isSome = !x' := by cases x' <;> rfl
    rw [hx] at h4
    generalize rdO ⟨b', a', x'⟩ = r' at *
    cases x' <;> simp -implicitDefEqProofs at h4 <;> simp -implicitDefEqProofs [code_law04_step, h1, h2, h3, h4, h5]
  · by_cases k2 : k = 2
    · subst k2
      have h1 := run_04Number p hp
      have hq := rdNum_OK hp
      have hO := rdNum_O hp
      have h2 := runw_Int (rdO p)
      rw [← hO] at h2
      refine ⟨rdNum p, ?_, hq.1⟩
      have h3 := run_04Left (rdNum p) hq.1
      have h4 := runw_Err (rdO (rdNum p))
      have h5 := runw_Left (rdO (rdNum p))
      generalize inInt (rdO p) = c at *
      generalize rdO p = r at *
      generalize rdNum p = q at *
      refine R_of at_law04_step (by decide) ?_
      obtain ⟨b, a, x⟩ := p
      obtain ⟨b', a', x'⟩ := q
      have hx : (rdO ⟨b', a', x'⟩).isSome = !x' := by cases x' <;> rfl
      rw [hx] at h4
      generalize rdO ⟨b', a', x'⟩ = r' at *
      cases x' <;> simp -implicitDefEqProofs at h4 <;> simp -implicitDefEqProofs [code_law04_step, h1, h2, h3, h4, h5]
    · by_cases k3 : k = 3
      · subst k3
        have h1 := run_04Words p hp
        have hq := rdWords_OK hp
        have hO := rdWords_O hp
        have h2 := runw_Text (rdO p)
        rw [← hO] at h2
        refine ⟨rdWords p, ?_, hq.1⟩
        have h3 := run_04Left (rdWords p) hq.1
        have h4 := runw_Err (rdO (rdWords p))
        have h5 := runw_Left (rdO (rdWords p))
        generalize inText (rdO p) = c at *
        generalize rdO p = r at *
        generalize rdWords p = q at *
        refine R_of at_law04_step (by decide) ?_
        obtain ⟨b, a, x⟩ := p
        obtain ⟨b', a', x'⟩ := q
        have hx : (rdO ⟨b', a', x'⟩).isSome = !x' := by cases x' <;> rfl
        rw [hx] at h4
        generalize rdO ⟨b', a', x'⟩ = r' at *
        cases x' <;> simp -implicitDefEqProofs at h4 <;> simp -implicitDefEqProofs [code_law04_step, h1, h2, h3, h4, h5]
      · obtain ⟨q, h1, hq, hqb, hO⟩ := run_04Thing p hp
        have h2 := run_InValue (rdO p)
        rw [← hO] at h2
        refine ⟨q, ?_, hq⟩
        have h3 := run_04Left q hq
        have h4 := runw_Err (rdO q)
        have h5 := runw_Left (rdO q)
        have hl := (inValue_OK (rdO p)).l
        have h6 := run_plValue (inValue (rdO p)).1 (inValue (rdO p)).1 hl hl
        generalize inValue (rdO p) = c at *
        generalize rdO p = r at *
        refine R_of at_law04_step (by decide) ?_
        obtain ⟨b, a, x⟩ := p
        obtain ⟨b', a', x'⟩ := q
        have hx : (rdO ⟨b', a', x'⟩).isSome = !x' := by cases x' <;> rfl
        rw [hx] at h4
        generalize rdO ⟨b', a', x'⟩ = r' at *
        simp -implicitDefEqProofs at h6
        cases x' <;> simp -implicitDefEqProofs at h4 <;> simp -implicitDefEqProofs [code_law04_step, h1, h2, h3, h4, h5, h6, k1, k2, k3]

theorem run_OpenOs (b : Txt) (hl : b.length ≤ LIM) : R F_octet_Open [.os 0 b.length 0 b.length] [(0, .arr 1 (b.map byC))] = some (.pv 1 0, [(0, .arr 1 (b.map byC)), (1, inW (some b))]) := by
  refine R_of at_octet_Open (by decide) ?_
  simp -implicitDefEqProofs [code_octet_Open, hl, inL]

theorem reads_ok (b : Txt) (l : List Int) (hb : b.length ≤ BIG) (hl : l.length ≤ BIG) : R F_law04_OctetReads [byS b, i6S l] [] = some (.d (.bool true), []) := by
  have hmain : ∀ (l : List Int), l.length ≤ 80 → ∀ (l' : List Int), l'.length ≤ BIG → (if 80 < l'.length then l'.take 80 else l') = l → R F_law04_OctetReads [byS b, i6S l'] [] = some (.d (.bool true), []) := by
    intro l hl80 l' hl' hll
    refine R_of at_law04_OctetReads (by decide) ?_
    have hO := run_OpenOs b (big_lim hb)
    unfold BIG at hb hl'
    have hbl : b.length ≤ LIM := by unfold LIM; omega
    obtain ⟨r0, rfl, hL0⟩ := loop_upto (X := X) (mask := mask_law04_OctetReads_0) (body := body_law04_OctetReads_0) b.length
      (fun i (c : Txt) => ⟨mkE 64 [(0, byS b), (1, i6S l), (5, .os 10000050 b.length 0 b.length), (6, .pv 70010 0), (7, .d (.int .i64 i))], [(70010, inW (some b)), (10000050, .arr 1 (c.map byC))]⟩)
      (fun i c => c.length = b.length) (fun r => r = (.exit 0, ⟨mkE 64 [(0, byS b), (1, i6S l), (6, .pv 70010 0)], [(70010, inW (some b))]⟩))
      (fun i c hi hI => by
        have hi2 : i < c.length := by omega
        have hw := wrap_ok (a := (i : Int) + 1) (by omega) (by omega)
        obtain ⟨z, hz⟩ : ∃ z : UInt8, intBin .xor .u8 (c[i].toNat : Int) 255 = some (.d (.int .u8 (z.toNat : Int))) := ⟨toB (BitVec.ofInt 8 c[i].toNat ^^^ BitVec.ofInt 8 255).toNat, by rw [← wrap_u8]; rfl⟩
        refine .inl ⟨c.set i z, by simp [hI], ?_⟩
        simp -implicitDefEqProofs [body_law04_OctetReads_0, mask_law04_OctetReads_0, hi, hi2, hI, hw, hz])
      (fun c hI => ⟨_, by simp -implicitDefEqProofs [body_law04_OctetReads_0, hI], by simp, rfl⟩) b rfl
    obtain ⟨r, rfl, hL1⟩ := loop_upto (X := X) (mask := mask_law04_OctetReads_1) (body := body_law04_OctetReads_1) l.length
      (fun i (p : Rd) => ⟨mkE 64 [(1, i6S l), (6, .pv 70010 0), (8, .pv 120070 0), (9, .d (.bool true)), (10, .d (.int .i64 i))], [(70010, inW (rdO p)), (120070, .var [byS p.b, .d (.int .i64 p.at_), .d (.bool p.bad)])]⟩)
      (fun i p => RdOK p) (fun r => r = (.exit 2, ⟨mkE 64 [(9, .d (.bool true))], []⟩))
      (fun i p hi hp => by
        obtain ⟨q, hr, hq⟩ := run_step04 p hp l[i]
        have hw := wrap_ok (a := (i : Int) + 1) (by omega) (by omega)
        refine .inl ⟨q, hq, ?_⟩
        generalize rdO p = r1 at *
        generalize rdO q = r2 at *
        obtain ⟨b, a, x⟩ := p
        obtain ⟨b', a', x'⟩ := q
        simp -implicitDefEqProofs [body_law04_OctetReads_1, mask_law04_OctetReads_1, hi, hr, hw])
      (fun p hp => ⟨_, by simp -implicitDefEqProofs [body_law04_OctetReads_1], by simp, rfl⟩)
      (⟨b, 0, false⟩ : Rd) ⟨Nat.zero_le _, by unfold BIG; exact hb⟩
    have hr0 : rdO ⟨b, 0, false⟩ = some b := rfl
    rw [hr0] at hL1
    have hE := runw_Left (some b)
    simp -implicitDefEqProofs at hE
    by_cases h80 : 80 < l'.length
    · have h81 : (80 : Int) < l'.length := by omega
      have h82 : (80 : Int) ≤ l'.length := by omega
      rw [if_pos h80] at hll
      have hll2 : List.take 80 (l'.map i6C) = l.map i6C := by rw [← hll, List.map_take]
      simp -implicitDefEqProofs [code_law04_OctetReads, run_alive04, h81, h82, hll2, hbl, hO]
      rw [hL0 _ (by simp -implicitDefEqProofs [mask_law04_OctetReads_0])]
      simp -implicitDefEqProofs [hE]
      rw [hL1 _ (by simp -implicitDefEqProofs [mask_law04_OctetReads_1])]
      simp -implicitDefEqProofs
    · have h81 : ¬ (80 : Int) < l'.length := by omega
      rw [if_neg h80] at hll
      subst hll
      simp -implicitDefEqProofs [code_law04_OctetReads, run_alive04, h81, hbl, hO]
      rw [hL0 _ (by simp -implicitDefEqProofs [mask_law04_OctetReads_0])]
      simp -implicitDefEqProofs [hE]
      rw [hL1 _ (by simp -implicitDefEqProofs [mask_law04_OctetReads_1])]
      simp -implicitDefEqProofs
  refine hmain (if 80 < l.length then l.take 80 else l) ?_ l hl rfl
  split
  · simp; omega
  · omega

theorem run_OctetReads (b : Txt) (l : List Int) (hb0 : bulkL [.vs false (b.map byC)] + bulkL [.vs false (l.map i6C)] ≤ 1048576) : R F_law04_OctetReads [byS b, i6S l] [] = some (.d (.bool true), []) := by
  have h1 := len_bulkLL byC (fun _ => by simp [bulkL, bulkD]) b
  have h2 := len_bulkLL i6C (fun _ => by simp [bulkL, bulkD]) l
  simp only [bulkL, bulkD] at hb0
  exact reads_ok b l (by unfold BIG; omega) (by unfold BIG; omega)

/-! ### what was put is read again -/
theorem toB_lo {n : Int} (h0 : 0 ≤ n) (h1 : n ≤ 255) : ((toB n).toNat : Int) = n := by
  rw [toB_val]; omega
theorem inByte_back {n : Int} (h0 : 0 ≤ n) (h1 : n ≤ 255) (r : Txt) : inByte (some (toB n :: r)) = (n, some r) := by
  simp [inByte, toB_lo h0 h1]
theorem inTake_back (a r : Txt) : inTake (some (a ++ r)) a.length = (a, some r) := by
  simp [inTake]
theorem be_n8 (n : Int) : (be (n8 n) : Int) = n % 18446744073709551616 := by
  have f : ∀ (a b : Int), 0 ≤ b → a.fdiv b = a / b := fun a b h => Int.fdiv_eq_ediv_of_nonneg a h
  simp only [be, n8, List.foldl_cons, List.foldl_nil]
  push_cast
  simp only [toB_val]
  rw [f n 72057594037927936 (by omega), f n 281474976710656 (by omega), f n 1099511627776 (by omega), f n 4294967296 (by omega), f n 16777216 (by omega), f n 65536 (by omega), f n 256 (by omega)]
  omega
theorem inInt_back {n : Int} (h0 : -9223372036854775808 ≤ n) (h1 : n < 9223372036854775808) (r : Txt) : inInt (some (n8 n ++ r)) = (n, some r) := by
  have e := inTake_back (n8 n) r
  have hl : (n8 n).length = 8 := rfl
  rw [hl] at e
  unfold inInt
  rw [e]
  have h := be_n8 n
  have : IntKind.i64.wrap (be (n8 n) : Int) = n := wrap_cong (k := n / 18446744073709551616) (by omega) h0 h1
  rw [this]
theorem inText_back {s : Txt} (h : s.length ≤ 255) (r : Txt) : inText (some (txB s ++ r)) = (s, some r) := by
  unfold inText txB
  rw [List.cons_append, inByte_back (by omega) (by omega)]
  simp only [Int.toNat_natCast]
  exact inTake_back s r
theorem inTexts_back : ∀ (l : List Txt) (_ : ∀ t ∈ l, t.length ≤ 255) (r : Txt), inTexts l.length (some (l.flatMap txB ++ r)) = (l, some r)
  | [], _, r => rfl
  | t :: l, h, r => by
    simp only [List.length_cons, inTexts, List.flatMap_cons, List.append_assoc]
    rw [inText_back (h t (by simp))]
    simp only
    rw [inTexts_back l (fun t ht => h t (by simp [ht])) r]
theorem inValue_back {v : Va} (hz : vaCheck v = 0) (h0 : -9223372036854775808 ≤ v.n) (h1 : v.n < 9223372036854775808) (r : Txt) : inValue (some (vaB v ++ r)) = (v, some r) := by
  have hg := va_good hz
  obtain ⟨hk, hs, hls, hll, hodd⟩ := hg
  have hk2 := fun h => va_two (va_good hz) h
  have e : inByte (some (vaB v ++ r)) = (v.kind, some ((if v.kind = 1 then n8 v.n else if v.kind = 2 then [toB v.n] else if v.kind = 3 then txB v.s else if v.kind = 4 then toB v.l.length :: v.l.flatMap txB else []) ++ r)) := by
    unfold vaB
    rw [List.cons_append, inByte_back (by omega) (by omega)]
  have hb : inBody v.kind (some ((if v.kind = 1 then n8 v.n else if v.kind = 2 then [toB v.n] else if v.kind = 3 then txB v.s else if v.kind = 4 then toB v.l.length :: v.l.flatMap txB else []) ++ r)) = (v, some r) := by
    obtain ⟨k, n, s, l⟩ := v
    simp only at hk hs hls hll hk2 h0 h1
    rcases hk with rfl | rfl | rfl | rfl
    · simp [oddVa] at hodd
      simp [inBody, inInt_back h0 h1, hodd]
    · simp [oddVa] at hodd
      have := hk2 rfl
      have hn : inByte (some (toB n :: r)) = (n, some r) := inByte_back (by omega) (by omega) r
      simp [inBody, hn, hodd]
    · simp [oddVa] at hodd
      simp [inBody, inText_back (by omega : s.length ≤ 255), hodd]
    · simp [oddVa] at hodd
      have hn := inByte_back (n := l.length) (by omega) (by omega) (l.flatMap txB ++ r)
      have ht := inTexts_back l (fun t ht => by have := hls t ht; omega) r
      simp [inBody, hn, ht, hodd]
  unfold inValue
  rw [e]
  simp only [hb, hz]
  simp

/-- numbers as they can be -/
structure OpW (o : Op4) : Prop where
  i0 : -9223372036854775808 ≤ o.i
  i1 : o.i < 9223372036854775808
  n0 : -9223372036854775808 ≤ o.v.n
  n1 : o.v.n < 9223372036854775808

theorem back_ok (l : List Op4) (hl : l.length ≤ BIG) (ho : ∀ o ∈ l, OpOK o) (hW : ∀ o ∈ l, OpW o) : R F_law04_OctetBack [opS l] [] = some (.d (.bool true), []) := by
  refine R_of at_law04_OctetBack (by decide) ?_
  have hfew := run_few l hl
  have ho' : ∀ o ∈ l.take 60, OpOK o := fun o h => ho o (List.mem_of_mem_take h)
  have hW' : ∀ o ∈ l.take 60, OpW o := fun o h => hW o (List.mem_of_mem_take h)
  have hl' : (l.take 60).length ≤ 60 := by simp; omega
  generalize l.take 60 = m at hfew ho' hl' hW'
  have hp := run_put m (by omega) ho'
  have hL := loop_find (X := X) (mask := mask_law04_OctetBack_0) (body := body_law04_OctetBack_0) m
    (fun i => ⟨mkE 92 [(0, opS m), (3, .d (.int .i64 i))], []⟩)
    (fun _ o => decide (¬ opE o = 0)) (.exit 0, ⟨mkE 92 [(0, opS m)], []⟩) (fun _ _ => (.ret, ⟨mkE 92 [(2, .d (.bool true))], []⟩)) (by simp) (by simp)
    (fun i o hi hx hq => by
      have hw := wrap_ok (a := (i : Int) + 1) (by omega) (by omega)
      have h1 := run_one o (ho' o (hx ▸ List.getElem_mem hi))
      have hz : opE o = 0 := by simpa using hq
      rw [hz] at h1
      simp only [if_true] at h1
      simp -implicitDefEqProofs [body_law04_OctetBack_0, mask_law04_OctetBack_0, hi, hx, h1, hw])
    (fun i o hi hx hq => by
      have h1 := run_one o (ho' o (hx ▸ List.getElem_mem hi))
      have hz : ¬ opE o = 0 := by simpa using hq
      simp only [if_neg hz] at h1
      simp -implicitDefEqProofs [body_law04_OctetBack_0, mask_law04_OctetBack_0, hi, hx, h1, hz]) (by simp -implicitDefEqProofs [body_law04_OctetBack_0])
  simp -implicitDefEqProofs [code_law04_OctetBack, run_alive04, hfew]
  rw [hL _ (by simp -implicitDefEqProofs [mask_law04_OctetBack_0])]
  cases hF : findI (fun _ o => decide (¬ opE o = 0)) m 0 with
  | some q => simp -implicitDefEqProofs
  | none =>
    have hall : ∀ o ∈ m, opE o = 0 := by
      intro o h
      obtain ⟨k, hk⟩ := List.getElem?_of_mem h
      have := (findI_none _ _ _).1 hF k o hk
      simpa using this
    have hpo := fold_ok m [] hall
    rw [List.nil_append] at hpo
    rw [hpo] at hp
    have hlen := flat_opB m hall
    have hOp := runw_Open (m.flatMap opB) (by unfold LIM; omega)
    simp -implicitDefEqProofs [owDone] at hp
    obtain ⟨r, rfl, hL1⟩ := loop_upto (X := X) (mask := mask_law04_OctetBack_1) (body := body_law04_OctetBack_1) m.length
      (fun i (_ : Unit) => ⟨mkE 92 [(0, opS m), (7, .d (.int .i64 0)), (8, .pv 120010 0), (9, .d (.int .i64 i))], [(120010, inW (some ((m.drop i).flatMap opB)))]⟩)
      (fun i _ => True) (fun r => r = (.exit 2, ⟨mkE 92 [(7, .d (.int .i64 0)), (8, .pv 120010 0)], [(120010, inW (some []))]⟩))
      (fun i _ hi _ => by
        have hw := wrap_ok (a := (i : Int) + 1) (by omega) (by omega)
        obtain ⟨o, hx⟩ : ∃ o, m[i] = o := ⟨_, rfl⟩
        have hmem : o ∈ m := hx ▸ List.getElem_mem hi
        have hz := hall o hmem
        have hWo := hW' o hmem
        have hvo := (ho' o hmem).v.l
        have hd : m.drop i = o :: m.drop (i + 1) := by rw [List.drop_eq_getElem_cons hi, hx]
        rw [hd, List.flatMap_cons]
        generalize (m.drop (i + 1)).flatMap opB = rest at *
        refine .inl ⟨(), trivial, ?_⟩
        obtain ⟨kd, n, i', s, v⟩ := o
        obtain ⟨hi0, hi1, hn0, hn1⟩ := hWo
        simp only at hi0 hi1 hn0 hn1 hvo
        unfold opE at hz
        unfold opB
        simp only at hz ⊢
        by_cases k1 : kd = 1
        · subst k1
          have hn : ¬ (n < 0 ∨ 255 < n) := by
            intro h
            rw [if_pos rfl, if_pos h] at hz
            cases hz
          have hb := runw_Byte (some (toB n :: rest))
          rw [inByte_back (by omega) (by omega)] at hb
          simp -implicitDefEqProofs [body_law04_OctetBack_1, mask_law04_OctetBack_1, hi, hx, hb, hw]
        · by_cases k2 : kd = 2
          · subst k2
            have hb := runw_Int (some (n8 i' ++ rest))
            rw [inInt_back hi0 hi1] at hb
            simp -implicitDefEqProofs [body_law04_OctetBack_1, mask_law04_OctetBack_1, hi, hx, hb, hw]
          · by_cases k3 : kd = 3
            · subst k3
              have hs : s.length ≤ 255 := by
                by_cases h : 255 < s.length
                · simp [h] at hz
                · omega
              have hb := runw_Text (some (txB s ++ rest))
              rw [inText_back hs] at hb
              simp -implicitDefEqProofs [body_law04_OctetBack_1, mask_law04_OctetBack_1, hi, hx, hb, hw]
            · simp only [k1, k2, k3, if_false] at hz ⊢
              have hb := run_InValue (some (vaB v ++ rest))
              rw [inValue_back hz hn0 hn1] at hb
              have h6 := run_plValue v v hvo hvo
              obtain ⟨vk, vn, vs, vl⟩ := v
              simp -implicitDefEqProofs at h6
              simp -implicitDefEqProofs [body_law04_OctetBack_1, mask_law04_OctetBack_1, hi, hx, hb, hw, h6, k1, k2, k3])
      (fun _ _ => ⟨(.exit 2, ⟨mkE 92 [(7, .d (.int .i64 0)), (8, .pv 120010 0)], [(120010, inW (some []))]⟩), by simp -implicitDefEqProofs [body_law04_OctetBack_1], by simp, rfl⟩) () trivial
    have hE := runw_Err (some [])
    have hLe := runw_Left (some [])
    simp -implicitDefEqProofs at hE hLe hL1
    simp -implicitDefEqProofs [hp, hOp]
    rw [hL1 _ (by simp -implicitDefEqProofs [mask_law04_OctetBack_1])]
    simp -implicitDefEqProofs [hE, hLe]

theorem run_OctetBack (l : List Op4) (hW : ∀ o ∈ l, OpW o) (hb0 : bulkL [.vs false (l.map opC)] ≤ 1048576) : R F_law04_OctetBack [opS l] [] = some (.d (.bool true), []) := by
  have h1 := op_bulk l
  simp only [bulkL, bulkD] at hb0
  exact back_ok l (by unfold BIG; omega) (fun o ho => opOK_bulk (by have := h1.2 o ho; omega)) hW

theorem typ_opW {P : Program} {t va l st : TypeId} {fs gs : Array Field} (hu : P.underlying t = some (.struct fs)) (huv : P.underlying va = some (.struct gs)) (hul : P.underlying l = some (.slice st)) {i1 i2 i3 s j1 j2 s2 : TypeId} (hfs : fs.toList.map (·.type) = [i1, i2, i3, s, va]) (hgs : gs.toList.map (·.type) = [j1, j2, s2, l])
    (h1 : P.underlying i1 = some (.int .i64)) (h2 : P.underlying i2 = some (.int .i64)) (h3 : P.underlying i3 = some (.int .i64)) (h4 : P.underlying s = some .string)
    (g1 : P.underlying j1 = some (.int .i64)) (g2 : P.underlying j2 = some (.int .i64)) (g3 : P.underlying s2 = some .string) (g4 : P.underlying st = some .string) (x : List D) (h : Typed P t x) : ∃ o : Op4, x = opC o ∧ OpW o := by
  obtain ⟨parts, rfl, hp⟩ := typ_fields h hu hfs
  obtain ⟨a, r, rfl, ha, hp⟩ := tall_cons hp
  obtain ⟨b, r, rfl, hb, hp⟩ := tall_cons hp
  obtain ⟨c, r, rfl, hc, hp⟩ := tall_cons hp
  obtain ⟨d, r, rfl, hd, hp⟩ := tall_cons hp
  obtain ⟨e, r, rfl, he, hp⟩ := tall_cons hp
  cases tall_nil hp
  obtain ⟨m1, rfl, _⟩ := typ_int ha h1
  obtain ⟨m2, rfl, _⟩ := typ_int hb h2
  obtain ⟨m3, rfl, w3⟩ := typ_int hc h3
  obtain ⟨m4, rfl⟩ := typ_str hd h4
  obtain ⟨v, rfl, hv⟩ := typ_vaW huv hul hgs g1 g2 g3 g4 e he
  exact ⟨⟨m1, m2, m3, m4, v⟩, rfl, ⟨(i64_lo w3).1, (i64_lo w3).2, hv.1, hv.2⟩⟩
theorem typ_opsW {P : Program} {q t va l st : TypeId} {fs gs : Array Field} (hq : P.underlying q = some (.slice t)) (hu : P.underlying t = some (.struct fs)) (huv : P.underlying va = some (.struct gs)) (hul : P.underlying l = some (.slice st)) {i1 i2 i3 s j1 j2 s2 : TypeId} (hfs : fs.toList.map (·.type) = [i1, i2, i3, s, va]) (hgs : gs.toList.map (·.type) = [j1, j2, s2, l])
    (h1 : P.underlying i1 = some (.int .i64)) (h2 : P.underlying i2 = some (.int .i64)) (h3 : P.underlying i3 = some (.int .i64)) (h4 : P.underlying s = some .string)
    (g1 : P.underlying j1 = some (.int .i64)) (g2 : P.underlying j2 = some (.int .i64)) (g3 : P.underlying s2 = some .string) (g4 : P.underlying st = some .string) (x : List D) (h : Typed P q x) : ∃ m : List Op4, x = [.vs false (m.map opC)] ∧ ∀ o ∈ m, OpW o := by
  obtain ⟨es, rfl, hes⟩ := typ_slice h hq
  obtain ⟨m, rfl, hm⟩ := mem_map_allW opC OpW (es := es) fun c hc => typ_opW hu huv hul hfs hgs h1 h2 h3 h4 g1 g2 g3 g4 c (hes c hc)
  exact ⟨m, rfl, hm⟩

/-! ### of what nobody made -/
theorem nil_Byte (n : Int) : R F_octet_Out_Byte [.d .nilp, .d (.int .i64 n)] [] = some (.tup [], []) := by
  have hf : ∀ e : Int, R F_octet_Out_fail [.d .nilp, .d (.int .i64 e)] [] = some (.d (.bool true), []) := fun e => by
    refine R_of at_octet_Out_fail (by decide) ?_
    simp -implicitDefEqProofs [code_octet_Out_fail]
  refine R_of at_octet_Out_Byte (by decide) ?_
  by_cases h1 : n < 0
  · simp -implicitDefEqProofs [code_octet_Out_Byte, hf, h1]
  · by_cases h2 : 255 < n
    · simp -implicitDefEqProofs [code_octet_Out_Byte, hf, h1, h2]
    · simp -implicitDefEqProofs [code_octet_Out_Byte, hf, h1, h2]
theorem nil_fail (e : Int) : R F_octet_Out_fail [.d .nilp, .d (.int .i64 e)] [] = some (.d (.bool true), []) := by
  refine R_of at_octet_Out_fail (by decide) ?_
  simp -implicitDefEqProofs [code_octet_Out_fail]
theorem nil_Int (n : Int) : R F_octet_Out_Int [.d .nilp, .d (.int .i64 n)] [] = some (.tup [], []) := by
  refine R_of at_octet_Out_Int (by decide) ?_
  simp -implicitDefEqProofs [code_octet_Out_Int, nil_fail]
theorem nil_Text (s : Txt) (hs : s.length ≤ LIM) : R F_octet_Out_Text [.d .nilp, .d (.str s)] [] = some (.tup [], []) := by
  refine R_of at_octet_Out_Text (by decide) ?_
  by_cases h : (255 : Int) < s.length
  · simp -implicitDefEqProofs [code_octet_Out_Text, nil_fail, h, hs]
  · simp -implicitDefEqProofs [code_octet_Out_Text, nil_fail, h, hs]
theorem nil_Value (v : Va) (hv : VaOK v) : R F_octet_Out_Value [.d .nilp, vaA v] [] = some (.tup [], []) := by
  refine R_of at_octet_Out_Value (by decide) ?_
  have hc := run_vaCheck v hv
  simp -implicitDefEqProofs [code_octet_Out_Value, nil_fail, hc]
theorem nil_Done : R F_octet_Out_Done [.d .nilp] [] = some (.tup [byS [], .d (.int .i64 9)], []) := by
  refine R_of at_octet_Out_Done (by decide) ?_
  simp -implicitDefEqProofs [code_octet_Out_Done]
theorem nil_alls : R F_octet_In_Byte [.d .nilp] [] = some (.d (.int .i64 0), []) ∧ R F_octet_In_Int [.d .nilp] [] = some (.d (.int .i64 0), []) ∧ R F_octet_In_Text [.d .nilp] [] = some (.d (.str []), []) ∧
    R F_octet_In_Left [.d .nilp] [] = some (.d (.int .i64 0), []) ∧ R F_octet_In_Err [.d .nilp] [] = some (.d (.int .i64 9), []) :=
  ⟨RUN_run own retOwn ext code (k := 60) (by kernel_rfl), RUN_run own retOwn ext code (k := 60) (by kernel_rfl), RUN_run own retOwn ext code (k := 60) (by kernel_rfl), RUN_run own retOwn ext code (k := 60) (by kernel_rfl), RUN_run own retOwn ext code (k := 60) (by kernel_rfl)⟩
abbrev inZ : Heap := [(0, .var [.d (.vs true []), .d (.bool false), .d (.int .i64 0)])]
theorem zero_alls : R F_octet_In_Byte [.pv 0 0] inZ = some (.d (.int .i64 0), inZ) ∧ R F_octet_In_Text [.pv 0 0] inZ = some (.d (.str []), inZ) ∧
    R F_octet_In_Value [.pv 0 0] inZ = some (vaA va0, inZ) ∧ R F_octet_In_Err [.pv 0 0] inZ = some (.d (.int .i64 9), inZ) :=
  ⟨RUN_run own retOwn ext code (k := 60) (by kernel_rfl), RUN_run own retOwn ext code (k := 60) (by kernel_rfl), RUN_run own retOwn ext code (k := 60) (by kernel_rfl), RUN_run own retOwn ext code (k := 60) (by kernel_rfl)⟩

theorem nobody_ok (n : Int) (s : Txt) (v : Va) (hs : s.length ≤ LIM) (hv : VaOK v) : R F_law04_OctetNobody [.d (.int .i64 n), .d (.str s), vaA v] [] = some (.d (.bool true), []) := by
  refine R_of at_law04_OctetNobody (by decide) ?_
  have h1 := nil_Byte n
  have h2 := nil_Int (IntKind.i64.wrap n)
  have h2' := nil_Int n
  have h3 := nil_Text s hs
  have h4 := nil_Value v hv
  obtain ⟨g1, g2, g3, g4, g5⟩ := nil_alls
  obtain ⟨z1, z2, z3, z4⟩ := zero_alls
  have h6 := run_plValue va0 va0 (by simp [va0, BIG]) (by simp [va0, BIG])
  simp -implicitDefEqProofs [va0, vaA, txS] at h6 z3
  simp -implicitDefEqProofs [code_law04_OctetNobody, run_alive04, h1, h2, h2', h3, h4, nil_Done, g1, g2, g3, g4, g5, z1, z2, z3, z4, h6]
theorem run_OctetNobody (n : Int) (s : Txt) (v : Va) (_w : (Lit.int .i64 n).wf = true) (hb0 : bulkL [.int .i64 n] + (bulkL [.str s] + bulkL (vaC v)) ≤ 1048576) : R F_law04_OctetNobody [.d (.int .i64 n), .d (.str s), vaA v] [] = some (.d (.bool true), []) := by
  have h1 : s.length ≤ 1048576 := by simp only [bulkL, bulkD] at hb0; omega
  exact nobody_ok n s v (by unfold LIM; omega) (vaOK_bulk (by omega))
end Bz.S
