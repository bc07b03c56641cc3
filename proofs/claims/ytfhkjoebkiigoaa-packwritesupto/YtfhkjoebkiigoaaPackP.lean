/- Tables as octets: the plain law. -/
import Derived.Test.YtfhkjoebkiigoaaTab5
import Derived.Test.YtfhkjoebkiigoaaBack
set_option linter.unusedSimpArgs false
set_option linter.unusedVariables false
namespace Bz.S
open Go Bz
set_option maxRecDepth 10000
set_option maxHeartbeats 4000000

/-- a row's octets -/
def rwB (r : Rw) : Txt := toB r.kind :: (txB r.name ++ (n8 r.n ++ (n8 r.lo ++ (n8 r.hi ++ (toB r.set.length :: (r.set.flatMap txB ++ (toB r.kids.length :: r.kids.map toB)))))))
def octB (l : List Rw) : Txt := toB l.length :: l.flatMap rwB

def inBytes : Nat → Option Txt → List Int × Option Txt
  | 0, r => ([], r)
  | n + 1, r => ((inByte r).1 :: (inBytes n (inByte r).2).1, (inBytes n (inByte r).2).2)
def getRw (r : Option Txt) : Rw × Option Txt :=
  let k := inByte r
  let s := inText k.2
  let n := inInt s.2
  let lo := inInt n.2
  let hi := inInt lo.2
  let c := inByte hi.2
  let st := inTexts c.1.toNat c.2
  let d := inByte st.2
  let kd := inBytes d.1.toNat d.2
  (⟨k.1, s.1, n.1, lo.1, hi.1, st.1, kd.1⟩, kd.2)
def getRws : Nat → Option Txt → List Rw × Option Txt
  | 0, r => ([], r)
  | n + 1, r => ((getRw r).1 :: (getRws n (getRw r).2).1, (getRws n (getRw r).2).2)
def packGet (b : Txt) : List Rw × Option Txt := getRws (inByte (some b)).1.toNat (inByte (some b)).2

theorem inBytes_len : ∀ (n : Nat) (r : Option Txt), (inBytes n r).1.length = n
  | 0, _ => rfl
  | n + 1, r => by simp [inBytes, inBytes_len n]
theorem getRws_len : ∀ (n : Nat) (r : Option Txt), (getRws n r).1.length = n
  | 0, _ => rfl
  | n + 1, r => by simp [getRws, getRws_len n]
theorem inBytes_none : ∀ n : Nat, (inBytes n none).2 = none
  | 0 => rfl
  | n + 1 => by simp only [inBytes]; exact inBytes_none n
theorem inInt_none : (inInt none).2 = none := rfl
theorem getRw_none : (getRw none).2 = none := by
  simp only [getRw]
  have e1 : (inByte none).2 = none := rfl
  rw [e1]
  have e2 : (inText none).2 = none := rfl
  rw [e2, inInt_none, inInt_none, inInt_none, e1, inTexts_none, e1, inBytes_none]
theorem getRws_none : ∀ n : Nat, (getRws n none).2 = none
  | 0 => rfl
  | n + 1 => by simp only [getRws]; rw [getRw_none]; exact getRws_none n

/-! ### there and back -/
/-- a row that can be put -/
structure RwPut (r : Rw) : Prop where
  k : 0 ≤ r.kind ∧ r.kind ≤ 255
  s : r.name.length ≤ 255
  n : -9223372036854775808 ≤ r.n ∧ r.n < 9223372036854775808
  lo : -9223372036854775808 ≤ r.lo ∧ r.lo < 9223372036854775808
  hi : -9223372036854775808 ≤ r.hi ∧ r.hi < 9223372036854775808
  st : r.set.length ≤ 255 ∧ ∀ t ∈ r.set, t.length ≤ 255
  kd : r.kids.length ≤ 255 ∧ ∀ c ∈ r.kids, 0 ≤ c ∧ c ≤ 255
theorem inBytes_back : ∀ (l : List Int) (_ : ∀ c ∈ l, 0 ≤ c ∧ c ≤ 255) (r : Txt), inBytes l.length (some (l.map toB ++ r)) = (l, some r)
  | [], _, r => rfl
  | c :: l, h, r => by
    have hc := h c (by simp)
    simp only [List.length_cons, inBytes, List.map_cons, List.cons_append]
    rw [inByte_back hc.1 hc.2]
    simp only
    rw [inBytes_back l (fun x hx => h x (by simp [hx])) r]
theorem getRw_back {r : Rw} (h : RwPut r) (q : Txt) : getRw (some (rwB r ++ q)) = (r, some q) := by
  obtain ⟨hk, hs, hn, hlo, hhi, hst, hkd⟩ := h
  unfold getRw rwB
  simp only [List.cons_append, List.append_assoc]
  rw [inByte_back hk.1 hk.2]
  simp only
  rw [inText_back hs]
  simp only
  rw [inInt_back hn.1 hn.2]
  simp only
  rw [inInt_back hlo.1 hlo.2]
  simp only
  rw [inInt_back hhi.1 hhi.2]
  simp only
  rw [inByte_back (by omega) (by omega)]
  simp only [Int.toNat_natCast]
  rw [inTexts_back _ hst.2]
  simp only
  rw [inByte_back (by omega) (by omega)]
  simp only [Int.toNat_natCast]
  rw [inBytes_back _ hkd.2]
theorem getRws_back : ∀ (l : List Rw) (_ : ∀ r ∈ l, RwPut r) (q : Txt), getRws l.length (some (l.flatMap rwB ++ q)) = (l, some q)
  | [], _, q => rfl
  | r :: l, h, q => by
    simp only [List.length_cons, getRws, List.flatMap_cons, List.append_assoc]
    rw [getRw_back (h r (by simp))]
    simp only
    rw [getRws_back l (fun x hx => h x (by simp [hx])) q]
theorem packGet_back {l : List Rw} (hl : l.length ≤ 255) (h : ∀ r ∈ l, RwPut r) : packGet (octB l) = (l, some []) := by
  unfold packGet octB
  rw [inByte_back (by omega) (by omega)]
  simp only [Int.toNat_natCast]
  have := getRws_back l h []
  rwa [List.append_nil] at this

/-! ### and forth -/
theorem some_of {α : Type} {x : α × Option Txt} {r : Txt} (h : x.2 = some r) : x = (x.1, some r) := by rw [← h]
theorem inBytes_forth : ∀ (k : Nat) {b r : Txt} {l : List Int}, inBytes k (some b) = (l, some r) → b = l.map toB ++ r
  | 0, b, r, l, h => by cases h; rfl
  | k + 1, b, r, l, h => by
    simp only [inBytes] at h
    cases hr : (inByte (some b)).2 with
    | none =>
      rw [hr] at h
      simp only [Prod.mk.injEq] at h
      rw [inBytes_none] at h
      cases h.2
    | some b1 =>
      rw [hr] at h
      have h2 := inByte_forth (some_of hr)
      simp only [Prod.mk.injEq] at h
      have h4 := inBytes_forth k (some_of h.2)
      rw [← h.1, List.map_cons, List.cons_append, ← h4]
      exact h2
theorem getRw_forth {b q : Txt} {r : Rw} (h : getRw (some b) = (r, some q)) : b = rwB r ++ q := by
  have e1 : (inByte none).2 = none := rfl
  have e2 : (inText none).2 = none := rfl
  simp only [getRw, Prod.mk.injEq] at h
  obtain ⟨h5, h6⟩ := h
  cases h1 : (inByte (some b)).2 with
  | none => rw [h1, e2, inInt_none, inInt_none, inInt_none, e1, inTexts_none, e1, inBytes_none] at h6; cases h6
  | some b1 =>
  rw [h1] at h5 h6
  cases h2 : (inText (some b1)).2 with
  | none => rw [h2, inInt_none, inInt_none, inInt_none, e1, inTexts_none, e1, inBytes_none] at h6; cases h6
  | some b2 =>
  rw [h2] at h5 h6
  cases h3 : (inInt (some b2)).2 with
  | none => rw [h3, inInt_none, inInt_none, e1, inTexts_none, e1, inBytes_none] at h6; cases h6
  | some b3 =>
  rw [h3] at h5 h6
  cases h4 : (inInt (some b3)).2 with
  | none => rw [h4, inInt_none, e1, inTexts_none, e1, inBytes_none] at h6; cases h6
  | some b4 =>
  rw [h4] at h5 h6
  cases h7 : (inInt (some b4)).2 with
  | none => rw [h7, e1, inTexts_none, e1, inBytes_none] at h6; cases h6
  | some b5 =>
  rw [h7] at h5 h6
  cases h8 : (inByte (some b5)).2 with
  | none => rw [h8, inTexts_none, e1, inBytes_none] at h6; cases h6
  | some b6 =>
  rw [h8] at h5 h6
  cases h9 : (inTexts (inByte (some b5)).1.toNat (some b6)).2 with
  | none => rw [h9, e1, inBytes_none] at h6; cases h6
  | some b7 =>
  rw [h9] at h5 h6
  cases h10 : (inByte (some b7)).2 with
  | none => rw [h10, inBytes_none] at h6; cases h6
  | some b8 =>
  rw [h10] at h5 h6
  have f1 := inByte_forth (some_of h1)
  have f2 := (inText_forth (some_of h2)).1
  have f3 := inInt_forth (some_of h3)
  have f4 := inInt_forth (some_of h4)
  have f5 := inInt_forth (some_of h7)
  have f6 := inByte_forth (some_of h8)
  have f7 := inTexts_forth _ (some_of h9)
  have f8 := inByte_forth (some_of h10)
  have f9 := inBytes_forth _ (some_of h6)
  have l1 := inTexts_len (inByte (some b5)).1.toNat (some b6)
  have l2 := inBytes_len (inByte (some b7)).1.toNat (some b8)
  have c1 := inByte_lo (some b5)
  have c2 := inByte_lo (some b7)
  generalize (inTexts (inByte (some b5)).1.toNat (some b6)).1 = vs at *
  generalize (inBytes (inByte (some b7)).1.toNat (some b8)).1 = vk at *
  have k1 : (inByte (some b5)).1 = (vs.length : Int) := by omega
  have k2 : (inByte (some b7)).1 = (vk.length : Int) := by omega
  rw [k1] at f6
  rw [k2] at f8
  rw [← h5]
  simp only [rwB, List.cons_append, List.append_assoc]
  rw [← f9, ← f8, ← f7, ← f6, ← f5, ← f4, ← f3, ← f2]
  exact f1
theorem getRws_forth : ∀ (k : Nat) {b q : Txt} {l : List Rw}, getRws k (some b) = (l, some q) → b = l.flatMap rwB ++ q
  | 0, b, q, l, h => by cases h; rfl
  | k + 1, b, q, l, h => by
    simp only [getRws] at h
    cases hr : (getRw (some b)).2 with
    | none =>
      rw [hr] at h
      simp only [Prod.mk.injEq] at h
      rw [getRws_none] at h
      cases h.2
    | some b1 =>
      rw [hr] at h
      have h2 := getRw_forth (some_of hr)
      simp only [Prod.mk.injEq] at h
      have h4 := getRws_forth k (some_of h.2)
      rw [← h.1, List.flatMap_cons, List.append_assoc, ← h4]
      exact h2
theorem packGet_forth {b : Txt} {l : List Rw} (h : packGet b = (l, some [])) : b = octB l := by
  unfold packGet at h
  cases hr : (inByte (some b)).2 with
  | none => rw [hr] at h; have := getRws_none (inByte (some b)).1.toNat; rw [h] at this; cases this
  | some b1 =>
    rw [hr] at h
    have h2 := inByte_forth (some_of hr)
    have h3 := getRws_forth _ h
    have h4 := getRws_len (inByte (some b)).1.toNat (some b1)
    rw [h] at h4
    have hb := inByte_lo (some b)
    have h5 : (inByte (some b)).1 = (l.length : Int) := by simp only at h4; omega
    rw [List.append_nil] at h3
    unfold octB
    rw [← h3, ← h5]
    exact h2
end Bz.S
