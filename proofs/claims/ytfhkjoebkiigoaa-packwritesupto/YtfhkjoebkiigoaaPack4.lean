/- Tables out of octets, by the page (ref13.Read), and expressions as octets (pack.Expr, pack.Back), walked. -/
import Derived.Test.YtfhkjoebkiigoaaPack3
set_option linter.unusedSimpArgs false
set_option linter.unusedVariables false
namespace Bz.S
open Go Bz
set_option maxRecDepth 10000
set_option maxHeartbeats 4000000

theorem getRw_small (r : Option Txt) : RwS (getRw r).1 := by
  simp only [getRw]
  have b1 := inByte_lo (inInt (inInt (inInt (inText (inByte r).2).2).2).2).2
  refine ⟨inText_len _, ?_, inTexts_each _ _, ?_⟩
  · rw [inTexts_len]; omega
  · simp only
    rw [inBytes_len]
    have := inByte_lo (inTexts (inByte (inInt (inInt (inInt (inText (inByte r).2).2).2).2).2).1.toNat (inByte (inInt (inInt (inInt (inText (inByte r).2).2).2).2).2).2).2
    omega
theorem getRws_small : ∀ (n : Nat) (r : Option Txt), ∀ x ∈ (getRws n r).1, RwS x
  | 0, r, x, h => by simp [getRws] at h
  | n + 1, r, x, h => by
    simp only [getRws, List.mem_cons] at h
    rcases h with rfl | h
    · exact getRw_small r
    · exact getRws_small n _ x h
theorem packGet_small (b : Txt) : (packGet b).1.length ≤ 255 ∧ ∀ x ∈ (packGet b).1, RwS x := by
  unfold packGet
  refine ⟨?_, getRws_small _ _⟩
  rw [getRws_len]
  have := inByte_lo (some b)
  omega
theorem packGet_T (b : Txt) : TabB (packGet b).1 := tabB2 (packGet_small b).1 (packGet_small b).2

theorem readE_ref (b : Txt) : readE b = if (packGet b).2 = some [] ∧ (refBack (packGet b).1).isSome = true then some (packGet b).1 else none := by
  unfold readE
  have h := tab_ref (packGet b).1
  cases hr : refBack (packGet b).1 with
  | none => rw [hr] at h; rw [h]; simp
  | some e => rw [hr] at h; rw [h]; simp

theorem run_13Read (b : Txt) (hb : b.length ≤ BIG) : R F_ref13_Read [byS b] [] = some (.tup [rwS ((readE b).getD []), .d (.bool (readE b).isSome)], []) := by
  refine R_of at_ref13_Read (by decide) ?_
  rw [readE_ref]
  have hT := packGet_T b
  have hBk := run_refBack' (packGet b).1 hT fun r hr => by have := rwS_N ((packGet_small b).2 r hr); omega
  have p0 : RdOK ⟨b, 0, false⟩ := ⟨Nat.zero_le _, hb⟩
  have e0 : rdO ⟨b, 0, false⟩ = some b := rfl
  have g1 := run_04Byte ⟨b, 0, false⟩ p0
  have p1 := rdByte_OK p0
  have e1 := rdByte_O p0
  rw [e0] at g1 e1
  simp -implicitDefEqProofs [rdA] at g1
  unfold packGet at *
  have b1 := inByte_lo (some b)
  generalize rdByte ⟨b, 0, false⟩ = q1 at *
  rw [← e1] at hBk ⊢
  obtain ⟨m, hm⟩ : ∃ m : Nat, (inByte (some b)).1 = m := ⟨(inByte (some b)).1.toNat, by omega⟩
  rw [hm] at g1 hBk ⊢
  simp only [Int.toNat_natCast] at hBk ⊢
  have hL : ∃ r, (∃ (l : List Rw) (q : Rd), r = (.exit 0, ⟨mkE 52 [(4, .pv 20020 0), (6, .os 10000060 l.length 0 l.length)], [(20020, .var [byS q.b, .d (.int .i64 q.at_), .d (.bool q.bad)]), (10000060, .arr 7 (l.map rwC))]⟩) ∧ RdOK q ∧ rdO q = (getRws m (rdO q1)).2 ∧ (q.bad = false → l = (getRws m (rdO q1)).1)) ∧
      ∀ s, trim mask_ref13_Read_0 s = ⟨mkE 52 [(4, .pv 20020 0), (5, .d (.int .i64 m)), (6, .os 10000060 0 0 0), (7, .d (.int .i64 ((0 : Nat) : Int)))], [(20020, .var [byS q1.b, .d (.int .i64 q1.at_), .d (.bool q1.bad)]), (10000060, .arr 7 [])]⟩ → exL X (.loop mask_ref13_Read_0 body_ref13_Read_0) s = some r := by
    refine loop_upto (σ := List Rw × Rd) m (fun i a => ⟨mkE 52 [(4, .pv 20020 0), (5, .d (.int .i64 m)), (6, .os 10000060 a.1.length 0 a.1.length), (7, .d (.int .i64 i))], [(20020, .var [byS a.2.b, .d (.int .i64 a.2.at_), .d (.bool a.2.bad)]), (10000060, .arr 7 (a.1.map rwC))]⟩)
      (fun i a => RdOK a.2 ∧ a.1.length = i ∧ (a.2.bad = false → getRws m (rdO q1) = (a.1 ++ (getRws (m - i) (rdO a.2)).1, (getRws (m - i) (rdO a.2)).2)) ∧ (a.2.bad = true → (getRws m (rdO q1)).2 = none)) _ ?_ ?_ ([], q1) ⟨p1.1, rfl, fun _ => by simp, fun h => by rw [rdO_bad' h, getRws_none]⟩
    · rintro i ⟨l, q⟩ hi ⟨h1, h3, h4, h5⟩
      simp only at h1 h3 h4 h5
      have hi' : (i : Int) < m := by omega
      cases hb : q.bad with
      | true =>
        refine .inr ⟨_, by simp -implicitDefEqProofs [body_ref13_Read_0, hb, hi']; rfl, by simp, l, q, by simp [hb], h1, ?_, fun h => by rw [hb] at h; cases h⟩
        rw [h5 hb, rdO_bad' hb]
      | false =>
        have h4 := h4 hb
        obtain ⟨x, q', hr, hq', _, hO, hx⟩ := run_13row q h1
        have w1 := wrap_ok (a := (i : Int) + 1) (by omega) (by omega)
        have hll : l.length + 1 ≤ LIM := by unfold LIM; omega
        obtain ⟨n, hn⟩ : ∃ n, m - i = n + 1 := ⟨m - i - 1, by omega⟩
        have e : m - (i + 1) = n := by omega
        refine .inl ⟨(l ++ [x], q'), ⟨hq', by simp [h3], fun h => ?_, fun h => ?_⟩, ?_⟩
        · simp only at h
          rw [h4, hn, e]
          simp only [getRws, hO, hx h]
          simp
        · simp only at h
          rw [h4, hn]
          simp only [getRws, ← hO]
          rw [rdO_bad' h, getRws_none]
        · obtain ⟨b, a, y⟩ := q
          obtain ⟨b', a', y'⟩ := q'
          simp only at hb
          subst hb
          simp -implicitDefEqProofs [body_ref13_Read_0, mask_ref13_Read_0, hi', hr, w1, hll]
    · rintro ⟨l, q⟩ ⟨h1, h3, h4, h5⟩
      simp only at h1 h3 h4 h5
      rw [Nat.sub_self] at h4
      refine ⟨_, by simp -implicitDefEqProofs [body_ref13_Read_0]; rfl, by simp, l, q, by simp, h1, ?_, fun h => ?_⟩
      · cases hb : q.bad with
        | true => rw [h5 hb, rdO_bad' hb]
        | false => rw [h4 hb]; rfl
      · rw [h4 h]; simp [getRws]
  obtain ⟨r, ⟨l, q, rfl, hq, eq2, el⟩, hL⟩ := hL
  have hLe := run_04Left q hq
  obtain ⟨b', a', x'⟩ := q
  obtain ⟨b1', a1', x1'⟩ := q1
  simp only at el
  generalize getRws m (rdO ⟨b1', a1', x1'⟩) = V at *
  obtain ⟨lv, rv⟩ := V
  simp only at el eq2 hBk ⊢
  clear e1
  cases x' with
  | true =>
    have : rv = none := by rw [← eq2]; rfl
    subst this
    simp -implicitDefEqProofs [code_ref13_Read, g1]
    rw [hL _ (by simp -implicitDefEqProofs [mask_ref13_Read_0])]
    simp -implicitDefEqProofs
  | false =>
    have hl := el rfl
    subst hl
    rw [eq2] at hLe
    have hrv : rv = some (b'.drop a') := by rw [← eq2]; rfl
    subst hrv
    simp -implicitDefEqProofs at hLe
    by_cases hd : b'.length ≤ a'
    · have hd0 : b'.length - a' = 0 := by omega
      rw [hd0] at hLe
      simp -implicitDefEqProofs at hLe
      have hdn : b'.drop a' = [] := List.drop_eq_nil_of_le hd
      rw [hdn]
      cases hr : refBack l with
      | none =>
        rw [hr] at hBk
        simp -implicitDefEqProofs at hBk
        simp -implicitDefEqProofs [code_ref13_Read, g1]
        rw [hL _ (by simp -implicitDefEqProofs [mask_ref13_Read_0])]
        simp -implicitDefEqProofs [hLe, hBk]
      | some e =>
        rw [hr] at hBk
        simp -implicitDefEqProofs at hBk
        simp -implicitDefEqProofs [code_ref13_Read, g1]
        rw [hL _ (by simp -implicitDefEqProofs [mask_ref13_Read_0])]
        simp -implicitDefEqProofs [hLe, hBk]
    · have hd2 : 0 < b'.length - a' := by omega
      have hdn : ¬ b'.drop a' = [] := by intro h; have := congrArg List.length h; simp at this; omega
      rw [if_neg (by intro h; exact hdn (Option.some.inj h.1))]
      simp -implicitDefEqProofs [code_ref13_Read, g1]
      rw [hL _ (by simp -implicitDefEqProofs [mask_ref13_Read_0])]
      simp -implicitDefEqProofs [hLe, hd2]

/-! ### expressions -/
def backE (b : Txt) : Ex × Int := match readE b with
  | none => (ex0, 16)
  | some l => tabBack l
theorem run_packBack (b : Txt) (hb : b.length ≤ BIG) : R F_pack_Back [byS b] [] = some (.tup [exA (backE b).1, .d (.int .i64 (backE b).2)], []) := by
  refine R_of at_pack_Back (by decide) ?_
  have h1 := run_packRead b hb (packGet_T b)
  have h2 := run_tabBack _ (packGet_T b)
  unfold backE
  unfold readE at h1 ⊢
  by_cases hc : (packGet b).2 = some [] ∧ (tabBack (packGet b).1).2 = 0
  · rw [if_pos hc] at h1 ⊢
    simp only
    generalize tabBack (packGet b).1 = T at *
    generalize (packGet b).1 = l at *
    simp -implicitDefEqProofs at h1
    simp -implicitDefEqProofs [code_pack_Back, h1, h2]
  · rw [if_neg hc] at h1 ⊢
    simp -implicitDefEqProofs [rwS] at h1
    simp -implicitDefEqProofs [code_pack_Back, h1]
    simp -implicitDefEqProofs [ex0, Ex.kind, Ex.name, Ex.n, Ex.lo, Ex.hi, Ex.kids]
def exprE (e : Ex) : Txt × Int := if astCheck e = 0 then (octB (tabE e), 0) else ([], astCheck e)
theorem run_packExpr (e : Ex) (hb : exN e ≤ BIG) (hT : astCheck e = 0 → TabB (tabE e)) (hp : astCheck e = 0 → ∀ r ∈ tabE e, RwPut r) : R F_pack_Expr [exA e] [] = some (.tup [byS (exprE e).1, .d (.int .i64 (exprE e).2)], []) := by
  refine R_of at_pack_Expr (by decide) ?_
  have h1 := run_Check e hb
  have h2 := run_tabOf e hb
  unfold exprE
  by_cases hz : astCheck e = 0
  · have hlen : (tabE e).length = size e := by unfold tabE; rw [if_pos hz, rows_len]
    have hs := (check_ok.1 hz).2.1
    have hps := size_pos e
    have h3 := run_packPut (tabE e) (hT hz) fun _ => ⟨by omega, by omega, hp hz⟩
    have ht : tabBack (tabE e) = (e, 0) := by unfold tabE; rw [if_pos hz]; exact tabBack_rows hz
    rw [ht] at h3
    simp only [if_true] at h3
    rw [hz] at h1
    rw [if_pos hz]
    generalize octB (tabE e) = B at *
    generalize tabE e = Q at *
    simp -implicitDefEqProofs [code_pack_Expr, h1, h2, h3]
  · simp -implicitDefEqProofs [code_pack_Expr, h1, hz]
end Bz.S
