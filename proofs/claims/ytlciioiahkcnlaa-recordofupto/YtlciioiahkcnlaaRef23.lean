/- The page on records (ref23), and the plain comparison of verdicts, walked. -/
import Derived.Test.YtlciioiahkcnlaaRec
set_option linter.unusedSimpArgs false
set_option linter.unusedVariables false
namespace Bz.S
open Go Bz
set_option maxRecDepth 10000
set_option maxHeartbeats 4000000

theorem run_23May (code : Int) (l : List Vd) (hl : l.length ≤ BIG) : R F_ref23_May [.d (.int .i64 code), vdS l] [] = some (.d (.int .i64 (recMay code l)), []) := by
  refine R_of at_ref23_May (by decide) ?_
  unfold BIG at hl
  have hL := loop_find (X := X) (mask := mask_ref23_May_0) (body := body_ref23_May_0) l
    (fun i => ⟨mkE 54 [(1, vdS l), (5, .d (.int .i64 i))], []⟩)
    (fun _ => oddV) (.exit 0, ⟨mkE 54 [(1, vdS l)], []⟩) (fun i _ => (.ret, ⟨mkE 54 [(4, .d (.int .i64 4))], []⟩)) (by simp) (by simp)
    (fun i e hi he hq => by
      have hw := wrap_ok (a := (i : Int) + 1) (by omega) (by omega)
      simp [oddV, outB] at hq
      obtain ⟨⟨⟨q1, q2⟩, q3, q4⟩, q5, q6⟩ := hq
      have q1' : ¬ e.id < 0 := by omega
      have q2' : ¬ 63 < e.id := by omega
      have q3' : ¬ e.kind < 1 := by omega
      have q4' : ¬ 5 < e.kind := by omega
      have q5' : ¬ e.code < 0 := by omega
      have q6' : ¬ 255 < e.code := by omega
      simp -implicitDefEqProofs [body_ref23_May_0, mask_ref23_May_0, hi, he, hw, q1', q2', q3', q4', q5', q6'])
    (fun i e hi he hq => by
      have hq' : (((((decide (e.id < 0) || decide (63 < e.id)) || decide (e.kind < 1)) || decide (5 < e.kind)) || decide (e.code < 0)) || decide (255 < e.code)) = true := by
        simp only [oddV, outB] at hq; grind
      simp -implicitDefEqProofs at hq'
      simp -implicitDefEqProofs [body_ref23_May_0, mask_ref23_May_0, hi, he, hq']
      omega) (by simp -implicitDefEqProofs [body_ref23_May_0])
  have hA := findI_any oddV l 0
  unfold recMay
  rw [← hA]
  by_cases h1 : code < 0
  · have ho : outB code 0 255 = true := by simp [outB, h1]
    simp -implicitDefEqProofs [code_ref23_May, h1, ho]
  · by_cases h2 : 255 < code
    · have ho : outB code 0 255 = true := by simp [outB, h2]
      simp -implicitDefEqProofs [code_ref23_May, h1, h2, ho]
    · have ho : outB code 0 255 = false := by simp [outB]; omega
      simp -implicitDefEqProofs [code_ref23_May, h1, h2, ho]
      rw [hL _ (by simp [mask_ref23_May_0])]
      cases findI (fun _ => oddV) l 0 with
      | none => by_cases h3 : 255 < l.length <;> simp -implicitDefEqProofs [h3] <;> omega
      | some q => simp -implicitDefEqProofs

theorem run_23Record (code : Int) (l : List Vd) (hl : l.length ≤ BIG) : R F_ref23_Record [.d (.int .i64 code), vdS l] [] = some (byS (recB code l), []) := by
  refine R_of at_ref23_Record (by decide) ?_
  have hl' := hl
  unfold BIG at hl'
  have hL := loop_fold (X := X) (mask := mask_ref23_Record_0) (body := body_ref23_Record_0) l
    (fun i (b : Txt) => ⟨mkE 41 [(1, vdS l), (5, .os 10000050 b.length 0 b.length), (6, .d (.int .i64 i))], [(10000050, .arr 1 (b.map byC))]⟩)
    (fun i b => b.length = 3 * i + 2) (fun _ b v => b ++ vdB v) (fun b => (.exit 0, ⟨mkE 41 [(5, .os 10000050 b.length 0 b.length)], [(10000050, .arr 1 (b.map byC))]⟩)) (by simp) (fun i b v hi hv hI => by
      have hw := wrap_ok (a := (i : Int) + 1) (by omega) (by omega)
      have hn : b.length + 3 ≤ LIM := by unfold LIM; omega
      refine ⟨by simp [vdB]; omega, ?_⟩
      simp -implicitDefEqProofs [body_ref23_Record_0, mask_ref23_Record_0, hi, hv, hw, hn, vdB]) (fun b _ => by simp -implicitDefEqProofs [body_ref23_Record_0]) [toB code, toB l.length] (by simp)
  have hf : ∀ (l : List Vd) (i : Nat) (b : Txt), foldI (fun _ b v => b ++ vdB v) l i b = b ++ l.flatMap vdB := by
    intro l
    induction l with
    | nil => intro i b; simp
    | cons v r ih => intro i b; rw [foldI_cons, ih]; simp
  have e : [toB code, toB (l.length : Int)] ++ l.flatMap vdB = recB code l := rfl
  simp -implicitDefEqProofs [code_ref23_Record]
  rw [hL _ (by simp -implicitDefEqProofs [mask_ref23_Record_0]), hf, e]
  have hn : (recB code l).length ≤ LIM := by rw [recB_len]; unfold LIM; omega
  simp -implicitDefEqProofs [hn]

theorem run_plainVerdicts (l m : List Vd) (hl : l.length ≤ BIG) : R F_plain_Verdicts [vdS l, vdS m] [] = some (.d (.bool (decide (l = m))), []) := by
  refine R_of at_plain_Verdicts (by decide) ?_
  unfold BIG at hl
  by_cases hlen : l.length = m.length
  · have hL := loop_find (X := X) (mask := mask_plain_Verdicts_0) (body := body_plain_Verdicts_0) l
      (fun i => ⟨mkE 26 [(0, vdS l), (1, vdS m), (5, .d (.int .i64 i))], []⟩)
      (fun i v => decide (m[i]? ≠ some v)) (.exit 0, ⟨mkE 26 [], []⟩) (fun i _ => (.ret, ⟨mkE 26 [(4, .d (.bool false))], []⟩)) (by simp) (by simp)
      (fun i e hi he hq => by
        have hw := wrap_ok (a := (i : Int) + 1) (by omega) (by omega)
        have hi2 : i < m.length := by omega
        have hm : m[i] = e := by simpa [List.getElem?_eq_getElem hi2] using hq
        simp -implicitDefEqProofs [body_plain_Verdicts_0, mask_plain_Verdicts_0, hi, hi2, he, hm, hw])
      (fun i e hi he hq => by
        have hi2 : i < m.length := by omega
        have hm : ¬ m[i] = e := by simpa [List.getElem?_eq_getElem hi2] using hq
        generalize hg : m[i] = w at hm
        have hne : e.id = w.id → e.kind = w.kind → ¬ e.code = w.code := by
          intro a b c; apply hm; cases e; cases w; simp_all
        have n1 : ∀ a b : Int, a ≠ b → (a == b) = false := fun a b h => by simp [h]
        by_cases a1 : e.id = w.id
        · by_cases a2 : e.kind = w.kind
          · have a3 := n1 _ _ (hne a1 a2)
            simp -implicitDefEqProofs [body_plain_Verdicts_0, mask_plain_Verdicts_0, hi, hi2, he, hg, a1, a2, a3]
          · have a2' := n1 _ _ a2
            by_cases a3 : e.code = w.code
            · simp -implicitDefEqProofs [body_plain_Verdicts_0, mask_plain_Verdicts_0, hi, hi2, he, hg, a1, a2', a3]
            · have a3' := n1 _ _ a3
              simp -implicitDefEqProofs [body_plain_Verdicts_0, mask_plain_Verdicts_0, hi, hi2, he, hg, a1, a2', a3']
        · have a1' := n1 _ _ a1
          by_cases a2 : e.kind = w.kind
          · by_cases a3 : e.code = w.code
            · simp -implicitDefEqProofs [body_plain_Verdicts_0, mask_plain_Verdicts_0, hi, hi2, he, hg, a1', a2, a3]
            · have a3' := n1 _ _ a3
              simp -implicitDefEqProofs [body_plain_Verdicts_0, mask_plain_Verdicts_0, hi, hi2, he, hg, a1', a2, a3']
          · have a2' := n1 _ _ a2
            by_cases a3 : e.code = w.code
            · simp -implicitDefEqProofs [body_plain_Verdicts_0, mask_plain_Verdicts_0, hi, hi2, he, hg, a1', a2', a3]
            · have a3' := n1 _ _ a3
              simp -implicitDefEqProofs [body_plain_Verdicts_0, mask_plain_Verdicts_0, hi, hi2, he, hg, a1', a2', a3']) (by simp -implicitDefEqProofs [body_plain_Verdicts_0])
    have hi1 : (l.length : Int) = (m.length : Int) := by omega
    simp -implicitDefEqProofs [code_plain_Verdicts, hi1]
    rw [hL _ (by simp [mask_plain_Verdicts_0])]
    cases hF : findI (fun i v => decide (m[i]? ≠ some v)) l 0 with
    | none =>
      have : l = m := by
        rw [findI_none] at hF
        apply List.ext_getElem hlen
        intro i h1 h2
        have := hF i l[i] (List.getElem?_eq_getElem h1)
        simp [List.getElem?_eq_getElem h2] at this
        exact this.symm
      simp -implicitDefEqProofs [this]
    | some q =>
      have : ¬ l = m := by
        intro h
        subst h
        obtain ⟨k, h1, h2, h3, _⟩ := findI_some _ _ _ _ hF
        simp at h3
        rw [h1, Nat.zero_add] at h3
        exact h3 h2
      simp -implicitDefEqProofs [this]
  · have hi1 : ¬ (l.length : Int) = (m.length : Int) := by omega
    have : ¬ l = m := by intro h; exact hlen (congrArg _ h)
    simp -implicitDefEqProofs [code_plain_Verdicts, hi1, this]

theorem triples_len : ∀ (n : Nat) (b : Txt), b.length = 3 * n → (triples b).length = n
  | 0, b, h => by have : b = [] := List.length_eq_zero_iff.1 (by omega); subst this; rfl
  | n + 1, b, h => by
    match b, h with
    | x :: y :: z :: r, h => simp [triples]; exact triples_len n r (by simp at h; omega)
theorem triples_get : ∀ (b : Txt) (i : Nat) (h : 3 * i + 2 < b.length) (h' : i < (triples b).length), (triples b)[i] = ⟨b[3 * i].toNat, b[3 * i + 1].toNat, b[3 * i + 2].toNat⟩
  | x :: y :: z :: r, 0, h, h' => by simp [triples]
  | x :: y :: z :: r, i + 1, h, h' => by
    have := triples_get r i (by simp at h; omega) (by simp [triples] at h'; omega)
    simp only [triples, List.getElem_cons_succ, this]
    simp [show 3 * (i + 1) = 3 * i + 1 + 1 + 1 by omega]

theorem foldI_app {α : Type} : ∀ (l : List α) (i : Nat) (a : List α), foldI (fun _ a v => a ++ [v]) l i a = a ++ l
  | [], i, a => by simp
  | v :: r, i, a => by rw [foldI_cons, foldI_app r]; simp

theorem run_23Verdicts (b : Txt) (hl : b.length ≤ LIM) : R F_ref23_Verdicts [byS b] [] = some (match recRead b with
    | some p => .tup [.d (.int .i64 p.1), vdS p.2, .d (.bool true)]
    | none => .tup [.d (.int .i64 0), vdS [], .d (.bool false)], []) := by
  refine R_of at_ref23_Verdicts (by decide) ?_
  match b with
  | [] => simp -implicitDefEqProofs [code_ref23_Verdicts, recRead]
  | [c] => simp -implicitDefEqProofs [code_ref23_Verdicts, recRead]
  | c :: n :: rest =>
    have hn := n.toNat_lt
    have hw1 := wrap_ok (a := 3 * (n.toNat : Int)) (by omega) (by omega)
    have hw2 := wrap_ok (a := 2 + 3 * (n.toNat : Int)) (by omega) (by omega)
    have hw3 := wrap_ok (a := (n.toNat : Int)) (by omega) (by omega)
    have hw4 := wrap_ok (a := (c.toNat : Int)) (by omega) (by have := c.toNat_lt; omega)
    have h0 : ¬ ((rest.length : Int) + 1 + 1 < 2) := by omega
    by_cases h : rest.length = 3 * n.toNat
    · have h1 : (rest.length : Int) + 1 + 1 = 2 + 3 * n.toNat := by omega
      have hlen := triples_len _ _ h
      simp only [recRead, h]
      have hL := loop_fold (X := X) (mask := mask_ref23_Verdicts_0) (body := body_ref23_Verdicts_0) (triples rest)
        (fun i (a : List Vd) => ⟨mkE 60 [(0, byS (c :: n :: rest)), (5, .os 10000050 a.length 0 a.length), (6, .d (.int .i64 ((3 * i + 2 : Nat) : Int)))], [(10000050, .arr 3 (a.map vdC))]⟩)
        (fun i a => a.length = i) (fun _ a v => a ++ [v])
        (fun a => (.exit 0, ⟨mkE 60 [(0, byS (c :: n :: rest)), (5, .os 10000050 a.length 0 a.length)], [(10000050, .arr 3 (a.map vdC))]⟩)) (by simp) (fun i a v hi hv hI => by
          subst hI
          obtain ⟨k, hk⟩ : ∃ k, 3 * a.length = k := ⟨_, rfl⟩
          have hk1 : k < rest.length := by omega
          have hk2 : k + 1 < rest.length := by omega
          have hk3 : k + 1 + 1 < rest.length := by omega
          have hg : v = ⟨rest[k].toNat, rest[k + 1].toNat, rest[k + 1 + 1].toNat⟩ := by
            subst hk; rw [← hv]; exact triples_get rest a.length (by omega) hi
          have hg2 : ((3 * (a.length + 1) + 2 : Nat) : Int) = (k : Int) + 2 + 3 := by omega
          have hg3 : ((3 * a.length + 2 : Nat) : Int) = (k : Int) + 2 := by omega
          have ha : a.length + 1 ≤ LIM := by unfold LIM; omega
          refine ⟨by simp, ?_⟩
          rw [hg2, hg3]
          have hB : (c :: n :: rest).length = rest.length + 2 := rfl
          have e0 : (c :: n :: rest)[k + 2]'(by rw [hB]; omega) = rest[k] := rfl
          have e1 : (c :: n :: rest)[k + 2 + 1]'(by rw [hB]; omega) = rest[k + 1] := rfl
          have e2 : (c :: n :: rest)[k + 2 + 2]'(by rw [hB]; omega) = rest[k + 1 + 1] := rfl
          generalize hBB : c :: n :: rest = B at hB e0 e1 e2 ⊢
          have wa : ∀ u : UInt8, IntKind.i64.wrap (u.toNat : Int) = u.toNat := fun u => wrap_ok (by omega) (by have := u.toNat_lt; omega)
          have t0 : ((k : Int) + 2).toNat = k + 2 := by omega
          have t1 : ((k : Int) + 2 + 1).toNat = k + 2 + 1 := by omega
          have t2 : ((k : Int) + 2 + 2).toNat = k + 2 + 2 := by omega
          have u0 : k + 2 < B.length := by omega
          have u1 : k + 2 + 1 < B.length := by omega
          have u2 : k + 2 + 2 < B.length := by omega
          have v0 : (k : Int) + 2 < B.length := by omega
          have v1 : (k : Int) + 2 + 1 < B.length := by omega
          have v2 : (k : Int) + 2 + 2 < B.length := by omega
          have p0 : (0 : Int) ≤ (k : Int) + 2 := by omega
          have p1 : (0 : Int) ≤ (k : Int) + 2 + 1 := by omega
          have p2 : (0 : Int) ≤ (k : Int) + 2 + 2 := by omega
          have hBl : B.length ≤ LIM := by rw [← hBB]; exact hl
          unfold LIM at hBl
          have w1 := wrap_ok (a := (k : Int) + 2 + 1) (by omega) (by omega)
          have w2 := wrap_ok (a := (k : Int) + 2 + 2) (by omega) (by omega)
          have w3 := wrap_ok (a := (k : Int) + 2 + 3) (by omega) (by omega)
          simp -implicitDefEqProofs [body_ref23_Verdicts_0, mask_ref23_Verdicts_0, ha, t0, t1, t2, u0, u1, u2, v0, v1, v2, p0, p1, p2, w1, w2, w3, e0, e1, e2, wa, hg]
          ) (fun a hI => by
            have h5 : ¬ 3 * ((triples rest).length : Int) + 2 < (rest.length : Int) + 1 + 1 := by omega
            simp -implicitDefEqProofs [body_ref23_Verdicts_0, h5]) [] (by simp)
      rw [foldI_app, List.nil_append] at hL
      have hm := run_23May c.toNat (triples rest) (by unfold BIG; omega)
      simp -implicitDefEqProofs [code_ref23_Verdicts, h0, h1, hw1, hw2, hw3]
      rw [hL _ (by simp -implicitDefEqProofs [mask_ref23_Verdicts_0])]
      have hT : (triples rest).length ≤ LIM := by unfold LIM; omega
      have h6 : (2 : Int) ≤ 2 + 3 * n.toNat := by omega
      by_cases hz : recMay c.toNat (triples rest) = 0
      · simp -implicitDefEqProofs [hm, hw4, hz, hT, h6]
      · simp -implicitDefEqProofs [hm, hw4, hz, hT, h6]
    · have h1 : ¬ (rest.length : Int) + 1 + 1 = 2 + 3 * n.toNat := by omega
      simp -implicitDefEqProofs [code_ref23_Verdicts, recRead, h, h0, h1, hw1, hw2, hw3]
end Bz.S
