/- Sets of texts: plain.In, plain.Rising, value.Set, value.Has. -/
import Derived.Test.YtkokmockakgjaaaSort
set_option linter.unusedSimpArgs false
set_option linter.unusedVariables false
namespace Bz.S
open Go Bz
set_option maxRecDepth 10000
set_option maxHeartbeats 4000000

/-! ### plainly -/
/-- rising, each once -/
def UpS (l : List Txt) : Prop := l.Pairwise fun a b => Op.bytesLess a b = true

theorem upS_nodup {l : List Txt} (h : UpS l) : l.Nodup := h.imp fun {a b} e q => by subst q; rw [blt_tot.irr] at e; cases e
theorem upS_upB {l : List Txt} (h : UpS l) : UpB Op.bytesLess l := h.imp fun e => blt_tot.asym e
/-- rising lists of the same members are one -/
theorem upS_unique {a b : List Txt} (ha : UpS a) (hb : UpS b) (h : ∀ x, x ∈ a ↔ x ∈ b) : a = b :=
  up_unique blt_tot (upS_upB ha) (upS_upB hb) ((List.perm_ext_iff_of_nodup (upS_nodup ha) (upS_nodup hb)).2 h)

theorem compL_up : ∀ {l : List Txt}, UpB Op.bytesLess l → UpS (compL l)
  | [], _ => List.Pairwise.nil
  | [x], _ => List.pairwise_singleton _ _
  | x :: y :: r, h => by
    have h' := List.pairwise_cons.1 h
    have ih := compL_up h'.2
    unfold compL
    split
    · exact ih
    · rename_i hne
      refine List.pairwise_cons.2 ⟨fun b hb => ?_, ih⟩
      have hb' := compL_mem.1 hb
      have h1 := h'.1 b hb'
      cases q : Op.bytesLess x b with
      | true => rfl
      | false =>
        have := blt_tot.tot x b q h1
        subst this
        rcases List.mem_cons.1 hb' with e | hb'
        · exact absurd e hne
        · have h2 := (List.pairwise_cons.1 h'.2).1 x hb'
          have h3 := h'.1 y (by simp)
          exact absurd (blt_tot.tot x y h2 h3) hne
theorem setT_up (l : List Txt) : UpS (setT l) := compL_up (isort_up blt_tot l)
theorem setT_mem {l : List Txt} {a : Txt} : a ∈ setT l ↔ a ∈ l := by unfold setT; rw [compL_mem]; exact isort_mem
theorem setT_len (l : List Txt) : (setT l).length ≤ l.length := by
  unfold setT
  have := compL_len (sortTx l)
  rw [show (sortTx l).length = l.length from isort_len l] at this
  exact this

/-- one more, at its place -/
def insR (out : List Txt) (x : Txt) : List Txt := if x ∈ out then out else (out.takeWhile fun y => Op.bytesLess y x) ++ (x :: out.dropWhile fun y => Op.bytesLess y x)
theorem insR_mem {out : List Txt} {x a : Txt} : a ∈ insR out x ↔ a = x ∨ a ∈ out := by
  unfold insR
  split
  · rename_i h
    constructor
    · exact .inr
    · rintro (rfl | h')
      · exact h
      · exact h'
  · have := List.takeWhile_append_dropWhile (p := fun y => Op.bytesLess y x) (l := out)
    conv => rhs; rw [← this]
    simp only [List.mem_append, List.mem_cons]
    grind
theorem insR_up {out : List Txt} {x : Txt} (h : UpS out) : UpS (insR out x) := by
  unfold insR
  split
  · exact h
  · rename_i hx
    induction out with
    | nil => exact List.pairwise_singleton _ _
    | cons y r ih =>
      have h' := List.pairwise_cons.1 h
      cases hyx : Op.bytesLess y x with
      | true =>
        simp only [List.takeWhile_cons, hyx, if_true, List.dropWhile_cons, List.cons_append]
        refine List.pairwise_cons.2 ⟨fun b hb => ?_, ih h'.2 (fun q => hx (by simp [q]))⟩
        have := List.takeWhile_append_dropWhile (p := fun y => Op.bytesLess y x) (l := r)
        rcases List.mem_append.1 hb with hb | hb
        · exact h'.1 b (this ▸ List.mem_append_left _ hb)
        · rcases List.mem_cons.1 hb with rfl | hb
          · exact hyx
          · exact h'.1 b (this ▸ List.mem_append_right _ hb)
      | false =>
        simp only [List.takeWhile_cons, hyx, Bool.false_eq_true, if_false, List.dropWhile_cons, List.nil_append]
        have hxy : Op.bytesLess x y = true := by
          cases q : Op.bytesLess x y with
          | true => rfl
          | false => exact absurd (blt_tot.tot x y q hyx) (fun e => hx (by simp [e]))
        refine List.pairwise_cons.2 ⟨fun b hb => ?_, h⟩
        rcases List.mem_cons.1 hb with rfl | hb
        · exact hxy
        · exact blt_tot.tra x y b hxy (h'.1 b hb)
theorem fold_insR : ∀ (l out : List Txt), UpS out → UpS (l.foldl insR out) ∧ ∀ a, a ∈ l.foldl insR out ↔ a ∈ l ∨ a ∈ out
  | [], out, h => ⟨h, fun a => by simp⟩
  | x :: r, out, h => by
    obtain ⟨h1, h2⟩ := fold_insR r (insR out x) (insR_up h)
    refine ⟨h1, fun a => ?_⟩
    rw [List.foldl_cons, h2, insR_mem, List.mem_cons]
    grind
theorem rising_set (l : List Txt) : l.foldl insR [] = setT l := by
  obtain ⟨h1, h2⟩ := fold_insR l [] List.Pairwise.nil
  exact upS_unique h1 (setT_up l) fun a => by rw [h2, setT_mem]; simp
theorem setT_ext {a b : List Txt} (h : ∀ x, x ∈ a ↔ x ∈ b) : setT a = setT b :=
  upS_unique (setT_up a) (setT_up b) fun x => by rw [setT_mem, setT_mem]; exact h x
theorem setT_id {l : List Txt} (h : UpS l) : setT l = l := upS_unique (setT_up l) h fun _ => setT_mem

/-! ### the walks -/
theorem any_mem (l : List Txt) (s : Txt) : (l.any fun e => s == e) = decide (s ∈ l) := by
  rw [Bool.eq_iff_iff]; simp

theorem run_plIn (l : List Txt) (s : Txt) (hl : l.length ≤ BIG) : R F_plain_In [txS l, stA s] [] = some (.d (.bool (decide (s ∈ l))), []) := by
  refine R_of at_plain_In (by decide) ?_
  unfold BIG at hl
  have hL := loop_find (X := X) (mask := mask_plain_In_0) (body := body_plain_In_0) l
    (fun i => ⟨mkE 18 [(0, txS l), (1, stA s), (5, .d (.int .i64 i))], []⟩)
    (fun _ e => s == e) (.exit 0, ⟨mkE 18 [], []⟩) (fun _ _ => (.ret, ⟨mkE 18 [(4, .d (.bool true))], []⟩)) (by simp) (by simp)
    (fun i e hi he hq => by
      have hw := wrap_ok (a := (i : Int) + 1) (by omega) (by omega)
      have hq' : ¬ e = s := fun h => by simp [h] at hq
      simp -implicitDefEqProofs [body_plain_In_0, mask_plain_In_0, hi, he, hq', hw])
    (fun i e hi he hq => by
      have hq' : e = s := by have : s = e := by simpa using hq
                             exact this.symm
      simp -implicitDefEqProofs [body_plain_In_0, hi, he, hq']) (by simp -implicitDefEqProofs [body_plain_In_0])
  rw [← any_mem, ← findI_any _ l 0]
  simp -implicitDefEqProofs [code_plain_In]
  rw [hL _ (by simp [mask_plain_In_0])]
  cases findI (fun _ e => s == e) l 0 <;> simp -implicitDefEqProofs

theorem takeW_idx (p : Txt → Bool) : ∀ (l : List Txt) (i : Nat), (match findI (fun _ e => !p e) l i with | none => l.length | some q => q.1 - i) = (l.takeWhile p).length
  | [], i => rfl
  | x :: r, i => by
    unfold findI
    cases h : p x with
    | false => simp [h]
    | true =>
      have ih := takeW_idx p r (i + 1)
      simp only [h, Bool.not_true, Bool.false_eq_true, if_false, List.takeWhile_cons, if_true, List.length_cons]
      cases hF : findI (fun _ e => !p e) r (i + 1) with
      | none => rw [hF] at ih; simp only at ih ⊢; omega
      | some q =>
        rw [hF] at ih
        simp only at ih ⊢
        obtain ⟨k, h1, _⟩ := findI_some _ _ _ _ hF
        omega

/-- how many stand ahead -/
def atR (out : List Txt) (x : Txt) : Nat := (out.takeWhile fun y => Op.bytesLess y x).length
theorem atR_le (out : List Txt) (x : Txt) : atR out x ≤ out.length := by
  unfold atR; exact (List.takeWhile_sublist _).length_le
theorem insR_at (out : List Txt) (x : Txt) (h : ¬ x ∈ out) : insR out x = out.take (atR out x) ++ (x :: out.drop (atR out x)) := by
  have := List.takeWhile_append_dropWhile (p := fun y => Op.bytesLess y x) (l := out)
  unfold insR atR
  rw [if_neg h]
  generalize (out.takeWhile fun y => Op.bytesLess y x) = A at *
  generalize (out.dropWhile fun y => Op.bytesLess y x) = B at *
  subst this
  simp

theorem insR_len (out : List Txt) (x : Txt) : (insR out x).length ≤ out.length + 1 := by
  by_cases h : x ∈ out
  · unfold insR; rw [if_pos h]; omega
  · rw [insR_at out x h]; have := atR_le out x; simp; omega

@[simp] theorem sized_tk (k : Nat) (l : List Txt) : sized 1 (List.take k (l.map stC)) = true := by rw [← List.map_take]; exact sized_map 1 stC (fun _ => rfl) _
@[simp] theorem sized_dp (k : Nat) (l : List Txt) : sized 1 (List.drop k (l.map stC)) = true := by rw [← List.map_drop]; exact sized_map 1 stC (fun _ => rfl) _

theorem run_Rising (l : List Txt) (hl : l.length ≤ BIG) : R F_plain_Rising [txS l] [] = some (txS (setT l), []) := by
  refine R_of at_plain_Rising (by decide) ?_
  unfold BIG at hl
  have inner : ∀ (i : Nat) (x : Txt) (out : List Txt), (hi : i < l.length) → l[i] = x → out.length ≤ l.length → ∀ s, trim mask_plain_Rising_0 s = ⟨mkE 55 [(0, txS l), (3, .os 10000030 out.length 0 out.length), (4, .d (.int .i64 i)), (5, .d (.int .i64 0))], [(10000030, .arr 1 (out.map stC))]⟩ →
      exL X (.loop mask_plain_Rising_0 body_plain_Rising_0) s = some (.exit 2, ⟨mkE 55 [(0, txS l), (3, .os 10000030 out.length 0 out.length), (4, .d (.int .i64 i)), (5, .d (.int .i64 (atR out x)))], [(10000030, .arr 1 (out.map stC))]⟩) := by
    intro i x out hi hx ho s hs
    have hL := loop_find (X := X) (mask := mask_plain_Rising_0) (body := body_plain_Rising_0) out
      (fun j => ⟨mkE 55 [(0, txS l), (3, .os 10000030 out.length 0 out.length), (4, .d (.int .i64 i)), (5, .d (.int .i64 j))], [(10000030, .arr 1 (out.map stC))]⟩)
      (fun _ y => !Op.bytesLess y x) (.exit 2, ⟨mkE 55 [(0, txS l), (3, .os 10000030 out.length 0 out.length), (4, .d (.int .i64 i)), (5, .d (.int .i64 out.length))], [(10000030, .arr 1 (out.map stC))]⟩)
      (fun j _ => (.exit 2, ⟨mkE 55 [(0, txS l), (3, .os 10000030 out.length 0 out.length), (4, .d (.int .i64 i)), (5, .d (.int .i64 j))], [(10000030, .arr 1 (out.map stC))]⟩)) (by simp) (by simp)
      (fun j y hj hy hq => by
        have hw := wrap_ok (a := (j : Int) + 1) (by omega) (by omega)
        have hq' : Op.bytesLess y x = true := by simpa using hq
        simp -implicitDefEqProofs [body_plain_Rising_0, mask_plain_Rising_0, hi, hx, hj, hy, hq', hw])
      (fun j y hj hy hq => by
        have hq' : Op.bytesLess y x = false := by simpa using hq
        simp -implicitDefEqProofs [body_plain_Rising_0, hi, hx, hj, hy, hq']) (by
        simp -implicitDefEqProofs [body_plain_Rising_0])
    rw [hL _ (by simpa using hs)]
    have h := takeW_idx (fun y => Op.bytesLess y x) out 0
    unfold atR
    rw [← h]
    cases findI (fun _ e => !Op.bytesLess e x) out 0 <;> simp
  have hL := loop_fold (X := X) (mask := mask_plain_Rising_1) (body := body_plain_Rising_1) l
    (fun i (out : List Txt) => ⟨mkE 55 [(0, txS l), (3, .os 10000030 out.length 0 out.length), (4, .d (.int .i64 i))], [(10000030, .arr 1 (out.map stC))]⟩)
    (fun i out => out.length ≤ i) (fun _ out x => insR out x)
    (fun out => (.exit 0, ⟨mkE 55 [(3, .os 10000030 out.length 0 out.length)], [(10000030, .arr 1 (out.map stC))]⟩)) (by simp)
    (fun i out x hi hx hI => by
      have hw := wrap_ok (a := (i : Int) + 1) (by omega) (by omega)
      have hin := run_plIn out x (by unfold BIG; omega)
      have hl' := insR_len out x
      refine ⟨by omega, ?_⟩
      by_cases hm : x ∈ out
      · have e : insR out x = out := by unfold insR; rw [if_pos hm]
        simp -implicitDefEqProofs [body_plain_Rising_1, mask_plain_Rising_1, hi, hx, hin, hm, hw, e]
      · have e := insR_at out x hm
        have ha := atR_le out x
        have hn := inner i x out hi hx (by omega)
        simp -implicitDefEqProofs [body_plain_Rising_1, mask_plain_Rising_1, hi, hx, hin, hm, hw]
        rw [hn _ (by simp [mask_plain_Rising_0])]
        have g1 : out.length + 1 ≤ LIM := by unfold LIM; omega
        have g2 : ((atR out x : Nat) : Int) ≤ (out.length : Int) := by omega
        by_cases h0 : atR out x = 0
        · have g3 : 1 ≤ LIM := by omega
          have g4 : 1 + out.length ≤ LIM := by omega
          simp -implicitDefEqProofs [h0, e, g1, g3, g4, hi, hx, hw, stC_eq, Nat.add_comm 1]
          exact ⟨_, _, ⟨rfl, rfl⟩, rfl, by simp -implicitDefEqProofs [txS]⟩
        · have g3 : atR out x ≤ LIM := by omega
          have g4 : ¬ out = [] := fun q => by subst q; exact h0 rfl
          have g5 : atR out x + 1 ≤ LIM := by omega
          have g6 : (atR out x + 1) + (out.length - atR out x) ≤ LIM := by omega
          have g7 : atR out x + 1 + (out.length - atR out x) = out.length + 1 := by omega
          have g8 : atR out x + (out.length - atR out x + 1) = out.length + 1 := by omega
          simp -implicitDefEqProofs [h0, ha, e, g1, g2, g3, g4, g5, g6, hi, hx, hw, g7, g8, stC_eq]
          exact ⟨_, _, ⟨rfl, rfl⟩, rfl, by simp -implicitDefEqProofs [txS]⟩) (fun out hI => by
      simp -implicitDefEqProofs [body_plain_Rising_1]) [] (Nat.le_refl _)
  have hf : foldI (fun _ out x => insR out x) l 0 [] = setT l := by
    rw [← rising_set]
    have : ∀ (l : List Txt) (i : Nat) (a : List Txt), foldI (fun _ out x => insR out x) l i a = l.foldl insR a := by
      intro l
      induction l with
      | nil => intro i a; rfl
      | cons x r ih => intro i a; rw [foldI_cons, ih]; rfl
    exact this l 0 []
  rw [hf] at hL
  simp -implicitDefEqProofs [code_plain_Rising]
  rw [hL _ (by simp -implicitDefEqProofs [mask_plain_Rising_1])]
  simp -implicitDefEqProofs
end Bz.S
