/- The reference's package 07, walked. -/
import Derived.Test.YtfhkjoebkiigoaaAst
set_option linter.unusedSimpArgs false
set_option linter.unusedVariables false
namespace Bz.S
open Go Bz
set_option maxRecDepth 10000
set_option maxHeartbeats 4000000

mutual
def allE : Ex → List Ex
  | .mk k s n lo hi kids => .mk k s n lo hi kids :: (if k = 4 then [] else allEs kids)
def allEs : List Ex → List Ex
  | [] => []
  | e :: r => allE e ++ allEs r
end

theorem all_eq (e : Ex) : allE e = e :: allEs (innerK e) := by cases e; simp only [allE, innerK, Ex.kind, Ex.kids]; split <;> simp [allEs, *]
theorem all_len : ∀ e, (allE e).length = size e := by
  refine exInd fun e ih => ?_
  rw [all_eq, size_eq, List.length_cons]
  congr 1
  have : ∀ l : List Ex, (∀ k ∈ l, (allE k).length = size k) → (allEs l).length = sizes l := by
    intro l
    induction l with
    | nil => intro _; rfl
    | cons a r ihr => intro h; simp only [allEs, sizes, List.length_append, h a (by simp), ihr fun k hk => h k (by simp [hk])]
  exact this _ fun k hk => ih k (inner_mem hk)

theorem run_refKids (k : Int) : R F_ref07_Kids [.d (.int .i64 k)] [] = some (.d (.int .i64 (astKids k)), []) := by
  refine R_of at_ref07_Kids (by decide) ?_
  simp -implicitDefEqProofs [code_ref07_Kids, astKids]
  repeat' split
  all_goals omega
theorem run_refDepth : ∀ (e : Ex), exN e ≤ BIG → R F_ref07_Depth [exA e] [] = some (.d (.int .i64 (depth e)), []) := by
  refine exIndB fun e hb IH => ?_
  refine R_of at_ref07_Depth (by decide) ?_
  have hlen : e.kids.length ≤ BIG := by have := exNs_len e.kids; have := exN_eq e; omega
  have hd := depth_le e
  rw [depth_eq] at hd
  unfold BIG at hb hlen
  by_cases h4 : e.kind = 4
  · rw [depth_eq]
    simp -implicitDefEqProofs [code_ref07_Depth, eq_true h4, innerK, depths]
  · have hin : innerK e = e.kids := by unfold innerK; rw [if_neg h4]
    rw [hin] at hd
    have hL := loop_fold (X := X) (mask := mask_ref07_Depth_0) (body := body_ref07_Depth_0) e.kids (fun i (a : Nat) => ⟨mkE 28 [(1, .pv 10000 0), (3, .d (.int .i64 a)), (4, .d (.int .i64 i))], [(10000, .var (exV e))]⟩) (fun _ _ => True)
      (fun _ a e => max a (depth e)) (fun a => (.exit 0, ⟨mkE 28 [(3, .d (.int .i64 a))], []⟩)) (by simp) (fun i a k hi hk _ => by
        have hc := IH k (hk ▸ List.getElem_mem hi)
        have hw := wrap_ok (a := (i : Int) + 1) (by omega) (by omega)
        by_cases hlt : a < depth k
        · have hm : max a (depth k) = depth k := by omega
          simp -implicitDefEqProofs [body_ref07_Depth_0, mask_ref07_Depth_0, hi, hk, hc, hw, hlt, hm]
        · have hm : max a (depth k) = a := by omega
          simp -implicitDefEqProofs [body_ref07_Depth_0, mask_ref07_Depth_0, hi, hk, hc, hw, hlt, hm]) (fun a _ => by simp -implicitDefEqProofs [body_ref07_Depth_0]) 0 trivial
    have hf : ∀ (l : List Ex) (i a : Nat), foldI (fun _ a e => max a (depth e)) l i a = max a (depths l) := by
      intro l
      induction l with
      | nil => intro i a; simp [depths]
      | cons x r ih => intro i a; rw [foldI_cons, ih]; simp [depths, Nat.max_assoc]
    have hw := wrap_ok (a := (depths e.kids : Int) + 1) (by omega) (by omega)
    simp -implicitDefEqProofs [code_ref07_Depth, h4]
    rw [hL _ (by simp [mask_ref07_Depth_0]), hf, depth_eq, hin]
    simp -implicitDefEqProofs [hw]

theorem run_All : ∀ (e : Ex), exN e ≤ BIG → R F_ref07_All [exA e] [] = some (exS (allE e), []) := by
  refine exIndB fun e hb IH => ?_
  refine R_of at_ref07_All (by decide) ?_
  have hlen : e.kids.length ≤ BIG := by have := exNs_len e.kids; have := exN_eq e; omega
  have hd := size_le e
  rw [size_eq] at hd
  unfold BIG at hb hlen
  by_cases h4 : e.kind = 4
  · rw [all_eq]
    simp -implicitDefEqProofs [code_ref07_All, eq_true h4, innerK, allEs]
  · have hin : innerK e = e.kids := by unfold innerK; rw [if_neg h4]
    rw [hin] at hd
    have hL := loop_fold (X := X) (mask := mask_ref07_All_0) (body := body_ref07_All_0) e.kids
      (fun i (a : List Ex) => ⟨mkE 27 [(1, .pv 10000 0), (3, .os 10000030 a.length 0 a.length), (4, .d (.int .i64 i))], [(10000, .var (exV e)), (10000030, .arr 6 (a.map exC))]⟩)
      (fun i a => a.length = sizes (e.kids.take i) + 1)
      (fun _ a k => a ++ allE k) (fun a => (.exit 0, ⟨mkE 27 [(3, .os 10000030 a.length 0 a.length)], [(10000030, .arr 6 (a.map exC))]⟩)) (by simp) (fun i a k hi hk hI => by
        have hc := IH k (hk ▸ List.getElem_mem hi)
        have hw := wrap_ok (a := (i : Int) + 1) (by omega) (by omega)
        have hI' : a.length + (allE k).length = sizes (e.kids.take (i + 1)) + 1 := by
          rw [sizes_take hi, hk, all_len]; omega
        have hlim : a.length + (allE k).length ≤ LIM := by
          have := sizes_take_le e.kids (i + 1)
          unfold LIM; omega
        refine ⟨by simpa using hI', ?_⟩
        simp -implicitDefEqProofs [body_ref07_All_0, mask_ref07_All_0, hi, hk, hc, hw, hlim]) (fun a _ => by simp -implicitDefEqProofs [body_ref07_All_0]) [e] (by simp [sizes])
    have hf : ∀ (l : List Ex) (i : Nat) (a : List Ex), foldI (fun _ a e => a ++ allE e) l i a = a ++ allEs l := by
      intro l
      induction l with
      | nil => intro i a; simp [allEs]
      | cons x r ih => intro i a; rw [foldI_cons, ih]; simp [allEs]
    simp -implicitDefEqProofs [code_ref07_All, h4]
    rw [hL _ (by simp [mask_ref07_All_0]), hf, all_eq, hin]
    simp -implicitDefEqProofs

theorem allEs_flat (l : List Ex) : allEs l = l.flatMap allE := by
  induction l with
  | nil => rfl
  | cons a r ih => simp [allEs, ih]
theorem past_all : ∀ e, pastB e = (allE e).any fun x => looksB x.kind := by
  refine exInd fun e ih => ?_
  rw [past_eq, all_eq, List.any_cons, pastBs_any, allEs_flat, List.any_flatMap]
  congr 1
  rw [Bool.eq_iff_iff, List.any_eq_true, List.any_eq_true]
  constructor
  · intro ⟨k, hk, h⟩; exact ⟨k, hk, by rw [← ih k (inner_mem hk)]; exact h⟩
  · intro ⟨k, hk, h⟩; exact ⟨k, hk, by rw [ih k (inner_mem hk)]; exact h⟩

theorem all_big {e : Ex} (h : exN e ≤ BIG) : (allE e).length ≤ BIG := by rw [all_len]; have := size_le e; omega

theorem setBad_eq (l : List Ex) (i : Nat) (k : Ex) : setBad l i k = (!textOK k || (decide (0 < i) && match l[i - 1]? with | some p => leS k.name p.name | none => false)) := by
  unfold setBad
  congr 1
  by_cases h : k.kind = 3
  · rw [textOK_may h]; simp [h]
  · have : textOK k = false := by unfold textOK; simp [h]
    simp [h, this]

theorem text_iff (k : Ex) : textOK k = true ↔ k.kind = 3 ∧ k.kids = [] ∧ k.n = 0 ∧ k.lo = 0 ∧ k.hi = 0 ∧ plainB k.name = true := by
  unfold textOK
  by_cases h : k.kind = 3
  · simp [h, ownOK]; grind
  · simp [h]

theorem run_set (e : Ex) (hb : exN e ≤ BIG) : R F_ref07_set [exA e] [] = some (.d (.bool (setOK e.kids)), []) := by
  refine R_of at_ref07_set (by decide) ?_
  have hlen : e.kids.length ≤ BIG := by have := exNs_len e.kids; have := exN_eq e; omega
  have hpl : ∀ k ∈ e.kids, R F_ref06_Plain [.d (.str k.name)] [] = some (.d (.bool (plainB k.name)), []) := fun k hk => run_refPlain k.name (name_lim (by have := kid_lt hk; omega))
  unfold BIG at hlen
  have hL := loop_find (X := X) (mask := mask_ref07_set_0) (body := body_ref07_set_0) e.kids (fun i => ⟨mkE 65 [(1, .pv 10000 0), (3, .d (.int .i64 i))], [(10000, .var (exV e))]⟩)
    (setBad e.kids) (.exit 0, ⟨mkE 65 [], []⟩) (fun i b => (.ret, ⟨mkE 65 [(2, .d (.bool false))], []⟩)) (by simp) (by simp)
    (fun i k hi hk hp => by
      have hw := wrap_ok (a := (i : Int) + 1) (by omega) (by omega)
      have hc := hpl k (hk ▸ List.getElem_mem hi)
      rw [setBad_eq, Bool.or_eq_false_iff, Bool.not_eq_false', text_iff] at hp
      obtain ⟨⟨h1, h2, h3, h4, h5, h6⟩, h7⟩ := hp
      cases i with
      | zero =>
        have hw1 := wrap_ok (a := 1) (by omega) (by omega)
        simp -implicitDefEqProofs [body_ref07_set_0, mask_ref07_set_0, hi, hk, hc, h1, h2, h3, h4, h5, h6, hw1]
      | succ j =>
        have hj : j < e.kids.length := by omega
        have hw2 := wrap_ok (a := ((j + 1 : Nat) : Int) - 1) (by omega) (by omega)
        simp -implicitDefEqProofs [hj, leS] at h7
        simp -implicitDefEqProofs at hw
        have hpos : (0 : Int) < (j : Int) + 1 := by omega
        have hge : (0 : Int) ≤ (j : Int) + 1 := by omega
        have ht : ((j : Int) + 1).toNat = j + 1 := by omega
        have ha : (j : Int) + 1 - 1 = j := by omega
        have hi' : (j : Int) + 1 < e.kids.length := by omega
        simp -implicitDefEqProofs [ha] at hw2
        simp -implicitDefEqProofs [body_ref07_set_0, mask_ref07_set_0, hi, hi', hj, hk, hc, h1, h2, h3, h4, h5, h6, h7, hw, hw2, hpos, hge, ht, ha])
    (fun i k hi hk hp => by
      have hc := hpl k (hk ▸ List.getElem_mem hi)
      by_cases h1 : k.kind = 3
      · by_cases h2 : k.kids = []
        · by_cases h3 : k.n = 0
          · by_cases h4 : k.lo = 0
            · by_cases h5 : k.hi = 0
              · by_cases h6 : plainB k.name = true
                · rw [setBad_eq, (text_iff k).2 ⟨h1, h2, h3, h4, h5, h6⟩] at hp
                  cases i with
                  | zero => simp at hp
                  | succ j =>
                    have hj : j < e.kids.length := by omega
                    have hw2 := wrap_ok (a := ((j + 1 : Nat) : Int) - 1) (by omega) (by omega)
                    simp -implicitDefEqProofs [hj, leS] at hp
                    have hpos : (0 : Int) < (j : Int) + 1 := by omega
                    have hge : (0 : Int) ≤ (j : Int) + 1 := by omega
                    have ht : ((j : Int) + 1).toNat = j + 1 := by omega
                    have ha : (j : Int) + 1 - 1 = j := by omega
                    have hi' : (j : Int) + 1 < e.kids.length := by omega
                    simp -implicitDefEqProofs [ha] at hw2
                    simp -implicitDefEqProofs [body_ref07_set_0, hi, hi', hj, hk, hc, h1, h2, h3, h4, h5, h6, hp, hw2, hpos, hge, ht, ha]
                · simp -implicitDefEqProofs [body_ref07_set_0, hi, hk, hc, h1, h2, h3, h4, h5, h6]
              · simp -implicitDefEqProofs [body_ref07_set_0, hi, hk, h1, h2, h3, h4, h5]
            · simp -implicitDefEqProofs [body_ref07_set_0, hi, hk, h1, h2, h3, h4]
          · simp -implicitDefEqProofs [body_ref07_set_0, hi, hk, h1, h2, h3]
        · have h2' : 0 < k.kids.length := List.length_pos_iff.2 h2
          simp -implicitDefEqProofs [body_ref07_set_0, hi, hk, h1, h2, h2']
      · simp -implicitDefEqProofs [body_ref07_set_0, hi, hk, h1]) (by simp -implicitDefEqProofs [body_ref07_set_0])
  rw [setOK_find]
  by_cases h8 : e.kids.length ≤ 8
  · have h8' : ¬ (8 : Int) < e.kids.length := by omega
    simp -implicitDefEqProofs [code_ref07_set, h8, h8']
    rw [hL _ (by simp [mask_ref07_set_0])]
    cases findI (setBad e.kids) e.kids 0 <;> simp -implicitDefEqProofs
  · have h8' : (8 : Int) < e.kids.length := by omega
    simp -implicitDefEqProofs [code_ref07_set, h8, h8']

theorem run_fits (e : Ex) (hb : exN e ≤ BIG) : R F_ref07_fits [exA e] [] = some (.d (.bool (ownOK e)), []) := by
  refine R_of at_ref07_fits (by decide) ?_
  have h1 := run_refPlain e.name (name_lim hb)
  have h2 := run_refName e.name (name_lim hb)
  have hk : e.kind = 3 ∨ e.kind = 5 ∨ e.kind = 6 ∨ e.kind = 13 ∨ e.kind = 21 ∨ e.kind = 1 ∨ e.kind = 2 ∨ e.kind = 22 ∨ e.kind = 23 ∨ e.kind = 24 ∨
      (¬ e.kind = 3 ∧ ¬ e.kind = 5 ∧ ¬ e.kind = 6 ∧ ¬ e.kind = 13 ∧ ¬ e.kind = 21 ∧ ¬ e.kind = 1 ∧ ¬ e.kind = 2 ∧ ¬ e.kind = 22 ∧ ¬ e.kind = 23 ∧ ¬ e.kind = 24) := by omega
  rcases hk with h | h | h | h | h | h | h | h | h | h | ⟨a1, a2, a3, a4, a5, a6, a7, a8, a9, a10⟩
  all_goals first
    | simp -implicitDefEqProofs [code_ref07_fits, ownOK, spanOK, h, h1, h2]
    | simp -implicitDefEqProofs [code_ref07_fits, ownOK, spanOK, a1, a2, a3, a4, a5, a6, a7, a8, a9, a10, h1, h2]
  all_goals grind

/-- is a part as its kind asks? -/
def partOK (x : Ex) : Bool := !decide (astKids x.kind = -2) && (decide (astKids x.kind < 0) || decide (astKids x.kind = x.kids.length)) && (!decide (astKids x.kind = -1) || setOK x.kids) && ownOK x

theorem may_all : ∀ e, mayOK e = (allE e).all partOK := by
  refine exInd fun e ih => ?_
  rw [may_eq, all_eq, List.all_cons, allEs_flat, List.all_flatMap]
  by_cases h4 : e.kind = 4
  · simp [h4, innerK, partOK, astKids]
    cases ownOK e <;> cases setOK e.kids <;> rfl
  · have hin : innerK e = e.kids := by unfold innerK; rw [if_neg h4]
    rw [hin, if_neg h4, mayOKs_all]
    have hall : e.kids.all mayOK = e.kids.all fun x => (allE x).all partOK := by
      rw [Bool.eq_iff_iff, List.all_eq_true, List.all_eq_true]
      constructor
      · intro h k hk; rw [← ih k hk]; exact h k hk
      · intro h k hk; rw [ih k hk]; exact h k hk
    rw [hall]
    congr 1
    have hk : astKids e.kind = -2 ∨ (0 ≤ astKids e.kind) := by
      unfold astKids; simp only [h4, if_false]
      repeat' split
      all_goals simp
    unfold partOK
    rcases hk with h | h
    · simp [h]
    · have h1 : ¬ astKids e.kind = -2 := by omega
      have h2 : ¬ astKids e.kind = -1 := by omega
      have h3 : ¬ astKids e.kind < 0 := by omega
      simp [h1, h2, h3]

theorem part_big {e x : Ex} (h : x ∈ allE e) : exN x ≤ exN e := by
  revert x
  refine exInd (p := fun e => ∀ {x}, x ∈ allE e → exN x ≤ exN e) (fun e ih x hx => ?_) e
  rw [all_eq, allEs_flat] at hx
  rcases List.mem_cons.1 hx with rfl | hx
  · exact Nat.le_refl _
  · obtain ⟨k, hk, hx⟩ := List.mem_flatMap.1 hx
    have := ih k (inner_mem hk) hx
    have := kid_lt (inner_mem hk); omega

theorem run_refCheck (e : Ex) (hb : exN e ≤ BIG) : R F_ref07_Check [exA e] [] = some (.d (.int .i64 (astCheck e)), []) := by
  refine R_of at_ref07_Check (by decide) ?_
  have h1 := run_refDepth e hb
  have h2 := run_All e hb
  have hl := all_big hb
  have hparts : ∀ x ∈ allE e, R F_ref07_set [exA x] [] = some (.d (.bool (setOK x.kids)), []) ∧ R F_ref07_fits [exA x] [] = some (.d (.bool (ownOK x)), []) := fun x hx =>
    ⟨run_set x (by have := part_big hx; omega), run_fits x (by have := part_big hx; omega)⟩
  unfold BIG at hl
  have hL := loop_find (X := X) (mask := mask_ref07_Check_0) (body := body_ref07_Check_0) (allE e) (fun i => ⟨mkE code_ref07_Check.ntmps [(3, exS (allE e)), (4, .d (.int .i64 i))], []⟩)
    (fun _ x => !partOK x) (.exit 0, ⟨mkE code_ref07_Check.ntmps [], []⟩) (fun i x => (.ret, ⟨mkE code_ref07_Check.ntmps [(2, .d (.int .i64 12))], []⟩)) (by simp) (by simp)
    (fun i x hi hx hp => by
      have hw := wrap_ok (a := (i : Int) + 1) (by omega) (by omega)
      obtain ⟨c1, c2⟩ := hparts x (hx ▸ List.getElem_mem hi)
      simp only [partOK, Bool.not_eq_false', Bool.and_eq_true, Bool.or_eq_true, Bool.not_eq_true', decide_eq_true_eq, decide_eq_false_iff_not] at hp
      obtain ⟨⟨⟨a1, a2⟩, a3⟩, a4⟩ := hp
      by_cases b1 : astKids x.kind = -1
      · simp [b1] at a3
        simp -implicitDefEqProofs [body_ref07_Check_0, mask_ref07_Check_0, code_ref07_Check, hi, hx, run_refKids, c1, c2, b1, a3, a4, hw]
      · have b2 : 0 ≤ astKids x.kind := by unfold astKids at a1 b1 ⊢; repeat' split <;> simp_all
        have b3 : astKids x.kind = x.kids.length := by omega
        have b4 : ¬ (x.kids.length : Int) = -2 := by omega
        have b5 : ¬ (x.kids.length : Int) = -1 := by omega
        simp -implicitDefEqProofs [body_ref07_Check_0, mask_ref07_Check_0, code_ref07_Check, hi, hx, run_refKids, c1, c2, b3, b4, b5, a4, hw])
    (fun i x hi hx hp => by
      obtain ⟨c1, c2⟩ := hparts x (hx ▸ List.getElem_mem hi)
      by_cases b0 : astKids x.kind = -2
      · simp -implicitDefEqProofs [body_ref07_Check_0, code_ref07_Check, hi, hx, run_refKids, b0]
      · by_cases b1 : astKids x.kind = -1
        · by_cases b2 : setOK x.kids = true
          · have b3 : ownOK x = false := by simpa [partOK, b1, b2] using hp
            simp -implicitDefEqProofs [body_ref07_Check_0, code_ref07_Check, hi, hx, run_refKids, c1, c2, b1, b2, b3]
          · simp -implicitDefEqProofs [body_ref07_Check_0, code_ref07_Check, hi, hx, run_refKids, c1, b1, b2]
        · have b2 : 0 ≤ astKids x.kind := by unfold astKids at b0 b1 ⊢; repeat' split <;> simp_all
          by_cases b3 : astKids x.kind = x.kids.length
          · have b4 : ¬ (x.kids.length : Int) = -2 := by omega
            have b5 : ¬ (x.kids.length : Int) = -1 := by omega
            have b6 : ownOK x = false := by simpa [partOK, b3, b4, b5] using hp
            simp -implicitDefEqProofs [body_ref07_Check_0, code_ref07_Check, hi, hx, run_refKids, c2, b3, b4, b5, b6]
          · have b6 : ¬ (x.kids.length : Int) = astKids x.kind := fun h => b3 h.symm
            simp -implicitDefEqProofs [body_ref07_Check_0, code_ref07_Check, hi, hx, run_refKids, b0, b2, b3, b6]) (by simp -implicitDefEqProofs [body_ref07_Check_0, code_ref07_Check])
  unfold astCheck
  rw [may_all]
  have hfa : (findI (fun _ x => !partOK x) (allE e) 0).isSome = !(allE e).all partOK := by rw [findI_any]; simp [List.any_eq_not_all_not]
  have hsz := all_len e
  by_cases hd : 12 < depth e
  · have hd' : (12 : Int) < (depth e : Int) := by omega
    simp -implicitDefEqProofs [code_ref07_Check, h1, hd, hd']
  · have hd' : ¬ (12 : Int) < (depth e : Int) := by omega
    by_cases hz : 64 < size e
    · have hz' : (64 : Int) < ((allE e).length : Int) := by omega
      simp -implicitDefEqProofs [code_ref07_Check, h1, h2, hd, hd', hz, hz']
    · have hz' : ¬ (64 : Int) < ((allE e).length : Int) := by omega
      simp -implicitDefEqProofs [code_ref07_Check] at hL
      simp -implicitDefEqProofs [code_ref07_Check, h1, h2, hd, hd', hz, hz']
      rw [hL _ (by simp [mask_ref07_Check_0])]
      cases hf : findI (fun _ x => !partOK x) (allE e) 0 with
      | none => rw [hf] at hfa; simp at hfa; simp -implicitDefEqProofs [hfa]; grind
      | some q => rw [hf] at hfa; simp at hfa; simp -implicitDefEqProofs [hfa]
end Bz.S
