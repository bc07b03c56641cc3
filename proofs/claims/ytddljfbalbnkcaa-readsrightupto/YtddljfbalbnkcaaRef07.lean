/- The reference's package 07, walked. -/
import Derived.Test.YtddljfbalbnkcaaAst
set_option linter.unusedSimpArgs false
set_option linter.unusedVariables false
namespace Bz.S
open Go Bz
set_option maxRecDepth 10000
set_option maxHeartbeats 4000000

mutual
def allE : Ex → List Ex
  | .mk k s n lo hi kids => .mk k s n lo hi kids :: (if k = 4 then [] else allEs kids)
def allEs : List Ex → List Ex
  | [] => []
  | e :: r => allE e ++ allEs r
end

theorem all_eq (e : Ex) : allE e = e :: allEs (innerK e) := by cases e; simp only [allE, innerK, Ex.kind, Ex.kids]; split <;> simp [allEs, *]
theorem all_len : ∀ e, (allE e).length = size e := by
  refine exInd fun e ih => ?_
  rw [all_eq, size_eq, List.length_cons]
  congr 1
  have : ∀ l : List Ex, (∀ k ∈ l, (allE k).length = size k) → (allEs l).length = sizes l := by
    intro l
    induction l with
    | nil => intro _; rfl
    | cons a r ihr => intro h; simp only [allEs, sizes, List.length_append, h a (by simp), ihr fun k hk => h k (by simp [hk])]
  exact this _ fun k hk => ih k (inner_mem hk)

theorem run_All : ∀ (e : Ex), exN e ≤ BIG → R F_ref07_All [exA e] [] = some (exS (allE e), []) := by
  refine exIndB fun e hb IH => ?_
  refine R_of at_ref07_All (by decide) ?_
  have hlen : e.kids.length ≤ BIG := by have := exNs_len e.kids; have := exN_eq e; omega
  have hd := size_le e
  rw [size_eq] at hd
  unfold BIG at hb hlen
  by_cases h4 : e.kind = 4
  · rw [all_eq]
    simp -implicitDefEqProofs [code_ref07_All, eq_true h4, innerK, allEs]
  · have hin : innerK e = e.kids := by unfold innerK; rw [if_neg h4]
    rw [hin] at hd
    have hL := loop_fold (X := X) (mask := mask_ref07_All_0) (body := body_ref07_All_0) e.kids
      (fun i (a : List Ex) => ⟨mkE 27 [(1, .pv 10000 0), (3, .os 10000030 a.length 0 a.length), (4, .d (.int .i64 i))], [(10000, .var (exV e)), (10000030, .arr 6 (a.map exC))]⟩)
      (fun i a => a.length = sizes (e.kids.take i) + 1)
      (fun _ a k => a ++ allE k) (fun a => (.exit 0, ⟨mkE 27 [(3, .os 10000030 a.length 0 a.length)], [(10000030, .arr 6 (a.map exC))]⟩)) (by simp) (fun i a k hi hk hI => by
        have hc := IH k (hk ▸ List.getElem_mem hi)
        have hw := wrap_ok (a := (i : Int) + 1) (by omega) (by omega)
        have hI' : a.length + (allE k).length = sizes (e.kids.take (i + 1)) + 1 := by
          rw [sizes_take hi, hk, all_len]; omega
        have hlim : a.length + (allE k).length ≤ LIM := by
          have := sizes_take_le e.kids (i + 1)
          unfold LIM; omega
        refine ⟨by simpa using hI', ?_⟩
        simp -implicitDefEqProofs [body_ref07_All_0, mask_ref07_All_0, hi, hk, hc, hw, hlim]) (fun a _ => by simp -implicitDefEqProofs [body_ref07_All_0]) [e] (by simp [sizes])
    have hf : ∀ (l : List Ex) (i : Nat) (a : List Ex), foldI (fun _ a e => a ++ allE e) l i a = a ++ allEs l := by
      intro l
      induction l with
      | nil => intro i a; simp [allEs]
      | cons x r ih => intro i a; rw [foldI_cons, ih]; simp [allEs]
    simp -implicitDefEqProofs [code_ref07_All, h4]
    rw [hL _ (by simp [mask_ref07_All_0]), hf, all_eq, hin]
    simp -implicitDefEqProofs

theorem allEs_flat (l : List Ex) : allEs l = l.flatMap allE := by
  induction l with
  | nil => rfl
  | cons a r ih => simp [allEs, ih]
theorem past_all : ∀ e, pastB e = (allE e).any fun x => looksB x.kind := by
  refine exInd fun e ih => ?_
  rw [past_eq, all_eq, List.any_cons, pastBs_any, allEs_flat, List.any_flatMap]
  congr 1
  rw [Bool.eq_iff_iff, List.any_eq_true, List.any_eq_true]
  constructor
  · intro ⟨k, hk, h⟩; exact ⟨k, hk, by rw [← ih k (inner_mem hk)]; exact h⟩
  · intro ⟨k, hk, h⟩; exact ⟨k, hk, by rw [ih k (inner_mem hk)]; exact h⟩

theorem all_big {e : Ex} (h : exN e ≤ BIG) : (allE e).length ≤ BIG := by rw [all_len]; have := size_le e; omega

theorem setBad_eq (l : List Ex) (i : Nat) (k : Ex) : setBad l i k = (!textOK k || (decide (0 < i) && match l[i - 1]? with | some p => leS k.name p.name | none => false)) := by
  unfold setBad
  congr 1
  by_cases h : k.kind = 3
  · rw [textOK_may h]; simp [h]
  · have : textOK k = false := by unfold textOK; simp [h]
    simp [h, this]

theorem text_iff (k : Ex) : textOK k = true ↔ k.kind = 3 ∧ k.kids = [] ∧ k.n = 0 ∧ k.lo = 0 ∧ k.hi = 0 ∧ plainB k.name = true := by
  unfold textOK
  by_cases h : k.kind = 3
  · simp [h, ownOK]; grind
  · simp [h]

/-- is a part as its kind asks? -/
def partOK (x : Ex) : Bool := !decide (astKids x.kind = -2) && (decide (astKids x.kind < 0) || decide (astKids x.kind = x.kids.length)) && (!decide (astKids x.kind = -1) || setOK x.kids) && ownOK x

theorem may_all : ∀ e, mayOK e = (allE e).all partOK := by
  refine exInd fun e ih => ?_
  rw [may_eq, all_eq, List.all_cons, allEs_flat, List.all_flatMap]
  by_cases h4 : e.kind = 4
  · simp [h4, innerK, partOK, astKids]
    cases ownOK e <;> cases setOK e.kids <;> rfl
  · have hin : innerK e = e.kids := by unfold innerK; rw [if_neg h4]
    rw [hin, if_neg h4, mayOKs_all]
    have hall : e.kids.all mayOK = e.kids.all fun x => (allE x).all partOK := by
      rw [Bool.eq_iff_iff, List.all_eq_true, List.all_eq_true]
      constructor
      · intro h k hk; rw [← ih k hk]; exact h k hk
      · intro h k hk; rw [ih k hk]; exact h k hk
    rw [hall]
    congr 1
    have hk : astKids e.kind = -2 ∨ (0 ≤ astKids e.kind) := by
      unfold astKids; simp only [h4, if_false]
      repeat' split
      all_goals simp
    unfold partOK
    rcases hk with h | h
    · simp [h]
    · have h1 : ¬ astKids e.kind = -2 := by omega
      have h2 : ¬ astKids e.kind = -1 := by omega
      have h3 : ¬ astKids e.kind < 0 := by omega
      simp [h1, h2, h3]

theorem part_big {e x : Ex} (h : x ∈ allE e) : exN x ≤ exN e := by
  revert x
  refine exInd (p := fun e => ∀ {x}, x ∈ allE e → exN x ≤ exN e) (fun e ih x hx => ?_) e
  rw [all_eq, allEs_flat] at hx
  rcases List.mem_cons.1 hx with rfl | hx
  · exact Nat.le_refl _
  · obtain ⟨k, hk, hx⟩ := List.mem_flatMap.1 hx
    have := ih k (inner_mem hk) hx
    have := kid_lt (inner_mem hk); omega

end Bz.S
