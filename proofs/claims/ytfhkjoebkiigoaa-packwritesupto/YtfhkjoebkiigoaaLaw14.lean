/- Layer 14's laws, walked. -/
import Derived.Test.YtfhkjoebkiigoaaPack4
import Derived.Test.YtfhkjoebkiigoaaLaw13b
set_option linter.unusedSimpArgs false
set_option linter.unusedVariables false
namespace Bz.S
open Go Bz
set_option maxRecDepth 10000
set_option maxHeartbeats 4000000

theorem run_alive14 : R F_law14_alive [] [] = some (.d (.bool true), []) :=
  RUN_run own retOwn ext code (k := 60) (by kernel_rfl)

theorem run_rows14 (l : List Rw) (hl : l.length ≤ BIG) : R F_law14_rows [rwS l] [] = some (rwS l, []) := by
  refine R_of at_law14_rows (by decide) ?_
  unfold BIG at hl
  have hL := loop_fold (X := X) (mask := mask_law14_rows_0) (body := body_law14_rows_0) l
    (fun i (a : List Rw) => ⟨mkE 35 [(0, rwS l), (3, .os 10000030 a.length 0 a.length), (4, .d (.int .i64 i))], [(10000030, .arr 7 (a.map rwC))]⟩)
    (fun i a => a.length = i) (fun _ a r => a ++ [r]) (fun a => (.exit 0, ⟨mkE 35 [(3, .os 10000030 a.length 0 a.length)], [(10000030, .arr 7 (a.map rwC))]⟩)) (by simp)
    (fun i a r hi hr hI => by
      have hw := wrap_ok (a := (i : Int) + 1) (by omega) (by omega)
      have hal : a.length + 1 ≤ LIM := by unfold LIM; omega
      refine ⟨by simp [hI], ?_⟩
      simp -implicitDefEqProofs [body_law14_rows_0, mask_law14_rows_0, hi, hr, hw, hal]) (fun a _ => by simp -implicitDefEqProofs [body_law14_rows_0]) [] rfl
  have hf : ∀ (l : List Rw) (i : Nat) (a : List Rw), foldI (fun _ a r => a ++ [r]) l i a = a ++ l := by
    intro l
    induction l with
    | nil => intro i a; simp
    | cons x r ih => intro i a; rw [foldI_cons, ih]; simp
  rw [hf, List.nil_append] at hL
  simp -implicitDefEqProofs [code_law14_rows]
  rw [hL _ (by simp -implicitDefEqProofs [mask_law14_rows_0])]
  simp -implicitDefEqProofs

/-! ### numbers as they can be -/
def i64B (n : Int) : Prop := -9223372036854775808 ≤ n ∧ n < 9223372036854775808
structure NumR (r : Rw) : Prop where
  n : i64B r.n
  lo : i64B r.lo
  hi : i64B r.hi
mutual
def NumE : Ex → Prop
  | .mk _ _ n lo hi kids => i64B n ∧ i64B lo ∧ i64B hi ∧ NumEs kids
def NumEs : List Ex → Prop
  | [] => True
  | e :: r => NumE e ∧ NumEs r
end

theorem numEs_mem : ∀ {l : List Ex}, NumEs l → ∀ k ∈ l, NumE k
  | [], _, k, h => by simp at h
  | a :: r, h, k, hk => by
    simp only [NumEs] at h
    rcases List.mem_cons.1 hk with rfl | hk
    · exact h.1
    · exact numEs_mem h.2 k hk
theorem numEs_all : ∀ {l : List Ex}, (∀ k ∈ l, NumE k) → NumEs l
  | [], _ => trivial
  | a :: r, h => ⟨h a (by simp), numEs_all fun k hk => h k (by simp [hk])⟩
theorem num_rows : ∀ e : Ex, NumE e → ∀ f, ∀ r ∈ rowsE e f, NumR r := by
  refine exInd (p := fun e => NumE e → ∀ f, ∀ r ∈ rowsE e f, NumR r) fun e IH hn f r hr => ?_
  have hown : i64B e.n ∧ i64B e.lo ∧ i64B e.hi ∧ NumEs e.kids := by cases e; exact hn
  rw [rowsE_eq] at hr
  split at hr
  · have : r = ownRow e := by simpa using hr
    subst this
    exact ⟨hown.1, hown.2.1, hown.2.2.1⟩
  · rcases List.mem_append.1 hr with hr | hr
    · have key : ∀ (l : List Ex), (∀ k ∈ l, k ∈ e.kids) → ∀ f, ∀ r ∈ (rowsEs l f).1, NumR r := by
        intro l
        induction l with
        | nil => intro _ f r hr; simp [rowsEs] at hr
        | cons k q ih =>
          intro hk f r hr
          simp only [rowsEs, List.mem_append] at hr
          rcases hr with hr | hr
          · exact IH k (hk k (by simp)) (numEs_mem hown.2.2.2 k (hk k (by simp))) f r hr
          · exact ih (fun x hx => hk x (by simp [hx])) _ r hr
      exact key e.kids (fun k hk => hk) f r hr
    · have : r = { ownRow e with kids := (rowsEs e.kids f).2 } := by simpa using hr
      subst this
      exact ⟨hown.1, hown.2.1, hown.2.2.1⟩

theorem own_name {e : Ex} (ho : ownOK e = true) : e.name.length ≤ 32 := by
  unfold ownOK at ho
  have hp : plainB e.name = true → e.name.length ≤ 32 := fun h => by
    unfold plainB at h; simp only [Bool.and_eq_true, decide_eq_true_eq] at h; exact h.1
  have hn : nameB e.name = true → e.name.length ≤ 32 := fun h => by
    unfold nameB at h
    split at h
    · cases h
    · rename_i hs
      simp only [Bool.and_eq_true, decide_eq_true_eq] at h
      omega
  have h0 : e.name = [] → e.name.length ≤ 32 := fun h => by rw [h]; simp
  repeat' split at ho
  all_goals
    simp only [Bool.and_eq_true, decide_eq_true_eq] at ho
    first
      | exact h0 ho.1.1.1
      | exact h0 ho.1.1
      | exact hp ho.1.1.1
      | exact hn ho.1.1.1
theorem kids_kind {k : Int} (h : ¬ astKids k = -2) : 1 ≤ k ∧ k ≤ 25 := by
  unfold astKids at h
  repeat' split at h
  all_goals omega

theorem rows_small {e : Ex} (hm : mayOK e = true) : ∀ r ∈ rowsE e 0, (1 ≤ r.kind ∧ r.kind ≤ 25) ∧ r.name.length ≤ 32 ∧ (r.set.length ≤ 8 ∧ ∀ t ∈ r.set, t.length ≤ 32) ∧ r.kids.length ≤ 2 := by
  refine rowsE_row (p := fun r => (1 ≤ r.kind ∧ r.kind ≤ 25) ∧ r.name.length ≤ 32 ∧ (r.set.length ≤ 8 ∧ ∀ t ∈ r.set, t.length ≤ 32) ∧ r.kids.length ≤ 2) (fun e k4 hm => ?_) (fun e f k4 hm => ?_) e hm 0
  · rw [may_eq, if_pos k4, Bool.and_eq_true] at hm
    have h8 := hm.2
    unfold setOK at h8
    simp only [Bool.and_eq_true, decide_eq_true_eq, List.all_eq_true] at h8
    refine ⟨by simp [ownRow, k4], own_name hm.1, ⟨by simp [ownRow, k4]; omega, fun t ht => ?_⟩, by simp [ownRow]⟩
    simp only [ownRow, k4, if_true, List.mem_map] at ht
    obtain ⟨k, hk, rfl⟩ := ht
    have h2 := h8.1.1 k hk
    exact own_name (by unfold textOK at h2; simp only [Bool.and_eq_true] at h2; exact h2.2)
  · rw [may_eq, if_neg k4, Bool.and_eq_true, Bool.and_eq_true] at hm
    have hal : astKids e.kind = e.kids.length := by simpa using hm.1.1
    have h2 : astKids e.kind ≤ 2 := by
      unfold astKids
      repeat' split
      all_goals omega
    have hk := kids_kind (k := e.kind) (by omega)
    refine ⟨by simpa [ownRow] using hk, own_name hm.1.2, ⟨by simp [ownRow, k4], by simp [ownRow, k4]⟩, ?_⟩
    simp only
    rw [rowsEs_kids_len]
    omega
theorem rows_put {e : Ex} (hz : astCheck e = 0) (hN : ∀ r ∈ tabE e, NumR r) : ∀ r ∈ tabE e, RwPut r := by
  intro r hr
  have hn := hN r hr
  have h64 := (check_ok.1 hz).2.1
  have hT : tabE e = rowsE e 0 := by unfold tabE; rw [if_pos hz]
  rw [hT] at hr
  obtain ⟨h1, h2, h3, h4⟩ := rows_small (check_ok.1 hz).2.2 r hr
  obtain ⟨i, hi⟩ := List.getElem?_of_mem hr
  have hil : i < (rowsE e 0).length := (List.getElem?_eq_some_iff.1 hi).1
  rw [rows_len] at hil
  have ha := ahead_rows e 0 i r hi
  exact ⟨by omega, by omega, hn.n, hn.lo, hn.hi, ⟨by omega, fun t ht => by have := h3.2 t ht; omega⟩, ⟨by omega, fun c hc => by have := ha c hc; omega⟩⟩
theorem tab_T {e : Ex} (hz : astCheck e = 0) : TabB (tabE e) := by
  have hT : tabE e = rowsE e 0 := by unfold tabE; rw [if_pos hz]
  have h64 := (check_ok.1 hz).2.1
  refine tabB2 (by rw [hT, rows_len]; omega) fun r hr => ?_
  rw [hT] at hr
  obtain ⟨h1, h2, h3, h4⟩ := rows_small (check_ok.1 hz).2.2 r hr
  exact ⟨by omega, by omega, fun t ht => by have := h3.2 t ht; omega, by omega⟩
/-- what is a table can be put -/
theorem tab_put {l : List Rw} (hN : ∀ r ∈ l, NumR r) (h : (tabBack l).2 = 0) : l.length ≤ 64 ∧ 1 ≤ l.length ∧ ∀ r ∈ l, RwPut r := by
  rcases tabBack_cases l with ⟨e, h1, h2, h3⟩ | h1
  · have h64 := (check_ok.1 h3).2.1
    have hp := size_pos e
    have hl : l.length = size e := by rw [← h2]; unfold tabE; rw [if_pos h3, rows_len]
    refine ⟨by omega, by omega, ?_⟩
    rw [← h2] at hN ⊢
    exact rows_put h3 hN
  · rw [h1] at h; cases h

theorem run_PackReads (b : Txt) (hb0 : bulkL [.vs false (b.map byC)] ≤ 1048576) : R F_law14_PackReads [byS b] [] = some (.d (.bool true), []) := by
  refine R_of at_law14_PackReads (by decide) ?_
  have hb : b.length ≤ BIG := by
    have := len_bulkLL byC (fun _ => by simp [bulkL, bulkD]) b
    simp only [bulkL, bulkD] at hb0
    unfold BIG; omega
  have h1 := run_13Read b hb
  have h2 := run_packRead b hb (packGet_T b)
  have h3 := run_packBack b hb
  have hsm := packGet_small b
  have hrE : ∀ l, readE b = some l → l = (packGet b).1 ∧ (tabBack l).2 = 0 := by
    intro l h
    unfold readE at h
    split at h
    · rename_i hc; cases h; exact ⟨rfl, hc.2⟩
    · cases h
  unfold backE at h3
  cases hr : readE b with
  | none =>
    rw [hr] at h1 h2 h3
    have h5 := run_plExpr ex0 (by rw [exN_eq]; simp [ex0, Ex.name, Ex.kids, exNs_nil, BIG])
    simp -implicitDefEqProofs [rwS] at h1 h2
    simp -implicitDefEqProofs [exA, ex0, Ex.kind, Ex.name, Ex.n, Ex.lo, Ex.hi, Ex.kids] at h3 h5
    simp -implicitDefEqProofs [code_law14_PackReads, run_alive14, h1, h2, h3, h5]
  | some l =>
    obtain ⟨hl, hz⟩ := hrE l hr
    rw [← hl] at hsm
    have hT : TabB l := by rw [hl]; exact packGet_T b
    have h4 := run_refBack' l hT fun r hr => by have := rwS_N (hsm.2 r hr); omega
    have h6 := run_rows14 l hT.n
    have h7 := run_Same13 l l hT.n hT.n hT.r hT.r
    rw [hr] at h1 h2 h3
    simp only at h3
    rw [tab_ref] at h3 hz
    cases hrb : refBack l with
    | none => rw [hrb] at hz; cases hz
    | some e =>
      rw [hrb] at h3 h4
      have hce := check_bound (refBack_ok hrb).1
      have h5 := run_plExpr e (by unfold BIG; omega)
      simp -implicitDefEqProofs at h1 h2 h3 h4 h7
      simp -implicitDefEqProofs [code_law14_PackReads, run_alive14, h1, h2, h3, h4, h5, h6, h7]

theorem readE_back {e : Ex} (hz : astCheck e = 0) (hN : ∀ r ∈ tabE e, NumR r) : readE (octB (tabE e)) = some (tabE e) := by
  have h64 := (check_ok.1 hz).2.1
  have hT : tabE e = rowsE e 0 := by unfold tabE; rw [if_pos hz]
  have hp := packGet_back (l := tabE e) (by rw [hT, rows_len]; omega) (rows_put hz hN)
  unfold readE
  rw [hp]
  have : tabBack (tabE e) = (e, 0) := by rw [hT]; exact tabBack_rows hz
  rw [this]
  simp
theorem octB_len {l : List Rw} (hl : l.length ≤ 64) (h : ∀ r ∈ l, RwPut r) : (octB l).length ≤ BIG := by
  have : ∀ m : List Rw, (∀ r ∈ m, RwPut r) → (m.flatMap rwB).length ≤ 70000 * m.length := by
    intro m
    induction m with
    | nil => intro _; simp
    | cons r q ih =>
      intro h
      have h1 := ih fun r hr => h r (by simp [hr])
      have h2 := rwB_len (h r (by simp))
      simp only [List.flatMap_cons, List.length_append, List.length_cons]
      omega
  have := this l h
  unfold octB BIG
  simp only [List.length_cons]
  omega

theorem run_PackBack (e : Ex) (hN : NumE e) (hb0 : bulkL (exC e) ≤ 1048576) : R F_law14_PackBack [exA e] [] = some (.d (.bool true), []) := by
  refine R_of at_law14_PackBack (by decide) ?_
  have hb : exN e ≤ BIG := by unfold exN BIG; omega
  have h1 := run_refCheck e hb
  by_cases hz : astCheck e = 0
  · have hNr : ∀ r ∈ tabE e, NumR r := by unfold tabE; rw [if_pos hz]; exact num_rows e hN 0
    have h2 := run_packExpr e hb tab_T (fun h => rows_put h hNr)
    have h64 := (check_ok.1 hz).2.1
    have hT : tabE e = rowsE e 0 := by unfold tabE; rw [if_pos hz]
    have hl : (tabE e).length ≤ 64 := by rw [hT, rows_len]; omega
    have hol := octB_len hl (rows_put hz hNr)
    have h3 := run_packBack (octB (tabE e)) hol
    have h4 := run_packRead (octB (tabE e)) hol (packGet_T _)
    have hrd := readE_back hz hNr
    unfold backE at h3
    rw [hrd] at h3 h4
    simp only at h3
    have htb : tabBack (tabE e) = (e, 0) := by rw [hT]; exact tabBack_rows hz
    rw [htb] at h3
    unfold exprE at h2
    rw [if_pos hz] at h2
    have h5 := run_plExpr e hb
    have h6 := run_rows14 (tabE e) (by unfold BIG; omega)
    have h7 := run_13Of e hb 0 (by unfold BIG; omega)
    rw [← hT] at h7
    have h8 := run_Same13 (tabE e) (tabE e) (by unfold BIG; omega) (by unfold BIG; omega) (rows_OK hz) (rows_OK hz)
    rw [hz] at h1
    generalize octB (tabE e) = B at *
    generalize tabE e = Q at *
    simp -implicitDefEqProofs at h4 h7 h8
    simp -implicitDefEqProofs [code_law14_PackBack, run_alive14, h1, h2, h3, h4, h5, h6, h7, h8]
  · simp -implicitDefEqProofs [code_law14_PackBack, run_alive14, h1, hz]

theorem i64_wrap (n : Int) : i64B (IntKind.i64.wrap n) := by
  unfold i64B
  simp only [IntKind.wrap, IntKind.signed, IntKind.bits]
  simp
  omega
theorem getRw_num (r : Option Txt) : NumR (getRw r).1 := by
  simp only [getRw, inInt]
  exact ⟨i64_wrap _, i64_wrap _, i64_wrap _⟩
theorem getRws_num : ∀ (n : Nat) (r : Option Txt), ∀ x ∈ (getRws n r).1, NumR x
  | 0, r, x, h => by simp [getRws] at h
  | n + 1, r, x, h => by
    simp only [getRws, List.mem_cons] at h
    rcases h with rfl | h
    · exact getRw_num r
    · exact getRws_num n _ x h

theorem run_PackOnce (b : Txt) (hb0 : bulkL [.vs false (b.map byC)] ≤ 1048576) : R F_law14_PackOnce [byS b] [] = some (.d (.bool true), []) := by
  refine R_of at_law14_PackOnce (by decide) ?_
  have hb : b.length ≤ BIG := by
    have := len_bulkLL byC (fun _ => by simp [bulkL, bulkD]) b
    simp only [bulkL, bulkD] at hb0
    unfold BIG; omega
  have h2 := run_packRead b hb (packGet_T b)
  have h3 := run_packBack b hb
  unfold backE at h3
  cases hr : readE b with
  | none =>
    rw [hr] at h2
    simp -implicitDefEqProofs [rwS] at h2
    simp -implicitDefEqProofs [code_law14_PackOnce, run_alive14, h2]
  | some l =>
    have hl : l = (packGet b).1 ∧ (packGet b).2 = some [] ∧ (tabBack l).2 = 0 := by
      unfold readE at hr
      split at hr
      · rename_i hc; cases hr; exact ⟨rfl, hc.1, hc.2⟩
      · cases hr
    obtain ⟨hl, hge, hz⟩ := hl
    have hT : TabB l := by rw [hl]; exact packGet_T b
    have hNl : ∀ r ∈ l, NumR r := by rw [hl]; exact getRws_num _ _
    have hput := tab_put hNl
    have h4 := run_packPut l hT hput
    have hoct : octB l = b := (packGet_forth (by rw [hl, ← hge])).symm
    rw [hz, if_pos rfl, hoct] at h4
    rw [hr] at h2 h3
    simp only at h3
    rcases tabBack_cases l with ⟨e, g1, g2, g3⟩ | g1
    · have h5 := run_packExpr e (by have := check_bound g3; unfold BIG; omega) tab_T (fun h => rows_put h (by rw [g2]; exact hNl))
      unfold exprE at h5
      rw [if_pos g3, g2, hoct] at h5
      rw [g1] at h3
      simp -implicitDefEqProofs at h2
      simp -implicitDefEqProofs [code_law14_PackOnce, run_alive14, h2, h3, h4, h5]
    · rw [g1] at hz; cases hz

theorem run_PackWrites (l : List Rw) (e : Ex) (hNl : ∀ r ∈ l, NumR r) (hN : NumE e) (hb0 : bulkL [.vs false (l.map rwC)] + bulkL (exC e) ≤ 1048576) : R F_law14_PackWrites [rwS l, exA e] [] = some (.d (.bool true), []) := by
  refine R_of at_law14_PackWrites (by decide) ?_
  have hbl : bulkLL (l.map rwC) ≤ 1048576 := by simp only [bulkL, bulkD] at hb0; omega
  have hb : exN e ≤ BIG := by unfold exN BIG; omega
  have hT := tabB hbl
  have hput := tab_put hNl
  have h1 := run_packPut l hT hput
  have h2 := run_rows14 l hT.n
  have h3 := run_refBack l hbl
  have h4 := run_refCheck e hb
  have hNr : astCheck e = 0 → ∀ r ∈ tabE e, NumR r := fun hz => by unfold tabE; rw [if_pos hz]; exact num_rows e hN 0
  have h5 := run_packExpr e hb tab_T (fun h => rows_put h (hNr h))
  -- what follows the rows
  rw [tab_ref] at h1 hput
  have fin : ∀ (C : Int) (z : Int) (h1 : R F_pack_Put [rwS l] [] = some (.tup [byS (if C = 0 then octB l else []), .d (.int .i64 C)], [])), astCheck e = z → ((refBack l).isSome = true ∧ C = 0 ∨ (refBack l) = none ∧ C = 16) →
      (C = 0 → R F_ref13_Octets [rwS l] [] = some (byS (octB l), [])) → finish X F_law14_PackWrites code_law14_PackWrites.results [] (exL X code_law14_PackWrites.body (start code_law14_PackWrites.ntmps [rwS l, exA e] [])) = some (.d (.bool true), []) := by
    intro C z h1 hz hC hOc
    unfold exprE at h5
    rcases hC with ⟨hs, rfl⟩ | ⟨hs, rfl⟩
    · have hOc := hOc rfl
      obtain ⟨x, hx⟩ := Option.isSome_iff_exists.1 hs
      rw [hx] at h3
      simp -implicitDefEqProofs at h1 h3
      by_cases z0 : astCheck e = 0
      · have h64 := (check_ok.1 z0).2.1
        have hTe : tabE e = rowsE e 0 := by unfold tabE; rw [if_pos z0]
        have h7 := run_13Of e hb 0 (by unfold BIG; omega)
        rw [← hTe] at h7
        have h8 := run_13Octets (tabE e) (by rw [hTe, rows_len]; omega) (rows_put z0 (hNr z0))
        rw [if_pos z0] at h5
        rw [z0] at h4
        generalize octB (tabE e) = B at *
        generalize tabE e = Q at *
        simp -implicitDefEqProofs at h7
        simp -implicitDefEqProofs [code_law14_PackWrites, run_alive14, h1, h2, h3, h4, h5, h7, h8, hOc]
      · rw [if_neg z0] at h5
        simp -implicitDefEqProofs [byS] at h5
        simp -implicitDefEqProofs [code_law14_PackWrites, run_alive14, h1, h2, h3, h4, h5, hOc, z0]
    · rw [hs] at h3
      simp -implicitDefEqProofs [byS] at h1
      simp -implicitDefEqProofs at h3
      by_cases z0 : astCheck e = 0
      · have h64 := (check_ok.1 z0).2.1
        have hTe : tabE e = rowsE e 0 := by unfold tabE; rw [if_pos z0]
        have h7 := run_13Of e hb 0 (by unfold BIG; omega)
        rw [← hTe] at h7
        have h8 := run_13Octets (tabE e) (by rw [hTe, rows_len]; omega) (rows_put z0 (hNr z0))
        rw [if_pos z0] at h5
        rw [z0] at h4
        generalize octB (tabE e) = B at *
        generalize tabE e = Q at *
        simp -implicitDefEqProofs at h7
        simp -implicitDefEqProofs [code_law14_PackWrites, run_alive14, h1, h2, h3, h4, h5, h7, h8]
      · rw [if_neg z0] at h5
        simp -implicitDefEqProofs [byS] at h5
        simp -implicitDefEqProofs [code_law14_PackWrites, run_alive14, h1, h2, h3, h4, h5, z0]
  cases hr : refBack l with
  | none =>
    rw [hr] at h1
    exact fin 16 _ h1 rfl (.inr ⟨hr, rfl⟩) (fun h => by cases h)
  | some x =>
    rw [hr] at h1 hput
    obtain ⟨q1, q2, q3⟩ := hput rfl
    exact fin 0 _ h1 rfl (.inl ⟨by rw [hr]; rfl, rfl⟩) fun _ => run_13Octets l (by omega) q3

/-! ### what the inputs are -/
theorem typ_exW {P : Program} {t l : TypeId} {fs : Array Field} (hu : P.underlying t = some (.struct fs)) (hul : P.underlying l = some (.slice t)) {i1 s i2 i3 i4 : TypeId} (hfs : fs.toList.map (·.type) = [i1, s, i2, i3, i4, l])
    (h1 : P.underlying i1 = some (.int .i64)) (h2 : P.underlying s = some .string) (h3 : P.underlying i2 = some (.int .i64)) (h4 : P.underlying i3 = some (.int .i64)) (h5 : P.underlying i4 = some (.int .i64)) :
    ∀ (x : List D), Typed P t x → ∃ e : Ex, x = exC e ∧ NumE e := by
  have rng : ∀ n : Int, (Lit.int .i64 n).wf = true → i64B n := fun n h => by
    simp only [Lit.wf, Bool.and_eq_true, decide_eq_true_eq, IntKind.min, IntKind.max, IntKind.signed, IntKind.bits] at h
    simp at h
    unfold i64B
    omega
  have key : ∀ (n : Nat) (x : List D), bulkL x ≤ n → Typed P t x → ∃ e : Ex, x = exC e ∧ NumE e := by
    intro n
    induction n with
    | zero =>
      intro x hx h
      obtain ⟨parts, rfl, hp⟩ := typ_fields h hu hfs
      obtain ⟨a, r, rfl, ha, hp⟩ := tall_cons hp
      obtain ⟨m1, rfl, _⟩ := typ_int ha h1
      simp [bulkL, bulkD] at hx
    | succ n ih =>
      intro x hx h
      obtain ⟨parts, rfl, hp⟩ := typ_fields h hu hfs
      obtain ⟨a, r, rfl, ha, hp⟩ := tall_cons hp
      obtain ⟨b, r, rfl, hb, hp⟩ := tall_cons hp
      obtain ⟨c, r, rfl, hc, hp⟩ := tall_cons hp
      obtain ⟨d, r, rfl, hd, hp⟩ := tall_cons hp
      obtain ⟨e, r, rfl, he, hp⟩ := tall_cons hp
      obtain ⟨f, r, rfl, hf, hp⟩ := tall_cons hp
      cases tall_nil hp
      obtain ⟨m1, rfl, _⟩ := typ_int ha h1
      obtain ⟨m2, rfl⟩ := typ_str hb h2
      obtain ⟨m3, rfl, w3⟩ := typ_int hc h3
      obtain ⟨m4, rfl, w4⟩ := typ_int hd h4
      obtain ⟨m5, rfl, w5⟩ := typ_int he h5
      obtain ⟨es, rfl, hes⟩ := typ_slice hf hul
      have hbl : bulkLL es ≤ n := by simp [bulkL, bulkD] at hx; omega
      obtain ⟨kids, rfl, hk⟩ := mem_map_allW exC NumE fun c hc => ih c (Nat.le_trans (bulk_mem hc) hbl) (hes c hc)
      exact ⟨.mk m1 m2 m3 m4 m5 kids, by simp [Ex.kind, Ex.name, Ex.n, Ex.lo, Ex.hi, Ex.kids], ⟨rng _ w3, rng _ w4, rng _ w5, numEs_all hk⟩⟩
  exact fun x => key _ x (Nat.le_refl _)
theorem typ_rwsW {P : Program} {q t l m st si : TypeId} {fs : Array Field} (hq : P.underlying q = some (.slice t)) (hu : P.underlying t = some (.struct fs)) (hul : P.underlying l = some (.slice st)) (hum : P.underlying m = some (.slice si)) {i1 s i2 i3 i4 : TypeId} (hfs : fs.toList.map (·.type) = [i1, s, i2, i3, i4, l, m])
    (h1 : P.underlying i1 = some (.int .i64)) (h2 : P.underlying s = some .string) (h3 : P.underlying i2 = some (.int .i64)) (h4 : P.underlying i3 = some (.int .i64)) (h5 : P.underlying i4 = some (.int .i64)) (h6 : P.underlying st = some .string) (h7 : P.underlying si = some (.int .i64))
    (x : List D) (h : Typed P q x) : ∃ q : List Rw, x = [.vs false (q.map rwC)] ∧ ∀ r ∈ q, NumR r := by
  have rng : ∀ n : Int, (Lit.int .i64 n).wf = true → i64B n := fun n h => by
    simp only [Lit.wf, Bool.and_eq_true, decide_eq_true_eq, IntKind.min, IntKind.max, IntKind.signed, IntKind.bits] at h
    simp at h
    unfold i64B
    omega
  obtain ⟨es, rfl, hes⟩ := typ_slice h hq
  obtain ⟨m, rfl, hm⟩ := mem_map_allW rwC NumR (es := es) fun c0 hc0 => by
    obtain ⟨parts, rfl, hp⟩ := typ_fields (hes c0 hc0) hu hfs
    obtain ⟨a, r, rfl, ha, hp⟩ := tall_cons hp
    obtain ⟨b, r, rfl, hb, hp⟩ := tall_cons hp
    obtain ⟨c, r, rfl, hc, hp⟩ := tall_cons hp
    obtain ⟨d, r, rfl, hd, hp⟩ := tall_cons hp
    obtain ⟨e, r, rfl, he, hp⟩ := tall_cons hp
    obtain ⟨f, r, rfl, hf, hp⟩ := tall_cons hp
    obtain ⟨g, r, rfl, hg, hp⟩ := tall_cons hp
    cases tall_nil hp
    obtain ⟨m1, rfl, _⟩ := typ_int ha h1
    obtain ⟨m2, rfl⟩ := typ_str hb h2
    obtain ⟨m3, rfl, w3⟩ := typ_int hc h3
    obtain ⟨m4, rfl, w4⟩ := typ_int hd h4
    obtain ⟨m5, rfl, w5⟩ := typ_int he h5
    obtain ⟨es, rfl, hes⟩ := typ_slice hf hul
    obtain ⟨m6, rfl⟩ := mem_map_all sxC (es := es) fun c hc => typ_str (hes c hc) h6
    obtain ⟨es2, rfl, hes2⟩ := typ_slice hg hum
    obtain ⟨m7, rfl⟩ := mem_map_all i6C (es := es2) fun c hc => by
      obtain ⟨n, rfl, _⟩ := typ_int (hes2 c hc) h7
      exact ⟨n, rfl⟩
    exact ⟨⟨m1, m2, m3, m4, m5, m6, m7⟩, rfl, ⟨rng _ w3, rng _ w4, rng _ w5⟩⟩
  exact ⟨m, rfl, hm⟩
end Bz.S
