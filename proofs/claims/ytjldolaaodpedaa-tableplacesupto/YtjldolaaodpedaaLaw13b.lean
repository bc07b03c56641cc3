/- Layer 13: where rows stand. -/
import Derived.Test.YtjldolaaodpedaaLaw13
set_option linter.unusedSimpArgs false
set_option linter.unusedVariables false
namespace Bz.S
open Go Bz
set_option maxRecDepth 10000
set_option maxHeartbeats 4000000

/-! ### places -/
def kidsOf (l : List Rw) : List Int := l.flatMap Rw.kids
/-- is it between? -/
def ind (lo hi x : Int) : Nat := if lo ≤ x ∧ x < hi then 1 else 0
theorem ind_pos {lo hi x : Int} (h1 : lo ≤ x) (h2 : x < hi) : ind lo hi x = 1 := if_pos ⟨h1, h2⟩
theorem ind_neg {lo hi x : Int} (h : ¬ (lo ≤ x ∧ x < hi)) : ind lo hi x = 0 := if_neg h
theorem count_rows : ∀ (e : Ex) (f : Nat) (x : Int), (kidsOf (rowsE e f)).count x = ind f ((f : Int) + size e - 1) x := by
  refine exInd (p := fun e => ∀ (f : Nat) (x : Int), (kidsOf (rowsE e f)).count x = ind f ((f : Int) + size e - 1) x) fun e IH f x => ?_
  have hsz := size_eq e
  unfold innerK at hsz
  rw [rowsE_eq]
  by_cases h4 : e.kind = 4
  · rw [if_pos h4] at hsz ⊢
    simp only [sizes] at hsz
    rw [ind_neg (by omega)]
    simp [kidsOf, ownRow]
  · rw [if_neg h4] at hsz ⊢
    have key : ∀ (q : List Ex), (∀ k ∈ q, k ∈ e.kids) → ∀ f' : Nat, (kidsOf (rowsEs q f').1).count x + (rowsEs q f').2.count x = ind f' ((f' : Int) + sizes q) x := by
      intro q
      induction q with
      | nil => intro _ f'; rw [ind_neg (by simp [sizes])]; simp [rowsEs, kidsOf]
      | cons k r ih =>
        intro hk f'
        have h1 := IH k (hk k (by simp)) f' x
        have h2 := ih (fun y hy => hk y (by simp [hy])) (f' + size k)
        have hp := size_pos k
        simp only [rowsEs, sizes]
        rw [rows_len]
        unfold kidsOf at h1 h2 ⊢
        rw [List.flatMap_append, List.count_append, List.count_cons, h1]
        by_cases hx : x = ((f' + size k : Nat) : Int) - 1
        · have : (((f' + size k : Nat) : Int) - 1 == x) = true := by simp [hx]
          rw [this]
          simp only [if_true]
          rw [ind_neg (by omega)]
          rw [ind_neg (by omega)] at h2
          rw [ind_pos (by omega) (by omega)]
          omega
        · have : (((f' + size k : Nat) : Int) - 1 == x) = false := by simp; omega
          rw [this]
          simp only [Bool.false_eq_true, if_false]
          by_cases hy : ((f' + size k : Nat) : Int) ≤ x ∧ x < ((f' + size k : Nat) : Int) + sizes r
          · rw [ind_pos hy.1 hy.2] at h2
            rw [ind_neg (lo := (f' : Int)) (hi := (f' : Int) + size k - 1) (by omega), ind_pos (by omega) (by omega)]; omega
          · rw [ind_neg hy] at h2
            by_cases hz : (f' : Int) ≤ x ∧ x < (f' : Int) + size k - 1
            · rw [ind_pos hz.1 hz.2, ind_pos (by omega) (by omega)]; omega
            · rw [ind_neg hz, ind_neg (by omega)]; omega
    have h := key e.kids (fun k hk => hk) f
    unfold kidsOf at h ⊢
    rw [List.flatMap_append, List.count_append]
    simp only [List.flatMap_cons, List.flatMap_nil, List.append_nil]
    rw [h, show (f : Int) + size e - 1 = (f : Int) + sizes e.kids by omega]
theorem ahead_rows : ∀ (e : Ex) (f i : Nat) (r : Rw), (rowsE e f)[i]? = some r → ∀ c ∈ r.kids, (f : Int) ≤ c ∧ c < (f : Int) + i := by
  refine exInd (p := fun e => ∀ (f i : Nat) (r : Rw), (rowsE e f)[i]? = some r → ∀ c ∈ r.kids, (f : Int) ≤ c ∧ c < (f : Int) + i) fun e IH f i r hr c hc => ?_
  rw [rowsE_eq] at hr
  by_cases h4 : e.kind = 4
  · rw [if_pos h4] at hr
    have : r = ownRow e := by
      cases i with
      | zero => simpa using hr.symm
      | succ i => simp at hr
    subst this
    simp [ownRow] at hc
  · rw [if_neg h4] at hr
    have key : ∀ (q : List Ex), (∀ k ∈ q, k ∈ e.kids) → ∀ (f' i : Nat) (r : Rw), (rowsEs q f').1[i]? = some r → ∀ c ∈ r.kids, (f' : Int) ≤ c ∧ c < (f' : Int) + i := by
      intro q
      induction q with
      | nil => intro _ f' i r hr; simp [rowsEs] at hr
      | cons k q ih =>
        intro hk f' i r hr c hc
        simp only [rowsEs] at hr
        rw [rows_len] at hr
        by_cases hi : i < size k
        · rw [List.getElem?_append_left (by rw [rows_len]; exact hi)] at hr
          exact IH k (hk k (by simp)) f' i r hr c hc
        · rw [List.getElem?_append_right (by rw [rows_len]; omega), rows_len] at hr
          have := ih (fun y hy => hk y (by simp [hy])) (f' + size k) (i - size k) r hr c hc
          omega
    have key2 : ∀ (q : List Ex) (f' : Nat), ∀ c ∈ (rowsEs q f').2, (f' : Int) ≤ c ∧ c < (f' : Int) + sizes q := by
      intro q
      induction q with
      | nil => intro f' c hc; simp [rowsEs] at hc
      | cons k q ih =>
        intro f' c hc
        have hp := size_pos k
        simp only [rowsEs] at hc
        rw [rows_len] at hc
        simp only [sizes]
        rcases List.mem_cons.1 hc with rfl | hc
        · omega
        · have := ih (f' + size k) c hc; omega
    have hl := rowsEs_len e.kids f
    by_cases hi : i < sizes e.kids
    · rw [List.getElem?_append_left (by omega)] at hr
      exact key e.kids (fun k hk => hk) f i r hr c hc
    · rw [List.getElem?_append_right (by omega)] at hr
      have hi0 : i - (rowsEs e.kids f).1.length = 0 := by
        rcases Nat.eq_zero_or_pos (i - (rowsEs e.kids f).1.length) with h | h
        · exact h
        · rw [List.getElem?_eq_none (by simp; omega)] at hr; cases hr
      rw [hi0] at hr
      have : r = { ownRow e with kids := (rowsEs e.kids f).2 } := by simpa using hr.symm
      subst this
      have := key2 e.kids f c hc
      omega

/-- how often each place is told -/
def timesOf (c : List Int) (L : Nat) : List Int := (List.range L).map fun x : Nat => ((c.count (x : Int) : Nat) : Int)
theorem timesOf_len (c : List Int) (L : Nat) : (timesOf c L).length = L := by simp [timesOf]
theorem timesOf_get (c : List Int) (L i : Nat) (h : i < L) : (timesOf c L)[i]? = some ((c.count (i : Int) : Nat) : Int) := by simp [timesOf, h]
theorem timesOf_set (c : List Int) (L : Nat) (k : Int) (h0 : 0 ≤ k) (hk : k < L) : (timesOf c L).set k.toNat (((c.count k : Nat) : Int) + 1) = timesOf (c ++ [k]) L := by
  apply List.ext_getElem?
  intro i
  by_cases hi : i < L
  · rw [timesOf_get _ _ _ hi, List.getElem?_set]
    by_cases he : k.toNat = i
    · subst he
      rw [if_pos rfl, if_pos (by rw [timesOf_len]; omega)]
      have : ((k.toNat : Nat) : Int) = k := by omega
      rw [this, List.count_append]
      simp
    · rw [if_neg he, timesOf_get _ _ _ hi, List.count_append]
      have : ([k] : List Int).count (i : Int) = 0 := by
        rw [List.count_eq_zero]
        simp
        omega
      rw [this]; rfl
  · rw [List.getElem?_eq_none (by rw [List.length_set, timesOf_len]; omega), List.getElem?_eq_none (by rw [timesOf_len]; omega)]

theorem run_TablePlaces (e : Ex) (hb0 : bulkL (exC e) ≤ 1048576) : R F_law13_TablePlaces [exA e] [] = some (.d (.bool true), []) := by
  refine R_of at_law13_TablePlaces (by decide) ?_
  have hb : exN e ≤ BIG := by unfold exN BIG; omega
  have h1 := run_tabOf e hb
  have h2 := run_refCheck e hb
  by_cases hz : astCheck e = 0
  · have h64 := (check_ok.1 hz).2.1
    have hp := size_pos e
    have hlen : (tabE e).length = size e := by unfold tabE; rw [if_pos hz, rows_len]
    have hcount : ∀ x, (kidsOf (tabE e)).count x = ind 0 ((size e : Int) - 1) x := by
      intro x
      have := count_rows e 0 x
      unfold tabE; rw [if_pos hz, this]
      simp
    have hahead : ∀ (i : Nat) (r : Rw), (tabE e)[i]? = some r → ∀ c ∈ r.kids, 0 ≤ c ∧ c < (i : Int) := by
      intro i r hr c hc
      unfold tabE at hr; rw [if_pos hz] at hr
      have := ahead_rows e 0 i r hr c hc
      simpa using this
    have hk2 := rows_OK hz
    have h3 := run_All e hb
    have h4 := all_len e
    generalize hQ : tabE e = Q at *
    have hfold : ∀ (ks : List Int) (c : List Int) (i : Nat), (∀ k ∈ ks, 0 ≤ k ∧ k < (Q.length : Int)) → foldI (fun _ (a : List Int) (k : Int) => a ++ [k]) ks i c = c ++ ks := by
      intro ks
      induction ks with
      | nil => intro c i _; simp
      | cons k r ih => intro c i h; rw [foldI_cons, ih _ _ fun x hx => h x (by simp [hx])]; simp
    have hin : ∀ (i : Nat) (r : Rw) (hi : i < Q.length) (hr : Q[i] = r) (c : List Int), c.length ≤ 4398046511104 →
        ∀ s, trim mask_law13_TablePlaces_0 s = ⟨mkE 85 [(1, .pv 10000 0), (3, rwS Q), (4, .os 70020 Q.length 0 Q.length), (5, .d (.int .i64 i)), (6, .d (.int .i64 ((0 : Nat) : Int)))], [(10000, .var (exV e)), (70020, .arr 1 ((timesOf c Q.length).map i6C))]⟩ →
        exL X (.loop mask_law13_TablePlaces_0 body_law13_TablePlaces_0) s = some (.exit 2, ⟨mkE 85 [(1, .pv 10000 0), (3, rwS Q), (4, .os 70020 Q.length 0 Q.length), (5, .d (.int .i64 i))], [(10000, .var (exV e)), (70020, .arr 1 ((timesOf (c ++ r.kids) Q.length).map i6C))]⟩) := by
      intro i r hi hr c hcl
      have hah := hahead i r (by rw [List.getElem?_eq_getElem hi, hr])
      have hkl := (hk2 r (hr ▸ List.getElem_mem hi)).k
      unfold BIG at hkl
      have hL := loop_fold (X := X) (mask := mask_law13_TablePlaces_0) (body := body_law13_TablePlaces_0) r.kids
        (fun j (a : List Int) => ⟨mkE 85 [(1, .pv 10000 0), (3, rwS Q), (4, .os 70020 Q.length 0 Q.length), (5, .d (.int .i64 i)), (6, .d (.int .i64 j))], [(10000, .var (exV e)), (70020, .arr 1 ((timesOf a Q.length).map i6C))]⟩)
        (fun j a => a.length = c.length + j) (fun _ a k => a ++ [k])
        (fun a => (.exit 2, ⟨mkE 85 [(1, .pv 10000 0), (3, rwS Q), (4, .os 70020 Q.length 0 Q.length), (5, .d (.int .i64 i))], [(10000, .var (exV e)), (70020, .arr 1 ((timesOf a Q.length).map i6C))]⟩)) (by simp)
        (fun j a k hj hk hI => by
          have hkk := hah k (hk ▸ List.getElem_mem hj)
          have hw := wrap_ok (a := (j : Int) + 1) (by omega) (by omega)
          have hcnt : a.count k ≤ a.length := List.count_le_length
          have hw2 := wrap_ok (a := ((a.count k : Nat) : Int) + 1) (by omega) (by omega)
          have c1 : ¬ k < 0 := by omega
          have c2 : ¬ (i : Int) ≤ k := by omega
          have c3 : 0 ≤ k := by omega
          have c4 : k < (Q.length : Int) := by omega
          have c5 : k.toNat < Q.length := by omega
          have c6 : k.toNat < (timesOf a Q.length).length := by rw [timesOf_len]; exact c5
          have hget : (timesOf a Q.length)[k.toNat]? = some ((a.count k : Nat) : Int) := by
            rw [timesOf_get _ _ _ c5, show ((k.toNat : Nat) : Int) = k by omega]
          have hset := timesOf_set a Q.length k c3 c4
          have htl := timesOf_len a Q.length
          refine ⟨by simp [hI]; omega, ?_⟩
          rw [← hset]
          rw [List.getElem?_eq_getElem c6] at hget
          have hget := Option.some.inj hget
          generalize timesOf a Q.length = T at *
          simp -implicitDefEqProofs [body_law13_TablePlaces_0, mask_law13_TablePlaces_0, hi, hr, hj, hk, c1, c2, c3, c4, c5, c6, htl, hget, hw, hw2]) (fun a _ => by simp -implicitDefEqProofs [body_law13_TablePlaces_0, hi, hr]) c (by simp)
      rw [hfold _ _ _ fun k hk => by have := hah k hk; omega] at hL
      exact hL
    have hkl : ∀ i, i ≤ Q.length → (kidsOf (Q.take i)).length ≤ i * 68719476736 := by
      intro i
      induction i with
      | zero => intro _; simp [kidsOf]
      | succ i ih =>
        intro hi
        have h1 := ih (by omega)
        have h2 := (hk2 Q[i] (List.getElem_mem (by omega))).k
        unfold BIG at h2
        unfold kidsOf at h1 ⊢
        rw [List.take_succ_eq_append_getElem (by omega), List.flatMap_append, List.length_append]
        simp only [List.flatMap_cons, List.flatMap_nil, List.append_nil]
        omega
    have hL1 := loop_fold (X := X) (mask := mask_law13_TablePlaces_1) (body := body_law13_TablePlaces_1) Q
      (fun i (a : List Int) => ⟨mkE 85 [(1, .pv 10000 0), (3, rwS Q), (4, .os 70020 Q.length 0 Q.length), (5, .d (.int .i64 i))], [(10000, .var (exV e)), (70020, .arr 1 ((timesOf a Q.length).map i6C))]⟩)
      (fun i a => a = kidsOf (Q.take i)) (fun _ a r => a ++ r.kids)
      (fun a => (.exit 0, ⟨mkE 85 [(1, .pv 10000 0), (3, rwS Q), (4, .os 70020 Q.length 0 Q.length)], [(10000, .var (exV e)), (70020, .arr 1 ((timesOf a Q.length).map i6C))]⟩)) (by simp)
      (fun i a r hi hr hI => by
        have hw := wrap_ok (a := (i : Int) + 1) (by omega) (by omega)
        have hb2 := hkl i (by omega)
        rw [← hI] at hb2
        have hi2 := hin i r hi hr a (by omega)
        refine ⟨by rw [hI]; unfold kidsOf; rw [List.take_succ_eq_append_getElem hi, List.flatMap_append, hr]; simp, ?_⟩
        simp -implicitDefEqProofs [body_law13_TablePlaces_1, mask_law13_TablePlaces_1, hi]
        rw [hi2 _ (by simp -implicitDefEqProofs [mask_law13_TablePlaces_0])]
        simp -implicitDefEqProofs [hw]
        exact ⟨_, _, ⟨rfl, rfl⟩, rfl, by simp -implicitDefEqProofs⟩) (fun a _ => by simp -implicitDefEqProofs [body_law13_TablePlaces_1]) [] rfl
    have hf1 : ∀ (l : List Rw) (i : Nat) (a : List Int), foldI (fun _ (a : List Int) (r : Rw) => a ++ r.kids) l i a = a ++ kidsOf l := by
      intro l
      induction l with
      | nil => intro i a; simp [kidsOf]
      | cons x r ih => intro i a; rw [foldI_cons, ih]; simp [kidsOf]
    rw [hf1, List.nil_append] at hL1
    have hT0 : timesOf [] Q.length = List.replicate Q.length 0 := by
      apply List.ext_getElem?
      intro i
      by_cases hi : i < Q.length
      · rw [timesOf_get _ _ _ hi]; simp [hi]
      · rw [List.getElem?_eq_none (by rw [timesOf_len]; omega), List.getElem?_eq_none (by simp; omega)]
    rw [hT0] at hL1
    obtain ⟨r0, rfl, hL2⟩ := loop_upto (X := X) (mask := mask_law13_TablePlaces_2) (body := body_law13_TablePlaces_2) (Q.length - 1)
      (fun i (_ : Unit) => ⟨mkE 85 [(1, .pv 10000 0), (3, rwS Q), (4, .os 70020 Q.length 0 Q.length), (8, .d (.int .i64 i))], [(10000, .var (exV e)), (70020, .arr 1 ((timesOf (kidsOf Q) Q.length).map i6C))]⟩)
      (fun _ _ => True) (fun r => r = (.exit 4, ⟨mkE 85 [(1, .pv 10000 0), (3, rwS Q), (4, .os 70020 Q.length 0 Q.length)], [(10000, .var (exV e)), (70020, .arr 1 ((timesOf (kidsOf Q) Q.length).map i6C))]⟩))
      (fun i _ hi _ => by
        have hw := wrap_ok (a := (i : Int) + 1) (by omega) (by omega)
        have hi1 : (i : Int) + 1 < Q.length := by omega
        have hi2 : i < Q.length := by omega
        have hget : (timesOf (kidsOf Q) Q.length)[i]? = some 1 := by
          rw [timesOf_get _ _ _ hi2, hcount, ind_pos (by omega) (by omega)]; rfl
        refine .inl ⟨(), trivial, ?_⟩
        have htl := timesOf_len (kidsOf Q) Q.length
        generalize timesOf (kidsOf Q) Q.length = T at *
        have hi3 : i < T.length := by omega
        rw [List.getElem?_eq_getElem hi3] at hget
        have hget := Option.some.inj hget
        simp -implicitDefEqProofs [body_law13_TablePlaces_2, mask_law13_TablePlaces_2, hi1, hi2, hi3, htl, hget, hw])
      (fun _ _ => ⟨(.exit 4, ⟨mkE 85 [(1, .pv 10000 0), (3, rwS Q), (4, .os 70020 Q.length 0 Q.length)], [(10000, .var (exV e)), (70020, .arr 1 ((timesOf (kidsOf Q) Q.length).map i6C))]⟩), by
        have hw := wrap_ok (a := ((Q.length - 1 : Nat) : Int) + 1) (by omega) (by omega)
        have hn : ¬ ((Q.length - 1 : Nat) : Int) + 1 < Q.length := by omega
        simp -implicitDefEqProofs [body_law13_TablePlaces_2, hw, hn], by simp, rfl⟩) () trivial
    have hlast : (timesOf (kidsOf Q) Q.length)[Q.length - 1]? = some 0 := by
      rw [timesOf_get _ _ _ (by omega), hcount, ind_neg (by omega)]; rfl
    have htl := timesOf_len (kidsOf Q) Q.length
    have hw := wrap_ok (a := (Q.length : Int) - 1) (by omega) (by omega)
    have hL64 : Q.length ≤ LIM := by unfold LIM; omega
    have hi1 : (0 : Int) ≤ (Q.length : Int) - 1 := by omega
    have hi2 : ((Q.length : Int) - 1).toNat = Q.length - 1 := by omega
    have hi3 : (1 : Int) ≤ (Q.length : Int) := by omega
    have hi4 : (Q.length : Int) - 1 < Q.length := by omega
    have hi5 : (allE e).length = Q.length := by omega
    rw [hz] at h2
    simp -implicitDefEqProofs [code_law13_TablePlaces, run_alive13, h1, h2, hL64]
    rw [hL1 _ (by simp -implicitDefEqProofs [mask_law13_TablePlaces_1])]
    simp -implicitDefEqProofs
    rw [hL2 _ (by simp -implicitDefEqProofs [mask_law13_TablePlaces_2])]
    have hi6 : Q.length - 1 < (timesOf (kidsOf Q) Q.length).length := by rw [htl]; omega
    generalize timesOf (kidsOf Q) Q.length = T at *
    simp -implicitDefEqProofs [hi6, h3, hw, hi1, hi2, hi3, hi4, hi5, htl, hlast]
  · simp -implicitDefEqProofs [code_law13_TablePlaces, run_alive13, h1, h2, hz]
end Bz.S
