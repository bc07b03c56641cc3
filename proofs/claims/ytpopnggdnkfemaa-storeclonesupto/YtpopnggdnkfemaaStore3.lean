/- Stores, by the page; a script's calls. -/
import Derived.Test.YtpopnggdnkfemaaStore2
set_option linter.unusedSimpArgs false
set_option linter.unusedVariables false
namespace Bz.S
open Go Bz
set_option maxRecDepth 10000
set_option maxHeartbeats 4000000

/-! ### plainly -/
theorem kinds_find (n : Txt) : ∀ (Ds K : List Dec), (Ds.foldl kindsG K).find? (fun d => n = d.n) = (K.find? fun d => n = d.n).or (Ds.find? (hasK n))
  | [], K => by simp
  | d :: r, K => by
    simp only [List.foldl_cons, kinds_find n r, List.find?_cons]
    unfold kindsG
    by_cases h : (K.find? fun q => d.n = q.n) = none ∧ 1 ≤ d.k ∧ d.k ≤ 4
    · rw [if_pos h, List.find?_append]
      by_cases hn : d.n = n
      · subst hn
        simp [h.1, hasK, h.2.1, h.2.2]
      · have hn' : ¬ n = d.n := fun e => hn e.symm
        simp [hn', hasK, hn]
    · rw [if_neg h]
      by_cases hh : hasK n d = true
      · rw [hh]
        simp only [hasK, decide_eq_true_eq] at hh
        obtain ⟨rfl, h2, h3⟩ := hh
        cases hF : K.find? fun q => d.n = q.n with
        | none => exact absurd ⟨hF, h2, h3⟩ h
        | some q => simp
      · simp [hh]
theorem kind_same (Ds : List Dec) (n : Txt) : kindK (Ds.foldl kindsG []) n = kindM Ds n := by
  unfold kindK kindM
  rw [kinds_find]; simp

structure J (S C : List Cel) : Prop where
  perm : S.Perm C
  nodup : (S.map fun c => (c.e, c.n)).Nodup
  ok : ∀ c ∈ S, VaOK c.v
def setM (e n : Txt) (v : Va) (C : List Cel) : List Cel := C.filter (fun c => !isK e n c) ++ [⟨e, n, v⟩]

theorem isK_iff {e n : Txt} {c : Cel} : isK e n c = true ↔ (c.e, c.n) = (e, n) := by
  simp only [isK, decide_eq_true_eq, Prod.mk.injEq]
  constructor <;> rintro ⟨a, b⟩ <;> exact ⟨a.symm, b.symm⟩
theorem setC_perm (e n : Txt) (v : Va) : ∀ S : List Cel, (S.map fun c => (c.e, c.n)).Nodup → (setC e n v S).Perm (⟨e, n, v⟩ :: S.filter fun c => !isK e n c)
  | [], _ => .refl _
  | c :: r, h => by
    have h' := List.nodup_cons.1 h
    simp only [setC, List.filter_cons]
    by_cases hc : isK e n c = true
    · rw [if_pos hc, hc]
      have : r.filter (fun c => !isK e n c) = r := by
        rw [List.filter_eq_self]
        intro a ha
        cases hk : isK e n a with
        | false => rfl
        | true =>
          have h1 := isK_iff.1 hc
          have h2 := isK_iff.1 hk
          exact absurd (List.mem_map.2 ⟨a, ha, h2.trans h1.symm⟩) h'.1
      simp [this]
    · have hc' : isK e n c = false := by simpa using hc
      rw [if_neg hc, hc']
      exact (List.Perm.cons c (setC_perm e n v r h'.2)).trans (.swap ..)
theorem setC_mem {e n : Txt} {v : Va} : ∀ {S : List Cel} {c : Cel}, c ∈ setC e n v S → c = ⟨e, n, v⟩ ∨ c ∈ S
  | [], c, h => by simp [setC] at h; exact .inl h
  | a :: r, c, h => by
    simp only [setC] at h
    split at h
    · rcases List.mem_cons.1 h with h | h
      · exact .inl h
      · exact .inr (List.mem_cons_of_mem _ h)
    · rcases List.mem_cons.1 h with h | h
      · exact .inr (h ▸ List.mem_cons_self)
      · exact (setC_mem h).imp id (List.mem_cons_of_mem _)
theorem J_set {S C : List Cel} (h : J S C) (e n : Txt) (v : Va) (hv : VaOK v) : J (setC e n v S) (setM e n v C) := by
  have hp := setC_perm e n v S h.nodup
  refine ⟨?_, ?_, fun c hc => ?_⟩
  · refine hp.trans ?_
    unfold setM
    exact (List.Perm.cons _ (h.perm.filter _)).trans (List.perm_append_singleton _ _).symm
  · rw [(hp.map _).nodup_iff]
    simp only [List.map_cons, List.nodup_cons]
    refine ⟨fun hm => ?_, List.Nodup.sublist (List.Sublist.map _ List.filter_sublist) h.nodup⟩
    obtain ⟨a, ha, he⟩ := List.mem_map.1 hm
    have := (List.mem_filter.1 ha).2
    rw [isK_iff.2 he] at this; cases this
  · rcases setC_mem hc with rfl | hc
    · exact hv
    · exact h.ok c hc
theorem find_uniq {e n : Txt} : ∀ {S : List Cel} {c : Cel}, (S.map fun c => (c.e, c.n)).Nodup → c ∈ S → isK e n c = true → S.find? (isK e n) = some c
  | a :: r, c, hn, hc, hk => by
    have hn' := List.nodup_cons.1 hn
    rw [List.find?_cons]
    cases ha : isK e n a with
    | true =>
      rcases List.mem_cons.1 hc with rfl | hc
      · rfl
      · exact absurd (List.mem_map.2 ⟨c, hc, (isK_iff.1 hk).trans (isK_iff.1 ha).symm⟩) hn'.1
    | false =>
      rcases List.mem_cons.1 hc with rfl | hc
      · rw [ha] at hk; cases hk
      · exact find_uniq hn'.2 hc hk
theorem J_find {S C : List Cel} (h : J S C) (e n : Txt) : S.find? (isK e n) = C.reverse.find? (isK e n) := by
  have hr : S.Perm C.reverse := h.perm.trans (List.reverse_perm C).symm
  have hn : (C.reverse.map fun c => (c.e, c.n)).Nodup := (hr.map _).nodup_iff.1 h.nodup
  cases hF : S.find? (isK e n) with
  | some c => exact (find_uniq hn (hr.mem_iff.1 (List.mem_of_find?_eq_some hF)) (List.find?_some hF)).symm
  | none =>
    rw [List.find?_eq_none] at hF
    symm
    rw [List.find?_eq_none]
    exact fun c hc => hF c (hr.mem_iff.2 hc)
theorem J_names {S C : List Cel} (h : J S C) (e : Txt) : sortTx ((S.filter fun c => c.e = e).map (·.n)) = setT ((C.filter fun c => c.e = e).map (·.n)) := by
  have hp : ((S.filter fun c => c.e = e).map (·.n)).Perm ((C.filter fun c => c.e = e).map (·.n)) := (h.perm.filter _).map _
  have hnd : ((S.filter fun c => c.e = e).map (·.n)).Nodup := by
    have h1 : ((S.filter fun c => c.e = e).map fun c => (c.e, c.n)).Nodup := List.Nodup.sublist (List.Sublist.map _ List.filter_sublist) h.nodup
    have h2 : (S.filter fun c => c.e = e).map (fun c => (c.e, c.n)) = ((S.filter fun c => c.e = e).map (·.n)).map fun n => (e, n) := by
      rw [List.map_map]
      refine List.map_congr_left fun c hc => ?_
      have := (List.mem_filter.1 hc).2
      simp at this
      simp [this]
    rw [h2] at h1
    unfold List.Nodup at h1 ⊢
    rw [List.pairwise_map] at h1
    exact h1.imp fun hne he => hne (by rw [he])
  have hs : setT ((C.filter fun c => c.e = e).map (·.n)) = setT ((S.filter fun c => c.e = e).map (·.n)) := setT_ext fun x => hp.mem_iff.symm
  rw [hs]
  generalize (S.filter fun c => c.e = e).map (·.n) = l at hnd
  unfold setT
  symm
  refine compL_id fun j a b h1 h2 he => ?_
  subst he
  have hn2 : (sortTx l).Nodup := (isort_perm l).nodup_iff.2 hnd
  obtain ⟨i1, g1⟩ := List.getElem?_eq_some_iff.1 h1
  obtain ⟨i2, g2⟩ := List.getElem?_eq_some_iff.1 h2
  exact List.pairwise_iff_getElem.1 hn2 j (j + 1) i1 i2 (by omega) (g1.trans g2.symm)

/-! ### walked -/
theorem p_Get (Ds : List Dec) (C : List Cel) (e n : Txt) (hD : Ds.length ≤ BIG) (hC : C.length ≤ BIG) :
    R F_ref05_Get [staA Ds C, stA e, stA n] [] = some (.tup [vaA (if kindM Ds n = 0 then ⟨0, 0, [], []⟩ else match C.reverse.find? (isK e n) with | some c => c.v | none => ⟨kindM Ds n, 0, [], []⟩), .d (.bool (!decide (kindM Ds n = 0)))], []) := by
  refine R_of at_ref05_Get (by decide) ?_
  have h1 := p_Kind Ds C n hD
  unfold BIG at hC
  have hL := loop_find (X := X) (mask := mask_ref05_Get_0) (body := body_ref05_Get_0) C.reverse
    (fun i => ⟨mkE 50 [(1, stA e), (2, stA n), (3, .pv 10000 0), (6, .pv 10010 0), (8, .d (.int .i64 (kindM Ds n))), (9, .d (.int .i64 ((C.length : Int) - 1 - i)))], [(10000, .var [decS Ds, celS C]), (10010, .var [.d (.int .i64 0), .d (.int .i64 0), .d (.str []), .d (.vs true [])])]⟩)
    (fun _ c => isK e n c) (.exit 0, ⟨mkE 50 [(6, .pv 10010 0), (8, .d (.int .i64 (kindM Ds n)))], [(10010, .var [.d (.int .i64 0), .d (.int .i64 0), .d (.str []), .d (.vs true [])])]⟩)
    (fun _ c => (.ret, ⟨mkE 50 [(6, .pv 10010 0), (7, .d (.bool true))], [(10010, .var [.d (.int .i64 c.v.kind), .d (.int .i64 c.v.n), .d (.str c.v.s), txS c.v.l])]⟩)) (by simp) (by simp)
    (fun i c hi hc hq => by
      simp only [List.length_reverse] at hi
      have e1 : (C.length : Int) - 1 - i = ((C.length - 1 - i : Nat) : Int) := by omega
      have hw := wrap_ok (a := ((C.length - 1 - i : Nat) : Int) - 1) (by omega) (by omega)
      have e2 : (C.length : Int) - 1 - ((i + 1 : Nat) : Int) = ((C.length - 1 - i : Nat) : Int) - 1 := by omega
      have hj : C.length - 1 - i < C.length := by omega
      have hg : C[C.length - 1 - i] = c := by rw [← hc, List.getElem_reverse]
      simp only [e1, e2]
      obtain ⟨ce, cn, k, m, s, l⟩ := c
      unfold isK at hq
      by_cases h2 : ce = e
      · have h3 : ¬ cn = n := fun h => by simp [h2, h] at hq
        simp -implicitDefEqProofs [body_ref05_Get_0, mask_ref05_Get_0, hj, hg, hw, h2, h3]
      · simp -implicitDefEqProofs [body_ref05_Get_0, mask_ref05_Get_0, hj, hg, hw, h2])
    (fun i c hi hc hq => by
      simp only [List.length_reverse] at hi
      have e1 : (C.length : Int) - 1 - i = ((C.length - 1 - i : Nat) : Int) := by omega
      have hj : C.length - 1 - i < C.length := by omega
      have hg : C[C.length - 1 - i] = c := by rw [← hc, List.getElem_reverse]
      simp only [e1]
      obtain ⟨ce, cn, k, m, s, l⟩ := c
      simp only [isK, decide_eq_true_eq] at hq
      obtain ⟨rfl, rfl⟩ := hq
      simp -implicitDefEqProofs [body_ref05_Get_0, hj, hg]) (by
      have e1 : (C.length : Int) - 1 - (C.reverse.length : Int) = -1 := by simp; omega
      simp only [e1]
      simp -implicitDefEqProofs [body_ref05_Get_0])
  have hf : ∀ (l : List Cel) (i : Nat), (findI (fun _ d => isK e n d) l i).map (·.2) = l.find? (isK e n) := by
    intro l
    induction l with
    | nil => intro i; rfl
    | cons x r ih =>
      intro i
      unfold findI
      by_cases h : isK e n x = true
      · simp [h]
      · simp [h, ih]
  by_cases h0 : kindM Ds n = 0
  · simp -implicitDefEqProofs [code_ref05_Get, h1, h0]
  · have hw := wrap_ok (a := (C.length : Int) - 1) (by omega) (by omega)
    simp -implicitDefEqProofs [code_ref05_Get, h1, h0, hw]
    rw [hL _ (by simp -implicitDefEqProofs [mask_ref05_Get_0])]
    rw [← hf C.reverse 0]
    cases findI (fun _ d => isK e n d) C.reverse 0 <;> simp -implicitDefEqProofs

theorem foldI_set {e n : Txt} : ∀ (l : List Cel) (i : Nat) (a : List Cel), foldI (fun _ out c => if isK e n c = true then out else out ++ [c]) l i a = a ++ l.filter fun c => !isK e n c
  | [], i, a => by simp
  | c :: r, i, a => by
    rw [foldI_cons, foldI_set r]
    by_cases h : isK e n c = true
    · simp [h]
    · simp [h]

theorem p_Set (Ds : List Dec) (C : List Cel) (e n : Txt) (v : Va) (hv : VaOK v) (hD : Ds.length ≤ BIG) (hC : C.length ≤ BIG) :
    R F_ref05_Set [staA Ds C, stA e, stA n, vaA v] [] = some (.tup [staA Ds (if kindM Ds n = 0 then C else if ¬ kindM Ds n = v.kind then C else if vaCheck v = 0 then setM e n v C else C), .d (.int .i64 (if kindM Ds n = 0 then 14 else if ¬ kindM Ds n = v.kind then 31 else vaCheck v))], []) := by
  refine R_of at_ref05_Set (by decide) ?_
  have h1 := p_Kind Ds C n hD
  have h2 := run_02Check v hv
  unfold BIG at hC
  by_cases g1 : kindM Ds n = 0
  · obtain ⟨k, m, s, l⟩ := v
    simp -implicitDefEqProofs [code_ref05_Set, h1, g1]
  · by_cases g2 : kindM Ds n = v.kind
    · by_cases g3 : vaCheck v = 0
      · have hL := loop_fold (X := X) (mask := mask_ref05_Set_0) (body := body_ref05_Set_0) C
          (fun i (out : List Cel) => ⟨mkE 75 [(1, stA e), (2, stA n), (4, .pv 10000 0), (7, .pv 10010 0), (8, .pv 10020 0), (12, .os 10000120 out.length 0 out.length), (13, .d (.int .i64 i))], [(10000, .var [decS Ds, celS C]), (10010, .var [.d (.int .i64 v.kind), .d (.int .i64 v.n), .d (.str v.s), txS v.l]), (10020, .var [.d (.vs true []), .d (.vs true [])]), (10000120, .arr 6 (out.map celC))]⟩)
          (fun i out => out.length ≤ i) (fun _ out c => if isK e n c = true then out else out ++ [c])
          (fun out => (.exit 0, ⟨mkE 75 [(1, stA e), (2, stA n), (4, .pv 10000 0), (7, .pv 10010 0), (8, .pv 10020 0), (12, .os 10000120 out.length 0 out.length)], [(10000, .var [decS Ds, celS C]), (10010, .var [.d (.int .i64 v.kind), .d (.int .i64 v.n), .d (.str v.s), txS v.l]), (10020, .var [.d (.vs true []), .d (.vs true [])]), (10000120, .arr 6 (out.map celC))]⟩)) (by simp)
          (fun i out c hi hc hI => by
            have hw := wrap_ok (a := (i : Int) + 1) (by omega) (by omega)
            have g5 : out.length + 1 ≤ LIM := by unfold LIM; omega
            obtain ⟨ce, cn, k, m, s, l⟩ := c
            by_cases h3 : e = ce
            · by_cases h4 : n = cn
              · have hk : isK e n ⟨ce, cn, k, m, s, l⟩ = true := by simp [isK, h3, h4]
                refine ⟨by rw [if_pos hk]; omega, ?_⟩
                rw [if_pos hk]
                subst h3; subst h4
                simp -implicitDefEqProofs [body_ref05_Set_0, mask_ref05_Set_0, hi, hc, hw]
              · have hk : ¬ isK e n ⟨ce, cn, k, m, s, l⟩ = true := by simp [isK, h4]
                refine ⟨by rw [if_neg hk]; simp; omega, ?_⟩
                rw [if_neg hk]
                subst h3
                have h4' : ¬ cn = n := fun h => h4 h.symm
                simp -implicitDefEqProofs [body_ref05_Set_0, mask_ref05_Set_0, hi, hc, hw, h4', g5]
            · have hk : ¬ isK e n ⟨ce, cn, k, m, s, l⟩ = true := by simp [isK, h3]
              refine ⟨by rw [if_neg hk]; simp; omega, ?_⟩
              rw [if_neg hk]
              have h3' : ¬ ce = e := fun h => h3 h.symm
              simp -implicitDefEqProofs [body_ref05_Set_0, mask_ref05_Set_0, hi, hc, hw, h3', g5])
          (fun out hI => by simp -implicitDefEqProofs [body_ref05_Set_0]) [] (Nat.le_refl _)
        rw [foldI_set] at hL
        simp only [List.nil_append] at hL
        have hlen : (C.filter fun c => !isK e n c).length ≤ C.length := List.length_filter_le _ _
        have g5 : (C.filter fun c => !isK e n c).length + 1 ≤ LIM := by unfold LIM; omega
        unfold setM
        generalize (C.filter fun c => !isK e n c) = out at *
        obtain ⟨k, m, s, l⟩ := v
        simp only at g2
        rw [g2] at h1 g1
        simp -implicitDefEqProofs [code_ref05_Set, h1, g1, h2, g3, g2]
        rw [hL _ (by simp -implicitDefEqProofs [mask_ref05_Set_0])]
        simp -implicitDefEqProofs [g5]
      · obtain ⟨k, m, s, l⟩ := v
        simp only at g2
        rw [g2] at h1 g1
        simp -implicitDefEqProofs [code_ref05_Set, h1, g1, h2, g3, g2]
    · obtain ⟨k, m, s, l⟩ := v
      simp only at g2
      simp -implicitDefEqProofs [code_ref05_Set, h1, g1, g2]

theorem foldI_nam {e : Txt} : ∀ (l : List Cel) (i : Nat) (a : List Txt), foldI (fun _ out c => if c.e = e then out ++ [c.n] else out) l i a = a ++ (l.filter fun c => c.e = e).map (·.n)
  | [], i, a => by simp
  | c :: r, i, a => by
    rw [foldI_cons, foldI_nam r]
    by_cases h : c.e = e
    · simp [h]
    · simp [h]

theorem p_names (Ds : List Dec) (C : List Cel) (e : Txt) (hC : C.length ≤ BIG) : R F_law05_names [staA Ds C, stA e] [] = some (txS (setT ((C.filter fun c => c.e = e).map (·.n))), []) := by
  refine R_of at_law05_names (by decide) ?_
  unfold BIG at hC
  have hL := loop_fold (X := X) (mask := mask_law05_names_0) (body := body_law05_names_0) C
    (fun i (out : List Txt) => ⟨mkE 33 [(1, stA e), (2, .pv 10000 0), (5, .os 10000050 out.length 0 out.length), (6, .d (.int .i64 i))], [(10000, .var [decS Ds, celS C]), (10000050, .arr 1 (out.map stC))]⟩)
    (fun i out => out.length ≤ i) (fun _ out c => if c.e = e then out ++ [c.n] else out)
    (fun out => (.exit 0, ⟨mkE 33 [(5, .os 10000050 out.length 0 out.length)], [(10000050, .arr 1 (out.map stC))]⟩)) (by simp)
    (fun i out c hi hc hI => by
      have hw := wrap_ok (a := (i : Int) + 1) (by omega) (by omega)
      have g5 : out.length + 1 ≤ LIM := by unfold LIM; omega
      obtain ⟨ce, cn, k, m, s, l⟩ := c
      by_cases h : ce = e
      · refine ⟨by simp [h]; omega, ?_⟩
        simp -implicitDefEqProofs [body_law05_names_0, mask_law05_names_0, hi, hc, hw, h, g5]
      · refine ⟨by simp [h]; omega, ?_⟩
        simp -implicitDefEqProofs [body_law05_names_0, mask_law05_names_0, hi, hc, hw, h])
    (fun out hI => by simp -implicitDefEqProofs [body_law05_names_0]) [] (Nat.le_refl _)
  rw [foldI_nam] at hL
  simp only [List.nil_append] at hL
  have hlen : ((C.filter fun c => c.e = e).map (·.n)).length ≤ C.length := by simp; exact List.length_filter_le _ _
  have hR := run_Rising ((C.filter fun c => c.e = e).map (·.n)) (by unfold BIG; omega)
  generalize (C.filter fun c => c.e = e).map (·.n) = out at *
  simp -implicitDefEqProofs [code_law05_names]
  rw [hL _ (by simp -implicitDefEqProofs [mask_law05_names_0])]
  generalize setT out = q at *
  cases q <;> simp -implicitDefEqProofs [hR, txS] at hR ⊢ <;> simp -implicitDefEqProofs [hR, noViews]
end Bz.S
