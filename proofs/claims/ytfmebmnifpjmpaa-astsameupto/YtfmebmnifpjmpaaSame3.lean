/- Expressions copied, held against each other plainly, spoilt; the law. -/
import Derived.Test.YtfmebmnifpjmpaaSame2
import Derived.KernelRfl
set_option linter.unusedSimpArgs false
set_option linter.unusedVariables false
namespace Bz.S
open Go Bz
set_option maxRecDepth 10000
set_option maxHeartbeats 4000000

theorem foldI_app (l : List Ex) (i : Nat) (a : List Ex) : foldI (fun _ a k => a ++ [k]) l i a = a ++ l := by
  induction l generalizing i a with
  | nil => simp
  | cons x r ih => rw [foldI_cons, ih]; simp

theorem run_Copy : ∀ (e : Ex), exN e ≤ BIG → R F_plain_Copy [exA e] [] = some (exOwn e) := by
  refine exIndB fun e hb IH => ?_
  refine R_of at_plain_Copy (by decide) ?_
  have hlen : e.kids.length ≤ BIG := by have := exNs_len e.kids; have := exN_eq e; omega
  unfold BIG at hlen
  have hL := loop_fold (X := X) (mask := mask_plain_Copy_0) (body := body_plain_Copy_0) e.kids
    (fun i (a : List Ex) => ⟨mkE 24 [(1, .pv 10000 0), (2, .pv 10010 0), (3, .os 10000030 a.length 0 a.length), (4, .d (.int .i64 i))], [(10000, .var (exV e)), (10010, .var [.d (.int .i64 0), .d (.str []), .d (.int .i64 0), .d (.int .i64 0), .d (.int .i64 0), .d (.vs true [])]), (10000030, .oar 6 (a.map exR))]⟩)
    (fun i a => a.length = i) (fun _ a k => a ++ [k]) (fun a => (.exit 0, ⟨mkE 24 [(1, .pv 10000 0), (2, .pv 10010 0), (3, .os 10000030 a.length 0 a.length)], [(10000, .var (exV e)), (10010, .var [.d (.int .i64 0), .d (.str []), .d (.int .i64 0), .d (.int .i64 0), .d (.int .i64 0), .d (.vs true [])]), (10000030, .oar 6 (a.map exR))]⟩)) (by simp)
    (fun i a k hi hk hI => by
      have hw := wrap_ok (a := (i : Int) + 1) (by omega) (by omega)
      have hc := IH k (hk ▸ List.getElem_mem hi)
      have hal : a.length + 1 ≤ LIM := by unfold LIM; omega
      refine ⟨by simp [hI], ?_⟩
      simp -implicitDefEqProofs [body_plain_Copy_0, mask_plain_Copy_0, hi, hk, hw, hc, hal, fold1_ex, exR])
    (fun a _ => by simp -implicitDefEqProofs [body_plain_Copy_0]) [] rfl
  rw [foldI_app, List.nil_append] at hL
  simp -implicitDefEqProofs [code_plain_Copy]
  rw [hL _ (by simp -implicitDefEqProofs [mask_plain_Copy_0])]
  simp -implicitDefEqProofs

theorem run_PlExpr : ∀ (a : Ex), exN a ≤ BIG → ∀ b : Ex, exN b ≤ BIG → R F_plain_Expr [exA a, exA b] [] = some (.d (.bool (eqE a b)), []) := by
  refine exIndB fun a ha IH b hb => ?_
  refine R_of at_plain_Expr (by decide) ?_
  have hal : a.kids.length ≤ BIG := by have := exNs_len a.kids; have := exN_eq a; omega
  have hbl : b.kids.length ≤ BIG := by have := exNs_len b.kids; have := exN_eq b; omega
  have hkb : ∀ y ∈ b.kids, exN y ≤ BIG := fun y hy => by have := exNs_mem hy; have := exN_eq b; omega
  unfold BIG at hal hbl
  rw [eqE_eq]
  by_cases c1 : a.kind = b.kind
  · by_cases c2 : a.name = b.name
    · by_cases c3 : a.n = b.n
      · by_cases c4 : a.lo = b.lo
        · by_cases c5 : a.hi = b.hi
          · by_cases hl : a.kids.length = b.kids.length
            · have hli : (a.kids.length : Int) = b.kids.length := by omega
              have hL := loop_find (X := X) (mask := mask_plain_Expr_0) (body := body_plain_Expr_0) a.kids
                (fun i => ⟨mkE 67 [(2, .pv 10000 0), (3, .pv 10010 0), (5, .d (.int .i64 i))], [(10000, .var (exV a)), (10010, .var (exV b))]⟩)
                (fun i x => !eqAt b.kids i x) (.exit 0, ⟨mkE 67 [], []⟩) (fun i _ => (.ret, ⟨mkE 67 [(4, .d (.bool false))], []⟩)) (by simp) (by simp)
                (fun i e hi he hq => by
                  have hj : i < b.kids.length := by omega
                  have hw := wrap_ok (a := (i : Int) + 1) (by omega) (by omega)
                  have hs := IH e (he ▸ List.getElem_mem hi) b.kids[i] (hkb _ (List.getElem_mem hj))
                  simp only [eqAt, List.getElem?_eq_getElem hj, Bool.not_eq_false'] at hq
                  rw [hq] at hs
                  simp -implicitDefEqProofs [body_plain_Expr_0, mask_plain_Expr_0, hi, he, hj, hw, hs])
                (fun i e hi he hq => by
                  have hj : i < b.kids.length := by omega
                  have hs := IH e (he ▸ List.getElem_mem hi) b.kids[i] (hkb _ (List.getElem_mem hj))
                  simp only [eqAt, List.getElem?_eq_getElem hj, Bool.not_eq_true'] at hq
                  rw [hq] at hs
                  simp -implicitDefEqProofs [body_plain_Expr_0, mask_plain_Expr_0, hi, he, hj, hs])
                (by simp -implicitDefEqProofs [body_plain_Expr_0])
              have hf := eqEs_find b.kids a.kids 0 (by simpa using hl)
              rw [List.drop_zero] at hf
              simp -implicitDefEqProofs [code_plain_Expr, c1, c2, c3, c4, c5, hli]
              have e1 : exV a = [.d (.int .i64 b.kind), .d (.str b.name), .d (.int .i64 b.n), .d (.int .i64 b.lo), .d (.int .i64 b.hi), .d (.vs false (a.kids.map exC))] := by simp [exV, c1, c2, c3, c4, c5]
              simp -implicitDefEqProofs only [e1] at hL
              rw [hL _ (by simp -implicitDefEqProofs [mask_plain_Expr_0])]
              cases hF : findI (fun i x => !eqAt b.kids i x) a.kids 0 with
              | none => rw [hF] at hf; simp -implicitDefEqProofs [← hf]
              | some q => rw [hF] at hf; simp -implicitDefEqProofs [← hf]
            · have hli : ¬ (a.kids.length : Int) = b.kids.length := by omega
              have : eqEs a.kids b.kids = false := by
                cases h : eqEs a.kids b.kids with
                | false => rfl
                | true => exact absurd (eqEs_len h) hl
              simp -implicitDefEqProofs [code_plain_Expr, c1, c2, c3, c4, c5, hli, this]
          · simp -implicitDefEqProofs [code_plain_Expr, c1, c2, c3, c4, c5]
        · simp -implicitDefEqProofs [code_plain_Expr, c1, c2, c3, c4]
      · simp -implicitDefEqProofs [code_plain_Expr, c1, c2, c3]
    · simp -implicitDefEqProofs [code_plain_Expr, c1, c2]
  · simp -implicitDefEqProofs [code_plain_Expr, c1]

/-! ### names become other ones -/
mutual
def spoilE : Ex → Ex
  | .mk k s n l h ks => .mk k (s ++ [45]) n l h (spoilEs ks)
def spoilEs : List Ex → List Ex
  | [] => []
  | e :: r => spoilE e :: spoilEs r
end

theorem spoilEs_map (l : List Ex) : spoilEs l = l.map spoilE := by
  induction l with
  | nil => rfl
  | cons e r ih => simp [spoilEs, ih]
theorem spoil_eq (e : Ex) : spoilE e = .mk e.kind (e.name ++ [45]) e.n e.lo e.hi (e.kids.map spoilE) := by
  cases e; simp [spoilE, spoilEs_map, Ex.kind, Ex.name, Ex.n, Ex.lo, Ex.hi, Ex.kids]

theorem run_spoil0 : R F_law07_spoil [.d (.vs true [])] [] = some (.tup [], []) := by
  refine R_of at_law07_spoil (by decide) ?_
  have hL := loop_fold (α := Ex) (σ := Unit) (X := X) (mask := mask_law07_spoil_0) (body := body_law07_spoil_0) []
    (fun i _ => ⟨mkE 25 [(0, .d (.vs true [])), (2, .d (.int .i64 0))], []⟩) (fun _ _ => True) (fun _ _ _ => ()) (fun _ => (.exit 0, ⟨mkE 25 [], []⟩)) (by simp)
    (fun i _ k hi => by simp at hi) (fun _ _ => by simp -implicitDefEqProofs [body_law07_spoil_0]) () trivial
  simp -implicitDefEqProofs [code_law07_spoil]
  rw [hL _ (by simp -implicitDefEqProofs [mask_law07_spoil_0])]
  simp -implicitDefEqProofs

@[simp] theorem aopen_osl_t (nm : Nat) (H : Heap) (p : AV) (sz len : Nat) (es : List (List O)) : aopen true nm H p (.ow (.osl sz len es)) =
    (putAt H (.os nm es.length 0 len) p).map fun u => (.os nm es.length 0 len, u ++ [(nm, .oar sz (es.map fun c => c.map ofO))], [nm]) := rfl
theorem map_ofO (l : List Ex) : (l.map exO).map (fun c => c.map ofO) = l.map exR := by
  rw [List.map_map]
  apply List.map_congr_left
  intro e _
  exact exO_ofO e
@[simp] theorem refCols_kids (j : Nat) (l : List Ex) : refCols j [kidsA l] = [] := by unfold kidsA; split <;> rfl
theorem comp_ofO : ((fun c => List.map ofO c) ∘ exO) = exR := funext exO_ofO
theorem fold1_sp {H : Heap} {nm : Nat} {l : List Ex} (hn : 10000 ≤ nm) (h : hget H nm = some (.oar 6 ((l.map spoilE).map exR))) : fold1 H (.os nm l.length 0 l.length) = some (kidsA (l.map spoilE), nm) := by
  have := fold1_ex hn h
  simpa using this

theorem run_spoil : ∀ (e : Ex), exN e ≤ BIG → R F_law07_spoil [.os 0 e.kids.length 0 e.kids.length] [(0, .oar 6 (e.kids.map exR))] = some (.tup [], [(0, .oar 6 ((e.kids.map spoilE).map exR))]) := by
  refine exIndB fun e hb IH => ?_
  refine R_of at_law07_spoil (by decide) ?_
  have hlen : e.kids.length ≤ BIG := by have := exNs_len e.kids; have := exN_eq e; omega
  unfold BIG at hlen
  have hL := loop_fold (X := X) (mask := mask_law07_spoil_0) (body := body_law07_spoil_0) e.kids
    (fun i (a : List Ex) => ⟨mkE 25 [(0, .os 0 e.kids.length 0 e.kids.length), (2, .d (.int .i64 i))], [(0, .oar 6 (a.map exR))]⟩)
    (fun i a => a.length = e.kids.length ∧ a.drop i = e.kids.drop i) (fun i a k => a.set i (spoilE k)) (fun a => (.exit 0, ⟨mkE 25 [], [(0, .oar 6 (a.map exR))]⟩)) (by simp)
    (fun i a k hi hk hI => by
      obtain ⟨hal, had⟩ := hI
      have hia : i < a.length := by omega
      have hak : a[i] = k := by
        have h1 : a[i]? = e.kids[i]? := by rw [← List.head?_drop, had, List.head?_drop]
        rw [List.getElem?_eq_getElem hia, List.getElem?_eq_getElem hi, hk] at h1
        exact Option.some.inj h1
      have hw := wrap_ok (a := (i : Int) + 1) (by omega) (by omega)
      have hkn : exN k ≤ BIG := by
        have := exNs_mem (l := e.kids) (e := k) (hk ▸ List.getElem_mem hi); have := exN_eq e; omega
      have hnm : k.name.length + 1 ≤ LIM := by have := exN_eq k; unfold BIG at hkn; unfold LIM; omega
      refine ⟨⟨by simpa using hal, by rw [List.drop_set_of_lt (by omega)]; rw [← List.drop_drop, had, List.drop_drop]⟩, ?_⟩
      have hc := IH k (hk ▸ List.getElem_mem hi)
      have hsp : spoilE k = .mk k.kind (k.name ++ [45]) k.n k.lo k.hi (k.kids.map spoilE) := spoil_eq k
      have hset : ∀ c : List AV, refAt ((a.map exR).set i c) = (refCols 0 c).map fun j => (i, j) := refAt_set a hia
      have hget : (a.map exR)[i]? = some (exR k) := by rw [List.getElem?_map, List.getElem?_eq_getElem hia, hak]; rfl
      have hgs : ∀ c : List AV, ((a.map exR).set i c)[i]? = some c := fun c => List.getElem?_set_self (by simpa using hia)
      have hln : ∀ c : List AV, ((a.map exR).set i c).length = e.kids.length := fun c => by simp [hal]
      have hrl : ∀ c : List AV, refsLL ((a.map exR).set i c) = refsL c := fun c => refsLL_set (fun c hc => by obtain ⟨e, _, rfl⟩ := List.mem_map.1 hc; exact refsL_exR e) (by simpa using hia)
      have hml : (a.map exR).length = e.kids.length := by simpa using hal
      have hadd : strBin .add k.name [45] = some (.d (.str (k.name ++ [45]))) := by
        simp only [strBin]; rw [if_pos (by simpa using hnm)]
      by_cases h0 : k.kids = []
      · have hsr : exR (spoilE k) = [.d (.int .i64 k.kind), .d (.str (k.name ++ [45])), .d (.int .i64 k.n), .d (.int .i64 k.lo), .d (.int .i64 k.hi), .d (.vs true [])] := by rw [hsp, h0]; rfl
        have hxr : exR k = headA5 k (kidsA k.kids) := rfl
        have hk0 : kidsA k.kids = .d (.vs true []) := by rw [h0]; rfl
        have hk1 : kidsA [] = .d (.vs true []) := rfl
        simp -implicitDefEqProofs [body_law07_spoil_0, mask_law07_spoil_0, hi, hia, hak, hal, hgs, hln, hrl, hml, hset, hxr, hsr, hk0, hk1, hadd, run_spoil0, hw]
      · have hkl : (k.kids.map spoilE).length = k.kids.length := by simp
        generalize k.kids.map spoilE = sk at hsp hc hkl
        have hk0 : kidsA k.kids = .ow (.osl 6 sk.length (k.kids.map exO)) := by
          unfold kidsA
          rw [if_neg (fun h => h0 (List.length_eq_zero_iff.1 h)), hkl]
        have hsr : exR (spoilE k) = [.d (.int .i64 k.kind), .d (.str (k.name ++ [45])), .d (.int .i64 k.n), .d (.int .i64 k.lo), .d (.int .i64 k.hi), kidsA sk] := by rw [hsp]; rfl
        have hxr : exR k = headA5 k (kidsA k.kids) := rfl
        rw [← hkl] at hc
        have hkx : (k.kids.map exO).length = sk.length := by simp [hkl]
        simp -implicitDefEqProofs [body_law07_spoil_0, mask_law07_spoil_0, hi, hia, hak, hal, hgs, hln, hrl, hml, hset, hxr, hsr, hk0, hkx, comp_ofO, hadd, hc, fold1_ex, hw]) (fun a hI => by simp -implicitDefEqProofs [body_law07_spoil_0, hI.1]) e.kids ⟨rfl, rfl⟩
  have hf : foldI (fun i (a : List Ex) k => a.set i (spoilE k)) e.kids 0 e.kids = e.kids.map spoilE := by
    have key : ∀ (r p : List Ex), foldI (fun i (a : List Ex) k => a.set i (spoilE k)) r p.length (p ++ r) = p ++ r.map spoilE := by
      intro r
      induction r with
      | nil => intro p; simp
      | cons x r ih =>
        intro p
        rw [foldI_cons, List.set_append_right _ _ (Nat.le_refl _), Nat.sub_self, List.set_cons_zero]
        have := ih (p ++ [spoilE x])
        simpa using this
    simpa using key e.kids []
  rw [hf] at hL
  generalize e.kids.map spoilE = sk at hL ⊢
  simp -implicitDefEqProofs [code_law07_spoil]
  rw [hL _ (by simp -implicitDefEqProofs [mask_law07_spoil_0])]
  simp -implicitDefEqProofs

end Bz.S
