/- StoreRuns, StoreClones. -/
import Derived.Test.YtpopnggdnkfemaaStore4
set_option linter.unusedSimpArgs false
set_option linter.unusedVariables false
namespace Bz.S
open Go Bz
set_option maxRecDepth 10000
set_option maxHeartbeats 4000000

theorem alive05s : R F_law05_alive [] [] = some (.d (.bool true), []) := RUN_run own retOwn ext code (k := 60) (by kernel_rfl)

def runSt (Ds : List Dec) (l : List Op5) (S : List Cel) : List Cel := l.foldl (fun S o => stepS Ds o S) S
def runM (Ds : List Dec) (l : List Op5) (C : List Cel) : List Cel := l.foldl (fun C o => stepM Ds o C) C
theorem J_run {Ds : List Dec} : ∀ (l : List Op5) {S C : List Cel}, J S C → (∀ o ∈ l, VaOK o.v) → J (runSt Ds l S) (runM Ds l C)
  | [], _, _, h, _ => h
  | o :: r, _, _, h, hv => J_run r (J_step h (hv o (by simp))) fun q hq => hv q (by simp [hq])
theorem runM_len (Ds : List Dec) : ∀ (l : List Op5) (C : List Cel), (runM Ds l C).length ≤ C.length + l.length
  | [], C => Nat.le_refl _
  | o :: r, C => by
    have h1 := runM_len Ds r (stepM Ds o C)
    have h2 := stepM_len Ds o C
    show (runM Ds r (stepM Ds o C)).length ≤ _
    simp; omega
theorem foldI_pair (Ds : List Dec) : ∀ (l : List Op5) (i : Nat) (a : List Cel × List Cel), foldI (fun _ p o => (stepS Ds o p.1, stepM Ds o p.2)) l i a = (runSt Ds l a.1, runM Ds l a.2)
  | [], i, a => rfl
  | o :: r, i, a => by rw [foldI_cons, foldI_pair Ds r]; rfl

theorem run_run05 (Ds : List Dec) (l : List Op5) (S C : List Cel) (h : J S C) (hv : ∀ o ∈ l, VaOK o.v) (hD : Ds.length ≤ BIG) (hC : C.length + l.length ≤ BIG) :
    R F_law05_run [.pv 0 0, staA Ds C, opS l] (sH (kinds Ds) S) = some (.tup [staA Ds (runM Ds l C), .d (.bool true)], sH (kinds Ds) (runSt Ds l S)) := by
  refine R_of at_law05_run (by decide) ?_
  have hC' := hC
  unfold BIG at hC'
  have hL := loop_fold (X := X) (mask := mask_law05_run_0) (body := body_law05_run_0) l
    (fun i (p : List Cel × List Cel) => ⟨mkE 31 [(0, .pv 0 0), (2, opS l), (4, .pv 10000 0), (6, .pv 10010 0), (8, .d (.bool true)), (9, .d (.int .i64 i))], sH (kinds Ds) p.1 ++ [(10000, .var [decS Ds, celS p.2]), (10010, .var [.d (.vs true []), .d (.vs true [])])]⟩)
    (fun i p => J p.1 p.2 ∧ p.2.length ≤ C.length + i) (fun _ p o => (stepS Ds o p.1, stepM Ds o p.2))
    (fun p => (.exit 0, ⟨mkE 31 [(4, .pv 10000 0), (6, .pv 10010 0), (8, .d (.bool true))], sH (kinds Ds) p.1 ++ [(10000, .var [decS Ds, celS p.2]), (10010, .var [.d (.vs true []), .d (.vs true [])])]⟩)) (by simp)
    (fun i p o hi ho hI => by
      obtain ⟨S, C1⟩ := p
      obtain ⟨hJ, hl⟩ := hI
      simp only at hJ hl
      have hw := wrap_ok (a := (i : Int) + 1) (by omega) (by omega)
      have hov : VaOK o.v := hv o (ho ▸ List.getElem_mem hi)
      have hs := run_step05 Ds S C1 o hJ hov hD (by omega)
      have hj := J_step (Ds := Ds) hJ hov
      have hsl := stepM_len Ds o C1
      generalize stepS Ds o S = S2 at *
      generalize stepM Ds o C1 = C2 at *
      obtain ⟨k, e, n, vk, vn, vs, vl⟩ := o
      refine ⟨⟨hj, by simp; omega⟩, ?_⟩
      simp -implicitDefEqProofs [body_law05_run_0, mask_law05_run_0, hi, ho, hw, hs])
    (fun p _ => by simp -implicitDefEqProofs [body_law05_run_0]) (S, C) ⟨h, Nat.le_refl _⟩
  rw [foldI_pair] at hL
  simp -implicitDefEqProofs [code_law05_run]
  rw [hL _ (by simp -implicitDefEqProofs [mask_law05_run_0])]
  simp -implicitDefEqProofs

theorem run_few05 (l : List Op5) (hl : l.length ≤ BIG) : R F_law05_few [opS l] [] = some (opS (l.take 60), []) := by
  refine R_of at_law05_few (by decide) ?_
  by_cases h : (60 : Int) < l.length
  · have h' : (60 : Int) ≤ l.length := by omega
    simp -implicitDefEqProofs [code_law05_few, h, h', List.map_take]
  · have h' : l.take 60 = l := List.take_of_length_le (by omega)
    simp -implicitDefEqProofs [code_law05_few, h, h']

theorem ops_bulk (l : List Op5) : l.length ≤ bulkLL (l.map opC) ∧ ∀ o ∈ l, bulkL (vaC o.v) ≤ bulkLL (l.map opC) := by
  induction l with
  | nil => simp
  | cons o r ih =>
    simp only [List.map_cons, List.length_cons, bulkLL, opC, bulkL, bulkD, vaC] at ih ⊢
    refine ⟨by omega, fun q hq => ?_⟩
    rcases List.mem_cons.1 hq with rfl | hq
    · omega
    · have := ih.2 q hq; omega
theorem decs_bulk (l : List Dec) : l.length ≤ bulkLL (l.map decC) := by
  induction l with
  | nil => simp
  | cons o r ih => simp only [List.map_cons, List.length_cons, bulkLL, decC, bulkL, bulkD] at ih ⊢; omega
theorem few_ok {l : List Op5} (h : bulkL [.vs false (l.map opC)] ≤ 1048576) : l.length ≤ BIG ∧ (∀ o ∈ l.take 60, VaOK o.v) ∧ (l.take 60).length ≤ 60 := by
  have hb := ops_bulk l
  simp only [bulkL, bulkD] at h
  refine ⟨by unfold BIG; omega, fun o ho => vaOK_bulk ?_, by simp; omega⟩
  have := hb.2 o (List.mem_of_mem_take ho)
  omega

theorem J_nil : J [] [] := ⟨.refl _, List.nodup_nil, fun c h => by cases h⟩

theorem run_StoreRuns (Ds : List Dec) (l : List Op5) (hb0 : bulkL [.vs false (Ds.map decC)] + bulkL [.vs false (l.map opC)] ≤ 1048576) : R F_law05_StoreRuns [decS Ds, opS l] [] = some (.d (.bool true), []) := by
  refine R_of at_law05_StoreRuns (by decide) ?_
  have hd := decs_bulk Ds
  obtain ⟨h1, h2, h3⟩ := few_ok (l := l) (by omega)
  simp only [bulkL, bulkD] at hb0
  have hD : Ds.length ≤ BIG := by unfold BIG; omega
  have hN := run_New Ds hD
  have hf := run_few05 l h1
  generalize l.take 60 = l' at *
  have hr := run_run05 Ds l' [] [] J_nil h2 hD (by simp only [List.length_nil]; unfold BIG; omega)
  simp only [sH, staA, celS, List.map_nil] at hN hr
  simp -implicitDefEqProofs [code_law05_StoreRuns, alive05s, hN, hf, hr]

theorem run_StoreClones (Ds : List Dec) (a b c : List Op5) (hb0 : bulkL [.vs false (Ds.map decC)] + (bulkL [.vs false (a.map opC)] + (bulkL [.vs false (b.map opC)] + bulkL [.vs false (c.map opC)])) ≤ 1048576) :
    R F_law05_StoreClones [decS Ds, opS a, opS b, opS c] [] = some (.d (.bool true), []) := by
  refine R_of at_law05_StoreClones (by decide) ?_
  have hd := decs_bulk Ds
  obtain ⟨a1, a2, a3⟩ := few_ok (l := a) (by omega)
  obtain ⟨b1, b2, b3⟩ := few_ok (l := b) (by omega)
  obtain ⟨c1, c2, c3⟩ := few_ok (l := c) (by omega)
  simp only [bulkL, bulkD] at hb0
  have hD : Ds.length ≤ BIG := by unfold BIG; omega
  have hN := run_New Ds hD
  have fa := run_few05 a a1
  have fb := run_few05 b b1
  have fc := run_few05 c c1
  generalize a.take 60 = a' at *
  generalize b.take 60 = b' at *
  generalize c.take 60 = c' at *
  have ra := run_run05 Ds a' [] [] J_nil a2 hD (by simp only [List.length_nil]; unfold BIG; omega)
  have ja := J_run (Ds := Ds) a' J_nil a2
  have la := runM_len Ds a' []
  simp only [List.length_nil] at la
  generalize runSt Ds a' [] = S1 at *
  generalize runM Ds a' [] = C1 at *
  have rb := run_run05 Ds b' S1 C1 ja b2 hD (by unfold BIG; omega)
  have rc := run_run05 Ds c' S1 C1 ja c2 hD (by unfold BIG; omega)
  have jb := J_run (Ds := Ds) b' ja b2
  have jc := J_run (Ds := Ds) c' ja c2
  have lb := runM_len Ds b' C1
  have lc := runM_len Ds c' C1
  generalize runSt Ds b' S1 = S2 at *
  generalize runM Ds b' C1 = C2 at *
  generalize runSt Ds c' S1 = S3 at *
  generalize runM Ds c' C1 = C3 at *
  have rbc := run_run05 Ds c' S2 C2 jb c2 hD (by unfold BIG; omega)
  have rcb := run_run05 Ds b' S3 C3 jc b2 hD (by unfold BIG; omega)
  have hcl := s_Clone (kinds Ds) S1
  simp only [sH, staA, celS, List.map_nil, List.cons_append, List.nil_append] at hN ra hcl rb rc rbc rcb
  simp -implicitDefEqProofs [code_law05_StoreClones, alive05s, hN, fa, fb, fc, ra, rb, rc, rbc, rcb, hcl]

theorem typ_decs {P : Program} {q t : TypeId} {fs : Array Field} (hq : P.underlying q = some (.slice t)) (hu : P.underlying t = some (.struct fs)) {i1 i2 : TypeId} (hfs : fs.toList.map (·.type) = [i1, i2])
    (h1 : P.underlying i1 = some .string) (h2 : P.underlying i2 = some (.int .i64)) (x : List D) (h : Typed P q x) : ∃ m : List Dec, x = [.vs false (m.map decC)] := by
  obtain ⟨es, rfl, hes⟩ := typ_slice h hq
  obtain ⟨m, rfl⟩ := mem_map_all decC (es := es) fun c hc => by
    obtain ⟨parts, rfl, hp⟩ := typ_fields (hes c hc) hu hfs
    obtain ⟨a, r, rfl, ha, hp⟩ := tall_cons hp
    obtain ⟨b, r, rfl, hb, hp⟩ := tall_cons hp
    cases tall_nil hp
    obtain ⟨m1, rfl⟩ := typ_str ha h1
    obtain ⟨m2, rfl, _⟩ := typ_int hb h2
    exact ⟨⟨m1, m2⟩, rfl⟩
  exact ⟨m, rfl⟩
theorem typ_op5s {P : Program} {q t va l st : TypeId} {fs gs : Array Field} (hq : P.underlying q = some (.slice t)) (hu : P.underlying t = some (.struct fs)) (huv : P.underlying va = some (.struct gs)) (hul : P.underlying l = some (.slice st)) {i1 s1 s2 j1 j2 s3 : TypeId} (hfs : fs.toList.map (·.type) = [i1, s1, s2, va]) (hgs : gs.toList.map (·.type) = [j1, j2, s3, l])
    (h1 : P.underlying i1 = some (.int .i64)) (h2 : P.underlying s1 = some .string) (h3 : P.underlying s2 = some .string)
    (g1 : P.underlying j1 = some (.int .i64)) (g2 : P.underlying j2 = some (.int .i64)) (g3 : P.underlying s3 = some .string) (g4 : P.underlying st = some .string) (x : List D) (h : Typed P q x) : ∃ m : List Op5, x = [.vs false (m.map opC)] := by
  obtain ⟨es, rfl, hes⟩ := typ_slice h hq
  obtain ⟨m, rfl⟩ := mem_map_all opC (es := es) fun y hy => by
    obtain ⟨parts, rfl, hp⟩ := typ_fields (hes y hy) hu hfs
    obtain ⟨a, r, rfl, ha, hp⟩ := tall_cons hp
    obtain ⟨b, r, rfl, hb, hp⟩ := tall_cons hp
    obtain ⟨c, r, rfl, hc, hp⟩ := tall_cons hp
    obtain ⟨d, r, rfl, hd, hp⟩ := tall_cons hp
    cases tall_nil hp
    obtain ⟨m1, rfl, _⟩ := typ_int ha h1
    obtain ⟨m2, rfl⟩ := typ_str hb h2
    obtain ⟨m3, rfl⟩ := typ_str hc h3
    obtain ⟨v, rfl⟩ := typ_va huv hul hgs g1 g2 g3 g4 d hd
    exact ⟨⟨m1, m2, m3, v⟩, rfl⟩
  exact ⟨m, rfl⟩
end Bz.S
