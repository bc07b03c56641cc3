/- Layer 24's laws, walked. -/
import Derived.Test.YtlciioiahkcnlaaRef23
import Derived.Test.YtlciioiahkcnlaaTyp
import Derived.KernelRfl
set_option linter.unusedSimpArgs false
set_option linter.unusedVariables false
namespace Bz.S
open Go Bz
set_option maxRecDepth 10000
set_option maxHeartbeats 4000000

/-! ### plain facts -/
theorem toB_toNat (n : Int) (h0 : 0 ≤ n) (h1 : n ≤ 255) : ((toB n).toNat : Int) = n := by rw [toB_val]; omega
theorem triples_flat : ∀ (l : List Vd), (∀ v ∈ l, (0 ≤ v.id ∧ v.id ≤ 63) ∧ (1 ≤ v.kind ∧ v.kind ≤ 5) ∧ (0 ≤ v.code ∧ v.code ≤ 255)) → triples (l.flatMap vdB) = l
  | [], _ => rfl
  | v :: r, h => by
    have h1 := h v (by simp)
    have h2 := triples_flat r fun v hv => h v (by simp [hv])
    simp only [List.flatMap_cons, vdB, List.cons_append, List.nil_append, triples, h2, toB_toNat _ (by omega : 0 ≤ v.id) (by omega : v.id ≤ 255), toB_toNat _ (by omega : 0 ≤ v.kind) (by omega : v.kind ≤ 255), toB_toNat _ (by omega : 0 ≤ v.code) (by omega : v.code ≤ 255)]
theorem flat_triples : ∀ (n : Nat) (b : Txt), b.length = 3 * n → (triples b).flatMap vdB = b
  | 0, b, h => by have : b = [] := List.length_eq_zero_iff.1 (by omega); subst this; rfl
  | n + 1, b, h => by
    match b, h with
    | x :: y :: z :: r, h => simp [triples, vdB, toB_nat, flat_triples n r (by simp at h; omega)]

theorem recRead_back {code : Int} {l : List Vd} (h : recMay code l = 0) : recRead (recB code l) = some (code, l) := by
  obtain ⟨h1, h2, h3⟩ := may_zero.1 h
  have hf : (l.flatMap vdB).length = 3 * l.length := by have := recB_len code l; simp [recB] at this; simpa using this
  simp only [recB, recRead, hf, toB_toNat code (by omega) (by omega), toB_toNat (l.length : Int) (by omega) (by omega), triples_flat l h2, h]
  have : (toB (l.length : Int)).toNat = l.length := by
    have := toB_toNat (l.length : Int) (by omega) (by omega); omega
  simp [this, h]
theorem recRead_fwd {b : Txt} {p : Int × List Vd} (h : recRead b = some p) : recMay p.1 p.2 = 0 ∧ recB p.1 p.2 = b := by
  match b with
  | [] => cases h
  | [c] => cases h
  | c :: n :: rest =>
    simp only [recRead] at h
    split at h
    · rename_i hc
      cases h
      refine ⟨hc.2, ?_⟩
      have hl := triples_len _ _ hc.1
      simp [recB, hl, toB_nat, flat_triples _ _ hc.1]
    · cases h

/-! ### the laws -/
set_option maxRecDepth 10000 in
theorem run_alive24 : R F_law24_alive [] [] = some (.d (.bool true), []) :=
  RUN_run own retOwn ext code (k := 40) (by kernel_rfl)

def reC (r : Int × List Vd) : List D := [.int .i64 r.1, .vs false (r.2.map vdC)]
@[simp] theorem reC_eq (r : Int × List Vd) : reC r = [.int .i64 r.1, .vs false (r.2.map vdC)] := rfl
theorem vd_bulk (l : List Vd) : l.length ≤ bulkLL (l.map vdC) := by
  induction l with
  | nil => simp
  | cons v r ih => simp [bulkLL, bulkL, bulkD]; omega
theorem by_bulk (l : Txt) : l.length ≤ bulkLL (l.map byC) := by
  induction l with
  | nil => simp
  | cons v r ih => simp [bulkLL, bulkL, bulkD, byC]; omega

theorem run_RecordWrites (r : Int × List Vd) (hb0 : bulkL (reC r) ≤ 1048576) : R F_law24_RecordWrites [recA r.1 r.2] [] = some (.d (.bool true), []) := by
  refine R_of at_law24_RecordWrites (by decide) ?_
  obtain ⟨code, l⟩ := r
  have hl : l.length ≤ BIG := by have := vd_bulk l; simp [reC, bulkL, bulkD] at hb0; unfold BIG; omega
  have h1 := run_recPut code l hl
  have h2 := run_recCheck code l hl
  have h3 := run_23May code l hl
  have h4 := run_23Record code l hl
  simp only
  by_cases hm : recMay code l = 0
  · rw [if_pos hm] at h1
    simp -implicitDefEqProofs [code_law24_RecordWrites, run_alive24, h1, h2, h3, h4, hm]
  · rw [if_neg hm] at h1
    simp -implicitDefEqProofs [code_law24_RecordWrites, run_alive24, h1, h2, h3, h4, hm]

theorem run_RecordReads (b : Txt) (hb0 : bulkL [.vs false (b.map byC)] ≤ 1048576) : R F_law24_RecordReads [byS b] [] = some (.d (.bool true), []) := by
  refine R_of at_law24_RecordReads (by decide) ?_
  have hl : b.length ≤ LIM := by have := by_bulk b; simp [bulkL, bulkD] at hb0; unfold LIM; omega
  have h1 := run_recRead b hl
  have h2 := run_23Verdicts b hl
  cases hr : recRead b with
  | none =>
    rw [hr] at h1 h2
    simp -implicitDefEqProofs [code_law24_RecordReads, run_alive24, h1, h2]
  | some p =>
    obtain ⟨code, l⟩ := p
    rw [hr] at h1 h2
    have := (may_zero.1 (recRead_fwd hr).1).2.2
    have h3 := run_plainVerdicts l l (by simp at this; unfold BIG; omega)
    simp -implicitDefEqProofs at h3
    simp -implicitDefEqProofs [code_law24_RecordReads, run_alive24, h1, h2, h3]

theorem run_RecordBack (r : Int × List Vd) (b : Txt) (hb0 : bulkL (reC r) + (bulkL [.vs false (b.map byC)]) ≤ 1048576) : R F_law24_RecordBack [recA r.1 r.2, byS b] [] = some (.d (.bool true), []) := by
  refine R_of at_law24_RecordBack (by decide) ?_
  obtain ⟨code, l⟩ := r
  have hl : l.length ≤ BIG := by have := vd_bulk l; simp [reC, bulkL, bulkD] at hb0; unfold BIG; omega
  have hlb : b.length ≤ LIM := by have := by_bulk b; simp [bulkL, bulkD] at hb0; unfold LIM; omega
  have h1 := run_recPut code l hl
  have h3 := run_23May code l hl
  have h5 := run_recRead b hlb
  have h6 : R F_plain_Verdicts [vdS l, vdS l] [] = some (.d (.bool true), []) := by
    have := run_plainVerdicts l l hl
    simpa using this
  simp only
  by_cases hm : recMay code l = 0
  · rw [if_pos hm] at h1
    have hr := recRead_back hm
    have hlim : (recB code l).length ≤ LIM := by rw [recB_len]; have := (may_zero.1 hm).2.2; unfold LIM; omega
    have h4 := run_recRead (recB code l) hlim
    rw [hr] at h4
    generalize recB code l = B at *
    cases hq : recRead b with
    | none =>
      rw [hq] at h5
      simp -implicitDefEqProofs [code_law24_RecordBack, run_alive24, h1, h3, h4, h5, h6, hm]
    | some p =>
      obtain ⟨c2, l2⟩ := p
      obtain ⟨g1, g2⟩ := recRead_fwd hq
      have h7 := run_recPut c2 l2 (by have := (may_zero.1 g1).2.2; simp at this; unfold BIG; omega)
      simp only at g1 g2
      rw [if_pos g1, g2] at h7
      rw [hq] at h5
      simp -implicitDefEqProofs [code_law24_RecordBack, run_alive24, h1, h3, h4, h5, h6, h7, hm, g1]
  · rw [if_neg hm] at h1
    cases hq : recRead b with
    | none =>
      rw [hq] at h5
      simp -implicitDefEqProofs [code_law24_RecordBack, run_alive24, h1, h3, h5, h6, hm]
    | some p =>
      obtain ⟨c2, l2⟩ := p
      obtain ⟨g1, g2⟩ := recRead_fwd hq
      have h7 := run_recPut c2 l2 (by have := (may_zero.1 g1).2.2; simp at this; unfold BIG; omega)
      simp only at g1 g2
      rw [if_pos g1, g2] at h7
      rw [hq] at h5
      simp -implicitDefEqProofs [code_law24_RecordBack, run_alive24, h1, h3, h5, h6, h7, hm, g1]

/-! ### what the parameters' types are -/
theorem typ_byte {P : Program} {t : TypeId} {x : List D} (h : Typed P t x) (hu : P.underlying t = some (.int .u8)) : ∃ c : UInt8, x = byC c := by
  obtain ⟨n, rfl, hw⟩ := typ_int h hu
  have h2 : ((toB n).toNat : Int) = n := by
    simp only [Lit.wf, Bool.and_eq_true, decide_eq_true_eq] at hw
    have e1 : IntKind.u8.min = 0 := by decide
    have e2 : IntKind.u8.max = 255 := by decide
    exact toB_toNat n (by omega) (by omega)
  exact ⟨toB n, by simp only [byC, h2]⟩
theorem typ_bytes {P : Program} {t e : TypeId} (hu : P.underlying t = some (.slice e)) (h1 : P.underlying e = some (.int .u8)) (x : List D) (h : Typed P t x) : ∃ b : Txt, x = [.vs false (b.map byC)] := by
  obtain ⟨es, rfl, hes⟩ := typ_slice h hu
  obtain ⟨b, rfl⟩ := mem_map_all byC fun c hc => typ_byte (hes c hc) h1
  exact ⟨b, rfl⟩
theorem typ_vd {P : Program} {t : TypeId} {fs : Array Field} (hu : P.underlying t = some (.struct fs)) {i1 i2 i3 : TypeId} (hfs : fs.toList.map (·.type) = [i1, i2, i3])
    (h1 : P.underlying i1 = some (.int .i64)) (h2 : P.underlying i2 = some (.int .i64)) (h3 : P.underlying i3 = some (.int .i64)) (x : List D) (h : Typed P t x) : ∃ v : Vd, x = vdC v := by
  obtain ⟨parts, rfl, hp⟩ := typ_fields h hu hfs
  obtain ⟨a, r, rfl, ha, hp⟩ := tall_cons hp
  obtain ⟨b, r, rfl, hb, hp⟩ := tall_cons hp
  obtain ⟨c, r, rfl, hc, hp⟩ := tall_cons hp
  cases tall_nil hp
  obtain ⟨m1, rfl, _⟩ := typ_int ha h1
  obtain ⟨m2, rfl, _⟩ := typ_int hb h2
  obtain ⟨m3, rfl, _⟩ := typ_int hc h3
  exact ⟨⟨m1, m2, m3⟩, rfl⟩
theorem typ_rec {P : Program} {t l v : TypeId} {fs gs : Array Field} (hu : P.underlying t = some (.struct fs)) (hul : P.underlying l = some (.slice v)) (huv : P.underlying v = some (.struct gs)) {i1 j1 j2 j3 : TypeId} (hfs : fs.toList.map (·.type) = [i1, l]) (hgs : gs.toList.map (·.type) = [j1, j2, j3])
    (h1 : P.underlying i1 = some (.int .i64)) (g1 : P.underlying j1 = some (.int .i64)) (g2 : P.underlying j2 = some (.int .i64)) (g3 : P.underlying j3 = some (.int .i64)) (x : List D) (h : Typed P t x) : ∃ r : Int × List Vd, x = reC r := by
  obtain ⟨parts, rfl, hp⟩ := typ_fields h hu hfs
  obtain ⟨a, r, rfl, ha, hp⟩ := tall_cons hp
  obtain ⟨b, r, rfl, hb, hp⟩ := tall_cons hp
  cases tall_nil hp
  obtain ⟨m1, rfl, _⟩ := typ_int ha h1
  obtain ⟨es, rfl, hes⟩ := typ_slice hb hul
  obtain ⟨q, rfl⟩ := mem_map_all vdC fun c hc => typ_vd huv hgs g1 g2 g3 c (hes c hc)
  exact ⟨(m1, q), rfl⟩
end Bz.S
