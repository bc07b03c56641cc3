/- What inputs are: values of attributes. -/
import Derived.Test.YtpopnggdnkfemaaTypM
import Derived.Test.YtpopnggdnkfemaaVal
set_option linter.unusedSimpArgs false
set_option linter.unusedVariables false
namespace Bz.S
open Go Bz

theorem st_bulk (l : List Txt) : l.length ≤ bulkLL (l.map stC) ∧ ∀ t ∈ l, t.length ≤ bulkLL (l.map stC) := by
  induction l with
  | nil => simp
  | cons t r ih =>
    simp only [List.map_cons, List.length_cons, bulkLL, stC, bulkL, bulkD]
    refine ⟨by omega, fun u hu => ?_⟩
    rcases List.mem_cons.1 hu with rfl | hu
    · omega
    · have := ih.2 u hu; omega
theorem vaOK_bulk {v : Va} (h : bulkL (vaC v) ≤ 1048576) : VaOK v := by
  have h1 := st_bulk v.l
  simp only [vaC, bulkL, bulkD] at h
  exact ⟨by unfold LIM; omega, by unfold BIG; omega, fun t ht => by have := h1.2 t ht; unfold LIM; omega⟩
theorem typ_va {P : Program} {t l st : TypeId} {fs : Array Field} (hu : P.underlying t = some (.struct fs)) (hul : P.underlying l = some (.slice st)) {i1 i2 s : TypeId} (hfs : fs.toList.map (·.type) = [i1, i2, s, l])
    (h1 : P.underlying i1 = some (.int .i64)) (h2 : P.underlying i2 = some (.int .i64)) (h3 : P.underlying s = some .string) (h4 : P.underlying st = some .string) (x : List D) (h : Typed P t x) : ∃ v : Va, x = vaC v := by
  obtain ⟨parts, rfl, hp⟩ := typ_fields h hu hfs
  obtain ⟨a, r, rfl, ha, hp⟩ := tall_cons hp
  obtain ⟨b, r, rfl, hb, hp⟩ := tall_cons hp
  obtain ⟨c, r, rfl, hc, hp⟩ := tall_cons hp
  obtain ⟨d, r, rfl, hd, hp⟩ := tall_cons hp
  cases tall_nil hp
  obtain ⟨m1, rfl, _⟩ := typ_int ha h1
  obtain ⟨m2, rfl, _⟩ := typ_int hb h2
  obtain ⟨m3, rfl⟩ := typ_str hc h3
  obtain ⟨es, rfl, hes⟩ := typ_slice hd hul
  obtain ⟨q, rfl⟩ := mem_map_all stC (es := es) fun c hc => typ_str (hes c hc) h4
  exact ⟨⟨m1, m2, m3, q⟩, rfl⟩
theorem i64_lo {n : Int} (h : (Lit.int .i64 n).wf = true) : -9223372036854775808 ≤ n ∧ n < 9223372036854775808 := by
  simp only [Lit.wf, Bool.and_eq_true, decide_eq_true_eq, IntKind.min, IntKind.max, IntKind.signed, IntKind.bits] at h
  simp at h
  omega
theorem typ_vaW {P : Program} {t l st : TypeId} {fs : Array Field} (hu : P.underlying t = some (.struct fs)) (hul : P.underlying l = some (.slice st)) {i1 i2 s : TypeId} (hfs : fs.toList.map (·.type) = [i1, i2, s, l])
    (h1 : P.underlying i1 = some (.int .i64)) (h2 : P.underlying i2 = some (.int .i64)) (h3 : P.underlying s = some .string) (h4 : P.underlying st = some .string) (x : List D) (h : Typed P t x) : ∃ v : Va, x = vaC v ∧ (-9223372036854775808 ≤ v.n ∧ v.n < 9223372036854775808) := by
  obtain ⟨parts, rfl, hp⟩ := typ_fields h hu hfs
  obtain ⟨a, r, rfl, ha, hp⟩ := tall_cons hp
  obtain ⟨b, r, rfl, hb, hp⟩ := tall_cons hp
  obtain ⟨c, r, rfl, hc, hp⟩ := tall_cons hp
  obtain ⟨d, r, rfl, hd, hp⟩ := tall_cons hp
  cases tall_nil hp
  obtain ⟨m1, rfl, _⟩ := typ_int ha h1
  obtain ⟨m2, rfl, w2⟩ := typ_int hb h2
  obtain ⟨m3, rfl⟩ := typ_str hc h3
  obtain ⟨es, rfl, hes⟩ := typ_slice hd hul
  obtain ⟨q, rfl⟩ := mem_map_all stC (es := es) fun c hc => typ_str (hes c hc) h4
  exact ⟨⟨m1, m2, m3, q⟩, rfl, i64_lo w2⟩
theorem typ_txs {P : Program} {t e : TypeId} (hu : P.underlying t = some (.slice e)) (he : P.underlying e = some .string) (x : List D) (h : Typed P t x) : ∃ l : List Txt, x = [.vs false (l.map stC)] := by
  obtain ⟨es, rfl, hes⟩ := typ_slice h hu
  obtain ⟨q, rfl⟩ := mem_map_all stC (es := es) fun c hc => typ_str (hes c hc) he
  exact ⟨q, rfl⟩
end Bz.S
