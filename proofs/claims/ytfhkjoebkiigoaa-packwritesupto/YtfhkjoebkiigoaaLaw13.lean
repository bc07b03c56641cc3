/- Layer 13's laws, walked. -/
import Derived.Test.YtfhkjoebkiigoaaTab5
import Derived.KernelRfl
set_option linter.unusedSimpArgs false
set_option linter.unusedVariables false
namespace Bz.S
open Go Bz
set_option maxRecDepth 10000
set_option maxHeartbeats 4000000

theorem tab_small {e : Ex} (hz : astCheck e = 0) : bulkLL ((tabE e).map rwC) ≤ 1048576 := by
  have hm := (check_ok.1 hz).2.2
  have h64 := (check_ok.1 hz).2.1
  unfold tabE
  rw [if_pos hz]
  have key : ∀ r ∈ rowsE e 0, rwN r ≤ 450 := by
    refine rowsE_row (p := fun r => rwN r ≤ 450) (fun e k4 hm => ?_) (fun e f k4 hm => ?_) e hm 0
    · have hs := size_bound e hm
      have hsz := size_eq e
      unfold innerK at hsz
      rw [if_pos k4] at hsz
      simp only [sizes] at hsz
      have hN := exN_eq e
      have hk : ∀ l : List Ex, bulkLL ((l.map Ex.name).map sxC) ≤ exNs l := by
        intro l
        induction l with
        | nil => simp [exNs_nil, bulkLL]
        | cons k r ih =>
          have := exN_eq k
          rw [exNs_cons]
          simp only [List.map_cons, bulkLL, sxC, bulkL, bulkD]
          omega
      have := hk e.kids
      simp only [rwN, rwC, ownRow, k4, if_true, bulkL, bulkD, List.map_nil, bulkLL]
      omega
    · have hs := size_bound e hm
      rw [may_eq, if_neg k4, Bool.and_eq_true, Bool.and_eq_true] at hm
      have hal : astKids e.kind = e.kids.length := by simpa using hm.1.1
      have h2 : astKids e.kind ≤ 2 := by
        unfold astKids
        repeat' split
        all_goals omega
      have hname : e.name.length ≤ 32 := by
        have ho := hm.1.2
        unfold ownOK at ho
        have hp : plainB e.name = true → e.name.length ≤ 32 := fun h => by
          unfold plainB at h; simp only [Bool.and_eq_true, decide_eq_true_eq] at h; exact h.1
        have hn : nameB e.name = true → e.name.length ≤ 32 := fun h => by
          unfold nameB at h
          split at h
          · cases h
          · rename_i hs
            simp only [Bool.and_eq_true, decide_eq_true_eq] at h
            omega
        have h0 : e.name = [] → e.name.length ≤ 32 := fun h => by rw [h]; simp
        repeat' split at ho
        all_goals
          simp only [Bool.and_eq_true, decide_eq_true_eq] at ho
          first
            | exact h0 ho.1.1.1
            | exact h0 ho.1.1
            | exact hp ho.1.1.1
            | exact hn ho.1.1.1
      have hi : ∀ l : List Int, bulkLL (l.map i6C) ≤ 2 * l.length := by
        intro l
        induction l with
        | nil => simp [bulkLL]
        | cons k r ih => simp only [List.map_cons, bulkLL, i6C, bulkL, bulkD, List.length_cons]; omega
      have hi2 := hi (rowsEs e.kids f).2
      rw [rowsEs_kids_len] at hi2
      simp only [rwN, rwC, ownRow, k4, if_false, bulkL, bulkD, List.map_nil, bulkLL]
      omega
  have hl : ∀ l : List Rw, (∀ r ∈ l, rwN r ≤ 450) → bulkLL (l.map rwC) ≤ 500 * l.length := by
    intro l
    induction l with
    | nil => intro _; simp [bulkLL]
    | cons r q ih =>
      intro h
      have h1 := ih fun r hr => h r (by simp [hr])
      have h2 := h r (by simp)
      unfold rwN at h2
      simp only [List.map_cons, bulkLL, List.length_cons]
      omega
  have := hl (rowsE e 0) key
  rw [rows_len] at this
  omega

theorem typ_rw {P : Program} {t l m st si : TypeId} {fs : Array Field} (hu : P.underlying t = some (.struct fs)) (hul : P.underlying l = some (.slice st)) (hum : P.underlying m = some (.slice si)) {i1 s i2 i3 i4 : TypeId} (hfs : fs.toList.map (·.type) = [i1, s, i2, i3, i4, l, m])
    (h1 : P.underlying i1 = some (.int .i64)) (h2 : P.underlying s = some .string) (h3 : P.underlying i2 = some (.int .i64)) (h4 : P.underlying i3 = some (.int .i64)) (h5 : P.underlying i4 = some (.int .i64)) (h6 : P.underlying st = some .string) (h7 : P.underlying si = some (.int .i64))
    (x : List D) (h : Typed P t x) : ∃ r : Rw, x = rwC r := by
  obtain ⟨parts, rfl, hp⟩ := typ_fields h hu hfs
  obtain ⟨a, r, rfl, ha, hp⟩ := tall_cons hp
  obtain ⟨b, r, rfl, hb, hp⟩ := tall_cons hp
  obtain ⟨c, r, rfl, hc, hp⟩ := tall_cons hp
  obtain ⟨d, r, rfl, hd, hp⟩ := tall_cons hp
  obtain ⟨e, r, rfl, he, hp⟩ := tall_cons hp
  obtain ⟨f, r, rfl, hf, hp⟩ := tall_cons hp
  obtain ⟨g, r, rfl, hg, hp⟩ := tall_cons hp
  cases tall_nil hp
  obtain ⟨m1, rfl, _⟩ := typ_int ha h1
  obtain ⟨m2, rfl⟩ := typ_str hb h2
  obtain ⟨m3, rfl, _⟩ := typ_int hc h3
  obtain ⟨m4, rfl, _⟩ := typ_int hd h4
  obtain ⟨m5, rfl, _⟩ := typ_int he h5
  obtain ⟨es, rfl, hes⟩ := typ_slice hf hul
  obtain ⟨m6, rfl⟩ := mem_map_all sxC (es := es) fun c hc => typ_str (hes c hc) h6
  obtain ⟨es2, rfl, hes2⟩ := typ_slice hg hum
  obtain ⟨m7, rfl⟩ := mem_map_all i6C (es := es2) fun c hc => by
    obtain ⟨n, rfl, _⟩ := typ_int (hes2 c hc) h7
    exact ⟨n, rfl⟩
  exact ⟨⟨m1, m2, m3, m4, m5, m6, m7⟩, rfl⟩
theorem typ_rws {P : Program} {q t l m st si : TypeId} {fs : Array Field} (hq : P.underlying q = some (.slice t)) (hu : P.underlying t = some (.struct fs)) (hul : P.underlying l = some (.slice st)) (hum : P.underlying m = some (.slice si)) {i1 s i2 i3 i4 : TypeId} (hfs : fs.toList.map (·.type) = [i1, s, i2, i3, i4, l, m])
    (h1 : P.underlying i1 = some (.int .i64)) (h2 : P.underlying s = some .string) (h3 : P.underlying i2 = some (.int .i64)) (h4 : P.underlying i3 = some (.int .i64)) (h5 : P.underlying i4 = some (.int .i64)) (h6 : P.underlying st = some .string) (h7 : P.underlying si = some (.int .i64))
    (x : List D) (h : Typed P q x) : ∃ r : List Rw, x = [.vs false (r.map rwC)] := by
  obtain ⟨es, rfl, hes⟩ := typ_slice h hq
  obtain ⟨m, rfl⟩ := mem_map_all rwC (es := es) fun c hc => typ_rw hu hul hum hfs h1 h2 h3 h4 h5 h6 h7 c (hes c hc)
  exact ⟨m, rfl⟩
end Bz.S
