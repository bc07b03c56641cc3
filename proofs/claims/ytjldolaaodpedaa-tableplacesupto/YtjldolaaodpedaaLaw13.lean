/- Layer 13's laws, walked. -/
import Derived.Test.YtjldolaaodpedaaTab5
import Derived.KernelRfl
set_option linter.unusedSimpArgs false
set_option linter.unusedVariables false
namespace Bz.S
open Go Bz
set_option maxRecDepth 10000
set_option maxHeartbeats 4000000

theorem run_alive13 : R F_law13_alive [] [] = some (.d (.bool true), []) :=
  RUN_run own retOwn ext code (k := 60) (by kernel_rfl)

theorem run_TableTells (e : Ex) (hb0 : bulkL (exC e) ≤ 1048576) : R F_law13_TableTells [exA e] [] = some (.d (.bool true), []) := by
  refine R_of at_law13_TableTells (by decide) ?_
  have hb : exN e ≤ BIG := by unfold exN BIG; omega
  have h1 := run_tabOf e hb
  have h2 := run_refCheck e hb
  by_cases hz : astCheck e = 0
  · have hlen : (tabE e).length ≤ BIG := by unfold tabE; rw [if_pos hz, rows_len]; have := (check_ok.1 hz).2.1; unfold BIG; omega
    have h3 := run_rows13 (tabE e) hlen
    have h4 := run_13Of e hb 0 (by have := (check_ok.1 hz).2.1; unfold BIG; omega)
    have h5 := run_Same13 (tabE e) (tabE e) hlen hlen (rows_OK hz) (rows_OK hz)
    have h6 : rowsE e 0 = tabE e := by unfold tabE; rw [if_pos hz]
    rw [h6] at h4
    rw [hz] at h2
    generalize tabE e = Q at *
    simp -implicitDefEqProofs at h4 h5
    simp -implicitDefEqProofs [code_law13_TableTells, run_alive13, h1, h2, h3, h4, h5]
  · have h6 : tabE e = [] := by unfold tabE; rw [if_neg hz]
    rw [h6] at h1
    have h3 := run_rows13 [] (by simp [BIG])
    simp -implicitDefEqProofs [rwS] at h1 h3
    simp -implicitDefEqProofs [code_law13_TableTells, run_alive13, h1, h2, h3, hz]

theorem tab_small {e : Ex} (hz : astCheck e = 0) : bulkLL ((tabE e).map rwC) ≤ 1048576 := by
  have hm := (check_ok.1 hz).2.2
  have h64 := (check_ok.1 hz).2.1
  unfold tabE
  rw [if_pos hz]
  have key : ∀ r ∈ rowsE e 0, rwN r ≤ 450 := by
    refine rowsE_row (p := fun r => rwN r ≤ 450) (fun e k4 hm => ?_) (fun e f k4 hm => ?_) e hm 0
    · have hs := size_bound e hm
      have hsz := size_eq e
      unfold innerK at hsz
      rw [if_pos k4] at hsz
      simp only [sizes] at hsz
      have hN := exN_eq e
      have hk : ∀ l : List Ex, bulkLL ((l.map Ex.name).map sxC) ≤ exNs l := by
        intro l
        induction l with
        | nil => simp [exNs_nil, bulkLL]
        | cons k r ih =>
          have := exN_eq k
          rw [exNs_cons]
          simp only [List.map_cons, bulkLL, sxC, bulkL, bulkD]
          omega
      have := hk e.kids
      simp only [rwN, rwC, ownRow, k4, if_true, bulkL, bulkD, List.map_nil, bulkLL]
      omega
    · have hs := size_bound e hm
      rw [may_eq, if_neg k4, Bool.and_eq_true, Bool.and_eq_true] at hm
      have hal : astKids e.kind = e.kids.length := by simpa using hm.1.1
      have h2 : astKids e.kind ≤ 2 := by
        unfold astKids
        repeat' split
        all_goals omega
      have hname : e.name.length ≤ 32 := by
        have ho := hm.1.2
        unfold ownOK at ho
        have hp : plainB e.name = true → e.name.length ≤ 32 := fun h => by
          unfold plainB at h; simp only [Bool.and_eq_true, decide_eq_true_eq] at h; exact h.1
        have hn : nameB e.name = true → e.name.length ≤ 32 := fun h => by
          unfold nameB at h
          split at h
          · cases h
          · rename_i hs
            simp only [Bool.and_eq_true, decide_eq_true_eq] at h
            omega
        have h0 : e.name = [] → e.name.length ≤ 32 := fun h => by rw [h]; simp
        repeat' split at ho
        all_goals
          simp only [Bool.and_eq_true, decide_eq_true_eq] at ho
          first
            | exact h0 ho.1.1.1
            | exact h0 ho.1.1
            | exact hp ho.1.1.1
            | exact hn ho.1.1.1
      have hi : ∀ l : List Int, bulkLL (l.map i6C) ≤ 2 * l.length := by
        intro l
        induction l with
        | nil => simp [bulkLL]
        | cons k r ih => simp only [List.map_cons, bulkLL, i6C, bulkL, bulkD, List.length_cons]; omega
      have hi2 := hi (rowsEs e.kids f).2
      rw [rowsEs_kids_len] at hi2
      simp only [rwN, rwC, ownRow, k4, if_false, bulkL, bulkD, List.map_nil, bulkLL]
      omega
  have hl : ∀ l : List Rw, (∀ r ∈ l, rwN r ≤ 450) → bulkLL (l.map rwC) ≤ 500 * l.length := by
    intro l
    induction l with
    | nil => intro _; simp [bulkLL]
    | cons r q ih =>
      intro h
      have h1 := ih fun r hr => h r (by simp [hr])
      have h2 := h r (by simp)
      unfold rwN at h2
      simp only [List.map_cons, bulkLL, List.length_cons]
      omega
  have := hl (rowsE e 0) key
  rw [rows_len] at this
  omega

theorem run_TableBack (e : Ex) (hb0 : bulkL (exC e) ≤ 1048576) : R F_law13_TableBack [exA e] [] = some (.d (.bool true), []) := by
  refine R_of at_law13_TableBack (by decide) ?_
  have hb : exN e ≤ BIG := by unfold exN BIG; omega
  have h1 := run_tabOf e hb
  have h2 := run_refCheck e hb
  by_cases hz : astCheck e = 0
  · have h3 := run_tabBack (tabE e) (tabB (tab_small hz))
    have h6 : tabBack (tabE e) = (e, 0) := by unfold tabE; rw [if_pos hz]; exact tabBack_rows hz
    rw [h6] at h3
    rw [hz] at h2
    have h7 := run_plExpr e hb
    generalize tabE e = Q at *
    simp -implicitDefEqProofs [code_law13_TableBack, run_alive13, h1, h2, h3, h7]
  · simp -implicitDefEqProofs [code_law13_TableBack, run_alive13, h2, hz]

theorem run_TableRefuses (l : List Rw) (hb0 : bulkL [.vs false (l.map rwC)] ≤ 1048576) : R F_law13_TableRefuses [rwS l] [] = some (.d (.bool true), []) := by
  refine R_of at_law13_TableRefuses (by decide) ?_
  have hb : bulkLL (l.map rwC) ≤ 1048576 := by simp only [bulkL, bulkD] at hb0; omega
  have hT := tabB hb
  have h1 := run_rows13 l hT.n
  have h2 := run_refBack l hb
  have h3 := run_tabBack l hT
  have h4 := run_tabCheck l hT
  rw [tab_ref] at h3 h4
  cases hr : refBack l with
  | none =>
    rw [hr] at h2 h3 h4
    have h5 := run_plExpr ex0 (by rw [exN_eq]; simp [ex0, Ex.name, Ex.kids, exNs_nil, BIG])
    simp -implicitDefEqProofs [exA, ex0, Ex.kind, Ex.name, Ex.n, Ex.lo, Ex.hi, Ex.kids] at h2 h3 h4 h5
    simp -implicitDefEqProofs [code_law13_TableRefuses, run_alive13, h1, h2, h3, h4, h5]
  | some e =>
    obtain ⟨hz, hrow⟩ := refBack_ok hr
    have heb := check_bound hz
    rw [hr] at h2 h3 h4
    have h5 := run_plExpr e (by unfold BIG; omega)
    have h6 := run_tabOf e (by unfold BIG; omega)
    have h7 : tabE e = l := by unfold tabE; rw [if_pos hz]; exact hrow
    rw [h7] at h6
    have h8 := run_Same13 l l hT.n hT.n hT.r hT.r
    simp -implicitDefEqProofs at h2 h8
    simp -implicitDefEqProofs at h3 h4
    simp -implicitDefEqProofs [code_law13_TableRefuses, run_alive13, h1, h2, h3, h4, h5, h6, h8]

theorem typ_rw {P : Program} {t l m st si : TypeId} {fs : Array Field} (hu : P.underlying t = some (.struct fs)) (hul : P.underlying l = some (.slice st)) (hum : P.underlying m = some (.slice si)) {i1 s i2 i3 i4 : TypeId} (hfs : fs.toList.map (·.type) = [i1, s, i2, i3, i4, l, m])
    (h1 : P.underlying i1 = some (.int .i64)) (h2 : P.underlying s = some .string) (h3 : P.underlying i2 = some (.int .i64)) (h4 : P.underlying i3 = some (.int .i64)) (h5 : P.underlying i4 = some (.int .i64)) (h6 : P.underlying st = some .string) (h7 : P.underlying si = some (.int .i64))
    (x : List D) (h : Typed P t x) : ∃ r : Rw, x = rwC r := by
  obtain ⟨parts, rfl, hp⟩ := typ_fields h hu hfs
  obtain ⟨a, r, rfl, ha, hp⟩ := tall_cons hp
  obtain ⟨b, r, rfl, hb, hp⟩ := tall_cons hp
  obtain ⟨c, r, rfl, hc, hp⟩ := tall_cons hp
  obtain ⟨d, r, rfl, hd, hp⟩ := tall_cons hp
  obtain ⟨e, r, rfl, he, hp⟩ := tall_cons hp
  obtain ⟨f, r, rfl, hf, hp⟩ := tall_cons hp
  obtain ⟨g, r, rfl, hg, hp⟩ := tall_cons hp
  cases tall_nil hp
  obtain ⟨m1, rfl, _⟩ := typ_int ha h1
  obtain ⟨m2, rfl⟩ := typ_str hb h2
  obtain ⟨m3, rfl, _⟩ := typ_int hc h3
  obtain ⟨m4, rfl, _⟩ := typ_int hd h4
  obtain ⟨m5, rfl, _⟩ := typ_int he h5
  obtain ⟨es, rfl, hes⟩ := typ_slice hf hul
  obtain ⟨m6, rfl⟩ := mem_map_all sxC (es := es) fun c hc => typ_str (hes c hc) h6
  obtain ⟨es2, rfl, hes2⟩ := typ_slice hg hum
  obtain ⟨m7, rfl⟩ := mem_map_all i6C (es := es2) fun c hc => by
    obtain ⟨n, rfl, _⟩ := typ_int (hes2 c hc) h7
    exact ⟨n, rfl⟩
  exact ⟨⟨m1, m2, m3, m4, m5, m6, m7⟩, rfl⟩
theorem typ_rws {P : Program} {q t l m st si : TypeId} {fs : Array Field} (hq : P.underlying q = some (.slice t)) (hu : P.underlying t = some (.struct fs)) (hul : P.underlying l = some (.slice st)) (hum : P.underlying m = some (.slice si)) {i1 s i2 i3 i4 : TypeId} (hfs : fs.toList.map (·.type) = [i1, s, i2, i3, i4, l, m])
    (h1 : P.underlying i1 = some (.int .i64)) (h2 : P.underlying s = some .string) (h3 : P.underlying i2 = some (.int .i64)) (h4 : P.underlying i3 = some (.int .i64)) (h5 : P.underlying i4 = some (.int .i64)) (h6 : P.underlying st = some .string) (h7 : P.underlying si = some (.int .i64))
    (x : List D) (h : Typed P q x) : ∃ r : List Rw, x = [.vs false (r.map rwC)] := by
  obtain ⟨es, rfl, hes⟩ := typ_slice h hq
  obtain ⟨m, rfl⟩ := mem_map_all rwC (es := es) fun c hc => typ_rw hu hul hum hfs h1 h2 h3 h4 h5 h6 h7 c (hes c hc)
  exact ⟨m, rfl⟩
end Bz.S
