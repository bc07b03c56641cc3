/- Layer 4's laws, walked. -/
import Derived.Test.YtibbjppkopcakaaOct4
import Derived.Test.YtibbjppkopcakaaTypV
import Derived.KernelRfl
set_option linter.unusedSimpArgs false
set_option linter.unusedVariables false
namespace Bz.S
open Go Bz
set_option maxRecDepth 10000
set_option maxHeartbeats 4000000

/-- the law's Op -/
structure Op4 where
  kind : Int
  n : Int
  i : Int
  s : Txt
  v : Va
def opC (o : Op4) : List D := [.int .i64 o.kind, .int .i64 o.n, .int .i64 o.i, .str o.s, .int .i64 o.v.kind, .int .i64 o.v.n, .str o.v.s, .vs false (o.v.l.map stC)]
@[simp] theorem opC_eq (o : Op4) : opC o = [.int .i64 o.kind, .int .i64 o.n, .int .i64 o.i, .str o.s, .int .i64 o.v.kind, .int .i64 o.v.n, .str o.v.s, .vs false (o.v.l.map stC)] := rfl
@[simp] theorem sized_op (l : List Op4) : sized 8 (l.map opC) = true := sized_map 8 opC (fun _ => rfl) l
abbrev opS (l : List Op4) : AV := .d (.vs false (l.map opC))
abbrev opA (o : Op4) : AV := .agg [.d (.int .i64 o.kind), .d (.int .i64 o.n), .d (.int .i64 o.i), .d (.str o.s), .d (.int .i64 o.v.kind), .d (.int .i64 o.v.n), .d (.str o.v.s), txS o.v.l]

structure OpOK (o : Op4) : Prop where
  s : o.s.length ≤ BIG
  v : VaOK o.v

/-! ### one of them -/
def opE (o : Op4) : Int := if o.kind = 1 then (if o.n < 0 ∨ 255 < o.n then 4 else 0) else if o.kind = 2 then 0 else if o.kind = 3 then (if 255 < o.s.length then 5 else 0) else vaCheck o.v
def opB (o : Op4) : Txt := if o.kind = 1 then [toB o.n] else if o.kind = 2 then n8 o.i else if o.kind = 3 then txB o.s else vaB o.v
def owStep (w : Ow) (o : Op4) : Ow := if w.e = 0 then (if opE o = 0 then ⟨w.b ++ opB o, 0⟩ else ⟨w.b, opE o⟩) else w

theorem run_one (o : Op4) (ho : OpOK o) : R F_law04_one [opA o] [] = some (.tup [byS (if opE o = 0 then opB o else []), .d (.int .i64 (opE o))], []) := by
  refine R_of at_law04_one (by decide) ?_
  obtain ⟨kd, n, i, s, v⟩ := o
  have hv := ho.v
  have hs := ho.s
  simp only at hv hs
  have hsl := big_lim hs
  by_cases k1 : kd = 1
  · subst k1
    by_cases a : n < 0
    · simp -implicitDefEqProofs [code_law04_one, opE, opB, a]
    · by_cases b : 255 < n
      · simp -implicitDefEqProofs [code_law04_one, opE, opB, a, b]
      · simp -implicitDefEqProofs [code_law04_one, opE, opB, a, b]
  · by_cases k2 : kd = 2
    · subst k2
      have h := run_04Int i
      simp -implicitDefEqProofs [code_law04_one, opE, opB, h]
    · by_cases k3 : kd = 3
      · subst k3
        have h := run_04Text s (by unfold BIG at hs; unfold LIM; omega)
        by_cases a : 255 < s.length
        · have a' : (255 : Int) < s.length := by omega
          simp -implicitDefEqProofs [code_law04_one, opE, opB, h, hsl, a, a']
        · have a' : ¬ (255 : Int) < s.length := by omega
          simp -implicitDefEqProofs [code_law04_one, opE, opB, h, hsl, a, a']
      · have hc := run_02Check v hv
        by_cases hz : vaCheck v = 0
        · have hg := va_good hz
          have h := run_04Value v hg
          rw [hz] at hc
          simp -implicitDefEqProofs [code_law04_one, opE, opB, k1, k2, k3, hc, h, hz]
        · simp -implicitDefEqProofs [code_law04_one, opE, opB, k1, k2, k3, hc, hz]

/-! ### all of them -/
theorem flat_len : ∀ (m : List Txt), (∀ t ∈ m, t.length ≤ 32) → (m.flatMap txB).length ≤ 33 * m.length
  | [], _ => by simp
  | t :: r, h => by
    have h1 := flat_len r fun t ht => h t (by simp [ht])
    have h2 := h t (by simp)
    simp only [List.flatMap_cons, List.length_append, txB, List.length_cons] at h1 ⊢
    omega
theorem vaB_len {v : Va} (h : VaGood v) : (vaB v).length ≤ 300 := by
  have h1 := flat_len v.l h.ls
  have h2 := h.l
  have h3 := h.s
  unfold vaB
  have hn : (n8 v.n).length = 8 := rfl
  split
  · simp [hn]
  · split
    · simp
    · split
      · simp [txB]; omega
      · split
        · simp; simp at h1; omega
        · simp
theorem opB_len {o : Op4} (h : opE o = 0) : (opB o).length ≤ 300 := by
  unfold opE at h
  unfold opB
  have hn : (n8 o.i).length = 8 := rfl
  split
  · simp
  · rename_i k1
    rw [if_neg k1] at h
    split
    · simp [hn]
    · rename_i k2
      rw [if_neg k2] at h
      split
      · rename_i k3
        rw [if_pos k3] at h
        split at h
        · cases h
        · simp [txB]; omega
      · rename_i k3
        rw [if_neg k3] at h
        exact vaB_len (va_good h)
theorem owStep_len (w : Ow) (o : Op4) : (owStep w o).b.length ≤ w.b.length + 300 := by
  unfold owStep
  split
  · split
    · rename_i h; have := opB_len h; simp; omega
    · simp
  · omega

theorem ow_byte (w : Ow) (o : Op4) (h : o.kind = 1) : owByte w o.n = owStep w o := by
  unfold owByte owStep opE opB
  rw [if_pos h, if_pos h]
  by_cases a : o.n < 0 ∨ 255 < o.n
  · simp [a]
  · simp [a]
theorem ow_int (w : Ow) (o : Op4) (h : o.kind = 2) : owInt w o.i = owStep w o := by
  unfold owInt owStep opE opB
  simp [h]
theorem ow_text (w : Ow) (o : Op4) (h : o.kind = 3) : owText w o.s = owStep w o := by
  unfold owText owStep opE opB
  simp only [h]
  by_cases a : 255 < o.s.length
  · simp [a]
  · simp [a]
theorem ow_value (w : Ow) (o : Op4) (h1 : ¬ o.kind = 1) (h2 : ¬ o.kind = 2) (h3 : ¬ o.kind = 3) : owValue w o.v = owStep w o := by
  unfold owValue owStep opE opB
  simp only [h1, h2, h3, if_false]

theorem run_put (l : List Op4) (hl : l.length ≤ 1048576) (ho : ∀ o ∈ l, OpOK o) : R F_law04_put [opS l] [] = some (.tup [byS (owDone (l.foldl owStep ⟨[], 0⟩)).1, .d (.int .i64 (owDone (l.foldl owStep ⟨[], 0⟩)).2)], []) := by
  refine R_of at_law04_put (by decide) ?_
  have hL := loop_fold (X := X) (mask := mask_law04_put_0) (body := body_law04_put_0) l
    (fun i (w : Ow) => ⟨mkE 64 [(0, opS l), (4, .pv 20010 0), (5, .d (.int .i64 i))], [(20010, .var [.os 22001000 w.b.length 0 w.b.length, .d (.int .i64 w.e)]), (22001000, .arr 1 (w.b.map byC))]⟩)
    (fun i w => w.b.length ≤ 300 * i) (fun _ w o => owStep w o)
    (fun w => (.exit 0, ⟨mkE 64 [(4, .pv 20010 0)], [(20010, .var [.os 22001000 w.b.length 0 w.b.length, .d (.int .i64 w.e)]), (22001000, .arr 1 (w.b.map byC))]⟩)) (by simp)
    (fun i w o hi hx hI => by
      have hw := wrap_ok (a := (i : Int) + 1) (by omega) (by omega)
      have hok := ho o (hx ▸ List.getElem_mem hi)
      have hsl := big_lim hok.s
      have hvl := hok.v
      have hstep := owStep_len w o
      refine ⟨by omega, ?_⟩
      have hwl : w.b.length + 1024 ≤ LIM := by unfold LIM; omega
      have e1 := ow_byte w o
      have e2 := ow_int w o
      have e3 := ow_text w o
      have e4 := ow_value w o
      have r1 := run_OutByte w o.n (by omega)
      have r2 := run_OutInt w o.i (by omega)
      have r3 := run_OutText w o.s hsl (by omega)
      have r4 := run_OutValue w o.v hvl hwl
      generalize owStep w o = w' at *
      obtain ⟨kd, n, i', s, v⟩ := o
      simp only at e1 e2 e3 e4 r1 r2 r3 r4
      by_cases k1 : kd = 1
      · rw [e1 k1] at r1
        subst k1
        simp -implicitDefEqProofs [owH] at r1
        simp -implicitDefEqProofs [body_law04_put_0, mask_law04_put_0, hi, hx, r1, hw]
      · by_cases k2 : kd = 2
        · rw [e2 k2] at r2
          subst k2
          simp -implicitDefEqProofs [owH] at r2
          simp -implicitDefEqProofs [body_law04_put_0, mask_law04_put_0, hi, hx, r2, hw]
        · by_cases k3 : kd = 3
          · rw [e3 k3] at r3
            subst k3
            simp -implicitDefEqProofs [owH] at r3
            simp -implicitDefEqProofs [body_law04_put_0, mask_law04_put_0, hi, hx, r3, hw]
          · rw [e4 k1 k2 k3] at r4
            simp -implicitDefEqProofs [owH] at r4
            simp -implicitDefEqProofs [body_law04_put_0, mask_law04_put_0, hi, hx, r4, hw, k1, k2, k3]) (fun w _ => by simp -implicitDefEqProofs [body_law04_put_0]) ⟨[], 0⟩ (by simp)
  have hfo : ∀ (l : List Op4) (i : Nat) (w : Ow), foldI (fun _ w o => owStep w o) l i w = l.foldl owStep w := by
    intro l
    induction l with
    | nil => intro i w; rfl
    | cons o r ih => intro i w; rw [foldI_cons, ih]; rfl
  have hlen : ∀ (l : List Op4) (w : Ow), (l.foldl owStep w).b.length ≤ w.b.length + 300 * l.length := by
    intro l
    induction l with
    | nil => intro w; simp
    | cons o r ih => intro w; have h1 := ih (owStep w o); have h2 := owStep_len w o; simp only [List.foldl_cons, List.length_cons]; omega
  have hW := hlen l ⟨[], 0⟩
  rw [hfo] at hL
  generalize l.foldl owStep ⟨[], 0⟩ = w at hL hW ⊢
  have hd := run_Done w (by simp at hW; unfold LIM; omega)
  obtain ⟨b, x⟩ := w
  simp -implicitDefEqProofs [owH] at hd
  simp -implicitDefEqProofs [code_law04_put]
  rw [hL _ (by simp -implicitDefEqProofs [mask_law04_put_0])]
  simp -implicitDefEqProofs [hd]

theorem fold_stay : ∀ (l : List Op4) (w : Ow), ¬ w.e = 0 → l.foldl owStep w = w
  | [], _, _ => rfl
  | o :: r, w, h => by
    have : owStep w o = w := by unfold owStep; rw [if_neg h]
    rw [List.foldl_cons, this, fold_stay r w h]
theorem fold_ok : ∀ (l : List Op4) (b : Txt), (∀ o ∈ l, opE o = 0) → l.foldl owStep ⟨b, 0⟩ = ⟨b ++ l.flatMap opB, 0⟩
  | [], b, _ => by simp
  | o :: r, b, h => by
    have : owStep ⟨b, 0⟩ o = ⟨b ++ opB o, 0⟩ := by unfold owStep; simp [h o (by simp)]
    rw [List.foldl_cons, this, fold_ok r _ fun o ho => h o (by simp [ho])]
    simp
theorem fold_bad {l : List Op4} {i : Nat} (hi : i < l.length) (h : ∀ o ∈ l.take i, opE o = 0) (hx : ¬ opE l[i] = 0) : owDone (l.foldl owStep ⟨[], 0⟩) = ([], opE l[i]) := by
  have e : l = l.take i ++ l[i] :: l.drop (i + 1) := by simp
  have h1 := fold_ok _ [] h
  have h2 : l.foldl owStep ⟨[], 0⟩ = ⟨(l.take i).flatMap opB, opE l[i]⟩ := by
    conv => lhs; rw [e]
    rw [List.foldl_append, h1, List.foldl_cons]
    have : owStep ⟨[] ++ (l.take i).flatMap opB, 0⟩ l[i] = ⟨(l.take i).flatMap opB, opE l[i]⟩ := by unfold owStep; simp [hx]
    rw [this, fold_stay _ _ hx]
  rw [h2]
  simp [owDone, hx]

theorem run_few (l : List Op4) (hl : l.length ≤ BIG) : R F_law04_few [opS l] [] = some (opS (l.take 60), []) := by
  refine R_of at_law04_few (by decide) ?_
  by_cases h : 60 < l.length
  · have h1 : (60 : Int) < l.length := by omega
    have h2 : (60 : Int) ≤ l.length := by omega
    simp -implicitDefEqProofs [code_law04_few, h1, h2]
  · have h1 : ¬ (60 : Int) < l.length := by omega
    rw [List.take_of_length_le (by omega)]
    simp -implicitDefEqProofs [code_law04_few, h1]

theorem run_alive04 : R F_law04_alive [] [] = some (.d (.bool true), []) :=
  RUN_run own retOwn ext code (k := 60) (by kernel_rfl)

theorem flat_opB : ∀ (l : List Op4), (∀ o ∈ l, opE o = 0) → (l.flatMap opB).length ≤ 300 * l.length
  | [], _ => by simp
  | o :: r, h => by
    have h1 := flat_opB r fun o ho => h o (by simp [ho])
    have h2 := opB_len (h o (by simp))
    simp only [List.flatMap_cons, List.length_append, List.length_cons] at h1 ⊢
    omega

theorem writes_ok (l : List Op4) (hl : l.length ≤ BIG) (ho : ∀ o ∈ l, OpOK o) : R F_law04_OctetWrites [opS l] [] = some (.d (.bool true), []) := by
  refine R_of at_law04_OctetWrites (by decide) ?_
  have hfew := run_few l hl
  have ho' : ∀ o ∈ l.take 60, OpOK o := fun o h => ho o (List.mem_of_mem_take h)
  have hl' : (l.take 60).length ≤ 60 := by simp; omega
  generalize l.take 60 = m at hfew ho' hl'
  have hp := run_put m (by omega) ho'
  have hL := loop_list (X := X) (mask := mask_law04_OctetWrites_0) (body := body_law04_OctetWrites_0) m
    (fun i (b : Txt) => ⟨mkE 61 [(0, opS m), (3, .os 10000030 b.length 0 b.length), (4, .d (.int .i64 i))], [(10000030, .arr 1 (b.map byC))]⟩)
    (fun i b => b = (m.take i).flatMap opB ∧ ∀ o ∈ m.take i, opE o = 0) (fun _ b o => if opE o = 0 then Sum.inl (b ++ opB o) else Sum.inr ())
    (fun b => (.exit 0, ⟨mkE 61 [(0, opS m), (3, .os 10000030 b.length 0 b.length)], [(10000030, .arr 1 (b.map byC))]⟩))
    (fun _ => (.ret, ⟨mkE 61 [(2, .d (.bool true))], []⟩)) (by simp) (by simp)
    (fun i b o hi hx hI => by
      have hw := wrap_ok (a := (i : Int) + 1) (by omega) (by omega)
      have h1 := run_one o (ho' o (hx ▸ List.getElem_mem hi))
      have ht : m.take (i + 1) = m.take i ++ [o] := by rw [List.take_succ_eq_append_getElem hi, hx]
      by_cases hz : opE o = 0
      · rw [hz] at h1
        simp only [if_true] at h1
        have hbl : b.length + (opB o).length ≤ LIM := by
          have h2 := opB_len hz
          have h3 := flat_opB _ hI.2
          rw [← hI.1] at h3
          simp at h3; unfold LIM; omega
        simp only [if_pos hz, Round_inl]
        refine ⟨⟨by rw [ht, hI.1]; simp, fun u hu => ?_⟩, ?_⟩
        · rw [ht, List.mem_append] at hu
          rcases hu with hu | hu
          · exact hI.2 u hu
          · have : u = o := by simpa using hu
            subst this; exact hz
        · simp -implicitDefEqProofs [body_law04_OctetWrites_0, mask_law04_OctetWrites_0, hi, hx, h1, hw, hbl]
      · rw [if_neg hz] at h1
        have hb := fold_bad hi hI.2 (by rw [hx]; exact hz)
        rw [hx] at hb
        rw [hb] at hp
        simp only [if_neg hz, Round_inr]
        simp -implicitDefEqProofs [body_law04_OctetWrites_0, mask_law04_OctetWrites_0, hi, hx, h1, hz, hp]) (fun b _ => by simp -implicitDefEqProofs [body_law04_OctetWrites_0]) [] (by simp)
  simp -implicitDefEqProofs [code_law04_OctetWrites, run_alive04, hfew]
  rw [hL _ (by simp -implicitDefEqProofs [mask_law04_OctetWrites_0])]
  have key : ∀ (l : List Op4) (i : Nat) (b c : Txt), foldS (fun (_ : Nat) (b : Txt) o => if opE o = 0 then Sum.inl (b ++ opB o) else Sum.inr ()) l i b = .inl c → c = b ++ l.flatMap opB ∧ ∀ o ∈ l, opE o = 0 := by
    intro l
    induction l with
    | nil => intro i b c h; cases h; simp
    | cons o r ih =>
      intro i b c h
      rw [foldS_cons] at h
      by_cases hz : opE o = 0
      · simp only [if_pos hz] at h
        obtain ⟨h1, h2⟩ := ih _ _ _ h
        refine ⟨by rw [h1]; simp, fun u hu => ?_⟩
        rcases List.mem_cons.1 hu with rfl | hu
        · exact hz
        · exact h2 u hu
      · simp only [if_neg hz] at h
        cases h
  cases hF : foldS (fun (_ : Nat) (b : Txt) o => if opE o = 0 then Sum.inl (b ++ opB o) else Sum.inr ()) m 0 [] with
  | inr u => simp -implicitDefEqProofs
  | inl c =>
    obtain ⟨h1, h2⟩ := key _ _ _ _ hF
    rw [List.nil_append] at h1
    rw [fold_ok m [] h2, List.nil_append, ← h1] at hp
    simp -implicitDefEqProofs [owDone] at hp
    simp -implicitDefEqProofs [hp]

/-! ### what the law's inputs are -/
theorem op_bulk (l : List Op4) : l.length ≤ bulkLL (l.map opC) ∧ ∀ o ∈ l, bulkL (opC o) ≤ bulkLL (l.map opC) := by
  induction l with
  | nil => simp
  | cons o r ih =>
    simp only [List.map_cons, List.length_cons, bulkLL]
    refine ⟨by have : 1 ≤ bulkL (opC o) := by { simp only [opC, bulkL, bulkD]; omega }
               omega, fun u hu => ?_⟩
    rcases List.mem_cons.1 hu with rfl | hu
    · omega
    · have := ih.2 u hu; omega
theorem opOK_bulk {o : Op4} (h : bulkL (opC o) ≤ 1048576) : OpOK o := by
  have e : bulkL (vaC o.v) ≤ bulkL (opC o) := by simp only [vaC, opC, bulkL]; omega
  refine ⟨?_, vaOK_bulk (by omega)⟩
  simp only [opC, bulkL, bulkD] at h
  unfold BIG; omega

theorem run_OctetWrites (l : List Op4) (hb0 : bulkL [.vs false (l.map opC)] ≤ 1048576) : R F_law04_OctetWrites [opS l] [] = some (.d (.bool true), []) := by
  have h1 := op_bulk l
  simp only [bulkL, bulkD] at hb0
  exact writes_ok l (by unfold BIG; omega) fun o ho => opOK_bulk (by have := h1.2 o ho; omega)

theorem typ_op {P : Program} {t va l st : TypeId} {fs gs : Array Field} (hu : P.underlying t = some (.struct fs)) (huv : P.underlying va = some (.struct gs)) (hul : P.underlying l = some (.slice st)) {i1 i2 i3 s j1 j2 s2 : TypeId} (hfs : fs.toList.map (·.type) = [i1, i2, i3, s, va]) (hgs : gs.toList.map (·.type) = [j1, j2, s2, l])
    (h1 : P.underlying i1 = some (.int .i64)) (h2 : P.underlying i2 = some (.int .i64)) (h3 : P.underlying i3 = some (.int .i64)) (h4 : P.underlying s = some .string)
    (g1 : P.underlying j1 = some (.int .i64)) (g2 : P.underlying j2 = some (.int .i64)) (g3 : P.underlying s2 = some .string) (g4 : P.underlying st = some .string) (x : List D) (h : Typed P t x) : ∃ o : Op4, x = opC o := by
  obtain ⟨parts, rfl, hp⟩ := typ_fields h hu hfs
  obtain ⟨a, r, rfl, ha, hp⟩ := tall_cons hp
  obtain ⟨b, r, rfl, hb, hp⟩ := tall_cons hp
  obtain ⟨c, r, rfl, hc, hp⟩ := tall_cons hp
  obtain ⟨d, r, rfl, hd, hp⟩ := tall_cons hp
  obtain ⟨e, r, rfl, he, hp⟩ := tall_cons hp
  cases tall_nil hp
  obtain ⟨m1, rfl, _⟩ := typ_int ha h1
  obtain ⟨m2, rfl, _⟩ := typ_int hb h2
  obtain ⟨m3, rfl, _⟩ := typ_int hc h3
  obtain ⟨m4, rfl⟩ := typ_str hd h4
  obtain ⟨v, rfl⟩ := typ_va huv hul hgs g1 g2 g3 g4 e he
  exact ⟨⟨m1, m2, m3, m4, v⟩, rfl⟩
theorem typ_ops {P : Program} {q t va l st : TypeId} {fs gs : Array Field} (hq : P.underlying q = some (.slice t)) (hu : P.underlying t = some (.struct fs)) (huv : P.underlying va = some (.struct gs)) (hul : P.underlying l = some (.slice st)) {i1 i2 i3 s j1 j2 s2 : TypeId} (hfs : fs.toList.map (·.type) = [i1, i2, i3, s, va]) (hgs : gs.toList.map (·.type) = [j1, j2, s2, l])
    (h1 : P.underlying i1 = some (.int .i64)) (h2 : P.underlying i2 = some (.int .i64)) (h3 : P.underlying i3 = some (.int .i64)) (h4 : P.underlying s = some .string)
    (g1 : P.underlying j1 = some (.int .i64)) (g2 : P.underlying j2 = some (.int .i64)) (g3 : P.underlying s2 = some .string) (g4 : P.underlying st = some .string) (x : List D) (h : Typed P q x) : ∃ m : List Op4, x = [.vs false (m.map opC)] := by
  obtain ⟨es, rfl, hes⟩ := typ_slice h hq
  obtain ⟨m, rfl⟩ := mem_map_all opC (es := es) fun c hc => typ_op hu huv hul hfs hgs h1 h2 h3 h4 g1 g2 g3 g4 c (hes c hc)
  exact ⟨m, rfl⟩
end Bz.S
