/- The laws of chapter 32, walked. -/
import Derived.Test.YtphdgheppdbkgaaLat
import Derived.Test.YtphdgheppdbkgaaTypV
import Derived.KernelRfl
set_option linter.unusedSimpArgs false
set_option linter.unusedVariables false
namespace Bz.S
open Go Bz
set_option maxRecDepth 10000
set_option maxHeartbeats 4000000

theorem alive32 : R F_law32_alive [] [] = some (.d (.bool true), []) := RUN_run own retOwn ext code (k := 60) (by kernel_rfl)

/-! ### plainly -/
theorem withinB_iff {l m : List Txt} : withinB l m = true ↔ ∀ s ∈ l, s ∈ m := by unfold withinB; simp
theorem underB_iff {a b : La} : underB a b = true ↔ a.n ≤ b.n ∧ ∀ s ∈ a.g, s ∈ b.g := by unfold underB; rw [Bool.and_eq_true, withinB_iff]; simp
theorem joinL_g (a b : La) (s : Txt) : s ∈ (joinL a b).g ↔ s ∈ a.g ∨ s ∈ b.g := by unfold joinL; simp only; rw [setT_mem]; simp
theorem meetL_g (a b : La) (s : Txt) : s ∈ (meetL a b).g ↔ s ∈ a.g ∧ s ∈ b.g := by unfold meetL; simp only; rw [setT_mem]; simp
theorem joinL_n (a b : La) : (joinL a b).n = max a.n b.n := by unfold joinL; simp only; grind
theorem meetL_n (a b : La) : (meetL a b).n = min a.n b.n := by unfold meetL; simp only; grind
theorem joinL_up (a b : La) : UpS (joinL a b).g := setT_up _
theorem meetL_up (a b : La) : UpS (meetL a b).g := setT_up _
theorem joinL_len (a b : La) : (joinL a b).g.length ≤ a.g.length + b.g.length := by have := setT_len (a.g ++ b.g); unfold joinL; simp at this ⊢; omega
theorem meetL_len (a b : La) : (meetL a b).g.length ≤ a.g.length := by
  have := setT_len (a.g.filter fun s => decide (s ∈ b.g))
  have h2 := List.length_filter_le (fun s => decide (s ∈ b.g)) a.g
  unfold meetL; simp only; omega
theorem la_eq {a b : La} (hn : a.n = b.n) (ha : UpS a.g) (hb : UpS b.g) (h : ∀ s, s ∈ a.g ↔ s ∈ b.g) : a = b := by
  obtain ⟨n, g⟩ := a
  obtain ⟨m, k⟩ := b
  simp only at hn ha hb h
  rw [hn, upS_unique ha hb h]
theorem rise_up : ∀ {l : List Txt}, (∀ (i : Nat) (x y : Txt), l[i]? = some x → l[i + 1]? = some y → Op.bytesLess x y = true) → UpS l
  | [], _ => List.Pairwise.nil
  | [x], _ => List.pairwise_singleton _ _
  | x :: y :: r, h => by
    have ih := rise_up (l := y :: r) fun i a b ha hb => h (i + 1) a b ha hb
    have hxy := h 0 x y rfl rfl
    refine List.pairwise_cons.2 ⟨fun b hb => ?_, ih⟩
    rcases List.mem_cons.1 hb with rfl | hb
    · exact hxy
    · exact blt_tot.tra x y b hxy ((List.pairwise_cons.1 ih).1 b hb)
theorem laCheck_up {a : La} (h : laCheck a = 0) : UpS a.g := by
  unfold laCheck at h
  split at h
  · cases h
  · split at h
    · cases h
    · split at h
      · cases h
      · rename_i h3
        have h3 : findI (badG a.g) a.g 0 = none := by simpa using h3
        refine rise_up fun i x y hx hy => ?_
        have := (findI_none _ _ _).1 h3 (i + 1) y hy
        unfold badG at this
        rw [Bool.or_eq_false_iff] at this
        have h2 := this.2
        simpa [hx] using h2

structure LaOK (a : La) : Prop where
  g : a.g.length ≤ 1048576
  s : ∀ s ∈ a.g, s.length ≤ LIM
theorem laOK_bulk {a : La} (h : bulkL (laC a) ≤ 1048576) : LaOK a := by
  have h1 := st_bulk a.g
  simp only [laC, bulkL, bulkD] at h
  exact ⟨by omega, fun s hs => by have := h1.2 s hs; unfold LIM; omega⟩
theorem LaOK.big {a : La} (h : LaOK a) : a.g.length ≤ BIG := by have := h.g; unfold BIG; omega

theorem typ_la {P : Program} {t l st : TypeId} {fs : Array Field} (hu : P.underlying t = some (.struct fs)) (hul : P.underlying l = some (.slice st)) {i1 : TypeId} (hfs : fs.toList.map (·.type) = [i1, l])
    (h1 : P.underlying i1 = some (.int .i64)) (h4 : P.underlying st = some .string) (x : List D) (h : Typed P t x) : ∃ v : La, x = laC v := by
  obtain ⟨parts, rfl, hp⟩ := typ_fields h hu hfs
  obtain ⟨a, r, rfl, ha, hp⟩ := tall_cons hp
  obtain ⟨d, r, rfl, hd, hp⟩ := tall_cons hp
  cases tall_nil hp
  obtain ⟨m1, rfl, _⟩ := typ_int ha h1
  obtain ⟨es, rfl, hes⟩ := typ_slice hd hul
  obtain ⟨q, rfl⟩ := mem_map_all stC (es := es) fun c hc => typ_str (hes c hc) h4
  exact ⟨⟨m1, q⟩, rfl⟩

theorem run_LatticeFlows (a b c d e : La) (hb0 : bulkL (laC a) + (bulkL (laC b) + (bulkL (laC c) + (bulkL (laC d) + bulkL (laC e)))) ≤ 1048576) :
    R F_law32_LatticeFlows [laA a, laA b, laA c, laA d, laA e] [] = some (.d (.bool true), []) := by
  have ha := (laOK_bulk (a := a) (by omega)).big
  have hb := (laOK_bulk (a := b) (by omega)).big
  have hc := (laOK_bulk (a := c) (by omega)).big
  have hd := (laOK_bulk (a := d) (by omega)).big
  have he := (laOK_bulk (a := e) (by omega)).big
  refine R_of at_law32_LatticeFlows (by decide) ?_
  have h1 := run_LRead a c ha hc
  have h2 := run_Write a d ha hd
  have h3 := run_LRead b d hb hd
  have h4 := run_Write b e hb he
  have h5 := run_Under c d hc hd
  have h6 := run_Under c e hc he
  have t1 : underB c a = true → underB a d = true → underB c d = true := by simp only [underB_iff]; grind
  have t2 : underB c d = true → underB d b = true → underB b e = true → underB c e = true := by simp only [underB_iff]; grind
  generalize underB c a = p1 at *
  generalize underB a d = p2 at *
  generalize underB d b = p3 at *
  generalize underB b e = p4 at *
  generalize underB c d = p5 at *
  generalize underB c e = p6 at *
  cases p1 <;> cases p2 <;> cases p3 <;> cases p4 <;> cases p5 <;> cases p6 <;> first | (exfalso; simp at t1 t2; done) | simp -implicitDefEqProofs [code_law32_LatticeFlows, alive32, h1, h2, h3, h4, h5, h6]

theorem run_LatticeLeast (a b c : La) (hb0 : bulkL (laC a) + (bulkL (laC b) + bulkL (laC c)) ≤ 1048576) :
    R F_law32_LatticeLeast [laA a, laA b, laA c] [] = some (.d (.bool true), []) := by
  have ha := laOK_bulk (a := a) (by omega)
  have hb := laOK_bulk (a := b) (by omega)
  have hc := laOK_bulk (a := c) (by omega)
  have hj : (joinL a b).g.length ≤ BIG := by have := joinL_len a b; have := ha.g; have := hb.g; unfold BIG; omega
  have hm : (meetL a b).g.length ≤ BIG := by have := meetL_len a b; have := ha.g; unfold BIG; omega
  refine R_of at_law32_LatticeLeast (by decide) ?_
  have h1 := run_Join a b (by have := ha.g; have := hb.g; unfold BIG; omega)
  have h2 := run_Meet a b ha.big hb.big
  have h3 := run_Under a c ha.big hc.big
  have h4 := run_Under b c hb.big hc.big
  have h5 := run_Under c a hc.big ha.big
  have h6 := run_Under c b hc.big hb.big
  have h7 := run_Under a (joinL a b) ha.big hj
  have h8 := run_Under b (joinL a b) hb.big hj
  have h9 := run_Under (joinL a b) c hj hc.big
  have h10 := run_Under (meetL a b) a hm ha.big
  have h11 := run_Under (meetL a b) b hm hb.big
  have h12 := run_Under c (meetL a b) hc.big hm
  have e7 : underB a (joinL a b) = true := by rw [underB_iff, joinL_n]; exact ⟨by omega, fun s hs => (joinL_g a b s).2 (.inl hs)⟩
  have e8 : underB b (joinL a b) = true := by rw [underB_iff, joinL_n]; exact ⟨by omega, fun s hs => (joinL_g a b s).2 (.inr hs)⟩
  have e9 : underB (joinL a b) c = (underB a c && underB b c) := by
    rw [Bool.eq_iff_iff, Bool.and_eq_true]; simp only [underB_iff, joinL_n, joinL_g]; grind
  have e10 : underB (meetL a b) a = true := by rw [underB_iff, meetL_n]; exact ⟨by omega, fun s hs => ((meetL_g a b s).1 hs).1⟩
  have e11 : underB (meetL a b) b = true := by rw [underB_iff, meetL_n]; exact ⟨by omega, fun s hs => ((meetL_g a b s).1 hs).2⟩
  have e12 : underB c (meetL a b) = (underB c a && underB c b) := by
    rw [Bool.eq_iff_iff, Bool.and_eq_true]; simp only [underB_iff, meetL_n, meetL_g]; grind
  rw [e7] at h7; rw [e8] at h8; rw [e9] at h9; rw [e10] at h10; rw [e11] at h11; rw [e12] at h12
  cases q1 : underB a c <;> cases q2 : underB b c <;> cases q3 : underB c a <;> cases q4 : underB c b <;> rw [q1] at h3 h9 <;> rw [q2] at h4 h9 <;> rw [q3] at h5 h12 <;> rw [q4] at h6 h12 <;>
    simp -implicitDefEqProofs [code_law32_LatticeLeast, alive32, h1, h2, h3, h4, h5, h6, h7, h8, h9, h10, h11, h12]
@[simp] theorem laC_eq (a : La) : laC a = [.int .i64 a.n, .vs false (a.g.map stC)] := rfl
end Bz.S
