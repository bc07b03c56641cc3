/- Who lets whom: depths, who holds, all; by the page. -/
import Derived.Test.YtmnnjkdfanghdaaDel
import Derived.Test.YtmnnjkdfanghdaaTypM
set_option linter.unusedSimpArgs false
set_option linter.unusedVariables false
namespace Bz.S
open Go Bz
set_option maxRecDepth 10000
set_option maxHeartbeats 4000000

theorem len_of_sub {α : Type} [DecidableEq α] : ∀ {a b : List α}, a.Nodup → (∀ x ∈ a, x ∈ b) → a.length ≤ b.length
  | [], _, _, _ => Nat.zero_le _
  | x :: r, b, hn, hs => by
    have hn' := List.nodup_cons.1 hn
    have hx := hs x (by simp)
    have ih := len_of_sub (a := r) (b := b.erase x) hn'.2 fun y hy => (List.mem_erase_of_ne (a := y) (b := x) (fun e => hn'.1 (by rw [← e]; exact hy))).2 (hs y (by simp [hy]))
    rw [List.length_erase_of_mem hx] at ih
    have : 0 < b.length := List.length_pos_of_mem hx
    simp only [List.length_cons]; omega
theorem Good0.len {root : Txt} {l : List Gr} {at_ : Int} {K : List Nk} (h : Good0 root l at_ K) : K.length ≤ l.length + 1 := by
  have := len_of_sub (b := root :: l.map (·.t)) h.nodup fun x hx => by
    rcases h.mem x hx with rfl | ⟨g, hg, rfl⟩
    · simp
    · simp; exact .inr ⟨g, hg, rfl⟩
  simpa using this

/-- what find comes to -/
structure Found (root : Txt) (l : List Gr) (at_ : Int) (K : List Nk) : Prop where
  good : Good0 root l at_ K
  closed : Closed l at_ K
  run1 : R1 F_delegate_find [stA root, grS l, .d (.int .i64 at_)] [] = some (.map 0, mH K)
theorem Found.run {root : Txt} {l : List Gr} {at_ : Int} {K : List Nk} (h : Found root l at_ K) : R F_delegate_find [stA root, grS l, .d (.int .i64 at_)] [] = some (.map 0, mH K) := R1_R h.run1
theorem found (root : Txt) (l : List Gr) (at_ : Int) (hl : l.length ≤ BIG) : ∃ K, Found root l at_ K := by
  obtain ⟨K, h1, h2, h3⟩ := r1_find root l at_ hl
  exact ⟨K, h1, h2, h3⟩

theorem run_Depth {root : Txt} {l : List Gr} {at_ : Int} {K : List Nk} (h : Found root l at_ K) (w : Txt) : R F_delegate_Depth [stA root, grS l, stA w, .d (.int .i64 at_)] [] = some (.d (.int .i64 (ofK K w)), []) := by
  refine R_of at_delegate_Depth (by decide) ?_
  have h1 := h.run
  have h2 := R1_R (r1_of K w)
  simp -implicitDefEqProofs [code_delegate_Depth, h1, h2]
theorem run_Holds {root : Txt} {l : List Gr} {at_ : Int} {K : List Nk} (h : Found root l at_ K) (w : Txt) : R F_delegate_Holds [stA root, grS l, stA w, .d (.int .i64 at_)] [] = some (.d (.bool (decide (0 ≤ ofK K w))), []) := by
  refine R_of at_delegate_Holds (by decide) ?_
  have h1 := run_Depth h w
  simp -implicitDefEqProofs [code_delegate_Holds, h1]

theorem sortTx_perm {a b : List Txt} (h : a.Perm b) : sortTx a = sortTx b := isort_of_perm blt_tot h
theorem sortTx_len (a : List Txt) : (sortTx a).length = a.length := isort_len a
theorem tight_mkE {n : Nat} {l : List (Nat × AV)} (H : Heap) (h : okL n 0 l = true) : tight ⟨mkE n l, H⟩ = ((refsL (valsL l)).all (fun l => decide (10000 ≤ l)) && H.all fun x => decide (10000 ≤ x.1) && (refsO x.2).all fun l => decide (10000 ≤ l)) := by
  unfold tight; rw [refsL_mkE h]
theorem r1_SortTx (l : List Txt) (hl : l.length ≤ LIM) : R1 F_slices_Sort_string_string [.os 0 l.length 0 l.length] [(0, .arr 1 (l.map stC))] = some (.tup [], [(0, .arr 1 ((sortTx l).map stC))]) := by
  refine R1_ext (ext1_slices_Sort_string_string ?_)
  simp [extSort, hl, strsD_tx]

def keyG (out : List Txt) (p : AV × AV) : List Txt := match p.1 with
  | .d (.str n) => out ++ [n]
  | _ => out
theorem keyG_fold : ∀ (K : List Nk) (out : List Txt), (K.map nkA).foldl keyG out = out ++ K.map (·.n)
  | [], out => by simp
  | c :: r, out => by
    simp only [List.map_cons, List.foldl_cons, keyG_fold r]
    simp [keyG, nkA]
theorem run_All {root : Txt} {l : List Gr} {at_ : Int} {K : List Nk} (h : Found root l at_ K) (hl : l.length ≤ 1048576) : R F_delegate_All [stA root, grS l, .d (.int .i64 at_)] [] = some (txS (sortTx (K.map (·.n))), []) := by
  refine R_ext (ext_delegate_All ?_)
  have h1 := h.run1
  have hKl := h.good.len
  simp only [rcode_delegate_All]
  refine aw_seq_code (s' := ⟨mkE 25 [(0, stA root), (1, grS l), (2, .d (.int .i64 at_)), (6, .d (.vs true []))], []⟩) (by simp) ?_
  refine aw_seq_code (s' := ⟨mkE 25 [(0, stA root), (1, grS l), (2, .d (.int .i64 at_)), (6, .d (.vs true [])), (7, .d (.vs true []))], []⟩) (by simp) ?_
  refine aw_seq_each (s1 := ⟨mkE 25 [(0, stA root), (1, grS l), (2, .d (.int .i64 at_)), (6, .d (.vs true [])), (7, .d (.vs true [])), (9, stA root), (10, grS l), (11, .d (.int .i64 at_)), (12, .map 30030)], [(30030, .mp false [.str] (K.map nkA))]⟩) (l := 30030) (ag := false) (ks := [.str]) (es := K.map nkA)
    (by simp -implicitDefEqProofs [each_delegate_All_0, h1]) (by simp [each_delegate_All_0]) (by simp) (by simp [itN, freshU, shut]) fun π hπ => ?_
  obtain ⟨K', hK', rfl⟩ := perm_map hπ
  have hlen : K'.length = K.length := hK'.length_eq
  obtain ⟨hf, hI⟩ := each_fold (X := X1) (e := each_delegate_All_0) (fun out => ⟨mkE 25 [(7, .os 10000070 out.length 0 out.length), (13, .pa 9999 0 0 0)], [(9999, .fz 1 []), (10000070, .arr 1 (out.map stC))]⟩)
    (fun k out => out.length ≤ k) keyG (fun out => by simp [inLoop, each_delegate_All_0, itN, mkE_len]) (K'.map nkA) 0
    { E := putE (mkE 25 [(0, stA root), (1, grS l), (2, .d (.int .i64 at_)), (6, .d (.vs true [])), (7, .d (.vs true [])), (9, stA root), (10, grS l), (11, .d (.int .i64 at_)), (12, .map 30030)]) (some 13) (.pa itN 0 0 0), H := hset (looseH 30030 [(30030, .mp false [.str] (K.map nkA))]) itN (.fz 1 []) } []
    (fun i out p _ hi hp hI => by
      obtain ⟨c, hc, rfl⟩ := List.mem_map.1 hp
      simp at hi
      have g1 : out.length + 1 ≤ LIM := by unfold LIM; omega
      refine ⟨by simp [keyG, nkA]; omega, ?_⟩
      simp -implicitDefEqProofs [roundR, each_delegate_All_0, inLoop, itN, nkA, keyG, g1, blkO, mkE_len])
    (by simp -implicitDefEqProofs [each_delegate_All_0, looseH, itN]) (Nat.le_refl _)
  rw [keyG_fold] at hf hI
  simp only [List.nil_append] at hf hI
  have hs := sortTx_perm (hK'.map (·.n))
  have hll : (K'.map (·.n)).length ≤ LIM := by simp; unfold LIM; omega
  generalize K'.map (·.n) = out at *
  refine ⟨_, hf, ?_, ?_⟩
  · simp -implicitDefEqProofs [endR, each_delegate_All_0, highH]
    rw [tight_mkE _ rfl]
    simp [valsL, refsL, refs, refsO]
  · have hst := r1_SortTx out hll
    refine aw_code (e := .ret) (s' := ⟨mkE 25 [(6, .os 10000060 out.length 0 out.length)], [(10000060, .arr 1 ((sortTx out).map stC))]⟩) (by
      simp -implicitDefEqProofs [endR, each_delegate_All_0, highH, callerH, hst]) ?_
    rw [← hs]
    have hl := sortTx_len out
    have ht : List.take out.length ((sortTx out).map stC) = (sortTx out).map stC := List.take_of_length_le (by simp [hl])
    simp -implicitDefEqProofs [rcode_delegate_All, hl, ht]

/-! ### by the page -/
theorem run_few35 (l : List Gr) (hl : l.length ≤ BIG) : R F_law35_few [grS l] [] = some (grS (l.take 24), []) := by
  refine R_of at_law35_few (by decide) ?_
  by_cases h : (24 : Int) < l.length
  · have h' : (24 : Int) ≤ l.length := by omega
    simp -implicitDefEqProofs [code_law35_few, h, h', List.map_take]
  · have h' : l.take 24 = l := List.take_of_length_le (by omega)
    simp -implicitDefEqProofs [code_law35_few, h, h']

def farF (ns : List Txt) (f : Txt → Int) (w : Txt) : Int := if w ∈ ns then f w else -1
theorem p_far (ns : List Txt) (f : Txt → Int) (w : Txt) (hl : ns.length ≤ BIG) : R F_law35_far [txS ns, i6S (ns.map f), stA w] [] = some (.d (.int .i64 (farF ns f w)), []) := by
  refine R_of at_law35_far (by decide) ?_
  unfold BIG at hl
  have hL := loop_find (X := X) (mask := mask_law35_far_0) (body := body_law35_far_0) ns
    (fun i => ⟨mkE 24 [(0, txS ns), (1, i6S (ns.map f)), (2, stA w), (7, .d (.int .i64 i))], []⟩)
    (fun _ x => decide (x = w)) (.exit 0, ⟨mkE 24 [], []⟩) (fun _ x => (.ret, ⟨mkE 24 [(6, .d (.int .i64 (f x)))], []⟩)) (by simp) (by simp)
    (fun i x hi hx hq => by
      have hw := wrap_ok (a := (i : Int) + 1) (by omega) (by omega)
      have hq' : ¬ x = w := by simpa using hq
      simp -implicitDefEqProofs [body_law35_far_0, mask_law35_far_0, hi, hx, hw, hq'])
    (fun i x hi hx hq => by
      have hq' : x = w := by simpa using hq
      subst hq'
      simp -implicitDefEqProofs [body_law35_far_0, hi, hx]) (by simp -implicitDefEqProofs [body_law35_far_0])
  simp -implicitDefEqProofs [code_law35_far]
  rw [hL _ (by simp -implicitDefEqProofs [mask_law35_far_0])]
  unfold farF
  cases hf : findI (fun _ x => decide (x = w)) ns 0 with
  | none =>
    have : ¬ w ∈ ns := fun hm => by
      obtain ⟨i, hi⟩ := List.getElem?_of_mem hm
      have := (findI_none _ ns 0).1 hf i w hi
      simp at this
    simp -implicitDefEqProofs [this]
  | some q =>
    obtain ⟨i, h1, h2, h3, _⟩ := findI_some _ ns 0 q hf
    have h3' : q.2 = w := by simpa using h3
    have : w ∈ ns := h3' ▸ List.mem_of_getElem? h2
    simp -implicitDefEqProofs [this, h3']

theorem p_by (ns : List Txt) (f : Txt → Int) (g : Gr) (at_ : Int) (hl : ns.length ≤ BIG) (hf : ∀ x, -1 ≤ f x ∧ f x ≤ 12) : R F_law35_by [txS ns, i6S (ns.map f), grA g, .d (.int .i64 at_)] [] = some (.d (.int .i64 (byF (farF ns f) at_ g)), []) := by
  refine R_of at_law35_by (by decide) ?_
  have h1 := p_far ns f g.f hl
  have h3 : -1 ≤ farF ns f g.f ∧ farF ns f g.f ≤ 12 := by
    unfold farF; split
    · exact hf _
    · omega
  unfold byF liveG
  generalize farF ns f g.f = v at *
  generalize ns.map f = kn at *
  have hw := wrap_ok (a := v - 1) (by omega) (by omega)
  by_cases g1 : g.d < 0
  · have e : ¬ 0 ≤ g.d := by omega
    simp -implicitDefEqProofs [code_law35_by, h1, g1, e]
  · have e1 : 0 ≤ g.d := by omega
    by_cases g2 : at_ < g.a
    · have e : ¬ g.a ≤ at_ := by omega
      simp -implicitDefEqProofs [code_law35_by, h1, g1, g2, e]
    · have e2 : g.a ≤ at_ := by omega
      by_cases g3 : g.u < at_
      · have e : ¬ at_ ≤ g.u := by omega
        simp -implicitDefEqProofs [code_law35_by, h1, g1, g2, g3, e]
      · have e3 : at_ ≤ g.u := by omega
        by_cases g4 : v < 1
        · have e4 : ¬ 1 ≤ v := by omega
          simp -implicitDefEqProofs [code_law35_by, h1, g1, g2, g3, g4, e4]
        · have e4 : 1 ≤ v := by omega
          have hm : min g.d (v - 1) = if v - 1 < g.d then v - 1 else g.d := by grind
          simp -implicitDefEqProofs [code_law35_by, h1, g1, g2, g3, g4, e1, e2, e3, e4, hw, hm]

/-- the names -/
def nmG (ns : List Txt) (g : Gr) : List Txt := if g.t ∈ ns then ns else ns ++ [g.t]
def nm (root : Txt) (l : List Gr) : List Txt := l.foldl nmG [root]
theorem nmG_len (ns : List Txt) (g : Gr) : (nmG ns g).length ≤ ns.length + 1 := by unfold nmG; split <;> simp
def f0 (root : Txt) (x : Txt) : Int := if x = root then 12 else -1
def stepR (at_ : Int) (f h : Txt → Int) (g : Gr) : Txt → Int := fun x => if x = g.t then max (h x) (byF f at_ g) else h x
def rnd (l : List Gr) (at_ : Int) (f : Txt → Int) : Txt → Int := l.foldl (stepR at_ f) f
def kn (root : Txt) (l : List Gr) (at_ : Int) : Nat → Txt → Int
  | 0 => f0 root
  | n + 1 => rnd l at_ (kn root l at_ n)

def B12 (f : Txt → Int) : Prop := ∀ x, -1 ≤ f x ∧ f x ≤ 12
theorem B12_fold {at_ : Int} {f : Txt → Int} (hf : B12 f) : ∀ (l : List Gr) (h : Txt → Int), B12 h → B12 (l.foldl (stepR at_ f) h)
  | [], h, hh => hh
  | g :: r, h, hh => B12_fold hf r _ fun x => by
    unfold stepR
    have h1 := hh x
    have h2 := byF_hi (at_ := at_) (g := g) (hf g.f).2
    have h3 := byF_lo (f := f) (at_ := at_) (g := g)
    split
    · omega
    · exact h1
theorem kn_B12 (root : Txt) (l : List Gr) (at_ : Int) : ∀ n, B12 (kn root l at_ n)
  | 0 => fun x => by show -1 ≤ f0 root x ∧ f0 root x ≤ 12; unfold f0; split <;> omega
  | n + 1 => B12_fold (kn_B12 root l at_ n) l _ (kn_B12 root l at_ n)
theorem nm_fold_mem : ∀ (l : List Gr) (ns : List Txt) (x : Txt), x ∈ l.foldl nmG ns ↔ x ∈ ns ∨ ∃ g ∈ l, g.t = x
  | [], ns, x => by simp
  | g :: r, ns, x => by
    simp only [List.foldl_cons, nm_fold_mem r]
    unfold nmG
    constructor
    · rintro (h | ⟨g', h1, h2⟩)
      · split at h
        · exact .inl h
        · rcases List.mem_append.1 h with h | h
          · exact .inl h
          · simp at h; exact .inr ⟨g, by simp, h.symm⟩
      · exact .inr ⟨g', by simp [h1], h2⟩
    · rintro (h | ⟨g', h1, h2⟩)
      · left; split
        · exact h
        · exact List.mem_append_left _ h
      · rcases List.mem_cons.1 h1 with rfl | h1
        · left; split
          · rename_i hm; exact h2 ▸ hm
          · exact List.mem_append_right _ (by simp [h2])
        · exact .inr ⟨g', h1, h2⟩
theorem nm_mem {root : Txt} {l : List Gr} {x : Txt} : x ∈ nm root l ↔ x = root ∨ ∃ g ∈ l, g.t = x := by
  unfold nm; rw [nm_fold_mem]; simp
theorem nm_fold_nodup : ∀ (l : List Gr) (ns : List Txt), ns.Nodup → (l.foldl nmG ns).Nodup
  | [], ns, h => h
  | g :: r, ns, h => nm_fold_nodup r _ (by
    unfold nmG; split
    · exact h
    · rename_i hm
      rw [List.nodup_append]
      refine ⟨h, by simp, fun a ha b hb => ?_⟩
      simp at hb; subst hb
      intro e; subst e; exact hm ha)
theorem nm_nodup (root : Txt) (l : List Gr) : (nm root l).Nodup := nm_fold_nodup l _ (by simp)
theorem nm_len (root : Txt) (l : List Gr) : (nm root l).length ≤ l.length + 1 := by
  have : ∀ (l : List Gr) (ns : List Txt), (l.foldl nmG ns).length ≤ ns.length + l.length := by
    intro l
    induction l with
    | nil => intro ns; exact Nat.le_refl _
    | cons g r ih => intro ns; have h1 := ih (nmG ns g); have h2 := nmG_len ns g; simp only [List.foldl_cons, List.length_cons]; omega
  have := this l [root]
  unfold nm; simp at this; omega
/-- outside of the names nothing is known -/
def Off (ns : List Txt) (f : Txt → Int) : Prop := ∀ x, ¬ x ∈ ns → f x = -1
theorem off_far {ns : List Txt} {f : Txt → Int} (h : Off ns f) : farF ns f = f := by
  funext x; unfold farF; split
  · rfl
  · rename_i hx; exact (h x hx).symm
theorem off_fold {at_ : Int} {f : Txt → Int} {ns : List Txt} : ∀ (l : List Gr) (h : Txt → Int), (∀ g ∈ l, g.t ∈ ns) → Off ns h → Off ns (l.foldl (stepR at_ f) h)
  | [], h, _, hh => hh
  | g :: r, h, hl, hh => off_fold r _ (fun g hg => hl g (by simp [hg])) fun x hx => by
    unfold stepR
    rw [if_neg (fun e => hx (by rw [e]; exact hl g (by simp)))]
    exact hh x hx
theorem kn_off (root : Txt) (l : List Gr) (at_ : Int) : ∀ n, Off (nm root l) (kn root l at_ n)
  | 0 => fun x hx => by
    show f0 root x = -1
    unfold f0; rw [if_neg (fun e => hx (nm_mem.2 (.inl e)))]
  | n + 1 => off_fold l _ (fun g hg => nm_mem.2 (.inr ⟨g, hg, rfl⟩)) (kn_off root l at_ n)

/-- one grant's round over the names -/
theorem foldI_max (t : Txt) (d : Int) (ns : List Txt) (h : Txt → Int) : ∀ (r : List Txt) (i : Nat), ns.drop i = r →
    foldI (fun k a x => if x = t then a.set k (max (h x) d) else a) r i ((ns.take i).map (fun x => if x = t then max (h x) d else h x) ++ r.map h) = ns.map (fun x => if x = t then max (h x) d else h x)
  | [], i, hd => by
    have : ns.take i = ns := List.take_of_length_le (by simpa using hd)
    simp [this]
  | x :: r, i, hd => by
    have hlt : i < ns.length := by
      rcases Nat.lt_or_ge i ns.length with h | h
      · exact h
      · rw [List.drop_eq_nil_of_le h] at hd; cases hd
    have hx : ns[i] = x := by
      have : ns[i]? = some x := by rw [← List.head?_drop, hd]; rfl
      rw [List.getElem?_eq_getElem hlt] at this; exact Option.some.inj this
    have hd' : ns.drop (i + 1) = r := by rw [← List.tail_drop, hd]; rfl
    rw [foldI_cons, ← foldI_max t d ns h r (i + 1) hd']
    congr 1
    have e : ns.take (i + 1) = ns.take i ++ [x] := by rw [List.take_succ_eq_append_getElem hlt, hx]
    rw [e]
    have hl : ((ns.take i).map (fun x => if x = t then max (h x) d else h x)).length = i := by simp; omega
    by_cases ht : x = t
    · rw [if_pos ht, List.set_append_right _ _ (by omega), hl, Nat.sub_self]
      simp [ht]
    · rw [if_neg ht]
      simp [ht]

theorem best_max (a b : Int) : (if a < b then b else a) = max a b := by grind
theorem p_find (root : Txt) (l : List Gr) (at_ : Int) (hl : l.length ≤ 1048576) : R F_law35_find [stA root, grS l, .d (.int .i64 at_)] [] = some (.tup [txS (nm root l), i6S ((nm root l).map (kn root l at_ 12))], []) := by
  refine R_of at_law35_find (by decide) ?_
  -- the names
  have hL0 := loop_fold (X := X) (mask := mask_law35_find_0) (body := body_law35_find_0) l
    (fun i (ns : List Txt) => ⟨mkE 93 [(1, grS l), (2, .d (.int .i64 at_)), (8, .os 10000080 ns.length 0 ns.length), (9, .os 10000090 ns.length 0 ns.length), (10, .d (.int .i64 i))], [(10000080, .arr 1 (ns.map stC)), (10000090, .arr 1 ((ns.map (f0 root)).map i6C))]⟩)
    (fun i ns => ns.length ≤ i + 1 ∧ root ∈ ns) (fun _ ns g => nmG ns g)
    (fun ns => (.exit 0, ⟨mkE 93 [(1, grS l), (2, .d (.int .i64 at_)), (8, .os 10000080 ns.length 0 ns.length), (9, .os 10000090 ns.length 0 ns.length)], [(10000080, .arr 1 (ns.map stC)), (10000090, .arr 1 ((ns.map (f0 root)).map i6C))]⟩)) (by simp)
    (fun i ns g hi hg hI => by
      obtain ⟨hI, hr⟩ := hI
      have hw := wrap_ok (a := (i : Int) + 1) (by omega) (by omega)
      have h1 := run_plIn ns g.t (by unfold BIG; omega)
      have g1 : ns.length + 1 ≤ LIM := by unfold LIM; omega
      have hn := nmG_len ns g
      refine ⟨⟨by omega, by unfold nmG; split; exact hr; exact List.mem_append_left _ hr⟩, ?_⟩
      unfold nmG
      obtain ⟨f, t, d, a, u⟩ := g
      by_cases hm : t ∈ ns
      · simp only [hm, decide_true] at h1
        simp -implicitDefEqProofs [body_law35_find_0, mask_law35_find_0, hi, hg, hw, h1, hm]
      · have hne : f0 root t = -1 := by unfold f0; rw [if_neg (fun e => hm (by rw [e]; exact hr))]
        simp only [hm, decide_false] at h1
        simp -implicitDefEqProofs [body_law35_find_0, mask_law35_find_0, hi, hg, hw, h1, hm, g1, hne])
    (fun ns _ => by simp -implicitDefEqProofs [body_law35_find_0]) [root] ⟨by simp, by simp⟩
  have hfold : ∀ (l : List Gr) (i : Nat) (ns : List Txt), foldI (fun _ ns g => nmG ns g) l i ns = l.foldl nmG ns := by
    intro l
    induction l with
    | nil => intro i a; rfl
    | cons x r ih => intro i a; rw [foldI_cons, ih]; rfl
  rw [hfold] at hL0
  rw [show l.foldl nmG [root] = nm root l from rfl] at hL0
  have hnl := nm_len root l
  have hne : nm root l ≠ [] := fun e => by have := (nm_mem (root := root) (l := l) (x := root)).2 (.inl rfl); rw [e] at this; cases this
  have hto : ∀ g ∈ l, g.t ∈ nm root l := fun g hg => nm_mem.2 (.inr ⟨g, hg, rfl⟩)
  have hoff := kn_off root l at_
  have hb := kn_B12 root l at_
  have hk0 : kn root l at_ 0 = f0 root := rfl
  have hks : ∀ n, kn root l at_ (n + 1) = l.foldl (stepR at_ (kn root l at_ n)) (kn root l at_ n) := fun n => rfl
  generalize nm root l = ns at *
  generalize kn root l at_ = K at *
  -- a grant over the names
  have hL1 : ∀ (n i : Nat) (g : Gr) (kl : List Int) (d : Int) (h : Txt → Int) (hi : i < l.length), l[i] = g → ∀ s,
      trim mask_law35_find_1 s = ⟨mkE 93 [(1, grS l), (2, .d (.int .i64 at_)), (8, .os 10000080 ns.length 0 ns.length), (9, .os 10000090 ns.length 0 ns.length), (11, .d (.int .i64 n)), (12, .os 10000120 ns.length 0 ns.length), (13, .d (.int .i64 i)), (14, .d (.int .i64 d)), (15, .d (.int .i64 0))], [(10000080, .arr 1 (ns.map stC)), (10000090, .arr 1 (kl.map i6C)), (10000120, .arr 1 ((ns.map h).map i6C))]⟩ →
      exL X (.loop mask_law35_find_1 body_law35_find_1) s = some (.exit 6, ⟨mkE 93 [(1, grS l), (2, .d (.int .i64 at_)), (8, .os 10000080 ns.length 0 ns.length), (9, .os 10000090 ns.length 0 ns.length), (11, .d (.int .i64 n)), (12, .os 10000120 ns.length 0 ns.length), (13, .d (.int .i64 i))], [(10000080, .arr 1 (ns.map stC)), (10000090, .arr 1 (kl.map i6C)), (10000120, .arr 1 ((ns.map fun x => if x = g.t then max (h x) d else h x).map i6C))]⟩) := by
    intro n i g kl d h hi hg
    have hL := loop_fold (X := X) (mask := mask_law35_find_1) (body := body_law35_find_1) ns
      (fun k (a : List Int) => ⟨mkE 93 [(1, grS l), (2, .d (.int .i64 at_)), (8, .os 10000080 ns.length 0 ns.length), (9, .os 10000090 ns.length 0 ns.length), (11, .d (.int .i64 n)), (12, .os 10000120 ns.length 0 ns.length), (13, .d (.int .i64 i)), (14, .d (.int .i64 d)), (15, .d (.int .i64 k))], [(10000080, .arr 1 (ns.map stC)), (10000090, .arr 1 (kl.map i6C)), (10000120, .arr 1 (a.map i6C))]⟩)
      (fun k a => a.length = ns.length ∧ ∀ j x, k ≤ j → ns[j]? = some x → a[j]? = some (h x)) (fun k a x => if x = g.t then a.set k (max (h x) d) else a)
      (fun a => (.exit 6, ⟨mkE 93 [(1, grS l), (2, .d (.int .i64 at_)), (8, .os 10000080 ns.length 0 ns.length), (9, .os 10000090 ns.length 0 ns.length), (11, .d (.int .i64 n)), (12, .os 10000120 ns.length 0 ns.length), (13, .d (.int .i64 i))], [(10000080, .arr 1 (ns.map stC)), (10000090, .arr 1 (kl.map i6C)), (10000120, .arr 1 (a.map i6C))]⟩)) (by simp)
      (fun k a x hk hx hI => by
        obtain ⟨hI1, hI2⟩ := hI
        have hw := wrap_ok (a := (k : Int) + 1) (by omega) (by omega)
        have hka : k < a.length := by omega
        have hv : a[k] = h x := by
          have := hI2 k x (Nat.le_refl _) (by rw [List.getElem?_eq_getElem hk, hx])
          rw [List.getElem?_eq_getElem hka] at this; exact Option.some.inj this
        have hbm := best_max (h x) d
        obtain ⟨f, t, d', a', u⟩ := g
        simp only
        by_cases ht : x = t
        · rw [if_pos ht]
          refine ⟨⟨by simpa using hI1, fun j y hj hy => ?_⟩, ?_⟩
          · rw [List.getElem?_set_ne (by omega)]; exact hI2 j y (by omega) hy
          · subst ht
            simp -implicitDefEqProofs [body_law35_find_1, mask_law35_find_1, hi, hg, hw, hk, hx, hka, hv, hI1, hbm]
        · rw [if_neg ht]
          refine ⟨⟨hI1, fun j y hj hy => hI2 j y (by omega) hy⟩, ?_⟩
          simp -implicitDefEqProofs [body_law35_find_1, mask_law35_find_1, hi, hg, hw, hk, hx, hka, hv, hI1, ht])
      (fun a hI => by simp -implicitDefEqProofs [body_law35_find_1]) (ns.map h) ⟨by simp, fun j x _ hx => by simp [hx]⟩
    have hm := foldI_max g.t d ns h ns 0 (by simp)
    simp only [List.take_zero, List.map_nil, List.nil_append] at hm
    rw [hm] at hL
    exact hL
  -- a round over the grants
  have hL2 : ∀ (n : Nat), ∀ s,
      trim mask_law35_find_2 s = ⟨mkE 93 [(1, grS l), (2, .d (.int .i64 at_)), (8, .os 10000080 ns.length 0 ns.length), (9, .os 10000090 ns.length 0 ns.length), (11, .d (.int .i64 n)), (12, .os 10000120 ns.length 0 ns.length), (13, .d (.int .i64 0))], [(10000080, .arr 1 (ns.map stC)), (10000090, .arr 1 ((ns.map (K n)).map i6C)), (10000120, .arr 1 ((ns.map (K n)).map i6C))]⟩ →
      exL X (.loop mask_law35_find_2 body_law35_find_2) s = some (.exit 4, ⟨mkE 93 [(1, grS l), (2, .d (.int .i64 at_)), (8, .os 10000080 ns.length 0 ns.length), (11, .d (.int .i64 n)), (12, .os 10000120 ns.length 0 ns.length)], [(10000080, .arr 1 (ns.map stC)), (10000120, .arr 1 ((ns.map (K (n + 1))).map i6C))]⟩) := by
    intro n
    have hL := loop_fold (X := X) (mask := mask_law35_find_2) (body := body_law35_find_2) l
      (fun i (h : Txt → Int) => ⟨mkE 93 [(1, grS l), (2, .d (.int .i64 at_)), (8, .os 10000080 ns.length 0 ns.length), (9, .os 10000090 ns.length 0 ns.length), (11, .d (.int .i64 n)), (12, .os 10000120 ns.length 0 ns.length), (13, .d (.int .i64 i))], [(10000080, .arr 1 (ns.map stC)), (10000090, .arr 1 ((ns.map (K n)).map i6C)), (10000120, .arr 1 ((ns.map h).map i6C))]⟩)
      (fun _ _ => True) (fun _ h g => stepR at_ (K n) h g)
      (fun h => (.exit 4, ⟨mkE 93 [(1, grS l), (2, .d (.int .i64 at_)), (8, .os 10000080 ns.length 0 ns.length), (11, .d (.int .i64 n)), (12, .os 10000120 ns.length 0 ns.length)], [(10000080, .arr 1 (ns.map stC)), (10000120, .arr 1 ((ns.map h).map i6C))]⟩)) (by simp)
      (fun i h g hi hg _ => by
        refine ⟨trivial, ?_⟩
        have hw := wrap_ok (a := (i : Int) + 1) (by omega) (by omega)
        have h1 := p_by ns (K n) g at_ (by unfold BIG; omega) (hb n)
        rw [off_far (hoff n)] at h1
        have h2 := hL1 n i g (ns.map (K n)) (byF (K n) at_ g) h hi hg
        have hst : stepR at_ (K n) h g = fun x => if x = g.t then max (h x) (byF (K n) at_ g) else h x := rfl
        rw [hst]
        have e1 : (ns.map fun x => if x = g.t then max (h x) (byF (K n) at_ g) else h x).length = ns.length := by simp
        generalize (ns.map fun x => if x = g.t then max (h x) (byF (K n) at_ g) else h x) = nx at *
        have e2 : (ns.map h).length = ns.length := by simp
        generalize ns.map h = cur at *
        have e3 : (ns.map (K n)).length = ns.length := by simp
        generalize ns.map (K n) = kl at *
        have tk : List.take ns.length (kl.map i6C) = kl.map i6C := List.take_of_length_le (by simp [e3])
        generalize byF (K n) at_ g = d at *
        obtain ⟨f, t, d', a', u⟩ := g
        simp -implicitDefEqProofs [body_law35_find_2, hi, hg, h1, e3, tk]
        rw [h2 _ (by simp -implicitDefEqProofs [mask_law35_find_1])]
        simp -implicitDefEqProofs [mask_law35_find_2, hw]
        exact ⟨_, _, ⟨rfl, rfl⟩, rfl, by simp -implicitDefEqProofs⟩)
      (fun h _ => by simp -implicitDefEqProofs [body_law35_find_2]) (K n) trivial
    have hf : ∀ (l : List Gr) (i : Nat) (h : Txt → Int), foldI (fun _ h g => stepR at_ (K n) h g) l i h = l.foldl (stepR at_ (K n)) h := by
      intro l
      induction l with
      | nil => intro i a; rfl
      | cons x r ih => intro i a; rw [foldI_cons, ih]; rfl
    rw [hf, ← hks] at hL
    exact hL
  -- all rounds
  obtain ⟨r, rfl, hL3⟩ := loop_upto (X := X) (mask := mask_law35_find_3) (body := body_law35_find_3) (σ := Unit) 12
    (fun n _ => ⟨mkE 93 [(1, grS l), (2, .d (.int .i64 at_)), (8, .os 10000080 ns.length 0 ns.length), (9, .os 10000090 ns.length 0 ns.length), (11, .d (.int .i64 n))], [(10000080, .arr 1 (ns.map stC)), (10000090, .arr 1 ((ns.map (K n)).map i6C))]⟩)
    (fun _ _ => True) (fun r => r = (.exit 2, ⟨mkE 93 [(8, .os 10000080 ns.length 0 ns.length), (9, .os 10000090 ns.length 0 ns.length)], [(10000080, .arr 1 (ns.map stC)), (10000090, .arr 1 ((ns.map (K 12)).map i6C))]⟩))
    (fun n _ hn _ => by
      refine .inl ⟨(), trivial, ?_⟩
      have hw := wrap_ok (a := (n : Int) + 1) (by omega) (by omega)
      have hn' : (n : Int) < 12 := by omega
      have h2 := hL2 n
      have g1 : ns.length ≤ LIM := by unfold LIM; omega
      have e3 : (ns.map (K n)).length = ns.length := by simp
      have e5 : ns.map (K n) ≠ [] := by simpa using hne
      generalize ns.map (K n) = kl at *
      have tk : List.take ns.length (kl.map i6C) = kl.map i6C := List.take_of_length_le (by simp [e3])
      have e4 : (ns.map (K (n + 1))).length = ns.length := by simp
      generalize ns.map (K (n + 1)) = k2 at *
      simp -implicitDefEqProofs [body_law35_find_3, hn', e3, g1, tk, hne, e5]
      rw [h2 _ (by simp -implicitDefEqProofs [mask_law35_find_2])]
      simp -implicitDefEqProofs [mask_law35_find_3, hw]
      exact ⟨_, _, ⟨rfl, rfl⟩, rfl, by simp -implicitDefEqProofs⟩)
    (fun _ _ => by
      refine ⟨_, ?_, ?_, rfl⟩
      · simp -implicitDefEqProofs [body_law35_find_3]
      · simp) () trivial
  rw [hk0] at hL3
  have e6 : (ns.map (f0 root)).length = ns.length := by simp
  have e7 : (ns.map (K 12)).length = ns.length := by simp
  have e8 : f0 root root = 12 := by simp [f0]
  have g1 : ns.length ≤ LIM := by unfold LIM; omega
  simp only [List.map_cons, List.map_nil, List.length_cons, List.length_nil, e8] at hL0
  generalize ns.map (f0 root) = kl at *
  generalize ns.map (K 12) = kz at *
  have tk : List.take ns.length (kz.map i6C) = kz.map i6C := List.take_of_length_le (by simp [e7])
  simp -implicitDefEqProofs [code_law35_find]
  rw [hL0 _ (by simp -implicitDefEqProofs [mask_law35_find_0])]
  simp -implicitDefEqProofs
  rw [hL3 _ (by simp -implicitDefEqProofs [mask_law35_find_3])]
  simp -implicitDefEqProofs [e7, tk]
end Bz.S
