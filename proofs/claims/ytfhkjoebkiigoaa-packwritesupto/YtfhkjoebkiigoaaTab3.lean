/- Expressions out of tables: the program's table.Back, the page's ref13.Back, walked. -/
import Derived.Test.YtfhkjoebkiigoaaTab2
set_option linter.unusedSimpArgs false
set_option linter.unusedVariables false
namespace Bz.S
open Go Bz
set_option maxRecDepth 10000
set_option maxHeartbeats 4000000

def textEx (s : Txt) : Ex := .mk 3 s 0 0 0 []
def ex0 : Ex := .mk 0 [] 0 0 0 []
def kidsAt (known : List Ex) : List Int → Option (List Ex)
  | [] => some []
  | k :: r => if k < 0 then none else match known[k.toNat]? with
    | none => none
    | some e => (kidsAt known r).map (e :: ·)
def mkRow (r : Rw) (ks : List Ex) : Ex := .mk r.kind r.name r.n r.lo r.hi (r.set.map textEx ++ ks)
def backRow (r : Rw) (known : List Ex) : Ex × Bool := match kidsAt known r.kids with
  | none => (ex0, false)
  | some ks => (mkRow r ks, decide (astCheck (mkRow r ks) = 0))

def kidsF (known : List Ex) : Nat → List Ex → Int → List Ex ⊕ Unit := fun _ a k => if k < 0 then .inr () else match known[k.toNat]? with
  | none => .inr ()
  | some e => .inl (a ++ [e])
theorem kidsF_fold (known : List Ex) : ∀ (ks : List Int) (i : Nat) (a : List Ex), foldS (kidsF known) ks i a = match kidsAt known ks with | none => .inr () | some es => .inl (a ++ es)
  | [], i, a => by simp [kidsAt]
  | k :: r, i, a => by
    rw [foldS_cons]
    simp only [kidsF, kidsAt]
    by_cases hk : k < 0
    · simp [hk]
    · simp only [hk, if_false]
      cases known[k.toNat]? with
      | none => rfl
      | some e =>
        have := kidsF_fold known r (i + 1) (a ++ [e])
        change foldS (kidsF known) r (i + 1) (a ++ [e]) = _
        rw [this]
        cases kidsAt known r <;> simp

theorem run_tabback (r : Rw) (hr : RwOK r) (known : List Ex) (hk : known.length ≤ BIG) (hb : ∀ ks, kidsAt known r.kids = some ks → exN (mkRow r ks) ≤ BIG) :
    R F_table_back [rwA r, .os 0 known.length 0 known.length] [(0, .arr 6 (known.map exC))] = some (.tup [exA (backRow r known).1, .d (.bool (backRow r known).2)], [(0, .arr 6 (known.map exC))]) := by
  refine R_of at_table_back (by decide) ?_
  obtain ⟨hrs, hrk⟩ := hr
  unfold BIG at hrs hrk hk
  have hL0 := loop_fold (X := X) (mask := mask_table_back_0) (body := body_table_back_0) r.set
    (fun i (a : List Ex) => ⟨mkE 67 [(1, .os 0 known.length 0 known.length), (2, .pv 10000 0), (4, .pv 10010 0), (6, .pv 20110 0), (23, sxS r.set), (24, .d (.int .i64 r.set.length)), (25, .d (.int .i64 i))],
      [(0, .arr 6 (known.map exC)), (10000, .var [.d (.int .i64 r.kind), .d (.str r.name), .d (.int .i64 r.n), .d (.int .i64 r.lo), .d (.int .i64 r.hi), sxS r.set, i6S r.kids]), (10010, .var [.d (.int .i64 0), .d (.str []), .d (.int .i64 0), .d (.int .i64 0), .d (.int .i64 0), .d (.vs true [])]),
       (20110, .var [.d (.int .i64 r.kind), .d (.str r.name), .d (.int .i64 r.n), .d (.int .i64 r.lo), .d (.int .i64 r.hi), .os 22011050 a.length 0 a.length]), (22011050, .arr 6 (a.map exC))]⟩)
    (fun i a => a.length = i) (fun _ a s => a ++ [textEx s])
    (fun a => (.exit 0, ⟨mkE 67 [(1, .os 0 known.length 0 known.length), (2, .pv 10000 0), (4, .pv 10010 0), (6, .pv 20110 0)],
      [(0, .arr 6 (known.map exC)), (10000, .var [.d (.int .i64 r.kind), .d (.str r.name), .d (.int .i64 r.n), .d (.int .i64 r.lo), .d (.int .i64 r.hi), sxS r.set, i6S r.kids]), (10010, .var [.d (.int .i64 0), .d (.str []), .d (.int .i64 0), .d (.int .i64 0), .d (.int .i64 0), .d (.vs true [])]),
       (20110, .var [.d (.int .i64 r.kind), .d (.str r.name), .d (.int .i64 r.n), .d (.int .i64 r.lo), .d (.int .i64 r.hi), .os 22011050 a.length 0 a.length]), (22011050, .arr 6 (a.map exC))]⟩)) (by simp)
    (fun i a s hi hs hI => by
      have hw := wrap_ok (a := (i : Int) + 1) (by omega) (by omega)
      have hal : a.length + 1 ≤ LIM := by unfold LIM; omega
      refine ⟨by simp [hI], ?_⟩
      simp -implicitDefEqProofs [body_table_back_0, mask_table_back_0, hi, hs, hw, hal, textEx, Ex.kind, Ex.name, Ex.n, Ex.lo, Ex.hi, Ex.kids]) (fun a _ => by simp -implicitDefEqProofs [body_table_back_0]) [] rfl
  have hf : ∀ (l : List Txt) (i : Nat) (a : List Ex), foldI (fun _ a s => a ++ [textEx s]) l i a = a ++ l.map textEx := by
    intro l
    induction l with
    | nil => intro i a; simp
    | cons x r ih => intro i a; rw [foldI_cons, ih]; simp
  rw [hf, List.nil_append] at hL0
  have hT : (r.set.map textEx).length = r.set.length := by simp
  obtain ⟨T, hTd⟩ : ∃ T, r.set.map textEx = T := ⟨_, rfl⟩
  rw [hTd] at hL0 hT
  have hL1 := loop_list (X := X) (mask := mask_table_back_1) (body := body_table_back_1) r.kids
    (fun i (a : List Ex) => ⟨mkE 67 [(1, .os 0 known.length 0 known.length), (4, .pv 10010 0), (6, .pv 20110 0), (38, i6S r.kids), (39, .d (.int .i64 r.kids.length)), (40, .d (.int .i64 i))],
      [(0, .arr 6 (known.map exC)), (10010, .var [.d (.int .i64 0), .d (.str []), .d (.int .i64 0), .d (.int .i64 0), .d (.int .i64 0), .d (.vs true [])]),
       (20110, .var [.d (.int .i64 r.kind), .d (.str r.name), .d (.int .i64 r.n), .d (.int .i64 r.lo), .d (.int .i64 r.hi), .os 22011050 a.length 0 a.length]), (22011050, .arr 6 (a.map exC))]⟩)
    (fun i a => a.length = r.set.length + i) (kidsF known)
    (fun a => (.exit 2, ⟨mkE 67 [(4, .pv 10010 0), (6, .pv 20110 0)],
      [(0, .arr 6 (known.map exC)), (10010, .var [.d (.int .i64 0), .d (.str []), .d (.int .i64 0), .d (.int .i64 0), .d (.int .i64 0), .d (.vs true [])]),
       (20110, .var [.d (.int .i64 r.kind), .d (.str r.name), .d (.int .i64 r.n), .d (.int .i64 r.lo), .d (.int .i64 r.hi), .os 22011050 a.length 0 a.length]), (22011050, .arr 6 (a.map exC))]⟩))
    (fun _ => (.ret, ⟨mkE 67 [(4, .pv 10010 0), (5, .d (.bool false))],
      [(0, .arr 6 (known.map exC)), (10010, .var [.d (.int .i64 0), .d (.str []), .d (.int .i64 0), .d (.int .i64 0), .d (.int .i64 0), .d (.vs true [])])]⟩)) (by simp) (by simp)
    (fun i a k hi hx hI => by
      have hw := wrap_ok (a := (i : Int) + 1) (by omega) (by omega)
      have hal : a.length + 1 ≤ LIM := by unfold LIM; omega
      unfold kidsF
      by_cases c1 : k < 0
      · simp only [c1, if_true, Round_inr]
        simp -implicitDefEqProofs [body_table_back_1, mask_table_back_1, hi, hx, c1]
      · simp only [c1, if_false]
        by_cases c2 : k.toNat < known.length
        · have c3 : ¬ (known.length : Int) ≤ k := by omega
          have c4 : 0 ≤ k := by omega
          have c5 : k < (known.length : Int) := by omega
          rw [List.getElem?_eq_getElem c2]
          simp only [Round_inl]
          refine ⟨by simp [hI]; omega, ?_⟩
          simp -implicitDefEqProofs [body_table_back_1, mask_table_back_1, hi, hx, c1, c2, c3, c4, c5, hw, hal]
        · have c3 : (known.length : Int) ≤ k := by omega
          rw [List.getElem?_eq_none (by omega)]
          simp only [Round_inr]
          simp -implicitDefEqProofs [body_table_back_1, mask_table_back_1, hi, hx, c1, c3]) (fun a _ => by simp -implicitDefEqProofs [body_table_back_1]) T (by simp [hT])
  rw [kidsF_fold] at hL1
  unfold backRow
  simp -implicitDefEqProofs [code_table_back]
  rw [hL0 _ (by simp -implicitDefEqProofs [mask_table_back_0])]
  simp -implicitDefEqProofs
  rw [hL1 _ (by simp -implicitDefEqProofs [mask_table_back_1])]
  cases hks : kidsAt known r.kids with
  | none => simp -implicitDefEqProofs [ex0, Ex.kind, Ex.name, Ex.n, Ex.lo, Ex.hi, Ex.kids]
  | some ks =>
    have hc := run_Check _ (hb ks hks)
    unfold mkRow at hc ⊢
    rw [hTd] at hc ⊢
    simp only
    generalize T ++ ks = A at *
    generalize astCheck (Ex.mk r.kind r.name r.n r.lo r.hi A) = C at *
    simp -implicitDefEqProofs [exA, Ex.kind, Ex.name, Ex.n, Ex.lo, Ex.hi, Ex.kids] at hc
    simp -implicitDefEqProofs [hc, Ex.kind, Ex.name, Ex.n, Ex.lo, Ex.hi, Ex.kids]

/-! ### all rows -/
def backAll : List Rw → List Ex → Option (List Ex)
  | [], known => some known
  | r :: rs, known => if (backRow r known).2 = true then backAll rs (known ++ [(backRow r known).1]) else none
def backF : Nat → List Ex → Rw → List Ex ⊕ Unit := fun _ a r => if (backRow r a).2 = true then .inl (a ++ [(backRow r a).1]) else .inr ()
theorem backF_fold : ∀ (l : List Rw) (i : Nat) (a : List Ex), foldS backF l i a = match backAll l a with | none => .inr () | some es => .inl es
  | [], i, a => rfl
  | r :: rs, i, a => by
    rw [foldS_cons]
    simp only [backF, backAll]
    by_cases h : (backRow r a).2 = true
    · simp only [h, if_true]
      have := backF_fold rs (i + 1) (a ++ [(backRow r a).1])
      exact this
    · simp [h]
def tabBack (l : List Rw) : Ex × Int := match backAll l [] with
  | none => (ex0, 16)
  | some known => match known.getLast? with
    | none => (ex0, 16)
    | some e => if tabE e = l then (e, 0) else (ex0, 16)

theorem backRow_ok {r : Rw} {known : List Ex} (h : (backRow r known).2 = true) : astCheck (backRow r known).1 = 0 := by
  unfold backRow at h ⊢
  split at h
  · cases h
  · simpa using h

/-- a table's rows are small -/
theorem rowsE_row {p : Rw → Prop} (h4 : ∀ e, e.kind = 4 → mayOK e = true → p (ownRow e)) (h : ∀ e f, ¬ e.kind = 4 → mayOK e = true → p { ownRow e with kids := (rowsEs e.kids f).2 }) :
    ∀ e, mayOK e = true → ∀ f, ∀ r ∈ rowsE e f, p r := by
  refine exInd (p := fun e => mayOK e = true → ∀ f, ∀ r ∈ rowsE e f, p r) fun e IH hm f r hr => ?_
  rw [rowsE_eq] at hr
  split at hr
  · rename_i k4
    have : r = ownRow e := by simpa using hr
    subst this
    exact h4 e k4 hm
  · rename_i k4
    have hmk : ∀ k ∈ e.kids, mayOK k = true := by
      rw [may_eq, if_neg k4, Bool.and_eq_true, Bool.and_eq_true, mayOKs_all, List.all_eq_true] at hm
      exact hm.2
    rcases List.mem_append.1 hr with hr | hr
    · have key : ∀ (l : List Ex), (∀ k ∈ l, k ∈ e.kids) → ∀ f, ∀ r ∈ (rowsEs l f).1, p r := by
        intro l
        induction l with
        | nil => intro _ f r hr; simp [rowsEs] at hr
        | cons k q ih =>
          intro hk f r hr
          simp only [rowsEs, List.mem_append] at hr
          rcases hr with hr | hr
          · exact IH k (hk k (by simp)) (hmk k (hk k (by simp))) f r hr
          · exact ih (fun x hx => hk x (by simp [hx])) _ r hr
      exact key e.kids (fun k hk => hk) f r hr
    · have : r = { ownRow e with kids := (rowsEs e.kids f).2 } := by simpa using hr
      subst this
      exact h e f k4 hm
theorem rowsEs_kids_len (l : List Ex) (f : Nat) : (rowsEs l f).2.length = l.length := by
  induction l generalizing f with
  | nil => rfl
  | cons k r ih => simp only [rowsEs, List.length_cons]; rw [ih]
theorem rows_OK {e : Ex} (hz : astCheck e = 0) : ∀ r ∈ tabE e, RwOK r := by
  unfold tabE
  rw [if_pos hz]
  have hm := (check_ok.1 hz).2.2
  refine rowsE_row (p := RwOK) (fun e k4 hm => ?_) (fun e f k4 hm => ?_) e hm 0
  · rw [may_eq, if_pos k4, Bool.and_eq_true] at hm
    have h8 := hm.2
    unfold setOK at h8
    simp only [Bool.and_eq_true, decide_eq_true_eq] at h8
    exact ⟨by simp [ownRow, k4]; unfold BIG; omega, by simp [ownRow, BIG]⟩
  · rw [may_eq, if_neg k4, Bool.and_eq_true, Bool.and_eq_true] at hm
    have hal : astKids e.kind = e.kids.length := by simpa using hm.1.1
    have h2 : astKids e.kind ≤ 2 := by unfold astKids; repeat' split
                                       all_goals omega
    refine ⟨by simp [ownRow, k4, BIG], ?_⟩
    simp only
    rw [rowsEs_kids_len]
    unfold BIG; omega

/-- bounds that hold for all that is met -/
structure TabB (l : List Rw) : Prop where
  n : l.length ≤ BIG
  r : ∀ r ∈ l, RwOK r
  /-- no row makes too great a thing of small ones -/
  b : ∀ r ∈ l, ∀ known ks, (∀ e ∈ known, astCheck e = 0) → kidsAt known r.kids = some ks → exN (mkRow r ks) ≤ BIG
  /-- nothing small is too great -/
  s : ∀ e, astCheck e = 0 → exN e ≤ BIG

theorem run_tabBack (l : List Rw) (hl : TabB l) : R F_table_Back [rwS l] [] = some (.tup [exA (tabBack l).1, .d (.int .i64 (tabBack l).2)], []) := by
  refine R_of at_table_Back (by decide) ?_
  have hn := hl.n
  unfold BIG at hn
  have hL := loop_list (X := X) (mask := mask_table_Back_0) (body := body_table_Back_0) l
    (fun i (a : List Ex) => ⟨mkE 52 [(0, rwS l), (2, .pv 10000 0), (4, .os 10000040 a.length 0 a.length), (9, rwS l), (10, .d (.int .i64 l.length)), (11, .d (.int .i64 i))],
      [(10000, .var [.d (.int .i64 0), .d (.str []), .d (.int .i64 0), .d (.int .i64 0), .d (.int .i64 0), .d (.vs true [])]), (10000040, .arr 6 (a.map exC))]⟩)
    (fun i a => a.length = i ∧ ∀ e ∈ a, astCheck e = 0) backF
    (fun a => (.exit 0, ⟨mkE 52 [(0, rwS l), (2, .pv 10000 0), (4, .os 10000040 a.length 0 a.length)],
      [(10000, .var [.d (.int .i64 0), .d (.str []), .d (.int .i64 0), .d (.int .i64 0), .d (.int .i64 0), .d (.vs true [])]), (10000040, .arr 6 (a.map exC))]⟩))
    (fun _ => (.ret, ⟨mkE 52 [(2, .pv 10000 0), (3, .d (.int .i64 16))],
      [(10000, .var [.d (.int .i64 0), .d (.str []), .d (.int .i64 0), .d (.int .i64 0), .d (.int .i64 0), .d (.vs true [])])]⟩)) (by simp) (by simp)
    (fun i a r hi hx hI => by
      have hmem : r ∈ l := hx ▸ List.getElem_mem hi
      have hw := wrap_ok (a := (i : Int) + 1) (by omega) (by omega)
      have hal : a.length + 1 ≤ LIM := by unfold LIM; omega
      have hc := run_tabback r (hl.r r hmem) a (by unfold BIG; omega) (fun ks hks => hl.b r hmem a ks hI.2 hks)
      have hok := @backRow_ok r a
      unfold backF
      generalize backRow r a = Q at *
      obtain ⟨e, ok⟩ := Q
      simp only at hc hok ⊢
      cases ok with
      | false =>
        simp only [Bool.false_eq_true, if_false, Round_inr]
        simp -implicitDefEqProofs [body_table_Back_0, mask_table_Back_0, hi, hx, hc]
      | true =>
        simp only [if_true, Round_inl]
        refine ⟨⟨by simp [hI.1], fun x hx => ?_⟩, ?_⟩
        · rcases List.mem_append.1 hx with h | h
          · exact hI.2 x h
          · have : x = e := by simpa using h
            subst this; exact hok rfl
        · simp -implicitDefEqProofs [body_table_Back_0, mask_table_Back_0, hi, hx, hc, hw, hal]) (fun a _ => by simp -implicitDefEqProofs [body_table_Back_0]) [] ⟨rfl, by simp⟩
  rw [backF_fold] at hL
  have hall : ∀ (l' : List Rw) (a : List Ex) (known : List Ex), (∀ e ∈ a, astCheck e = 0) → backAll l' a = some known → (∀ e ∈ known, astCheck e = 0) ∧ known.length = a.length + l'.length := by
    intro l'
    induction l' with
    | nil => intro a known h hk; cases hk; exact ⟨h, rfl⟩
    | cons r rs ih =>
      intro a known h hk
      simp only [backAll] at hk
      split at hk
      · rename_i hb
        have := ih _ _ (fun x hx => by
          rcases List.mem_append.1 hx with h' | h'
          · exact h x h'
          · have : x = (backRow r a).1 := by simpa using h'
            subst this; exact backRow_ok hb) hk
        refine ⟨this.1, ?_⟩
        rw [this.2]; simp; omega
      · cases hk
  cases hk : backAll l [] with
  | none =>
    have hT : tabBack l = (ex0, 16) := by unfold tabBack; rw [hk]
    rw [hT]
    rw [hk] at hL
    simp -implicitDefEqProofs [code_table_Back]
    rw [hL _ (by simp -implicitDefEqProofs [mask_table_Back_0])]
    simp -implicitDefEqProofs [ex0, Ex.kind, Ex.name, Ex.n, Ex.lo, Ex.hi, Ex.kids]
  | some known =>
    obtain ⟨g1, g2⟩ := hall l [] known (by simp) hk
    rw [hk] at hL
    by_cases hl0 : l = []
    · subst hl0
      have : known = [] := List.eq_nil_of_length_eq_zero (by simpa using g2)
      subst this
      have hT : tabBack [] = (ex0, 16) := rfl
      rw [hT]
      simp -implicitDefEqProofs [code_table_Back]
      simp -implicitDefEqProofs at hL
      rw [hL _ (by simp -implicitDefEqProofs [mask_table_Back_0])]
      simp -implicitDefEqProofs [ex0, Ex.kind, Ex.name, Ex.n, Ex.lo, Ex.hi, Ex.kids]
    · have hlp : 0 < l.length := List.length_pos_iff.2 hl0
      simp at g2
      have hlast : known.length - 1 < known.length := by omega
      have hgl : known.getLast? = some known[known.length - 1] := by
        rw [List.getLast?_eq_getElem?, List.getElem?_eq_getElem hlast]
      obtain ⟨e, he⟩ : ∃ e, known[known.length - 1] = e := ⟨_, rfl⟩
      rw [he] at hgl
      have hz := g1 e (he ▸ List.getElem_mem hlast)
      have hT : tabBack l = if tabE e = l then (e, 0) else (ex0, 16) := by unfold tabBack; rw [hk]; simp only; rw [hgl]
      rw [hT]
      have hO := run_tabOf e (hl.s e hz)
      have hrt : (rowsE e 0).length = size e := rows_len e 0
      have hsz := (check_ok.1 hz).2.1
      have hE := run_EqualRw (tabE e) l (by unfold tabE; rw [if_pos hz]; unfold BIG; omega) (by unfold BIG; omega) (rows_OK hz) hl.r
      have hCl := run_Clone e (hl.s e hz)
      have hw := wrap_ok (a := (known.length : Int) - 1) (by omega) (by omega)
      have hi1 : (0 : Int) ≤ (known.length : Int) - 1 := by omega
      have hi2 : ((known.length : Int) - 1).toNat = known.length - 1 := by omega
      have hi3 : ¬ (l.length : Int) = 0 := by omega
      have hi4 : 0 < known.length := by omega
      have hi5 : (1 : Int) ≤ known.length := by omega
      have hi6 : (known.length : Int) - 1 < known.length := by omega
      generalize tabE e = Q at *
      by_cases ht : Q = l
      · subst ht
        simp -implicitDefEqProofs at hE
        simp -implicitDefEqProofs [code_table_Back]
        rw [hL _ (by simp -implicitDefEqProofs [mask_table_Back_0])]
        simp -implicitDefEqProofs [hl0, hw, hi1, hi2, hi3, hi4, hi5, hi6, hlast, he, hgl, hO, hE, hCl]
      · simp -implicitDefEqProofs [ht] at hE
        simp -implicitDefEqProofs [code_table_Back]
        rw [hL _ (by simp -implicitDefEqProofs [mask_table_Back_0])]
        simp -implicitDefEqProofs [hl0, hw, hi1, hi2, hi3, hi4, hi5, hi6, hlast, he, hgl, hO, hE, ht]
        simp -implicitDefEqProofs [ex0, Ex.kind, Ex.name, Ex.n, Ex.lo, Ex.hi, Ex.kids]
theorem run_tabCheck (l : List Rw) (hl : TabB l) : R F_table_Check [rwS l] [] = some (.d (.int .i64 (tabBack l).2), []) := by
  refine R_of at_table_Check (by decide) ?_
  have h := run_tabBack l hl
  generalize tabBack l = T at *
  simp -implicitDefEqProofs [code_table_Check, h]
end Bz.S
