/- The clean machine, part 2: values without memory, an interpreter of translated code over them, and that it is right about the program; no program in sight. No condition. -/
import Derived.Test.YtkokmockakgjaaaBz0
import Derived.Orders
import Derived.LoopN
import Derived.ScopeJumps
import Derived.Carry
import Derived.ChangeOld
import Derived.DataReads
import GoSem.ClaimChange
import Derived.Below
import Derived.WideShapes
set_option linter.unusedSimpArgs false
set_option linter.unusedVariables false
/- Maps. -/
namespace Bz
open Go

section
variable {P : Program} {w : World} {ρ : Nat → Nat} {S : Nat → Prop} {H : Heap}

/-- two keys of one kind -/
theorem key_equal {kt : TypeId} {ag : Bool} {ks : List SK} (hk : keyKind P kt = some (ag, ks)) {k q : AV} (h1 : keyOK ag ks k = true) (h2 : keyOK ag ks q = true) {r : Bool} (h : avEq k q = some r) {v u : Value}
    (hv : RelA ρ S H w k v) (hu : RelA ρ S H w q u) : (Op.equal kt v u).run P w = .ok r w := by
  show (Op.equalIn 10000 kt v u).run P w = .ok r w
  cases ag with
  | true =>
    cases k <;> simp [keyOK] at h1
    cases q <;> simp [keyOK] at h2
    obtain ⟨xs, rfl, _, _⟩ := agg_cells hv
    obtain ⟨ys, rfl, _, _⟩ := agg_cells hu
    exact equal_struct hk h1 h2 h hv hu
  | false =>
    obtain ⟨s, rfl, hs⟩ := keyKind_scal hk
    cases k <;> simp [keyOK] at h1
    cases q <;> simp [keyOK] at h2
    cases hv; cases hu
    exact scalEq_run h h1 h2 hs (by assumption) (by assumption) 9999

/-- entries, on both sides -/
def EntsRel (ρ : Nat → Nat) (S : Nat → Prop) (H : Heap) (w : World) (ag : Bool) (ks : List SK) (es : List (AV × AV)) (ents : List MapEntry) : Prop :=
  ents.length = es.length ∧ ∀ (i : Nat) (k v : AV), es[i]? = some (k, v) → ∃ e : MapEntry, ents[i]? = some e ∧ keyOK ag ks k = true ∧ refs v = [] ∧ solid v = true ∧ RelA ρ S H w k e.key ∧ RelA ρ S H w v e.val

theorem EntsRel.tail {ag : Bool} {ks : List SK} {p : AV × AV} {es : List (AV × AV)} {e : MapEntry} {ents : List MapEntry} (h : EntsRel ρ S H w ag ks (p :: es) (e :: ents)) : EntsRel ρ S H w ag ks es ents :=
  ⟨by simpa using h.1, fun i k v hi => by simpa using h.2 (i + 1) k v (by simpa using hi)⟩

/-- where the key is found -/
def idxE (k : AV) : List (AV × AV) → Option Nat
  | [] => none
  | (q, _) :: r => match avEq k q with
    | some true => some 0
    | _ => (idxE k r).map (· + 1)

theorem findAsking_run {kt : TypeId} {ag : Bool} {ks : List SK} (hk : keyKind P kt = some (ag, ks)) {k : AV} (h1 : keyOK ag ks k = true) {v : Value} (hv : RelA ρ S H w k v) : ∀ (es : List (AV × AV)) (ents : List MapEntry) (i : Nat),
    EntsRel ρ S H w ag ks es ents → ∀ r, findE k es = some r →
    (Instr.findAsking kt v ents i).run P w = .ok ((idxE k es).bind fun j => (ents[j]?).map fun e => (i + j, e.val)) w ∧ (r.isSome = (idxE k es).isSome) ∧
      ∀ x, r = some x → ∃ j q, idxE k es = some j ∧ es[j]? = some (q, x)
  | [], ents, i, he, r, h => by
    simp only [findE] at h; cases h
    have : ents = [] := List.length_eq_zero_iff.1 (by simpa using he.1)
    subst this
    exact ⟨rfl, rfl, fun x hx => by cases hx⟩
  | (q, x) :: es, ents, i, he, r, h => by
    cases ents with
    | nil => have := he.1; simp at this
    | cons e ents =>
      obtain ⟨e', he', g1, g2, g3, g4, g5⟩ := he.2 0 q x rfl
      simp at he'; subst he'
      simp only [findE] at h
      simp only [Instr.findAsking, Sem.run_bind]
      split at h
      · rename_i hq
        cases h
        rw [key_equal hk h1 g1 hq hv g4]
        simp only [Result.andThen_ok, if_true, Sem.run_pure, idxE, hq]
        exact ⟨rfl, rfl, fun y hy => by cases hy; exact ⟨0, q, rfl, rfl⟩⟩
      · rename_i hq
        rw [key_equal hk h1 g1 hq hv g4]
        obtain ⟨a1, a2, a3⟩ := findAsking_run hk h1 hv es ents (i + 1) he.tail r h
        simp only [Result.andThen_ok, Bool.false_eq_true, if_false, a1, idxE, hq]
        refine ⟨?_, by rw [a2]; cases idxE k es <;> rfl, fun y hy => ?_⟩
        · cases hx : idxE k es with
          | none => rfl
          | some j => simp [Nat.add_assoc, Nat.add_comm 1 j]
        · obtain ⟨j, q', b1, b2⟩ := a3 y hy
          exact ⟨j + 1, q', by rw [b1]; rfl, by simpa using b2⟩
      · cases h

/-- findNow comes to the same -/
theorem findNow_eq {kt : TypeId} {d : TypeDesc} (hd : P.underlying kt = some d) (v : Value) : ∀ (ents : List MapEntry) (i : Nat) (r : Option (Nat × Value)), Instr.findNow d v ents i = some r → (Instr.findAsking kt v ents i).run P w = .ok r w
  | [], i, r, h => by simp only [Instr.findNow] at h; cases h; rfl
  | e :: ents, i, r, h => by
    simp only [Instr.findNow] at h
    have key : ∀ b, Instr.sameNow d v e.key = some b → (Op.equal kt v e.key).run P w = .ok b w := by
      intro b hb
      show (Op.equalIn 10000 kt v e.key).run P w = .ok b w
      unfold Instr.sameNow at hb
      generalize e.key = u at hb ⊢
      split at hb
      · rename_i k a k' b'
        split at hb
        · subst_vars; cases hb; exact run_equalIn_int w 9999 kt _ _ _ _ hd
        · cases hb
      · cases hb
        rw [run_equalIn_string w 9999 kt _ _ hd, beq_toListBytes]
      · cases hb; exact run_equalIn_bool' w 9999 kt _ _ hd
      · cases hb
    simp only [Instr.findAsking, Sem.run_bind]
    split at h
    · rename_i hs
      cases h
      rw [key true hs]; rfl
    · rename_i hs
      rw [key false hs]
      simp only [Result.andThen_ok, Bool.false_eq_true, if_false]
      exact findNow_eq hd v ents (i + 1) r h
    · cases h

theorem findKey_run {kt : TypeId} {ag : Bool} {ks : List SK} (hk : keyKind P kt = some (ag, ks)) {k : AV} (h1 : keyOK ag ks k = true) {v : Value} (hv : RelA ρ S H w k v) {es : List (AV × AV)} {ents : List MapEntry}
    (he : EntsRel ρ S H w ag ks es ents) {r : Option AV} (h : findE k es = some r) :
    (Instr.findKey kt v ents).run P w = .ok ((idxE k es).bind fun j => (ents[j]?).map fun e => (j, e.val)) w ∧ (r.isSome = (idxE k es).isSome) ∧ ∀ x, r = some x → ∃ j q, idxE k es = some j ∧ es[j]? = some (q, x) := by
  obtain ⟨a1, a2, a3⟩ := findAsking_run hk h1 hv es ents 0 he r h
  simp only [Nat.zero_add] at a1
  refine ⟨?_, a2, a3⟩
  have hd : ∃ d, P.underlying kt = some d := by
    cases ag with
    | true => obtain ⟨fs, h, _⟩ := keyKind_struct hk; exact ⟨_, h⟩
    | false =>
      obtain ⟨s, _, hs⟩ := keyKind_scal hk
      unfold skOf at hs
      cases hu : P.underlying kt with
      | none => simp [hu] at hs
      | some d => exact ⟨d, rfl⟩
  obtain ⟨d, hd⟩ := hd
  unfold Instr.findKey
  simp only [Sem.run_bind, run_underlying hd, Result.andThen_ok]
  cases hn : Instr.findNow d v ents 0 with
  | none => exact a1
  | some q =>
    have := findNow_eq (w := w) hd v ents 0 q hn
    rw [a1] at this
    cases this
    rfl

/-- keys of these kinds can be keys -/
theorem checkFields (n : Nat) (empty : Bool) {vs : Array Value} : ∀ (fs : List Field) (ks : List SK) (o : Nat) (cs : List AV), sksOf P fs = some ks → fs.map (·.offset) = (List.range fs.length).map (o + ·) → cellsOK ks cs = true →
    (∀ (k : Nat) (x : AV), cs[k]? = some x → ∃ v, vs[o + k]? = some v ∧ RelA ρ S H w x v) →
    (forIn fs PUnit.unit fun (f : Field) (_ : PUnit) => (do
      if f.name ≠ "_" then Instr.checkKey empty (n + 1) f.type (← part f.type vs f.offset)
      pure (ForInStep.yield PUnit.unit) : Sem (ForInStep PUnit))).run P w = .ok PUnit.unit w
  | [], _, _, _, _, _, _, _ => by simp
  | f :: fs, ks, o, cs, hk, hoff, hc, hv => by
    simp only [sksOf] at hk
    split at hk
    · rename_i k as hk1 hk2
      split at hk
      · rename_i hn
        cases hk
        simp only [Bool.and_eq_true, bne_iff_ne, ne_eq, beq_iff_eq] at hn
        cases cs with
        | nil => simp [cellsOK] at hc
        | cons x cs =>
          cases x with
          | d x =>
            simp only [cellsOK, Bool.and_eq_true] at hc
            have ho : f.offset = o := by
              have := congrArg (fun l => l.head?) hoff
              simp [List.range_succ_eq_map] at this
              exact this
            have hrest : fs.map (·.offset) = (List.range fs.length).map (o + 1 + ·) := by
              have := congrArg List.tail hoff
              simp [List.range_succ_eq_map] at this
              rw [this]
              apply List.map_congr_left
              intro q _; simp only [Function.comp]; omega
            obtain ⟨v, hv0, hrv⟩ := hv 0 _ rfl
            rw [Nat.add_zero] at hv0
            have hv' : ∀ (k : Nat) (x : AV), cs[k]? = some x → ∃ v, vs[o + 1 + k]? = some v ∧ RelA ρ S H w x v := fun k x hkx => by
              have := hv (k + 1) x (by simpa using hkx); rwa [show o + (k + 1) = o + 1 + k by omega] at this
            have hty : ∃ d, P.underlying f.type = some d ∧ ((∃ k, d = .int k) ∨ d = .bool ∨ d = .string) := by
              unfold skOf at hk1
              split at hk1 <;> cases hk1
              · rename_i k h; exact ⟨_, h, .inl ⟨k, rfl⟩⟩
              · rename_i h; exact ⟨_, h, .inr (.inl rfl)⟩
              · rename_i h; exact ⟨_, h, .inr (.inr rfl)⟩
            obtain ⟨d, hd, hdk⟩ := hty
            have hck : (Instr.checkKey empty (n + 1) f.type v).run P w = .ok () w := by
              simp only [Instr.checkKey, Sem.run_bind, run_underlying hd, Result.andThen_ok]
              rcases hdk with ⟨k, rfl⟩ | rfl | rfl <;> rfl
            simp only [List.forIn_cons, Sem.run_bind]
            rw [if_pos hn.1]
            simp only [Sem.run_bind, ho, part_scal hk1 hv0, Result.andThen_ok, hck, Sem.run_pure]
            exact checkFields n empty fs as (o + 1) cs hk2 hrest hc.2 hv'
          | _ => simp [cellsOK] at hc
      · cases hk
    · cases hk

theorem checkKey_any {kt : TypeId} {ag : Bool} {ks : List SK} (hk : keyKind P kt = some (ag, ks)) {k : AV} (h1 : keyOK ag ks k = true) {v : Value} (hv : RelA ρ S H w k v) (empty : Bool) (n : Nat) : (Instr.checkKey empty (n + 2) kt v).run P w = .ok () w := by
  cases ag with
  | true =>
    obtain ⟨fs, h2, h3, _, _, h5⟩ := keyKind_struct hk
    cases k <;> simp [keyOK] at h1
    obtain ⟨vs, rfl, _, hc⟩ := agg_cells hv
    have := checkFields (P := P) (w := w) n empty (vs := vs) fs.toList ks 0 _ h5 (by rw [h3]; simp) h1 (fun k x hk => by simpa using hc k x hk)
    rw [Instr.checkKey]
    simp only [Sem.run_bind, run_underlying h2, Result.andThen_ok]
    rw [← Array.forIn_toList]
    simp at this ⊢
    rw [this]; rfl
  | false =>
    obtain ⟨s, rfl, hs⟩ := keyKind_scal hk
    unfold skOf at hs
    rw [Instr.checkKey]
    simp only [Sem.run_bind]
    cases hu : P.underlying kt with
    | none => simp [hu] at hs
    | some d =>
      simp only [run_underlying hu, Result.andThen_ok]
      rw [hu] at hs
      cases d <;> simp at hs <;> rfl

theorem checkKey_run {kt : TypeId} {ag : Bool} {ks : List SK} (hk : keyKind P kt = some (ag, ks)) {k : AV} (h1 : keyOK ag ks k = true) {v : Value} (hv : RelA ρ S H w k v) (empty : Bool) : (Instr.checkKey empty 10000 kt v).run P w = .ok () w :=
  checkKey_any hk h1 hv empty 9998

theorem scalEq_true {x y : D} (h : scalEq x y = some true) : x = y := by
  cases x <;> cases y <;> simp only [scalEq] at h <;> (first | (cases h; done) | skip)
  · split at h
    · subst_vars; simpa using h
    · cases h
  · simpa using h
  · simpa using h

theorem aggEq_true : ∀ {a b : List AV}, aggEq a b = some true → a = b
  | [], [], _ => rfl
  | .d x :: r, .d y :: s, h => by
    simp only [aggEq] at h
    split at h
    · rename_i e; rw [scalEq_true e, aggEq_true h]
    · obtain ⟨_, _, e⟩ := Option.map_eq_some_iff.1 h; cases e
    · cases h
  | [], _ :: _, h => by simp [aggEq] at h
  | .d _ :: _, [], h => by simp [aggEq] at h
  | .d _ :: _, .undef :: _, h => by simp [aggEq] at h
  | .d _ :: _, .os .. :: _, h => by simp [aggEq] at h
  | .d _ :: _, .pv .. :: _, h => by simp [aggEq] at h
  | .d _ :: _, .pa .. :: _, h => by simp [aggEq] at h
  | .d _ :: _, .vp .. :: _, h => by simp [aggEq] at h
  | .d _ :: _, .map _ :: _, h => by simp [aggEq] at h
  | .d _ :: _, .fn .. :: _, h => by simp [aggEq] at h
  | .d _ :: _, .agg _ :: _, h => by simp [aggEq] at h
  | .d _ :: _, .tup _ :: _, h => by simp [aggEq] at h
  | .undef :: _, _, h => by simp [aggEq] at h
  | .os .. :: _, _, h => by simp [aggEq] at h
  | .pv .. :: _, _, h => by simp [aggEq] at h
  | .pa .. :: _, _, h => by simp [aggEq] at h
  | .vp .. :: _, _, h => by simp [aggEq] at h
  | .map _ :: _, _, h => by simp [aggEq] at h
  | .fn .. :: _, _, h => by simp [aggEq] at h
  | .agg _ :: _, _, h => by simp [aggEq] at h
  | .tup _ :: _, _, h => by simp [aggEq] at h

theorem avEq_true {a b : AV} (h : avEq a b = some true) : a = b := by
  cases a <;> cases b <;> simp only [avEq] at h
  all_goals first
    | rw [scalEq_true h]
    | rw [aggEq_true h]
    | cases h

theorem idxE_spec {k : AV} : ∀ {es : List (AV × AV)} {j : Nat}, idxE k es = some j → ∃ x, es[j]? = some (k, x)
  | [], j, h => by simp [idxE] at h
  | (q, x) :: r, j, h => by
    simp only [idxE] at h
    split at h
    · rename_i e; cases h
      exact ⟨x, by rw [avEq_true e]; rfl⟩
    · obtain ⟨i, hi, rfl⟩ := Option.map_eq_some_iff.1 h
      obtain ⟨y, hy⟩ := idxE_spec hi
      exact ⟨y, by simpa using hy⟩

theorem setE_idx (k v : AV) : ∀ (es : List (AV × AV)), setE k v es = match idxE k es with | some j => es.set j (k, v) | none => es ++ [(k, v)]
  | [] => rfl
  | (q, x) :: r => by
    simp only [setE, idxE]
    cases h : avEq k q with
    | none =>
      simp only [reduceCtorEq, if_false, setE_idx k v r]
      cases idxE k r <;> rfl
    | some b =>
      cases b with
      | true => simp only [if_true]; rw [avEq_true h]; rfl
      | false =>
        simp only [Option.some.injEq, Bool.false_eq_true, if_false, setE_idx k v r]
        cases idxE k r <;> rfl

theorem delE_idx (k : AV) : ∀ (es : List (AV × AV)), delE k es = match idxE k es with | some j => es.eraseIdx j | none => es
  | [] => rfl
  | (q, x) :: r => by
    simp only [delE, idxE]
    cases h : avEq k q with
    | none =>
      simp only [reduceCtorEq, if_false, delE_idx k r]
      cases idxE k r <;> rfl
    | some b =>
      cases b with
      | true => simp only [if_true]; rfl
      | false =>
        simp only [Option.some.injEq, Bool.false_eq_true, if_false, delE_idx k r]
        cases idxE k r <;> rfl

theorem comp_mp {l : Nat} {ag ag' : Bool} {ks ks' : List SK} {es es' : List (AV × AV)} (h : hget H l = some (.mp ag ks es)) : Comp ρ H l (upd ρ l (ρ l)) (hset H l (.mp ag' ks' es')) l := by
  refine ⟨fun sz m hm => ?_, fun hm => ?_, fun _ => ⟨⟨ag, ks, es, h⟩, upd_self ..⟩⟩
  · obtain ⟨e, he, _⟩ := hm; rw [hget_set_self] at he; rcases he with he | he <;> cases he
  · obtain ⟨e, he⟩ := hm; rw [hget_set_self] at he; cases he

theorem map_step {l : Nat} {ag : Bool} {ks : List SK} {es es' : List (AV × AV)} (hi : Inv ρ S H w) (h : hget H l = some (.mp ag ks es)) {ents ents' : Array MapEntry} {clk clk' : Nat} (hb : w.heap[ρ l]? = some (.map ents clk)) {w' : World}
    (hw : w'.heap = w.heap.setIfInBounds (ρ l) (.map ents' clk')) (hr : EntsRel ρ S H w ag ks es' ents'.toList) (hbn : Born ents' clk') (hout : Outer w w' := by exact ⟨rfl, rfl, rfl, by first | exact Nat.le_refl _ | exact Nat.le_add_right _ _⟩) : Step No ρ S H w (upd ρ l (ρ l)) S (hset H l (.mp ag ks es')) w' := by
  have hlt := lt_of_get hb
  have hoth : ∀ c, c ≠ ρ l → w'.heap[c]? = w.heap[c]? := by
    intro c hc; rw [hw, Array.getElem?_setIfInBounds_ne (fun e => hc e.symm)]
  have hat : w'.heap[ρ l]? = some (.map ents' clk') := by rw [hw]; simp [hlt]
  refine step_write hi l _ (ρ l) w' (.inr ⟨⟨_, h, rfl⟩, rfl⟩) hoth (fun b cs T fr hb' => ?_) (by rw [hw]; simp) (.inr (comp_mp h)) (.inl id) ?_ hout
  · by_cases e : b = ρ l
    · subst e; rw [hb] at hb'; cases hb'
    · exact ⟨cs, fr, by rw [hoth b e]; exact hb', rfl⟩
  · intro hrel _
    refine ⟨ents', clk', hat, ⟨by simpa using hr.1, hbn⟩, fun i k v hik => ?_⟩
    obtain ⟨e, a1, a2, a3, a4, a5, a6⟩ := hr.2 i k v hik
    exact ⟨e, by simpa using a1, a2, a3, a4, hrel _ _ (fun _ _ => .inr id) a5, hrel _ _ (fun _ _ => .inr id) a6⟩

theorem entsRel_of {l : Nat} {ag : Bool} {ks : List SK} {es : List (AV × AV)} (hi : Inv ρ S H w) (h : hget H l = some (.mp ag ks es)) :
    ∃ ents clk, w.heap[ρ l]? = some (.map ents clk) ∧ EntsRel ρ S H w ag ks es ents.toList := by
  obtain ⟨ents, clk, hb, hsz, hr⟩ := hi.obj l _ h
  exact ⟨ents, clk, hb, by simpa using hsz.1, fun i k v hik => by obtain ⟨e, a1, a2⟩ := hr i k v hik; exact ⟨e, by simpa using a1, a2⟩⟩
theorem born_of {l : Nat} {ag : Bool} {ks : List SK} {es : List (AV × AV)} (hi : Inv ρ S H w) (h : hget H l = some (.mp ag ks es)) {ents : Array MapEntry} {clk : Nat} (hb : w.heap[ρ l]? = some (.map ents clk)) : Born ents clk := by
  obtain ⟨ents', clk', hb', hsz, _⟩ := hi.obj l _ h
  rw [hb] at hb'
  cases hb'
  exact hsz.2
theorem Born.push {ents : Array MapEntry} {clk : Nat} (h : Born ents clk) (k v : Value) : Born (ents.push { key := k, val := v, born := clk }) (clk + 1) := by
  refine ⟨?_, fun e he => ?_⟩
  · rw [Array.toList_push, List.map_append]
    refine List.nodup_append.2 ⟨h.1, by simp, fun a ha b hb => ?_⟩
    obtain ⟨e, he, rfl⟩ := List.mem_map.1 ha
    have := h.2 e he
    simp at hb
    omega
  · rw [Array.toList_push] at he
    rcases List.mem_append.1 he with he | he
    · have := h.2 e he; omega
    · simp at he; subst he; simp
theorem Born.same {ents ents' : Array MapEntry} {clk : Nat} (h : Born ents clk) (e : ents'.toList.map (·.born) = ents.toList.map (·.born)) : Born ents' clk := by
  refine ⟨by rw [e]; exact h.1, fun x hx => ?_⟩
  have : x.born ∈ ents.toList.map (·.born) := by rw [← e]; exact List.mem_map_of_mem hx
  obtain ⟨y, hy, e2⟩ := List.mem_map.1 this
  have := h.2 y hy
  omega
theorem Born.sub {ents ents' : Array MapEntry} {clk : Nat} (h : Born ents clk) (e : ents'.toList.Sublist ents.toList) : Born ents' clk :=
  ⟨h.1.sublist (e.map _), fun x hx => h.2 x (e.subset hx)⟩

theorem rel_some {v : AV} {x : Value} (h : RelA ρ S H w v x) {H' : Heap} {ρ' : Nat → Nat} (hr : refs v = []) : RelA ρ' S H' w v x :=
  h.keep (fun _ h => h) (fun _ _ => rfl) (.refl w) (by simp [hr])

theorem RelA.normA {v : AV} {x : Value} (h : RelA ρ S H w v x) : RelA ρ S H w (normA v) x := by
  cases h with
  | d x v h => exact .d _ _ h.norm
  | agg cs vs ys h1 h2 h3 =>
    have hm : ∀ (i : Nat) (y : AV), (cs.map fun | .d x => AV.d (norm x) | v => v)[i]? = some y → ∃ c, cs[i]? = some c ∧ (∀ u, RelA ρ S H w c u → RelA ρ S H w y u) := by
      intro i y hy
      rw [List.getElem?_map] at hy
      obtain ⟨c, hc, rfl⟩ := Option.map_eq_some_iff.1 hy
      refine ⟨c, hc, fun u hu => ?_⟩
      cases hu with
      | d _ _ h => exact .d _ _ h.norm
      | undef => exact .undef _
      | anyb => exact .anyb _
      | os _ _ _ _ _ a b => exact .os _ _ _ _ _ a b
      | pv _ _ _ a b => exact .pv _ _ _ a b
      | pa _ _ _ _ _ a b => exact .pa _ _ _ _ _ a b
      | vp _ _ _ _ a b c => exact .vp _ _ _ _ a b c
      | map _ _ a b => exact .map _ _ a b
      | fn _ _ _ _ a b c => exact .fn _ _ _ _ a b c
      | agg _ _ _ a b c => exact .agg _ _ _ a b c
      | tup _ _ _ a b c => exact .tup _ _ _ a b c
    refine .agg _ vs ys (by simpa using h1) (fun i y hy => ?_) (fun i y hy => ?_)
    · obtain ⟨c, hc, _⟩ := hm i y hy; exact h2 i c hc
    · obtain ⟨c, hc, hr⟩ := hm i y hy; exact hr _ (h3 i c hc)
  | undef => exact .undef _
  | anyb => exact .anyb _
  | os _ _ _ _ _ a b => exact .os _ _ _ _ _ a b
  | pv _ _ _ a b => exact .pv _ _ _ a b
  | pa _ _ _ _ _ a b => exact .pa _ _ _ _ _ a b
  | vp _ _ _ _ a b c => exact .vp _ _ _ _ a b c
  | map _ _ a b => exact .map _ _ a b
  | fn _ _ _ _ a b c => exact .fn _ _ _ _ a b c
  | tup _ _ _ a b c => exact .tup _ _ _ a b c

theorem lookup_rel {t kt e : TypeId} (ht : P.underlying t = some (.map kt e)) {ag : Bool} {ks : List SK} (hk : keyKind P kt = some (ag, ks)) {z : AV} (hz : zeroOf P e = some z) (hi : Inv ρ S H w)
    {x k : AV} {vx vk : Value} (hx : RelA ρ S H w x vx) (hkr : RelA ρ S H w k vk) {r : Option AV} (h : alookup H ag ks x k = some r) (ok : Bool) :
    ∃ y, (Instr.lookup t vx vk ok).run P w = .ok y w ∧ RelA ρ S H w (if ok then .tup [r.getD (normA z), boolV r.isSome] else r.getD (normA z)) y := by
  have hzr : ∃ zv, (∀ w, (zeroValue e).run P w = .ok zv w) ∧ RelA ρ S H w (normA z) zv := by
    unfold zeroOf at hz
    obtain ⟨zv, h1, h2⟩ := Option.bind_eq_some_iff.1 hz
    obtain ⟨i, h3, h4⟩ := Option.bind_eq_some_iff.1 h1
    exact ⟨zv, run_zero h3 h4, (cv_rel h2).normA⟩
  obtain ⟨zv, hzv, hzr⟩ := hzr
  have fin : ∀ (b : Bool) (v : AV) (y : Value), RelA ρ S H w v y → RelA ρ S H w (if ok then .tup [v, boolV b] else v) (if ok then .tuple #[y, .bool b] else y) := by
    intro b v y hr
    cases ok with
    | false => exact hr
    | true =>
      refine .tup [v, boolV b] #[y, .bool b] (fun i => (#[y, .bool b] : Array Value).getD i undef) rfl (fun i x hi => ?_) (fun i x hi => ?_)
      · match i with
        | 0 => rfl
        | 1 => rfl
        | i + 2 => simp at hi
      · match i with
        | 0 => simp at hi; subst hi; exact hr
        | 1 => simp at hi; subst hi; exact rel_bool _
        | i + 2 => simp at hi
  unfold alookup at h
  split at h
  · rename_i hko
    split at h
    · cases h
      cases hx with
      | d _ _ hd =>
        cases hd
        refine ⟨_, ?_, fin false (normA z) zv hzr⟩
        simp only [Instr.lookup, Sem.run_bind, run_underlying ht, Result.andThen_ok, Sem.run_pure, checkKey_run hk hko hkr]
        have hd : ∃ d, P.underlying kt = some d := by
          cases ag with
          | true => obtain ⟨fs, h, _⟩ := keyKind_struct hk; exact ⟨_, h⟩
          | false =>
            obtain ⟨s, _, hs⟩ := keyKind_scal hk
            unfold skOf at hs
            cases hu : P.underlying kt with
            | none => simp [hu] at hs
            | some d => exact ⟨d, rfl⟩
        obtain ⟨d, hd⟩ := hd
        simp only [Instr.findKey, Sem.run_bind, run_underlying hd, Result.andThen_ok, Instr.findNow, Sem.run_pure, hzv]
    · rename_i l
      split at h
      · rename_i ag' ks' es hes
        split at h
        · rename_i hc
          obtain ⟨rfl, rfl⟩ := hc
          cases hx with
          | map _ _ _ hm =>
            have := hm ⟨_, _, _, hes⟩; subst this
            obtain ⟨ents, clk, hb, he⟩ := entsRel_of hi hes
            obtain ⟨f1, f2, f3⟩ := findKey_run (P := P) hk hko hkr he h
            have hgo : (getObj (ρ l)).run P w = .ok (.map ents clk) w := by simp [getObj, Sem.run, hb]
            cases r with
            | none =>
              have hnone : idxE k es = none := by
                cases hx : idxE k es with
                | none => rfl
                | some j => rw [hx] at f2; simp at f2
              rw [hnone] at f1
              refine ⟨_, ?_, fin false (normA z) zv hzr⟩
              simp only [Instr.lookup, Sem.run_bind, run_underlying ht, Result.andThen_ok, hgo, Sem.run_pure, checkKey_run hk hko hkr, f1, Option.bind_none, hzv]
            | some x =>
              obtain ⟨j, q, g1, g2⟩ := f3 x rfl
              obtain ⟨en, e1, _, _, _, _, e6⟩ := he.2 j q x g2
              rw [g1] at f1
              simp only [Option.bind_some, e1, Option.map_some] at f1
              refine ⟨_, ?_, fin true x en.val e6⟩
              simp only [Instr.lookup, Sem.run_bind, run_underlying ht, Result.andThen_ok, hgo, Sem.run_pure, checkKey_run hk hko hkr, f1]
        · cases h
      · cases h
    · cases h
  · cases h

theorem stays_run (old new : Value) : ∃ w1 key, (Instr.keyThatStays old new).run P w = .ok key w1 ∧ w1.heap = w.heap ∧ Outer w w1 ∧ (key = new ∨ key = old) := by
  unfold Instr.keyThatStays
  by_cases h : Instr.sameBits 10000 old new = true
  · exact ⟨w, new, by rw [if_pos h]; rfl, rfl, ⟨rfl, rfl, rfl, by first | exact Nat.le_refl _ | exact Nat.le_add_right _ _⟩, .inl rfl⟩
  · rw [if_neg h]
    simp only [Sem.run_bind, run_choose, Question.forced]
    refine ⟨w.drew, if (Question.extern "map.whichKeyStays" 2).cut (w.tape w.drawn (.extern "map.whichKeyStays" 2)) = 0 then new else old, rfl, rfl, ⟨rfl, rfl, rfl, by first | exact Nat.le_refl _ | exact Nat.le_add_right _ _⟩, ?_⟩
    split
    · exact .inl rfl
    · exact .inr rfl

theorem setObj_run {b : Nat} {o o' : Obj} (h : w.heap[b]? = some o) (hc : ∀ cs T fr, o ≠ .cells cs T fr) : (setObj b o').run P w = .ok () { w with heap := w.heap.setIfInBounds b o' } := by
  unfold setObj
  simp only [Sem.run, h]

/-- one entry written -/
theorem entsRel_set {ag : Bool} {ks : List SK} {es : List (AV × AV)} {ents : List MapEntry} (h : EntsRel ρ S H w ag ks es ents) {j : Nat} {k v : AV} (hk : keyOK ag ks k = true) (hv1 : refs v = []) (hv2 : solid v = true) {e : MapEntry}
    (hkr : RelA ρ S H w k e.key) (hvr : RelA ρ S H w v e.val) : EntsRel ρ S H w ag ks (es.set j (k, v)) (ents.set j e) := by
  refine ⟨by simpa using h.1, fun i k' v' hi => ?_⟩
  rw [List.getElem?_set] at hi
  by_cases c : j = i
  · subst c
    rw [if_pos rfl] at hi
    split at hi
    · rename_i hl
      cases hi
      exact ⟨e, by rw [List.getElem?_set]; simp [h.1, hl], hk, hv1, hv2, hkr, hvr⟩
    · cases hi
  · rw [if_neg c] at hi
    obtain ⟨e', a⟩ := h.2 i k' v' hi
    exact ⟨e', by rw [List.getElem?_set, if_neg c]; exact a.1, a.2⟩

theorem entsRel_push {ag : Bool} {ks : List SK} {es : List (AV × AV)} {ents : List MapEntry} (h : EntsRel ρ S H w ag ks es ents) {k v : AV} (hk : keyOK ag ks k = true) (hv1 : refs v = []) (hv2 : solid v = true) {e : MapEntry}
    (hkr : RelA ρ S H w k e.key) (hvr : RelA ρ S H w v e.val) : EntsRel ρ S H w ag ks (es ++ [(k, v)]) (ents ++ [e]) := by
  refine ⟨by simp [h.1], fun i k' v' hi => ?_⟩
  by_cases c : i < es.length
  · rw [List.getElem?_append_left c] at hi
    obtain ⟨e', a⟩ := h.2 i k' v' hi
    exact ⟨e', by rw [List.getElem?_append_left (by rw [h.1]; exact c)]; exact a.1, a.2⟩
  · rw [List.getElem?_append_right (by omega)] at hi
    have : i - es.length = 0 := by
      rcases Nat.eq_zero_or_pos (i - es.length) with q | q
      · exact q
      · rw [List.getElem?_eq_none (by simp; omega)] at hi; cases hi
    rw [this] at hi
    simp at hi
    obtain ⟨rfl, rfl⟩ := hi
    exact ⟨e, by rw [List.getElem?_append_right (by rw [h.1]; omega), h.1, this]; rfl, hk, hv1, hv2, hkr, hvr⟩

theorem EntsRel.heap {ag : Bool} {ks : List SK} {es : List (AV × AV)} {ents : List MapEntry} {w' : World} (h : EntsRel ρ S H w ag ks es ents) (hw : w'.heap = w.heap) : EntsRel ρ S H w' ag ks es ents :=
  ⟨h.1, fun i k v hi => by obtain ⟨e, a1, a2, a3, a4, a5, a6⟩ := h.2 i k v hi; exact ⟨e, a1, a2, a3, a4, a5.heap hw, a6.heap hw⟩⟩

theorem Step.heap0 {N : Nat → Prop} {ρ' : Nat → Nat} {S' : Nat → Prop} {H' : Heap} {w0 w' : World} (h : Step N ρ S H w0 ρ' S' H' w') (hw : w0.heap = w.heap) (hout : Outer w w0 := by exact ⟨rfl, rfl, rfl, by first | exact Nat.le_refl _ | exact Nat.le_add_right _ _⟩) : Step N ρ S H w ρ' S' H' w' where
  outer := ⟨h.outer.1.trans hout.1, h.outer.2.1.trans hout.2.1, h.outer.2.2.1.trans hout.2.2.1, Nat.le_trans hout.2.2.2 h.outer.2.2.2⟩
  inv := h.inv
  sub := h.sub
  new b hb := by have := h.new b hb; rwa [hw] at this
  frame b hb hf := by have := h.frame b (by rw [hw]; exact hb) hf; rwa [hw] at this
  grow b cs T fr hb := h.grow b cs T fr (by rw [hw]; exact hb)
  size := by have := h.size; rwa [hw] at this
  live l hl := by have := h.live l hl; rwa [hw] at this
  comp := h.comp

theorem mapupd_rel {t kt e : TypeId} (ht : P.underlying t = some (.map kt e)) {ag : Bool} {ks : List SK} (hk : keyKind P kt = some (ag, ks)) (hi : Inv ρ S H w)
    {x k v : AV} {vx vk vv : Value} (hx : RelA ρ S H w x vx) (hkr : RelA ρ S H w k vk) (hvr : RelA ρ S H w v vv) {r : AV} {u : Upd} (h : amapupd H ag ks x k v = some (r, u)) :
    r = .tup [] ∧ ∃ w', (Instr.mapUpdate t vx vk vv).run P w = .ok () w' ∧ ∃ ρ' S', Step No ρ S H w ρ' S' (applyU H u) w' := by
  unfold amapupd at h
  split at h
  · rename_i l
    split at h
    · rename_i ag' ks' es hes
      split at h
      · rename_i hc
        obtain ⟨hko, rfl, rfl⟩ := hc
        split at h
        · rename_i fr xv hf hvw
          split at h
          · rename_i hcond
            cases h
            refine ⟨rfl, ?_⟩
            obtain ⟨hrefs, hsol⟩ := hcond
            have hrefs : refs xv = [] := by simpa using hrefs
            obtain ⟨S1, st1, hS1, _, hk2⟩ := step_frzs (N := No) hi (arrsOf v)
            rw [applyU_append]
            generalize hH1 : applyU H (frz H (arrsOf v)) = H1 at *
            have hes1 : hget H1 l = some (.mp ag' ks' es) := by
              rw [hk2 l _ hes (fun _ _ e => by cases e)]; exact hes
            -- the value, its slices by content
            have hxv : RelA ρ S1 H1 w xv vv := by
              cases v with
              | os l' n off len =>
                simp only [vw] at hvw
                obtain ⟨d, hd, rfl⟩ := Option.map_eq_some_iff.1 hvw
                exact .d _ _ (vwD_rel hi hd hvr st1.sub hS1)
              | agg cs =>
                simp only [vw] at hvw
                obtain ⟨ds, hds, rfl⟩ := Option.map_eq_some_iff.1 hvw
                obtain ⟨vs, rfl, hl, hcell⟩ := agg_cells hvr
                obtain ⟨g1, g2⟩ := vwDs_get hds
                have get : ∀ (i : Nat) (x : AV), (ds.map AV.d)[i]? = some x → ∃ u, vs[i]? = some u ∧ RelA ρ S1 H1 w x u := by
                  intro i x hix
                  obtain ⟨y, hy, rfl⟩ := relA_map_d hix
                  have hil : i < cs.length := by rw [← g1]; exact (List.getElem?_eq_some_iff.1 hy).1
                  obtain ⟨u, hu, hru⟩ := hcell i _ (List.getElem?_eq_getElem hil)
                  obtain ⟨y', hy', hvy⟩ := g2 i _ (List.getElem?_eq_getElem hil)
                  rw [hy] at hy'; cases hy'
                  refine ⟨u, hu, .d _ _ (vwD_rel hi hvy hru st1.sub fun l' hl' => hS1 l' ?_)⟩
                  -- an array that a cell leads to
                  simp only [arrsOf]
                  refine List.mem_flatMap.2 ⟨cs[i], List.getElem_mem hil, ?_⟩
                  generalize cs[i] = c at hl' hvy
                  cases c with
                  | os => simpa [arrsOf] using hl'
                  | agg => simp [vwD] at hvy
                  | _ => simp [arrsOf] at hl'
                refine .agg _ vs (fun i => (vs[i]?).getD undef) (by simp [g1, hl]) (fun i x hix => ?_) (fun i x hix => ?_)
                · obtain ⟨u, hu, _⟩ := get i x hix; rw [hu]; rfl
                · obtain ⟨u, hu, hr⟩ := get i x hix; rw [hu]; exact hr
              | d x =>
                simp only [vw] at hvw; cases hvw
                cases hvr with
                | d _ _ hd => exact .d _ _ (hd.norm.step st1 hi)
              | _ =>
                simp only [vw] at hvw; cases hvw
                exact (RelA.step hvr st1 hi (fun _ _ => id))
            have hkr1 : RelA ρ S1 H1 w k vk := hkr.step st1 hi fun _ _ => id
            cases hx with
            | map _ _ _ hm =>
              have := hm ⟨_, _, _, hes⟩; subst this
              obtain ⟨ents, clk, hb, he⟩ := entsRel_of st1.inv hes1
              obtain ⟨f1, f2, f3⟩ := findKey_run (P := P) hk hko hkr1 he hf
              have hgo : (getObj (ρ l)).run P w = .ok (.map ents clk) w := by simp [getObj, Sem.run, hb]
              rw [setE_idx]
              cases hj : idxE k es with
              | none =>
                rw [hj] at f1
                refine ⟨{ w with heap := w.heap.setIfInBounds (ρ l) (.map (ents.push { key := vk, val := vv, born := clk }) (clk + 1)) }, ?_, upd ρ l (ρ l), S1, ?_⟩
                · simp only [Instr.mapUpdate, Sem.run_bind, run_underlying ht, Result.andThen_ok, hgo, checkKey_run hk hko hkr1, f1, Option.bind_none]
                  rw [setObj_run hb (fun _ _ _ e => by cases e)]
                · exact (st1.trans (map_step st1.inv hes1 hb rfl (by simpa using entsRel_push (e := { key := vk, val := vv, born := clk }) he hko hrefs hsol hkr1 hxv) ((born_of st1.inv hes1 hb).push vk vv))).weaken (fun _ h => h.elim id id)
              | some j =>
                obtain ⟨x0, hx0⟩ := idxE_spec hj
                obtain ⟨en, e1, _, _, _, e5, _⟩ := he.2 j k x0 hx0
                rw [hj] at f1
                simp only [Option.bind_some, e1, Option.map_some] at f1
                have hej : ents[j]? = some en := by simpa using e1
                obtain ⟨w1, key, hrun, hw1, hout1, hkey⟩ := stays_run (P := P) (w := w) en.key vk
                have hkey' : RelA ρ S1 H1 w k key := by rcases hkey with rfl | rfl <;> assumption
                have hb1 : w1.heap[ρ l]? = some (.map ents clk) := by rw [hw1]; exact hb
                refine ⟨{ w1 with heap := w1.heap.setIfInBounds (ρ l) (.map (ents.modify j fun e => { e with key, val := vv }) clk) }, ?_, upd ρ l (ρ l), S1, ?_⟩
                · simp only [Instr.mapUpdate, Sem.run_bind, run_underlying ht, Result.andThen_ok, hgo, checkKey_run hk hko hkr1, f1, hej, Option.map_some, Option.getD_some, hrun]
                  rw [setObj_run hb1 (fun _ _ _ e => by cases e)]
                · have hmod : (ents.modify j fun e => { e with key, val := vv }).toList = ents.toList.set j { en with key, val := vv } := by
                    apply List.ext_getElem?
                    intro i
                    rw [List.getElem?_set, Array.toList_modify, List.getElem?_modify]
                    by_cases c : j = i
                    · subst c
                      have hl : j < ents.toList.length := (List.getElem?_eq_some_iff.1 e1).1
                      simp [e1, hl]; simpa using hl
                    · simp [c]
                  have hborn : Born (ents.modify j fun e => { e with key, val := vv }) clk := (born_of st1.inv hes1 hb).same (by
                    rw [hmod, List.map_set]
                    apply List.ext_getElem?
                    intro i
                    rw [List.getElem?_set]
                    by_cases c : j = i
                    · subst c
                      have hl : j < ents.toList.length := (List.getElem?_eq_some_iff.1 e1).1
                      rw [List.getElem?_map, e1]
                      simp [hl]; simpa using hl
                    · simp [c])
                  refine (st1.trans (Step.heap0 (w0 := w1) (map_step (st1.inv.heap hw1) hes1 hb1 rfl ?_ hborn) hw1 hout1)).weaken (fun _ h => h.elim id id)
                  rw [hmod]
                  exact (entsRel_set (e := { en with key, val := vv }) he hko hrefs hsol hkey' hxv).heap hw1
          · cases h
        · cases h
      · cases h
    · cases h
  · cases h

theorem delete_rel {argTypes : Array TypeId} {ty t kt e : TypeId} (h1 : argTypes[0]? = some t) (ht : P.underlying t = some (.map kt e)) {ag : Bool} {ks : List SK} (hk : keyKind P kt = some (ag, ks)) (hi : Inv ρ S H w)
    {x k : AV} {vx vk : Value} (hx : RelA ρ S H w x vx) (hkr : RelA ρ S H w k vk) {r : AV} {u : Upd} (h : adelete H ag ks x k = some (r, u)) :
    r = .tup [] ∧ ∃ w', (Builtin.delete_ argTypes ty #[vx, vk]).run P w = .ok (.tuple #[]) w' ∧ ∃ ρ' S', Step No ρ S H w ρ' S' (applyU H u) w' := by
  have a0 : (#[vx, vk] : Array Value)[0]? = some vx := rfl
  have a1 : (#[vx, vk] : Array Value)[1]? = some vk := rfl
  unfold adelete at h
  split at h
  · rename_i hko
    split at h
    · rename_i l
      split at h
      · rename_i ag' ks' es hes
        split at h
        · rename_i hc
          obtain ⟨rfl, rfl⟩ := hc
          obtain ⟨fr, hf, e⟩ := Option.map_eq_some_iff.1 h
          cases e
          refine ⟨rfl, ?_⟩
          cases hx with
          | map _ _ _ hm =>
            have := hm ⟨_, _, _, hes⟩; subst this
            obtain ⟨ents, clk, hb, he⟩ := entsRel_of hi hes
            obtain ⟨f1, f2, f3⟩ := findKey_run (P := P) hk hko hkr he hf
            have hgo : (getObj (ρ l)).run P w = .ok (.map ents clk) w := by simp [getObj, Sem.run, hb]
            rw [delE_idx]
            cases hj : idxE k es with
            | none =>
              rw [hj] at f1
              refine ⟨{ w with heap := w.heap.setIfInBounds (ρ l) (.map ents clk) }, ?_, upd ρ l (ρ l), S, map_step hi hes hb rfl he (born_of hi hes hb)⟩
              simp only [Builtin.delete_, h1, a0, a1, Sem.run_bind, run_underlying ht, Result.andThen_ok, hgo, checkKey_run hk hko hkr, f1, Option.bind_none]
              rw [setObj_run hb (fun _ _ _ e => by cases e)]
              rfl
            | some j =>
              obtain ⟨x0, hx0⟩ := idxE_spec hj
              obtain ⟨en, e1, _⟩ := he.2 j k x0 hx0
              rw [hj] at f1
              simp only [Option.bind_some, e1, Option.map_some] at f1
              refine ⟨{ w with heap := w.heap.setIfInBounds (ρ l) (.map (ents.eraseIdxIfInBounds j) clk) }, ?_, upd ρ l (ρ l), S, map_step hi hes hb rfl ?_ ((born_of hi hes hb).sub ?_)⟩
              · simp only [Builtin.delete_, h1, a0, a1, Sem.run_bind, run_underlying ht, Result.andThen_ok, hgo, checkKey_run hk hko hkr, f1]
                rw [setObj_run hb (fun _ _ _ e => by cases e)]
                rfl
              · have herase : (ents.eraseIdxIfInBounds j).toList = ents.toList.eraseIdx j := by
                  have hl : j < ents.size := by simpa using (List.getElem?_eq_some_iff.1 e1).1
                  simp [Array.eraseIdxIfInBounds, hl]
                rw [herase]
                refine ⟨by rw [List.length_eraseIdx, List.length_eraseIdx, he.1], fun i k' v' hik => ?_⟩
                rw [List.getElem?_eraseIdx] at hik
                rw [List.getElem?_eraseIdx]
                split at hik
                · rename_i c; rw [if_pos c]; exact he.2 i k' v' hik
                · rename_i c; rw [if_neg c]; exact he.2 (i + 1) k' v' hik
              · have herase : (ents.eraseIdxIfInBounds j).toList = ents.toList.eraseIdx j := by
                  have hl : j < ents.size := by simpa using (List.getElem?_eq_some_iff.1 e1).1
                  simp [Array.eraseIdxIfInBounds, hl]
                rw [herase]
                exact List.eraseIdx_sublist ..
        · cases h
      · cases h
    · cases h
      refine ⟨rfl, ?_⟩
      cases hx with
      | d _ _ hd =>
        cases hd
        refine ⟨w, ?_, ρ, S, .refl hi⟩
        simp only [Builtin.delete_, h1, a0, a1, Sem.run_bind, run_underlying ht, Result.andThen_ok, checkKey_run hk hko hkr]
        rfl
    · cases h
  · cases h

end
end Bz

/- A call: what is handed over, what comes back. -/
namespace Bz
open Go

section
variable {P : Program} {w : World} {ρ : Nat → Nat} {S : Nat → Prop} {H : Heap}

/-- values, one by one -/
def ArgsRel (ρ : Nat → Nat) (S : Nat → Prop) (H : Heap) (w : World) (as : List AV) (vs : Array Value) : Prop :=
  as.length = vs.size ∧ ∀ (i : Nat) (x : AV), as[i]? = some x → ∃ y, vs[i]? = some y ∧ RelA ρ S H w x y

/-- a function of the program that has code -/
def Coded (P : Program) (f : Nat) : Prop := ∃ fn, P.funcs[f]? = some fn ∧ fn.body.isSome = true ∧ (fn.name == "runtime.NumGoroutine") = false

/-- function f, called: by its code, or by what stands for it -/
def Enters (P : Program) (f : Nat) (vs : Array Value) (w : World) (R : Ending → World → Prop) : Prop :=
  (Coded P f ∧ Calls P f vs w R) ∨ ∃ y w', (callFunc f vs).run P w = .ok (.value y) w' ∧ R (.returned y) w'

theorem Enters.mono {f : Nat} {vs : Array Value} {R R' : Ending → World → Prop} (h : Enters P f vs w R) (hr : ∀ e w', R e w' → R' e w') : Enters P f vs w R' := by
  rcases h with ⟨h1, h2⟩ | ⟨y, w', h1, h2⟩
  · exact .inl ⟨h1, h2.mono hr⟩
  · exact .inr ⟨y, w', h1, hr _ _ h2⟩

theorem coded_run {f : Nat} (h : Coded P f) (vs : Array Value) : (callFunc f vs).run P w = .ok (.enter f vs) w := by
  obtain ⟨fn, q1, q2, q3⟩ := h
  obtain ⟨b, hb⟩ := Option.isSome_iff_exists.1 q2
  have q3' : ¬ fn.name = "runtime.NumGoroutine" := by simpa using q3
  simp [callFunc, q1, hb, q3']

theorem Enters.calls {f : Nat} {vs : Array Value} {R : Ending → World → Prop} (h : Enters P f vs w R) (hc : Coded P f) : Calls P f vs w R := by
  rcases h with ⟨_, h2⟩ | ⟨y, w', h1, _⟩
  · exact h2
  · rw [coded_run hc vs] at h1; cases h1

/-- function f, called with these values over this memory, returns this, over that memory -/
def Meets (P : Program) (f : Nat) (args : List AV) (H : Heap) (rv : AV) (Ho : Heap) : Prop :=
  ∀ (ρ : Nat → Nat) (S : Nat → Prop) (w : World) (vs : Array Value), Inv ρ S H w → ArgsRel ρ S H w args vs →
    Enters P f vs w (fun e w' => ∃ v ρ' S', e = .returned v ∧ Step (fun l => H.length ≤ l) ρ S H w ρ' S' Ho w' ∧ RelA ρ' S' Ho w' rv v)

/-! ### names that were met are met once -/
theorem reach_nodup (H : Heap) : ∀ (k : Nat) (ls seen : List Nat), seen.Nodup → (reach H k ls seen).Nodup
  | 0, _, _, h => h
  | _ + 1, [], _, h => h
  | k + 1, l :: r, seen, h => by
    simp only [reach]
    split
    · exact reach_nodup H k r seen h
    · rename_i hc
      have hn : (seen ++ [l]).Nodup := by
        rw [List.nodup_append]
        refine ⟨h, by simp, fun a ha b hb => ?_⟩
        simp at hb; subst hb
        intro e; subst e
        exact hc (by simpa using ha)
      split
      · exact reach_nodup H k r _ hn
      · exact reach_nodup H k _ _ hn

theorem pack_get {g : Nat → Nat} : ∀ {i : Nat} {L : List Nat} {q : Heap}, pack H g i L = some q → ∀ k, hget q k = if i ≤ k then (L[k - i]?).bind fun l => (hget H l).map (renO g) else none
  | i, [], q, h, k => by simp only [pack] at h; cases h; simp [hget]
  | i, l :: r, q, h, k => by
    simp only [pack] at h
    split at h
    · cases h
    · rename_i o ho
      split at h
      · cases h
      · rename_i q' hq'
        cases h
        simp only [hget, pack_get hq' k]
        by_cases e : k = i
        · subst e; simp [ho]
        · by_cases h2 : i ≤ k
          · rw [if_neg e, if_pos h2, if_pos (by omega)]
            rw [show k - i = (k - (i + 1)) + 1 by omega]
            simp
          · rw [if_neg e, if_neg h2, if_neg (by omega)]

theorem pack_live {g : Nat → Nat} : ∀ {i : Nat} {L : List Nat} {q : Heap}, pack H g i L = some q → q.length = L.length ∧ ∀ l ∈ L, ∃ o, hget H l = some o
  | i, [], q, h => by simp only [pack] at h; cases h; simp
  | i, l :: r, q, h => by
    simp only [pack] at h
    split at h
    · cases h
    · rename_i o ho
      split at h
      · cases h
      · rename_i q' hq'
        cases h
        obtain ⟨h1, h2⟩ := pack_live hq'
        refine ⟨by simp [h1], fun m hm => ?_⟩
        rcases List.mem_cons.1 hm with rfl | hm
        · exact ⟨o, ho⟩
        · exact h2 m hm

/-! ### an object, its names renamed -/
theorem refsL_mem' {cs : List AV} {l : Nat} (h : l ∈ refsL cs) : ∃ (i : Nat) (x : AV), cs[i]? = some x ∧ l ∈ refs x := by
  induction cs with
  | nil => simp [refsL] at h
  | cons a r ih =>
    simp only [refsL, List.mem_append] at h
    rcases h with h | h
    · exact ⟨0, a, rfl, h⟩
    · obtain ⟨i, x, h1, h2⟩ := ih h
      exact ⟨i + 1, x, by simpa using h1, h2⟩

theorem ObjAt.ren {ρ ρ' : Nat → Nat} {S S' : Nat → Prop} {H H' : Heap} {w w' : World} {b : Nat} {o : AObj} (g : Nat → Nat) (h : ObjAt ρ S H w b o)
    (hb : isReal o = true → w'.heap[b]? = w.heap[b]?) (hS : ∀ b, S b → S' b) (hw : ∀ b, S b → w'.heap[b]? = w.heap[b]?) (hg : Grow w w') (hc : ∀ l ∈ refsO o, Comp ρ H l ρ' H' (g l)) :
    ObjAt ρ' S' H' w' b (renO g o) := by
  cases o with
  | var cs =>
    obtain ⟨vs, T, e, hs, h⟩ := h
    refine ⟨vs, T, (hb rfl).trans e, by rw [renL_length]; exact hs, fun j x hj => ?_⟩
    rw [renL_get] at hj
    obtain ⟨y, hy, rfl⟩ := Option.map_eq_some_iff.1 hj
    obtain ⟨v, hv, hf, hr⟩ := h j y hy
    exact ⟨v, hv, hf, hr.trans g hS hw hg fun l hl => hc l (refsL_mem hy l hl)⟩
  | arr sz es =>
    refine ⟨h.1, fun hne => ?_⟩
    obtain ⟨vs, T, e, h⟩ := h.2 hne
    exact ⟨vs, T, (hb (by simpa [isReal] using hne)).trans e, h.mono hS hw⟩
  | fz sz es =>
    refine ⟨h.1, fun hne => ?_⟩
    obtain ⟨h1, vs, T, fr, e, h⟩ := h.2 hne
    exact ⟨hS _ h1, vs, T, fr, (hb (by simpa [isReal] using hne)).trans e, h.mono hS hw⟩
  | mp ag ks es =>
    obtain ⟨ents, clk, e, hs, h⟩ := h
    refine ⟨ents, clk, (hb rfl).trans e, hs, fun i k v hi => ?_⟩
    obtain ⟨y, hy, hk, hv, hv', hr, hr'⟩ := h i k v hi
    exact ⟨y, hy, hk, hv, hv', hr.keep hS hw hg (by simp [keyOK_refs hk]), hr'.keep hS hw hg (by simp [hv])⟩

theorem isLive_renO (g : Nat → Nat) (o : AObj) : isLive (renO g o) = isLive o := by cases o <;> rfl

theorem comp_of {ρ ρ' : Nat → Nat} {H H' : Heap} {l l' : Nat} (g : Nat → Nat) (h : hget H' l' = (hget H l).map (renO g)) (hr : ρ' l' = ρ l) : Comp ρ H l ρ' H' l' := by
  refine ⟨fun sz m hm => ⟨m, ?_, Nat.le_refl _, fun _ => hr⟩, fun hv => ⟨?_, hr⟩, fun hv => ⟨?_, hr⟩⟩
  · obtain ⟨es, he, hl⟩ := hm
    rw [h] at he
    cases ho : hget H l with
    | none => rw [ho] at he; simp at he
    | some o => rw [ho] at he; cases o <;> simp [renO] at he <;> exact ⟨es, by simp [ho, he], hl⟩
  · obtain ⟨cs, he⟩ := hv
    rw [h] at he
    cases ho : hget H l with
    | none => rw [ho] at he; simp at he
    | some o => rw [ho] at he; cases o <;> simp [renO] at he; exact ⟨_, ho⟩
  · obtain ⟨ag, ks, cs, he⟩ := hv
    rw [h] at he
    cases ho : hget H l with
    | none => rw [ho] at he; simp at he
    | some o => rw [ho] at he; cases o <;> simp [renO] at he; exact ⟨_, _, _, ho⟩

theorem comp_dead {ρ ρ' : Nat → Nat} {H H' : Heap} {l l' : Nat} (h : hget H' l' = none) : Comp ρ H l ρ' H' l' := by
  refine ⟨fun sz m hm => ?_, fun hv => ?_, fun hv => ?_⟩
  · obtain ⟨es, he, _⟩ := hm; rw [h] at he; rcases he with he | he <;> cases he
  · obtain ⟨cs, he⟩ := hv; rw [h] at he; cases he
  · obtain ⟨ag, ks, cs, he⟩ := hv; rw [h] at he; cases he

theorem live_of_map {H H' : Heap} {l l' : Nat} (g : Nat → Nat) (h : hget H' l' = (hget H l).map (renO g)) (hl : Live H' l') : Live H l := by
  obtain ⟨o, ho, hlo⟩ := hl
  rw [h] at ho
  obtain ⟨q, hq, rfl⟩ := Option.map_eq_some_iff.1 ho
  exact ⟨q, hq, by rwa [isLive_renO] at hlo⟩

/-! ### memory as a function sees it -/
theorem idx_of {L : List Nat} (hn : L.Nodup) {j l : Nat} (h : L[j]? = some l) : L.idxOf l = j := by
  obtain ⟨hj, rfl⟩ := List.getElem?_eq_some_iff.1 h
  exact hn.idxOf_getElem j hj

theorem idx_get {L : List Nat} {l : Nat} (h : l ∈ L) : L[L.idxOf l]? = some l := by
  rw [List.getElem?_eq_getElem (List.idxOf_lt_length_of_mem h), List.getElem_idxOf]

/-- the part of the memory that is handed over -/
theorem packed {L : List Nat} {q : Heap} (hi : Inv ρ S H w) (hn : L.Nodup) (h : pack H (fun l => L.idxOf l) 0 L = some q) :
    Inv (fun j => ρ (L.getD j 0)) S q w ∧ (∀ l, Comp ρ H l (fun j => ρ (L.getD j 0)) q (L.idxOf l)) ∧ ∀ j, Live q j → ∃ l, L[j]? = some l ∧ Live H l := by
  have get : ∀ k, hget q k = (L[k]?).bind fun l => (hget H l).map (renO fun l => L.idxOf l) := by
    intro k; have := pack_get h k; simpa using this
  have comp : ∀ l, Comp ρ H l (fun j => ρ (L.getD j 0)) q (L.idxOf l) := by
    intro l
    by_cases hl : l ∈ L
    · refine comp_of (fun l => L.idxOf l) (by rw [get, idx_get hl]; rfl) ?_
      show ρ (L.getD (L.idxOf l) 0) = ρ l
      rw [List.getD, idx_get hl]; rfl
    · refine comp_dead ?_
      rw [get, List.getElem?_eq_none (by rw [List.idxOf_eq_length hl]; exact Nat.le_refl _)]; rfl
  have live : ∀ j, Live q j → ∃ l, L[j]? = some l ∧ Live H l := by
    intro j hj
    obtain ⟨o, ho, hlo⟩ := hj
    rw [get] at ho
    obtain ⟨l, hl, ho⟩ := Option.bind_eq_some_iff.1 ho
    obtain ⟨o', ho', rfl⟩ := Option.map_eq_some_iff.1 ho
    exact ⟨l, hl, o', ho', by rwa [isLive_renO] at hlo⟩
  refine ⟨⟨fun j o ho => ?_, fun j j' hj hj' e => ?_, fun j hj => ?_, hi.dom⟩, comp, live⟩
  · rw [get] at ho
    obtain ⟨l, hl, ho⟩ := Option.bind_eq_some_iff.1 ho
    obtain ⟨o', ho', rfl⟩ := Option.map_eq_some_iff.1 ho
    have : L.getD j 0 = l := by rw [List.getD, hl]; rfl
    simp only [this]
    exact (hi.obj l o' ho').ren _ (fun _ => rfl) (fun _ h => h) (fun _ _ => rfl) (.refl w) fun m _ => comp m
  · obtain ⟨l, hl, hL⟩ := live j hj
    obtain ⟨l', hl', hL'⟩ := live j' hj'
    simp only [List.getD, hl, hl', Option.getD_some] at e
    have := hi.inj l l' hL hL' e
    subst this
    rw [← idx_of hn hl, ← idx_of hn hl']
  · obtain ⟨l, hl, hL⟩ := live j hj
    simp only [List.getD, hl, Option.getD_some]
    exact hi.sep l hL

/-! ### what comes back -/
theorem nodupB_iff : ∀ {l : List Nat}, nodupB l = true → l.Nodup
  | [], _ => List.nodup_nil
  | a :: r, h => by
    simp only [nodupB, Bool.and_eq_true, Bool.not_eq_true'] at h
    exact List.nodup_cons.2 ⟨by simpa using h.1, nodupB_iff h.2⟩

theorem applyU_get : ∀ (u : Upd) (H : Heap) (l : Nat), (u.map (·.1)).Nodup → hget (applyU H u) l = match hget u l with | some o => some o | none => hget H l
  | [], _, _, _ => rfl
  | (k, o) :: r, H, l, hn => by
    simp only [List.map_cons, List.nodup_cons] at hn
    show hget (applyU (hset H k o) r) l = _
    rw [applyU_get r _ l hn.2]
    simp only [hget]
    by_cases e : l = k
    · subst e
      have : hget r l = none := by
        cases hr : hget r l with
        | none => rfl
        | some q => exact absurd (List.mem_map.2 ⟨(l, q), hget_mem hr, rfl⟩) hn.1
      simp [this, hget_set_self]
    · rw [if_neg e, hget_set_ne H _ e]

theorem hget_map {f : Nat → Nat} {g : Nat → Nat} : ∀ (q : Heap) (l j : Nat), (∀ x ∈ q, f x.1 = l ↔ x.1 = j) → hget (q.map fun x => (f x.1, renO g x.2)) l = (hget q j).map (renO g)
  | [], _, _, _ => rfl
  | (k, o) :: r, l, j, h => by
    have h0 := h (k, o) (by simp)
    simp only at h0
    simp only [List.map_cons, hget]
    by_cases e : j = k
    · rw [if_pos (h0.2 e.symm).symm, if_pos e]; rfl
    · rw [if_neg (fun q => e (h0.1 q.symm).symm), if_neg e]
      exact hget_map r l j fun x hx => h x (by simp [hx])

theorem hget_map_none {f : Nat → Nat} {g : Nat → Nat} : ∀ (q : Heap) (l : Nat), (∀ x ∈ q, f x.1 ≠ l) → hget (q.map fun x => (f x.1, renO g x.2)) l = none
  | [], _, _ => rfl
  | (k, o) :: r, l, h => by
    simp only [List.map_cons, hget]
    rw [if_neg (fun e => h (k, o) (by simp) e.symm)]
    exact hget_map_none r l fun x hx => h x (by simp [hx])

theorem hget_dom {q : Heap} {j : Nat} (h : (hget q j).isSome = true) : ∃ o, hget q j = some o ∧ (j, o) ∈ q := by
  obtain ⟨o, ho⟩ := Option.isSome_iff_exists.1 h
  exact ⟨o, ho, hget_mem ho⟩

theorem comp_same {ρ ρ' : Nat → Nat} {H H' : Heap} {l : Nat} (h : hget H' l = hget H l) (hr : ρ' l = ρ l) : Comp ρ H l ρ' H' l :=
  ⟨fun sz m hm => ⟨m, by simpa [Cnt, h] using hm, Nat.le_refl _, fun _ => hr⟩, fun hv => ⟨by simpa [IsVar, h] using hv, hr⟩, fun hv => ⟨by simpa [IsMp, h] using hv, hr⟩⟩

theorem hget_of_mem : ∀ {q : Heap} {x : Nat × AObj}, x ∈ q → (hget q x.1).isSome = true
  | (k, o) :: r, x, h => by
    simp only [hget]
    split
    · rfl
    · rename_i hne
      rcases List.mem_cons.1 h with rfl | h
      · exact absurd rfl hne
      · exact hget_of_mem h

theorem nodup_map_on {f : Nat → Nat} : ∀ {l : List Nat}, l.Nodup → (∀ a ∈ l, ∀ b ∈ l, f a = f b → a = b) → (l.map f).Nodup
  | [], _, _ => List.nodup_nil
  | a :: r, h, hf => by
    obtain ⟨h1, h2⟩ := List.nodup_cons.1 h
    simp only [List.map_cons]
    refine List.nodup_cons.2 ⟨fun hm => ?_, nodup_map_on h2 fun x hx y hy => hf x (by simp [hx]) y (by simp [hy])⟩
    obtain ⟨b, hb, e⟩ := List.mem_map.1 hm
    exact h1 (hf b (by simp [hb]) a (by simp) e ▸ hb)

section back
variable {L : List Nat} {nm : Nat}

def backF (L : List Nat) (nm : Nat) : Nat → Nat := fun j => if j < L.length then L.getD j 0 else nm + (j - L.length)

def fwdF (L : List Nat) (nm : Nat) (l : Nat) : Option Nat := if l ∈ L then some (L.idxOf l) else if nm ≤ l ∧ l < nm + 10 then some (L.length + (l - nm)) else none

theorem back_fwd {l j : Nat} (hL : ∀ l ∈ L, l < nm ∨ nm + 10 ≤ l) (h : fwdF L nm l = some j) : backF L nm j = l ∧ j < L.length + 10 := by
  unfold fwdF at h
  split at h
  · rename_i hl
    cases h
    have hlt := List.idxOf_lt_length_of_mem hl
    refine ⟨?_, by omega⟩
    unfold backF
    rw [if_pos hlt, List.getD, idx_get hl]; rfl
  · split at h
    · rename_i hc
      cases h
      refine ⟨?_, by omega⟩
      unfold backF
      rw [if_neg (by omega)]; omega
    · cases h

theorem back_iff {l j k : Nat} (hn : L.Nodup) (hL : ∀ l ∈ L, l < nm ∨ nm + 10 ≤ l) (h : fwdF L nm l = some j) (hk : k < L.length + 10) : backF L nm k = l ↔ k = j := by
  obtain ⟨hb, hj⟩ := back_fwd hL h
  constructor
  · intro e
    rw [← hb] at e
    unfold backF at e
    split at e <;> split at e
    · rename_i h1 h2
      have a1 : L[k]? = some (L.getD k 0) := by rw [List.getD, List.getElem?_eq_getElem h1]; rfl
      have a2 : L[j]? = some (L.getD j 0) := by rw [List.getD, List.getElem?_eq_getElem h2]; rfl
      rw [← e] at a2
      rw [← idx_of hn a1, ← idx_of hn a2]
    · rename_i h1 h2
      have : L.getD k 0 ∈ L := by rw [List.getD, List.getElem?_eq_getElem h1]; exact List.getElem_mem h1
      have := hL _ this
      omega
    · rename_i h1 h2
      have : L.getD j 0 ∈ L := by rw [List.getD, List.getElem?_eq_getElem h2]; exact List.getElem_mem h2
      have := hL _ this
      omega
    · omega
  · intro e; rw [e]; exact hb

theorem back_no {l k : Nat} (h : fwdF L nm l = none) (hk : k < L.length + 10) : backF L nm k ≠ l := by
  unfold fwdF at h
  split at h
  · cases h
  · rename_i hl
    split at h
    · cases h
    · rename_i hc
      unfold backF
      split
      · rename_i h1
        intro e
        apply hl
        rw [← e, List.getD, List.getElem?_eq_getElem h1]; exact List.getElem_mem h1
      · intro e; omega
end back

theorem unpacked {L : List Nat} {nm : Nat} {q Ho : Heap} {ρ' : Nat → Nat} {S' : Nat → Prop} {w' : World} {rv : AV} {v : Value} (hi : Inv ρ S H w) (hn : L.Nodup) (hq : pack H (fun l => L.idxOf l) 0 L = some q)
    (hL : ∀ l ∈ L, l < nm ∨ nm + 10 ≤ l) (hok : backOK L.length rv Ho = true)
    (hnew : ∀ x ∈ Ho, L.length ≤ x.1 → ∀ m p, hget H m = some p → m ≠ backF L nm x.1 → backF L nm x.1 ∉ refsO p)
    (st : Step (fun l => q.length ≤ l) (fun j => ρ (L.getD j 0)) S q w ρ' S' Ho w') (hr : RelA ρ' S' Ho w' rv v) :
    ∃ ρ2, Step (fun l => l ∈ (Ho.filter fun x => decide (L.length ≤ x.1)).map fun x => backF L nm x.1) ρ S H w ρ2 S' (applyU H (Ho.map fun x => (backF L nm x.1, renO (backF L nm) x.2))) w' ∧
      RelA ρ2 S' (applyU H (Ho.map fun x => (backF L nm x.1, renO (backF L nm) x.2))) w' (ren (backF L nm) rv) v := by
  simp only [backOK, Bool.and_eq_true, List.all_eq_true, decide_eq_true_eq] at hok
  obtain ⟨⟨⟨hkn, hkeys⟩, hrv⟩, hargs⟩ := hok
  have hkn := nodupB_iff hkn
  obtain ⟨hip, hcp, hlp⟩ := packed hi hn hq
  have hql : q.length = L.length := (pack_live hq).1
  generalize hH' : applyU H (Ho.map fun x => (backF L nm x.1, renO (backF L nm) x.2)) = H'
  -- what stands where, behind the call
  have hkey : ∀ {j : Nat} {o : AObj}, hget Ho j = some o → j < L.length + 10 ∧ ∀ k ∈ refsO o, (hget Ho k).isSome = true := by
    intro j o ho
    have := hkeys (j, o) (hget_mem ho)
    exact this
  have hfwd : ∀ {j : Nat}, j < L.length + 10 → fwdF L nm (backF L nm j) = some j := by
    intro j hj
    unfold fwdF backF
    by_cases h1 : j < L.length
    · have : L[j]? = some (L.getD j 0) := by rw [List.getD, List.getElem?_eq_getElem h1]; rfl
      rw [if_pos h1, if_pos (List.mem_of_getElem? this), idx_of hn this]
    · rw [if_neg h1]
      have hno : ¬ (nm + (j - L.length)) ∈ L := fun hm => by have := hL _ hm; omega
      rw [if_neg hno, if_pos (by omega)]
      congr 1; omega
  have hkn' : ((Ho.map fun x => (backF L nm x.1, renO (backF L nm) x.2)).map (·.1)).Nodup := by
    rw [List.map_map]
    show (Ho.map fun x => backF L nm x.1).Nodup
    rw [show (Ho.map fun x => backF L nm x.1) = (Ho.map (·.1)).map (backF L nm) by rw [List.map_map]; rfl]
    refine nodup_map_on hkn fun a ha b hb e => ?_
    obtain ⟨x, hx, rfl⟩ := List.mem_map.1 ha
    obtain ⟨y, hy, rfl⟩ := List.mem_map.1 hb
    have h1 := hfwd (hkeys x hx).1
    have h2 := hfwd (hkeys y hy).1
    rw [e, h2] at h1
    exact (Option.some.inj h1).symm
  have get : ∀ l, hget H' l = match fwdF L nm l with
      | some j => (match hget Ho j with | some o => some (renO (backF L nm) o) | none => hget H l)
      | none => hget H l := by
    intro l
    rw [← hH', applyU_get _ _ _ hkn']
    cases hf : fwdF L nm l with
    | none =>
      rw [hget_map_none Ho l fun x hx => back_no hf (hkeys x hx).1]
    | some j =>
      rw [hget_map Ho l j fun x hx => back_iff hn hL hf (hkeys x hx).1]
      simp only
      cases hget Ho j <;> rfl
  let ρ2 : Nat → Nat := fun l => match fwdF L nm l with
    | some j => if (hget Ho j).isSome then ρ' j else ρ l
    | none => ρ l
  have hρ2 : ∀ l, ρ2 l = match fwdF L nm l with
    | some j => if (hget Ho j).isSome then ρ' j else ρ l
    | none => ρ l := fun _ => rfl
  have hback : ∀ {j : Nat}, (hget Ho j).isSome = true → hget H' (backF L nm j) = (hget Ho j).map (renO (backF L nm)) ∧ ρ2 (backF L nm j) = ρ' j := by
    intro j hj
    obtain ⟨o, ho⟩ := Option.isSome_iff_exists.1 hj
    have hf := hfwd (hkey ho).1
    refine ⟨by rw [get, hf]; simp [ho], ?_⟩
    rw [hρ2, hf]; simp [hj]
  have hcb : ∀ {j : Nat}, (hget Ho j).isSome = true → Comp ρ' Ho j ρ2 H' (backF L nm j) := fun hj => comp_of _ (hback hj).1 (hback hj).2
  -- two kinds of names
  have kinds : ∀ l, (∃ j, fwdF L nm l = some j ∧ (hget Ho j).isSome = true ∧ backF L nm j = l) ∨ (l ∉ L ∧ hget H' l = hget H l ∧ ρ2 l = ρ l ∧ ∀ x ∈ Ho, backF L nm x.1 ≠ l) := by
    intro l
    cases hf : fwdF L nm l with
    | none =>
      refine .inr ⟨fun hl => ?_, by rw [get, hf], by rw [hρ2, hf], fun x hx => back_no hf (hkeys x hx).1⟩
      unfold fwdF at hf; rw [if_pos hl] at hf; cases hf
    | some j =>
      cases ho : hget Ho j with
      | some o => exact .inl ⟨j, rfl, by rw [ho]; rfl, (back_fwd hL hf).1⟩
      | none =>
        refine .inr ⟨fun hl => ?_, by rw [get, hf]; simp [ho], by rw [hρ2, hf]; simp [ho], fun x hx e => ?_⟩
        · unfold fwdF at hf; rw [if_pos hl] at hf; cases hf
          have := hargs (L.idxOf l) (List.mem_range.2 (List.idxOf_lt_length_of_mem hl))
          rw [ho] at this; cases this
        · have := (back_iff hn hL hf (hkeys x hx).1).1 e
          have h2 := hget_of_mem hx
          rw [this, ho] at h2; cases h2
  have hcomp : ∀ l, ¬ l ∈ ((Ho.filter fun x => decide (L.length ≤ x.1)).map fun x => backF L nm x.1) → Comp ρ H l ρ2 H' l := by
    intro l hnl
    rcases kinds l with ⟨j, hf, hj, hb⟩ | ⟨_, h1, h2, _⟩
    · obtain ⟨o, ho, hmem⟩ := hget_dom hj
      by_cases hjl : j < L.length
      · have hl : l ∈ L := by
          rw [← hb]; unfold backF; rw [if_pos hjl, List.getD, List.getElem?_eq_getElem hjl]; exact List.getElem_mem hjl
        have hidx : L.idxOf l = j := by
          unfold fwdF at hf; rw [if_pos hl] at hf; exact Option.some.inj hf
        have c1 := hcp l
        rw [hidx] at c1
        have c2 := st.comp j (by rw [hql]; omega)
        have c3 := hcb hj
        rw [hb] at c3
        exact (c1.trans c2).trans c3
      · refine absurd (List.mem_map.2 ⟨(j, o), List.mem_filter.2 ⟨hmem, by simp; omega⟩, hb⟩) hnl
    · exact comp_same h1 h2
  have hlive : ∀ l, Live H' l → (∃ j, backF L nm j = l ∧ Live Ho j ∧ ρ2 l = ρ' j) ∨ (l ∉ L ∧ Live H l ∧ ρ2 l = ρ l) := by
    intro l hl
    rcases kinds l with ⟨j, hf, hj, hb⟩ | ⟨h0, h1, h2, _⟩
    · refine .inl ⟨j, hb, ?_, by rw [← hb]; exact (hback hj).2⟩
      have := (hback hj).1
      rw [hb] at this
      exact live_of_map _ this hl
    · refine .inr ⟨h0, ?_, h2⟩
      obtain ⟨o, ho, hlo⟩ := hl
      exact ⟨o, by rw [← h1]; exact ho, hlo⟩
  -- a live object that wasn't handed over is nobody's
  have apart : ∀ l, l ∉ L → Live H l → ∀ j, Live q j → ρ (L.getD j 0) ≠ ρ l := by
    intro l hl hlv j hj e
    obtain ⟨l', h1, h2⟩ := hlp j hj
    rw [List.getD, h1] at e
    have := hi.inj l' l h2 hlv e
    exact hl (this ▸ List.mem_of_getElem? h1)
  have up : ∀ j, Live q j → ∃ l, Live H l ∧ ρ l = ρ (L.getD j 0) := by
    intro j hj
    obtain ⟨l', h1, h2⟩ := hlp j hj
    exact ⟨l', h2, by rw [List.getD, h1]; rfl⟩
  have cross : ∀ j l, Live Ho j → l ∉ L → Live H l → ρ' j ≠ ρ l := by
    intro j l hj hl hlv e
    rcases st.live j hj with h | ⟨l0, h0, e0⟩
    · have := hi.live_lt hlv; omega
    · exact apart l hl hlv l0 h0 (e0.trans e)
  refine ⟨ρ2, ⟨⟨fun l o ho => ?_, fun l l' hl hl' e => ?_, fun l hl => ?_, st.inv.dom⟩, st.sub, fun b hb => ?_, fun b hb hf => ?_, st.grow, st.size, fun l hl => ?_, hcomp, st.outer⟩, ?_⟩
  · rcases kinds l with ⟨j, hf, hj, hb⟩ | ⟨h0, h1, h2, h3⟩
    · obtain ⟨o', ho'⟩ := Option.isSome_iff_exists.1 hj
      have := (hback hj).1
      rw [hb, ho, ho'] at this
      cases this
      rw [← hb, (hback hj).2]
      exact (st.inv.obj j o' ho').ren _ (fun _ => rfl) (fun _ h => h) (fun _ _ => rfl) (.refl w') fun k hk => hcb ((hkey ho').2 k hk)
    · rw [h1] at ho
      rw [h2]
      have hobj := hi.obj l o ho
      refine hobj.keep (fun hre => ?_) st.sub (st.same hip) st.grow fun k hk => hcomp k fun hm => ?_
      · cases hlo : isLive o with
        | true => exact st.frame _ (hobj.lt hre) fun j hj e => apart l h0 ⟨o, ho, hlo⟩ j hj e
        | false =>
          cases o with
          | fz sz es => exact st.same hip _ (hobj.2 (by simpa [isReal] using hre)).1
          | arr sz es => simp [isLive, isReal] at hlo hre; exact absurd hlo hre
          | _ => simp [isLive] at hlo
      · obtain ⟨x, hx, e⟩ := List.mem_map.1 hm
        obtain ⟨hx1, hx2⟩ := List.mem_filter.1 hx
        subst e
        exact hnew x hx1 (by simpa using hx2) l o ho (fun e => h3 x hx1 e.symm) hk
  · rcases hlive l hl with ⟨j, hb, hj, er⟩ | ⟨h0, h1, er⟩ <;> rcases hlive l' hl' with ⟨j', hb', hj', er'⟩ | ⟨h0', h1', er'⟩
    · rw [er, er'] at e
      rw [← hb, ← hb', st.inv.inj j j' hj hj' e]
    · rw [er, er'] at e
      exact absurd e (cross j l' hj h0' h1')
    · rw [er, er'] at e
      exact absurd e.symm (cross j' l hj' h0 h1)
    · rw [er, er'] at e
      exact hi.inj l l' h1 h1' e
  · rcases hlive l hl with ⟨j, hb, hj, er⟩ | ⟨h0, h1, er⟩
    · rw [er]; exact st.inv.sep j hj
    · rw [er]
      intro hs
      rcases st.new _ hs with h | h | ⟨l0, hl0, e0⟩
      · exact hi.sep l h1 h
      · have := hi.live_lt h1; omega
      · exact apart l h0 h1 l0 hl0 e0
  · rcases st.new b hb with h | h | ⟨l0, hl0, e0⟩
    · exact .inl h
    · exact .inr (.inl h)
    · obtain ⟨l, h1, h2⟩ := up l0 hl0
      exact .inr (.inr ⟨l, h1, h2.trans e0⟩)
  · refine st.frame b hb fun j hj e => ?_
    obtain ⟨l, h1, h2⟩ := up j hj
    exact hf l h1 (h2.trans e)
  · rcases hlive l hl with ⟨j, hb, hj, er⟩ | ⟨h0, h1, er⟩
    · rw [er]
      rcases st.live j hj with h | ⟨l0, hl0, e0⟩
      · exact .inl h
      · obtain ⟨l', h1, h2⟩ := up l0 hl0
        exact .inr ⟨l', h1, h2.trans e0⟩
    · rw [er]; exact .inr ⟨l, h1, rfl⟩
  · exact hr.trans _ (fun _ h => h) (fun _ _ => rfl) (.refl w') fun k hk => hcb (hrv k hk)

end
end Bz

/- A call, whole. -/
namespace Bz
open Go

section
variable {P : Program} {w : World} {ρ : Nat → Nat} {S : Nat → Prop} {H : Heap}

/-- a value, its slices by content -/
theorem vw_rel {N : Nat → Prop} (hi : Inv ρ S H w) {v xv : AV} {vv : Value} (hvr : RelA ρ S H w v vv) (hvw : vw H v = some xv) {S1 : Nat → Prop} {H1 : Heap} (st1 : Step N ρ S H w ρ S1 H1 w)
    (hN : ∀ l, ¬ N l) (hS1 : ∀ l ∈ arrsOf v, (∃ sz m, m ≠ 0 ∧ Cnt H l sz m) → S1 (ρ l)) : RelA ρ S1 H1 w xv vv := by
  cases v with
  | os l' n off len =>
    simp only [vw] at hvw
    obtain ⟨d, hd, rfl⟩ := Option.map_eq_some_iff.1 hvw
    exact .d _ _ (vwD_rel hi hd hvr st1.sub hS1)
  | agg cs =>
    simp only [vw] at hvw
    obtain ⟨ds, hds, rfl⟩ := Option.map_eq_some_iff.1 hvw
    obtain ⟨vs, rfl, hl, hcell⟩ := agg_cells hvr
    obtain ⟨g1, g2⟩ := vwDs_get hds
    have get : ∀ (i : Nat) (x : AV), (ds.map AV.d)[i]? = some x → ∃ u, vs[i]? = some u ∧ RelA ρ S1 H1 w x u := by
      intro i x hix
      obtain ⟨y, hy, rfl⟩ := relA_map_d hix
      have hil : i < cs.length := by rw [← g1]; exact (List.getElem?_eq_some_iff.1 hy).1
      obtain ⟨u, hu, hru⟩ := hcell i _ (List.getElem?_eq_getElem hil)
      obtain ⟨y', hy', hvy⟩ := g2 i _ (List.getElem?_eq_getElem hil)
      rw [hy] at hy'; cases hy'
      refine ⟨u, hu, .d _ _ (vwD_rel hi hvy hru st1.sub fun l' hl' => hS1 l' ?_)⟩
      simp only [arrsOf]
      refine List.mem_flatMap.2 ⟨cs[i], List.getElem_mem hil, ?_⟩
      generalize cs[i] = c at hl' hvy
      cases c with
      | os => simpa [arrsOf] using hl'
      | agg => simp [vwD] at hvy
      | _ => simp [arrsOf] at hl'
    refine .agg _ vs (fun i => (vs[i]?).getD undef) (by simp [g1, hl]) (fun i x hix => ?_) (fun i x hix => ?_)
    · obtain ⟨u, hu, _⟩ := get i x hix; rw [hu]; rfl
    · obtain ⟨u, hu, hr⟩ := get i x hix; rw [hu]; exact hr
  | d x =>
    simp only [vw] at hvw; cases hvw
    cases hvr with
    | d _ _ hd => exact .d _ _ (hd.norm.step st1 hi)
  | _ =>
    simp only [vw] at hvw; cases hvw
    exact (RelA.step hvr st1 hi (fun l _ => hN l))

theorem vws_get : ∀ {xs as : List AV}, vws H xs = some as → as.length = xs.length ∧ ∀ (i : Nat) (y : AV), as[i]? = some y → ∃ x, xs[i]? = some x ∧ vw H x = some y
  | [], as, h => by simp only [vws] at h; cases h; simp
  | v :: r, as, h => by
    simp only [vws] at h
    split at h
    · cases h
    · rename_i x hx
      split at h
      · cases h
      · rename_i xs hxs
        cases h
        obtain ⟨h1, h2⟩ := vws_get hxs
        refine ⟨by simp [h1], fun i y hy => ?_⟩
        cases i with
        | zero => simp at hy; subst hy; exact ⟨v, rfl, hx⟩
        | succ i => simp at hy; obtain ⟨z, hz, hv⟩ := h2 i y hy; exact ⟨z, by simpa using hz, hv⟩

/-! ### a result without slices -/
def plainD : D → Bool
  | .int .. | .bool .. | .str .. | .nili | .nilp | .nilm | .nilf | .ifc _ (.int ..) | .vs _ [] => true
  | _ => false

theorem RelD.plain {S S' : Nat → Prop} {w w' : World} {x : D} {v : Value} (h : RelD S w x v) (hx : plainD x = true) : RelD S' w' x v := by
  cases h with
  | int => exact .int _ _
  | bool => exact .bool _
  | str => exact .str _
  | nilp => exact .nilp
  | nilm => exact .nilm
  | nilf => exact .nilf
  | nili => exact .nili
  | ifc t x v h =>
    cases h <;> simp [plainD] at hx
    exact .ifc _ _ _ (.int _ _)
  | vnil t b => exact .vnil t b
  | vs a sz cap es xs h1 h2 h3 h4 h5 =>
    cases es with
    | cons a r => simp [plainD] at hx
    | nil => exact .vs a sz cap [] xs h1 h2 (fun h => absurd rfl h) (fun i j c hi => by simp at hi) (fun i j c x hi => by simp at hi)

theorem noViews_agg {cs : List AV} (h : noViews (.agg cs) = true) : ∀ (i : Nat) (x : AV), cs[i]? = some x → ∃ d, x = .d d ∧ plainD d = true := by
  intro i x hx
  have := List.all_eq_true.1 (by simpa only [noViews] using h) x (List.mem_of_getElem? hx)
  cases x with
  | d d =>
    refine ⟨d, rfl, ?_⟩
    revert this
    cases d with
    | ifc t v => cases v <;> simp [plainD]
    | vs nl es => cases es <;> simp [plainD]
    | _ => simp [plainD]
  | _ => simp at this

theorem noViews_tup {cs : List AV} (h : noViews (.tup cs) = true) : ∀ (i : Nat) (x : AV), cs[i]? = some x → ∃ d, x = .d d ∧ plainD d = true :=
  noViews_agg (cs := cs) h

theorem noViews_rel {rv : AV} (hn : noViews rv = true) {ρ' : Nat → Nat} {S' : Nat → Prop} {H' : Heap} {w' : World} {v : Value} (h : RelA ρ' S' H' w' rv v) : RelA ρ S H w' rv v := by
  cases h with
  | d x v h =>
    refine .d _ _ (h.plain ?_)
    revert hn
    cases x with
    | ifc t v => cases v <;> simp [noViews, plainD]
    | vs nl es => cases es <;> simp [noViews, plainD]
    | _ => simp [noViews, plainD]
  | agg cs vs ys h1 h2 h3 =>
    have hc := noViews_agg hn
    refine .agg cs vs ys h1 h2 fun i x hx => ?_
    obtain ⟨d, rfl, hd⟩ := hc i x hx
    cases h3 i _ hx with
    | d _ _ h => exact .d _ _ (h.plain hd)
  | tup cs vs ys h1 h2 h3 =>
    have hc := noViews_tup hn
    refine .tup cs vs ys h1 h2 fun i x hx => ?_
    obtain ⟨d, rfl, hd⟩ := hc i x hx
    cases h3 i _ hx with
    | d _ _ h => exact .d _ _ (h.plain hd)
  | _ => simp [noViews] at hn

theorem ArgsRel.ren {as : List AV} {vs : Array Value} (h : ArgsRel ρ S H w as vs) {ρ' : Nat → Nat} {H' : Heap} (g : Nat → Nat) (hc : ∀ l, Comp ρ H l ρ' H' (g l)) :
    ArgsRel ρ' S H' w (renL g as) vs := by
  refine ⟨by rw [renL_length]; exact h.1, fun i x hx => ?_⟩
  rw [renL_get] at hx
  obtain ⟨y, hy, rfl⟩ := Option.map_eq_some_iff.1 hx
  obtain ⟨z, hz, hr⟩ := h.2 i y hy
  exact ⟨z, hz, hr.trans g (fun _ h => h) (fun _ _ => rfl) (.refl w) fun l _ => hc l⟩

theorem applyU_app (H : Heap) (u v : Upd) : applyU H (u ++ v) = applyU (applyU H u) v := by simp [applyU, List.foldl_append]

/-- what is known of callees -/
def Good (P : Program) (C : Callee) : Prop := ∀ f args H rv Ho, C f args H = some (rv, Ho) → Meets P f args H rv Ho

theorem acall_sound {X : Ctx} (hC : Good P X.C) (hi : Inv ρ S H w) {f : Nat} {args : List AV} {vs : Array Value} (ha : ArgsRel ρ S H w args vs) {nm : Nat} {v : AV} {u : Upd} {nw : List Nat}
    (h : acall X nm H f args = some (v, u, nw)) (hno : ∀ l ∈ nw, ∀ m p, hget H m = some p → m ≠ l → l ∉ refsO p) :
    Enters P f vs w (fun e w' => ∃ y, e = .returned y ∧ ∃ ρ' S', Step (fun l => l ∈ nw) ρ S H w ρ' S' (applyU H u) w' ∧ RelA ρ' S' (applyU H u) w' v y) := by
  unfold acall at h
  split at h
  · cases h
  · rename_i as has
    simp only at h
    -- what is lent
    have lent : ∃ S1, Step No ρ S H w ρ S1 (applyU H (if X.own f then [] else frz H (args.flatMap arrsOf))) w ∧ ArgsRel ρ S1 (applyU H (if X.own f then [] else frz H (args.flatMap arrsOf))) w as vs ∧
        ∀ l ∈ nw, ∀ m p, hget (applyU H (if X.own f then [] else frz H (args.flatMap arrsOf))) m = some p → m ≠ l → l ∉ refsO p := by
      cases ho : X.own f with
      | true =>
        rw [ho] at has
        simp only [if_true] at has ⊢
        cases has
        exact ⟨S, .refl hi, ha, hno⟩
      | false =>
        rw [ho] at has
        simp only [Bool.false_eq_true, if_false] at has ⊢
        obtain ⟨S1, st1, hS1, _, _⟩ := step_frzs (N := No) hi (args.flatMap arrsOf)
        obtain ⟨g1, g2⟩ := vws_get has
        refine ⟨S1, st1, ⟨g1.trans ha.1, fun i y hy => ?_⟩, fun l hl => frz_no (hno l hl)⟩
        obtain ⟨x, hx, hv⟩ := g2 i y hy
        obtain ⟨z, hz, hr⟩ := ha.2 i x hx
        exact ⟨z, hz, vw_rel hi hr hv st1 (fun _ => id) fun l hl => hS1 l (List.mem_flatMap.2 ⟨x, List.mem_of_getElem? hx, hl⟩)⟩
    obtain ⟨S1, st1, ha1, hno1⟩ := lent
    generalize hH1 : applyU H (if X.own f then [] else frz H (args.flatMap arrsOf)) = H1 at *
    generalize hL : reach H1 RF (refsL as) [] = L at *
    have hLn : L.Nodup := by rw [← hL]; exact reach_nodup H1 _ _ _ List.nodup_nil
    split at h
    · cases h
    · rename_i q hq
      split at h
      · cases h
      · rename_i rv Ho hcall
        have hm := hC _ _ _ _ _ hcall
        obtain ⟨hip, hcp, hlp⟩ := packed st1.inv hLn hq
        have hrun := hm _ S1 w vs hip (ha1.ren _ hcp)
        split at h
        · rename_i hcond
          cases h
          simp only [Bool.and_eq_true, List.isEmpty_iff] at hcond
          obtain ⟨⟨hL0, hHo⟩, hnv⟩ := hcond
          subst hL0
          simp only [pack] at hq; cases hq
          refine hrun.mono fun e w' ⟨y, ρ', S', he, st, hr⟩ => ⟨y, he, ρ, S, ?_, noViews_rel hnv hr⟩
          have hfr : ∀ b, b < w.heap.size → w'.heap[b]? = w.heap[b]? := fun b hb => st.frame b hb fun l ⟨o, ho, _⟩ => by simp [hget] at ho
          have hinv : Inv ρ S H w' := ⟨fun l o ho => (hi.obj l o ho).keep (fun hr => hfr _ ((hi.obj l o ho).lt hr)) (fun _ h => h) (fun b hb => hfr b (hi.dom b hb)) st.grow fun l _ => .refl ρ H l,
            hi.inj, hi.sep, fun b hb => Nat.lt_of_lt_of_le (hi.dom b hb) st.size⟩
          exact ⟨hinv, fun _ h => h, fun _ h => .inl h, fun b hb _ => hfr b hb, st.grow, st.size, fun l hl => .inr ⟨l, hl, rfl⟩, fun l _ => .refl ρ H l, st.outer⟩
        · split at h
          · rename_i hcond
            simp only [Bool.and_eq_true, List.all_eq_true, Bool.or_eq_true, decide_eq_true_eq] at hcond
            obtain ⟨⟨hok, hnd⟩, hLnm⟩ := hcond
            cases h
            refine hrun.mono fun e w' ⟨y, ρ', S', he, st, hr⟩ => ⟨y, he, ?_⟩
            obtain ⟨ρ2, s2, r2⟩ := unpacked st1.inv hLn hq hLnm hok (fun x hx hxl m p hp hmne => hno1 _ (List.mem_map.2 ⟨x, List.mem_filter.2 ⟨hx, by simpa using hxl⟩, rfl⟩) m p hp hmne) st hr
            refine ⟨ρ2, S', ?_, ?_⟩
            · rw [applyU_app, hH1]
              exact (st1.trans s2).weaken fun l h => h.elim (fun h => h.elim) fun h => h
            · rw [applyU_app, hH1]
              exact r2
          · cases h
end
end Bz

/- One operation. -/
namespace Bz
open Go

section
variable {P : Program} {w : World} {ρ : Nat → Nat} {S : Nat → Prop} {H : Heap} {o : Oper} {a : Act} {next : Act → World → Prop} {Q : Exit → Act → World → Prop}

theorem val_wp {s : Sem Value} (he : execOp a.eval o = (do let v ← s; pure (.value v))) {y : Value} {w' : World} (hr : s.run P w = .ok y w') (hn : next (a.put o.dst y) w') : o.wp P a w next Q := by
  unfold Oper.wp; rw [he]; simp [hr, Oper.upon, hn]

theorem skip_wp {s : Sem Unit} (he : execOp a.eval o = (do s; pure .skip)) {w' : World} (hr : s.run P w = .ok () w') (hn : next (a.put o.dst Go.undef) w') : o.wp P a w next Q := by
  unfold Oper.wp; rw [he]; simp [hr, Oper.upon, hn]

theorem tup_undef : RelA ρ S H w (.tup []) Go.undef := .tup [] #[] (fun _ => Go.undef) rfl (fun i x h => by simp at h) (fun i x h => by simp at h)

theorem cvM_rel {E : List AV} (he : RelE ρ S H w E a.tmps) {x : Option Operand} {q : Option AOpd} (h : cvM x = some q) : OptRel ρ S H w (q.map (aev E)) (x.map a.eval) := by
  cases x with
  | none => simp only [cvM] at h; cases h; exact .none
  | some x =>
    simp only [cvM] at h
    obtain ⟨y, hy, rfl⟩ := Option.map_eq_some_iff.1 h
    exact .some _ _ (cvO_rel he hy).rel

theorem cvParts_get {fs : Array Field} : ∀ {xs : List (Nat × Operand)} {as : List (Nat × Nat × AOpd)}, cvParts P fs xs = some as → as.length = xs.length ∧
    ∀ (k : Nat) (p : Nat × Nat × AOpd), as[k]? = some p → ∃ i x f, xs[k]? = some (i, x) ∧ fs[i]? = some f ∧ p.1 = f.offset ∧ p.2.1 = szOf P f.type ∧ cvO x = some p.2.2
  | [], as, h => by simp only [cvParts] at h; cases h; simp
  | (i, x) :: r, as, h => by
    simp only [cvParts] at h
    split at h
    · rename_i f q qs hf hq hqs
      cases h
      obtain ⟨h1, h2⟩ := cvParts_get hqs
      refine ⟨by simp [h1], fun k p hp => ?_⟩
      cases k with
      | zero => simp at hp; subst hp; exact ⟨i, x, f, rfl, hf, rfl, rfl, hq⟩
      | succ k => simp at hp; obtain ⟨i, x, f, g1, g2⟩ := h2 k p hp; exact ⟨i, x, f, by simpa using g1, g2⟩
    · cases h

theorem cvElems_get : ∀ {xs : List (Nat × Operand)} {as : List (Nat × AOpd)}, cvElems xs = some as → as.length = xs.length ∧
    ∀ (k : Nat) (p : Nat × AOpd), as[k]? = some p → ∃ x, xs[k]? = some (p.1, x) ∧ cvO x = some p.2
  | [], as, h => by simp only [cvElems] at h; cases h; simp
  | (i, x) :: r, as, h => by
    simp only [cvElems] at h
    split at h
    · rename_i q qs hq hqs
      cases h
      obtain ⟨h1, h2⟩ := cvElems_get hqs
      refine ⟨by simp [h1], fun k p hp => ?_⟩
      cases k with
      | zero => simp at hp; subst hp; exact ⟨x, rfl, hq⟩
      | succ k => simp at hp; obtain ⟨x, g1, g2⟩ := h2 k p hp; exact ⟨x, by simpa using g1, g2⟩
    · cases h

theorem args_rel {E : List AV} (he : RelE ρ S H w E a.tmps) {xs : Array Operand} {qs : List AOpd} (h : cvOs xs.toList = some qs) : ArgsRel ρ S H w (qs.map (aev E)) (xs.map a.eval) := by
  obtain ⟨h1, h2⟩ := cvOs_get h
  refine ⟨by simp [h1], fun i x hx => ?_⟩
  rw [List.getElem?_map] at hx
  obtain ⟨q, hq, rfl⟩ := Option.map_eq_some_iff.1 hx
  have hi : i < xs.toList.length := by rw [← h1]; exact (List.getElem?_eq_some_iff.1 hq).1
  obtain ⟨q', hq', hc⟩ := h2 i _ (List.getElem?_eq_getElem hi)
  rw [hq] at hq'; cases hq'
  have hi' : i < xs.size := by simpa using hi
  refine ⟨a.eval xs[i], by simp [Array.getElem?_eq_getElem hi'], ?_⟩
  have := (cvO_rel he hc).rel
  simpa using this

theorem ArgsRel.two {x y : AV} {vs : Array Value} (h : ArgsRel ρ S H w [x, y] vs) : ∃ a b, vs = #[a, b] ∧ RelA ρ S H w x a ∧ RelA ρ S H w y b := by
  obtain ⟨h1, h2⟩ := h
  obtain ⟨a, ha, hra⟩ := h2 0 x rfl
  obtain ⟨b, hb, hrb⟩ := h2 1 y rfl
  obtain ⟨l⟩ := vs
  match l, h1, ha, hb with
  | [a', b'], _, ha, hb => simp at ha hb; subst ha hb; exact ⟨_, _, rfl, hra, hrb⟩

theorem ArgsRel.one {x : AV} {vs : Array Value} (h : ArgsRel ρ S H w [x] vs) : ∃ a, vs = #[a] ∧ RelA ρ S H w x a := by
  obtain ⟨h1, h2⟩ := h
  obtain ⟨a, ha, hra⟩ := h2 0 x rfl
  obtain ⟨l⟩ := vs
  match l, h1, ha with
  | [a'], _, ha => simp at ha; subst ha; exact ⟨_, rfl, hra⟩

theorem ArgsRel.append {xs ys : List AV} {vs us : Array Value} (h : ArgsRel ρ S H w xs vs) (h' : ArgsRel ρ S H w ys us) : ArgsRel ρ S H w (xs ++ ys) (vs ++ us) := by
  refine ⟨by simp [h.1, h'.1], fun i x hx => ?_⟩
  by_cases hi : i < xs.length
  · rw [List.getElem?_append_left hi] at hx
    obtain ⟨y, hy, hr⟩ := h.2 i x hx
    exact ⟨y, by rw [Array.getElem?_append_left (h.1 ▸ hi)]; exact hy, hr⟩
  · rw [List.getElem?_append_right (by omega)] at hx
    obtain ⟨y, hy, hr⟩ := h'.2 _ x hx
    exact ⟨y, by rw [Array.getElem?_append_right (by have := h.1; omega), ← h.1]; exact hy, hr⟩


theorem pure_wp {nw : List Nat} {v : AV} (hi : Inv ρ S H w) (hn : ∀ w' y ρ' S', Step (fun l => l ∈ nw) ρ S H w ρ' S' (applyU H []) w' → RelA ρ' S' (applyU H []) w' v y → next (a.put o.dst y) w')
    {s : Sem Value} (he : execOp a.eval o = (do let v ← s; pure (.value v))) (hr : ∃ y, s.run P w = .ok y w ∧ RelA ρ S H w v y) : o.wp P a w next Q := by
  obtain ⟨y, hy, hr⟩ := hr
  exact val_wp he hy (hn w y ρ S (.refl hi) hr)

theorem nil_opd {k : NK} {x : Operand} {q : AOpd} (h : cvO x = some q) (hk : isNilOpd k q = true) : a.eval x = nilOf k := by
  cases x with
  | const v =>
    simp only [cvO] at h
    obtain ⟨y, hy, rfl⟩ := Option.map_eq_some_iff.1 h
    show v = nilOf k
    cases v with
    | agg cs => simp only [cv] at hy; obtain ⟨ds, _, rfl⟩ := Option.map_eq_some_iff.1 hy; simp [isNilOpd] at hk
    | slice p n c =>
      simp only [cv] at hy
      obtain ⟨d, hd, rfl⟩ := Option.map_eq_some_iff.1 hy
      unfold cvD at hd
      split at hd <;> cases hd <;> rename_i e <;> cases e
      simp [isNilOpd] at hk; subst hk; rfl
    | pointer p =>
      simp only [cv] at hy
      obtain ⟨d, hd, rfl⟩ := Option.map_eq_some_iff.1 hy
      unfold cvD at hd
      split at hd <;> cases hd <;> rename_i e <;> cases e
      simp [isNilOpd] at hk; subst hk; rfl
    | map p =>
      simp only [cv] at hy
      obtain ⟨d, hd, rfl⟩ := Option.map_eq_some_iff.1 hy
      unfold cvD at hd
      split at hd <;> cases hd <;> rename_i e <;> cases e
      simp [isNilOpd] at hk; subst hk; rfl
    | nilFunc =>
      simp only [cv, cvD] at hy; cases hy
      simp [isNilOpd] at hk; subst hk; rfl
    | _ => simp only [cv, cvD] at hy; first | cases hy; simp [isNilOpd] at hk | simp at hy
  | tmp t => simp only [cvO] at h; cases h; simp [isNilOpd] at hk
  | func f => simp only [cvO] at h; cases h; simp [isNilOpd] at hk
  | global g => simp [cvO] at h

theorem guard_nil (op : BinOp) (t : TypeId) (x y : Operand) (k : NK) (v : Value) : (eqGuard op t x y v (nilOf k)).run P w = .ok () w ∧ (eqGuard op t x y (nilOf k) v).run P w = .ok () w := by
  constructor <;> (unfold eqGuard; cases op <;> cases k <;> cases v <;> rfl)

theorem bin_nil (t : TypeId) (k : NK) (v : Value) : binOp .eql t v (nilOf k) = (do pure (.bool (← Op.equal t v (nilOf k)))) ∧ binOp .eql t (nilOf k) v = (do pure (.bool (← Op.equal t (nilOf k) v))) ∧
    binOp .neq t v (nilOf k) = (do pure (.bool (!(← Op.equal t v (nilOf k))))) ∧ binOp .neq t (nilOf k) v = (do pure (.bool (!(← Op.equal t (nilOf k) v)))) := by
  refine ⟨?_, ?_, ?_, ?_⟩ <;> (cases k <;> cases v <;> rfl)

theorem nilcmp_rel {k : NK} {op : BinOp} {t : TypeId} {d : TypeDesc} (ht : P.underlying t = some d) (hk : kindOf k d) {x y : Operand} {qa qb : AOpd} {E : List AV} (he : RelE ρ S H w E a.tmps)
    (hx : cvO x = some qa) (hy : cvO y = some qb) {q : AOp} (hq : cvNil k op qa qb = some q) {X : Ctx} {nm : Nat} {v : AV} {u : Upd} {nw : List Nat} (h : aop X nm H (q.map (aev E)) = some (v, u, nw)) :
    u = [] ∧ ∃ z, ((do eqGuard op t x y (a.eval x) (a.eval y); binOp op t (a.eval x) (a.eval y) : Sem Value)).run P w = .ok z w ∧ RelA ρ S H w v z := by
  have key : ∀ {neg : Bool} {z : Operand} {qz : AOpd}, cvO z = some qz → aop X nm H (.isnil k neg (aev E qz)) = some (v, u, nw) → u = [] ∧ ∃ b, RelA ρ S H w v (.bool (if neg then !b else b)) ∧
      (Op.equal t (a.eval z) (nilOf k)).run P w = .ok b w ∧ (Op.equal t (nilOf k) (a.eval z)).run P w = .ok b w := by
    intro neg z qz hz h
    simp only [aop] at h
    obtain ⟨b, hb, h⟩ := Option.map_eq_some_iff.1 h
    cases h
    split at hb
    · rename_i hl
      have hr := (cvO_rel he hz).rel
      generalize aev E qz = xv at hr hl hb
      unfold isNilU at hb
      split at hb
      · rename_i b' hb'
        cases hb
        obtain ⟨g1, g2⟩ := isNil_rel hr hl hb' ht hk
        exact ⟨rfl, b', rel_bool _, g1, g2⟩
      · split at hb <;> try (cases hb; done)
        · cases hb
          cases hr with
          | d _ _ hd =>
            have : ∃ p n c, a.eval z = .slice p n c := by
              generalize a.eval z = zv at hd
              cases hd <;> exact ⟨_, _, _, rfl⟩
            obtain ⟨p, n, c, e⟩ := this
            rw [e]
            obtain ⟨g1, g2⟩ := nil_eq (P := P) (w := w) ht hk 9999 (v := .slice p n c) (b := p.isNone) (.inr (.inl ⟨p, n, c, rfl, rfl, rfl⟩))
            exact ⟨rfl, p.isNone, .anyb _, g1, g2⟩
        · cases hb
          cases hr with
          | os _ _ _ _ _ _ ho =>
            obtain ⟨sz, hc⟩ := liveA_cnt hl
            have : ∃ p n c, a.eval z = .slice p n c := by
              rcases (ho sz _ hc).2 rfl with ⟨_, _, b, e⟩ | ⟨_, a', cap, cs, T, fr, e, _⟩
              · exact ⟨_, _, _, e⟩
              · exact ⟨_, _, _, e⟩
            obtain ⟨p, n, c, e⟩ := this
            rw [e]
            obtain ⟨g1, g2⟩ := nil_eq (P := P) (w := w) ht hk 9999 (v := .slice p n c) (b := p.isNone) (.inr (.inl ⟨p, n, c, rfl, rfl, rfl⟩))
            exact ⟨rfl, p.isNone, .anyb _, g1, g2⟩
    · cases hb
  unfold cvNil at hq
  split at hq
  · split at hq
    · rename_i hn
      cases hq
      obtain ⟨rfl, b, hrel, g1, g2⟩ := key hx h
      rw [nil_opd (a := a) hy hn]
      refine ⟨rfl, .bool b, ?_, by simpa using hrel⟩
      rw [(bin_nil t k _).1]; simp [(guard_nil _ t x y k _).1, g1]
    · split at hq
      · rename_i hn
        cases hq
        obtain ⟨rfl, b, hrel, g1, g2⟩ := key hy h
        rw [nil_opd (a := a) hx hn]
        refine ⟨rfl, .bool b, ?_, by simpa using hrel⟩
        rw [(bin_nil t k _).2.1]; simp [(guard_nil _ t x y k _).2, g2]
      · cases hq
  · split at hq
    · rename_i hn
      cases hq
      obtain ⟨rfl, b, hrel, g1, g2⟩ := key hx h
      rw [nil_opd (a := a) hy hn]
      refine ⟨rfl, .bool (!b), ?_, by simpa using hrel⟩
      rw [(bin_nil t k _).2.2.1]; simp [(guard_nil _ t x y k _).1, g1]
    · split at hq
      · rename_i hn
        cases hq
        obtain ⟨rfl, b, hrel, g1, g2⟩ := key hy h
        rw [nil_opd (a := a) hx hn]
        refine ⟨rfl, .bool (!b), ?_, by simpa using hrel⟩
        rw [(bin_nil t k _).2.2.2]; simp [(guard_nil _ t x y k _).2, g2]
      · cases hq
  · cases hq

end
end Bz

/- One operation, any. -/
namespace Bz
open Go

section
variable {P : Program} {w : World} {ρ : Nat → Nat} {S : Nat → Prop} {H : Heap} {a : Act} {next : Act → World → Prop} {Q : Exit → Act → World → Prop}

/-- what the operation hands on -/
def Hands (N : Nat → Prop) (ρ : Nat → Nat) (S : Nat → Prop) (H : Heap) (w : World) (v : AV) (u : Upd) (K : Value → World → Prop) : Prop :=
  ∀ w' y ρ' S', Step N ρ S H w ρ' S' (applyU H u) w' → RelA ρ' S' (applyU H u) w' v y → K y w'

theorem call_wp {o : Oper} {c : Call} {fo : Operand} (hop : o.op = .call c) (hcal : c.callee = .value fo) {E : List AV} (he : RelE ρ S H w E a.tmps) {g : AOpd} (hg : cvO fo = some g) {as : List AOpd} (has : cvOs c.args.toList = some as)
    {X : Ctx} (hC : Good P X.C) (hi : Inv ρ S H w) {nm : Nat} {v : AV} {u : Upd} {nw : List Nat} (h : aop X nm H (.call (aev E g) (as.map (aev E))) = some (v, u, nw))
    (hno : ∀ l ∈ nw, ∀ m p, hget H m = some p → m ≠ l → l ∉ refsO p) (hn : Hands (fun l => l ∈ nw) ρ S H w v u fun y w' => next (a.put o.dst y) w') : o.wp P a w next Q := by
  simp only [aop] at h
  split at h
  · rename_i f caps hf
    have hfr := (cvO_rel he hg).rel
    rw [hf] at hfr
    generalize hfv : a.eval fo = fv at hfr
    cases hfr with
    | fn _ _ vs ys h1 h2 h3 =>
      have har := args_rel he has
      have hrun := acall_sound hC hi (har.append (ys := caps) (us := vs) ⟨h1, fun i x hx => ⟨ys i, h2 i x hx, h3 i x hx⟩⟩) h hno
      unfold Oper.wp
      have hex : (execOp a.eval o).run P w = (callFunc f (c.args.map a.eval ++ vs)).run P w := by
        unfold execOp
        rw [hop]
        simp only [resolve, hcal, hfv, Deferred.ofValue]
        simp [invoke]
      rw [hex]
      rcases hrun with ⟨hc, hrun⟩ | ⟨y, w', hrun, _, hy, ρ', S', st, hr⟩
      · rw [coded_run hc, Oper.upon_enter]
        refine hrun.mono fun e w' ⟨y, hy, ρ', S', st, hr⟩ => ?_
        subst hy
        exact hn w' y ρ' S' st hr
      · rw [hrun]
        cases hy
        exact hn w' y ρ' S' st hr
  · cases h

/-- a built-in function's operation -/
theorem builtin_wp {o : Oper} {c : Call} {b : Builtin} (hop : o.op = .call c) (hcal : c.callee = .builtin b) {s : Sem Value}
    (hb : ∀ cs, builtin b c.argTypes o.type cs (c.args.map a.eval) = (do let v ← s; pure (.value v))) {y : Value} {w' : World} (hr : s.run P w = .ok y w')
    (hn : next (a.put o.dst y) w') : o.wp P a w next Q := by
  unfold Oper.wp
  have hex : (execOp a.eval o).run P w = .ok (.value y) w' := by
    unfold execOp
    rw [hop]
    simp only [resolve, hcal]
    simp only [Sem.run_bind, Sem.run_pure, Result.andThen_ok]
    simp only [invoke]
    rw [hb]; simp [hr]
  rw [hex]
  exact hn

theorem best_rel (mx : Bool) (argTypes : Array TypeId) (ty : TypeId) {xs : List AV} {vs : Array Value} (h : ArgsRel ρ S H w xs vs) {v : AV} {X : Ctx} {nm : Nat} {u : Upd} {nw : List Nat} (hb : aop X nm H (.best mx xs) = some (v, u, nw)) :
    u = [] ∧ ∃ y, (if mx then Builtin.max_ argTypes ty vs else Builtin.min_ argTypes ty vs).run P w = .ok y w ∧ RelA ρ S H w v y := by
  simp only [aop] at hb
  split at hb
  · rename_i k x k' y
    split at hb
    · rename_i hk
      cases hb
      obtain ⟨a, b, rfl, ha, hb⟩ := h.two
      cases relA_int ha
      cases relA_int hb
      refine ⟨rfl, ?_⟩
      cases mx with
      | true => exact ⟨_, by simp [Builtin.max_, Builtin.max2]; rfl, by simpa using rel_int k _⟩
      | false => exact ⟨_, by simp [Builtin.min_, Builtin.min2]; rfl, by simpa using rel_int k _⟩
    · cases hb
  · cases hb

theorem isNilC_iff {x : AV} (h : isNilC x = true) : x = .d (.vs true []) := by
  unfold isNilC at h
  split at h
  · rfl
  · cases h

theorem bcall_wp {o : Oper} {c : Call} {b : Builtin} (hop : o.op = .call c) (hcal : c.callee = .builtin b) {E : List AV} (he : RelE ρ S H w E a.tmps) {q : AOp} (hq : cvCall P c = some q)
    {X : Ctx} (hi : Inv ρ S H w) {nm : Nat} {v : AV} {u : Upd} {nw : List Nat} (h : aop X nm H (q.map (aev E)) = some (v, u, nw))
    (hno : ∀ l ∈ nw, l ∉ refsL E ∧ ∀ m p, hget H m = some p → m ≠ l → l ∉ refsO p) (hn : Hands (fun l => l ∈ nw) ρ S H w v u fun y w' => next (a.put o.dst y) w') : o.wp P a w next Q := by
  simp only [cvCall, hcal] at hq
  split at hq
  · rename_i x has
    obtain ⟨vx, hvs, hx⟩ := (args_rel he has).one
    have go : ∀ {k : LK} {d : TypeDesc} {t : TypeId}, c.argTypes[0]? = some t → P.underlying t = some d → lkOf k d → aop X nm H (.len k (aev E x)) = some (v, u, nw) → o.wp P a w next Q := by
      intro k d t h0 ht hd h
      simp only [aop] at h
      obtain ⟨r, hr, h⟩ := Option.map_eq_some_iff.1 h
      cases h
      split at hr
      · rename_i hl
        obtain ⟨z, hz, hrel⟩ := len_rel (P := P) (ty := o.type) h0 ht hd hi hx hl hr
        exact builtin_wp hop hcal (fun cs => by rw [hvs]; rfl) hz (hn w z ρ S (.refl hi) hrel)
      · cases hr
    split at hq <;> cases hq
    all_goals
      rename_i e
      obtain ⟨t, h0, ht⟩ := Option.bind_eq_some_iff.1 e
      refine go h0 ht ?_ h
      trivial
  · rename_i x has
    obtain ⟨vx, hvs, hx⟩ := (args_rel he has).one
    split at hq <;> cases hq
    rename_i e
    obtain ⟨t, h0, ht⟩ := Option.bind_eq_some_iff.1 e
    simp only [AOpOf.map, aop] at h
    obtain ⟨r, hr, h⟩ := Option.map_eq_some_iff.1 h
    cases h
    split at hr
    · obtain ⟨z, hz, hrel⟩ := cap_rel (P := P) (ty := o.type) h0 ht hx hr
      exact builtin_wp hop hcal (fun cs => by rw [hvs]; rfl) hz (hn w z ρ S (.refl hi) hrel)
    · cases hr
  · rename_i x y has
    obtain ⟨vx, vy, hvs, hx, hy⟩ := (args_rel he has).two
    have go : ∀ {t t2 e : TypeId} {d2 : TypeDesc}, c.argTypes[0]? = some t → c.argTypes[1]? = some t2 → P.underlying t = some (.slice e) → P.underlying t2 = some d2 → (d2 = .string ∨ ∃ e2, d2 = .slice e2) →
        szOf P e ≠ 0 → P.bytesOf e ≤ 256 → (zeroDs P e).map (·.length) = some (szOf P e) → aop X nm H (.append (szOf P e) (aev E x) (aev E y)) = some (v, u, nw) → o.wp P a w next Q := by
      intro t t2 e d2 h0 h1 ht ht2 hd2 hz hby hzd h
      obtain ⟨z, hz', hzl⟩ := Option.map_eq_some_iff.1 hzd
      simp only [aop] at h
      obtain ⟨ys, hys, h⟩ := Option.bind_eq_some_iff.1 h
      split at h
      · rename_i hsd
        obtain ⟨p, hp, h⟩ := Option.map_eq_some_iff.1 h
        obtain ⟨pv, pu⟩ := p
        cases h
        obtain ⟨w', r, hrun, ρ', S', st, hrel⟩ := append_rel (P := P) (ty := o.type) (N := fun l => l ∈ (if isNilC (aev E x) then pu.map (·.1) else [])) h0 h1 ht ht2 hd2 hz hby hz' hzl hi hx hy hys hsd hp
          (fun hxe hune => by
            rw [hxe] at hp hno ⊢
            simp only [aappend] at hp
            split at hp
            · cases hp; exact absurd rfl hune
            · split at hp
              · cases hp
                exact ⟨by simp [isNilC], (hno nm (by simp [isNilC])).2⟩
              · cases hp)
          (fun l n off len hxe => by rw [hxe]; simp [isNilC])
        exact builtin_wp hop hcal (fun cs => by rw [hvs]; rfl) hrun (hn w' r ρ' S' st hrel)
      · cases h
    split at hq
    · rename_i e e' e1 e2
      split at hq
      · rename_i hc
        cases hq
        obtain ⟨t, h0, ht⟩ := Option.bind_eq_some_iff.1 e1
        obtain ⟨t2, h1, ht2⟩ := Option.bind_eq_some_iff.1 e2
        exact go h0 h1 ht ht2 (.inr ⟨_, rfl⟩) hc.1 hc.2.2.1 hc.2.2.2 h
      · cases hq
    · rename_i e e1 e2
      split at hq
      · rename_i hc
        cases hq
        obtain ⟨t, h0, ht⟩ := Option.bind_eq_some_iff.1 e1
        obtain ⟨t2, h1, ht2⟩ := Option.bind_eq_some_iff.1 e2
        exact go h0 h1 ht ht2 (.inl rfl) (by omega) hc.2.1 hc.2.2 (by rw [hc.1]; exact h)
      · cases hq
    · rename_i e e1 e2
      split at hq
      · rename_i z hz
        split at hq
        · rename_i hc
          cases hq
          obtain ⟨t, h0, ht⟩ := Option.bind_eq_some_iff.1 e1
          obtain ⟨t2, h1, ht2⟩ := Option.bind_eq_some_iff.1 e2
          simp only [AOpOf.map, aop] at h
          obtain ⟨p, hp, h⟩ := Option.map_eq_some_iff.1 h
          obtain ⟨pv, pu⟩ := p
          cases h
          obtain ⟨w', r, hrun, ρ', st, hrel⟩ := appz_rel (P := P) (ty := o.type) (N := fun l => l ∈ [nm]) h0 h1 ht ht2 hc.1 hc.2.2 hz hc.2.1 hi (by simp) (hno nm (by simp)).2 hx hy hp
          exact builtin_wp hop hcal (fun cs => by rw [hvs]; rfl) hrun (hn w' r ρ' S st hrel)
        · cases hq
      · cases hq
    · cases hq
  · rename_i x y has
    obtain ⟨vx, vy, hvs, hx, hy⟩ := (args_rel he has).two
    have go : ∀ {t e : TypeId}, c.argTypes[0]? = some t → P.underlying t = some (.slice e) → szOf P e ≠ 0 → aop X nm H (.copy (szOf P e) (aev E x) (aev E y)) = some (v, u, nw) → o.wp P a w next Q := by
      intro t e h0 ht hz h
      simp only [aop] at h
      obtain ⟨ys, hys, h⟩ := Option.bind_eq_some_iff.1 h
      split at h
      · rename_i hsd
        obtain ⟨p, hp, h⟩ := Option.map_eq_some_iff.1 h
        obtain ⟨pv, pu⟩ := p
        cases h
        obtain ⟨w', r, hrun, ρ', S', st, hrel⟩ := copy_rel (P := P) (ty := o.type) h0 ht hz hi hx hy hys hsd hp
        exact builtin_wp hop hcal (fun cs => by rw [hvs]; rfl) hrun (hn w' r ρ' S' (st.weaken fun _ h => h.elim) hrel)
      · cases h
    split at hq
    · rename_i e e' e1 e2
      split at hq
      · rename_i hc
        cases hq
        obtain ⟨t, h0, ht⟩ := Option.bind_eq_some_iff.1 e1
        exact go h0 ht hc.1 h
      · cases hq
    · rename_i e e1 e2
      split at hq
      · rename_i hc
        cases hq
        obtain ⟨t, h0, ht⟩ := Option.bind_eq_some_iff.1 e1
        exact go h0 ht (by omega) (by rw [hc]; exact h)
      · cases hq
    · cases hq
  · rename_i x has
    obtain ⟨vx, hvs, hx⟩ := (args_rel he has).one
    split at hq
    · rename_i e e1
      obtain ⟨t, h0, ht⟩ := Option.bind_eq_some_iff.1 e1
      split at hq
      · rename_i z hz
        split at hq
        · rename_i hc
          cases hq
          simp only [aop, AOpOf.map] at h
          split at h
          · rename_i l n off len hxe
            split at h
            · rename_i s es hes
              split at h
              · rename_i hcc
                cases h
                rw [hxe] at hx
                obtain ⟨w', hrun, ρ', S', st⟩ := clear_rel (P := P) (ty := o.type) h0 ht hc.1 hz hi hx hes hcc.1 hcc.2.1 ((List.length_map _).symm.trans hcc.2.2) (hcc.2.2.symm.trans ((List.length_map _).trans hc.2))
                exact builtin_wp hop hcal (fun cs => by rw [hvs]; rfl) hrun (hn w' _ ρ' S' (st.weaken fun _ h => h.elim) (tup_undef))
              · cases h
            · cases h
          · rename_i hxe
            cases h
            rw [hxe] at hx
            have hrun : (Builtin.clear_ c.argTypes o.type #[vx]).run P w = .ok (.tuple #[]) w := by
              cases hx with
              | d _ _ hd =>
                cases hd with
                | vnil t b => cases b <;> simp [Builtin.clear_, h0, run_underlying ht]
                | vs => simp [Builtin.clear_, h0, run_underlying ht]
            exact builtin_wp hop hcal (fun cs => by rw [hvs]; rfl) hrun (hn w _ ρ S (.refl hi) (tup_undef))
          · cases h
        · cases hq
      · cases hq
    · cases hq
  · rename_i x y has
    obtain ⟨vx, vy, hvs, hx, hy⟩ := (args_rel he has).two
    split at hq
    · rename_i kt et e1
      obtain ⟨t, h0, ht⟩ := Option.bind_eq_some_iff.1 e1
      obtain ⟨p, hp, rfl⟩ := Option.map_eq_some_iff.1 hq
      obtain ⟨ag, ks⟩ := p
      simp only [aop, AOpOf.map] at h
      obtain ⟨p, hp', h⟩ := Option.map_eq_some_iff.1 h
      obtain ⟨pv, pu⟩ := p
      cases h
      obtain ⟨hr, w', hrun, ρ', S', st⟩ := delete_rel (P := P) (ty := o.type) h0 ht hp hi hx hy hp'
      subst hr
      exact builtin_wp hop hcal (fun cs => by rw [hvs]; rfl) hrun (hn w' _ ρ' S' (st.weaken fun _ h => h.elim) (tup_undef))
    · cases hq
  · rename_i xs has
    cases hq
    obtain ⟨rfl, y, hy, hr⟩ := best_rel true c.argTypes o.type (args_rel he has) h
    exact builtin_wp hop hcal (fun cs => rfl) hy (hn w y ρ S (.refl hi) hr)
  · rename_i xs has
    cases hq
    obtain ⟨rfl, y, hy, hr⟩ := best_rel false c.argTypes o.type (args_rel he has) h
    exact builtin_wp hop hcal (fun cs => rfl) hy (hn w y ρ S (.refl hi) hr)
  · cases hq
end
end Bz

/- One operation, any. -/
namespace Bz
open Go

section
variable {P : Program} {w : World} {ρ : Nat → Nat} {S : Nat → Prop} {H : Heap} {a : Act} {next : Act → World → Prop} {Q : Exit → Act → World → Prop}

theorem cv_zero {t : TypeId} {z : AV} (h : zeroOf P t = some z) : ∃ zv, (∀ w : World, (zeroValue t).run P w = .ok zv w) ∧ cv zv = some z := by
  unfold zeroOf at h
  obtain ⟨zv, h1, h2⟩ := Option.bind_eq_some_iff.1 h
  obtain ⟨i, hi, hz⟩ := Option.bind_eq_some_iff.1 h1
  exact ⟨zv, fun w => run_zero hi hz w, h2⟩

theorem cv_solid {v : Value} {x : AV} (h : cv v = some x) : solid x = true := by
  cases v <;> simp only [cv] at h
  case agg cs =>
    obtain ⟨ds, _, rfl⟩ := Option.map_eq_some_iff.1 h
    simp [solid, cellsOf, flatA]
  all_goals
    obtain ⟨d, _, rfl⟩ := Option.map_eq_some_iff.1 h
    simp [solid, cellsOf, flatA]

set_option maxHeartbeats 4000000 in
theorem op_sound {o : Oper} {X : Ctx} (hC : Good P X.C) (hi : Inv ρ S H w) {E : List AV} (he : RelE ρ S H w E a.tmps) {q : AOp} (hq : cvOp P o.op = some q) {nm : Nat} {v : AV} {u : Upd} {nw : List Nat}
    (h : aop X nm H (q.map (aev E)) = some (v, u, nw)) (hno : ∀ l ∈ nw, l ∉ refsL E ∧ ∀ m p, hget H m = some p → m ≠ l → l ∉ refsO p)
    (hn : Hands (fun l => l ∈ nw) ρ S H w v u fun y w' => next (a.put o.dst y) w') : o.wp P a w next Q := by
  obtain ⟨dst, op, type, pos, after, guard⟩ := o
  simp only at hq hn
  cases op with
  | move x =>
    simp only [cvOp] at hq
    obtain ⟨qx, hx, rfl⟩ := Option.map_eq_some_iff.1 hq
    simp only [AOpOf.map, aop] at h; cases h
    exact pure_wp (s := pure (a.eval x)) hi hn rfl ⟨_, rfl, (cvO_rel he hx).rel⟩
  | assign x =>
    simp only [cvOp] at hq
    obtain ⟨qx, hx, rfl⟩ := Option.map_eq_some_iff.1 hq
    simp only [AOpOf.map, aop] at h; cases h
    exact pure_wp (s := pure (a.eval x)) hi hn rfl ⟨_, rfl, (cvO_rel he hx).rel⟩
  | pick c x y =>
    simp only [cvOp] at hq
    split at hq
    · rename_i qc qx qy hc hx hy
      cases hq
      simp only [AOpOf.map, aop] at h
      split at h
      · rename_i t ht
        cases h
        have hcr := (cvO_rel he hc).rel
        rw [ht] at hcr
        have hcv := relA_bool hcr
        refine pure_wp (s := (do pure (if ← asBool (a.eval c) then a.eval x else a.eval y))) hi hn ?_ ⟨if t then a.eval x else a.eval y, ?_, ?_⟩
        · simp [execOp]
        · simp [hcv, asBool]
        · cases t
          · exact (cvO_rel he hy).rel
          · exact (cvO_rel he hx).rel
      · cases h
    · cases hq
  | alloc t =>
    simp only [cvOp] at hq
    split at hq
    · rename_i hz
      obtain ⟨z, hzo, rfl⟩ := Option.map_eq_some_iff.1 hq
      simp only [AOpOf.map, aop, aev] at h
      split at h
      · rename_i hc
        cases h
        obtain ⟨zv, hzr, hcv⟩ := cv_zero hzo
        have hl : nm ∈ [nm] := by simp
        obtain ⟨w', hrun, ρ', st, hr⟩ := box_rel (P := P) (sz := 0) (N := fun l => l ∈ [nm]) hi hl (hno nm hl).2 (cv_rel hcv) (by simp [cv_refs hcv]) (cv_solid hcv) t
        exact val_wp (s := Instr.alloc t true (.tuple #[])) rfl (by simp [Instr.alloc, hzr, hrun]) (hn w' _ ρ' S st hr)
      · cases h
    · cases hq
  | box t x =>
    simp only [cvOp] at hq
    split at hq
    · rename_i hz
      obtain ⟨qx, hx, rfl⟩ := Option.map_eq_some_iff.1 hq
      simp only [AOpOf.map, aop] at h
      split at h
      · rename_i hc
        cases h
        have hl : nm ∈ [nm] := by simp
        obtain ⟨w', hrun, ρ', st, hr⟩ := box_rel (P := P) (sz := 0) (N := fun l => l ∈ [nm]) hi hl (hno nm hl).2 (cvO_rel he hx).rel (fun hm => (hno nm hl).1 ((cvO_rel he hx).sub _ hm)) hc.2 t
        exact val_wp (s := Instr.box t (a.eval x)) rfl (by simp [Instr.box, hrun]) (hn w' _ ρ' S st hr)
      · cases h
    · cases hq
  | build t ps =>
    simp only [cvOp] at hq
    split at hq
    · rename_i fs ht
      split at hq
      · rename_i z as hz has
        split at hq
        · rename_i hall
          cases hq
          simp only [AOpOf.map, aop] at h
          obtain ⟨cs, hcs, h⟩ := Option.map_eq_some_iff.1 h
          cases h
          obtain ⟨g1, g2⟩ := cvParts_get has
          refine pure_wp (s := Instr.build t (ps.map fun p => (p.1, a.eval p.2))) hi hn rfl ?_
          refine build_rel ht hz hall (by simp [g1]) (fun k p hp => ?_) hcs
          rw [List.getElem?_map] at hp
          obtain ⟨p0, hp0, rfl⟩ := Option.map_eq_some_iff.1 hp
          obtain ⟨i, x, f, e1, e2, e3, e4, e5⟩ := g2 k p0 hp0
          exact ⟨i, a.eval x, f, by simpa using ⟨i, x, by simpa using e1, rfl, rfl⟩, e2, e3, e4, (cvO_rel he e5).rel⟩
        · cases hq
      · cases hq
    · cases hq
  | buildSlice t len ps =>
    simp only [cvOp] at hq
    split at hq
    · rename_i e ht
      split at hq
      · rename_i z as hz has
        split at hq
        · rename_i hc
          cases hq
          simp only [AOpOf.map, aop] at h
          obtain ⟨es, hes, h⟩ := Option.map_eq_some_iff.1 h
          cases h
          obtain ⟨g1, g2⟩ := cvElems_get has
          have hl : nm ∈ [nm] := by simp
          obtain ⟨w', y, hrun, ρ', S', st, hr⟩ := buildSl_rel (N := fun l => l ∈ [nm]) ht hc.1 hz hc.2.1 hc.2.2 hi hl (hno nm hl).2 (parts := ps.map fun p => (p.1, a.eval p.2)) (by simp [g1]) (fun k p hp => by
            rw [List.getElem?_map] at hp
            obtain ⟨p0, hp0, rfl⟩ := Option.map_eq_some_iff.1 hp
            obtain ⟨x, e1, e5⟩ := g2 k p0 hp0
            exact ⟨a.eval x, by simpa using ⟨p0.1, x, by simpa using e1, rfl, rfl⟩, (cvO_rel he e5).rel⟩) hes
          refine val_wp ?_ hrun (hn w' y ρ' S' st hr)
          rfl
        · cases hq
      · cases hq
    · cases hq
  | load t x =>
    simp only [cvOp] at hq
    split at hq
    · rename_i hz
      split at hq
      · rename_i g qx hg hx
        cases hq
        simp only [AOpOf.map, aop] at h
        obtain ⟨r, hr, h⟩ := Option.map_eq_some_iff.1 h
        cases h
        exact pure_wp (s := Instr.loadAt t (a.eval x)) hi hn rfl (load_rel rfl hz hg hi (cvO_rel he hx).rel hr)
      · cases hq
    · cases hq
  | store t x y =>
    simp only [cvOp] at hq
    split at hq
    · rename_i hz
      split at hq
      · rename_i qx qy hx hy
        cases hq
        simp only [AOpOf.map, aop] at h
        obtain ⟨r, hr, h⟩ := Option.map_eq_some_iff.1 h
        cases h
        obtain ⟨w', hrun, ρ', S', st⟩ := store_rel (P := P) rfl hz hi (cvO_rel he hx).rel (cvO_rel he hy).rel hr
        exact skip_wp (s := Instr.storeAt t (a.eval x) (a.eval y)) rfl hrun (hn w' _ ρ' S' (st.weaken fun _ h => h.elim) tup_undef)
      · cases hq
    · cases hq
  | nilCheck x =>
    simp only [cvOp] at hq
    obtain ⟨qx, hx, rfl⟩ := Option.map_eq_some_iff.1 hq
    simp only [AOpOf.map, aop] at h
    obtain ⟨r, hr, h⟩ := Option.map_eq_some_iff.1 h
    cases h
    split at hr
    · rename_i hl
      have hrel := (cvO_rel he hx).rel
      generalize aev E qx = xv at hr hl hrel
      obtain ⟨ev, hev⟩ : ∃ ev, a.eval x = ev := ⟨_, rfl⟩
      rw [hev] at hrel
      unfold Oper.wp
      have key : (execOp a.eval ⟨dst, .nilCheck x, type, pos, after, guard⟩).run P w = .ok (.value ev) w ∧ RelA ρ S H w v ev := by
        unfold anil at hr
        split at hr
        · cases hr
          cases hrel with
          | pv _ _ vv hf hv => have e := hv (liveA_var hl); subst e; constructor; · simp [execOp, hev]
                               · exact .pv _ _ _ hf hv
        · cases hr
          cases hrel with
          | pa _ _ _ _ vv hf hv =>
            obtain ⟨sz, hc⟩ := liveA_cnt' hl
            have e := (hv sz _ hc).2 rfl
            subst e
            constructor
            · simp [execOp, hev]
            · exact .pa _ _ _ _ _ hf hv
        · cases hr
          refine ⟨?_, hrel⟩
          cases hrel with
          | vp _ _ ad xs h1 h2 h3 => simp [execOp, hev]
        · cases hr
          refine ⟨?_, hrel⟩
          cases hrel with
          | fn _ _ vs ys h1 h2 h3 => simp [execOp, hev]
        · cases hr
      rw [key.1]
      exact hn w _ ρ S (.refl hi) key.2
    · cases hr
  | binOp op t x y c =>
    simp only [cvOp] at hq
    split at hq
    · rename_i qx qy hx hy
      have rx := (cvO_rel he hx).rel
      have ry := (cvO_rel he hy).rel
      have bin : (∃ z, ((do eqGuard op t x y (a.eval x) (a.eval y); binOp op t (a.eval x) (a.eval y) : Sem Value)).run P w = .ok z w ∧ RelA ρ S H w v z) → u = [] →
          Oper.wp P ⟨dst, .binOp op t x y c, type, pos, after, guard⟩ a w next Q := by
        intro hz hu
        subst hu
        exact pure_wp (o := ⟨dst, .binOp op t x y c, type, pos, after, guard⟩) (s := (do eqGuard op t x y (a.eval x) (a.eval y); binOp op t (a.eval x) (a.eval y))) hi hn rfl hz
      split at hq
      · split at hq
        · rename_i ks hks
          have agg : ∀ {neg : Bool}, aop X nm H (.eqagg ks neg (aev E qx) (aev E qy)) = some (v, u, nw) → u = [] ∧ aeqagg ks neg (aev E qx) (aev E qy) = some v := by
            intro neg h
            simp only [aop] at h
            obtain ⟨r, hr, h⟩ := Option.map_eq_some_iff.1 h
            cases h; exact ⟨rfl, hr⟩
          split at hq
          · cases hq
            obtain ⟨hu, hv⟩ := agg h
            exact bin (eqagg_rel (neg := false) hks x y rx ry hv) hu
          · cases hq
            obtain ⟨hu, hv⟩ := agg h
            exact bin (eqagg_rel (neg := true) hks x y rx ry hv) hu
          · cases hq
        · cases hq
      · cases hq
        simp only [AOpOf.map, aop] at h
        obtain ⟨r, hr, h⟩ := Option.map_eq_some_iff.1 h
        cases h
        exact bin (abin_rel t x y rx ry hr) rfl
      · cases hq
        simp only [AOpOf.map, aop] at h
        obtain ⟨r, hr, h⟩ := Option.map_eq_some_iff.1 h
        cases h
        exact bin (abin_rel t x y rx ry hr) rfl
      · rename_i ht
        split at hq
        · cases hq
          simp only [AOpOf.map, aop] at h
          obtain ⟨r, hr, h⟩ := Option.map_eq_some_iff.1 h
          cases h
          exact bin (abinb_rel (neg := false) t ht x y rx ry hr) rfl
        · cases hq
          simp only [AOpOf.map, aop] at h
          obtain ⟨r, hr, h⟩ := Option.map_eq_some_iff.1 h
          cases h
          exact bin (abinb_rel (neg := true) t ht x y rx ry hr) rfl
        · cases hq
      · rename_i ht
        obtain ⟨hu, hz⟩ := nilcmp_rel (k := .p) ht trivial he hx hy hq h
        exact bin hz hu
      · rename_i ht
        obtain ⟨hu, hz⟩ := nilcmp_rel (k := .s) ht trivial he hx hy hq h
        exact bin hz hu
      · rename_i ht
        obtain ⟨hu, hz⟩ := nilcmp_rel (k := .m) ht trivial he hx hy hq h
        exact bin hz hu
      · rename_i ht
        obtain ⟨hu, hz⟩ := nilcmp_rel (k := .f) ht trivial he hx hy hq h
        exact bin hz hu
      · cases hq
    · cases hq
  | unOp op t x =>
    simp only [cvOp] at hq
    obtain ⟨qx, hx, rfl⟩ := Option.map_eq_some_iff.1 hq
    simp only [AOpOf.map, aop] at h
    obtain ⟨r, hr, h⟩ := Option.map_eq_some_iff.1 h
    cases h
    exact pure_wp (s := Op.unary op (a.eval x)) hi hn rfl (aun_rel (cvO_rel he hx).rel hr)
  | convert s t x =>
    simp only [cvOp] at hq
    split at hq
    · rename_i k' k hs ht
      obtain ⟨qx, hx, rfl⟩ := Option.map_eq_some_iff.1 hq
      simp only [AOpOf.map, aop] at h
      split at h
      · rename_i k0 n hxe
        cases h
        have rx := (cvO_rel he hx).rel
        rw [hxe] at rx
        have e := relA_int rx
        exact pure_wp (s := Go.convert s t (a.eval x)) hi hn rfl ⟨_, by simp [e, Go.convert, run_underlying hs, run_underlying ht, Conv.intToInt], rel_int _ _⟩
      · cases h
    · rename_i hs ht
      obtain ⟨qx, hx, rfl⟩ := Option.map_eq_some_iff.1 hq
      simp only [AOpOf.map, aop] at h
      split at h
      · rename_i s0 hxe
        cases h
        have rx := (cvO_rel he hx).rel
        rw [hxe] at rx
        have e := relA_str rx
        exact pure_wp (s := Go.convert s t (a.eval x)) hi hn rfl ⟨_, by simp [e, Go.convert, run_underlying hs, run_underlying ht], rel_str _⟩
      · cases h
    · rename_i e hs ht
      split at hq
      · rename_i he'
        split at hq
        · rename_i hz
          obtain ⟨qx, hx, rfl⟩ := Option.map_eq_some_iff.1 hq
          simp only [AOpOf.map, aop] at h
          obtain ⟨r, hr, h⟩ := Option.map_eq_some_iff.1 h
          cases h
          obtain ⟨ys, hys, hb⟩ := Option.bind_eq_some_iff.1 hr
          exact pure_wp (s := Go.convert s t (a.eval x)) hi hn rfl ⟨_, toStr_rel hs he' ht hi (cvO_rel he hx).rel hys hb, rel_str _⟩
        · cases hq
      · cases hq
    · cases hq
  | makeFunc fn first captured =>
    cases fn with
    | func f =>
      simp only [cvOp] at hq
      split at hq
      · rename_i hf
        obtain ⟨qs, hqs, rfl⟩ := Option.map_eq_some_iff.1 hq
        simp only [AOpOf.map, aop] at h
        cases h
        have har := args_rel he hqs
        have hfe : first = #[] := by simpa using hf
        subst hfe
        refine pure_wp (s := Instr.makeFunc (.func f) (#[].map a.eval) (captured.map a.eval)) hi hn rfl ⟨_, rfl, ?_⟩
        have hemp : (#[] : Array Operand).map a.eval = #[] := by simp
        rw [hemp]
        refine .fn f _ _ (fun i => ((captured.map a.eval)[i]?).getD Go.undef) har.1 (fun i x hx => ?_) (fun i x hx => ?_)
        · obtain ⟨y, hy, _⟩ := har.2 i x hx; rw [hy]; rfl
        · obtain ⟨y, hy, hr⟩ := har.2 i x hx; rw [hy]; exact hr
      · cases hq
    | _ => simp [cvOp] at hq
  | makeMap t r =>
    cases r with
    | some r => simp [cvOp] at hq
    | none =>
      simp only [cvOp] at hq
      split at hq
      · obtain ⟨p, hp, rfl⟩ := Option.map_eq_some_iff.1 hq
        simp only [AOpOf.map, aop] at h
        cases h
        have hl : nm ∈ [nm] := by simp
        obtain ⟨w', y, hrun, ρ', st, hr⟩ := mkmap_rel (P := P) (N := fun l => l ∈ [nm]) hi hl (hno nm hl).2 t p.1 p.2
        exact val_wp (s := Instr.makeMap t none) rfl hrun (hn w' y ρ' S st hr)
      · cases hq
  | makeSlice t l c =>
    simp only [cvOp] at hq
    split at hq
    · rename_i e ht
      split at hq
      · rename_i z ql qc hz hl' hc'
        split at hq
        · rename_i hc
          cases hq
          simp only [AOpOf.map, aop] at h
          obtain ⟨p, hp, h⟩ := Option.map_eq_some_iff.1 h
          obtain ⟨pv, pu⟩ := p
          cases h
          have hl : nm ∈ [nm] := by simp
          obtain ⟨w', y, hrun, ρ', st, hr⟩ := mksl_rel (P := P) (N := fun l => l ∈ [nm]) ht hc.1 hz hc.2.1 hc.2.2 hi hl (hno nm hl).2 (cvO_rel he hl').rel (cvO_rel he hc').rel hp
          exact val_wp (s := Instr.makeSlice t (a.eval l) (a.eval c)) rfl hrun (hn w' y ρ' S st hr)
        · cases hq
      · cases hq
    · cases hq
  | slice t x lo hi' mx =>
    simp only [cvOp] at hq
    split at hq
    · rename_i qx qlo qhi qmx hx hlo hhi hmx
      have rx := (cvO_rel he hx).rel
      have rlo := cvM_rel he hlo
      have rhi := cvM_rel he hhi
      have rmx := cvM_rel he hmx
      split at hq
      · rename_i ht
        split at hq
        · rename_i hnone
          cases hq
          simp only [AOpOf.map, aop] at h
          split at h
          · rename_i s hxe
            obtain ⟨p, hp, h⟩ := Option.map_eq_some_iff.1 h
            cases h
            rw [hxe] at rx
            have : mx = none := by
              cases mx with
              | none => rfl
              | some m =>
                simp only [cvM] at hmx
                obtain ⟨z, _, rfl⟩ := Option.map_eq_some_iff.1 hmx
                simp at hnone
            subst this
            exact pure_wp (s := Instr.sliceAt t (a.eval x) (lo.map a.eval) (hi'.map a.eval) (none.map a.eval)) hi hn rfl ⟨_, slstr_rel ht rx rlo rhi hp, rel_str _⟩
          · cases h
        · cases hq
      · rename_i e ht
        split at hq
        · rename_i hc
          cases hq
          simp only [AOpOf.map, aop] at h
          obtain ⟨r, hr, h⟩ := Option.map_eq_some_iff.1 h
          cases h
          split at hr
          · rename_i hl
            refine pure_wp (s := Instr.sliceAt t (a.eval x) (lo.map a.eval) (hi'.map a.eval) (mx.map a.eval)) hi hn rfl (slice_rel ht hc.1 hi rx rlo rhi rmx (fun hm => ?_) hl hr)
            rcases hc.2 with h | h
            · rw [Option.isNone_iff_eq_none] at h; subst h; simp at hm
            · simpa using h
          · cases hr
        · cases hq
      · cases hq
    · cases hq
  | fieldAddr t x i =>
    simp only [cvOp] at hq
    split at hq
    · rename_i fs ht
      split at hq
      · rename_i f hf
        split at hq
        · rename_i hz
          obtain ⟨qx, hx, rfl⟩ := Option.map_eq_some_iff.1 hq
          simp only [AOpOf.map, aop] at h
          obtain ⟨r, hr, h⟩ := Option.map_eq_some_iff.1 h
          cases h
          split at hr
          · rename_i hl
            exact pure_wp (s := Instr.fieldAt t (a.eval x) i) hi hn rfl (faddr_rel ht hf hz (cvO_rel he hx).rel hl hr)
          · cases hr
        · cases hq
      · cases hq
    · cases hq
  | field t x i =>
    simp only [cvOp] at hq
    split at hq
    · rename_i fs ht
      split at hq
      · rename_i f hf
        split at hq
        · rename_i hz
          split at hq
          · rename_i g qx hg hx
            cases hq
            simp only [AOpOf.map, aop] at h
            split at h
            · rename_i cs hxe
              obtain ⟨r, hr, h⟩ := Option.map_eq_some_iff.1 h
              cases h
              obtain ⟨ds, hds, hmk⟩ := Option.bind_eq_some_iff.1 hr
              have rx := (cvO_rel he hx).rel
              rw [hxe] at rx
              obtain ⟨vs, hvs, _⟩ := agg_cells rx
              rw [hvs] at rx
              obtain ⟨z, hz', hrel⟩ := part_rel (P := P) rfl hz hg rx hds hmk
              exact pure_wp (s := Instr.field t (a.eval x) i) hi hn rfl ⟨z, by simp [Instr.field, run_underlying ht, hf, hvs, asAgg, hz'], hrel⟩
            · cases h
          · cases hq
        · cases hq
      · cases hq
    · cases hq
  | indexAddr t x i =>
    simp only [cvOp] at hq
    split at hq
    · rename_i e ht
      split at hq
      · rename_i hz
        split at hq
        · rename_i qx qi hx hi'
          cases hq
          simp only [AOpOf.map, aop] at h
          obtain ⟨r, hr, h⟩ := Option.map_eq_some_iff.1 h
          cases h
          split at hr
          · rename_i hl
            exact pure_wp (s := Instr.indexAt t (a.eval x) (a.eval i)) hi hn rfl (iaddr_rel ht hz (cvO_rel he hx).rel (cvO_rel he hi').rel hl hr)
          · cases hr
        · cases hq
      · cases hq
    · cases hq
  | index t x i =>
    simp only [cvOp] at hq
    split at hq
    · rename_i ht
      split at hq
      · rename_i qx qi hx hi'
        cases hq
        simp only [AOpOf.map, aop] at h
        obtain ⟨r, hr, h⟩ := Option.map_eq_some_iff.1 h
        cases h
        exact pure_wp (s := Instr.index t (a.eval x) (a.eval i)) hi hn rfl (idx_rel ht (cvO_rel he hx).rel (cvO_rel he hi').rel hr)
      · cases hq
    · cases hq
  | lookup t x k ok =>
    simp only [cvOp] at hq
    split at hq
    · rename_i kt e ht
      split at hq
      · rename_i p z qx qk hp hz hx hk
        cases hq
        simp only [AOpOf.map, aop] at h
        obtain ⟨r, hr, h⟩ := Option.map_eq_some_iff.1 h
        cases h
        exact pure_wp (s := Instr.lookup t (a.eval x) (a.eval k) ok) hi hn rfl (lookup_rel ht (ag := p.1) (ks := p.2) hp hz hi (cvO_rel he hx).rel (cvO_rel he hk).rel hr ok)
      · cases hq
    · cases hq
  | mapUpdate t m k x =>
    simp only [cvOp] at hq
    split at hq
    · rename_i kt e ht
      split at hq
      · rename_i p qm qk qx hp hm hk hx
        cases hq
        simp only [AOpOf.map, aop] at h
        obtain ⟨r, hr, h⟩ := Option.map_eq_some_iff.1 h
        obtain ⟨rv, ru⟩ := r
        cases h
        obtain ⟨hrv, w', hrun, ρ', S', st⟩ := mapupd_rel (P := P) ht (ag := p.1) (ks := p.2) hp hi (cvO_rel he hm).rel (cvO_rel he hk).rel (cvO_rel he hx).rel hr
        subst hrv
        exact skip_wp (s := Instr.mapUpdate t (a.eval m) (a.eval k) (a.eval x)) rfl hrun (hn w' _ ρ' S' (st.weaken fun _ h => h.elim) tup_undef)
      · cases hq
    · cases hq
  | insert t m k x =>
    simp only [cvOp] at hq
    split at hq
    · rename_i kt e ht
      split at hq
      · rename_i p qm qk qx hp hm hk hx
        cases hq
        simp only [AOpOf.map, aop] at h
        obtain ⟨r, hr, h⟩ := Option.map_eq_some_iff.1 h
        obtain ⟨rv, ru⟩ := r
        cases h
        obtain ⟨hrv, w', hrun, ρ', S', st⟩ := mapupd_rel (P := P) ht (ag := p.1) (ks := p.2) hp hi (cvO_rel he hm).rel (cvO_rel he hk).rel (cvO_rel he hx).rel hr
        subst hrv
        exact skip_wp (s := Instr.mapUpdate t (a.eval m) (a.eval k) (a.eval x)) rfl hrun (hn w' _ ρ' S' (st.weaken fun _ h => h.elim) tup_undef)
      · cases hq
    · cases hq
  | extract x i =>
    simp only [cvOp] at hq
    obtain ⟨qx, hx, rfl⟩ := Option.map_eq_some_iff.1 hq
    simp only [AOpOf.map, aop] at h
    split at h
    · rename_i cs hxe
      obtain ⟨r, hr, h⟩ := Option.map_eq_some_iff.1 h
      cases h
      have rx := (cvO_rel he hx).rel
      rw [hxe] at rx
      generalize hev : a.eval x = ev at rx
      cases rx with
      | tup _ vs ys h1 h2 h3 =>
        refine pure_wp (s := Instr.extract (a.eval x) i) hi hn rfl ⟨ys i, by simp [hev, Instr.extract, h2 i _ hr], h3 i _ hr⟩
    · cases h
  | call c =>
    simp only [cvOp] at hq
    cases hcal : c.callee with
    | value f =>
      simp only [cvCall, hcal] at hq
      split at hq
      · rename_i g as hg has
        cases hq
        exact call_wp (o := ⟨dst, .call c, type, pos, after, guard⟩) rfl hcal he hg has hC hi (nm := nm) (nw := nw) h (fun l hl => (hno l hl).2) hn
      · cases hq
    | invoke r m => simp [cvCall, hcal] at hq
    | builtin b => exact bcall_wp (o := ⟨dst, .call c, type, pos, after, guard⟩) rfl hcal he hq hi h hno hn
  | makeInterface t x =>
    simp only [cvOp] at hq
    split at hq
    · rename_i k ht
      obtain ⟨qx, hx, rfl⟩ := Option.map_eq_some_iff.1 hq
      simp only [AOpOf.map, aop] at h
      split at h
      · rename_i d hxe
        cases h
        have rx := (cvO_rel he hx).rel
        rw [hxe] at rx
        cases rx with
        | d _ _ hd =>
          exact pure_wp (s := Instr.makeInterface t (a.eval x)) hi hn rfl ⟨.iface t (a.eval x), by simp [Instr.makeInterface, run_underlying ht], .d _ _ (.ifc t _ _ hd)⟩
      · cases h
    · cases hq
  | _ => simp [cvOp] at hq
end
end Bz

/- A region in the text's order. -/
namespace Bz
open Go

section
variable {P : Program} {X : Ctx}

/-- names that are made in the midst of a function -/
def Big : Nat → Prop := fun l => 10000 ≤ l

theorem nameOf_big (rid i : Nat) : 10000 ≤ nameOf rid i := by unfold nameOf; omega

theorem aop_new {nm : Nat} {H : Heap} {op : AOpOf AV} {v : AV} {u : Upd} {nw : List Nat} (h : aop X nm H op = some (v, u, nw)) : ∀ l ∈ nw, nm ≤ l := by
  intro l hl
  cases op <;> simp only [aop] at h
  case call f args =>
    split at h
    · unfold acall at h
      split at h
      · cases h
      · simp only at h
        generalize (if X.own _ = true then ([] : Upd) else frz H _) = lent at h
        split at h
        · cases h
        · split at h
          · cases h
          · split at h
            · cases h; simp at hl
            · split at h
              · cases h
                obtain ⟨x, hx, rfl⟩ := List.mem_map.1 hl
                have := (List.mem_filter.1 hx).2
                simp only [decide_eq_true_eq] at this
                rw [if_neg (by omega)]; omega
              · cases h
    · cases h
  case append sz x y =>
    obtain ⟨ys, _, h⟩ := Option.bind_eq_some_iff.1 h
    split at h
    · obtain ⟨p, hp, h⟩ := Option.map_eq_some_iff.1 h
      cases h
      split at hl
      · rename_i hx
        rw [isNilC_iff hx] at hp
        simp only [aappend] at hp
        split at hp
        · cases hp; simp at hl
        · split at hp
          · cases hp; simp at hl; omega
          · cases hp
      · simp at hl
    · cases h
  case copy sz x y =>
    obtain ⟨ys, _, h⟩ := Option.bind_eq_some_iff.1 h
    split at h
    · obtain ⟨p, hp, h⟩ := Option.map_eq_some_iff.1 h
      cases h; simp at hl
    · cases h
  case mksl sz z l c =>
    obtain ⟨p, hp, h⟩ := Option.map_eq_some_iff.1 h
    cases h; simp at hl; omega
  case appz sz z x n =>
    obtain ⟨p, hp, h⟩ := Option.map_eq_some_iff.1 h
    cases h; simp at hl; omega
  all_goals
    first
    | (cases h; done)
    | (cases h; simp at hl; done)
    | (cases h; simp at hl; omega)
    | (obtain ⟨p, hp, h⟩ := Option.map_eq_some_iff.1 h; cases h; simp at hl; done)
    | (obtain ⟨p, hp, h⟩ := Option.map_eq_some_iff.1 h; cases h; simp at hl; omega)
    | (split at h <;> first | (cases h; done) | (cases h; simp at hl; done) | (cases h; simp at hl; omega) | (obtain ⟨p, hp, h⟩ := Option.map_eq_some_iff.1 h; cases h; simp at hl; done) |
        (split at h <;> first | (cases h; done) | (cases h; simp at hl; done) | (split at h <;> cases h <;> simp at hl; done)))

/-- operation and what stands for it -/
theorem cvOper_cases (ops : Array Oper) (dr : Bool) (bs : Array Nat) (o : Oper) (i : Nat) :
    (∃ g q, cvGuard ops o.guard = some g ∧ cvOp P o.op = some q ∧ cvOper P ops dr bs o i = { dst := o.dst, op := q, guard := g, bef := if dr then befOf (bs.getD i 0) i else [] }) ∨
    ((cvOper P ops dr bs o i).op = .bad ∧ (cvOper P ops dr bs o i).guard = none) := by
  unfold cvOper
  split
  · rename_i g q hg hq
    exact .inl ⟨g, q, hg, hq, rfl⟩
  · exact .inr ⟨rfl, rfl⟩

theorem wants_rel {ρ : Nat → Nat} {S : Nat → Prop} {H : Heap} {w : World} {E : List AV} {a : Act} (he : RelE ρ S H w E a.tmps) {ops : Array Oper} {o : Oper} {g : Option (Nat × Bool)} (hg : cvGuard ops o.guard = some g) {b : Bool}
    (h : wants E g = some b) : Region.wanted o (yielded ops a.tmps) = b := by
  unfold Region.wanted
  cases hog : o.guard with
  | none =>
    rw [hog] at hg
    simp only [cvGuard] at hg; cases hg
    simp only [wants] at h; cases h; rfl
  | some p =>
    obtain ⟨j, t⟩ := p
    rw [hog] at hg
    simp only [cvGuard] at hg
    split at hg
    · rename_i d hd
      cases hg
      simp only [wants] at h
      have hr := he.at_ d
      simp only [yielded, hd, Option.bind_some]
      split at h
      · rename_i t' ht
        cases h
        rw [ht] at hr
        have e := relA_bool hr
        have : a.tmps[d]? = some (.bool t') := by
          by_cases hlt : d < a.tmps.size
          · rw [Array.getElem?_eq_getElem hlt]; simpa [Array.getD, hlt] using e
          · simp [Array.getD, hlt, Go.undef] at e
        rw [this]
        cases t' <;> cases t <;> rfl
      · rename_i ht
        cases h
        rw [ht] at hr
        generalize hv : a.tmps.getD d Go.undef = v at hr
        cases hr with
        | tup _ vs ys h1 _ _ =>
          by_cases hlt : d < a.tmps.size
          · have : a.tmps[d]? = some (.tuple vs) := by rw [Array.getElem?_eq_getElem hlt]; simpa [Array.getD, hlt] using hv
            rw [this]; rfl
          · rw [Array.getElem?_eq_none (Nat.le_of_not_lt hlt)]; rfl
      · cases h
    · cases hg

/-- one operation of a region, carried out or left out -/
theorem oper_sound (hC : Good P X.C) {ρ : Nat → Nat} {S : Nat → Prop} {H : Heap} {w : World} {a : Act} {Q : Exit → Act → World → Prop} {next : Act → World → Prop} {ops : Array Oper} {o : Oper} {i : Nat} (ho : ops[i]? = some o)
    (hi : Inv ρ S H w) {E : List AV} (he : RelE ρ S H w E a.tmps) {g : Option (Nat × Bool)} {q : AOp} (hg : cvGuard ops o.guard = some g) (hq : cvOp P o.op = some q) {v : AV} {u : Upd} {nw : List Nat} {rid : Nat}
    (h : (wants E g = some false ∧ v = .tup [] ∧ u = [] ∧ nw = []) ∨ (wants E g = some true ∧ aop X (nameOf rid i) H (q.map (aev E)) = some (v, u, nw)))
    (hno : ∀ l ∈ nw, l ∉ refsL E ∧ ∀ m p, hget H m = some p → m ≠ l → l ∉ refsO p)
    (hn : ∀ w' y ρ' S', Step Big ρ S H w ρ' S' (applyU H u) w' → RelE ρ' S' (applyU H u) w' (putE E o.dst v) (a.put o.dst y).tmps → next (a.put o.dst y) w') :
    wpOp P ops Q i next a w := by
  unfold wpOp
  simp only [ho]
  rcases h with ⟨hw, rfl, rfl, rfl⟩ | ⟨hw, hop⟩
  · have := wants_rel he hg hw
    rw [this]
    simp only [Bool.false_eq_true, if_false]
    exact hn w _ ρ S (.refl hi) (he.put o.dst tup_undef)
  · have := wants_rel he hg hw
    rw [this]
    simp only [if_true]
    refine .inl (op_sound hC hi he hq hop hno fun w' y ρ' S' st hr => ?_)
    refine hn w' y ρ' S' (st.weaken fun l hl => Nat.le_trans (nameOf_big rid i) (aop_new hop l hl)) ?_
    exact (he.step st hi fun l hl hm => (hno l hm).1 hl).put o.dst hr

theorem fresh_spec {E : List AV} {H : Heap} {nw : List Nat} (h : freshU E H nw = true) : ∀ l ∈ nw, l ∉ refsL E ∧ ∀ m p, hget H m = some p → m ≠ l → l ∉ refsO p :=
  fun l hl => noRef_spec (List.all_eq_true.1 h l hl)

theorem aops_sound (hC : Good P X.C) {ops : Array Oper} {bs : Array Nat} {rid : Nat} {Q : Exit → Act → World → Prop} : ∀ (r : List Oper) (i : Nat) (s s' : St) (ρ : Nat → Nat) (S : Nat → Prop) (w : World) (a : Act),
    (∀ k o, r[k]? = some o → ops[i + k]? = some o) → aops X rid (cvOpers P ops false bs r i) i s = some s' → Inv ρ S s.H w → RelE ρ S s.H w s.E a.tmps →
    (∀ ρ' S' w' (a' : Act), Step Big ρ S s.H w ρ' S' s'.H w' → RelE ρ' S' s'.H w' s'.E a'.tmps → a'.defers = a.defers → Q .normal a' w') →
    wpOps P ops Q (List.range' i r.length) a w
  | [], i, s, s', ρ, S, w, a, _, h, hi, he, hn => by
    simp only [cvOpers, aops] at h
    cases h
    exact hn ρ S w a (.refl hi) he rfl
  | o :: r, i, s, s', ρ, S, w, a, hops, h, hi, he, hn => by
    have ho : ops[i]? = some o := hops 0 o rfl
    simp only [List.length_cons, List.range'_succ]
    rw [wpOps_cons]
    simp only [cvOpers, aops] at h
    have rest : ∀ {E' : List AV} {H' : Heap} {ρ1 : Nat → Nat} {S1 : Nat → Prop} {w1 : World} {a1 : Act}, aops X rid (cvOpers P ops false bs r (i + 1)) (i + 1) { E := E', H := H' } = some s' → Step Big ρ S s.H w ρ1 S1 H' w1 →
        RelE ρ1 S1 H' w1 E' a1.tmps → a1.defers = a.defers → wpOps P ops Q (List.range' (i + 1) r.length) a1 w1 := by
      intro E' H' ρ1 S1 w1 a1 h1 st1 he1 hd
      refine aops_sound hC r (i + 1) _ s' ρ1 S1 w1 a1 (fun k o hk => ?_) h1 st1.inv he1 fun ρ' S' w' a' st he' hd' => hn ρ' S' w' a' ((st1.trans st).weaken fun _ h => h.elim id id) he' (hd'.trans hd)
      have := hops (k + 1) o (by simpa using hk)
      rwa [show i + 1 + k = i + (k + 1) by omega]
    rcases cvOper_cases (P := P) ops false bs o i with ⟨g, q, hg, hq, hcv⟩ | ⟨hbad, hgn⟩
    · rw [hcv] at h
      simp only at h
      split at h
      · cases h
      · rename_i hw
        refine oper_sound hC ho hi he hg hq (rid := rid) (.inl ⟨hw, rfl, rfl, rfl⟩) (fun l hl => by simp at hl) fun w' y ρ' S' st he' => ?_
        exact rest h st he' (by cases o.dst <;> rfl)
      · rename_i hw
        split at h
        · cases h
        · rename_i v u nw hop
          split at h
          · rename_i hf
            refine oper_sound hC ho hi he hg hq (rid := rid) (.inr ⟨hw, hop⟩) (fresh_spec hf) fun w' y ρ' S' st he' => ?_
            exact rest h st he' (by cases o.dst <;> rfl)
          · cases h
    · rw [hbad, hgn] at h
      simp [wants, AOpOf.map, aop] at h

end
end Bz

/- What an operation looks at: its operands, and the objects that they name. -/
namespace Bz
open Go

section
variable {X : Ctx} {H H' : Heap}

theorem vwD_local {v : AV} (h : ∀ l ∈ refs v, hget H' l = hget H l) : vwD H' v = vwD H v := by
  cases v <;> simp only [vwD]
  rw [h _ (by simp [refs])]

theorem vwDs_local : ∀ {vs : List AV}, (∀ l ∈ refsL vs, hget H' l = hget H l) → vwDs H' vs = vwDs H vs
  | [], _ => rfl
  | v :: r, h => by
    simp only [vwDs]
    rw [vwD_local fun l hl => h l (by simp [refsL, hl]), vwDs_local fun l hl => h l (by simp [refsL, hl])]

theorem refsL_cells (v : AV) : ∀ l ∈ refsL (cellsOf v), l ∈ refs v := by
  intro l hl
  cases v <;> simp [cellsOf, refsL, refs] at hl ⊢ <;> exact hl

theorem arrs_refs {v : AV} : ∀ l ∈ arrsOf v, l ∈ refs v := by
  intro l hl
  cases v with
  | os => simpa [arrsOf, refs] using hl
  | agg cs =>
    simp only [arrsOf, refs] at hl ⊢
    obtain ⟨c, hc, hl⟩ := List.mem_flatMap.1 hl
    obtain ⟨i, hi⟩ := List.getElem?_of_mem hc
    refine refsL_mem hi l ?_
    cases c <;> simp [refs] at hl ⊢
    exact hl
  | _ => simp [arrsOf] at hl

theorem arrs_refsL {vs : List AV} : ∀ l ∈ vs.flatMap arrsOf, l ∈ refsL vs := by
  intro l hl
  obtain ⟨c, hc, hl⟩ := List.mem_flatMap.1 hl
  obtain ⟨i, hi⟩ := List.getElem?_of_mem hc
  exact refsL_mem hi l (arrs_refs l hl)

theorem frz_local {ls : List Nat} (h : ∀ l ∈ ls, hget H' l = hget H l) : frz H' ls = frz H ls := by
  induction ls with
  | nil => rfl
  | cons a r ih =>
    simp only [frz, List.filterMap_cons]
    rw [h a (by simp)]
    have := ih fun l hl => h l (by simp [hl])
    simp only [frz] at this
    rw [this]

theorem vw_local {v : AV} (h : ∀ l ∈ refs v, hget H' l = hget H l) : vw H' v = vw H v := by
  cases v <;> simp only [vw]
  · rw [vwD_local h]
  · rw [vwDs_local fun l hl => h l (by simpa [refs] using hl)]

theorem vws_local : ∀ {vs : List AV}, (∀ l ∈ refsL vs, hget H' l = hget H l) → vws H' vs = vws H vs
  | [], _ => rfl
  | v :: r, h => by
    simp only [vws]
    rw [vw_local fun l hl => h l (by simp [refsL, hl]), vws_local fun l hl => h l (by simp [refsL, hl])]

theorem liveA_local {v : AV} (h : ∀ l ∈ refs v, hget H' l = hget H l) : liveA H' v = liveA H v := by
  cases v <;> simp only [liveA] <;> rw [h _ (by simp [refs])]

theorem rowLen_local {sz : Nat} {v : AV} (h : ∀ l ∈ refs v, hget H' l = hget H l) : rowLen H' sz v = rowLen H sz v := by
  cases v <;> simp only [rowLen]
  · rename_i d; cases d <;> rfl
  · rw [h _ (by simp [refs])]

theorem rowOf_local {sz : Nat} {v : AV} (h : ∀ l ∈ refs v, hget H' l = hget H l) : rowOf H' sz v = rowOf H sz v := by
  unfold rowOf
  split
  · rfl
  · exact rowLen_local h

theorem szAt_local {sz l : Nat} (h : hget H' l = hget H l) : szAt H' sz l = szAt H sz l := by unfold szAt; rw [h]

theorem fillRow_local {sz : Nat} : ∀ {ps : List (Nat × AV)} {es : List (List D)}, (∀ l ∈ refsL (ps.map (·.2)), hget H' l = hget H l) → fillRow H' sz es ps = fillRow H sz es ps
  | [], _, _ => rfl
  | (i, v) :: r, es, h => by
    simp only [fillRow]
    rw [vwDs_local (H := H) (H' := H') (vs := cellsOf v) fun l hl => h l (by simp [refsL, refsL_cells v l hl])]
    have : ∀ es, fillRow H' sz es r = fillRow H sz es r := fun es => fillRow_local fun l hl => h l (by simp only [List.map_cons, refsL, List.mem_append]; exact .inr hl)
    simp only [this]

theorem reach_sub (H : Heap) : ∀ (k : Nat) (ls seen : List Nat), ∀ l ∈ seen, l ∈ reach H k ls seen
  | 0, _, _, l, h => h
  | _ + 1, [], _, l, h => h
  | k + 1, a :: r, seen, l, h => by
    simp only [reach]
    split
    · exact reach_sub H k r seen l h
    · split <;> exact reach_sub H k _ _ l (by simp [h])

theorem reach_local : ∀ (k : Nat) (ls seen : List Nat), (∀ l ∈ reach H k ls seen, hget H' l = hget H l) → reach H' k ls seen = reach H k ls seen
  | 0, _, _, _ => rfl
  | _ + 1, [], _, _ => rfl
  | k + 1, a :: r, seen, h => by
    simp only [reach] at h ⊢
    split
    · rename_i hc
      rw [if_pos hc] at h
      exact reach_local k r seen h
    · rename_i hc
      rw [if_neg hc] at h
      have ha : hget H' a = hget H a := by
        apply h
        split <;> exact reach_sub H k _ _ a (by simp)
      rw [ha]
      split at h
      · rename_i e; exact reach_local k r _ h
      · exact reach_local k _ _ h

theorem pack_local {g : Nat → Nat} : ∀ {i : Nat} {L : List Nat}, (∀ l ∈ L, hget H' l = hget H l) → pack H' g i L = pack H g i L
  | _, [], _ => rfl
  | i, l :: r, h => by
    simp only [pack]
    rw [h l (by simp), pack_local (i := i + 1) fun l hl => h l (by simp [hl])]

theorem hget_map_mem {u : Upd} {l : Nat} (h : l ∈ u.map (·.1)) : ∃ o, hget u l = some o := by
  obtain ⟨x, hx, rfl⟩ := List.mem_map.1 h
  exact Option.isSome_iff_exists.1 (hget_of_mem hx)

theorem applyU_local (u : Upd) : ∀ {H H' : Heap} {l : Nat}, (l ∈ u.map (·.1) ∨ hget H' l = hget H l) → hget (applyU H' u) l = hget (applyU H u) l := by
  induction u with
  | nil => intro H H' l h; simpa [applyU] using h
  | cons p r ih =>
    intro H H' l h
    show hget (applyU (hset H' p.1 p.2) r) l = hget (applyU (hset H p.1 p.2) r) l
    apply ih
    by_cases e : l = p.1
    · subst e; right; rw [hget_set_self, hget_set_self]
    · rcases h with h | h
      · simp only [List.map_cons, List.mem_cons] at h
        exact .inl (h.resolve_left e)
      · right; rw [hget_set_ne _ _ e, hget_set_ne _ _ e]; exact h

theorem applyU_other (u : Upd) : ∀ {H : Heap} {l : Nat}, l ∉ u.map (·.1) → hget (applyU H u) l = hget H l := by
  induction u with
  | nil => intro H l _; rfl
  | cons p r ih =>
    intro H l h
    simp only [List.map_cons, List.mem_cons, not_or] at h
    show hget (applyU (hset H p.1 p.2) r) l = hget H l
    rw [ih h.2, hget_set_ne _ _ h.1]

theorem acall_local {nm : Nat} {f : Nat} {args : List AV} {v : AV} {u : Upd} {nw : List Nat} (h : acall X nm H f args = some (v, u, nw))
    (hag : ∀ l, l ∈ refsL args ∨ l ∈ u.map (·.1) → hget H' l = hget H l) : acall X nm H' f args = some (v, u, nw) := by
  have e1 : vws H' args = vws H args := vws_local fun l hl => hag l (.inl hl)
  have e2 : frz H' (args.flatMap arrsOf) = frz H (args.flatMap arrsOf) := frz_local fun l hl => hag l (.inl (arrs_refsL l hl))
  unfold acall at h ⊢
  rw [e1, e2]
  split at h
  · cases h
  · rename_i as has
    simp only at h ⊢
    generalize (if X.own f = true then ([] : Upd) else frz H (args.flatMap arrsOf)) = lent at h ⊢
    have e3 : (∀ l ∈ reach (applyU H lent) RF (refsL as) [], hget (applyU H' lent) l = hget (applyU H lent) l) := by
      intro l hl
      split at h
      · cases h
      · split at h
        · cases h
        · rename_i q hq rv Ho hcall
          split at h
          · rename_i hc
            simp only [Bool.and_eq_true, List.isEmpty_iff] at hc
            rw [hc.1.1] at hl; simp at hl
          · split at h
            · rename_i hc
              cases h
              simp only [Bool.and_eq_true, backOK] at hc
              obtain ⟨⟨⟨_, hall⟩, _⟩, _⟩ := hc
              apply applyU_local
              by_cases hlent : l ∈ lent.map (·.1)
              · exact .inl hlent
              · right
                refine hag l (.inr ?_)
                generalize reach (applyU H lent) RF (refsL as) [] = L at *
                have hj := List.all_eq_true.1 hall (L.idxOf l) (List.mem_range.2 (List.idxOf_lt_length_of_mem hl))
                obtain ⟨o, _, hmem⟩ := hget_dom hj
                rw [List.map_append, List.map_map]
                refine List.mem_append_right _ (List.mem_map.2 ⟨_, hmem, ?_⟩)
                simp only [Function.comp]
                rw [if_pos (List.idxOf_lt_length_of_mem hl), List.getD, idx_get hl]; rfl
            · cases h
    rw [reach_local _ _ _ e3, pack_local e3]
    exact h

theorem aop_local {nm : Nat} {op : AOpOf AV} {v : AV} {u : Upd} {nw : List Nat} (h : aop X nm H op = some (v, u, nw))
    (hag : ∀ l, l ∈ rd op ∨ l ∈ u.map (·.1) → hget H' l = hget H l) : aop X nm H' op = some (v, u, nw) := by
  have hr : ∀ l ∈ rd op, hget H' l = hget H l := fun l hl => hag l (.inl hl)
  cases op
  case call f args =>
    simp only [aop] at h ⊢
    split at h
    · rename_i g caps
      refine acall_local h fun l hl => ?_
      rcases hl with hl | hl
      · apply hr
        simp only [rd, refs, List.mem_append]
        obtain ⟨i, x, hx, hlx⟩ := refsL_mem' hl
        rw [List.getElem?_append] at hx
        split at hx
        · exact .inr (refsL_mem hx l hlx)
        · exact .inl (refsL_mem hx l hlx)
      · exact hag l (.inr hl)
    · cases h
  case load sz ag x =>
    simp only [aop] at h ⊢
    have : aload H' sz ag x = aload H sz ag x := by
      cases x <;> simp only [aload] <;> rw [hr _ (by simp [rd, refs])]
    rw [this]; exact h
  case store sz a x =>
    simp only [aop] at h ⊢
    have : astore H' sz a x = astore H sz a x := by
      have e1 : frz H' ((cellsOf x).flatMap arrsOf) = frz H ((cellsOf x).flatMap arrsOf) := frz_local fun l hl => hr l (by simp only [rd, List.mem_append]; exact .inr (refsL_cells x l (arrs_refsL l hl)))
      have e2 : vwDs H' (cellsOf x) = vwDs H (cellsOf x) := vwDs_local fun l hl => hr l (by simp only [rd, List.mem_append]; exact .inr (refsL_cells x l hl))
      simp only [astore, e1, e2]
      cases a <;> simp only <;> rw [hr _ (by simp [rd, refs])]
    rw [this]; exact h
  case buildSl sz z len ps =>
    simp only [aop] at h ⊢
    rw [fillRow_local hr, frz_local fun l hl => hr l ?_]
    · exact h
    · obtain ⟨p, hp, hl⟩ := List.mem_flatMap.1 hl
      obtain ⟨i, hi⟩ := List.getElem?_of_mem hp
      exact refsL_mem (i := i) (x := p.2) (by simp [hi]) l (refsL_cells _ l (arrs_refsL l hl))
  case isnil k neg x => simp only [aop] at h ⊢; rw [liveA_local hr]; exact h
  case nilchk x => simp only [aop] at h ⊢; rw [liveA_local hr]; exact h
  case slice sz x lo hi mx =>
    simp only [aop] at h ⊢
    have : aslice sz H' x lo hi mx = aslice sz H x lo hi mx := by
      unfold aslice
      split
      · rfl
      · rw [szAt_local (hr _ (by simp [rd, refs]))]
      · rfl
    rw [liveA_local hr, this]; exact h
  case faddr off x => simp only [aop] at h ⊢; rw [liveA_local hr]; exact h
  case iaddr sz x i =>
    simp only [aop] at h ⊢
    have : aindex sz H' x i = aindex sz H x i := by
      unfold aindex
      split
      · rfl
      · rw [szAt_local (hr _ (by simp [rd, refs]))]
      · rfl
    rw [liveA_local hr, this]; exact h
  case lookup ag ks z x k ok =>
    simp only [aop] at h ⊢
    have : alookup H' ag ks x k = alookup H ag ks x k := by
      unfold alookup
      split
      · split
        · rfl
        · rw [hr _ (by simp [rd, refs])]
        · rfl
      · rfl
    rw [this]; exact h
  case mapupd ag ks m k x =>
    simp only [aop] at h ⊢
    have : amapupd H' ag ks m k x = amapupd H ag ks m k x := by
      have e1 : vw H' x = vw H x := vw_local fun l hl => hr l (by simp [rd, hl])
      have e2 : frz H' (arrsOf x) = frz H (arrsOf x) := frz_local fun l hl => hr l (by simp [rd, arrs_refs l hl])
      simp only [amapupd, e1, e2]
      cases m <;> simp only <;> rw [hr _ (by simp [rd, refs])]
    rw [this]; exact h
  case len k x =>
    simp only [aop] at h ⊢
    have : alen H' k x = alen H k x := by
      unfold alen
      split
      · rfl
      · rfl
      · rfl
      · rfl
      · rfl
      · rw [hr _ (by simp [rd, refs])]
      · rfl
    rw [liveA_local hr, this]; exact h
  case append sz x y =>
    simp only [aop] at h ⊢
    have e1 : rowOf H' sz y = rowOf H sz y := rowOf_local fun l hl => hr l (by simp [rd, hl])
    have e2 : ∀ ys, aappend nm H' sz x ys = aappend nm H sz x ys := by
      intro ys
      unfold aappend
      split
      · rfl
      · rw [hr _ (by simp [rd, refs])]
      · rfl
    rw [e1]; simp only [e2]; exact h
  case copy sz x y =>
    simp only [aop] at h ⊢
    have e1 : rowOf H' sz y = rowOf H sz y := rowOf_local fun l hl => hr l (by simp [rd, hl])
    have e2 : ∀ ys, acopy H' sz x ys = acopy H sz x ys := by
      intro ys
      unfold acopy
      split
      · rw [hr _ (by simp [rd, refs])]
      · rfl
    rw [e1]; simp only [e2]; exact h
  case clear z x =>
    simp only [aop] at h ⊢
    split at h
    · rw [hr _ (by simp [rd, refs])]; exact h
    · exact h
    · cases h
  case delete ag ks m k =>
    simp only [aop] at h ⊢
    have : adelete H' ag ks m k = adelete H ag ks m k := by
      unfold adelete
      split
      · split
        · rw [hr _ (by simp [rd, refs])]
        · rfl
        · rfl
      · rfl
    rw [this]; exact h
  case toStr x => simp only [aop] at h ⊢; rw [rowLen_local hr]; exact h
  all_goals exact h
end
end Bz

/- A region whose order is open: what was carried out, in whichever order. -/
namespace Bz
open Go

/-- what an operation came to -/
structure R where
  d : Option Nat
  v : AV
  u : Upd
  nw : List Nat
  f : Option Foot

def selE (p : Nat → Bool) : List R → Nat → List AV → List AV
  | [], _, E => E
  | x :: r, i, E => selE p r (i + 1) (if p i then putE E x.d x.v else E)

def selH (p : Nat → Bool) : List R → Nat → Heap → Heap
  | [], _, H => H
  | x :: r, i, H => selH p r (i + 1) (if p i then applyU H x.u else H)

theorem putE_len (E : List AV) (d : Option Nat) (v : AV) : (putE E d v).length = E.length := by cases d <;> simp [putE]

theorem nth_put (E : List AV) (d : Option Nat) (v : AV) (t : Nat) : nth (putE E d v) t = if d = some t ∧ t < E.length then v else nth E t := by
  cases d with
  | none => simp [putE]
  | some d =>
    simp only [putE, nth_set]
    by_cases h : t = d
    · subst h; simp
    · simp [h]; intro e; exact absurd e.symm h

theorem nth_out {E : List AV} {t : Nat} (h : E.length ≤ t) : nth E t = .undef := by rw [nth_eq, List.getElem?_eq_none h]; rfl

theorem nth_ext {A B : List AV} (hl : A.length = B.length) (h : ∀ t, nth A t = nth B t) : A = B := by
  apply List.ext_getElem hl
  intro i h1 h2
  have := h i
  rw [nth_eq, nth_eq, List.getElem?_eq_getElem h1, List.getElem?_eq_getElem h2] at this
  exact this

theorem selE_len (p : Nat → Bool) : ∀ (rs : List R) (i : Nat) (E : List AV), (selE p rs i E).length = E.length
  | [], _, _ => rfl
  | x :: r, i, E => by
    simp only [selE]
    rw [selE_len p r]
    split
    · exact putE_len _ _ _
    · rfl

theorem shift {p : Nat → Prop} {i : Nat} {r : List R} {x : R} {Q : R → Prop} (h : ∀ k y, (x :: r)[k]? = some y → Q y → p (i + k)) : ∀ k y, r[k]? = some y → Q y → p (i + 1 + k) := by
  intro k y hk hy
  have := h (k + 1) y (by simpa using hk) hy
  rwa [show i + 1 + k = i + (k + 1) by omega]

theorem selE_congr {p q : Nat → Bool} {t : Nat} : ∀ (rs : List R) (i : Nat) (E E' : List AV), E.length = E'.length → nth E t = nth E' t → (∀ k x, rs[k]? = some x → x.d = some t → p (i + k) = q (i + k)) →
    nth (selE p rs i E) t = nth (selE q rs i E') t
  | [], _, _, _, _, h, _ => h
  | x :: r, i, E, E', hl, h, hp => by
    simp only [selE]
    refine selE_congr r (i + 1) _ _ ?_ ?_ (shift (p := fun k => p k = q k) (Q := fun x => x.d = some t) hp)
    · split <;> split <;> simp [putE_len, hl]
    · by_cases hd : x.d = some t
      · have := hp 0 x rfl hd
        simp only [Nat.add_zero] at this
        rw [this]
        split
        · rw [nth_put, nth_put, h, hl]
        · exact h
      · have e1 : nth (if p i = true then putE E x.d x.v else E) t = nth E t := by
          split
          · rw [nth_put]; simp [hd]
          · rfl
        have e2 : nth (if q i = true then putE E' x.d x.v else E') t = nth E' t := by
          split
          · rw [nth_put]; simp [hd]
          · rfl
        rw [e1, e2, h]

theorem selE_false : ∀ (rs : List R) (i : Nat) (E : List AV), selE (fun _ => false) rs i E = E
  | [], _, _ => rfl
  | x :: r, i, E => by simp only [selE]; exact selE_false r (i + 1) E

theorem selE_last {p : Nat → Bool} {t : Nat} {x : R} : ∀ (rs : List R) (i k : Nat) (E : List AV), rs[k]? = some x → x.d = some t → p (i + k) = true → (∀ k' y, k < k' → rs[k']? = some y → y.d = some t → p (i + k') = false) →
    nth (selE p rs i E) t = if t < E.length then x.v else .undef
  | [], _, _, _, h, _, _, _ => by simp at h
  | y :: r, i, 0, E, h, hd, hp, hl => by
    simp at h; subst h
    simp only [selE, Nat.add_zero] at hp ⊢
    rw [if_pos hp, selE_congr (q := fun _ => false) r (i + 1) _ (putE E y.d y.v) rfl rfl (fun k z hk hz => ?_), selE_false, nth_put]
    · simp only [hd, true_and]
      split
      · rfl
      · rename_i hlt; exact nth_out (Nat.le_of_not_lt hlt)
    · have := hl (k + 1) z (by omega) (by simpa using hk) hz
      rwa [show i + 1 + k = i + (k + 1) by omega]
  | y :: r, i, k + 1, E, h, hd, hp, hl => by
    simp only [selE]
    rw [selE_last r (i + 1) k _ (by simpa using h) hd (by rwa [show i + 1 + k = i + (k + 1) by omega]) (fun k' z hk' hz hzd => by
      have := hl (k' + 1) z (by omega) (by simpa using hz) hzd
      rwa [show i + 1 + k' = i + (k' + 1) by omega])]
    congr 1
    split <;> simp [putE_len]

/-- one more is carried out -/
theorem selE_insert {p p' : Nat → Bool} {rs : List R} {i : Nat} {x : R} {E : List AV} (hx : rs[i]? = some x) (h1 : p' i = true) (h2 : ∀ k, k ≠ i → p' k = p k)
    (hlast : ∀ k y t, i < k → p k = true → rs[k]? = some y → x.d = some t → y.d ≠ some t) : selE p' rs 0 E = putE (selE p rs 0 E) x.d x.v := by
  refine nth_ext (by simp [selE_len, putE_len]) fun t => ?_
  by_cases hd : x.d = some t
  · rw [selE_last rs 0 i E hx hd (by simpa using h1) (fun k' y hk hy hyd => ?_), nth_put, selE_len]
    · simp only [hd, true_and]
      split
      · rfl
      · rename_i hlt; exact (nth_out (by rw [selE_len]; exact Nat.le_of_not_lt hlt)).symm
    · rw [Nat.zero_add, h2 k' (by omega)]
      cases hp : p k' with
      | false => rfl
      | true => exact absurd hyd (hlast k' y t hk hp hy hd)
  · rw [nth_put]
    simp only [hd, false_and, if_false]
    refine selE_congr rs 0 E E rfl rfl fun k y hk hyd => ?_
    rw [Nat.zero_add]
    exact h2 k fun e => hd (by subst e; rw [hx] at hk; cases hk; exact hyd)

theorem selE_ext {p q : Nat → Bool} {rs : List R} {E : List AV} (h : ∀ k, k < rs.length → p k = q k) : selE p rs 0 E = selE q rs 0 E :=
  nth_ext (by simp [selE_len]) fun t => selE_congr rs 0 E E rfl rfl fun k x hk _ => by rw [Nat.zero_add]; exact h k (List.getElem?_eq_some_iff.1 hk).1

theorem selH_congr {p q : Nat → Bool} {l : Nat} : ∀ (rs : List R) (i : Nat) (H H' : Heap), hget H l = hget H' l → (∀ k x, rs[k]? = some x → l ∈ x.u.map (·.1) → p (i + k) = q (i + k)) →
    hget (selH p rs i H) l = hget (selH q rs i H') l
  | [], _, _, _, h, _ => h
  | x :: r, i, H, H', h, hp => by
    simp only [selH]
    refine selH_congr r (i + 1) _ _ ?_ (shift (p := fun k => p k = q k) (Q := fun x => l ∈ x.u.map (·.1)) hp)
    by_cases hd : l ∈ x.u.map (·.1)
    · have := hp 0 x rfl hd
      simp only [Nat.add_zero] at this
      rw [this]
      split
      · exact applyU_local _ (.inl hd)
      · exact h
    · have e1 : hget (if p i = true then applyU H x.u else H) l = hget H l := by
          split
          · exact applyU_other _ hd
          · rfl
      have e2 : hget (if q i = true then applyU H' x.u else H') l = hget H' l := by
        split
        · exact applyU_other _ hd
        · rfl
      rw [e1, e2, h]

theorem selH_false : ∀ (rs : List R) (i : Nat) (H : Heap), selH (fun _ => false) rs i H = H
  | [], _, _ => rfl
  | x :: r, i, H => by simp only [selH]; exact selH_false r (i + 1) H

theorem selH_last {p : Nat → Bool} {l : Nat} {x : R} : ∀ (rs : List R) (i k : Nat) (H : Heap), rs[k]? = some x → l ∈ x.u.map (·.1) → p (i + k) = true → (∀ k' y, k < k' → rs[k']? = some y → l ∈ y.u.map (·.1) → p (i + k') = false) →
    hget (selH p rs i H) l = hget (applyU [] x.u) l
  | [], _, _, _, h, _, _, _ => by simp at h
  | y :: r, i, 0, H, h, hd, hp, hl => by
    simp at h; subst h
    simp only [selH, Nat.add_zero] at hp ⊢
    rw [if_pos hp, selH_congr (q := fun _ => false) r (i + 1) _ (applyU H y.u) rfl (fun k z hk hz => ?_), selH_false]
    · exact applyU_local _ (.inl hd)
    · have := hl (k + 1) z (by omega) (by simpa using hk) hz
      rwa [show i + 1 + k = i + (k + 1) by omega]
  | y :: r, i, k + 1, H, h, hd, hp, hl => by
    simp only [selH]
    exact selH_last r (i + 1) k _ (by simpa using h) hd (by rwa [show i + 1 + k = i + (k + 1) by omega]) (fun k' z hk' hz hzd => by
      have := hl (k' + 1) z (by omega) (by simpa using hz) hzd
      rwa [show i + 1 + k' = i + (k' + 1) by omega])

theorem selH_insert {p p' : Nat → Bool} {rs : List R} {i : Nat} {x : R} {H : Heap} (hx : rs[i]? = some x) (h1 : p' i = true) (h2 : ∀ k, k ≠ i → p' k = p k)
    (hlast : ∀ k y l, i < k → p k = true → rs[k]? = some y → l ∈ x.u.map (·.1) → l ∉ y.u.map (·.1)) (l : Nat) : hget (selH p' rs 0 H) l = hget (applyU (selH p rs 0 H) x.u) l := by
  by_cases hd : l ∈ x.u.map (·.1)
  · rw [selH_last rs 0 i H hx hd (by simpa using h1) (fun k' y hk hy hyd => ?_)]
    · exact applyU_local _ (.inl hd)
    · rw [Nat.zero_add, h2 k' (by omega)]
      cases hp : p k' with
      | false => rfl
      | true => exact absurd hyd (hlast k' y l hk hp hy hd)
  · rw [applyU_other _ hd]
    refine selH_congr rs 0 H H rfl fun k y hk hyd => ?_
    rw [Nat.zero_add]
    exact h2 k fun e => hd (by subst e; rw [hx] at hk; cases hk; exact hyd)

theorem selH_ext {p q : Nat → Bool} {rs : List R} {H : Heap} (h : ∀ k, k < rs.length → p k = q k) (l : Nat) : hget (selH p rs 0 H) l = hget (selH q rs 0 H) l :=
  selH_congr rs 0 H H rfl fun k x hk _ => by rw [Nat.zero_add]; exact h k (List.getElem?_eq_some_iff.1 hk).1

theorem applyU_mem (u : Upd) : ∀ {H : Heap} {m : Nat} {o : AObj}, hget (applyU H u) m = some o → hget H m = some o ∨ (m, o) ∈ u := by
  induction u with
  | nil => intro H m o h; exact .inl h
  | cons x r ih =>
    intro H m o h
    rcases ih (H := hset H x.1 x.2) h with h | h
    · by_cases e : m = x.1
      · subst e; rw [hget_set_self] at h; cases h; exact .inr (by simp)
      · rw [hget_set_ne _ _ e] at h; exact .inl h
    · exact .inr (by simp [h])

theorem selH_mem {p : Nat → Bool} {m : Nat} {o : AObj} : ∀ (rs : List R) (i : Nat) (H : Heap), hget (selH p rs i H) m = some o → hget H m = some o ∨ ∃ k x, rs[k]? = some x ∧ p (i + k) = true ∧ (m, o) ∈ x.u
  | [], _, _, h => .inl h
  | x :: r, i, H, h => by
    simp only [selH] at h
    rcases selH_mem r (i + 1) _ h with h | ⟨k, y, h1, h2, h3⟩
    · split at h
      · rename_i hp
        rcases applyU_mem _ h with h | h
        · exact .inl h
        · exact .inr ⟨0, x, rfl, hp, h⟩
      · exact .inl h
    · exact .inr ⟨k + 1, y, by simpa using h1, by rwa [show i + (k + 1) = i + 1 + k by omega], h3⟩

theorem refsL_set {E : List AV} {d : Nat} {v : AV} {l : Nat} (h : l ∈ refsL (E.set d v)) : l ∈ refsL E ∨ l ∈ refs v := by
  obtain ⟨i, x, hx, hl⟩ := refsL_mem' h
  rw [List.getElem?_set] at hx
  split at hx
  · split at hx
    · cases hx; exact .inr hl
    · cases hx
  · exact .inl (refsL_mem hx l hl)

theorem selE_refs {p : Nat → Bool} {l : Nat} : ∀ (rs : List R) (i : Nat) (E : List AV), l ∈ refsL (selE p rs i E) → l ∈ refsL E ∨ ∃ k x, rs[k]? = some x ∧ p (i + k) = true ∧ l ∈ refs x.v
  | [], _, _, h => .inl h
  | x :: r, i, E, h => by
    simp only [selE] at h
    rcases selE_refs r (i + 1) _ h with h | ⟨k, y, h1, h2, h3⟩
    · split at h
      · rename_i hp
        cases hd : x.d with
        | none => rw [hd] at h; exact .inl h
        | some d =>
          rw [hd] at h
          rcases refsL_set h with h | h
          · exact .inl h
          · exact .inr ⟨0, x, rfl, hp, h⟩
      · exact .inl h
    · exact .inr ⟨k + 1, y, by simpa using h1, by rwa [show i + (k + 1) = i + 1 + k by omega], h3⟩

/-! ### operands -/
theorem aev_congr {E E' : List AV} {x : Operand} {q : AOpd} (hq : cvO x = some q) (h : ∀ t, x = .tmp t → nth E t = nth E' t) : aev E q = aev E' q := by
  cases x with
  | tmp t => simp only [cvO] at hq; cases hq; exact h t rfl
  | const v => simp only [cvO] at hq; obtain ⟨y, _, rfl⟩ := Option.map_eq_some_iff.1 hq; rfl
  | func f => simp only [cvO] at hq; cases hq; rfl
  | global g => simp [cvO] at hq

theorem aevs_congr {E E' : List AV} : ∀ {xs : List Operand} {qs : List AOpd}, cvOs xs = some qs → (∀ t, Operand.tmp t ∈ xs → nth E t = nth E' t) → qs.map (aev E) = qs.map (aev E')
  | [], qs, h, _ => by simp only [cvOs] at h; cases h; rfl
  | x :: r, qs, h, hh => by
    simp only [cvOs] at h
    split at h
    · rename_i a as ha has
      cases h
      simp only [List.map_cons]
      rw [aev_congr ha fun t e => hh t (by simp [e]), aevs_congr has fun t ht => hh t (by simp [ht])]
    · cases h

theorem aevM_congr {E E' : List AV} {x : Option Operand} {q : Option AOpd} (hq : cvM x = some q) (h : ∀ t, x = some (.tmp t) → nth E t = nth E' t) : q.map (aev E) = q.map (aev E') := by
  cases x with
  | none => simp only [cvM] at hq; cases hq; rfl
  | some x =>
    simp only [cvM] at hq
    obtain ⟨y, hy, rfl⟩ := Option.map_eq_some_iff.1 hq
    simp only [Option.map_some]
    rw [aev_congr hy fun t e => h t (by rw [e])]

theorem cvNil_congr {E E' : List AV} {k : NK} {op : BinOp} {a b : AOpd} {q : AOp} (hq : cvNil k op a b = some q) (ha : aev E a = aev E' a) (hb : aev E b = aev E' b) : q.map (aev E) = q.map (aev E') := by
  unfold cvNil at hq
  split at hq
  · split at hq
    · cases hq; simp only [AOpOf.map, ha]
    · split at hq
      · cases hq; simp only [AOpOf.map, hb]
      · cases hq
  · split at hq
    · cases hq; simp only [AOpOf.map, ha]
    · split at hq
      · cases hq; simp only [AOpOf.map, hb]
      · cases hq
  · cases hq

theorem cvCall_congr {P : Program} {E E' : List AV} {c : Call} {q : AOp} (hq : cvCall P c = some q) (h : ∀ t, Operand.tmp t ∈ c.operands → nth E t = nth E' t) : q.map (aev E) = q.map (aev E') := by
  unfold cvCall at hq
  split at hq
  · rename_i f hf
    split at hq
    · rename_i g as hg has
      cases hq
      simp only [AOpOf.map]
      rw [aev_congr hg fun t e => h t (by simp [Call.operands, hf, e]), aevs_congr has fun t ht => h t (by simp [Call.operands]; right; simpa using ht)]
    · cases hq
  · cases hq
  · rename_i b hb
    have args : ∀ {xs : List AOpd}, cvOs c.args.toList = some xs → xs.map (aev E) = xs.map (aev E') := fun hx => aevs_congr hx fun t ht => h t (by simp [Call.operands]; right; simpa using ht)
    split at hq
    · rename_i x hx
      have := args hx
      simp only [List.map_cons, List.map_nil, List.cons.injEq, and_true] at this
      split at hq <;> cases hq <;> simp only [AOpOf.map, this]
    · rename_i x hx
      have := args hx
      simp only [List.map_cons, List.map_nil, List.cons.injEq, and_true] at this
      split at hq <;> cases hq <;> simp only [AOpOf.map, this]
    · rename_i x y hx
      have := args hx
      simp only [List.map_cons, List.map_nil, List.cons.injEq, and_true] at this
      split at hq
      · split at hq
        · cases hq; simp only [AOpOf.map, this.1, this.2]
        · cases hq
      · split at hq
        · cases hq; simp only [AOpOf.map, this.1, this.2]
        · cases hq
      · split at hq
        · split at hq
          · cases hq; simp only [AOpOf.map, this.1, this.2]
          · cases hq
        · cases hq
      · cases hq
    · rename_i x y hx
      have := args hx
      simp only [List.map_cons, List.map_nil, List.cons.injEq, and_true] at this
      split at hq
      · split at hq
        · cases hq; simp only [AOpOf.map, this.1, this.2]
        · cases hq
      · split at hq
        · cases hq; simp only [AOpOf.map, this.1, this.2]
        · cases hq
      · cases hq
    · rename_i x hx
      have := args hx
      simp only [List.map_cons, List.map_nil, List.cons.injEq, and_true] at this
      split at hq
      · split at hq
        · split at hq
          · cases hq; simp only [AOpOf.map, this]
          · cases hq
        · cases hq
      · cases hq
    · rename_i x y hx
      have := args hx
      simp only [List.map_cons, List.map_nil, List.cons.injEq, and_true] at this
      split at hq
      · obtain ⟨p, _, rfl⟩ := Option.map_eq_some_iff.1 hq
        simp only [AOpOf.map, this.1, this.2]
      · cases hq
    · rename_i xs hx
      cases hq
      simp only [AOpOf.map, args hx]
    · rename_i xs hx
      cases hq
      simp only [AOpOf.map, args hx]
    · cases hq

end Bz

/- A region whose order is open, second half. -/
namespace Bz
open Go

theorem cvParts_congr {P : Program} {fs : Array Field} {E E' : List AV} : ∀ {xs : List (Nat × Operand)} {as : List (Nat × Nat × AOpd)}, cvParts P fs xs = some as → (∀ t, Operand.tmp t ∈ xs.map (·.2) → nth E t = nth E' t) →
    as.map (fun p => (p.1, p.2.1, aev E p.2.2)) = as.map (fun p => (p.1, p.2.1, aev E' p.2.2))
  | [], as, h, _ => by simp only [cvParts] at h; cases h; rfl
  | (i, x) :: r, as, h, hh => by
    simp only [cvParts] at h
    split at h
    · rename_i f q qs hf hq hqs
      cases h
      simp only [List.map_cons]
      rw [aev_congr hq fun t e => hh t (by simp [e]), cvParts_congr hqs fun t ht => hh t (by simp only [List.map_cons]; exact List.mem_cons_of_mem _ ht)]
    · cases h

theorem cvElems_congr {E E' : List AV} : ∀ {xs : List (Nat × Operand)} {as : List (Nat × AOpd)}, cvElems xs = some as → (∀ t, Operand.tmp t ∈ xs.map (·.2) → nth E t = nth E' t) →
    as.map (fun p => (p.1, aev E p.2)) = as.map (fun p => (p.1, aev E' p.2))
  | [], as, h, _ => by simp only [cvElems] at h; cases h; rfl
  | (i, x) :: r, as, h, hh => by
    simp only [cvElems] at h
    split at h
    · rename_i q qs hq hqs
      cases h
      simp only [List.map_cons]
      rw [aev_congr hq fun t e => hh t (by simp [e]), cvElems_congr hqs fun t ht => hh t (by simp only [List.map_cons]; exact List.mem_cons_of_mem _ ht)]
    · cases h

set_option maxHeartbeats 2000000 in
theorem cvOp_congr {P : Program} {E E' : List AV} {op : Op} {q : AOp} (hq : cvOp P op = some q) (h : ∀ t, Operand.tmp t ∈ op.operands → nth E t = nth E' t) : q.map (aev E) = q.map (aev E') := by
  have one : ∀ {x : Operand} {qx : AOpd}, cvO x = some qx → x ∈ op.operands → aev E qx = aev E' qx := fun hx hm => aev_congr hx fun t e => h t (e ▸ hm)
  cases op with
  | move x => simp only [cvOp] at hq; obtain ⟨qx, hx, rfl⟩ := Option.map_eq_some_iff.1 hq; simp only [AOpOf.map, one hx (by simp [Op.operands])]
  | assign x => simp only [cvOp] at hq; obtain ⟨qx, hx, rfl⟩ := Option.map_eq_some_iff.1 hq; simp only [AOpOf.map, one hx (by simp [Op.operands])]
  | pick c x y =>
    simp only [cvOp] at hq
    split at hq
    · rename_i qc qx qy hc hx hy
      cases hq
      simp only [AOpOf.map, one hc (by simp [Op.operands]), one hx (by simp [Op.operands]), one hy (by simp [Op.operands])]
    · cases hq
  | alloc t =>
    simp only [cvOp] at hq
    split at hq
    · obtain ⟨z, _, rfl⟩ := Option.map_eq_some_iff.1 hq; rfl
    · cases hq
  | box t x =>
    simp only [cvOp] at hq
    split at hq
    · obtain ⟨qx, hx, rfl⟩ := Option.map_eq_some_iff.1 hq; simp only [AOpOf.map, one hx (by simp [Op.operands])]
    · cases hq
  | build t ps =>
    simp only [cvOp] at hq
    split at hq
    · split at hq
      · rename_i z as hz has
        split at hq
        · cases hq
          simp only [AOpOf.map]
          rw [cvParts_congr has fun t ht => h t (by simp [Op.operands]; simpa using ht)]
        · cases hq
      · cases hq
    · cases hq
  | buildSlice t len ps =>
    simp only [cvOp] at hq
    split at hq
    · split at hq
      · rename_i z as hz has
        split at hq
        · cases hq
          simp only [AOpOf.map]
          rw [cvElems_congr has fun t ht => h t (by simp [Op.operands]; simpa using ht)]
        · cases hq
      · cases hq
    · cases hq
  | load t x =>
    simp only [cvOp] at hq
    split at hq
    · split at hq
      · rename_i g qx hg hx
        cases hq
        simp only [AOpOf.map, one hx (by simp [Op.operands])]
      · cases hq
    · cases hq
  | store t x y =>
    simp only [cvOp] at hq
    split at hq
    · split at hq
      · rename_i qx qy hx hy
        cases hq
        simp only [AOpOf.map, one hx (by simp [Op.operands]), one hy (by simp [Op.operands])]
      · cases hq
    · cases hq
  | nilCheck x => simp only [cvOp] at hq; obtain ⟨qx, hx, rfl⟩ := Option.map_eq_some_iff.1 hq; simp only [AOpOf.map, one hx (by simp [Op.operands])]
  | binOp op t x y c =>
    simp only [cvOp] at hq
    split at hq
    · rename_i qx qy hx hy
      have e1 := one hx (by simp [Op.operands])
      have e2 := one hy (by simp [Op.operands])
      split at hq
      · split at hq
        · split at hq <;> cases hq <;> simp only [AOpOf.map, e1, e2]
        · cases hq
      · cases hq; simp only [AOpOf.map, e1, e2]
      · cases hq; simp only [AOpOf.map, e1, e2]
      · split at hq <;> cases hq <;> simp only [AOpOf.map, e1, e2]
      · exact cvNil_congr hq e1 e2
      · exact cvNil_congr hq e1 e2
      · exact cvNil_congr hq e1 e2
      · exact cvNil_congr hq e1 e2
      · cases hq
    · cases hq
  | unOp op t x => simp only [cvOp] at hq; obtain ⟨qx, hx, rfl⟩ := Option.map_eq_some_iff.1 hq; simp only [AOpOf.map, one hx (by simp [Op.operands])]
  | convert s t x =>
    simp only [cvOp] at hq
    split at hq
    · obtain ⟨qx, hx, rfl⟩ := Option.map_eq_some_iff.1 hq; simp only [AOpOf.map, one hx (by simp [Op.operands])]
    · obtain ⟨qx, hx, rfl⟩ := Option.map_eq_some_iff.1 hq; simp only [AOpOf.map, one hx (by simp [Op.operands])]
    · split at hq
      · split at hq
        · obtain ⟨qx, hx, rfl⟩ := Option.map_eq_some_iff.1 hq; simp only [AOpOf.map, one hx (by simp [Op.operands])]
        · cases hq
      · cases hq
    · cases hq
  | makeFunc fn first captured =>
    cases fn with
    | func f =>
      simp only [cvOp] at hq
      split at hq
      · obtain ⟨qs, hqs, rfl⟩ := Option.map_eq_some_iff.1 hq
        simp only [AOpOf.map]
        rw [aevs_congr hqs fun t ht => h t (by simp [Op.operands]; right; simpa using ht)]
      · cases hq
    | _ => simp [cvOp] at hq
  | makeMap t r =>
    cases r with
    | some r => simp [cvOp] at hq
    | none =>
      simp only [cvOp] at hq
      split at hq
      · obtain ⟨p, _, rfl⟩ := Option.map_eq_some_iff.1 hq; rfl
      · cases hq
  | makeSlice t l c =>
    simp only [cvOp] at hq
    split at hq
    · split at hq
      · rename_i z ql qc hz hl hc
        split at hq
        · cases hq
          simp only [AOpOf.map, one hl (by simp [Op.operands]), one hc (by simp [Op.operands])]
        · cases hq
      · cases hq
    · cases hq
  | slice t x lo hi mx =>
    simp only [cvOp] at hq
    split at hq
    · rename_i qx qlo qhi qmx hx hlo hhi hmx
      have e1 := one hx (by simp [Op.operands])
      have e2 := aevM_congr (E := E) (E' := E') hlo fun t e => h t (by simp [Op.operands, e])
      have e3 := aevM_congr (E := E) (E' := E') hhi fun t e => h t (by simp [Op.operands, e])
      have e4 := aevM_congr (E := E) (E' := E') hmx fun t e => h t (by simp [Op.operands, e])
      split at hq
      · split at hq
        · cases hq; simp only [AOpOf.map, e1, e2, e3]
        · cases hq
      · split at hq
        · cases hq; simp only [AOpOf.map, e1, e2, e3, e4]
        · cases hq
      · cases hq
    · cases hq
  | fieldAddr t x i =>
    simp only [cvOp] at hq
    split at hq
    · split at hq
      · split at hq
        · obtain ⟨qx, hx, rfl⟩ := Option.map_eq_some_iff.1 hq; simp only [AOpOf.map, one hx (by simp [Op.operands])]
        · cases hq
      · cases hq
    · cases hq
  | field t x i =>
    simp only [cvOp] at hq
    split at hq
    · split at hq
      · split at hq
        · split at hq
          · rename_i g qx hg hx
            cases hq
            simp only [AOpOf.map, one hx (by simp [Op.operands])]
          · cases hq
        · cases hq
      · cases hq
    · cases hq
  | indexAddr t x i =>
    simp only [cvOp] at hq
    split at hq
    · split at hq
      · split at hq
        · rename_i qx qi hx hi
          cases hq
          simp only [AOpOf.map, one hx (by simp [Op.operands]), one hi (by simp [Op.operands])]
        · cases hq
      · cases hq
    · cases hq
  | index t x i =>
    simp only [cvOp] at hq
    split at hq
    · split at hq
      · rename_i qx qi hx hi
        cases hq
        simp only [AOpOf.map, one hx (by simp [Op.operands]), one hi (by simp [Op.operands])]
      · cases hq
    · cases hq
  | lookup t x k ok =>
    simp only [cvOp] at hq
    split at hq
    · split at hq
      · rename_i p z qx qk hp hz hx hk
        cases hq
        simp only [AOpOf.map, one hx (by simp [Op.operands]), one hk (by simp [Op.operands])]
      · cases hq
    · cases hq
  | mapUpdate t m k x =>
    simp only [cvOp] at hq
    split at hq
    · split at hq
      · rename_i p qm qk qx hp hm hk hx
        cases hq
        simp only [AOpOf.map, one hm (by simp [Op.operands]), one hk (by simp [Op.operands]), one hx (by simp [Op.operands])]
      · cases hq
    · cases hq
  | insert t m k x =>
    simp only [cvOp] at hq
    split at hq
    · split at hq
      · rename_i p qm qk qx hp hm hk hx
        cases hq
        simp only [AOpOf.map, one hm (by simp [Op.operands]), one hk (by simp [Op.operands]), one hx (by simp [Op.operands])]
      · cases hq
    · cases hq
  | extract x i => simp only [cvOp] at hq; obtain ⟨qx, hx, rfl⟩ := Option.map_eq_some_iff.1 hq; simp only [AOpOf.map, one hx (by simp [Op.operands])]
  | call c => exact cvCall_congr hq fun t ht => h t ht
  | makeInterface t x =>
    simp only [cvOp] at hq
    split at hq
    · obtain ⟨qx, hx, rfl⟩ := Option.map_eq_some_iff.1 hq; simp only [AOpOf.map, one hx (by simp [Op.operands])]
    · cases hq
  | _ => simp [cvOp] at hq

/-! ### what goes ahead of what -/
def BSpec (ops : Array Oper) (A : Array Nat) (i : Nat) : Prop :=
  ∀ j, (A.getD i 0).testBit j = true → ∃ o e, ops[i]? = some o ∧ e ∈ o.after ∧ Region.binds .any e = true ∧ (e.on = j ∨ (A.getD e.on 0).testBit j = true)

theorem bits_fold (acc : Array Nat) (j : Nat) : ∀ (es : List Edge) (s : Nat), (es.foldl (fun s e => if Region.binds .any e then s ||| 2 ^ e.on ||| acc.getD e.on 0 else s) s).testBit j = true →
    s.testBit j = true ∨ ∃ e ∈ es, Region.binds .any e = true ∧ (e.on = j ∨ (acc.getD e.on 0).testBit j = true)
  | [], s, h => .inl h
  | e :: r, s, h => by
    simp only [List.foldl_cons] at h
    rcases bits_fold acc j r _ h with h | ⟨e', h1, h2⟩
    · split at h
      · rename_i hb
        rw [Nat.testBit_or, Nat.testBit_or, Nat.testBit_two_pow] at h
        simp only [Bool.or_eq_true, decide_eq_true_eq] at h
        rcases h with (h | h) | h
        · exact .inl h
        · exact .inr ⟨e, by simp, hb, .inl h⟩
        · exact .inr ⟨e, by simp, hb, .inr h⟩
      · exact .inl h
    · exact .inr ⟨e', by simp [h1], h2⟩

theorem push_getD (A : Array Nat) (x : Nat) (i : Nat) : (A.push x).getD i 0 = if i < A.size then A.getD i 0 else if i = A.size then x else 0 := by
  simp only [Array.getD_eq_getD_getElem?]
  rw [Array.getElem?_push]
  split
  · rename_i h; subst h; simp
  · split
    · rfl
    · rename_i h1 h2; rw [Array.getElem?_eq_none (by omega)]; rfl

theorem before_fold {ops : Array Oper} : ∀ (l : List Oper) (A : Array Nat), (∀ k o, l[k]? = some o → ops[A.size + k]? = some o) → (∀ i, i < A.size → BSpec ops A i) →
    (∀ i, i < A.size + l.length → BSpec ops (l.foldl (fun acc o => acc.push (o.after.foldl (fun s e => if Region.binds .any e then s ||| 2 ^ e.on ||| acc.getD e.on 0 else s) 0)) A) i) ∧
      (l.foldl (fun acc o => acc.push (o.after.foldl (fun s e => if Region.binds .any e then s ||| 2 ^ e.on ||| acc.getD e.on 0 else s) 0)) A).size = A.size + l.length
  | [], A, _, h => ⟨fun i hi => h i (by simpa using hi), by simp⟩
  | o :: r, A, hops, h => by
    simp only [List.foldl_cons]
    generalize hx : o.after.foldl (fun s e => if Region.binds .any e then s ||| 2 ^ e.on ||| A.getD e.on 0 else s) 0 = x
    have mono : ∀ k j, (A.getD k 0).testBit j = true → ((A.push x).getD k 0).testBit j = true := by
      intro k j hk
      by_cases hlt : k < A.size
      · rw [push_getD, if_pos hlt]; exact hk
      · rw [Array.getD_eq_getD_getElem?, Array.getElem?_eq_none (by omega)] at hk
        simp at hk
    obtain ⟨g1, g2⟩ := before_fold r (A.push x) (fun k o' hk => by
      have := hops (k + 1) o' (by simpa using hk)
      simp only [Array.size_push]
      rwa [show A.size + 1 + k = A.size + (k + 1) by omega]) (fun i hi j hj => by
      rw [push_getD] at hj
      by_cases hlt : i < A.size
      · rw [if_pos hlt] at hj
        obtain ⟨o', e, h1, h2, h3, h4⟩ := h i hlt j hj
        exact ⟨o', e, h1, h2, h3, h4.imp id (mono _ _)⟩
      · rw [if_neg hlt] at hj
        by_cases hie : i = A.size
        · rw [if_pos hie] at hj
          subst hie
          rw [← hx, ← Array.foldl_toList] at hj
          rcases bits_fold A j _ _ hj with hz | ⟨e, h1, h2, h3⟩
          · simp at hz
          · exact ⟨o, e, hops 0 o rfl, by simpa using h1, h2, h3.imp id (mono _ _)⟩
        · rw [if_neg hie] at hj; simp at hj)
    refine ⟨fun i hi => g1 i (by simp at hi ⊢; omega), by rw [g2]; simp; omega⟩

theorem before_spec (ops : Array Oper) : ∀ i, i < ops.size → BSpec ops (Region.before ops) i := by
  have := before_fold (ops := ops) ops.toList #[] (fun k o hk => by simpa using hk) (fun i hi => by simp at hi)
  intro i hi
  have := this.1 i (by simpa using hi)
  unfold Region.before
  rw [← Array.foldl_toList]
  exact this
end Bz

/- A region whose order is open: any order comes to the same. -/
namespace Bz
open Go

section
variable {P : Program} {X : Ctx}

def clr (bef : List Nat) (f g : Foot) : Bool := disj f.nw g.m && (bef.contains g.i || (disj f.w g.r && disj f.w g.w && disj g.w f.r && disj g.nw f.m))

theorem disj_spec {a b : List Nat} (h : disj a b = true) : ∀ l, l ∈ a → l ∉ b := by
  intro l hl hb
  have := List.all_eq_true.1 h l hl
  simp only [Bool.not_eq_true', List.contains_eq_mem, decide_eq_false_iff_not] at this
  exact this hb

structure Ran (X : Ctx) (rid i : Nat) (s0 : St) (bef : List Nat) (fs : List Foot) (rs : List R) (k : Nat) (E : List AV) (H : Heap) (g : Option (Nat × Bool)) (q : AOp) (x : R) (f : Foot) : Prop where
  i_ : f.i = i + k
  r_ : f.r = rd (q.map (aev E))
  w_ : f.w = x.u.map (·.1)
  nw_ : f.nw = x.nw
  m_ : f.m = refs x.v ++ x.u.flatMap fun y => refsO y.2
  wants_ : wants E g = some true
  op_ : aop X (nameOf rid (i + k)) H (q.map (aev E)) = some (x.v, x.u, x.nw)
  fresh_ : freshU s0.E s0.H x.nw = true
  old_ : ∀ h ∈ fs, clr bef f h = true
  new_ : ∀ j y, j < k → rs[j]? = some y → ∀ h, y.f = some h → clr bef f h = true

def Fact (X : Ctx) (rid i : Nat) (s0 : St) (bef : List Nat) (fs : List Foot) (rs : List R) (k : Nat) (E : List AV) (H : Heap) (g : Option (Nat × Bool)) (q : AOp) (x : R) : Prop :=
  (x.f = none ∧ wants E g = some false ∧ x.v = .tup [] ∧ x.u = [] ∧ x.nw = []) ∨ ∃ f, x.f = some f ∧ Ran X rid i s0 bef fs rs k E H g q x f

theorem selE_lt (rs : List R) (i : Nat) (E : List AV) : selE (fun j => decide (j < i)) rs i E = E := by
  have : ∀ (rs : List R) (n : Nat) (E : List AV), i ≤ n → selE (fun j => decide (j < i)) rs n E = E := by
    intro rs
    induction rs with
    | nil => intro n E _; rfl
    | cons x r ih =>
      intro n E hn
      simp only [selE]
      have hd : ¬ (decide (n < i) = true) := by simp; omega
      rw [if_neg hd]
      exact ih (n + 1) E (by omega)
  exact this rs i E (Nat.le_refl _)

theorem selH_lt (rs : List R) (i : Nat) (H : Heap) : selH (fun j => decide (j < i)) rs i H = H := by
  have : ∀ (rs : List R) (n : Nat) (H : Heap), i ≤ n → selH (fun j => decide (j < i)) rs n H = H := by
    intro rs
    induction rs with
    | nil => intro n E _; rfl
    | cons x r ih =>
      intro n E hn
      simp only [selH]
      have hd : ¬ (decide (n < i) = true) := by simp; omega
      rw [if_neg hd]
      exact ih (n + 1) E (by omega)
  exact this rs i H (Nat.le_refl _)

theorem aopsD_trace {ops : Array Oper} {bs : Array Nat} {rid : Nat} {s0 : St} : ∀ (r : List Oper) (i : Nat) (s s' : St) (fs : List Foot), aopsD X rid s0 (cvOpers P ops true bs r i) i s fs = some s' →
    ∃ rs : List R, rs.length = r.length ∧ s' = { E := selE (fun _ => true) rs i s.E, H := selH (fun _ => true) rs i s.H } ∧
      ∀ k o, r[k]? = some o → ∃ x g q, rs[k]? = some x ∧ x.d = o.dst ∧ cvGuard ops o.guard = some g ∧ cvOp P o.op = some q ∧
        Fact X rid i s0 (befOf (bs.getD (i + k) 0) (i + k)) fs rs k (selE (fun j => decide (j < i + k)) rs i s.E) (selH (fun j => decide (j < i + k)) rs i s.H) g q x
  | [], i, s, s', fs, h => by
    simp only [cvOpers, aopsD] at h
    cases h
    exact ⟨[], rfl, rfl, fun k o hk => by simp at hk⟩
  | o :: r, i, s, s', fs, h => by
    simp only [cvOpers, aopsD] at h
    have build : ∀ (x : R) (fs' : List Foot) (g : Option (Nat × Bool)) (q : AOp), x.d = o.dst → cvGuard ops o.guard = some g → cvOp P o.op = some q →
        (fs' = fs ∧ x.f = none ∨ ∃ f, x.f = some f ∧ fs' = f :: fs) →
        (x.f = none ∧ wants s.E g = some false ∧ x.v = .tup [] ∧ x.u = [] ∧ x.nw = [] ∨ ∃ f, x.f = some f ∧ ∀ rs, Ran X rid i s0 (befOf (bs.getD i 0) i) fs rs 0 s.E s.H g q x f) →
        aopsD X rid s0 (cvOpers P ops true bs r (i + 1)) (i + 1) { E := putE s.E x.d x.v, H := applyU s.H x.u } fs' = some s' → 
        ∃ rs : List R, rs.length = (o :: r).length ∧ s' = { E := selE (fun _ => true) rs i s.E, H := selH (fun _ => true) rs i s.H } ∧
          ∀ k o', (o :: r)[k]? = some o' → ∃ x g q, rs[k]? = some x ∧ x.d = o'.dst ∧ cvGuard ops o'.guard = some g ∧ cvOp P o'.op = some q ∧
            Fact X rid i s0 (befOf (bs.getD (i + k) 0) (i + k)) fs rs k (selE (fun j => decide (j < i + k)) rs i s.E) (selH (fun j => decide (j < i + k)) rs i s.H) g q x := by
      intro x fs' g q hd hg hq hfs hx h
      obtain ⟨rs, hl, hs', hf⟩ := aopsD_trace r (i + 1) _ s' fs' h
      refine ⟨x :: rs, by simp [hl], by rw [hs']; rfl, fun k o' hk => ?_⟩
      cases k with
      | zero =>
        simp at hk; subst hk
        refine ⟨x, g, q, rfl, hd, hg, hq, ?_⟩
        rw [Nat.add_zero, selE_lt, selH_lt]
        rcases hx with hx | ⟨f, h1, h2⟩
        · exact .inl hx
        · exact .inr ⟨f, h1, h2 _⟩
      | succ k =>
        obtain ⟨y, g', q', h1, h2, h3, h4, h5⟩ := hf k o' (by simpa using hk)
        refine ⟨y, g', q', by simpa using h1, h2, h3, h4, ?_⟩
        have ei : i + (k + 1) = i + 1 + k := by omega
        have hlt : decide (i < i + 1 + k) = true := by simp; omega
        simp only [selE, selH, ei, hlt, if_true]
        rcases h5 with h5 | ⟨f, e1, e2⟩
        · exact .inl h5
        · refine .inr ⟨f, e1, ⟨by rw [e2.i_]; omega, e2.r_, e2.w_, e2.nw_, e2.m_, e2.wants_, by rw [ei]; exact e2.op_, e2.fresh_, fun h hh => e2.old_ h ?_, fun j z hj hz h hh => ?_⟩⟩
          · rcases hfs with ⟨rfl, _⟩ | ⟨f', _, rfl⟩
            · exact hh
            · exact List.mem_cons_of_mem _ hh
          · cases j with
            | zero =>
              simp at hz; subst hz
              rcases hfs with ⟨_, hn⟩ | ⟨f', hf', rfl⟩
              · rw [hn] at hh; cases hh
              · rw [hf'] at hh; cases hh
                exact e2.old_ _ (by simp)
            | succ j => exact e2.new_ j z (by omega) (by simpa using hz) h hh
    rcases cvOper_cases (P := P) ops true bs o i with ⟨g, q, hg, hq, hcv⟩ | ⟨hbad, hgn⟩
    · rw [hcv] at h
      simp only [if_true] at h
      split at h
      · cases h
      · rename_i hw
        exact build ⟨o.dst, .tup [], [], [], none⟩ fs g q rfl hg hq (.inl ⟨rfl, rfl⟩) (.inl ⟨rfl, hw, rfl, rfl, rfl⟩) h
      · rename_i hw
        split at h
        · cases h
        · rename_i v u nw hop
          split at h
          · rename_i hc
            simp only [Bool.and_eq_true] at hc
            refine build ⟨o.dst, v, u, nw, some (footOf i (q.map (aev s.E)) v u nw)⟩ _ g q rfl hg hq (.inr ⟨_, rfl, rfl⟩) (.inr ⟨_, rfl, fun rs => ?_⟩) h
            exact ⟨rfl, rfl, rfl, rfl, rfl, hw, hop, hc.1.1, fun h hh => List.all_eq_true.1 hc.2 h hh, fun j _ hj => absurd hj (Nat.not_lt_zero j)⟩
          · cases h
    · rw [hbad, hgn] at h
      simp [wants, AOpOf.map, aop] at h

theorem befOf_mem {m i j : Nat} : j ∈ befOf m i ↔ j < i ∧ m.testBit j = true := by simp [befOf]

theorem slots_spec {ops : Array Oper} {bs : Array Nat} (h : slotsOK ops bs = true) {i j : Nat} {x y : Oper} (hij : i < j) (hx : ops[i]? = some x) (hy : ops[j]? = some y) :
    (bs.getD j 0).testBit i = true ∨ ((∀ d, x.dst = some d → d ∉ usesOf ops y) ∧ (∀ d, x.dst = some d → y.dst ≠ some d) ∧ ∀ d, y.dst = some d → d ∉ usesOf ops x) := by
  have hj : j < ops.size := (Array.getElem?_eq_some_iff.1 hy).1
  have := List.all_eq_true.1 h j (List.mem_range.2 hj)
  have := List.all_eq_true.1 this i (List.mem_range.2 hij)
  simp only [hx, hy, Bool.or_eq_true, Bool.and_eq_true] at this
  rcases this with h | ⟨h1, h2⟩
  · exact .inl h
  · refine .inr ⟨fun d hd => ?_, fun d hd => ?_, fun d hd => ?_⟩
    · rw [hd] at h1; simp at h1; exact h1.1
    · rw [hd] at h1; simp at h1; exact h1.2
    · rw [hd] at h2; simp at h2; exact h2

theorem uses_op {ops : Array Oper} {o : Oper} {t : Nat} (h : Operand.tmp t ∈ o.op.operands) : t ∈ usesOf ops o := by
  unfold usesOf
  refine List.mem_append_left _ (List.mem_filterMap.2 ⟨.tmp t, by simpa using h, rfl⟩)

theorem wants_congr {ops : Array Oper} {o : Oper} {g : Option (Nat × Bool)} (hg : cvGuard ops o.guard = some g) {E E' : List AV} (h : ∀ t ∈ usesOf ops o, nth E t = nth E' t) : wants E g = wants E' g := by
  cases ho : o.guard with
  | none => rw [ho] at hg; simp only [cvGuard] at hg; cases hg; rfl
  | some p =>
    obtain ⟨j, b⟩ := p
    rw [ho] at hg
    simp only [cvGuard] at hg
    split at hg
    · rename_i d hd
      cases hg
      simp only [wants]
      rw [h d]
      unfold usesOf
      refine List.mem_append_right _ ?_
      simp [ho, hd]
    · cases hg

theorem any_sound (hC : Good P X.C) {ops : Array Oper} {rid : Nat} {s : St} {rs : List R} (hl : rs.length = ops.size) (hedge : edgesOK ops = true) (hslot : slotsOK ops (Region.before ops) = true)
    (hf : ∀ k o, ops[k]? = some o → ∃ x g q, rs[k]? = some x ∧ x.d = o.dst ∧ cvGuard ops o.guard = some g ∧ cvOp P o.op = some q ∧
        Fact X rid 0 s (befOf ((Region.before ops).getD k 0) k) [] rs k (selE (fun j => decide (j < k)) rs 0 s.E) (selH (fun j => decide (j < k)) rs 0 s.H) g q x)
    {Q : Exit → Act → World → Prop} {ρ0 : Nat → Nat} {S0 : Nat → Prop} {w0 : World} {a0 : Act}
    (hn : ∀ ρ' S' w' (a' : Act), Step Big ρ0 S0 s.H w0 ρ' S' (selH (fun _ => true) rs 0 s.H) w' → RelE ρ' S' (selH (fun _ => true) rs 0 s.H) w' (selE (fun _ => true) rs 0 s.E) a'.tmps → a'.defers = a0.defers → Q .normal a' w') :
    ∀ (fuel : Nat) (listed : Array Bool) (ρ : Nat → Nat) (S : Nat → Prop) (w : World) (a : Act), listed.size = ops.size → fuel + listed.toList.count true = ops.size →
      (∀ i, listed.getD i false = true → ∀ j, ((Region.before ops).getD i 0).testBit j = true → listed.getD j false = true) →
      Step Big ρ0 S0 s.H w0 ρ S (selH (fun k => listed.getD k false) rs 0 s.H) w → RelE ρ S (selH (fun k => listed.getD k false) rs 0 s.H) w (selE (fun k => listed.getD k false) rs 0 s.E) a.tmps →
      a.defers = a0.defers → wpAny P .any ops Q fuel listed a w := by
  intro fuel
  have full : ∀ (listed : Array Bool) (ρ : Nat → Nat) (S : Nat → Prop) (w : World) (a : Act), listed.size = ops.size → (∀ i, i < ops.size → listed.getD i false = true) →
      Step Big ρ0 S0 s.H w0 ρ S (selH (fun k => listed.getD k false) rs 0 s.H) w → RelE ρ S (selH (fun k => listed.getD k false) rs 0 s.H) w (selE (fun k => listed.getD k false) rs 0 s.E) a.tmps →
      a.defers = a0.defers → Q .normal a w := by
    intro listed ρ S w a hsz hall st he hd
    have e1 : selE (fun k => listed.getD k false) rs 0 s.E = selE (fun _ => true) rs 0 s.E := selE_ext fun k hk => hall k (hl ▸ hk)
    have e2 : ∀ l, hget (selH (fun _ => true) rs 0 s.H) l = hget (selH (fun k => listed.getD k false) rs 0 s.H) l := fun l => (selH_ext (fun k hk => hall k (hl ▸ hk)) l).symm
    have st2 := step_ext (N := Big) st.inv e2
    rw [e1] at he
    exact hn ρ S w a ((st.trans st2).weaken fun _ h => h.elim id id) (he.step (N := No) (step_ext st.inv e2) st.inv fun _ _ => id) hd
  have getD_set : ∀ (A : Array Bool) (i k : Nat), i < A.size → (A.setIfInBounds i true).getD k false = if k = i then true else A.getD k false := by
    intro A i k hi
    simp only [Array.getD_eq_getD_getElem?, Array.getElem?_setIfInBounds]
    by_cases e : k = i
    · subst e; simp [hi]
    · rw [if_neg (fun q => e q.symm), if_neg e]
  induction fuel with
  | zero =>
    intro listed ρ S w a hsz hcnt hcl st he hd
    have hall : ∀ i, i < ops.size → listed.getD i false = true := by
      intro i hi
      have hc : listed.toList.count true = listed.toList.length := by simp [hsz]; simpa using hcnt
      have := List.count_eq_length.1 hc (listed[i]'(hsz ▸ hi)) (by simp)
      simp [Array.getD, hsz, hi, ← this]
    refine ⟨?_, full listed ρ S w a hsz hall st he hd⟩
    unfold Region.ready
    refine List.filter_eq_nil_iff.2 fun i hi => ?_
    have hi := List.mem_range.1 hi
    have h1 := hall i hi
    have : listed.getD i true = true := by simp [Array.getD, hsz, hi] at h1 ⊢; exact h1
    simp [this]
  | succ fuel ih =>
    intro listed ρ S w a hsz hcnt hcl st he hd
    refine ⟨fun hr => ?_, fun i hi => ?_⟩
    · have hall : ∀ i, i < ops.size → listed.getD i false = true := by
        intro i
        induction i using Nat.strongRecOn with
        | _ i ih =>
          intro hi
          cases hb : listed.getD i false with
          | true => rfl
          | false =>
            exfalso
            have hmem : i ∈ Region.ready .any ops listed := by
              unfold Region.ready
              refine List.mem_filter.2 ⟨List.mem_range.2 hi, ?_⟩
              have h1 : listed.getD i true = false := by simp [Array.getD, hsz, hi] at hb ⊢; exact hb
              have h2 := List.all_eq_true.1 hedge i (List.mem_range.2 hi)
              simp only [Array.getElem?_eq_getElem hi] at h2
              simp only [h1, Array.getElem?_eq_getElem hi, Option.map_some, Option.getD_some, Bool.not_false, Bool.true_and]
              rw [Array.all_eq_true_iff_forall_mem] at h2 ⊢
              intro e he
              have := h2 e he
              simp only [Bool.or_eq_true, decide_eq_true_eq] at this ⊢
              exact this.imp id fun hlt => ih e.on hlt (by omega)
            rw [hr] at hmem; cases hmem
      exact full listed ρ S w a hsz hall st he hd
    · -- one that may come next
      unfold Region.ready at hi
      obtain ⟨hi1, hi2⟩ := List.mem_filter.1 hi
      have hin : i < ops.size := List.mem_range.1 hi1
      simp only [Array.getElem?_eq_getElem hin, Option.map_some, Option.getD_some, Bool.and_eq_true, Bool.not_eq_true'] at hi2
      obtain ⟨hun, hedges⟩ := hi2
      have hun' : listed.getD i false = false := by simp [Array.getD, hsz, hin] at hun ⊢; exact hun
      have ho : ops[i]? = some ops[i] := Array.getElem?_eq_getElem hin
      generalize hoi : ops[i] = o at *
      have hbef : ∀ j, ((Region.before ops).getD i 0).testBit j = true → listed.getD j false = true := by
        intro j hj
        obtain ⟨o', e, h1, h2, h3, h4⟩ := before_spec ops i hin j hj
        rw [ho] at h1; cases h1
        have := (Array.all_eq_true_iff_forall_mem.1 hedges) e h2
        rw [h3] at this
        simp only [Bool.not_true, Bool.false_or] at this
        rcases h4 with rfl | h4
        · exact this
        · exact hcl _ this j h4
      obtain ⟨x, g, q, hx, hxd, hg, hq, hfact⟩ := hf i o ho
      have later : ∀ k, listed.getD k false = true → ((Region.before ops).getD k 0).testBit i = true → False := fun k hk hb => by
        have := hcl k hk i hb; rw [hun'] at this; cases this
      -- its operands
      have slots : ∀ t ∈ usesOf ops o, nth (selE (fun k => listed.getD k false) rs 0 s.E) t = nth (selE (fun j => decide (j < i)) rs 0 s.E) t := by
        intro t ht
        refine selE_congr rs 0 _ _ rfl rfl fun k y hk hyd => ?_
        rw [Nat.zero_add]
        have hkn : k < ops.size := hl ▸ (List.getElem?_eq_some_iff.1 hk).1
        have hok : ops[k]? = some ops[k] := Array.getElem?_eq_getElem hkn
        obtain ⟨y', _, _, hy', hyd', _⟩ := hf k _ hok
        rw [hk] at hy'; cases hy'
        rw [hyd'] at hyd
        rcases Nat.lt_trichotomy k i with hlt | rfl | hgt
        · simp only [hlt, decide_true]
          rcases slots_spec hslot hlt hok ho with h | ⟨h, _⟩
          · exact hbef k h
          · exact absurd ht (h t hyd)
        · simp only [hun', Nat.lt_irrefl, decide_false]
        · rw [show decide (k < i) = false by simp; omega]
          cases hlk : listed.getD k false with
          | false => rfl
          | true =>
            rcases slots_spec hslot hgt ho hok with h | ⟨_, _, h⟩
            · exact (later k hlk h).elim
            · exact absurd ht (h t hyd)
      have hops := cvOp_congr (E := selE (fun k => listed.getD k false) rs 0 s.E) (E' := selE (fun j => decide (j < i)) rs 0 s.E) hq fun t ht => slots t (uses_op ht)
      have hwants := wants_congr hg slots
      -- another that was carried out
      have fact_of : ∀ k y, rs[k]? = some y → (y.u ≠ [] ∨ y.nw ≠ [] ∨ refs y.v ≠ []) → k < ops.size ∧ ∃ f Ek Hk gk qk, y.f = some f ∧ Ran X rid 0 s (befOf ((Region.before ops).getD k 0) k) [] rs k Ek Hk gk qk y f := by
        intro k y hk hne
        have hkn : k < ops.size := hl ▸ (List.getElem?_eq_some_iff.1 hk).1
        obtain ⟨y', gk, qk, hy', _, _, _, hfk⟩ := hf k _ (Array.getElem?_eq_getElem hkn)
        rw [hk] at hy'; cases hy'
        refine ⟨hkn, ?_⟩
        rcases hfk with ⟨_, _, h3, h4, h5⟩ | ⟨f, h1, h2⟩
        · rcases hne with h | h | h
          · exact absurd h4 h
          · exact absurd h5 h
          · rw [h3] at h; simp [refs, refsL] at h
        · exact ⟨f, _, _, gk, qk, h1, h2⟩
      have ne_of_mem : ∀ {α : Type} {l : List α} {z : α}, z ∈ l → l ≠ [] := fun h e => by rw [e] at h; cases h
      -- where it looks
      have hrun : wants (selE (fun k => listed.getD k false) rs 0 s.E) g = some false ∧ x.v = .tup [] ∧ x.u = [] ∧ x.nw = [] ∨
          wants (selE (fun k => listed.getD k false) rs 0 s.E) g = some true ∧ aop X (nameOf rid i) (selH (fun k => listed.getD k false) rs 0 s.H) (q.map (aev (selE (fun k => listed.getD k false) rs 0 s.E))) = some (x.v, x.u, x.nw) := by
        rcases hfact with ⟨_, h2, h3, h4, h5⟩ | ⟨f, h1, hran⟩
        · exact .inl ⟨hwants.trans h2, h3, h4, h5⟩
        · refine .inr ⟨hwants.trans hran.wants_, ?_⟩
          rw [hops]
          have hop := hran.op_
          rw [Nat.zero_add] at hop
          refine aop_local hop fun l hlm => ?_
          rw [← hran.r_, ← hran.w_] at hlm
          refine selH_congr rs 0 _ _ rfl fun k y hk hyl => ?_
          rw [Nat.zero_add]
          rcases Nat.lt_trichotomy k i with hlt | rfl | hgt
          · simp only [hlt, decide_true]
            cases hlk : listed.getD k false with
            | true => rfl
            | false =>
              exfalso
              obtain ⟨_, f', _, _, _, _, hf', hran'⟩ := fact_of k y hk (.inl fun e => by rw [e] at hyl; simp at hyl)
              have hc := hran.new_ k y hlt hk f' hf'
              simp only [clr, Bool.and_eq_true, Bool.or_eq_true] at hc
              rcases hc.2 with hb | ⟨⟨⟨_, c2⟩, c3⟩, _⟩
              · have hb' : f'.i ∈ befOf ((Region.before ops).getD i 0) i := by simpa using hb
                rw [hran'.i_, Nat.zero_add] at hb'
                have := hbef k (befOf_mem.1 hb').2
                rw [hlk] at this; cases this
              · have hyl' : l ∈ f'.w := by rw [hran'.w_]; exact hyl
                rcases hlm with hlm | hlm
                · exact disj_spec c3 l hyl' hlm
                · exact disj_spec c2 l hlm hyl'
          · simp only [hun', Nat.lt_irrefl, decide_false]
          · rw [show decide (k < i) = false by simp; omega]
            cases hlk : listed.getD k false with
            | false => rfl
            | true =>
              exfalso
              obtain ⟨_, f', _, _, _, _, hf', hran'⟩ := fact_of k y hk (.inl fun e => by rw [e] at hyl; simp at hyl)
              have hc := hran'.new_ i x hgt hx f h1
              simp only [clr, Bool.and_eq_true, Bool.or_eq_true] at hc
              rcases hc.2 with hb | ⟨⟨⟨c1, c2⟩, _⟩, _⟩
              · have hb' : f.i ∈ befOf ((Region.before ops).getD k 0) k := by simpa using hb
                rw [hran.i_, Nat.zero_add] at hb'
                exact later k hlk (befOf_mem.1 hb').2
              · have hyl' : l ∈ f'.w := by rw [hran'.w_]; exact hyl
                rcases hlm with hlm | hlm
                · exact disj_spec c1 l hyl' hlm
                · exact disj_spec c2 l hyl' hlm
      -- what it makes is named by nothing
      have apart : ∀ l ∈ x.nw, ∀ k y, rs[k]? = some y → listed.getD k false = true → l ∈ refs y.v ++ (y.u.flatMap fun z => refsO z.2) → False := by
        intro l hlx k y hk hlk hyl
        rcases hfact with ⟨_, _, _, _, h5⟩ | ⟨f, h1, hran⟩
        · rw [h5] at hlx; cases hlx
        · obtain ⟨_, f', _, _, _, _, hf', hran'⟩ := fact_of k y hk (by
            rcases List.mem_append.1 hyl with h | h
            · exact .inr (.inr (ne_of_mem h))
            · exact .inl fun e => by rw [e] at h; simp at h)
          rw [← hran'.m_] at hyl
          rw [← hran.nw_] at hlx
          rcases Nat.lt_trichotomy k i with hlt | rfl | hgt
          · have hc := hran.new_ k y hlt hk f' hf'
            simp only [clr, Bool.and_eq_true] at hc
            exact disj_spec hc.1 l hlx hyl
          · rw [hun'] at hlk; cases hlk
          · have hc := hran'.new_ i x hgt hx f h1
            simp only [clr, Bool.and_eq_true, Bool.or_eq_true] at hc
            rcases hc.2 with hb | ⟨⟨⟨_, _⟩, _⟩, c4⟩
            · have hb' : f.i ∈ befOf ((Region.before ops).getD k 0) k := by simpa using hb
              rw [hran.i_, Nat.zero_add] at hb'
              exact later k hlk (befOf_mem.1 hb').2
            · exact disj_spec c4 l hlx hyl
      have hfresh : ∀ l ∈ x.nw, l ∉ refsL s.E ∧ ∀ m p, hget s.H m = some p → m ≠ l → l ∉ refsO p := by
        intro l hlx
        rcases hfact with ⟨_, _, _, _, h5⟩ | ⟨f, h1, hran⟩
        · rw [h5] at hlx; cases hlx
        · exact fresh_spec hran.fresh_ l hlx
      have hno : ∀ l ∈ x.nw, l ∉ refsL (selE (fun k => listed.getD k false) rs 0 s.E) ∧ ∀ m p, hget (selH (fun k => listed.getD k false) rs 0 s.H) m = some p → m ≠ l → l ∉ refsO p := by
        intro l hlx
        refine ⟨fun hm => ?_, fun m p hp hm hlp => ?_⟩
        · rcases selE_refs rs 0 _ hm with h | ⟨k, y, h1, h2, h3⟩
          · exact (hfresh l hlx).1 h
          · rw [Nat.zero_add] at h2
            exact apart l hlx k y h1 h2 (List.mem_append_left _ h3)
        · rcases selH_mem rs 0 _ hp with h | ⟨k, y, h1, h2, h3⟩
          · exact (hfresh l hlx).2 m p h hm hlp
          · rw [Nat.zero_add] at h2
            exact apart l hlx k y h1 h2 (List.mem_append_right _ (List.mem_flatMap.2 ⟨_, h3, hlp⟩))
      refine oper_sound hC ho st.inv he hg hq hrun hno fun w' y ρ' S' st' he' => ?_
      -- and on
      have hi' : i < listed.size := hsz ▸ hin
      have p1 : (listed.setIfInBounds i true).getD i false = true := by rw [getD_set _ _ _ hi', if_pos rfl]
      have p2 : ∀ k, k ≠ i → (listed.setIfInBounds i true).getD k false = listed.getD k false := fun k hk => by rw [getD_set _ _ _ hi', if_neg hk]
      have eE := selE_insert (p := fun k => listed.getD k false) (p' := fun k => (listed.setIfInBounds i true).getD k false) (E := s.E) hx p1 p2 (fun k y t hik hlk hk ht => by
        have hkn : k < ops.size := hl ▸ (List.getElem?_eq_some_iff.1 hk).1
        have hok : ops[k]? = some ops[k] := Array.getElem?_eq_getElem hkn
        obtain ⟨y', _, _, hy', hyd', _⟩ := hf k _ hok
        rw [hk] at hy'; cases hy'
        rw [hyd']
        rw [hxd] at ht
        rcases slots_spec hslot hik ho hok with h | ⟨_, h, _⟩
        · exact (later k hlk h).elim
        · exact h t ht)
      have eH := selH_insert (p := fun k => listed.getD k false) (p' := fun k => (listed.setIfInBounds i true).getD k false) (H := s.H) hx p1 p2 (fun k y l hik hlk hk hlx hyl => by
        rcases hfact with ⟨_, _, _, h4, _⟩ | ⟨f, h1, hran⟩
        · rw [h4] at hlx; simp at hlx
        · obtain ⟨_, f', _, _, _, _, hf', hran'⟩ := fact_of k y hk (.inl fun e => by rw [e] at hyl; simp at hyl)
          have hc := hran'.new_ i x hik hx f h1
          simp only [clr, Bool.and_eq_true, Bool.or_eq_true] at hc
          rcases hc.2 with hb | ⟨⟨⟨_, c2⟩, _⟩, _⟩
          · have hb' : f.i ∈ befOf ((Region.before ops).getD k 0) k := by simpa using hb
            rw [hran.i_, Nat.zero_add] at hb'
            exact later k hlk (befOf_mem.1 hb').2
          · exact disj_spec c2 l (by rw [hran'.w_]; exact hyl) (by rw [hran.w_]; exact hlx))
      have stx := step_ext (N := No) st'.inv eH
      refine ih (listed.setIfInBounds i true) ρ' S' w' (a.put o.dst y) (by simp [hsz]) ?_ ?_ (((st.trans st').trans (stx.weaken fun _ h => h.elim)).weaken fun _ h => h.elim (fun h => h.elim id id) id) ?_ ?_
      · have hlt : i < listed.toList.length := by simpa using hi'
        have hget : listed.toList[i] = false := by
          have : listed[i] = false := by simpa [Array.getD, hi'] using hun'
          simpa using this
        rw [Array.toList_setIfInBounds, List.count_set hlt, hget]
        simp only [Bool.false_eq_true, beq_iff_eq, if_false, if_true, beq_self_eq_true]
        omega
      · intro k hk j hj
        rw [getD_set _ _ _ hi'] at hk ⊢
        split
        · rfl
        · by_cases hki : k = i
          · subst hki; exact hbef j hj
          · rw [if_neg hki] at hk; exact hcl k hk j hj
      · rw [eE]
        have := he'.step stx st'.inv fun _ _ => id
        rw [hxd]; exact this
      · rw [← hd]; cases o.dst <;> rfl

end
end Bz

/- Code, whole. -/
namespace Bz
open Go

section
variable {P : Program} {X : Ctx}

def exitOf : AExit → Exit
  | .norm => .normal
  | .exit id => .exit id
  | .ret => .ret
  | .goto l => .goto l

theorem region_sound (hC : Good P X.C) {id : Nat} {ops : Array Oper} {dr : Bool} {aid : Nat} {aops' : List AOper} {adr : Bool} (hc : cvCode P (.region id ops dr) = .region aid aops' adr) {s s' : St}
    (h : (if adr then aopsD X aid s aops' 0 s [] else aops X aid aops' 0 s) = some s') {ρ : Nat → Nat} {S : Nat → Prop} {w : World} {a : Act} {Q : Exit → Act → World → Prop} (hi : Inv ρ S s.H w) (he : RelE ρ S s.H w s.E a.tmps)
    (hn : ∀ ρ' S' w' (a' : Act), Step Big ρ S s.H w ρ' S' s'.H w' → RelE ρ' S' s'.H w' s'.E a'.tmps → a'.defers = a.defers → Q .normal a' w') : (Code.region id ops dr).wp P Q a w := by
  simp only [cvCode] at hc
  split at hc
  · rename_i hcond
    cases hc
    cases dr with
    | false =>
      simp only [Bool.false_eq_true, if_false] at h
      refine wp_region ?_
      rw [List.range_eq_range']
      have := aops_sound (P := P) (Q := Q) hC (ops := ops) (bs := #[]) ops.toList 0 s s' ρ S w a (fun k o hk => by simpa using hk) h hi he hn
      simpa using this
    | true =>
      simp only [if_true] at h
      simp only [Bool.not_true, Bool.false_or, Bool.and_eq_true] at hcond
      obtain ⟨⟨hedge, hslot⟩, hmix⟩ := hcond
      refine wp_region_any hmix ?_
      obtain ⟨rs, hl, hs', hf⟩ := aopsD_trace (P := P) (bs := Region.before ops) ops.toList 0 s s' [] h
      have hl' : rs.length = ops.size := by simpa using hl
      have hfalse : (fun k => (Array.replicate ops.size false).getD k false) = fun _ => false := by
        funext k
        simp only [Array.getD_eq_getD_getElem?, Array.getElem?_replicate]
        split <;> rfl
      refine any_sound (s := s) (rs := rs) (rid := id) (w0 := w) (a0 := a) (ρ0 := ρ) (S0 := S) hC hl' hedge hslot (fun k o hk => ?_) (fun ρ' S' w' a' st he' hd => ?_) ops.size _ ρ S _ a (by simp) (by simp [List.count_replicate]) (fun i hi => ?_) ?_ ?_ rfl
      · have := hf k o (by simpa using hk)
        simpa only [Nat.zero_add] using this
      · rw [hs'] at hn; exact hn ρ' S' w' a' st he' hd
      · have := congrFun hfalse i; rw [this] at hi; cases hi
      · rw [hfalse, selH_false]
        exact Step.heap0 (w := w) (w0 := { w with drawn := w.drawn + 1 }) (Step.refl (hi.heap rfl)) rfl
      · rw [hfalse, selH_false, selE_false]
        exact ⟨he.size, fun i => (he.at_ i).heap rfl⟩
  · cases hc

theorem mask_nth (ks : List Nat) : ∀ (E : List AV) (k i : Nat), nth (maskE ks E k) i = nth E i ∨ nth (maskE ks E k) i = .undef
  | [], _, i => .inl rfl
  | v :: r, k, 0 => by
    simp only [maskE, nth]
    split
    · exact .inl rfl
    · exact .inr rfl
  | v :: r, k, i + 1 => by
    simp only [maskE, nth]
    exact mask_nth ks r (k + 1) i

theorem mask_len (ks : List Nat) : ∀ (E : List AV) (k : Nat), (maskE ks E k).length = E.length
  | [], _ => rfl
  | v :: r, k => by simp [maskE, mask_len ks r (k + 1)]

theorem RelE.mask {ρ : Nat → Nat} {S : Nat → Prop} {H : Heap} {w : World} {E : List AV} {ts : Array Value} (h : RelE ρ S H w E ts) (ks : List Nat) (k : Nat) : RelE ρ S H w (maskE ks E k) ts :=
  ⟨(mask_len ks E k).trans h.size, fun i => by
    rcases mask_nth ks E k i with e | e
    · rw [e]; exact h.at_ i
    · rw [e]; exact .undef _⟩

/-- what is said of a piece of code -/
def Sound (P : Program) (X : Ctx) (c : Code) (ac : ACode) : Prop :=
  ∀ (k : Nat) (s s' : St) (e : AExit) (ρ : Nat → Nat) (S : Nat → Prop) (w : World) (a : Act) (Q : Exit → Act → World → Prop), aexec X k ac s = some (e, s') → Inv ρ S s.H w → RelE ρ S s.H w s.E a.tmps →
    (∀ ρ' S' w' (a' : Act), Step Big ρ S s.H w ρ' S' s'.H w' → RelE ρ' S' s'.H w' s'.E a'.tmps → a'.defers = a.defers → Q (exitOf e) a' w') → c.wp P Q a w

theorem hget_filter (p : Nat → Bool) : ∀ (H : Heap) (l : Nat), hget (H.filter fun x => p x.1) l = if p l then hget H l else none
  | [], l => by simp [hget]
  | (m, o) :: r, l => by
    simp only [List.filter_cons]
    by_cases hm : p m = true
    · rw [if_pos hm]
      simp only [hget]
      by_cases e : l = m
      · subst e; simp [hm]
      · rw [if_neg e, if_neg e]; exact hget_filter p r l
    · rw [if_neg hm, hget_filter p r l]
      simp only [hget]
      by_cases e : l = m
      · subst e; simp [hm]
      · rw [if_neg e]

theorem step_sub {N : Nat → Prop} {ρ : Nat → Nat} {S : Nat → Prop} {H H' : Heap} {w : World} (hi : Inv ρ S H w) (h : ∀ l, hget H' l = hget H l ∨ hget H' l = none) : Step N ρ S H w ρ S H' w := by
  have sub : ∀ l o, hget H' l = some o → hget H l = some o := fun l o ho => by
    rcases h l with e | e
    · rw [← e]; exact ho
    · rw [e] at ho; cases ho
  have hl : ∀ l, Live H' l → Live H l := fun l ⟨o, ho, hlo⟩ => ⟨o, sub l o ho, hlo⟩
  have hc : ∀ l, Comp ρ H l ρ H' l := fun l => by
    rcases h l with e | e
    · exact comp_same e rfl
    · exact comp_dead e
  refine ⟨⟨fun l o ho => ?_, fun l l' a b e => hi.inj l l' (hl l a) (hl l' b) e, fun l a => hi.sep l (hl l a), hi.dom⟩, fun _ h => h, fun _ h => .inl h, fun _ _ _ => rfl, .refl w, Nat.le_refl _, fun l a => .inr ⟨l, hl l a, rfl⟩, fun l _ => hc l, ⟨rfl, rfl, rfl, by first | exact Nat.le_refl _ | exact Nat.le_add_right _ _⟩⟩
  exact (hi.obj l o (sub l o ho)).keep (fun _ => rfl) (fun _ h => h) (fun _ _ => rfl) (.refl w) fun m _ => hc m

theorem trim1_sound {ρ : Nat → Nat} {S : Nat → Prop} {s : St} {w : World} {ts : Array Value} (m : List Nat) (hi : Inv ρ S s.H w) (he : RelE ρ S s.H w s.E ts) :
    Step No ρ S s.H w ρ S (trim1 m s).H w ∧ RelE ρ S (trim1 m s).H w (trim1 m s).E ts := by
  have st : Step No ρ S s.H w ρ S (trim1 m s).H w := step_sub hi fun l => by
    show hget (gcH (maskE m s.E 0) s.H) l = hget s.H l ∨ hget (gcH (maskE m s.E 0) s.H) l = none
    unfold gcH
    simp only
    rw [hget_filter]
    split
    · exact .inl rfl
    · exact .inr rfl
  exact ⟨st, (he.mask m 0).step st hi fun _ _ => id⟩

theorem nth_renL (g : Nat → Nat) : ∀ (E : List AV) (i : Nat), nth (renL g E) i = ren g (nth E i)
  | [], i => by simp [renL, nth, ren]
  | v :: r, 0 => by simp [renL, nth]
  | v :: r, i + 1 => by simp only [renL, nth]; exact nth_renL g r i

theorem hget_renS {H : Heap} {l p : Nat} (hp : ∀ x ∈ H, x.1 ≠ p) (k : Nat) : hget (H.map fun x => (if x.1 = l then p else x.1, renO (fun x => if x = l then p else x) x.2)) k =
    if k = p then (hget H l).map (renO fun x => if x = l then p else x) else if k = l then none else (hget H k).map (renO fun x => if x = l then p else x) := by
  induction H with
  | nil => simp [hget]
  | cons y r ih =>
    obtain ⟨m, o⟩ := y
    have hm : m ≠ p := hp (m, o) (by simp)
    simp only [List.map_cons, hget, ih fun x hx => hp x (by simp [hx])]
    by_cases e1 : m = l
    · subst e1
      by_cases e2 : k = p
      · subst e2; simp
      · simp only [if_true, if_neg e2]
        by_cases e3 : k = m
        · simp [e3]
        · simp [e3]
    · simp only [if_neg e1]
      by_cases e2 : k = p
      · subst e2
        have f1 : ¬ k = m := fun e => hm e.symm
        have f2 : ¬ l = m := fun e => e1 e.symm
        simp only [if_neg f1, if_true, if_neg f2]
      · simp only [if_neg e2]
        by_cases e3 : k = l
        · subst e3
          have f1 : ¬ k = m := fun e => e1 e.symm
          simp [f1]
        · simp only [if_neg e3]
          by_cases e4 : k = m
          · simp [e4]
          · simp [e4]

theorem not_mem_of_none {H : Heap} {p : Nat} (h : (hget H p).isNone = true) : ∀ x ∈ H, x.1 ≠ p := by
  intro x hx e
  have := hget_of_mem hx
  rw [e] at this
  simp [Option.isNone_iff_eq_none] at h
  rw [h] at this; cases this

theorem freeN_spec {p : Nat} {s : St} (h : freeN p s = true) : Big p ∧ hget s.H p = none ∧ p ∉ refsL s.E ∧ ∀ m q, hget s.H m = some q → m ≠ p → p ∉ refsO q := by
  unfold freeN at h
  simp only [Bool.and_eq_true, decide_eq_true_eq, Option.isNone_iff_eq_none] at h
  obtain ⟨⟨h1, h2⟩, h3⟩ := h
  exact ⟨h1, h2, (noRef_spec h3).1, (noRef_spec h3).2⟩

/-- another name -/
theorem renS_sound {ρ : Nat → Nat} {S : Nat → Prop} {s : St} {w : World} {ts : Array Value} {l p : Nat} (hi : Inv ρ S s.H w) (he : RelE ρ S s.H w s.E ts) (hf : freeN p s = true) :
    Step Big ρ S s.H w (upd ρ p (ρ l)) S (renS l p s).H w ∧ RelE (upd ρ p (ρ l)) S (renS l p s).H w (renS l p s).E ts := by
  obtain ⟨hbig, hnone, hE, hO⟩ := freeN_spec hf
  have hk : ∀ k, hget (renS l p s).H k = if k = p then (hget s.H l).map (renO fun x => if x = l then p else x) else if k = l then none else (hget s.H k).map (renO fun x => if x = l then p else x) :=
    hget_renS (not_mem_of_none (by rw [hnone]; rfl))
  have hlp : ∀ o, hget s.H l = some o → l ≠ p := fun o ho e => by rw [e, hnone] at ho; cases ho
  have comp : ∀ k, k ≠ p → Comp ρ s.H k (upd ρ p (ρ l)) (renS l p s).H (if k = l then p else k) := by
    intro k hkp
    by_cases e : k = l
    · subst e
      rw [if_pos rfl]
      exact comp_of _ (by rw [hk, if_pos rfl]) (by rw [upd_self])
    · rw [if_neg e]
      exact comp_of _ (by rw [hk, if_neg hkp, if_neg e]) (by rw [upd_ne ρ _ hkp])
  have live : ∀ k, Live (renS l p s).H k → (k = p ∧ Live s.H l) ∨ (k ≠ p ∧ k ≠ l ∧ Live s.H k) := by
    intro k hl
    by_cases e : k = p
    · subst e
      exact .inl ⟨rfl, live_of_map (fun x => if x = l then k else x) (by rw [hk, if_pos rfl]) hl⟩
    · by_cases e2 : k = l
      · obtain ⟨o, ho, _⟩ := hl
        rw [hk, if_neg e, if_pos e2] at ho; cases ho
      · exact .inr ⟨e, e2, live_of_map (fun x => if x = l then p else x) (by rw [hk, if_neg e, if_neg e2]) hl⟩
  have hat : ∀ k, Live (renS l p s).H k → ∃ k0, Live s.H k0 ∧ upd ρ p (ρ l) k = ρ k0 ∧ k = if k0 = l then p else k0 := by
    intro k hl
    rcases live k hl with ⟨rfl, h⟩ | ⟨h1, h2, h⟩
    · exact ⟨l, h, upd_self .., by simp⟩
    · exact ⟨k, h, upd_ne ρ _ h1, by simp [h2]⟩
  have st : Step Big ρ S s.H w (upd ρ p (ρ l)) S (renS l p s).H w := by
    refine ⟨⟨fun k o ho => ?_, fun k k' a b e => ?_, fun k a => ?_, hi.dom⟩, fun _ h => h, fun _ h => .inl h, fun _ _ _ => rfl, .refl w, Nat.le_refl _, fun k a => ?_, fun k hn => ?_, ⟨rfl, rfl, rfl, by first | exact Nat.le_refl _ | exact Nat.le_add_right _ _⟩⟩
    · rw [hk] at ho
      split at ho
      · rename_i e
        subst e
        obtain ⟨o', ho', rfl⟩ := Option.map_eq_some_iff.1 ho
        rw [upd_self]
        exact (hi.obj l o' ho').ren _ (fun _ => rfl) (fun _ h => h) (fun _ _ => rfl) (.refl w) fun m hm => comp m fun em => hO l o' ho' (hlp o' ho') (em ▸ hm)
      · rename_i e
        split at ho
        · cases ho
        · obtain ⟨o', ho', rfl⟩ := Option.map_eq_some_iff.1 ho
          rw [upd_ne ρ _ e]
          exact (hi.obj k o' ho').ren _ (fun _ => rfl) (fun _ h => h) (fun _ _ => rfl) (.refl w) fun m hm => comp m fun em => hO k o' ho' e (em ▸ hm)
    · obtain ⟨k0, h1, h2, h3⟩ := hat k a
      obtain ⟨k1, h4, h5, h6⟩ := hat k' b
      rw [h2, h5] at e
      have := hi.inj k0 k1 h1 h4 e
      subst this
      rw [h3, h6]
    · obtain ⟨k0, h1, h2, _⟩ := hat k a
      rw [h2]; exact hi.sep k0 h1
    · obtain ⟨k0, h1, h2, _⟩ := hat k a
      exact .inr ⟨k0, h1, h2.symm⟩
    · have hkp : k ≠ p := fun e => hn (e ▸ hbig)
      by_cases e : k = l
      · refine comp_dead ?_
        rw [hk, if_neg hkp, if_pos e]
      · have := comp k hkp
        rwa [if_neg e] at this
  refine ⟨st, ⟨?_, fun i => ?_⟩⟩
  · show (renL _ s.E).length = _
    rw [renL_length]; exact he.size
  · show RelA _ _ _ _ (nth (renL _ s.E) i) _
    rw [nth_renL]
    exact (he.at_ i).trans _ (fun _ h => h) (fun _ _ => rfl) (.refl w) fun m hm => comp m fun em => hE (em ▸ nth_refs s.E i m hm)

/-- a row of none, under a name of its own -/
theorem virt_sound {ρ : Nat → Nat} {S : Nat → Prop} {s : St} {w : World} {ts : Array Value} {p sz : Nat} (hi : Inv ρ S s.H w) (he : RelE ρ S s.H w s.E ts) (hf : freeN p s = true) (hsz : 0 < sz) :
    Step Big ρ S s.H w ρ S (hset s.H p (.arr sz [])) w ∧ RelE ρ S (hset s.H p (.arr sz [])) w s.E ts := by
  obtain ⟨hbig, hnone, hE, hO⟩ := freeN_spec hf
  have comp : ∀ k, k ≠ p → Comp ρ s.H k ρ (hset s.H p (.arr sz [])) k := fun k hk => comp_same (hget_set_ne _ _ hk) rfl
  have live : ∀ k, Live (hset s.H p (.arr sz [])) k → Live s.H k := fun k hk => by
    rcases live_hset hk with rfl | q
    · obtain ⟨o, ho, hlo⟩ := hk
      rw [hget_set_self] at ho; cases ho; simp [isLive] at hlo
    · exact q.2
  have st : Step Big ρ S s.H w ρ S (hset s.H p (.arr sz [])) w := by
    refine ⟨⟨fun k o ho => ?_, fun k k' a b e => hi.inj k k' (live k a) (live k' b) e, fun k a => hi.sep k (live k a), hi.dom⟩, fun _ h => h, fun _ h => .inl h, fun _ _ _ => rfl, .refl w, Nat.le_refl _,
      fun k a => .inr ⟨k, live k a, rfl⟩, fun k hn => comp k fun e => hn (e ▸ hbig), ⟨rfl, rfl, rfl, by first | exact Nat.le_refl _ | exact Nat.le_add_right _ _⟩⟩
    by_cases e : k = p
    · subst e
      rw [hget_set_self] at ho; cases ho
      exact ⟨hsz, fun h => absurd rfl h⟩
    · rw [hget_set_ne _ _ e] at ho
      exact (hi.obj k o ho).keep (fun _ => rfl) (fun _ h => h) (fun _ _ => rfl) (.refl w) fun m hm => comp m fun em => hO k o ho e (em ▸ hm)
  exact ⟨st, ⟨he.size, fun i => (he.at_ i).keep (fun _ h => h) (fun _ _ => rfl) (.refl w) fun m hm => comp m fun em => hE (em ▸ nth_refs s.E i m hm)⟩⟩

/-- a place's value, another one that stands for the same -/
theorem proSet_sound {ρ : Nat → Nat} {S : Nat → Prop} {s s1 : St} {w : World} {ts : Array Value} {q : Pro} {v v' : AV} {p sz : Nat} (hi : Inv ρ S s1.H w) (he : RelE ρ S s1.H w s1.E ts) (hv : proAt s q = (v, p, sz)) (hvd : ∀ l ∈ refs v', (hget s1.H l).isSome = true ∧ ∀ cs, hget s1.H l ≠ some (.var cs))
    (hE : s1.E = s.E) (hH : ∀ l cs, hget s.H l = some (.var cs) → hget s1.H l = some (.var cs)) (hund : v ≠ .undef)
    (hr : ∀ x, RelA ρ S s1.H w v x → Flat x ∧ RelA ρ S s1.H w v' x) :
    Step Big ρ S s1.H w ρ S (proSet s1 v' q).H w ∧ RelE ρ S (proSet s1 v' q).H w (proSet s1 v' q).E ts := by
  have slot : ∀ k, nth s.E k = v → Step Big ρ S s1.H w ρ S s1.H w ∧ RelE ρ S s1.H w (s1.E.set k v') ts := by
    intro k hvk
    refine ⟨.refl hi, ?_⟩
    refine ⟨by simp [he.size], fun i => ?_⟩
    rw [nth_set]
    split
    · rename_i e
      obtain ⟨rfl, _⟩ := e
      have := he.at_ i
      rw [hE, hvk] at this
      exact (hr _ this).2
    · exact he.at_ i
  have cell : ∀ l j, (match hget s.H l with | some (.var cs) => nth cs j | _ => .undef) = v →
      Step Big ρ S s1.H w ρ S (match hget s1.H l with | some (.var cs) => { s1 with H := hset s1.H l (.var (cs.set j v')) } | _ => s1 : St).H w ∧
      RelE ρ S (match hget s1.H l with | some (.var cs) => { s1 with H := hset s1.H l (.var (cs.set j v')) } | _ => s1 : St).H w (match hget s1.H l with | some (.var cs) => { s1 with H := hset s1.H l (.var (cs.set j v')) } | _ => s1 : St).E ts := by
    intro l j hv1
    cases hg : hget s.H l with
    | none => rw [hg] at hv1; exact absurd hv1.symm hund
    | some o =>
      rw [hg] at hv1
      cases o with
      | var cs =>
        simp only at hv1
        have hg1 := hH l cs hg
        rw [hg1]
        simp only
        have comp : ∀ k, Comp ρ s1.H k ρ (hset s1.H l (.var (cs.set j v'))) k := by
          intro k
          by_cases e : k = l
          · subst e
            have := comp_var (ρ := ρ) (cs' := cs.set j v') hg1
            rwa [upd_same] at this
          · exact comp_same (hget_set_ne _ _ e) rfl
        have live : ∀ k, Live (hset s1.H l (.var (cs.set j v'))) k → Live s1.H k := fun k hk => by
          rcases live_hset hk with rfl | q
          · exact ⟨_, hg1, rfl⟩
          · exact q.2
        have st : Step Big ρ S s1.H w ρ S (hset s1.H l (.var (cs.set j v'))) w := by
          refine ⟨⟨fun k o ho => ?_, fun k k' a b e => hi.inj k k' (live k a) (live k' b) e, fun k a => hi.sep k (live k a), hi.dom⟩, fun _ h => h, fun _ h => .inl h, fun _ _ _ => rfl, .refl w, Nat.le_refl _,
            fun k a => .inr ⟨k, live k a, rfl⟩, fun k hn => comp k, ⟨rfl, rfl, rfl, by first | exact Nat.le_refl _ | exact Nat.le_add_right _ _⟩⟩
          by_cases e : k = l
          · subst e
            rw [hget_set_self] at ho; cases ho
            obtain ⟨vs, T, h1, h2, h3⟩ := hi.obj k _ hg1
            refine ⟨vs, T, h1, by simpa using h2, fun i x hx => ?_⟩
            rw [List.getElem?_set] at hx
            by_cases ej : j = i
            · subst ej
              rw [if_pos rfl] at hx
              split at hx
              · rename_i hlt
                cases hx
                have hcj : cs[j]? = some v := by
                  rw [nth_eq, List.getElem?_eq_getElem hlt] at hv1
                  rw [List.getElem?_eq_getElem hlt]; simpa using hv1
                obtain ⟨z, hz, hf, hrz⟩ := h3 j v hcj
                exact ⟨z, hz, (hr z hrz).1, ((hr z hrz).2).keep (fun _ h => h) (fun _ _ => rfl) (.refl w) fun m _ => comp m⟩
              · cases hx
            · rw [if_neg ej] at hx
              obtain ⟨z, hz, hf, hrz⟩ := h3 i x hx
              exact ⟨z, hz, hf, hrz.keep (fun _ h => h) (fun _ _ => rfl) (.refl w) fun m _ => comp m⟩
          · rw [hget_set_ne _ _ e] at ho
            exact (hi.obj k o ho).keep (fun _ => rfl) (fun _ h => h) (fun _ _ => rfl) (.refl w) fun m _ => comp m
        exact ⟨st, ⟨he.size, fun i => (he.at_ i).keep (fun _ h => h) (fun _ _ => rfl) (.refl w) fun m _ => comp m⟩⟩
      | _ => simp only at hv1; exact absurd hv1.symm hund
  cases q with
  | slot k p' sz' => exact slot k (Prod.mk.inj hv).1
  | cell l j p' sz' => exact cell l j (Prod.mk.inj hv).1
  | fslot k => exact slot k (Prod.mk.inj hv).1
  | fcell l j => exact cell l j (Prod.mk.inj hv).1

theorem demote_sound {ρ : Nat → Nat} {S : Nat → Prop} {s : St} {w : World} {ts : Array Value} (q : Pro) (hi : Inv ρ S s.H w) (he : RelE ρ S s.H w s.E ts) :
    ∃ ρ' S', Step Big ρ S s.H w ρ' S' (demote q s).H w ∧ RelE ρ' S' (demote q s).H w (demote q s).E ts := by
  unfold demote
  have data : ∀ {S' : Nat → Prop} {s1 : St} {l n off len sz : Nat} {es : List (List D)}, Inv ρ S' s1.H w → hget s1.H l = some (.fz sz es) → es.length = n → off + len ≤ n → ∀ x, RelA ρ S' s1.H w (.os l n off len) x →
      Flat x ∧ RelA ρ S' s1.H w (.d (.vs false ((es.drop off).take len))) x := by
    intro S' s1 l n off len sz es hi1 hg h1 h2 x hx
    have hv : vwD s1.H (.os l n off len) = some (.vs false ((es.drop off).take len)) := by
      simp only [vwD, hg]; rw [if_pos ⟨h1, h2⟩]
    have hd := vwD_rel hi1 hv hx (fun _ h => h) (fun k hk ⟨z, m, hm, hc⟩ => by
      simp only [arrsOf, List.mem_singleton] at hk
      subst hk
      obtain ⟨es', h3, h4⟩ := hc
      rw [hg] at h3
      rcases h3 with h3 | h3 <;> cases h3
      have hne : es ≠ [] := by intro e; subst e; exact hm h4.symm
      exact ((hi1.obj k _ hg).2 hne).1)
    exact ⟨hd.flat, .d _ _ hd⟩
  split
  · rename_i l n off len hq
    have hqe : proAt s q = (.os l n off len, (proAt s q).2.1, (proAt s q).2.2) := by rw [← hq]
    split
    · rename_i sz es hg
      split
      · rename_i hc
        have first : ∃ S1, Step Big ρ S s.H w ρ S1 (hset s.H l (.fz sz es)) w := by
          by_cases hne : es = []
          · subst hne; exact ⟨S, step_fz0 hi hg⟩
          · exact ⟨_, step_fz hi hg hne⟩
        obtain ⟨S1, st⟩ := first
        have he1 : RelE ρ S1 (hset s.H l (.fz sz es)) w s.E ts :=
          ⟨he.size, fun i => (he.at_ i).keep st.sub (fun _ _ => rfl) (.refl w) fun m _ => comp_fz hg⟩
        have hself : hget (hset s.H l (.fz sz es)) l = some (.fz sz es) := hget_set_self _ _ _
        obtain ⟨st2, he2⟩ := proSet_sound (s := s) (s1 := { s with H := hset s.H l (.fz sz es) }) (q := q) (v' := .d (.vs false ((es.drop off).take len))) st.inv he1 hqe
          (fun l hl => by simp [refs] at hl) rfl (fun k cs h => by
            show hget (hset s.H l (.fz sz es)) k = _
            rw [hget_set_ne]
            · exact h
            · intro e; rw [e, hg] at h; cases h) (by simp) (data (s1 := { s with H := hset s.H l (.fz sz es) }) st.inv hself hc.1 hc.2)
        exact ⟨ρ, S1, (st.trans st2).weaken fun _ h => h.elim id id, he2⟩
      · exact ⟨ρ, S, .refl hi, he⟩
    · rename_i sz es hg
      split
      · rename_i hc
        obtain ⟨st2, he2⟩ := proSet_sound (s := s) (s1 := s) (q := q) (v' := .d (.vs false ((es.drop off).take len))) hi he hqe
          (fun l hl => by simp [refs] at hl) rfl (fun k cs h => h) (by simp) (data (s1 := s) hi hg hc.1 hc.2)
        exact ⟨ρ, S, st2, he2⟩
      · exact ⟨ρ, S, .refl hi, he⟩
    · exact ⟨ρ, S, .refl hi, he⟩
  · rename_i x hq
    have hqe : proAt s q = (.d x, (proAt s q).2.1, (proAt s q).2.2) := by rw [← hq]
    obtain ⟨st2, he2⟩ := proSet_sound (s := s) (s1 := s) (q := q) (v' := .d (norm x)) hi he hqe
      (fun l hl => by simp [refs] at hl) rfl (fun k cs h => h) (by simp) (fun y hy => by
        cases hy with
        | d _ _ hd => exact ⟨hd.flat, .d _ _ hd.norm⟩)
    exact ⟨ρ, S, st2, he2⟩
  · exact ⟨ρ, S, .refl hi, he⟩

theorem prom_sound {ρ : Nat → Nat} {S : Nat → Prop} {s : St} {w : World} {ts : Array Value} (q : Pro) (hi : Inv ρ S s.H w) (he : RelE ρ S s.H w s.E ts) :
    ∃ ρ' S', Step Big ρ S s.H w ρ' S' (prom q s).H w ∧ RelE ρ' S' (prom q s).H w (prom q s).E ts := by
  unfold prom
  split
  · exact demote_sound q hi he
  split
  · rename_i p sz hq
    split
    · rename_i hc
      simp only [Bool.and_eq_true, decide_eq_true_eq] at hc
      obtain ⟨st, he1⟩ := virt_sound hi he hc.1 hc.2
      have hnone := (freeN_spec hc.1).2.1
      obtain ⟨st2, he2⟩ := proSet_sound (s := s) (s1 := { s with H := hset s.H p (.arr sz []) }) (q := q) (v := .d (.vs true [])) (v' := .os p 0 0 0) (p := p) (sz := sz) st.inv he1 hq
        (fun l hl => by simp [refs] at hl; subst hl; rw [hget_set_self]; exact ⟨rfl, fun cs h => by cases h⟩) rfl (fun l cs h => by
          show hget (hset s.H p (.arr sz [])) l = _
          rw [hget_set_ne]
          · exact h
          · intro e; rw [e, hnone] at h; cases h) (by simp) (fun x hx => by
          cases hx with
          | d _ _ hd =>
            cases hd with
            | vnil t b =>
              refine ⟨trivial, .os _ _ _ _ _ trivial fun sz1 m1 hc1 => ?_⟩
              obtain ⟨es, h1, h2⟩ := hc1
              have : hget (hset s.H p (.arr sz [])) p = some (.arr sz []) := hget_set_self _ _ _
              rw [this] at h1
              rcases h1 with h1 | h1 <;> cases h1
              exact ⟨by omega, fun _ => .inl ⟨rfl, rfl, b, rfl⟩⟩)
      exact ⟨ρ, S, (st.trans st2).weaken fun _ h => h.elim id id, he2⟩
    · exact ⟨ρ, S, .refl hi, he⟩
  · rename_i l _ _ _ p _ hq
    split
    · rename_i hc
      simp only [Bool.and_eq_true, decide_eq_true_eq] at hc
      exact ⟨_, S, renS_sound hi he hc.1⟩
    · exact ⟨ρ, S, .refl hi, he⟩
  · exact ⟨ρ, S, .refl hi, he⟩

theorem proms_sound {w : World} {ts : Array Value} : ∀ (qs : List Pro) (ρ : Nat → Nat) (S : Nat → Prop) (s : St), Inv ρ S s.H w → RelE ρ S s.H w s.E ts →
    ∃ ρ' S', Step Big ρ S s.H w ρ' S' (proms qs s).H w ∧ RelE ρ' S' (proms qs s).H w (proms qs s).E ts
  | [], ρ, S, s, hi, he => ⟨ρ, S, .refl hi, he⟩
  | q :: r, ρ, S, s, hi, he => by
    obtain ⟨ρ1, S1, st1, he1⟩ := prom_sound q hi he
    obtain ⟨ρ2, S2, st2, he2⟩ := proms_sound r ρ1 S1 (prom q s) st1.inv he1
    exact ⟨ρ2, S2, (st1.trans st2).weaken fun _ h => h.elim id id, he2⟩

theorem gc_sound {ρ : Nat → Nat} {S : Nat → Prop} {s : St} {w : World} {ts : Array Value} (hi : Inv ρ S s.H w) (he : RelE ρ S s.H w s.E ts) :
    Step No ρ S s.H w ρ S (gcH s.E s.H) w ∧ RelE ρ S (gcH s.E s.H) w s.E ts := by
  have st : Step No ρ S s.H w ρ S (gcH s.E s.H) w := step_sub hi fun l => by
    unfold gcH
    simp only
    rw [hget_filter]
    split
    · exact .inl rfl
    · exact .inr rfl
  exact ⟨st, he.step st hi fun _ _ => id⟩

theorem hget_insH (x : Nat × AObj) : ∀ (H : Heap) (l : Nat), hget (insH x H) l = if l = x.1 then some x.2 else hget H l
  | [], l => by obtain ⟨a, b⟩ := x; simp [insH, hget]
  | (m, o) :: r, l => by
    obtain ⟨a, b⟩ := x
    simp only [insH]
    split
    · simp [hget]
    · rename_i h
      simp only [hget, hget_insH (a, b) r l]
      by_cases e : l = m
      · subst e
        have : ¬ l = a := by simp at h; omega
        simp [this]
      · simp [e]

theorem hget_sortH : ∀ (H : Heap) (l : Nat), hget (sortH H) l = hget H l
  | [], _ => rfl
  | (m, o) :: r, l => by simp only [sortH, hget_insH, hget, hget_sortH r l]

theorem trim_sound {ρ : Nat → Nat} {S : Nat → Prop} {s : St} {w : World} {a : Act} (m : Mask) (hi : Inv ρ S s.H w) (he : RelE ρ S s.H w s.E a.tmps) :
    ∃ ρ' S', Step Big ρ S s.H w ρ' S' (trim m s).H w ∧ RelE ρ' S' (trim m s).H w (trim m s).E a.tmps := by
  obtain ⟨st1, he1⟩ := trim1_sound m.keep hi he
  obtain ⟨ρ2, S2, st2, he2⟩ := proms_sound m.pro ρ S (trim1 m.keep s) st1.inv he1
  have gc : Step Big ρ2 S2 (proms m.pro (trim1 m.keep s)).H w ρ2 S2 (gcP m.pro (proms m.pro (trim1 m.keep s))).H w ∧ RelE ρ2 S2 (gcP m.pro (proms m.pro (trim1 m.keep s))).H w (gcP m.pro (proms m.pro (trim1 m.keep s))).E a.tmps := by
    generalize proms m.pro (trim1 m.keep s) = t at st2 he2
    cases m.pro with
    | nil => exact ⟨.refl st2.inv, he2⟩
    | cons q r =>
      obtain ⟨g1, g2⟩ := gc_sound st2.inv he2
      exact ⟨g1.weaken fun _ h => h.elim, g2⟩
  obtain ⟨st4, he4⟩ := gc
  have st3 : Step Big ρ2 S2 (gcP m.pro (proms m.pro (trim1 m.keep s))).H w ρ2 S2 (trim m s).H w := step_ext st4.inv fun k => hget_sortH _ k
  refine ⟨ρ2, S2, (((st1.trans st2).trans st4).trans st3).weaken fun _ h => h.elim (fun h => h.elim (fun h => h.elim (fun h => h.elim) id) id) id, he4.size, fun i => ?_⟩
  exact (he4.at_ i).keep (fun _ h => h) (fun _ _ => rfl) (.refl w) fun k _ => comp_ext (fun k => hget_sortH _ k) k

theorem loop_sound {c : Code} {ac : ACode} (h : Sound P X c ac) (mask : Mask) (k : Nat) {Q : Exit → Act → World → Prop} : ∀ (n : Nat) (s s' : St) (e : AExit) (ρ : Nat → Nat) (S : Nat → Prop) (w : World) (a : Act),
    rounds (aexec X k ac) mask n s = some (e, s') → Inv ρ S s.H w → RelE ρ S s.H w s.E a.tmps →
    (∀ ρ' S' w' (a' : Act), Step Big ρ S s.H w ρ' S' s'.H w' → RelE ρ' S' s'.H w' s'.E a'.tmps → a'.defers = a.defers → Q (exitOf e) a' w') → Code.rounds P c Q n a w
  | 0, s, s', e, ρ, S, w, a, hr, _, _, _ => by simp [rounds] at hr
  | n + 1, s, s', e, ρ, S, w, a, hr, hi, he, hn => by
    simp only [rounds] at hr
    unfold Code.rounds
    obtain ⟨ρ0, S0, st0, he0⟩ := trim_sound mask hi he
    split at hr
    · rename_i s1 h1
      refine h k _ s1 .norm ρ0 S0 w a _ h1 st0.inv he0 fun ρ1 S1 w1 a1 st1 he1 hd1 => ?_
      show Code.rounds P c Q n a1 w1
      exact loop_sound h mask k n s1 s' e ρ1 S1 w1 a1 hr st1.inv he1 fun ρ' S' w' a' st he' hd => hn ρ' S' w' a' (((st0.trans st1).trans st).weaken fun _ h => h.elim (fun h => h.elim id id) id) he' (hd.trans hd1)
    · rename_i hne
      refine h k _ s' e ρ0 S0 w a _ hr st0.inv he0 fun ρ1 S1 w1 a1 st1 he1 hd1 => ?_
      have st1 := (st0.trans st1).weaken (N' := Big) fun _ h => h.elim id id
      cases e with
      | norm => exact absurd hr (hne s')
      | exit id => exact hn ρ1 S1 w1 a1 st1 he1 hd1
      | ret => exact hn ρ1 S1 w1 a1 st1 he1 hd1
      | goto l => exact hn ρ1 S1 w1 a1 st1 he1 hd1

/-- passes of a scope, each from the label on -/
def passes (P : Program) (rest : Code) (l : Nat) (Q : Exit → Act → World → Prop) : Nat → Act → World → Prop
  | 0, _, _ => False
  | n + 1, a, w => rest.wp P (Exit.jump l (passes P rest l Q n) Q) a w

theorem wp_scope_passes {c rest : Code} {l : Nat} {Q : Exit → Act → World → Prop} {a : Act} {w : World} (hf : findLabel c l = some rest) (n : Nat) (first : c.wp P (Exit.jump l (passes P rest l Q n) Q) a w) : (Code.scope c).wp P Q a w := by
  intro b k cs
  have hg : gotoIn l (.inScope c :: k) = some (.code rest :: .inScope c :: k) := by simp [gotoIn, hf]
  have key : ∀ n a w, passes P rest l Q n a w → ∃ e a' w', Q e a' w' ∧ Arrives P (lone (b.at a (.code rest :: .inScope c :: k)) cs w) b k cs e a' w' := by
    intro n
    induction n with
    | zero => intro a w h; exact h.elim
    | succ n ih =>
      intro a w h
      obtain ⟨e, a₁, w₁, hq, harr⟩ := h b (.inScope c :: k) cs
      cases e with
      | normal => exact ⟨.normal, a₁, w₁, hq, Steps.trans harr (.one step_inScope)⟩
      | exit id => exact ⟨.exit id, a₁, w₁, hq, fun k' hk => harr k' (by simp [exitTo, hk])⟩
      | goto l' =>
        obtain ⟨rfl, hJ'⟩ := hq
        obtain ⟨e₂, a₂, w₂, hq₂, harr₂⟩ := ih a₁ w₁ hJ'
        exact ⟨e₂, a₂, w₂, hq₂, .of_steps (harr _ hg) harr₂⟩
      | ret => exact ⟨_, a₁, w₁, hq, harr⟩
      | panic ch => exact ⟨_, a₁, w₁, hq, harr⟩
      | outgrown => exact ⟨_, a₁, w₁, hq, harr⟩
  obtain ⟨e, a₁, w₁, hq, harr⟩ := first b (.inScope c :: k) cs
  cases e with
  | normal => exact ⟨.normal, a₁, w₁, hq, .head step_scope (Steps.trans harr (.one step_inScope))⟩
  | exit id => exact ⟨.exit id, a₁, w₁, hq, fun k' hk => .head step_scope (harr k' (by simp [exitTo, hk]))⟩
  | goto l' =>
    obtain ⟨rfl, hJ'⟩ := hq
    obtain ⟨e₂, a₂, w₂, hq₂, harr₂⟩ := key _ a₁ w₁ hJ'
    exact ⟨e₂, a₂, w₂, hq₂, .of_steps (.head step_scope (harr _ hg)) harr₂⟩
  | ret => exact ⟨_, a₁, w₁, hq, .of_steps (.one step_scope) harr⟩
  | panic ch => exact ⟨_, a₁, w₁, hq, .of_steps (.one step_scope) harr⟩
  | outgrown => exact ⟨_, a₁, w₁, hq, .of_steps (.one step_scope) harr⟩

theorem jumps_sound {c : Code} {ac : ACode} (h : Sound P X c ac) (mask : Mask) (l k : Nat) {Q : Exit → Act → World → Prop} : ∀ (n : Nat) (s s' : St) (e : AExit) (ρ : Nat → Nat) (S : Nat → Prop) (w : World) (a : Act),
    jumps (aexec X k ac) mask l n s = some (e, s') → Inv ρ S s.H w → RelE ρ S s.H w s.E a.tmps →
    (∀ ρ' S' w' (a' : Act), Step Big ρ S s.H w ρ' S' s'.H w' → RelE ρ' S' s'.H w' s'.E a'.tmps → a'.defers = a.defers → Q (exitOf e) a' w') →
    c.wp P (Exit.jump l (passes P (.seq .skip c) l Q (n - 1)) Q) a w
  | 0, s, s', e, ρ, S, w, a, hr, _, _, _ => by simp [jumps] at hr
  | n + 1, s, s', e, ρ, S, w, a, hr, hi, he, hn => by
    simp only [jumps] at hr
    obtain ⟨ρ0, S0, st0, he0⟩ := trim_sound mask hi he
    rw [Nat.add_sub_cancel]
    split at hr
    · rename_i j s1 h1
      split at hr
      · rename_i hj
        subst hj
        refine h k _ s1 (.goto j) ρ0 S0 w a _ h1 st0.inv he0 fun ρ1 S1 w1 a1 st1 he1 hd1 => ?_
        refine ⟨rfl, ?_⟩
        have := jumps_sound h mask j k n s1 s' e ρ1 S1 w1 a1 hr st1.inv he1 fun ρ' S' w' a' st he' hd => hn ρ' S' w' a' (((st0.trans st1).trans st).weaken fun _ h => h.elim (fun h => h.elim id id) id) he' (hd.trans hd1)
        cases n with
        | zero => simp [jumps] at hr
        | succ n => exact wp_seq (wp_skip this)
      · cases hr
    · rename_i hne
      refine h k _ s' e ρ0 S0 w a _ hr st0.inv he0 fun ρ1 S1 w1 a1 st1 he1 hd1 => ?_
      have := hn ρ1 S1 w1 a1 ((st0.trans st1).weaken fun _ h => h.elim id id) he1 hd1
      cases e with
      | norm => exact this
      | exit id => exact this
      | ret => exact this
      | goto j => exact absurd hr (hne j s')

theorem bare_scope (c : Code) : (∃ l p b, c = .seq p (.seq (.label l) b) ∧ findLabel p l = none ∧ bare (cvCode P (.scope c)) = .scope l ⟨[], []⟩ (bare (cvCode P p)) (bare (cvCode P b))) ∨ bare (cvCode P (.scope c)) = .bad := by
  cases c with
  | seq p q =>
    cases q with
    | seq q b =>
      cases q with
      | label l =>
        simp only [cvCode]
        cases hf : findLabel p l with
        | none => exact .inl ⟨l, p, b, rfl, hf, rfl⟩
        | some r => exact .inr rfl
      | _ => exact .inr rfl
    | _ => exact .inr rfl
  | _ => exact .inr rfl
theorem scope_ne {c : Code} {x : ACode} (hb : x = bare (cvCode P (.scope c))) : x = .bad ∨ ∃ l p b, x = .scope l ⟨[], []⟩ p b := by
  rcases bare_scope (P := P) c with ⟨l, p, b, _, _, h⟩ | h
  · exact .inr ⟨l, _, _, hb.trans h⟩
  · exact .inl (hb.trans h)

theorem aexec_sound (hC : Good P X.C) (c : Code) (ac : ACode) : bare ac = bare (cvCode P c) → Sound P X c ac := by
  induction ac generalizing c with
  | skip =>
    intro hb k s s' e ρ S w a Q h hi he hn
    cases c
    case scope c => rcases scope_ne hb with h | ⟨_, _, _, h⟩ <;> cases h
    all_goals simp only [cvCode, bare] at hb <;> (try (split at hb)) <;> try (cases hb; done)
    simp only [aexec] at h; cases h
    exact wp_skip (hn ρ S w a (.refl hi) he rfl)
  | region id ops dr =>
    intro hb k s s' e ρ S w a Q h hi he hn
    cases c
    case region cid cops cdr =>
      have hreg : cvCode P (.region cid cops cdr) = .region id ops dr := by
        have : bare (cvCode P (.region cid cops cdr)) = cvCode P (.region cid cops cdr) := by
          simp only [cvCode]; split <;> rfl
        rw [this] at hb; exact hb.symm
      simp only [aexec] at h
      obtain ⟨s1, h1, h2⟩ := Option.map_eq_some_iff.1 h
      cases h2
      exact region_sound hC hreg h1 hi he hn
    case scope c => rcases scope_ne hb with h | ⟨_, _, _, h⟩ <;> cases h
    all_goals (simp only [cvCode, bare] at hb; try (split at hb)) <;> cases hb
  | seq ax ay ihx ihy =>
    intro hb k s s' e ρ S w a Q h hi he hn
    cases c
    case seq x y =>
      simp only [cvCode, bare] at hb
      injection hb with hbx hby
      simp only [aexec] at h
      refine wp_seq ?_
      split at h
      · rename_i s1 h1
        refine ihx x hbx k s s1 .norm ρ S w a _ h1 hi he fun ρ1 S1 w1 a1 st1 he1 hd1 => ?_
        exact ihy y hby k s1 s' e ρ1 S1 w1 a1 Q h st1.inv he1 fun ρ' S' w' a' st he' hd => hn ρ' S' w' a' ((st1.trans st).weaken fun _ h => h.elim id id) he' (hd.trans hd1)
      · rename_i hne
        refine ihx x hbx k s s' e ρ S w a _ h hi he fun ρ1 S1 w1 a1 st1 he1 hd1 => ?_
        cases e with
        | norm => exact absurd h (hne s')
        | exit id => exact hn ρ1 S1 w1 a1 st1 he1 hd1
        | ret => exact hn ρ1 S1 w1 a1 st1 he1 hd1
        | goto l => exact hn ρ1 S1 w1 a1 st1 he1 hd1
    case scope c => rcases scope_ne hb with h | ⟨_, _, _, h⟩ <;> cases h
    all_goals (simp only [cvCode, bare] at hb; try (split at hb)) <;> cases hb
  | cond qc ax ay ihx ihy =>
    intro hb k s s' e ρ S w a Q h hi he hn
    cases c
    case cond c x y =>
      cases hcv : cvO c with
      | none => simp only [cvCode, hcv, bare] at hb; cases hb
      | some qc' =>
        simp only [cvCode, hcv, bare] at hb
        injection hb with hbc hbx hby
        subst hbc
        simp only [aexec] at h
        split at h
        · rename_i t ht
          have hr := (cvO_rel he hcv).rel
          rw [ht] at hr
          refine wp_cond (relA_bool hr) ?_
          cases t with
          | true => exact ihx x hbx k s s' e ρ S w a Q h hi he hn
          | false => exact ihy y hby k s s' e ρ S w a Q h hi he hn
        · rename_i ht
          have hr := (cvO_rel he hcv).rel
          rw [ht] at hr
          obtain ⟨h1, h2⟩ := bothK_some h
          generalize hev : a.eval c = v at hr
          cases hr with
          | anyb t =>
            refine wp_cond hev ?_
            cases t with
            | true => exact ihx x hbx k s s' e ρ S w a Q h1 hi he hn
            | false => exact ihy y hby k s s' e ρ S w a Q h2 hi he hn
        · cases h
    case scope c => rcases scope_ne hb with h | ⟨_, _, _, h⟩ <;> cases h
    all_goals (simp only [cvCode, bare] at hb; try (split at hb)) <;> cases hb
  | guard pp qc ax ay ihp ihx ihy =>
    intro hb k s s' e ρ S w a Q h hi he hn
    cases c
    case seq xy y =>
      simp only [cvCode, bare] at hb
      injection hb with hb1 hby
      cases xy
      case seq x c3 =>
        simp only [cvCode, bare] at hb1
        injection hb1 with hbp hbc3
        cases c3
        case cond c x1 y1 =>
          cases hcv : cvO c with
          | none => simp only [cvCode, hcv, bare] at hbc3; cases hbc3
          | some qc' =>
            simp only [cvCode, hcv, bare] at hbc3
            injection hbc3 with hbc hbx hbs
            subst hbc
            have hskip : ∀ {c : Code}, ACode.skip = bare (cvCode P c) → c = .skip := by
              intro c hc
              cases c
              case scope c => rcases scope_ne hc with h | ⟨_, _, _, h⟩ <;> cases h
              all_goals simp only [cvCode, bare] at hc <;> (try (split at hc)) <;> first | rfl | (cases hc; done)
            cases hskip hbs
            simp only [aexec] at h
            refine wp_seq ?_
            refine wp_seq ?_
            split at h
            · rename_i s1 h1
              refine ihp x hbp k s s1 .norm ρ S w a _ h1 hi he fun ρ1 S1 w1 a1 st1 he1 hd1 => ?_
              have hn1 : ∀ ρ' S' w' (a' : Act), Step Big ρ1 S1 s1.H w1 ρ' S' s'.H w' → RelE ρ' S' s'.H w' s'.E a'.tmps → a'.defers = a1.defers → Q (exitOf e) a' w' :=
                fun ρ' S' w' a' st he' hd => hn ρ' S' w' a' ((st1.trans st).weaken fun _ h => h.elim id id) he' (hd.trans hd1)
              have hleft : cutN (aexec X k ax s1) = some (e, s') → x1.wp P (Exit.then (y.wp P Q) Q) a1 w1 := by
                intro hc
                obtain ⟨g1, g2⟩ := cutN_some hc
                refine ihx x1 hbx k s1 s' e ρ1 S1 w1 a1 _ g1 st1.inv he1 fun ρ' S' w' a' st he' hd => ?_
                have := hn1 ρ' S' w' a' st he' hd
                cases e with
                | norm => exact absurd rfl g2
                | exit id => exact this
                | ret => exact this
                | goto l => exact this
              have hright : aexec X k ay s1 = some (e, s') → Code.skip.wp P (Exit.then (y.wp P Q) Q) a1 w1 :=
                fun hc => wp_skip (ihy y hby k s1 s' e ρ1 S1 w1 a1 Q hc st1.inv he1 hn1)
              show (Code.cond c x1 .skip).wp P (Exit.then (y.wp P Q) Q) a1 w1
              split at h
              · rename_i t ht
                have hr := (cvO_rel he1 hcv).rel
                rw [ht] at hr
                refine wp_cond (relA_bool hr) ?_
                cases t with
                | true => exact hleft h
                | false => exact hright h
              · rename_i ht
                have hr := (cvO_rel he1 hcv).rel
                rw [ht] at hr
                obtain ⟨h2, h3⟩ := bothK_some h
                generalize hev : a1.eval c = v at hr
                cases hr with
                | anyb t =>
                  refine wp_cond hev ?_
                  cases t with
                  | true => exact hleft h2
                  | false => exact hright h3
              · cases h
            · rename_i hne
              refine ihp x hbp k s s' e ρ S w a _ h hi he fun ρ1 S1 w1 a1 st1 he1 hd1 => ?_
              have := hn ρ1 S1 w1 a1 st1 he1 hd1
              cases e with
              | norm => exact absurd h (hne s')
              | exit id => exact this
              | ret => exact this
              | goto l => exact this
        case scope c => rcases scope_ne hbc3 with h | ⟨_, _, _, h⟩ <;> cases h
        all_goals (simp only [cvCode, bare] at hbc3; try (split at hbc3)) <;> cases hbc3
      case scope c => rcases scope_ne hb1 with h | ⟨_, _, _, h⟩ <;> cases h
      all_goals (simp only [cvCode, bare] at hb1; try (split at hb1)) <;> cases hb1
    case scope c => rcases scope_ne hb with h | ⟨_, _, _, h⟩ <;> cases h
    all_goals (simp only [cvCode, bare] at hb; try (split at hb)) <;> cases hb
  | block id ax ih =>
    intro hb k s s' e ρ S w a Q h hi he hn
    cases c
    case block id' c =>
      simp only [cvCode, bare] at hb
      injection hb with hbi hbx
      subst hbi
      simp only [aexec] at h
      refine wp_block ?_
      split at h
      · rename_i j s1 h1
        split at h
        · rename_i hj
          cases h
          refine ih c hbx k s _ _ ρ S w a _ h1 hi he fun ρ1 S1 w1 a1 st1 he1 hd1 => ?_
          show Exit.inBlock _ Q (.exit j) a1 w1
          simp only [Exit.inBlock, hj, if_true]
          exact hn ρ1 S1 w1 a1 st1 he1 hd1
        · rename_i hj
          cases h
          refine ih c hbx k s _ _ ρ S w a _ h1 hi he fun ρ1 S1 w1 a1 st1 he1 hd1 => ?_
          show Exit.inBlock _ Q (.exit j) a1 w1
          simp only [Exit.inBlock, hj, if_false]
          exact hn ρ1 S1 w1 a1 st1 he1 hd1
      · rename_i hne
        refine ih c hbx k s s' e ρ S w a _ h hi he fun ρ1 S1 w1 a1 st1 he1 hd1 => ?_
        cases e with
        | norm => exact hn ρ1 S1 w1 a1 st1 he1 hd1
        | exit id => exact absurd h (hne id s')
        | ret => exact hn ρ1 S1 w1 a1 st1 he1 hd1
        | goto l => exact hn ρ1 S1 w1 a1 st1 he1 hd1
    case scope c => rcases scope_ne hb with h | ⟨_, _, _, h⟩ <;> cases h
    all_goals (simp only [cvCode, bare] at hb; try (split at hb)) <;> cases hb
  | loop mask ax ih =>
    intro hb k s s' e ρ S w a Q h hi he hn
    cases c
    case loop c =>
      simp only [cvCode, bare] at hb
      injection hb with _ hbx
      simp only [aexec] at h
      exact wp_loop_rounds k (loop_sound (ih c hbx) mask k k s s' e ρ S w a h hi he hn)
    case scope c => rcases scope_ne hb with h | ⟨_, _, _, h⟩ <;> cases h
    all_goals (simp only [cvCode, bare] at hb; try (split at hb)) <;> cases hb
  | mask m ax ih =>
    intro hb k s s' e ρ S w a Q h hi he hn
    simp only [aexec] at h
    obtain ⟨ρ0, S0, st0, he0⟩ := trim_sound m hi he
    exact ih c hb k _ s' e ρ0 S0 w a Q h st0.inv he0 fun ρ' S' w' a' st he' hd => hn ρ' S' w' a' ((st0.trans st).weaken fun _ h => h.elim id id) he' hd
  | exit id =>
    intro hb k s s' e ρ S w a Q h hi he hn
    cases c
    case exit id' =>
      simp only [cvCode, bare] at hb
      cases hb
      simp only [aexec] at h; cases h
      exact wp_exit (hn ρ S w a (.refl hi) he rfl)
    case scope c => rcases scope_ne hb with h | ⟨_, _, _, h⟩ <;> cases h
    all_goals (simp only [cvCode, bare] at hb; try (split at hb)) <;> cases hb
  | ret =>
    intro hb k s s' e ρ S w a Q h hi he hn
    cases c
    case ret =>
      simp only [aexec] at h; cases h
      exact wp_ret (hn ρ S w a (.refl hi) he rfl)
    case scope c => rcases scope_ne hb with h | ⟨_, _, _, h⟩ <;> cases h
    all_goals (simp only [cvCode, bare] at hb; try (split at hb)) <;> cases hb
  | goto l =>
    intro hb k s s' e ρ S w a Q h hi he hn
    cases c
    case goto l' =>
      simp only [cvCode, bare] at hb
      cases hb
      simp only [aexec] at h; cases h
      exact wp_goto (hn ρ S w a (.refl hi) he rfl)
    case scope c => rcases scope_ne hb with h | ⟨_, _, _, h⟩ <;> cases h
    all_goals (simp only [cvCode, bare] at hb; try (split at hb)) <;> cases hb
  | scope l m ap ab ihp ihb =>
    intro hb k s s' e ρ S w a Q h hi he hn
    cases c
    case scope c =>
      rcases bare_scope (P := P) c with ⟨l', p, b, rfl, hf, hb'⟩ | hb'
      · rw [hb'] at hb
        simp only [bare] at hb
        injection hb with hbl _ hbp hbb
        subst hbl
        simp only [aexec] at h
        have hfl : findLabel (.seq p (.seq (.label l) b)) l = some (.seq .skip b) := by simp [findLabel, hf]
        refine wp_scope_passes hfl (k - 1) (wp_seq ?_)
        split at h
        · rename_i s1 h1
          refine ihp p hbp k s s1 .norm ρ S w a _ h1 hi he fun ρ1 S1 w1 a1 st1 he1 hd1 => ?_
          refine wp_seq (wp_label ?_)
          exact jumps_sound (ihb b hbb) m l k k s1 s' e ρ1 S1 w1 a1 h st1.inv he1 fun ρ' S' w' a' st he' hd => hn ρ' S' w' a' ((st1.trans st).weaken fun _ h => h.elim id id) he' (hd.trans hd1)
        · cases h
        · rename_i hne hne2
          refine ihp p hbp k s s' e ρ S w a _ h hi he fun ρ1 S1 w1 a1 st1 he1 hd1 => ?_
          have := hn ρ1 S1 w1 a1 st1 he1 hd1
          cases e with
          | norm => exact absurd h (hne s')
          | exit id => exact this
          | ret => exact this
          | goto j => exact absurd h (hne2 j s')
      · rw [hb'] at hb
        simp only [bare] at hb; cases hb
    all_goals (simp only [cvCode, bare] at hb; try (split at hb)) <;> cases hb
  | bad =>
    intro hb k s s' e ρ S w a Q h hi he hn
    simp [aexec] at h

end
end Bz

/- A function, and the whole program. -/
namespace Bz
open Go

section
variable {P : Program} {X : Ctx}

theorem reach_len (H : Heap) : ∀ (k : Nat) (ls seen : List Nat), (reach H k ls seen).length ≤ k + seen.length
  | 0, _, _ => by simp [reach]
  | _ + 1, [], _ => by simp [reach]
  | k + 1, a :: r, seen => by
    simp only [reach]
    split
    · have := reach_len H k r seen; omega
    · split
      · have := reach_len H k r (seen ++ [a]); simp at this; omega
      · rename_i o _; have := reach_len H k (refsO o ++ r) (seen ++ [a]); simp at this; omega

/-- one result, as it is fetched -/
def resVal (ts : Array Value) : ResultVar → Sem Value
  | .tmp t => pure (ts.getD t undef)
  | .cell a t => do loadVar t (← asAddr (ts.getD a undef))

theorem results_eq (F : Func) (ts : Array Value) : results F ts = (do let vs ← F.results.mapM (resVal ts); pure (if h : vs.size = 1 then vs[0] else .tuple vs)) := by
  unfold results
  congr 1

/-- one result -/
theorem result_rel {ρ : Nat → Nat} {S : Nat → Prop} {s : St} {w : World} {ts : Array Value} (hi : Inv ρ S s.H w) (he : RelE ρ S s.H w s.E ts) {r : ResultVar}
    (hr : (match r with | .cell _ t => (aggOf P t).isSome && szOf P t != 0 | _ => true) = true) {v : AV} (h : aresult s (cvRes P r) = some v) :
    ∃ z, (resVal ts r).run P w = .ok z w ∧ RelA ρ S s.H w v z := by
  cases r with
  | tmp t =>
    simp only [cvRes, aresult] at h; cases h
    exact ⟨_, rfl, he.at_ t⟩
  | cell a t =>
    simp only [cvRes, aresult] at h
    simp only [Bool.and_eq_true, bne_iff_ne, ne_eq] at hr
    obtain ⟨g, hg⟩ := Option.isSome_iff_exists.1 hr.1
    have hia : isAgg? P t = g := by simp [isAgg?, hg]
    rw [hia] at h
    obtain ⟨z, hz, hrel⟩ := load_rel (P := P) rfl hr.2 hg hi (he.at_ a) h
    refine ⟨z, ?_, hrel⟩
    simp only [Instr.loadAt] at hz
    show (do let q ← asAddr (ts.getD a undef); loadVar t q : Sem Value).run P w = _
    generalize ts.getD a undef = p at hz ⊢
    cases p with
    | pointer q =>
      cases q with
      | some q => simpa [Instr.sureAddr, asAddr] using hz
      | none => simp [Instr.sureAddr] at hz
    | _ => simp [Instr.sureAddr] at hz

theorem results_list {ρ : Nat → Nat} {S : Nat → Prop} {s : St} {w : World} {ts : Array Value} (hi : Inv ρ S s.H w) (he : RelE ρ S s.H w s.E ts) : ∀ (rs : List ResultVar) (vs : List AV),
    (rs.all fun r => match r with | .cell _ t => (aggOf P t).isSome && szOf P t != 0 | _ => true) = true → aresults s (rs.map (cvRes P)) = some vs →
    ∃ zs : List Value, (rs.mapM (resVal ts)).run P w = .ok zs w ∧ ArgsRel ρ S s.H w vs zs.toArray
  | [], vs, _, h => by
    simp only [List.map_nil, aresults] at h; cases h
    exact ⟨[], by simp, rfl, fun i x hx => by simp at hx⟩
  | r :: rs, vs, ha, h => by
    simp only [List.map_cons, aresults] at h
    simp only [List.all_cons, Bool.and_eq_true] at ha
    split at h
    · cases h
    · rename_i v hv
      split at h
      · cases h
      · rename_i vs' hvs
        cases h
        obtain ⟨z, hz, hr⟩ := result_rel hi he ha.1 hv
        obtain ⟨zs, hzs, hl, hrs⟩ := results_list hi he rs vs' ha.2 hvs
        refine ⟨z :: zs, by simp only [List.mapM_cons, Sem.run_bind, hz, Result.andThen_ok, hzs, Sem.run_pure], by simpa using hl, fun i x hx => ?_⟩
        cases i with
        | zero => simp at hx; subst hx; exact ⟨z, rfl, hr⟩
        | succ i =>
          simp at hx
          obtain ⟨y, hy, hry⟩ := hrs i x hx
          exact ⟨y, by simpa using hy, hry⟩

theorem mkRes_rel {ρ : Nat → Nat} {S : Nat → Prop} {H : Heap} {w : World} {vs : List AV} {zs : Array Value} (h : ArgsRel ρ S H w vs zs) : RelA ρ S H w (mkRes vs) (if h : zs.size = 1 then zs[0] else .tuple zs) := by
  unfold mkRes
  split
  · rename_i v
    obtain ⟨a, rfl, hr⟩ := h.one
    exact hr
  · rename_i hne
    have : ¬ zs.size = 1 := by
      rw [← h.1]; intro e
      obtain ⟨v, hv⟩ := List.length_eq_one_iff.1 e
      exact hne v hv
    rw [dif_neg this]
    exact .tup _ zs (fun i => (zs[i]?).getD undef) h.1 (fun i x hx => by obtain ⟨y, hy, _⟩ := h.2 i x hx; rw [hy]; rfl) (fun i x hx => by obtain ⟨y, hy, hr⟩ := h.2 i x hx; rw [hy]; exact hr)

theorem viewRes_rel {N : Nat → Prop} {ρ : Nat → Nat} {S : Nat → Prop} {H : Heap} {w : World} (hi : Inv ρ S H w) {own : Bool} {v rv : AV} {H2 : Heap} (h : viewRes own H v = some (rv, H2)) {z : Value} (hr : RelA ρ S H w v z) :
    ∃ S', Step N ρ S H w ρ S' H2 w ∧ RelA ρ S' H2 w rv z := by
  unfold viewRes at h
  split at h
  · cases h; exact ⟨S, .refl hi, hr⟩
  · obtain ⟨r, hv, h⟩ := Option.map_eq_some_iff.1 h
    cases h
    obtain ⟨S1, st1, hS1, _, _⟩ := step_frzs (N := No) hi (arrsT v)
    refine ⟨S1, st1.weaken fun _ h => h.elim, ?_⟩
    cases v with
    | tup cs =>
      simp only [vwT] at hv
      obtain ⟨as, has, rfl⟩ := Option.map_eq_some_iff.1 hv
      obtain ⟨g1, g2⟩ := vws_get has
      cases hr with
      | tup _ zs ys h1 h2 h3 =>
        have get : ∀ (i : Nat) (y : AV), as[i]? = some y → zs[i]? = some (ys i) ∧ RelA ρ S1 (applyU H (frz H (arrsT (.tup cs)))) w y (ys i) := by
          intro i y hy
          obtain ⟨x, hx, hv⟩ := g2 i y hy
          exact ⟨h2 i x hx, vw_rel hi (h3 i x hx) hv st1 (fun _ => id) fun l hl => hS1 l (List.mem_flatMap.2 ⟨x, List.mem_of_getElem? hx, hl⟩)⟩
        exact .tup _ zs ys (by rw [g1]; exact h1) (fun i y hy => (get i y hy).1) (fun i y hy => (get i y hy).2)
    | _ => exact vw_rel hi hr hv st1 (fun _ => id) hS1

theorem abody_sound (hC : Good P X.C) {k f : Nat} {fn : AFunc} (hs : Shows P f fn) {args : List AV} {H : Heap} {rv : AV} {Ho : Heap} (h : abody X k f fn args H = some (rv, Ho)) : Meets P f args H rv Ho := by
  obtain ⟨F, c, hF, hbody, hbare, hnt, hres, hcells, hname⟩ := hs
  refine fun ρ S w vs hi ha => .inl ⟨⟨F, hF, by simp [hbody], hname⟩, ?_⟩
  refine calls_of_wp hF hbody ?_
  have he : RelE ρ S H w (args ++ List.replicate (fn.ntmps - args.length) .undef) (vs ++ Array.replicate (F.ntmps - vs.size) undef) := by
    refine ⟨by simp [ha.1, hnt], fun i => ?_⟩
    by_cases hlt : i < args.length
    · obtain ⟨y, hy, hr⟩ := ha.2 i _ (List.getElem?_eq_getElem hlt)
      rw [nth_eq, List.getElem?_append_left hlt, List.getElem?_eq_getElem hlt]
      have hlt' : i < vs.size := ha.1 ▸ hlt
      rw [Array.getD_eq_getD_getElem?, Array.getElem?_append_left hlt', hy]
      exact hr
    · rw [nth_eq, List.getElem?_append_right (by omega)]
      have : (List.replicate (fn.ntmps - args.length) AV.undef)[i - args.length]?.getD .undef = .undef := by
        rw [List.getElem?_replicate]; split <;> rfl
      rw [this]; exact .undef _
  -- the code's end
  have fin : ∀ (s : St) (e : AExit), aexec X k fn.body { E := args ++ List.replicate (fn.ntmps - args.length) .undef, H := H } = some (e, s) → (e = .norm ∨ e = .ret) →
      (match aresults s fn.results with
      | none => none
      | some vs =>
        match viewRes (X.retOwn f) s.H (mkRes vs) with
        | none => none
        | some (rv, H2) =>
          let L := reach H2 RF (List.range H.length ++ refs rv) []
          match pack H2 (fun l => L.idxOf l) 0 L with
          | none => none
          | some Ho => if nodupB L && (L.take H.length == List.range H.length) then some (ren (fun l => L.idxOf l) rv, Ho) else none) = some (rv, Ho) →
      c.wp P (bodyPost P F fun e w' => ∃ v ρ' S', e = .returned v ∧ Step (fun l => H.length ≤ l) ρ S H w ρ' S' Ho w' ∧ RelA ρ' S' Ho w' rv v) { tmps := vs ++ Array.replicate (F.ntmps - vs.size) undef, defers := [] } w := by
    intro s e hex hee h
    split at h
    · cases h
    · rename_i rs hrs
      split at h
      · cases h
      · rename_i rv0 H2 hview
        simp only at h
        generalize hL : reach H2 RF (List.range H.length ++ refs rv0) [] = L at h
        split at h
        · cases h
        · rename_i Ho' hpack
          split at h
          · rename_i hcond
            cases h
            simp only [Bool.and_eq_true, beq_iff_eq] at hcond
            obtain ⟨hnd, htake⟩ := hcond
            have hnd := nodupB_iff hnd
            refine aexec_sound hC c fn.body hbare k _ s e ρ S w _ _ hex hi he fun ρ1 S1 w1 a1 st1 he1 hd1 => ?_
            -- results
            rw [hres] at hrs
            obtain ⟨zs, hzs, hargs⟩ := results_list st1.inv he1 F.results.toList rs hcells hrs
            have hrun : (results F a1.tmps).run P w1 = .ok (if h : zs.toArray.size = 1 then zs.toArray[0] else .tuple zs.toArray) w1 := by
              rw [results_eq, Array.mapM_eq_mapM_toList]
              simp only [Sem.run_bind, map_eq_pure_bind, hzs, Result.andThen_ok, Sem.run_pure]
            obtain ⟨S2, st2, hr2⟩ := viewRes_rel (N := Big) st1.inv hview (mkRes_rel hargs)
            obtain ⟨hip, hcp, hlp⟩ := packed st2.inv hnd hpack
            have st : Step Big ρ S H w ρ1 S2 H2 w1 := (st1.trans st2).weaken fun _ h => h.elim id id
            have hlen : H.length ≤ L.length := by
              have := congrArg List.length htake
              simp at this; omega
            have hsmall : L.length ≤ 64 := by rw [← hL]; have := reach_len H2 RF (List.range H.length ++ refs rv0) []; simpa [RF] using this
            have hstep : Step (fun l => H.length ≤ l) ρ S H w (fun j => ρ1 (L.getD j 0)) S2 Ho w1 := by
              refine ⟨hip, st.sub, st.new, st.frame, st.grow, st.size, fun l hl => ?_, fun l hl => ?_, st.outer⟩
              · obtain ⟨l0, h1, h2⟩ := hlp l hl
                have : L.getD l 0 = l0 := by rw [List.getD, h1]; rfl
                simp only [this]
                exact st.live l0 h2
              · have hlt : l < H.length := Nat.lt_of_not_le hl
                have hget : L[l]? = some l := by
                  have : (L.take H.length)[l]? = some l := by rw [htake, List.getElem?_range hlt]
                  rwa [List.getElem?_take, if_pos hlt] at this
                have := (st.comp l (by unfold Big; omega)).trans (hcp l)
                rwa [idx_of hnd hget] at this
            have hrel := hr2.trans (fun l => L.idxOf l) (S' := S2) (H' := Ho) (w' := w1) (ρ' := fun j => ρ1 (L.getD j 0)) (fun _ h => h) (fun _ _ => rfl) (.refl w1) fun l _ => hcp l
            rcases hee with rfl | rfl
            · exact ⟨hd1, _, hrun, _, _, _, rfl, hstep, hrel⟩
            · exact ⟨hd1, _, hrun, _, _, _, rfl, hstep, hrel⟩
          · cases h
  unfold abody at h
  split at h
  · rename_i s hex; exact fin s .norm hex (.inl rfl) h
  · rename_i s hex; exact fin s .ret hex (.inr rfl) h
  · cases h

/-- The clean machine is right about the program. -/
theorem run_sound {own retOwn : Nat → Bool} {ext : Callee} {code : Nat → Option AFunc} (hext : Good P ext) (hcode : ∀ f fn, code f = some fn → Shows P f fn) : ∀ k, Good P (run own retOwn ext code k)
  | 0, f, args, H, rv, Ho, h => by simp [run] at h
  | k + 1, f, args, H, rv, Ho, h => by
    simp only [run] at h
    split at h
    · rename_i r hr
      cases h
      exact hext _ _ _ _ _ hr
    · split at h
      · cases h
      · rename_i fn hfn
        exact abody_sound (X := { own, retOwn, C := run own retOwn ext code k }) (run_sound hext hcode k) (hcode f fn hfn) h

end
end Bz

/- What is handed in, as data. -/
namespace Bz
open Go

/-- data of a type of the program -/
inductive Typed (P : Program) : TypeId → List D → Prop
  | int {t : TypeId} {k : IntKind} {n : Int} : P.underlying t = some (.int k) → (Lit.int k n).wf = true → Typed P t [.int k n]
  | bool {t : TypeId} {b : Bool} : P.underlying t = some .bool → Typed P t [.bool b]
  | str {t : TypeId} {s : List UInt8} : P.underlying t = some .string → Typed P t [.str s]
  | slice {t e : TypeId} {es : List (List D)} : P.underlying t = some (.slice e) → (∀ c ∈ es, Typed P e c) → Typed P t [.vs false es]
  | struct {t : TypeId} {fs : Array Field} (parts : List (List D)) : P.underlying t = some (.struct fs) → parts.length = fs.size →
      (∀ (i : Nat) (f : Field) (c : List D), fs[i]? = some f → parts[i]? = some c → Typed P f.type c) → Typed P t parts.flatten

mutual
/-- how much there is to it -/
def bulkD : D → Nat
  | .str s => s.length + 1
  | .vs _ es => bulkLL es + 1
  | .ifc _ d => bulkD d + 1
  | .int _ _ => 1
  | .bool _ => 1
  | .nilp => 1
  | .nilm => 1
  | .nilf => 1
  | .nili => 1
def bulkL : List D → Nat
  | [] => 0
  | d :: r => bulkD d + bulkL r
def bulkLL : List (List D) → Nat
  | [] => 0
  | c :: r => bulkL c + bulkLL r
end

theorem bulkL_app : ∀ a b, bulkL (a ++ b) = bulkL a + bulkL b
  | [], b => by simp [bulkL]
  | d :: r, b => by simp only [List.cons_append, bulkL, bulkL_app r b]; omega

structure BulkFn {H : Type} (ub : DataW H → Nat) (uba : List (DataW H) → Nat) : Prop where
  str : ∀ b, ub (.lit (.string b)) = b.length + 1
  lit : ∀ l, 1 ≤ ub (.lit l)
  nil : ub .nil = 1
  slice : ∀ a b, ub (.slice a b) = uba a + uba b + 1
  agg : ∀ a, ub (.agg a) = uba a + 1
  anil : uba [] = 0
  acons : ∀ d r, uba (d :: r) = ub d + uba r

def consec (P : Program) : Nat → List Field → Option Nat
  | o, [] => some o
  | o, f :: r => if f.offset = o then consec P (o + P.cellsOf f.type) r else none

/-- types that hold nothing but data -/
def dataB (P : Program) (ts : List TypeId) : Bool := ts.all fun t => match P.underlying t with
  | some (.int _) | some .bool | some .string => P.cellsOf t == 1
  | some (.slice e) => ts.contains e && P.cellsOf t == 1 && P.cellsOf e != 0
  | some (.struct fs) => fs.toList.all (fun f => ts.contains f.type) && consec P 0 fs.toList == some (P.cellsOf t)
  | _ => false

section
variable {H : Type} {enc : TypeId × Value → H} {P : Program} {w : World} {sp : Nat → Bool}

def Here (w : World) : Nat → Prop := fun b => b < w.heap.size

/-- data that stands for cells -/
structure Stands (P : Program) (w : World) (t : TypeId) (ds : List D) (cs : List Value) : Prop where
  typed : Typed P t ds
  len : ds.length = cs.length
  size : cs.length = P.cellsOf t
  rel : ∀ (k : Nat) (x : D), ds[k]? = some x → ∃ v, cs[k]? = some v ∧ RelD (Here w) w x v

theorem Stands.one {t : TypeId} {d : D} {v : Value} (ht : Typed P t [d]) (hs : P.cellsOf t = 1) (hr : RelD (Here w) w d v) : Stands P w t [d] [v] :=
  ⟨ht, rfl, by simp [hs], fun k x hk => by
    cases k with
    | zero => simp at hk; subst hk; exact ⟨v, rfl, hr⟩
    | succ k => simp at hk⟩

theorem cells_get {base : Nat} {a : Addr} {n : Nat} {cs : List Value} (h : w.cells? base a n = some cs) : cs.length = n ∧ ∀ k v, cs[k]? = some v → w.cell? (a.add k) = some v := by
  obtain ⟨_, h1, h2⟩ := World.cells?_some h
  refine ⟨h1, fun k v hk => ?_⟩
  rw [h2 k (by rw [← h1]; exact (List.getElem?_eq_some_iff.1 hk).1)]; exact hk

theorem trod_typed {ts : List TypeId} (hts : dataB P ts = true) {ub : DataW H → Nat} {uba : List (DataW H) → Nat} (hb : BulkFn ub uba) : ∀ (fuel : Nat) (t : TypeId) (cs : List Value) (d : DataW H) (ps : List MemPlace), t ∈ ts →
    DataW.trod enc P w 0 sp true fuel t cs = some (d, ps) → ∃ ds, Stands P w t ds cs ∧ bulkL ds ≤ ub d
  | 0, t, cs, d, ps, _, h => by simp [DataW.trod] at h
  | fuel + 1, t, cs, d, ps, ht, h => by
    have hin := List.all_eq_true.1 hts t ht
    cases hu : P.underlying t with
    | none => rw [hu] at hin; cases hin
    | some desc =>
    rw [hu] at hin
    cases desc <;> try (cases hin; done)
    case bool =>
      simp only [DataW.trod, hu] at h
      split at h <;> try (rename_i heq; cases heq; done)
      · cases h
        exact ⟨[.bool _], .one (.bool hu) (by simpa using hin) (.bool _), by simp [bulkL, bulkD, hb.lit]⟩
      · cases h
    case int k =>
      simp only [DataW.trod, hu] at h
      split at h <;> try (rename_i heq; cases heq; done)
      · rename_i heq
        cases heq
        split at h
        · rename_i hc
          cases h
          obtain ⟨rfl, hwf⟩ := hc
          exact ⟨[.int _ _], .one (.int hu hwf) (by simpa using hin) (.int _ _), by simp [bulkL, bulkD, hb.lit]⟩
        · cases h
      · cases h
    case string =>
      simp only [DataW.trod, hu] at h
      split at h <;> try (rename_i heq; cases heq; done)
      · rename_i s _
        split at h
        · 
          cases h
          refine ⟨[.str s.data.toList], .one (.str hu) (by simpa using hin) ?_, by simp [bulkL, bulkD, hb.str]⟩
          have := RelD.str (S := Here w) (w := w) s.data.toList
          simpa using this
        · cases h
      · cases h
    case slice e =>
      simp only [Bool.and_eq_true, beq_iff_eq] at hin
      simp only [DataW.trod, hu] at h
      split at h <;> try (rename_i heq; cases heq; done)
      · cases h
        exact ⟨[.vs false []], .one (.slice hu (by simp)) hin.1.2 (.vnil _ _), by simp [bulkL, bulkD, bulkLL, hb.nil]⟩
      rename_i e a len cap heq
      cases heq
      split at h
      · rename_i hc
        obtain ⟨elems, hel, h⟩ := Option.bind_eq_some_iff.1 h
        obtain ⟨rest, _, h⟩ := Option.map_eq_some_iff.1 h
        cases h
        have he : e ∈ ts := by simpa using hin.1.1
        have key : ∀ (l : List Nat) (xs : List (DataW H × List MemPlace)), l.mapM (fun i => (w.cells? 0 (a.add (i * P.cellsOf e)) (P.cellsOf e)).bind (DataW.trod enc P w 0 sp true fuel e)) = some xs →
            ∃ es : List (List D), es.length = l.length ∧ (∀ (k i : Nat) (c : List D), l[k]? = some i → es[k]? = some c → Typed P e c ∧ c.length = P.cellsOf e ∧ (∀ j x, c[j]? = some x → ∃ v, w.cell? (a.add (i * P.cellsOf e + j)) = some v ∧ RelD (Here w) w x v)) ∧ bulkLL es ≤ uba (xs.map (·.1)) := by
          intro l
          induction l with
          | nil => intro xs h; simp at h; subst h; exact ⟨[], rfl, by simp, by simp [bulkLL]⟩
          | cons i r ih =>
            intro xs h
            simp only [List.mapM_cons, Option.bind_eq_bind, Option.pure_def] at h
            obtain ⟨x, hx, h⟩ := Option.bind_eq_some_iff.1 h
            obtain ⟨xs', hxs, h⟩ := Option.bind_eq_some_iff.1 h
            cases h
            obtain ⟨cs', hcs, hx⟩ := Option.bind_eq_some_iff.1 hx
            obtain ⟨c, hst, hbu⟩ := trod_typed hts hb fuel e cs' x.1 x.2 he hx
            obtain ⟨es, h1, h2, h3⟩ := ih xs' hxs
            obtain ⟨c1, c2⟩ := cells_get hcs
            refine ⟨c :: es, by simp [h1], fun k i' c' hk hc' => ?_, by simp only [bulkLL, List.map_cons, hb.acons]; omega⟩
            cases k with
            | zero =>
              simp at hk hc'; subst hk hc'
              refine ⟨hst.typed, hst.len.trans c1, fun j x hj => ?_⟩
              obtain ⟨v, hv, hr⟩ := hst.rel j x hj
              exact ⟨v, by rw [← add_add]; exact c2 j v hv, hr⟩
            | succ k => simp at hk hc'; exact h2 k i' c' hk hc'
        obtain ⟨es, h1, h2, h3⟩ := key _ _ hel
        have hlen : es.length = len := by simpa using h1
        have at_ : ∀ (i : Nat) (c : List D), es[i]? = some c → Typed P e c ∧ c.length = P.cellsOf e ∧ (∀ j x, c[j]? = some x → ∃ v, w.cell? (a.add (i * P.cellsOf e + j)) = some v ∧ RelD (Here w) w x v) := by
          intro i c hi
          refine h2 i i c ?_ hi
          have : i < len := hlen ▸ (List.getElem?_eq_some_iff.1 hi).1
          rw [List.getElem?_range this]
        refine ⟨[.vs false es], .one (.slice hu fun c hc => ?_) hin.1.2 ?_, ?_⟩
        · obtain ⟨i, hi⟩ := List.getElem?_of_mem hc; exact (at_ i c hi).1
        · have hsz' : P.cellsOf e ≠ 0 := by simpa using hin.2
          · have hnone := hsz'
            subst hlen
            refine .vs a (P.cellsOf e) cap es (fun i j => (w.cell? (a.add (i * P.cellsOf e + j))).getD undef) hc.2.1 (fun c hc => ?_) (fun hne => ?_) (fun i j c hi hj => ?_) (fun i j c x hi hj => ?_)
            · obtain ⟨i, hi⟩ := List.getElem?_of_mem hc; exact (at_ i c hi).2.1
            · have h0 : 0 < es.length := List.length_pos_iff.2 hne
              obtain ⟨_, g2, g3⟩ := at_ 0 es[0] (List.getElem?_eq_getElem h0)
              have hp : 0 < es[0].length := by omega
              obtain ⟨v, hv, _⟩ := g3 0 es[0][0] (List.getElem?_eq_getElem hp)
              have := add_block a (0 * P.cellsOf e + 0)
              unfold World.cell? at hv
              rw [this] at hv
              unfold Here
              rcases Nat.lt_or_ge a.block w.heap.size with h | h
              · exact h
              · rw [Array.getElem?_eq_none h] at hv; simp at hv
            · obtain ⟨_, g2, g3⟩ := at_ i c hi
              obtain ⟨v, hv, _⟩ := g3 j c[j] (List.getElem?_eq_getElem (g2 ▸ hj))
              simp only [hv]; rfl
            · obtain ⟨_, g2, g3⟩ := at_ i c hi
              obtain ⟨v, hv, hr⟩ := g3 j x hj
              simp only [hv]; exact hr
        · simp only [bulkL, bulkD, hb.slice]; omega
      · cases h
      · cases h
    case struct fs =>
      simp only [DataW.trod, hu] at h
      simp only [Bool.and_eq_true, List.all_eq_true] at hin
      split at h
      · rename_i hlen
        obtain ⟨xs, hxs, h⟩ := Option.map_eq_some_iff.1 h
        cases h
        have key : ∀ (fl : List Field) (o n : Nat) (xs : List (DataW H × List MemPlace)), consec P o fl = some n → n ≤ cs.length → (∀ f ∈ fl, f.type ∈ ts) →
            fl.mapM (fun f => DataW.trod enc P w 0 sp true fuel f.type ((cs.drop f.offset).take (P.cellsOf f.type))) = some xs →
            ∃ parts : List (List D), parts.length = fl.length ∧ (∀ (i : Nat) (f : Field) (c : List D), fl[i]? = some f → parts[i]? = some c → Typed P f.type c) ∧ o + parts.flatten.length = n ∧
              (∀ k x, parts.flatten[k]? = some x → ∃ v, cs[o + k]? = some v ∧ RelD (Here w) w x v) ∧ bulkL parts.flatten ≤ uba (xs.map (·.1)) := by
          intro fl
          induction fl with
          | nil =>
            intro o n xs hc _ _ h
            simp [consec] at hc h; subst hc h
            exact ⟨[], rfl, by simp, by simp, by simp, by simp [bulkL]⟩
          | cons f r ih =>
            intro o n xs hc hn hf h
            simp only [consec] at hc
            split at hc
            · rename_i ho
              simp only [List.mapM_cons, Option.bind_eq_bind, Option.pure_def] at h
              obtain ⟨x, hx, h⟩ := Option.bind_eq_some_iff.1 h
              obtain ⟨xs', hxs, h⟩ := Option.bind_eq_some_iff.1 h
              cases h
              obtain ⟨c, hst, hbu⟩ := trod_typed hts hb fuel f.type _ x.1 x.2 (hf f (by simp)) hx
              obtain ⟨parts, h1, h2, h3, h4, h5⟩ := ih _ n xs' hc hn (fun g hg => hf g (by simp [hg])) hxs
              have hcl : c.length = P.cellsOf f.type := hst.len.trans hst.size
              refine ⟨c :: parts, by simp [h1], fun i f' c' hi hc' => ?_, by rw [List.flatten_cons, List.length_append, hcl]; omega, fun k y hk => ?_, ?_⟩
              · cases i with
                | zero => simp at hi hc'; subst hi hc'; exact hst.typed
                | succ i => simp at hi hc'; exact h2 i f' c' hi hc'
              · rw [List.flatten_cons] at hk
                by_cases hlt : k < c.length
                · rw [List.getElem?_append_left hlt] at hk
                  obtain ⟨v, hv, hr⟩ := hst.rel k y hk
                  refine ⟨v, ?_, hr⟩
                  rw [List.getElem?_take, if_pos (by omega), List.getElem?_drop, ho] at hv
                  exact hv
                · rw [List.getElem?_append_right (by omega)] at hk
                  obtain ⟨v, hv, hr⟩ := h4 _ y hk
                  refine ⟨v, ?_, hr⟩
                  rw [show o + k = o + P.cellsOf f.type + (k - c.length) by omega]
                  exact hv
              · rw [List.flatten_cons, bulkL_app, List.map_cons, hb.acons]; omega
            · cases hc
        have hcon : consec P 0 fs.toList = some (P.cellsOf t) := by simpa using hin.2
        obtain ⟨parts, h1, h2, h3, h4, h5⟩ := key fs.toList 0 _ xs hcon (by omega) (fun f hf => by simpa using hin.1 f hf) hxs
        refine ⟨parts.flatten, ⟨.struct parts hu (by simpa using h1) (fun i f c hi hc => h2 i f c (by simpa using hi) hc), by omega, hlen, fun k x hk => by simpa using h4 k x hk⟩, by rw [hb.agg]; omega⟩
      · cases h
end
end Bz

/- From a function's meaning to what is said of a call of it. -/
namespace Bz
open Go Go.RowKit

/-- an argument, as the clean machine has it -/
def argAV (P : Program) (t : TypeId) (ds : List D) : AV :=
  match P.underlying t with
  | some (.struct _) => .agg (ds.map .d)
  | _ => match ds with
    | [x] => .d x
    | _ => .undef

section
variable {H : Type} {enc : TypeId × Value → H} {P : Program}

theorem trodAll_back (hl : laidOutB P = true) {W W' : World} (hb : Below W.heap.size W W') : ∀ (ts : List TypeId) (vs : List Value) (ds : List (DataW H)) (ps : List MemPlace),
    (ts.all fun t => P.readableRec t && decide (t < P.types.size)) = true → DataW.TrodAll enc P W 0 (fun _ => true) true ts vs ds ps → DataW.TrodAll enc P W' 0 (fun b => decide (b < W.heap.size)) true ts vs ds ps
  | [], [], [], _, _, h => h
  | t :: ts, v :: vs, d :: ds, ps, hr, h => by
    obtain ⟨p, q, h1, h2, h3⟩ := h
    simp only [List.all_cons, Bool.and_eq_true, decide_eq_true_eq] at hr
    have hlt : ∀ x ∈ p, x.block < W.heap.size := by
      obtain ⟨n, hn⟩ := h1
      exact DataW.trod_lt n t _ _ hn
    exact ⟨p, q, Below.trod hl hr.1.1 hr.1.2 h1 hb hlt, trodAll_back hl hb ts vs ds q hr.2 h2, h3⟩
  | [], _ :: _, _, _, _, h => h.elim
  | [], [], _ :: _, _, _, h => h.elim
  | _ :: _, [], _, _, _, h => h.elim
  | _ :: _, _ :: _, [], _, _, h => h.elim

theorem arg_rel {t : TypeId} {ds : List D} {v : Value} {W : World} {base : Nat} {r : Reach} (hd : ∀ n e, P.underlying t ≠ some (.array n e)) (hv : Value.okWide P W r base t v) (h : Stands P W t ds v.cells.toList) :
    RelA (fun _ => 0) (Here W) [] W (argAV P t ds) v := by
  unfold argAV
  split
  · rename_i fs hu
    obtain ⟨cs, rfl, _⟩ := WideShapes.okWide_struct hu hv
    have hlen : ds.length = cs.size := by simpa [Value.cells] using h.len
    refine .agg _ cs (fun i => (cs[i]?).getD undef) (by simpa using hlen) (fun i x hx => ?_) (fun i x hx => ?_)
    · obtain ⟨y, hy, rfl⟩ := relA_map_d hx
      obtain ⟨z, hz, _⟩ := h.rel i y hy
      have : cs[i]? = some z := by simpa [Value.cells] using hz
      rw [this]; rfl
    · obtain ⟨y, hy, rfl⟩ := relA_map_d hx
      obtain ⟨z, hz, hr⟩ := h.rel i y hy
      have : cs[i]? = some z := by simpa [Value.cells] using hz
      rw [this]; exact .d _ _ hr
  · rename_i hu
    split
    · rename_i x
      have hf : v.cells = #[v] := by
        cases v with
        | agg cs =>
          unfold Value.okWide at hv
          split at hv
          · rename_i hs; exact absurd hs (hu _)
          · rename_i ha; exact absurd ha (hd _ _)
          · unfold Cell.okWide at hv
            split at hv <;> first | (rename_i e; cases e; done) | skip
            all_goals simp [Cell.ok] at hv
        | _ => rfl
      obtain ⟨z, hz, hr⟩ := h.rel 0 x rfl
      rw [hf] at hz
      simp at hz; subst hz
      exact .d _ _ hr
    · exact .undef _

theorem args_typed {ts : List TypeId} (hts : dataB P ts = true) {ub : DataW H → Nat} {uba : List (DataW H) → Nat} (hb : BulkFn ub uba) {W : World} : ∀ (ps : List TypeId) (vs : List Value) (ds : List (DataW H)) (q : List MemPlace),
    (∀ t ∈ ps, t ∈ ts) → DataW.TrodAll enc P W 0 (fun _ => true) true ps vs ds q → vs.length = ps.length ∧
    ∃ xs : List (List D), xs.length = ps.length ∧ (∀ (i : Nat) (t : TypeId) (x : List D) (v : Value), ps[i]? = some t → xs[i]? = some x → vs[i]? = some v → Stands P W t x v.cells.toList) ∧ (xs.map bulkL).sum ≤ uba ds
  | [], [], [], _, _, _ => ⟨rfl, [], rfl, by simp, by simp⟩
  | t :: ps, v :: vs, d :: ds, q, hin, h => by
    obtain ⟨p, q', h1, h2, h3⟩ := h
    obtain ⟨fuel, h1⟩ := h1
    obtain ⟨x, hst, hbu⟩ := trod_typed hts hb fuel t _ d p (hin t (by simp)) h1
    obtain ⟨hl, xs, g1, g2, g3⟩ := args_typed hts hb ps vs ds q' (fun u hu => hin u (by simp [hu])) h2
    refine ⟨by simp [hl], x :: xs, by simp [g1], fun i t' x' v' hi hx hv => ?_, by simp only [List.map_cons, List.sum_cons, hb.acons]; omega⟩
    cases i with
    | zero => simp at hi hx hv; subst hi hx hv; exact hst
    | succ i => simp at hi hx hv; exact g2 i t' x' v' hi hx hv
  | [], _ :: _, _, _, _, h => h.elim
  | [], [], _ :: _, _, _, h => h.elim
  | _ :: _, [], _, _, _, h => h.elim
  | _ :: _, _ :: _, [], _, _, h => h.elim

theorem inv_start (W : World) : Inv (fun _ => 0) (Here W) [] W :=
  ⟨fun l o h => by simp [hget] at h, fun l l' ⟨o, h, _⟩ => by simp [hget] at h, fun l ⟨o, h, _⟩ => by simp [hget] at h, fun b hb => hb⟩

/-- a law that answers true in the clean machine does so in the program, and turns nothing that was there -/
theorem row_calls {ts : List TypeId} (hts : dataB P ts = true) {ub : DataW H → Nat} {uba : List (DataW H) → Nat} (hb : BulkFn ub uba) {f : FuncId} (hcoded : Coded P f) {ps : List TypeId} (hin : (ps.all (ts.contains ·)) = true)
    (law : ∀ xs : List (List D), xs.length = ps.length → (∀ (i : Nat) (t : TypeId) (x : List D), ps[i]? = some t → xs[i]? = some x → Typed P t x) → (xs.map bulkL).sum ≤ 1048576 → ∃ Ho, Meets P f (List.zipWith (argAV P) ps xs) [] (.d (.bool true)) Ho)
    {W : World} {base : Nat} {args : Array Value} {ds : List (DataW H)} {q : List MemPlace} (hA : DataW.TrodAll enc P W 0 (fun _ => true) true ps args.toList ds q)
    (hval : ∀ (j : Nat) t v, ps[j]? = some t → args[j]? = some v → Value.okWide P W .any base t v) (hbulk : uba ds ≤ 1048576) :
    Calls P f args W fun e W' => e = .returned (.bool true) ∧ Below W.heap.size W W' := by
  have hin' : ∀ t ∈ ps, t ∈ ts := fun t ht => by simpa using List.all_eq_true.1 hin t ht
  obtain ⟨hl, xs, g1, g2, g3⟩ := args_typed hts hb ps args.toList ds q hin' hA
  have hst : ∀ (i : Nat) (t : TypeId) (x : List D), ps[i]? = some t → xs[i]? = some x → ∃ v, args[i]? = some v ∧ Stands P W t x v.cells.toList := by
    intro i t x hi hx
    have hlt : i < args.toList.length := by rw [hl]; exact (List.getElem?_eq_some_iff.1 hi).1
    have hlt' : i < args.size := by simpa using hlt
    refine ⟨args[i], Array.getElem?_eq_getElem hlt', g2 i t x _ hi hx ?_⟩
    rw [List.getElem?_eq_getElem hlt]; simp
  obtain ⟨Ho, hm⟩ := law xs g1 (fun i t x hi hx => by obtain ⟨v, _, h⟩ := hst i t x hi hx; exact h.typed) (by omega)
  refine ((hm (fun _ => 0) (Here W) W args (inv_start W) ⟨?_, fun i x hx => ?_⟩).calls hcoded).mono fun e W' ⟨v, ρ', S', he, st, hr⟩ => ?_
  · rw [List.length_zipWith, g1]; simpa using hl.symm
  · rw [List.getElem?_zipWith] at hx
    cases hp : ps[i]? with
    | none => rw [hp] at hx; cases hx
    | some t =>
      cases hxi : xs[i]? with
      | none => rw [hp, hxi] at hx; cases hx
      | some d =>
        rw [hp, hxi] at hx; cases hx
        obtain ⟨v, hv, h⟩ := hst i t d hp hxi
        refine ⟨v, hv, arg_rel (fun n e he => ?_) (hval i t v hp hv) h⟩
        have := List.all_eq_true.1 hts t (hin' t (List.mem_of_getElem? hp))
        rw [he] at this; cases this
  · have hv := relA_bool hr
    subst hv
    refine ⟨he, st.outer.1, st.outer.2.2.1, st.outer.2.1, st.size, fun k hk => st.frame k hk fun l ⟨o, h, _⟩ => by simp [hget] at h⟩
end
end Bz
