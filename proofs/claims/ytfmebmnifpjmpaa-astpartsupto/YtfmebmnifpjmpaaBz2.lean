/- The clean machine, part 3: values without memory, an interpreter of translated code over them, and that it is right about the program; no program in sight. No condition. -/
import Derived.Test.YtfmebmnifpjmpaaBz1
import Derived.Laws.StandIn
import Derived.ChangeSame
import Derived.OpenShut
import Derived.RowKit
set_option linter.unusedSimpArgs false
set_option linter.unusedVariables false
/- Loops over a list, and what else walks want. -/
namespace Bz
open Go

/-- rounds over a list, till one leaves -/
def foldS {α σ ρ : Type} (f : Nat → σ → α → σ ⊕ ρ) : List α → Nat → σ → σ ⊕ ρ
  | [], _, a => .inl a
  | x :: r, i, a => match f i a x with
    | .inl a' => foldS f r (i + 1) a'
    | .inr b => .inr b

@[simp] theorem foldS_nil {α σ ρ : Type} (f : Nat → σ → α → σ ⊕ ρ) (i : Nat) (a : σ) : foldS f [] i a = .inl a := rfl
theorem foldS_cons {α σ ρ : Type} (f : Nat → σ → α → σ ⊕ ρ) (x : α) (r : List α) (i : Nat) (a : σ) : foldS f (x :: r) i a = match f i a x with
    | .inl a' => foldS f r (i + 1) a'
    | .inr b => .inr b := rfl

/-- what leaves a loop -/
def outS {σ ρ : Type} (N : σ → AExit × St) (E : ρ → AExit × St) : σ ⊕ ρ → AExit × St
  | .inl a => N a
  | .inr b => E b
@[simp] theorem outS_inl {σ ρ : Type} (N : σ → AExit × St) (E : ρ → AExit × St) (a : σ) : outS N E (.inl a) = N a := rfl
@[simp] theorem outS_inr {σ ρ : Type} (N : σ → AExit × St) (E : ρ → AExit × St) (b : ρ) : outS N E (.inr b) = E b := rfl

/-- one round -/
def Round {σ ρ : Type} (X : Ctx) (mask : Mask) (body : ACode) (s : St) (S' : σ → St) (I' : σ → Prop) (E : ρ → AExit × St) : σ ⊕ ρ → Prop
  | .inl a' => I' a' ∧ (exL X body s).map (fun p => (p.1, trim mask p.2)) = some (.norm, S' a')
  | .inr b => exL X body s = some (E b)
@[simp] theorem Round_inl {σ ρ : Type} (X : Ctx) (mask : Mask) (body : ACode) (s : St) (S' : σ → St) (I' : σ → Prop) (E : ρ → AExit × St) (a' : σ) :
    Round X mask body s S' I' E (.inl a') = (I' a' ∧ (exL X body s).map (fun p => (p.1, trim mask p.2)) = some (.norm, S' a')) := rfl
@[simp] theorem Round_inr {σ ρ : Type} (X : Ctx) (mask : Mask) (body : ACode) (s : St) (S' : σ → St) (I' : σ → Prop) (E : ρ → AExit × St) (b : ρ) :
    Round X mask body s S' I' E (.inr b) = (exL X body s = some (E b)) := rfl

theorem loop_list {α σ ρ : Type} {X : Ctx} {mask : Mask} {body : ACode} (l : List α) (S : Nat → σ → St) (I : Nat → σ → Prop) (f : Nat → σ → α → σ ⊕ ρ) (N : σ → AExit × St) (E : ρ → AExit × St)
    (hN : ∀ a, (N a).1 ≠ .norm) (hE : ∀ b, (E b).1 ≠ .norm)
    (step : ∀ (i : Nat) (a : σ) (x : α) (hi : i < l.length), l[i] = x → I i a → Round X mask body (S i a) (S (i + 1)) (I (i + 1)) E (f i a x))
    (fin : ∀ a, I l.length a → exL X body (S l.length a) = some (N a)) (a0 : σ) (h0 : I 0 a0) (s : St) (hs : trim mask s = S 0 a0) :
    exL X (.loop mask body) s = some (outS N E (foldS f l 0 a0)) := by
  have key : ∀ (r : List α) (i : Nat) (a : σ) (s : St), l.drop i = r → i + r.length = l.length → I i a → trim mask s = S i a → exL X (.loop mask body) s = some (outS N E (foldS f r i a)) := by
    intro r
    induction r with
    | nil =>
      intro i a s hd hi hI hs
      have : i = l.length := by simpa using hi
      subst this
      have hf := fin a hI
      rw [← hs] at hf
      simp only [foldS, outS]
      have hn := hN a
      cases hNa : N a with
      | mk e s1 =>
        rw [hNa] at hf hn
        exact loop_end hf hn
    | cons x r ih =>
      intro i a s hd hi hI hs
      have hlt : i < l.length := by simp at hi; omega
      have hx : l[i] = x := by
        have : l[i]? = some x := by rw [← List.head?_drop, hd]; rfl
        rw [List.getElem?_eq_getElem hlt] at this; exact Option.some.inj this
      have hd' : l.drop (i + 1) = r := by rw [← List.tail_drop, hd]; rfl
      have st := step i a x hlt hx hI
      rw [foldS_cons]
      cases hf : f i a x with
      | inl a' =>
        rw [hf] at st
        simp only [Round_inl] at st
        refine loop_next (t := S (i + 1) a') (by rw [hs]; exact st.2) fun s' hs' => ?_
        exact ih (i + 1) a' s' hd' (by simp at hi; omega) st.1 hs'
      | inr b =>
        rw [hf] at st
        simp only [Round_inr] at st
        rw [← hs] at st
        have hn := hE b
        simp only [outS]
        cases hEb : E b with
        | mk e s1 =>
          rw [hEb] at st hn
          exact loop_end st hn
  exact key l 0 a0 s (by simp) (by simp) h0 hs

/-- rounds over a list, all of them -/
def foldI {α σ : Type} (g : Nat → σ → α → σ) : List α → Nat → σ → σ
  | [], _, a => a
  | x :: r, i, a => foldI g r (i + 1) (g i a x)
@[simp] theorem foldI_nil {α σ : Type} (g : Nat → σ → α → σ) (i : Nat) (a : σ) : foldI g [] i a = a := rfl
theorem foldI_cons {α σ : Type} (g : Nat → σ → α → σ) (x : α) (r : List α) (i : Nat) (a : σ) : foldI g (x :: r) i a = foldI g r (i + 1) (g i a x) := rfl

theorem loop_fold {α σ : Type} {X : Ctx} {mask : Mask} {body : ACode} (l : List α) (S : Nat → σ → St) (I : Nat → σ → Prop) (g : Nat → σ → α → σ) (N : σ → AExit × St) (hN : ∀ a, (N a).1 ≠ .norm)
    (step : ∀ (i : Nat) (a : σ) (x : α) (hi : i < l.length), l[i] = x → I i a → I (i + 1) (g i a x) ∧ (exL X body (S i a)).map (fun p => (p.1, trim mask p.2)) = some (.norm, S (i + 1) (g i a x)))
    (fin : ∀ a, I l.length a → exL X body (S l.length a) = some (N a)) (a0 : σ) (h0 : I 0 a0) (s : St) (hs : trim mask s = S 0 a0) :
    exL X (.loop mask body) s = some (N (foldI g l 0 a0)) := by
  have h := loop_list (ρ := Empty) (X := X) (mask := mask) (body := body) l S I (fun i a x => .inl (g i a x)) N (fun b => b.elim) hN (fun b => b.elim) (fun i a x hi hx hI => step i a x hi hx hI) fin a0 h0 s hs
  have key : ∀ (r : List α) (i : Nat) (a : σ), foldS (ρ := Empty) (fun i a x => .inl (g i a x)) r i a = .inl (foldI g r i a) := by
    intro r
    induction r with
    | nil => intro i a; rfl
    | cons x r ih => intro i a; rw [foldS_cons, foldI_cons]; exact ih (i + 1) _
  rw [key] at h
  exact h

/-- the first that is so -/
def findI {α : Type} (p : Nat → α → Bool) : List α → Nat → Option (Nat × α)
  | [], _ => none
  | x :: r, i => if p i x = true then some (i, x) else findI p r (i + 1)

def outF {α : Type} (N : AExit × St) (E : Nat → α → AExit × St) : Option (Nat × α) → AExit × St
  | none => N
  | some p => E p.1 p.2
@[simp] theorem outF_none {α : Type} (N : AExit × St) (E : Nat → α → AExit × St) : outF N E none = N := rfl
@[simp] theorem outF_some {α : Type} (N : AExit × St) (E : Nat → α → AExit × St) (p : Nat × α) : outF N E (some p) = E p.1 p.2 := rfl

/-- a loop that looks for something -/
theorem loop_find {α : Type} {X : Ctx} {mask : Mask} {body : ACode} (l : List α) (S : Nat → St) (p : Nat → α → Bool) (N : AExit × St) (E : Nat → α → AExit × St) (hN : N.1 ≠ .norm) (hE : ∀ i x, (E i x).1 ≠ .norm)
    (step : ∀ (i : Nat) (x : α) (hi : i < l.length), l[i] = x → p i x = false → (exL X body (S i)).map (fun p => (p.1, trim mask p.2)) = some (.norm, S (i + 1)))
    (found : ∀ (i : Nat) (x : α) (hi : i < l.length), l[i] = x → p i x = true → exL X body (S i) = some (E i x))
    (fin : exL X body (S l.length) = some N) (s : St) (hs : trim mask s = S 0) :
    exL X (.loop mask body) s = some (outF N E (findI p l 0)) := by
  have h := loop_list (σ := Unit) (ρ := Nat × α) (X := X) (mask := mask) (body := body) l (fun i _ => S i) (fun _ _ => True) (fun i _ x => if p i x = true then .inr (i, x) else .inl ()) (fun _ => N) (fun q => E q.1 q.2) (fun _ => hN) (fun q => hE q.1 q.2)
    (fun i a x hi hx _ => by
      cases hp : p i x with
      | true => simp only [if_true, Round_inr]; exact found i x hi hx hp
      | false => simp only [Bool.false_eq_true, if_false, Round_inl]; exact ⟨trivial, step i x hi hx hp⟩) (fun _ _ => fin) () trivial s hs
  rw [h]
  have key : ∀ (r : List α) (i : Nat), foldS (fun i (_ : Unit) x => if p i x = true then Sum.inr (i, x) else .inl ()) r i () = match findI p r i with | none => .inl () | some q => .inr q := by
    intro r
    induction r with
    | nil => intro i; rfl
    | cons x r ih =>
      intro i
      rw [foldS_cons]
      simp only [findI]
      cases hp : p i x with
      | true => simp
      | false => simp only [Bool.false_eq_true, if_false]; exact ih (i + 1)
  rw [key]
  cases findI p l 0 <;> rfl

theorem findI_any {α : Type} (p : α → Bool) : ∀ (l : List α) (i : Nat), (findI (fun _ => p) l i).isSome = l.any p
  | [], _ => rfl
  | x :: r, i => by
    simp only [findI, List.any_cons]
    by_cases hp : p x = true
    · rw [if_pos hp, hp]; rfl
    · rw [if_neg hp, findI_any p r (i + 1), Bool.eq_false_iff.2 hp, Bool.false_or]

theorem findI_none {α : Type} (p : Nat → α → Bool) : ∀ (l : List α) (i : Nat), findI p l i = none ↔ ∀ (k : Nat) (x : α), l[k]? = some x → p (i + k) x = false
  | [], i => by simp [findI]
  | x :: r, i => by
    simp only [findI]
    constructor
    · intro h k y hk
      cases hp : p i x with
      | true => rw [hp] at h; simp at h
      | false =>
        rw [hp] at h
        simp only [Bool.false_eq_true, if_false] at h
        cases k with
        | zero => simp at hk; subst hk; exact hp
        | succ k =>
          have := (findI_none p r (i + 1)).1 h k y (by simpa using hk)
          rwa [show i + 1 + k = i + (k + 1) by omega] at this
    · intro h
      have h0 := h 0 x rfl
      rw [Nat.add_zero] at h0
      rw [h0]
      simp only [Bool.false_eq_true, if_false]
      refine (findI_none p r (i + 1)).2 fun k y hk => ?_
      have := h (k + 1) y (by simpa using hk)
      rwa [show i + (k + 1) = i + 1 + k by omega] at this

theorem findI_some {α : Type} (p : Nat → α → Bool) : ∀ (l : List α) (i : Nat) (q : Nat × α), findI p l i = some q → ∃ k, q.1 = i + k ∧ l[k]? = some q.2 ∧ p q.1 q.2 = true ∧ ∀ (j : Nat) (x : α), j < k → l[j]? = some x → p (i + j) x = false
  | [], i, q, h => by simp [findI] at h
  | x :: r, i, q, h => by
    simp only [findI] at h
    cases hp : p i x with
    | true =>
      rw [hp] at h
      simp only [if_true, Option.some.injEq] at h
      subst h
      exact ⟨0, rfl, rfl, hp, by omega⟩
    | false =>
      rw [hp] at h
      simp only [Bool.false_eq_true, if_false] at h
      obtain ⟨k, h1, h2, h3, h4⟩ := findI_some p r (i + 1) q h
      refine ⟨k + 1, by omega, by simpa using h2, h3, fun j y hj hy => ?_⟩
      cases j with
      | zero => simp at hy; subst hy; exact hp
      | succ j =>
        have := h4 j y (by omega) (by simpa using hy)
        rwa [show i + 1 + j = i + (j + 1) by omega] at this

theorem wrap_ok {a : Int} (h1 : -9223372036854775808 ≤ a) (h2 : a < 9223372036854775808) : IntKind.i64.wrap a = a := by
  simp [IntKind.wrap, IntKind.signed, IntKind.bits]
  omega

theorem map_ite {α β : Type} (c : Prop) [Decidable c] (f : α → β) (a b : List α) : (if c then a else b).map f = if c then a.map f else b.map f := by split <;> rfl
theorem mk_eq {n : Nat} {l l' : List (Nat × AV)} (h : l = l') : mkE n l = mkE n l' := by rw [h]

end Bz

/- A byte's place in a text: what stands for bytealg.IndexByteString. -/
namespace Bz
open Go

def extByte (f : Nat) : Callee := fun g args H => if g = f then match args, H with
    | [.d (.str s), .d (.int .u8 c)], [] => some (.d (.int .i64 (firstIdx ⟨s.toArray⟩ c.toNat.toUInt8)), [])
    | _, _ => none
  else none

theorem extByte_good {P : Program} {f : FuncId} {fn : Func} (hf : P.funcs[f]? = some fn) (hname : (fn.name == "runtime.NumGoroutine") = false)
    (hb : fn.body.isNone = true) (hn : Extern.findNext fn = none) (he : Extern.find fn = some Extern.BytealgIndexByte.indexByte) : Good P (extByte f) := by
  intro g args H rv Ho h
  unfold extByte at h
  split at h
  · rename_i hg
    subst hg
    split at h
    · rename_i s c
      cases h
      intro ρ S w vs hi ha
      obtain ⟨a, b, rfl, h1, h2⟩ := ha.two
      cases relA_str h1
      cases relA_int h2
      refine .inr ⟨.int .i64 (firstIdx ⟨s.toArray⟩ c.toNat.toUInt8), w, ?_, _, ρ, S, rfl, .refl hi, rel_int _ _⟩
      rw [run_callFunc_indexByte hf hname hb hn he, run_indexByte_string]; rfl
    · cases h
  · cases h

end Bz

/- What a row asks behind the call, where nothing that was there has turned. -/
namespace Bz
open Go Go.RowKit Go.ChangeShapes

section
variable {H : Type} {enc : TypeId × Value → H} {P : Program}

theorem post_law {f : Func} {s : ChangeSpec} {W W' : World} {args : Array Value} {ds gs : List (DataW H)} {before : List MemPlace}
    (hW : DataW.Whole enc P f.params.toList s.vars false W args.toList ds gs before) (hv : s.vars = [])
    (hfn : (s.fn H ds).results = [.lit (.bool true)] ∧ (s.fn H ds).args = ds ∧ (s.fn H ds).vars = [])
    (hl : laidOutB P = true) (hr : (f.params.toList.all fun t => P.readableRec t && decide (t < P.types.size)) = true) {bt : TypeId} (hrt : f.resultTypes = #[bt]) (hbt : P.underlying bt = some .bool) (hb : Below W.heap.size W W') :
    s.post enc P f false true false false W args (.bool true) W' := by
  have hW' := hW
  obtain ⟨p, q, hA, hV, hpq, hfz, hnd⟩ := hW
  rw [hv] at hV
  obtain ⟨rfl, rfl⟩ := trodVars_none hV
  obtain ⟨f1, f2, f3⟩ := hfn
  refine ⟨ds, [], before, [], before, [], hW', ?_, ?_, ?_, hb.frame _, fun h => by cases h⟩
  · rw [List.append_nil, f1, hrt]
    exact trodAll_cons_mk (shut_bool hbt true) trodAll_mk0
  · rw [List.append_nil, f2, hpq, List.append_nil]
    exact trodAll_back hl hb _ _ _ _ hr hA
  · rw [List.append_nil, f3, hv]; rfl
end
end Bz
