/- Data of the program's types, taken apart. -/
import Derived.Test.YtfmebmnifpjmpaaBz2
import Derived.Test.YtfmebmnifpjmpaaEx
set_option linter.unusedSimpArgs false
set_option linter.unusedVariables false
namespace Bz.S
open Go Bz

section
variable {P : Program}
theorem typ_int {t : TypeId} {x : List D} {k : IntKind} (h : Typed P t x) (hu : P.underlying t = some (.int k)) : ∃ n, x = [.int k n] ∧ (Lit.int k n).wf = true := by
  cases h with
  | int h1 h2 => rw [hu] at h1; cases h1; exact ⟨_, rfl, h2⟩
  | bool h1 => rw [hu] at h1; cases h1
  | str h1 => rw [hu] at h1; cases h1
  | slice h1 => rw [hu] at h1; cases h1
  | struct _ h1 => rw [hu] at h1; cases h1
theorem typ_bool {t : TypeId} {x : List D} (h : Typed P t x) (hu : P.underlying t = some .bool) : ∃ b, x = [.bool b] := by
  cases h with
  | int h1 h2 => rw [hu] at h1; cases h1
  | bool h1 => exact ⟨_, rfl⟩
  | str h1 => rw [hu] at h1; cases h1
  | slice h1 => rw [hu] at h1; cases h1
  | struct _ h1 => rw [hu] at h1; cases h1
theorem typ_str {t : TypeId} {x : List D} (h : Typed P t x) (hu : P.underlying t = some .string) : ∃ s, x = [.str s] := by
  cases h with
  | int h1 h2 => rw [hu] at h1; cases h1
  | bool h1 => rw [hu] at h1; cases h1
  | str h1 => exact ⟨_, rfl⟩
  | slice h1 => rw [hu] at h1; cases h1
  | struct _ h1 => rw [hu] at h1; cases h1
theorem typ_slice {t e : TypeId} {x : List D} (h : Typed P t x) (hu : P.underlying t = some (.slice e)) : ∃ es, x = [.vs false es] ∧ ∀ c ∈ es, Typed P e c := by
  cases h with
  | int h1 h2 => rw [hu] at h1; cases h1
  | bool h1 => rw [hu] at h1; cases h1
  | str h1 => rw [hu] at h1; cases h1
  | slice h1 h2 => rw [hu] at h1; cases h1; exact ⟨_, rfl, h2⟩
  | struct _ h1 => rw [hu] at h1; cases h1
theorem typ_struct {t : TypeId} {x : List D} {fs : Array Field} (h : Typed P t x) (hu : P.underlying t = some (.struct fs)) : ∃ parts : List (List D), x = parts.flatten ∧ parts.length = fs.size ∧
    ∀ (i : Nat) (f : Field) (c : List D), fs[i]? = some f → parts[i]? = some c → Typed P f.type c := by
  cases h with
  | int h1 h2 => rw [hu] at h1; cases h1
  | bool h1 => rw [hu] at h1; cases h1
  | str h1 => rw [hu] at h1; cases h1
  | slice h1 h2 => rw [hu] at h1; cases h1
  | struct parts h1 h2 h3 => rw [hu] at h1; cases h1; exact ⟨parts, rfl, h2, h3⟩

/-- fields, one by one -/
def TypedAll (P : Program) : List TypeId → List (List D) → Prop
  | [], [] => True
  | t :: ts, c :: cs => Typed P t c ∧ TypedAll P ts cs
  | _, _ => False
theorem typedAll_of : ∀ (ts : List TypeId) (cs : List (List D)), cs.length = ts.length → (∀ (i : Nat) (t : TypeId) (c : List D), ts[i]? = some t → cs[i]? = some c → Typed P t c) → TypedAll P ts cs
  | [], [], _, _ => trivial
  | t :: ts, c :: cs, hl, h => ⟨h 0 t c rfl rfl, typedAll_of ts cs (by simpa using hl) fun i t' c' ht hc => h (i + 1) t' c' (by simpa using ht) (by simpa using hc)⟩
  | [], _ :: _, hl, _ => by simp at hl
  | _ :: _, [], hl, _ => by simp at hl
theorem tall_cons {t : TypeId} {ts : List TypeId} {cs : List (List D)} (h : TypedAll P (t :: ts) cs) : ∃ c r, cs = c :: r ∧ Typed P t c ∧ TypedAll P ts r := by
  cases cs with
  | nil => exact h.elim
  | cons c r => exact ⟨c, r, rfl, h.1, h.2⟩
theorem tall_nil {cs : List (List D)} (h : TypedAll P [] cs) : cs = [] := by
  cases cs with
  | nil => rfl
  | cons c r => exact h.elim
theorem typ_fields {t : TypeId} {x : List D} {fs : Array Field} {ts : List TypeId} (h : Typed P t x) (hu : P.underlying t = some (.struct fs)) (hfs : fs.toList.map (·.type) = ts) : ∃ parts : List (List D), x = parts.flatten ∧ TypedAll P ts parts := by
  obtain ⟨parts, rfl, hl, hp⟩ := typ_struct h hu
  refine ⟨parts, rfl, typedAll_of _ _ (by rw [hl, ← hfs]; simp) fun i t' c ht hc => ?_⟩
  rw [← hfs, List.getElem?_map] at ht
  obtain ⟨g, hg, rfl⟩ := Option.map_eq_some_iff.1 ht
  exact hp i g c (by simpa using hg) hc
end

theorem mem_map_all {α : Type} (f : α → List D) : ∀ {es : List (List D)}, (∀ c ∈ es, ∃ a, c = f a) → ∃ l : List α, es = l.map f
  | [], _ => ⟨[], rfl⟩
  | c :: r, h => by
    obtain ⟨a, rfl⟩ := h c (by simp)
    obtain ⟨l, rfl⟩ := mem_map_all f (es := r) fun c hc => h c (by simp [hc])
    exact ⟨a :: l, rfl⟩

theorem bulk_mem : ∀ {es : List (List D)} {c : List D}, c ∈ es → bulkL c ≤ bulkLL es
  | a :: r, c, h => by
    simp only [bulkLL]
    rcases List.mem_cons.1 h with rfl | h
    · omega
    · have := bulk_mem h; omega

/-- what an expression's type is, told by its parts' types -/
theorem typ_ex {P : Program} {t l : TypeId} {fs : Array Field} (hu : P.underlying t = some (.struct fs)) (hul : P.underlying l = some (.slice t)) {i1 s i2 i3 i4 : TypeId} (hfs : fs.toList.map (·.type) = [i1, s, i2, i3, i4, l])
    (h1 : P.underlying i1 = some (.int .i64)) (h2 : P.underlying s = some .string) (h3 : P.underlying i2 = some (.int .i64)) (h4 : P.underlying i3 = some (.int .i64)) (h5 : P.underlying i4 = some (.int .i64)) :
    ∀ (x : List D), Typed P t x → ∃ e : Ex, x = exC e := by
  have key : ∀ (n : Nat) (x : List D), bulkL x ≤ n → Typed P t x → ∃ e : Ex, x = exC e := by
    intro n
    induction n with
    | zero =>
      intro x hx h
      obtain ⟨parts, rfl, hp⟩ := typ_fields h hu hfs
      obtain ⟨a, r, rfl, ha, hp⟩ := tall_cons hp
      obtain ⟨m1, rfl, _⟩ := typ_int ha h1
      simp [bulkL, bulkD] at hx
    | succ n ih =>
      intro x hx h
      obtain ⟨parts, rfl, hp⟩ := typ_fields h hu hfs
      obtain ⟨a, r, rfl, ha, hp⟩ := tall_cons hp
      obtain ⟨b, r, rfl, hb, hp⟩ := tall_cons hp
      obtain ⟨c, r, rfl, hc, hp⟩ := tall_cons hp
      obtain ⟨d, r, rfl, hd, hp⟩ := tall_cons hp
      obtain ⟨e, r, rfl, he, hp⟩ := tall_cons hp
      obtain ⟨f, r, rfl, hf, hp⟩ := tall_cons hp
      cases tall_nil hp
      obtain ⟨m1, rfl, _⟩ := typ_int ha h1
      obtain ⟨m2, rfl⟩ := typ_str hb h2
      obtain ⟨m3, rfl, _⟩ := typ_int hc h3
      obtain ⟨m4, rfl, _⟩ := typ_int hd h4
      obtain ⟨m5, rfl, _⟩ := typ_int he h5
      obtain ⟨es, rfl, hes⟩ := typ_slice hf hul
      have hbl : bulkLL es ≤ n := by simp [bulkL, bulkD] at hx; omega
      obtain ⟨kids, rfl⟩ := mem_map_all exC fun c hc => ih c (Nat.le_trans (bulk_mem hc) hbl) (hes c hc)
      exact ⟨.mk m1 m2 m3 m4 m5 kids, by simp [Ex.kind, Ex.name, Ex.n, Ex.lo, Ex.hi, Ex.kids]⟩
  exact fun x => key _ x (Nat.le_refl _)
end Bz.S
