/- More of what inputs are: lists of numbers. -/
import Derived.Test.YtkokmockakgjaaaTyp
set_option linter.unusedSimpArgs false
set_option linter.unusedVariables false
namespace Bz.S
open Go Bz

def i6C (n : Int) : List D := [.int .i64 n]
@[simp] theorem i6C_eq (n : Int) : i6C n = [.int .i64 n] := rfl
@[simp] theorem sized_i6 (l : List Int) : sized 1 (l.map i6C) = true := sized_map 1 i6C (fun _ => rfl) l
abbrev i6S (l : List Int) : AV := .d (.vs false (l.map i6C))

theorem typ_ints {P : Program} {t e : TypeId} (hu : P.underlying t = some (.slice e)) (he : P.underlying e = some (.int .i64)) (x : List D) (h : Typed P t x) : ∃ l : List Int, x = [.vs false (l.map i6C)] := by
  obtain ⟨es, rfl, hes⟩ := typ_slice h hu
  obtain ⟨l, rfl⟩ := mem_map_all i6C (es := es) fun c hc => by
    obtain ⟨n, rfl, _⟩ := typ_int (hes c hc) he
    exact ⟨n, rfl⟩
  exact ⟨l, rfl⟩
theorem len_bulkLL {α : Type} (f : α → List D) (hf : ∀ a, 1 ≤ bulkL (f a)) : ∀ l : List α, l.length ≤ bulkLL (l.map f)
  | [] => by simp
  | a :: r => by
    have h1 := len_bulkLL f hf r
    have h2 := hf a
    simp only [List.map_cons, bulkLL, List.length_cons]
    omega
theorem mem_map_allW {α : Type} (f : α → List D) (p : α → Prop) : ∀ {es : List (List D)}, (∀ c ∈ es, ∃ a, c = f a ∧ p a) → ∃ l : List α, es = l.map f ∧ ∀ a ∈ l, p a
  | [], _ => ⟨[], rfl, fun _ h => by simp at h⟩
  | c :: r, h => by
    obtain ⟨a, rfl, ha⟩ := h c (by simp)
    obtain ⟨l, rfl, hl⟩ := mem_map_allW f p (es := r) fun c hc => h c (by simp [hc])
    refine ⟨a :: l, rfl, fun x hx => ?_⟩
    rcases List.mem_cons.1 hx with rfl | hx
    · exact ha
    · exact hl x hx
theorem typ_byte {P : Program} {t : TypeId} {x : List D} (h : Typed P t x) (hu : P.underlying t = some (.int .u8)) : ∃ c : UInt8, x = byC c := by
  obtain ⟨n, rfl, hw⟩ := typ_int h hu
  have h2 : ((toB n).toNat : Int) = n := by
    simp only [Lit.wf, Bool.and_eq_true, decide_eq_true_eq] at hw
    have e1 : IntKind.u8.min = 0 := by decide
    have e2 : IntKind.u8.max = 255 := by decide
    rw [toB_val]; omega
  exact ⟨toB n, by simp only [byC, h2]⟩
theorem typ_bytes {P : Program} {t e : TypeId} (hu : P.underlying t = some (.slice e)) (h1 : P.underlying e = some (.int .u8)) (x : List D) (h : Typed P t x) : ∃ b : Txt, x = [.vs false (b.map byC)] := by
  obtain ⟨es, rfl, hes⟩ := typ_slice h hu
  obtain ⟨b, rfl⟩ := mem_map_all byC fun c hc => typ_byte (hes c hc) h1
  exact ⟨b, rfl⟩
end Bz.S
