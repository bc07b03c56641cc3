/- Who lets whom: DelegateChains. -/
import Derived.Test.YtmnnjkdfanghdaaDel6
set_option linter.unusedSimpArgs false
set_option linter.unusedVariables false
namespace Bz.S
open Go Bz
set_option maxRecDepth 10000
set_option maxHeartbeats 4000000

/-- a way up: each is let by the next one -/
structure Ups (root w : Txt) (l : List Gr) (at_ : Int) (F : Txt → Int) (out : List Txt) (x : Txt) : Prop where
  head : out[0]? = some w
  last : out[out.length - 1]? = some x
  link : ∀ (i : Nat) (a b : Txt), out[i]? = some a → out[i + 1]? = some b → a ≠ root ∧ F a < F b ∧ ∃ k g, findI (fun _ g => isNx F at_ a g) l 0 = some (k, g) ∧ g.f = b
  len : 1 ≤ out.length ∧ (out.length : Int) ≤ F x + 1

theorem Found.next {root : Txt} {l : List Gr} {at_ : Int} {K : List Nk} (h : Found root l at_ K) {x : Txt} (hx : x ≠ root) (h0 : 0 ≤ ofK K x) : ∃ k g, findI (fun _ g => isNx (ofK K) at_ x g) l 0 = some (k, g) ∧ ∃ hk : k < l.length, l[k] = g ∧ ofK K x < ofK K g.f := by
  obtain ⟨g, hg, hgt, hle⟩ := h.good.just x hx h0
  have heq : byF (ofK K) at_ g = ofK K x := by have := h.closed g hg; rw [hgt] at this; omega
  cases hf : findI (fun _ g => isNx (ofK K) at_ x g) l 0 with
  | none =>
    obtain ⟨i, hi⟩ := List.getElem?_of_mem hg
    have := (findI_none _ l 0).1 hf i g hi
    simp [isNx, hgt, heq] at this
  | some q =>
    obtain ⟨i, h1, h2, h3, _⟩ := findI_some _ l 0 q hf
    obtain ⟨k, g'⟩ := q
    simp only [Nat.zero_add] at h1
    subst h1
    obtain ⟨hk, hg'⟩ := List.getElem?_eq_some_iff.1 h2
    simp only [isNx, decide_eq_true_eq] at h3
    refine ⟨k, g', rfl, hk, hg', ?_⟩
    have := (byF_lt (f := ofK K) (at_ := at_) (g := g') (by rw [h3.2]; exact h0)).1
    rw [h3.2] at this; exact this

theorem ups_step {root w : Txt} {l : List Gr} {at_ : Int} {F : Txt → Int} {out : List Txt} {x : Txt} (h : Ups root w l at_ F out x) (hx : x ≠ root) {k : Nat} {g : Gr} (hf : findI (fun _ g => isNx F at_ x g) l 0 = some (k, g)) (hlt : F x < F g.f) : Ups root w l at_ F (out ++ [g.f]) g.f := by
  have hl := h.len.1
  refine ⟨?_, ?_, fun i a b ha hb => ?_, ?_, ?_⟩
  · rw [List.getElem?_append_left (by omega)]; exact h.head
  · simp
  · have hb' := (List.getElem?_eq_some_iff.1 hb).1
    simp at hb'
    rw [List.getElem?_append_left (by omega)] at ha
    by_cases hi : i + 1 < out.length
    · rw [List.getElem?_append_left hi] at hb
      exact h.link i a b ha hb
    · have e : i = out.length - 1 := by omega
      subst e
      rw [h.last] at ha; cases ha
      rw [List.getElem?_append_right (by omega)] at hb
      have : out.length - 1 + 1 - out.length = 0 := by omega
      rw [this] at hb
      simp at hb; subst hb
      exact ⟨hx, hlt, k, g, hf, rfl⟩
  · simp
  · have := h.len.2; simp; omega

theorem run_Chain {root : Txt} {l : List Gr} {at_ : Int} {K : List Nk} (h : Found root l at_ K) (w : Txt) (hl : l.length ≤ BIG) :
    if ofK K w < 0 then R F_delegate_Chain [stA root, grS l, stA w, .d (.int .i64 at_)] [] = some (.tup [txS [], .d (.bool false)], [])
    else ∃ u, Ups root w l at_ (ofK K) u root ∧ R F_delegate_Chain [stA root, grS l, stA w, .d (.int .i64 at_)] [] = some (.tup [txS u.reverse, .d (.bool true)], []) := by
  have h1 := h.run
  have h2 := run_of' K w
  have hb : ∀ x, -1 ≤ ofK K x ∧ ofK K x ≤ 12 := fun x => ⟨h.good.lo x, h.good.hi' x⟩
  split
  · rename_i h0
    refine R_of at_delegate_Chain (by decide) ?_
    simp -implicitDefEqProofs [code_delegate_Chain, h1, h2, h0]
  · rename_i h0
    have hl' := hl
    unfold BIG at hl'
    obtain ⟨r, ⟨u, hu, rfl⟩, hL⟩ := loop_meas (X := X) (mask := mask_delegate_Chain_0) (body := body_delegate_Chain_0)
      (fun (p : Txt × List Txt) => ⟨mkE 41 [(0, stA root), (1, grS l), (6, .pv 10000 0), (7, .pv 10010 0), (10, .pv 20040 0), (11, .os 10000110 p.2.length 0 p.2.length)], [(10000, .var [.d (.str p.1)]), (10010, .var [.d (.int .i64 at_)]), (20030, .mp false [.str] (K.map nkA)), (20040, .var [.map 20030]), (10000110, .arr 1 (p.2.map stC))]⟩)
      (fun p => Ups root w l at_ (ofK K) p.2 p.1 ∧ 0 ≤ ofK K p.1) (fun p => (12 - ofK K p.1).toNat)
      (fun r => ∃ u, Ups root w l at_ (ofK K) u root ∧ r = (.exit 0, ⟨mkE 41 [(11, .os 10000110 u.length 0 u.length)], [(10000110, .arr 1 (u.map stC))]⟩))
      (fun p hI => by
        obtain ⟨x, out⟩ := p
        obtain ⟨hU, hp⟩ := hI
        simp only at hU hp
        by_cases hx : x = root
        · subst hx
          refine .inr ⟨_, ?_, ?_, out, hU, rfl⟩
          · simp -implicitDefEqProofs [body_delegate_Chain_0]
          · simp
        · obtain ⟨k, g, hf, hk, hg, hlt⟩ := h.next hx hp
          have hi := run_IdxG K l x at_ hb hl
          have hix : idxK (isNx (ofK K) at_ x) l = (k : Int) := by unfold idxK; rw [hf]
          rw [hix] at hi
          have hgh := h.good.hi' g.f
          have hU2 := ups_step hU hx hf hlt
          have hle := hU.len.2
          have hxh := h.good.hi' x
          have g1 : out.length + 1 ≤ LIM := by unfold LIM; omega
          refine .inl ⟨(g.f, out ++ [g.f]), ⟨hU2, by show 0 ≤ ofK K g.f; omega⟩, by simp only; omega, ?_⟩
          obtain ⟨f, t, d, a, u'⟩ := g
          simp -implicitDefEqProofs [body_delegate_Chain_0, mask_delegate_Chain_0, hx, hi, hk, hg, g1])
      (w, [w]) ⟨⟨rfl, rfl, fun i a b ha hb' => by simp at hb', by simp, by simp; omega⟩, by simp only; omega⟩
    refine ⟨u, hu, R_of at_delegate_Chain (by decide) ?_⟩
    have hul : u.length ≤ BIG := by have := hu.len.2; have := h.good.hi' root; unfold BIG; omega
    have hR := run_Rev u hul
    have hul2 : u.reverse.length = u.length := List.length_reverse ..
    have tk : List.take u.length ((u.reverse).map stC) = (u.reverse).map stC := List.take_of_length_le (by simp)
    generalize u.reverse = ur at *
    simp -implicitDefEqProofs [code_delegate_Chain, h1, h2, h0]
    rw [hL _ (by simp -implicitDefEqProofs [mask_delegate_Chain_0])]
    simp -implicitDefEqProofs [hR, hul2, tk]
end Bz.S
