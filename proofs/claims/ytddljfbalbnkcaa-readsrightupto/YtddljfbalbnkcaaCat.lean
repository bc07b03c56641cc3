/- Lists of texts, one behind the other: slices.Grow, slices.Concat. -/
import Derived.Test.YtddljfbalbnkcaaSet
set_option linter.unusedSimpArgs false
set_option linter.unusedVariables false
namespace Bz.S
open Go Bz
set_option maxRecDepth 10000
set_option maxHeartbeats 4000000

/-- a list of texts, as a row's element -/
def ccC (l : List Txt) : List D := [.vs false (l.map stC)]
theorem ccC_eq (l : List Txt) : ccC l = [.vs false (l.map stC)] := rfl
abbrev ccS (ls : List (List Txt)) : AV := .d (.vs false (ls.map ccC))

def growR (sz : Nat) (z : List D) (n : Nat) : AV × Heap := if n = 0 then (.d (.vs true []), []) else (.os 0 n 0 0, [(0, .arr sz (List.replicate n z))])
theorem flat_take {α : Type} (ls : List (List α)) (i : Nat) (x : List α) (h : ls[i]? = some x) : (ls.take (i + 1)).flatten = (ls.take i).flatten ++ x := by
  rw [List.take_add_one, h]; simp
theorem flat_take_le {α : Type} (ls : List (List α)) (i : Nat) : (ls.take i).flatten.length ≤ ls.flatten.length := by
  have : ls.flatten = (ls.take i).flatten ++ (ls.drop i).flatten := by rw [← List.flatten_append, List.take_append_drop]
  rw [this, List.length_append]; omega
theorem put_behind {α : Type} (out x : List α) (z : α) (N : Nat) (h : out.length + x.length ≤ N) :
    Bz.put (out ++ List.replicate (N - out.length) z) out.length x = (out ++ x) ++ List.replicate (N - (out ++ x).length) z := by
  unfold Bz.put
  rw [List.take_left, List.drop_append, List.drop_eq_nil_of_le (by omega), List.nil_append, List.drop_replicate]
  simp only [List.length_append]
  rw [show N - out.length - (out.length + x.length - out.length) = N - (out.length + x.length) by omega]

end Bz.S
