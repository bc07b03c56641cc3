/- Values that are read by the page (ref04.Thing), walked. -/
import Derived.Test.YtfhkjoebkiigoaaRd
set_option linter.unusedSimpArgs false
set_option linter.unusedVariables false
namespace Bz.S
open Go Bz
set_option maxRecDepth 10000
set_option maxHeartbeats 4000000

theorem inText_none : inText none = ([], none) := rfl
theorem inTexts_none : ∀ n : Nat, (inTexts n none).2 = none
  | 0 => rfl
  | n + 1 => by simp only [inTexts, inText_none]; exact inTexts_none n

/-- what follows the body -/
theorem inValue_of {r : Option Txt} : inValue r = if (inBody (inByte r).1 (inByte r).2).2.isSome ∧ vaCheck (inBody (inByte r).1 (inByte r).2).1 = 0 then inBody (inByte r).1 (inByte r).2 else (va0, none) := rfl

theorem rdO_bad {q : Rd} (h : q.bad = true) : rdO q = none := by unfold rdO; rw [if_pos h]
theorem rdO_ok {q : Rd} (h : q.bad = false) : rdO q = some (q.b.drop q.at_) := by unfold rdO; rw [h]; rfl

/-- behind a body's last octet -/
theorem thing_end {r : Option Txt} {q : Rd} {v : Va} (hb : inBody (inByte r).1 (inByte r).2 = (v, rdO q)) : inValue r = if q.bad = false ∧ vaCheck v = 0 then (v, rdO q) else (va0, none) := by
  rw [inValue_of, hb]
  simp only
  cases h : q.bad with
  | true => rw [rdO_bad h]; simp
  | false => rw [rdO_ok h]; simp

abbrev thH (p : Rd) (v : Va) : Heap := [(10000, .var [byS p.b, .d (.int .i64 p.at_), .d (.bool p.bad)]), (10010, .var [.d (.int .i64 0), .d (.int .i64 0), .d (.str []), .d (.vs true [])]), (10020, .var [.d (.vs true []), .d (.int .i64 0), .d (.bool false)]), (40020, .var [.d (.int .i64 v.kind), .d (.int .i64 v.n), .d (.str v.s), .os 24002030 v.l.length 0 v.l.length]), (24002030, .arr 1 (v.l.map stC))]

end Bz.S
