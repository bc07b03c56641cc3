/- Expressions, as the clean machine has them. -/
import Derived.Test.YtfmebmnifpjmpaaBase
set_option linter.unusedSimpArgs false
set_option linter.unusedVariables false
namespace Bz.S
open Go Bz

abbrev Txt := List UInt8

/-- api.Expr -/
inductive Ex where
  | mk (kind : Int) (name : Txt) (n lo hi : Int) (kids : List Ex)

namespace Ex
def kind : Ex → Int | mk k _ _ _ _ _ => k
def name : Ex → Txt | mk _ s _ _ _ _ => s
def n : Ex → Int | mk _ _ n _ _ _ => n
def lo : Ex → Int | mk _ _ _ l _ _ => l
def hi : Ex → Int | mk _ _ _ _ h _ => h
def kids : Ex → List Ex | mk _ _ _ _ _ k => k
end Ex

mutual
def exC : Ex → List D
  | .mk k s n lo hi kids => [.int .i64 k, .str s, .int .i64 n, .int .i64 lo, .int .i64 hi, .vs false (exCs kids)]
def exCs : List Ex → List (List D)
  | [] => []
  | e :: r => exC e :: exCs r
end

theorem exCs_map (l : List Ex) : exCs l = l.map exC := by
  induction l with
  | nil => rfl
  | cons e r ih => simp [exCs, ih]

@[simp] theorem exC_eq (e : Ex) : exC e = [.int .i64 e.kind, .str e.name, .int .i64 e.n, .int .i64 e.lo, .int .i64 e.hi, .vs false (e.kids.map exC)] := by
  cases e; simp [exC, exCs_map, Ex.kind, Ex.name, Ex.n, Ex.lo, Ex.hi, Ex.kids]

/-- a row of expressions -/
abbrev exS (l : List Ex) : AV := .d (.vs false (l.map exC))
/-- an expression as a value -/
abbrev exV (e : Ex) : List AV := [.d (.int .i64 e.kind), .d (.str e.name), .d (.int .i64 e.n), .d (.int .i64 e.lo), .d (.int .i64 e.hi), .d (.vs false (e.kids.map exC))]
abbrev exA (e : Ex) : AV := .agg [.d (.int .i64 e.kind), .d (.str e.name), .d (.int .i64 e.n), .d (.int .i64 e.lo), .d (.int .i64 e.hi), .d (.vs false (e.kids.map exC))]
@[simp] theorem sized_ex (l : List Ex) : sized 6 (l.map exC) = true := sized_map 6 exC (fun e => by simp) l
end Bz.S
