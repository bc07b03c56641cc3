/-
  NARROWER THAN 'FOR EVERY INPUT', by the rows' own cells (each row's printed sentence says how): AstChecks: loops · AstMeasures: loops · AstParts: loops · AstSame: loops.
  DERIVED. THE GIVEN ROWS OF THIS SEAT. 5 by the template 'for every input the law returns true; each argument reads behind the call as it read before'; 0 by the template 'total and deterministic' (their statements: YtfmebmnifpjmpaaTotals.lean).
  GIVEN WITH THE SEED: the statements are not yours to turn. If you find one false, say at which input.
  Laid BY PROGRAM, IN A SANDBOX (cutbox-rows.mjs): the forced cells as the released guide's own fill.sh prints them over the translation fa2585cc10d9cb6f… (all of the seat's roots in one cut). By AI agents, Wed Nov 11 2026. No macro, syntax, notation, axiom, sorry.
-/
import Derived.Test.YtfmebmnifpjmpaaChecked
import GoSem.Claim
import GoSem.ClaimJoined
import GoSem.ClaimMapViews
import Derived.JoinedTies
import Derived.KernelRfl
namespace Go.Proofs.Ytfmebmnifpjmpaa
/- THE CELL 'sum', in the pinned program and in every row, IS THE sha256 OF THE DUMP (.gsa) THAT YtfmebmnifpjmpaaProg.lean LOADS. Nothing in Lean hashes anything: it is a label: what it is worth is what the hold of that sum in a sandbox is worth. -/
noncomputable def Try.pinned : Pinned := { name := "ytfmebmnifpjmpaa", sum := "fa2585cc10d9cb6fe977327c747e203034b806a07a7f83624bc486b6462d0714", checked := Try.checked }
namespace Rows
def none {H : Type} : Left H := { results := [], args := [] }

/-- 'beadlelaw05.StoreKeeps': WHATEVER THE INPUT: true; the input reads as it did. -/
def storeKeepsSpec : ChangeSpec := { name := "storeKeeps", fn := fun _ => fun
  | [d1, d2, d3] => { results := [.lit (.bool true)], args := [d1, d2, d3] }
  | _ => none }
def storeKeepsRow : OpenClaim := { program := "ytfmebmnifpjmpaa", sum := "fa2585cc10d9cb6fe977327c747e203034b806a07a7f83624bc486b6462d0714", func := "beadle/beadlelaw05.StoreKeeps", spec := "storeKeeps", unfollowed := true, recurses := true, plainKeys := false, apart := false }
def StoreKeepsSaid : Prop := storeKeepsRow.holds Try.pinned (OpenSpec.ofChange storeKeepsSpec)

/-- ITS FALSE NEIGHBOUR: 'it returns false'. Refute it at one input. -/
def storeKeepsWrong : ChangeSpec := { name := "storeKeeps", fn := fun _ => fun
  | [d1, d2, d3] => { results := [.lit (.bool false)], args := [d1, d2, d3] }
  | _ => none }
def StoreKeepsWrongFalsely : Prop := storeKeepsRow.holds Try.pinned (OpenSpec.ofChange storeKeepsWrong)

/-- 'beadlelaw07.AstChecks': WHATEVER THE INPUT: true; the input reads as it did. -/
def astChecksSpec : ChangeSpec := { name := "astChecks", fn := fun _ => fun
  | [d] => { results := [.lit (.bool true)], args := [d] }
  | _ => none }
def astChecksRow : OpenClaim := { program := "ytfmebmnifpjmpaa", sum := "fa2585cc10d9cb6fe977327c747e203034b806a07a7f83624bc486b6462d0714", func := "beadle/beadlelaw07.AstChecks", spec := "astChecks", inPlace := ["internal/bytealg.IndexByteString"], unfollowed := true, recurses := true, loops := true, plainKeys := false, apart := false }
def AstChecksSaid : Prop := astChecksRow.holds Try.pinned (OpenSpec.ofChange astChecksSpec)

/-- ITS FALSE NEIGHBOUR: 'it returns false'. Refute it at one input. -/
def astChecksWrong : ChangeSpec := { name := "astChecks", fn := fun _ => fun
  | [d] => { results := [.lit (.bool false)], args := [d] }
  | _ => none }
def AstChecksWrongFalsely : Prop := astChecksRow.holds Try.pinned (OpenSpec.ofChange astChecksWrong)

/-- 'beadlelaw07.AstMeasures': WHATEVER THE INPUT: true; the input reads as it did. -/
def astMeasuresSpec : ChangeSpec := { name := "astMeasures", fn := fun _ => fun
  | [d1, d2] => { results := [.lit (.bool true)], args := [d1, d2] }
  | _ => none }
def astMeasuresRow : OpenClaim := { program := "ytfmebmnifpjmpaa", sum := "fa2585cc10d9cb6fe977327c747e203034b806a07a7f83624bc486b6462d0714", func := "beadle/beadlelaw07.AstMeasures", spec := "astMeasures", inPlace := ["internal/bytealg.IndexByteString"], unfollowed := true, recurses := true, loops := true, plainKeys := false, apart := false }
def AstMeasuresSaid : Prop := astMeasuresRow.holds Try.pinned (OpenSpec.ofChange astMeasuresSpec)

/-- ITS FALSE NEIGHBOUR: 'it returns false'. Refute it at one input. -/
def astMeasuresWrong : ChangeSpec := { name := "astMeasures", fn := fun _ => fun
  | [d1, d2] => { results := [.lit (.bool false)], args := [d1, d2] }
  | _ => none }
def AstMeasuresWrongFalsely : Prop := astMeasuresRow.holds Try.pinned (OpenSpec.ofChange astMeasuresWrong)

/-- 'beadlelaw07.AstParts': WHATEVER THE INPUT: true; the input reads as it did. -/
def astPartsSpec : ChangeSpec := { name := "astParts", fn := fun _ => fun
  | [d] => { results := [.lit (.bool true)], args := [d] }
  | _ => none }
def astPartsRow : OpenClaim := { program := "ytfmebmnifpjmpaa", sum := "fa2585cc10d9cb6fe977327c747e203034b806a07a7f83624bc486b6462d0714", func := "beadle/beadlelaw07.AstParts", spec := "astParts", inPlace := ["internal/bytealg.IndexByteString"], unfollowed := true, recurses := true, loops := true, plainKeys := false, apart := false }
def AstPartsSaid : Prop := astPartsRow.holds Try.pinned (OpenSpec.ofChange astPartsSpec)

/-- ITS FALSE NEIGHBOUR: 'it returns false'. Refute it at one input. -/
def astPartsWrong : ChangeSpec := { name := "astParts", fn := fun _ => fun
  | [d] => { results := [.lit (.bool false)], args := [d] }
  | _ => none }
def AstPartsWrongFalsely : Prop := astPartsRow.holds Try.pinned (OpenSpec.ofChange astPartsWrong)

/-- 'beadlelaw07.AstSame': WHATEVER THE INPUT: true; the input reads as it did. -/
def astSameSpec : ChangeSpec := { name := "astSame", fn := fun _ => fun
  | [d1, d2] => { results := [.lit (.bool true)], args := [d1, d2] }
  | _ => none }
def astSameRow : OpenClaim := { program := "ytfmebmnifpjmpaa", sum := "fa2585cc10d9cb6fe977327c747e203034b806a07a7f83624bc486b6462d0714", func := "beadle/beadlelaw07.AstSame", spec := "astSame", inPlace := ["internal/bytealg.IndexByteString"], unfollowed := true, recurses := true, loops := true, plainKeys := false, apart := false }
def AstSameSaid : Prop := astSameRow.holds Try.pinned (OpenSpec.ofChange astSameSpec)

/-- ITS FALSE NEIGHBOUR: 'it returns false'. Refute it at one input. -/
def astSameWrong : ChangeSpec := { name := "astSame", fn := fun _ => fun
  | [d1, d2] => { results := [.lit (.bool false)], args := [d1, d2] }
  | _ => none }
def AstSameWrongFalsely : Prop := astSameRow.holds Try.pinned (OpenSpec.ofChange astSameWrong)

/- THE SECOND FORM. 'bulk': how many values and letters a reading holds, each counted each time it is reached (what is shared counts as often as it is met; a slice's spare places count too). A statement '..UptoSaid' is the law's where the arguments, and the package variables that the reading takes, are together of bulk at most 1048576: NARROWER than '..Said'. Prove '..Said' where nothing that the law and all that it calls make is longer than what came in: it says more and counts as full. Else prove '..UptoSaid'. A law counts once. -/
mutual
def uptoBulk {H : Type} : DataW H → Nat
  | .lit (.string bytes) => bytes.length + 1
  | .lit _ => 1
  | .nil => 1
  | .ptr d => uptoBulk d + 1
  | .slice elems spare => uptoBulkAll elems + uptoBulkAll spare + 1
  | .agg parts => uptoBulkAll parts + 1
  | .iface _ d => uptoBulk d + 1
  | .map entries => uptoBulkEntries entries + 1
  | .held _ => 1
def uptoBulkAll {H : Type} : List (DataW H) → Nat
  | [] => 0
  | d :: r => uptoBulk d + uptoBulkAll r
def uptoBulkEntries {H : Type} : List (Lit × DataW H) → Nat
  | [] => 0
  | x :: r => uptoBulkEntry x + uptoBulkEntries r
def uptoBulkEntry {H : Type} : Lit × DataW H → Nat
  | (.string bytes, d) => bytes.length + uptoBulk d + 1
  | (_, d) => uptoBulk d + 1
 end
def uptoSmall : (H : Type) → List (DataW H) → Bool := fun _ ds => decide (uptoBulkAll ds ≤ 1048576)
def OpenSpec.upto (s : _root_.Go.ChangeSpec) : _root_.Go.OpenSpec := { _root_.Go.OpenSpec.ofChange s with cond := some uptoSmall }

/-- 'beadlelaw05.StoreKeeps', WHERE WHAT IT READS IS OF BULK AT MOST 1048576: true; the input reads as it did. -/
def storeKeepsUptoRow : OpenClaim := { program := "ytfmebmnifpjmpaa", sum := "fa2585cc10d9cb6fe977327c747e203034b806a07a7f83624bc486b6462d0714", func := "beadle/beadlelaw05.StoreKeeps", spec := "storeKeeps", unfollowed := true, recurses := true, plainKeys := false, apart := false, narrowed := true }
def StoreKeepsUptoSaid : Prop := storeKeepsUptoRow.holds Try.pinned (OpenSpec.upto storeKeepsSpec)

/-- 'beadlelaw07.AstChecks', WHERE WHAT IT READS IS OF BULK AT MOST 1048576: true; the input reads as it did. -/
def astChecksUptoRow : OpenClaim := { program := "ytfmebmnifpjmpaa", sum := "fa2585cc10d9cb6fe977327c747e203034b806a07a7f83624bc486b6462d0714", func := "beadle/beadlelaw07.AstChecks", spec := "astChecks", inPlace := ["internal/bytealg.IndexByteString"], unfollowed := true, recurses := true, loops := true, plainKeys := false, apart := false, narrowed := true }
def AstChecksUptoSaid : Prop := astChecksUptoRow.holds Try.pinned (OpenSpec.upto astChecksSpec)

/-- 'beadlelaw07.AstMeasures', WHERE WHAT IT READS IS OF BULK AT MOST 1048576: true; the input reads as it did. -/
def astMeasuresUptoRow : OpenClaim := { program := "ytfmebmnifpjmpaa", sum := "fa2585cc10d9cb6fe977327c747e203034b806a07a7f83624bc486b6462d0714", func := "beadle/beadlelaw07.AstMeasures", spec := "astMeasures", inPlace := ["internal/bytealg.IndexByteString"], unfollowed := true, recurses := true, loops := true, plainKeys := false, apart := false, narrowed := true }
def AstMeasuresUptoSaid : Prop := astMeasuresUptoRow.holds Try.pinned (OpenSpec.upto astMeasuresSpec)

/-- 'beadlelaw07.AstParts', WHERE WHAT IT READS IS OF BULK AT MOST 1048576: true; the input reads as it did. -/
def astPartsUptoRow : OpenClaim := { program := "ytfmebmnifpjmpaa", sum := "fa2585cc10d9cb6fe977327c747e203034b806a07a7f83624bc486b6462d0714", func := "beadle/beadlelaw07.AstParts", spec := "astParts", inPlace := ["internal/bytealg.IndexByteString"], unfollowed := true, recurses := true, loops := true, plainKeys := false, apart := false, narrowed := true }
def AstPartsUptoSaid : Prop := astPartsUptoRow.holds Try.pinned (OpenSpec.upto astPartsSpec)

/-- 'beadlelaw07.AstSame', WHERE WHAT IT READS IS OF BULK AT MOST 1048576: true; the input reads as it did. -/
def astSameUptoRow : OpenClaim := { program := "ytfmebmnifpjmpaa", sum := "fa2585cc10d9cb6fe977327c747e203034b806a07a7f83624bc486b6462d0714", func := "beadle/beadlelaw07.AstSame", spec := "astSame", inPlace := ["internal/bytealg.IndexByteString"], unfollowed := true, recurses := true, loops := true, plainKeys := false, apart := false, narrowed := true }
def AstSameUptoSaid : Prop := astSameUptoRow.holds Try.pinned (OpenSpec.upto astSameSpec)

end Rows
end Go.Proofs.Ytfmebmnifpjmpaa
