/-
  NARROWER THAN 'FOR EVERY INPUT', by the rows' own cells (each row's printed sentence says how): ReadsTells: loops · ReadsRight: loops.
  DERIVED. THE GIVEN ROWS OF THIS SEAT. 3 by the template 'for every input the law returns true; each argument reads behind the call as it read before'; 0 by the template 'total and deterministic' (their statements: YtddljfbalbnkcaaTotals.lean).
  GIVEN WITH THE SEED: the statements are not yours to turn. If you find one false, say at which input.
  Laid BY PROGRAM, IN A SANDBOX (cutbox-rows.mjs): the forced cells as the released guide's own fill.sh prints them over the translation 9725bcff10b305cb… (all of the seat's roots in one cut). By AI agents, Wed Nov 11 2026. No macro, syntax, notation, axiom, sorry.
-/
import Derived.Test.YtddljfbalbnkcaaChecked
import GoSem.Claim
import GoSem.ClaimJoined
import GoSem.ClaimMapViews
import Derived.JoinedTies
import Derived.KernelRfl
namespace Go.Proofs.Ytddljfbalbnkcaa
/- THE CELL 'sum', in the pinned program and in every row, IS THE sha256 OF THE DUMP (.gsa) THAT YtddljfbalbnkcaaProg.lean LOADS. Nothing in Lean hashes anything: it is a label: what it is worth is what the hold of that sum in a sandbox is worth. -/
noncomputable def Try.pinned : Pinned := { name := "ytddljfbalbnkcaa", sum := "9725bcff10b305cb978a2e53f0f44cce98cdeb459dbe0efc4519ecde95a7a41a", checked := Try.checked }
namespace Rows
def none {H : Type} : Left H := { results := [], args := [] }

/-- 'beadlelaw12.ReadsJoins': WHATEVER THE INPUT: true; the input reads as it did. -/
def readsJoinsSpec : ChangeSpec := { name := "readsJoins", fn := fun _ => fun
  | [d1, d2, d3] => { results := [.lit (.bool true)], args := [d1, d2, d3] }
  | _ => none }
def readsJoinsRow : OpenClaim := { program := "ytddljfbalbnkcaa", sum := "9725bcff10b305cb978a2e53f0f44cce98cdeb459dbe0efc4519ecde95a7a41a", func := "beadle/beadlelaw12.ReadsJoins", spec := "readsJoins", unfollowed := true, recurses := true, apart := false }
def ReadsJoinsSaid : Prop := readsJoinsRow.holds Try.pinned (OpenSpec.ofChange readsJoinsSpec)

/-- ITS FALSE NEIGHBOUR: 'it returns false'. Refute it at one input. -/
def readsJoinsWrong : ChangeSpec := { name := "readsJoins", fn := fun _ => fun
  | [d1, d2, d3] => { results := [.lit (.bool false)], args := [d1, d2, d3] }
  | _ => none }
def ReadsJoinsWrongFalsely : Prop := readsJoinsRow.holds Try.pinned (OpenSpec.ofChange readsJoinsWrong)

/-- 'beadlelaw12.ReadsTells': WHATEVER THE INPUT: true; the input reads as it did. -/
def readsTellsSpec : ChangeSpec := { name := "readsTells", fn := fun _ => fun
  | [d1, d2] => { results := [.lit (.bool true)], args := [d1, d2] }
  | _ => none }
def readsTellsRow : OpenClaim := { program := "ytddljfbalbnkcaa", sum := "9725bcff10b305cb978a2e53f0f44cce98cdeb459dbe0efc4519ecde95a7a41a", func := "beadle/beadlelaw12.ReadsTells", spec := "readsTells", unfollowed := true, recurses := true, loops := true, apart := false }
def ReadsTellsSaid : Prop := readsTellsRow.holds Try.pinned (OpenSpec.ofChange readsTellsSpec)

/-- ITS FALSE NEIGHBOUR: 'it returns false'. Refute it at one input. -/
def readsTellsWrong : ChangeSpec := { name := "readsTells", fn := fun _ => fun
  | [d1, d2] => { results := [.lit (.bool false)], args := [d1, d2] }
  | _ => none }
def ReadsTellsWrongFalsely : Prop := readsTellsRow.holds Try.pinned (OpenSpec.ofChange readsTellsWrong)

/-- 'beadlelaw12.ReadsRight': WHATEVER THE INPUT: true; the input reads as it did. -/
def readsRightSpec : ChangeSpec := { name := "readsRight", fn := fun _ => fun
  | [d] => { results := [.lit (.bool true)], args := [d] }
  | _ => none }
def readsRightRow : OpenClaim := { program := "ytddljfbalbnkcaa", sum := "9725bcff10b305cb978a2e53f0f44cce98cdeb459dbe0efc4519ecde95a7a41a", func := "beadle/beadlelaw12.ReadsRight", spec := "readsRight", unfollowed := true, recurses := true, loops := true, apart := false }
def ReadsRightSaid : Prop := readsRightRow.holds Try.pinned (OpenSpec.ofChange readsRightSpec)

/-- ITS FALSE NEIGHBOUR: 'it returns false'. Refute it at one input. -/
def readsRightWrong : ChangeSpec := { name := "readsRight", fn := fun _ => fun
  | [d] => { results := [.lit (.bool false)], args := [d] }
  | _ => none }
def ReadsRightWrongFalsely : Prop := readsRightRow.holds Try.pinned (OpenSpec.ofChange readsRightWrong)

/- THE SECOND FORM. 'bulk': how many values and letters a reading holds, each counted each time it is reached (what is shared counts as often as it is met; a slice's spare places count too). A statement '..UptoSaid' is the law's where the arguments, and the package variables that the reading takes, are together of bulk at most 1048576: NARROWER than '..Said'. Prove '..Said' where nothing that the law and all that it calls make is longer than what came in: it says more and counts as full. Else prove '..UptoSaid'. A law counts once. -/
mutual
def uptoBulk {H : Type} : DataW H → Nat
  | .lit (.string bytes) => bytes.length + 1
  | .lit _ => 1
  | .nil => 1
  | .ptr d => uptoBulk d + 1
  | .slice elems spare => uptoBulkAll elems + uptoBulkAll spare + 1
  | .agg parts => uptoBulkAll parts + 1
  | .iface _ d => uptoBulk d + 1
  | .map entries => uptoBulkEntries entries + 1
  | .held _ => 1
def uptoBulkAll {H : Type} : List (DataW H) → Nat
  | [] => 0
  | d :: r => uptoBulk d + uptoBulkAll r
def uptoBulkEntries {H : Type} : List (Lit × DataW H) → Nat
  | [] => 0
  | x :: r => uptoBulkEntry x + uptoBulkEntries r
def uptoBulkEntry {H : Type} : Lit × DataW H → Nat
  | (.string bytes, d) => bytes.length + uptoBulk d + 1
  | (_, d) => uptoBulk d + 1
 end
def uptoSmall : (H : Type) → List (DataW H) → Bool := fun _ ds => decide (uptoBulkAll ds ≤ 1048576)
def OpenSpec.upto (s : _root_.Go.ChangeSpec) : _root_.Go.OpenSpec := { _root_.Go.OpenSpec.ofChange s with cond := some uptoSmall }

/-- 'beadlelaw12.ReadsJoins', WHERE WHAT IT READS IS OF BULK AT MOST 1048576: true; the input reads as it did. -/
def readsJoinsUptoRow : OpenClaim := { program := "ytddljfbalbnkcaa", sum := "9725bcff10b305cb978a2e53f0f44cce98cdeb459dbe0efc4519ecde95a7a41a", func := "beadle/beadlelaw12.ReadsJoins", spec := "readsJoins", unfollowed := true, recurses := true, apart := false, narrowed := true }
def ReadsJoinsUptoSaid : Prop := readsJoinsUptoRow.holds Try.pinned (OpenSpec.upto readsJoinsSpec)

/-- 'beadlelaw12.ReadsTells', WHERE WHAT IT READS IS OF BULK AT MOST 1048576: true; the input reads as it did. -/
def readsTellsUptoRow : OpenClaim := { program := "ytddljfbalbnkcaa", sum := "9725bcff10b305cb978a2e53f0f44cce98cdeb459dbe0efc4519ecde95a7a41a", func := "beadle/beadlelaw12.ReadsTells", spec := "readsTells", unfollowed := true, recurses := true, loops := true, apart := false, narrowed := true }
def ReadsTellsUptoSaid : Prop := readsTellsUptoRow.holds Try.pinned (OpenSpec.upto readsTellsSpec)

/-- 'beadlelaw12.ReadsRight', WHERE WHAT IT READS IS OF BULK AT MOST 1048576: true; the input reads as it did. -/
def readsRightUptoRow : OpenClaim := { program := "ytddljfbalbnkcaa", sum := "9725bcff10b305cb978a2e53f0f44cce98cdeb459dbe0efc4519ecde95a7a41a", func := "beadle/beadlelaw12.ReadsRight", spec := "readsRight", unfollowed := true, recurses := true, loops := true, apart := false, narrowed := true }
def ReadsRightUptoSaid : Prop := readsRightUptoRow.holds Try.pinned (OpenSpec.upto readsRightSpec)

end Rows
end Go.Proofs.Ytddljfbalbnkcaa
