/-
  No cell of these rows narrows 'for every input' (looked for: loops, veiled, ifaces, maps, wideKeys, modest, calm, conditions, laid).
  DERIVED. THE GIVEN ROWS OF THIS SEAT. 4 by the template 'for every input the law returns true; each argument reads behind the call as it read before'; 0 by the template 'total and deterministic' (their statements: YtmnnjkdfanghdaaTotals.lean).
  GIVEN WITH THE SEED: the statements are not yours to turn. If you find one false, say at which input.
  Laid BY PROGRAM, IN A SANDBOX (cutbox-rows.mjs): the forced cells as the released guide's own fill.sh prints them over the translation a67f3b620ec2213f… (all of the seat's roots in one cut). By AI agents, Wed Nov 11 2026. No macro, syntax, notation, axiom, sorry.
-/
import Derived.Test.YtmnnjkdfanghdaaChecked
import GoSem.Claim
import GoSem.ClaimJoined
import GoSem.ClaimMapViews
import Derived.JoinedTies
import Derived.KernelRfl
namespace Go.Proofs.Ytmnnjkdfanghdaa
/- THE CELL 'sum', in the pinned program and in every row, IS THE sha256 OF THE DUMP (.gsa) THAT YtmnnjkdfanghdaaProg.lean LOADS. Nothing in Lean hashes anything: it is a label: what it is worth is what the hold of that sum in a sandbox is worth. -/
noncomputable def Try.pinned : Pinned := { name := "ytmnnjkdfanghdaa", sum := "a67f3b620ec2213fcaf53721366c53aec7237ccd9bf6f99fd5b54a34d4fc9f7b", checked := Try.checked }
namespace Rows
def none {H : Type} : Left H := { results := [], args := [] }

/-- 'beadlelaw35.DelegateTells': WHATEVER THE INPUT: true; the input reads as it did. -/
def delegateTellsSpec : ChangeSpec := { name := "delegateTells", fn := fun _ => fun
  | [d1, d2, d3, d4] => { results := [.lit (.bool true)], args := [d1, d2, d3, d4] }
  | _ => none }
def delegateTellsRow : OpenClaim := { program := "ytmnnjkdfanghdaa", sum := "a67f3b620ec2213fcaf53721366c53aec7237ccd9bf6f99fd5b54a34d4fc9f7b", func := "beadle/beadlelaw35.DelegateTells", spec := "delegateTells", unfollowed := true, recurses := true, apart := false }
def DelegateTellsSaid : Prop := delegateTellsRow.holds Try.pinned (OpenSpec.ofChange delegateTellsSpec)

/-- ITS FALSE NEIGHBOUR: 'it returns false'. Refute it at one input. -/
def delegateTellsWrong : ChangeSpec := { name := "delegateTells", fn := fun _ => fun
  | [d1, d2, d3, d4] => { results := [.lit (.bool false)], args := [d1, d2, d3, d4] }
  | _ => none }
def DelegateTellsWrongFalsely : Prop := delegateTellsRow.holds Try.pinned (OpenSpec.ofChange delegateTellsWrong)

/-- 'beadlelaw35.DelegateChains': WHATEVER THE INPUT: true; the input reads as it did. -/
def delegateChainsSpec : ChangeSpec := { name := "delegateChains", fn := fun _ => fun
  | [d1, d2, d3, d4] => { results := [.lit (.bool true)], args := [d1, d2, d3, d4] }
  | _ => none }
def delegateChainsRow : OpenClaim := { program := "ytmnnjkdfanghdaa", sum := "a67f3b620ec2213fcaf53721366c53aec7237ccd9bf6f99fd5b54a34d4fc9f7b", func := "beadle/beadlelaw35.DelegateChains", spec := "delegateChains", unfollowed := true, recurses := true, apart := false }
def DelegateChainsSaid : Prop := delegateChainsRow.holds Try.pinned (OpenSpec.ofChange delegateChainsSpec)

/-- ITS FALSE NEIGHBOUR: 'it returns false'. Refute it at one input. -/
def delegateChainsWrong : ChangeSpec := { name := "delegateChains", fn := fun _ => fun
  | [d1, d2, d3, d4] => { results := [.lit (.bool false)], args := [d1, d2, d3, d4] }
  | _ => none }
def DelegateChainsWrongFalsely : Prop := delegateChainsRow.holds Try.pinned (OpenSpec.ofChange delegateChainsWrong)

/-- 'beadlelaw35.DelegateMore': WHATEVER THE INPUT: true; the input reads as it did. -/
def delegateMoreSpec : ChangeSpec := { name := "delegateMore", fn := fun _ => fun
  | [d1, d2, d3, d4, d5] => { results := [.lit (.bool true)], args := [d1, d2, d3, d4, d5] }
  | _ => none }
def delegateMoreRow : OpenClaim := { program := "ytmnnjkdfanghdaa", sum := "a67f3b620ec2213fcaf53721366c53aec7237ccd9bf6f99fd5b54a34d4fc9f7b", func := "beadle/beadlelaw35.DelegateMore", spec := "delegateMore", unfollowed := true, recurses := true, apart := false }
def DelegateMoreSaid : Prop := delegateMoreRow.holds Try.pinned (OpenSpec.ofChange delegateMoreSpec)

/-- ITS FALSE NEIGHBOUR: 'it returns false'. Refute it at one input. -/
def delegateMoreWrong : ChangeSpec := { name := "delegateMore", fn := fun _ => fun
  | [d1, d2, d3, d4, d5] => { results := [.lit (.bool false)], args := [d1, d2, d3, d4, d5] }
  | _ => none }
def DelegateMoreWrongFalsely : Prop := delegateMoreRow.holds Try.pinned (OpenSpec.ofChange delegateMoreWrong)

/-- 'beadlelaw35.DelegateBound': WHATEVER THE INPUT: true; the input reads as it did. -/
def delegateBoundSpec : ChangeSpec := { name := "delegateBound", fn := fun _ => fun
  | [d1, d2, d3, d4] => { results := [.lit (.bool true)], args := [d1, d2, d3, d4] }
  | _ => none }
def delegateBoundRow : OpenClaim := { program := "ytmnnjkdfanghdaa", sum := "a67f3b620ec2213fcaf53721366c53aec7237ccd9bf6f99fd5b54a34d4fc9f7b", func := "beadle/beadlelaw35.DelegateBound", spec := "delegateBound", unfollowed := true, recurses := true, apart := false }
def DelegateBoundSaid : Prop := delegateBoundRow.holds Try.pinned (OpenSpec.ofChange delegateBoundSpec)

/-- ITS FALSE NEIGHBOUR: 'it returns false'. Refute it at one input. -/
def delegateBoundWrong : ChangeSpec := { name := "delegateBound", fn := fun _ => fun
  | [d1, d2, d3, d4] => { results := [.lit (.bool false)], args := [d1, d2, d3, d4] }
  | _ => none }
def DelegateBoundWrongFalsely : Prop := delegateBoundRow.holds Try.pinned (OpenSpec.ofChange delegateBoundWrong)

/- THE SECOND FORM. 'bulk': how many values and letters a reading holds, each counted each time it is reached (what is shared counts as often as it is met; a slice's spare places count too). A statement '..UptoSaid' is the law's where the arguments, and the package variables that the reading takes, are together of bulk at most 1048576: NARROWER than '..Said'. Prove '..Said' where nothing that the law and all that it calls make is longer than what came in: it says more and counts as full. Else prove '..UptoSaid'. A law counts once. -/
mutual
def uptoBulk {H : Type} : DataW H → Nat
  | .lit (.string bytes) => bytes.length + 1
  | .lit _ => 1
  | .nil => 1
  | .ptr d => uptoBulk d + 1
  | .slice elems spare => uptoBulkAll elems + uptoBulkAll spare + 1
  | .agg parts => uptoBulkAll parts + 1
  | .iface _ d => uptoBulk d + 1
  | .map entries => uptoBulkEntries entries + 1
  | .held _ => 1
def uptoBulkAll {H : Type} : List (DataW H) → Nat
  | [] => 0
  | d :: r => uptoBulk d + uptoBulkAll r
def uptoBulkEntries {H : Type} : List (Lit × DataW H) → Nat
  | [] => 0
  | x :: r => uptoBulkEntry x + uptoBulkEntries r
def uptoBulkEntry {H : Type} : Lit × DataW H → Nat
  | (.string bytes, d) => bytes.length + uptoBulk d + 1
  | (_, d) => uptoBulk d + 1
 end
def uptoSmall : (H : Type) → List (DataW H) → Bool := fun _ ds => decide (uptoBulkAll ds ≤ 1048576)
def OpenSpec.upto (s : _root_.Go.ChangeSpec) : _root_.Go.OpenSpec := { _root_.Go.OpenSpec.ofChange s with cond := some uptoSmall }

/-- 'beadlelaw35.DelegateTells', WHERE WHAT IT READS IS OF BULK AT MOST 1048576: true; the input reads as it did. -/
def delegateTellsUptoRow : OpenClaim := { program := "ytmnnjkdfanghdaa", sum := "a67f3b620ec2213fcaf53721366c53aec7237ccd9bf6f99fd5b54a34d4fc9f7b", func := "beadle/beadlelaw35.DelegateTells", spec := "delegateTells", unfollowed := true, recurses := true, apart := false, narrowed := true }
def DelegateTellsUptoSaid : Prop := delegateTellsUptoRow.holds Try.pinned (OpenSpec.upto delegateTellsSpec)

/-- 'beadlelaw35.DelegateChains', WHERE WHAT IT READS IS OF BULK AT MOST 1048576: true; the input reads as it did. -/
def delegateChainsUptoRow : OpenClaim := { program := "ytmnnjkdfanghdaa", sum := "a67f3b620ec2213fcaf53721366c53aec7237ccd9bf6f99fd5b54a34d4fc9f7b", func := "beadle/beadlelaw35.DelegateChains", spec := "delegateChains", unfollowed := true, recurses := true, apart := false, narrowed := true }
def DelegateChainsUptoSaid : Prop := delegateChainsUptoRow.holds Try.pinned (OpenSpec.upto delegateChainsSpec)

/-- 'beadlelaw35.DelegateMore', WHERE WHAT IT READS IS OF BULK AT MOST 1048576: true; the input reads as it did. -/
def delegateMoreUptoRow : OpenClaim := { program := "ytmnnjkdfanghdaa", sum := "a67f3b620ec2213fcaf53721366c53aec7237ccd9bf6f99fd5b54a34d4fc9f7b", func := "beadle/beadlelaw35.DelegateMore", spec := "delegateMore", unfollowed := true, recurses := true, apart := false, narrowed := true }
def DelegateMoreUptoSaid : Prop := delegateMoreUptoRow.holds Try.pinned (OpenSpec.upto delegateMoreSpec)

/-- 'beadlelaw35.DelegateBound', WHERE WHAT IT READS IS OF BULK AT MOST 1048576: true; the input reads as it did. -/
def delegateBoundUptoRow : OpenClaim := { program := "ytmnnjkdfanghdaa", sum := "a67f3b620ec2213fcaf53721366c53aec7237ccd9bf6f99fd5b54a34d4fc9f7b", func := "beadle/beadlelaw35.DelegateBound", spec := "delegateBound", unfollowed := true, recurses := true, apart := false, narrowed := true }
def DelegateBoundUptoSaid : Prop := delegateBoundUptoRow.holds Try.pinned (OpenSpec.upto delegateBoundSpec)

end Rows
end Go.Proofs.Ytmnnjkdfanghdaa
