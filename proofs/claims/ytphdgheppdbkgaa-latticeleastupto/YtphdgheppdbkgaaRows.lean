/-
  No cell of these rows narrows 'for every input' (looked for: loops, veiled, ifaces, maps, wideKeys, modest, calm, conditions, laid).
  DERIVED. THE GIVEN ROWS OF THIS SEAT. 4 by the template 'for every input the law returns true; each argument reads behind the call as it read before'; 0 by the template 'total and deterministic' (their statements: YtphdgheppdbkgaaTotals.lean).
  GIVEN WITH THE SEED: the statements are not yours to turn. If you find one false, say at which input.
  Laid BY PROGRAM, IN A SANDBOX (cutbox-rows.mjs): the forced cells as the released guide's own fill.sh prints them over the translation 4588bdc8e1dfcfb0… (all of the seat's roots in one cut). By AI agents, Wed Nov 11 2026. No macro, syntax, notation, axiom, sorry.
-/
import Derived.Test.YtphdgheppdbkgaaChecked
import GoSem.Claim
import GoSem.ClaimJoined
import GoSem.ClaimMapViews
import Derived.JoinedTies
import Derived.KernelRfl
namespace Go.Proofs.Ytphdgheppdbkgaa
/- THE CELL 'sum', in the pinned program and in every row, IS THE sha256 OF THE DUMP (.gsa) THAT YtphdgheppdbkgaaProg.lean LOADS. Nothing in Lean hashes anything: it is a label: what it is worth is what the hold of that sum in a sandbox is worth. -/
noncomputable def Try.pinned : Pinned := { name := "ytphdgheppdbkgaa", sum := "4588bdc8e1dfcfb08a987459f9b048d6b650b8a6d549f95223145207ef9cca37", checked := Try.checked }
namespace Rows
def none {H : Type} : Left H := { results := [], args := [] }

/-- 'beadlelaw32.LatticeTells': WHATEVER THE INPUT: true; the input reads as it did. -/
def latticeTellsSpec : ChangeSpec := { name := "latticeTells", fn := fun _ => fun
  | [d1, d2, d3] => { results := [.lit (.bool true)], args := [d1, d2, d3] }
  | _ => none }
def latticeTellsRow : OpenClaim := { program := "ytphdgheppdbkgaa", sum := "4588bdc8e1dfcfb08a987459f9b048d6b650b8a6d549f95223145207ef9cca37", func := "beadle/beadlelaw32.LatticeTells", spec := "latticeTells", recurses := true, apart := false }
def LatticeTellsSaid : Prop := latticeTellsRow.holds Try.pinned (OpenSpec.ofChange latticeTellsSpec)

/-- ITS FALSE NEIGHBOUR: 'it returns false'. Refute it at one input. -/
def latticeTellsWrong : ChangeSpec := { name := "latticeTells", fn := fun _ => fun
  | [d1, d2, d3] => { results := [.lit (.bool false)], args := [d1, d2, d3] }
  | _ => none }
def LatticeTellsWrongFalsely : Prop := latticeTellsRow.holds Try.pinned (OpenSpec.ofChange latticeTellsWrong)

/-- 'beadlelaw32.LatticeLaws': WHATEVER THE INPUT: true; the input reads as it did. -/
def latticeLawsSpec : ChangeSpec := { name := "latticeLaws", fn := fun _ => fun
  | [d1, d2, d3] => { results := [.lit (.bool true)], args := [d1, d2, d3] }
  | _ => none }
def latticeLawsRow : OpenClaim := { program := "ytphdgheppdbkgaa", sum := "4588bdc8e1dfcfb08a987459f9b048d6b650b8a6d549f95223145207ef9cca37", func := "beadle/beadlelaw32.LatticeLaws", spec := "latticeLaws", recurses := true, apart := false }
def LatticeLawsSaid : Prop := latticeLawsRow.holds Try.pinned (OpenSpec.ofChange latticeLawsSpec)

/-- ITS FALSE NEIGHBOUR: 'it returns false'. Refute it at one input. -/
def latticeLawsWrong : ChangeSpec := { name := "latticeLaws", fn := fun _ => fun
  | [d1, d2, d3] => { results := [.lit (.bool false)], args := [d1, d2, d3] }
  | _ => none }
def LatticeLawsWrongFalsely : Prop := latticeLawsRow.holds Try.pinned (OpenSpec.ofChange latticeLawsWrong)

/-- 'beadlelaw32.LatticeLeast': WHATEVER THE INPUT: true; the input reads as it did. -/
def latticeLeastSpec : ChangeSpec := { name := "latticeLeast", fn := fun _ => fun
  | [d1, d2, d3] => { results := [.lit (.bool true)], args := [d1, d2, d3] }
  | _ => none }
def latticeLeastRow : OpenClaim := { program := "ytphdgheppdbkgaa", sum := "4588bdc8e1dfcfb08a987459f9b048d6b650b8a6d549f95223145207ef9cca37", func := "beadle/beadlelaw32.LatticeLeast", spec := "latticeLeast", recurses := true, apart := false }
def LatticeLeastSaid : Prop := latticeLeastRow.holds Try.pinned (OpenSpec.ofChange latticeLeastSpec)

/-- ITS FALSE NEIGHBOUR: 'it returns false'. Refute it at one input. -/
def latticeLeastWrong : ChangeSpec := { name := "latticeLeast", fn := fun _ => fun
  | [d1, d2, d3] => { results := [.lit (.bool false)], args := [d1, d2, d3] }
  | _ => none }
def LatticeLeastWrongFalsely : Prop := latticeLeastRow.holds Try.pinned (OpenSpec.ofChange latticeLeastWrong)

/-- 'beadlelaw32.LatticeFlows': WHATEVER THE INPUT: true; the input reads as it did. -/
def latticeFlowsSpec : ChangeSpec := { name := "latticeFlows", fn := fun _ => fun
  | [d1, d2, d3, d4, d5] => { results := [.lit (.bool true)], args := [d1, d2, d3, d4, d5] }
  | _ => none }
def latticeFlowsRow : OpenClaim := { program := "ytphdgheppdbkgaa", sum := "4588bdc8e1dfcfb08a987459f9b048d6b650b8a6d549f95223145207ef9cca37", func := "beadle/beadlelaw32.LatticeFlows", spec := "latticeFlows", recurses := true, apart := false }
def LatticeFlowsSaid : Prop := latticeFlowsRow.holds Try.pinned (OpenSpec.ofChange latticeFlowsSpec)

/-- ITS FALSE NEIGHBOUR: 'it returns false'. Refute it at one input. -/
def latticeFlowsWrong : ChangeSpec := { name := "latticeFlows", fn := fun _ => fun
  | [d1, d2, d3, d4, d5] => { results := [.lit (.bool false)], args := [d1, d2, d3, d4, d5] }
  | _ => none }
def LatticeFlowsWrongFalsely : Prop := latticeFlowsRow.holds Try.pinned (OpenSpec.ofChange latticeFlowsWrong)

/- THE SECOND FORM. 'bulk': how many values and letters a reading holds, each counted each time it is reached (what is shared counts as often as it is met; a slice's spare places count too). A statement '..UptoSaid' is the law's where the arguments, and the package variables that the reading takes, are together of bulk at most 1048576: NARROWER than '..Said'. Prove '..Said' where nothing that the law and all that it calls make is longer than what came in: it says more and counts as full. Else prove '..UptoSaid'. A law counts once. -/
mutual
def uptoBulk {H : Type} : DataW H → Nat
  | .lit (.string bytes) => bytes.length + 1
  | .lit _ => 1
  | .nil => 1
  | .ptr d => uptoBulk d + 1
  | .slice elems spare => uptoBulkAll elems + uptoBulkAll spare + 1
  | .agg parts => uptoBulkAll parts + 1
  | .iface _ d => uptoBulk d + 1
  | .map entries => uptoBulkEntries entries + 1
  | .held _ => 1
def uptoBulkAll {H : Type} : List (DataW H) → Nat
  | [] => 0
  | d :: r => uptoBulk d + uptoBulkAll r
def uptoBulkEntries {H : Type} : List (Lit × DataW H) → Nat
  | [] => 0
  | x :: r => uptoBulkEntry x + uptoBulkEntries r
def uptoBulkEntry {H : Type} : Lit × DataW H → Nat
  | (.string bytes, d) => bytes.length + uptoBulk d + 1
  | (_, d) => uptoBulk d + 1
 end
def uptoSmall : (H : Type) → List (DataW H) → Bool := fun _ ds => decide (uptoBulkAll ds ≤ 1048576)
def OpenSpec.upto (s : _root_.Go.ChangeSpec) : _root_.Go.OpenSpec := { _root_.Go.OpenSpec.ofChange s with cond := some uptoSmall }

/-- 'beadlelaw32.LatticeTells', WHERE WHAT IT READS IS OF BULK AT MOST 1048576: true; the input reads as it did. -/
def latticeTellsUptoRow : OpenClaim := { program := "ytphdgheppdbkgaa", sum := "4588bdc8e1dfcfb08a987459f9b048d6b650b8a6d549f95223145207ef9cca37", func := "beadle/beadlelaw32.LatticeTells", spec := "latticeTells", recurses := true, apart := false, narrowed := true }
def LatticeTellsUptoSaid : Prop := latticeTellsUptoRow.holds Try.pinned (OpenSpec.upto latticeTellsSpec)

/-- 'beadlelaw32.LatticeLaws', WHERE WHAT IT READS IS OF BULK AT MOST 1048576: true; the input reads as it did. -/
def latticeLawsUptoRow : OpenClaim := { program := "ytphdgheppdbkgaa", sum := "4588bdc8e1dfcfb08a987459f9b048d6b650b8a6d549f95223145207ef9cca37", func := "beadle/beadlelaw32.LatticeLaws", spec := "latticeLaws", recurses := true, apart := false, narrowed := true }
def LatticeLawsUptoSaid : Prop := latticeLawsUptoRow.holds Try.pinned (OpenSpec.upto latticeLawsSpec)

/-- 'beadlelaw32.LatticeLeast', WHERE WHAT IT READS IS OF BULK AT MOST 1048576: true; the input reads as it did. -/
def latticeLeastUptoRow : OpenClaim := { program := "ytphdgheppdbkgaa", sum := "4588bdc8e1dfcfb08a987459f9b048d6b650b8a6d549f95223145207ef9cca37", func := "beadle/beadlelaw32.LatticeLeast", spec := "latticeLeast", recurses := true, apart := false, narrowed := true }
def LatticeLeastUptoSaid : Prop := latticeLeastUptoRow.holds Try.pinned (OpenSpec.upto latticeLeastSpec)

/-- 'beadlelaw32.LatticeFlows', WHERE WHAT IT READS IS OF BULK AT MOST 1048576: true; the input reads as it did. -/
def latticeFlowsUptoRow : OpenClaim := { program := "ytphdgheppdbkgaa", sum := "4588bdc8e1dfcfb08a987459f9b048d6b650b8a6d549f95223145207ef9cca37", func := "beadle/beadlelaw32.LatticeFlows", spec := "latticeFlows", recurses := true, apart := false, narrowed := true }
def LatticeFlowsUptoSaid : Prop := latticeFlowsUptoRow.holds Try.pinned (OpenSpec.upto latticeFlowsSpec)

end Rows
end Go.Proofs.Ytphdgheppdbkgaa
