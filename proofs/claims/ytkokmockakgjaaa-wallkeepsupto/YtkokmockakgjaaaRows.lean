/-
  No cell of these rows narrows 'for every input' (looked for: loops, veiled, ifaces, maps, wideKeys, modest, calm, conditions, laid).
  DERIVED. THE GIVEN ROWS OF THIS SEAT. 4 by the template 'for every input the law returns true; each argument reads behind the call as it read before'; 0 by the template 'total and deterministic' (their statements: YtkokmockakgjaaaTotals.lean).
  GIVEN WITH THE SEED: the statements are not yours to turn. If you find one false, say at which input.
  Laid BY PROGRAM, IN A SANDBOX (cutbox-rows.mjs): the forced cells as the released guide's own fill.sh prints them over the translation 3e985742964a4f55… (all of the seat's roots in one cut). By AI agents, Wed Nov 11 2026. No macro, syntax, notation, axiom, sorry.
-/
import Derived.Test.YtkokmockakgjaaaChecked
import GoSem.Claim
import GoSem.ClaimJoined
import GoSem.ClaimMapViews
import Derived.JoinedTies
import Derived.KernelRfl
namespace Go.Proofs.Ytkokmockakgjaaa
/- THE CELL 'sum', in the pinned program and in every row, IS THE sha256 OF THE DUMP (.gsa) THAT YtkokmockakgjaaaProg.lean LOADS. Nothing in Lean hashes anything: it is a label: what it is worth is what the hold of that sum in a sandbox is worth. -/
noncomputable def Try.pinned : Pinned := { name := "ytkokmockakgjaaa", sum := "3e985742964a4f55341fd2266b5eab9ed2bf1791f7e79300859b1171ca6d0412", checked := Try.checked }
namespace Rows
def none {H : Type} : Left H := { results := [], args := [] }

/-- 'beadlelaw33.WallRuns': WHATEVER THE INPUT: true; the input reads as it did. -/
def wallRunsSpec : ChangeSpec := { name := "wallRuns", fn := fun _ => fun
  | [d1, d2] => { results := [.lit (.bool true)], args := [d1, d2] }
  | _ => none }
def wallRunsRow : OpenClaim := { program := "ytkokmockakgjaaa", sum := "3e985742964a4f55341fd2266b5eab9ed2bf1791f7e79300859b1171ca6d0412", func := "beadle/beadlelaw33.WallRuns", spec := "wallRuns", unfollowed := true, recurses := true, plainKeys := false, apart := false }
def WallRunsSaid : Prop := wallRunsRow.holds Try.pinned (OpenSpec.ofChange wallRunsSpec)

/-- ITS FALSE NEIGHBOUR: 'it returns false'. Refute it at one input. -/
def wallRunsWrong : ChangeSpec := { name := "wallRuns", fn := fun _ => fun
  | [d1, d2] => { results := [.lit (.bool false)], args := [d1, d2] }
  | _ => none }
def WallRunsWrongFalsely : Prop := wallRunsRow.holds Try.pinned (OpenSpec.ofChange wallRunsWrong)

/-- 'beadlelaw33.WallNever': WHATEVER THE INPUT: true; the input reads as it did. -/
def wallNeverSpec : ChangeSpec := { name := "wallNever", fn := fun _ => fun
  | [d1, d2, d3] => { results := [.lit (.bool true)], args := [d1, d2, d3] }
  | _ => none }
def wallNeverRow : OpenClaim := { program := "ytkokmockakgjaaa", sum := "3e985742964a4f55341fd2266b5eab9ed2bf1791f7e79300859b1171ca6d0412", func := "beadle/beadlelaw33.WallNever", spec := "wallNever", unfollowed := true, recurses := true, plainKeys := false, apart := false }
def WallNeverSaid : Prop := wallNeverRow.holds Try.pinned (OpenSpec.ofChange wallNeverSpec)

/-- ITS FALSE NEIGHBOUR: 'it returns false'. Refute it at one input. -/
def wallNeverWrong : ChangeSpec := { name := "wallNever", fn := fun _ => fun
  | [d1, d2, d3] => { results := [.lit (.bool false)], args := [d1, d2, d3] }
  | _ => none }
def WallNeverWrongFalsely : Prop := wallNeverRow.holds Try.pinned (OpenSpec.ofChange wallNeverWrong)

/-- 'beadlelaw33.WallKeeps': WHATEVER THE INPUT: true; the input reads as it did. -/
def wallKeepsSpec : ChangeSpec := { name := "wallKeeps", fn := fun _ => fun
  | [d1, d2, d3, d4, d5, d6] => { results := [.lit (.bool true)], args := [d1, d2, d3, d4, d5, d6] }
  | _ => none }
def wallKeepsRow : OpenClaim := { program := "ytkokmockakgjaaa", sum := "3e985742964a4f55341fd2266b5eab9ed2bf1791f7e79300859b1171ca6d0412", func := "beadle/beadlelaw33.WallKeeps", spec := "wallKeeps", unfollowed := true, recurses := true, plainKeys := false, apart := false }
def WallKeepsSaid : Prop := wallKeepsRow.holds Try.pinned (OpenSpec.ofChange wallKeepsSpec)

/-- ITS FALSE NEIGHBOUR: 'it returns false'. Refute it at one input. -/
def wallKeepsWrong : ChangeSpec := { name := "wallKeeps", fn := fun _ => fun
  | [d1, d2, d3, d4, d5, d6] => { results := [.lit (.bool false)], args := [d1, d2, d3, d4, d5, d6] }
  | _ => none }
def WallKeepsWrongFalsely : Prop := wallKeepsRow.holds Try.pinned (OpenSpec.ofChange wallKeepsWrong)

/-- 'beadlelaw33.WallClones': WHATEVER THE INPUT: true; the input reads as it did. -/
def wallClonesSpec : ChangeSpec := { name := "wallClones", fn := fun _ => fun
  | [d1, d2, d3, d4] => { results := [.lit (.bool true)], args := [d1, d2, d3, d4] }
  | _ => none }
def wallClonesRow : OpenClaim := { program := "ytkokmockakgjaaa", sum := "3e985742964a4f55341fd2266b5eab9ed2bf1791f7e79300859b1171ca6d0412", func := "beadle/beadlelaw33.WallClones", spec := "wallClones", inPlace := ["maps.clone"], unfollowed := true, recurses := true, plainKeys := false, apart := false }
def WallClonesSaid : Prop := wallClonesRow.holds Try.pinned (OpenSpec.ofChange wallClonesSpec)

/-- ITS FALSE NEIGHBOUR: 'it returns false'. Refute it at one input. -/
def wallClonesWrong : ChangeSpec := { name := "wallClones", fn := fun _ => fun
  | [d1, d2, d3, d4] => { results := [.lit (.bool false)], args := [d1, d2, d3, d4] }
  | _ => none }
def WallClonesWrongFalsely : Prop := wallClonesRow.holds Try.pinned (OpenSpec.ofChange wallClonesWrong)

/- THE SECOND FORM. 'bulk': how many values and letters a reading holds, each counted each time it is reached (what is shared counts as often as it is met; a slice's spare places count too). A statement '..UptoSaid' is the law's where the arguments, and the package variables that the reading takes, are together of bulk at most 1048576: NARROWER than '..Said'. Prove '..Said' where nothing that the law and all that it calls make is longer than what came in: it says more and counts as full. Else prove '..UptoSaid'. A law counts once. -/
mutual
def uptoBulk {H : Type} : DataW H → Nat
  | .lit (.string bytes) => bytes.length + 1
  | .lit _ => 1
  | .nil => 1
  | .ptr d => uptoBulk d + 1
  | .slice elems spare => uptoBulkAll elems + uptoBulkAll spare + 1
  | .agg parts => uptoBulkAll parts + 1
  | .iface _ d => uptoBulk d + 1
  | .map entries => uptoBulkEntries entries + 1
  | .held _ => 1
def uptoBulkAll {H : Type} : List (DataW H) → Nat
  | [] => 0
  | d :: r => uptoBulk d + uptoBulkAll r
def uptoBulkEntries {H : Type} : List (Lit × DataW H) → Nat
  | [] => 0
  | x :: r => uptoBulkEntry x + uptoBulkEntries r
def uptoBulkEntry {H : Type} : Lit × DataW H → Nat
  | (.string bytes, d) => bytes.length + uptoBulk d + 1
  | (_, d) => uptoBulk d + 1
 end
def uptoSmall : (H : Type) → List (DataW H) → Bool := fun _ ds => decide (uptoBulkAll ds ≤ 1048576)
def OpenSpec.upto (s : _root_.Go.ChangeSpec) : _root_.Go.OpenSpec := { _root_.Go.OpenSpec.ofChange s with cond := some uptoSmall }

/-- 'beadlelaw33.WallRuns', WHERE WHAT IT READS IS OF BULK AT MOST 1048576: true; the input reads as it did. -/
def wallRunsUptoRow : OpenClaim := { program := "ytkokmockakgjaaa", sum := "3e985742964a4f55341fd2266b5eab9ed2bf1791f7e79300859b1171ca6d0412", func := "beadle/beadlelaw33.WallRuns", spec := "wallRuns", unfollowed := true, recurses := true, plainKeys := false, apart := false, narrowed := true }
def WallRunsUptoSaid : Prop := wallRunsUptoRow.holds Try.pinned (OpenSpec.upto wallRunsSpec)

/-- 'beadlelaw33.WallNever', WHERE WHAT IT READS IS OF BULK AT MOST 1048576: true; the input reads as it did. -/
def wallNeverUptoRow : OpenClaim := { program := "ytkokmockakgjaaa", sum := "3e985742964a4f55341fd2266b5eab9ed2bf1791f7e79300859b1171ca6d0412", func := "beadle/beadlelaw33.WallNever", spec := "wallNever", unfollowed := true, recurses := true, plainKeys := false, apart := false, narrowed := true }
def WallNeverUptoSaid : Prop := wallNeverUptoRow.holds Try.pinned (OpenSpec.upto wallNeverSpec)

/-- 'beadlelaw33.WallKeeps', WHERE WHAT IT READS IS OF BULK AT MOST 1048576: true; the input reads as it did. -/
def wallKeepsUptoRow : OpenClaim := { program := "ytkokmockakgjaaa", sum := "3e985742964a4f55341fd2266b5eab9ed2bf1791f7e79300859b1171ca6d0412", func := "beadle/beadlelaw33.WallKeeps", spec := "wallKeeps", unfollowed := true, recurses := true, plainKeys := false, apart := false, narrowed := true }
def WallKeepsUptoSaid : Prop := wallKeepsUptoRow.holds Try.pinned (OpenSpec.upto wallKeepsSpec)

/-- 'beadlelaw33.WallClones', WHERE WHAT IT READS IS OF BULK AT MOST 1048576: true; the input reads as it did. -/
def wallClonesUptoRow : OpenClaim := { program := "ytkokmockakgjaaa", sum := "3e985742964a4f55341fd2266b5eab9ed2bf1791f7e79300859b1171ca6d0412", func := "beadle/beadlelaw33.WallClones", spec := "wallClones", inPlace := ["maps.clone"], unfollowed := true, recurses := true, plainKeys := false, apart := false, narrowed := true }
def WallClonesUptoSaid : Prop := wallClonesUptoRow.holds Try.pinned (OpenSpec.upto wallClonesSpec)

end Rows
end Go.Proofs.Ytkokmockakgjaaa
