/-
  No cell of these rows narrows 'for every input' (looked for: loops, veiled, ifaces, maps, wideKeys, modest, calm, conditions, laid).
  DERIVED. THE GIVEN ROWS OF THIS SEAT. 4 by the template 'for every input the law returns true; each argument reads behind the call as it read before'; 0 by the template 'total and deterministic' (their statements: YtjnbdnabdinpeaaTotals.lean).
  GIVEN WITH THE SEED: the statements are not yours to turn. If you find one false, say at which input.
  Laid BY PROGRAM, IN A SANDBOX (cutbox-rows.mjs): the forced cells as the released guide's own fill.sh prints them over the translation 9c9466081a787230… (all of the seat's roots in one cut). By AI agents, Wed Nov 11 2026. No macro, syntax, notation, axiom, sorry.
-/
import Derived.Test.YtjnbdnabdinpeaaChecked
import GoSem.Claim
import GoSem.ClaimJoined
import GoSem.ClaimMapViews
import Derived.JoinedTies
import Derived.KernelRfl
namespace Go.Proofs.Ytjnbdnabdinpeaa
/- THE CELL 'sum', in the pinned program and in every row, IS THE sha256 OF THE DUMP (.gsa) THAT YtjnbdnabdinpeaaProg.lean LOADS. Nothing in Lean hashes anything: it is a label: what it is worth is what the hold of that sum in a sandbox is worth. -/
noncomputable def Try.pinned : Pinned := { name := "ytjnbdnabdinpeaa", sum := "9c9466081a787230abd0f41a11439fb6b2ccab5e05d1d60b1f5bbaee0f5f6ed3", checked := Try.checked }
namespace Rows
def none {H : Type} : Left H := { results := [], args := [] }

/-- 'beadlelaw31.RolesReaches': WHATEVER THE INPUT: true; the input reads as it did. -/
def rolesReachesSpec : ChangeSpec := { name := "rolesReaches", fn := fun _ => fun
  | [d1, d2, d3] => { results := [.lit (.bool true)], args := [d1, d2, d3] }
  | _ => none }
def rolesReachesRow : OpenClaim := { program := "ytjnbdnabdinpeaa", sum := "9c9466081a787230abd0f41a11439fb6b2ccab5e05d1d60b1f5bbaee0f5f6ed3", func := "beadle/beadlelaw31.RolesReaches", spec := "rolesReaches", unfollowed := true, recurses := true, apart := false }
def RolesReachesSaid : Prop := rolesReachesRow.holds Try.pinned (OpenSpec.ofChange rolesReachesSpec)

/-- ITS FALSE NEIGHBOUR: 'it returns false'. Refute it at one input. -/
def rolesReachesWrong : ChangeSpec := { name := "rolesReaches", fn := fun _ => fun
  | [d1, d2, d3] => { results := [.lit (.bool false)], args := [d1, d2, d3] }
  | _ => none }
def RolesReachesWrongFalsely : Prop := rolesReachesRow.holds Try.pinned (OpenSpec.ofChange rolesReachesWrong)

/-- 'beadlelaw31.RolesChecks': WHATEVER THE INPUT: true; the input reads as it did. -/
def rolesChecksSpec : ChangeSpec := { name := "rolesChecks", fn := fun _ => fun
  | [d] => { results := [.lit (.bool true)], args := [d] }
  | _ => none }
def rolesChecksRow : OpenClaim := { program := "ytjnbdnabdinpeaa", sum := "9c9466081a787230abd0f41a11439fb6b2ccab5e05d1d60b1f5bbaee0f5f6ed3", func := "beadle/beadlelaw31.RolesChecks", spec := "rolesChecks", unfollowed := true, recurses := true, apart := false }
def RolesChecksSaid : Prop := rolesChecksRow.holds Try.pinned (OpenSpec.ofChange rolesChecksSpec)

/-- ITS FALSE NEIGHBOUR: 'it returns false'. Refute it at one input. -/
def rolesChecksWrong : ChangeSpec := { name := "rolesChecks", fn := fun _ => fun
  | [d] => { results := [.lit (.bool false)], args := [d] }
  | _ => none }
def RolesChecksWrongFalsely : Prop := rolesChecksRow.holds Try.pinned (OpenSpec.ofChange rolesChecksWrong)

/-- 'beadlelaw31.RolesLevels': WHATEVER THE INPUT: true; the input reads as it did. -/
def rolesLevelsSpec : ChangeSpec := { name := "rolesLevels", fn := fun _ => fun
  | [d1, d2] => { results := [.lit (.bool true)], args := [d1, d2] }
  | _ => none }
def rolesLevelsRow : OpenClaim := { program := "ytjnbdnabdinpeaa", sum := "9c9466081a787230abd0f41a11439fb6b2ccab5e05d1d60b1f5bbaee0f5f6ed3", func := "beadle/beadlelaw31.RolesLevels", spec := "rolesLevels", unfollowed := true, recurses := true, apart := false }
def RolesLevelsSaid : Prop := rolesLevelsRow.holds Try.pinned (OpenSpec.ofChange rolesLevelsSpec)

/-- ITS FALSE NEIGHBOUR: 'it returns false'. Refute it at one input. -/
def rolesLevelsWrong : ChangeSpec := { name := "rolesLevels", fn := fun _ => fun
  | [d1, d2] => { results := [.lit (.bool false)], args := [d1, d2] }
  | _ => none }
def RolesLevelsWrongFalsely : Prop := rolesLevelsRow.holds Try.pinned (OpenSpec.ofChange rolesLevelsWrong)

/-- 'beadlelaw31.RolesReduces': WHATEVER THE INPUT: true; the input reads as it did. -/
def rolesReducesSpec : ChangeSpec := { name := "rolesReduces", fn := fun _ => fun
  | [d1, d2] => { results := [.lit (.bool true)], args := [d1, d2] }
  | _ => none }
def rolesReducesRow : OpenClaim := { program := "ytjnbdnabdinpeaa", sum := "9c9466081a787230abd0f41a11439fb6b2ccab5e05d1d60b1f5bbaee0f5f6ed3", func := "beadle/beadlelaw31.RolesReduces", spec := "rolesReduces", unfollowed := true, recurses := true, apart := false }
def RolesReducesSaid : Prop := rolesReducesRow.holds Try.pinned (OpenSpec.ofChange rolesReducesSpec)

/-- ITS FALSE NEIGHBOUR: 'it returns false'. Refute it at one input. -/
def rolesReducesWrong : ChangeSpec := { name := "rolesReduces", fn := fun _ => fun
  | [d1, d2] => { results := [.lit (.bool false)], args := [d1, d2] }
  | _ => none }
def RolesReducesWrongFalsely : Prop := rolesReducesRow.holds Try.pinned (OpenSpec.ofChange rolesReducesWrong)

/- THE SECOND FORM. 'bulk': how many values and letters a reading holds, each counted each time it is reached (what is shared counts as often as it is met; a slice's spare places count too). A statement '..UptoSaid' is the law's where the arguments, and the package variables that the reading takes, are together of bulk at most 1048576: NARROWER than '..Said'. Prove '..Said' where nothing that the law and all that it calls make is longer than what came in: it says more and counts as full. Else prove '..UptoSaid'. A law counts once. -/
mutual
def uptoBulk {H : Type} : DataW H → Nat
  | .lit (.string bytes) => bytes.length + 1
  | .lit _ => 1
  | .nil => 1
  | .ptr d => uptoBulk d + 1
  | .slice elems spare => uptoBulkAll elems + uptoBulkAll spare + 1
  | .agg parts => uptoBulkAll parts + 1
  | .iface _ d => uptoBulk d + 1
  | .map entries => uptoBulkEntries entries + 1
  | .held _ => 1
def uptoBulkAll {H : Type} : List (DataW H) → Nat
  | [] => 0
  | d :: r => uptoBulk d + uptoBulkAll r
def uptoBulkEntries {H : Type} : List (Lit × DataW H) → Nat
  | [] => 0
  | x :: r => uptoBulkEntry x + uptoBulkEntries r
def uptoBulkEntry {H : Type} : Lit × DataW H → Nat
  | (.string bytes, d) => bytes.length + uptoBulk d + 1
  | (_, d) => uptoBulk d + 1
 end
def uptoSmall : (H : Type) → List (DataW H) → Bool := fun _ ds => decide (uptoBulkAll ds ≤ 1048576)
def OpenSpec.upto (s : _root_.Go.ChangeSpec) : _root_.Go.OpenSpec := { _root_.Go.OpenSpec.ofChange s with cond := some uptoSmall }

/-- 'beadlelaw31.RolesReaches', WHERE WHAT IT READS IS OF BULK AT MOST 1048576: true; the input reads as it did. -/
def rolesReachesUptoRow : OpenClaim := { program := "ytjnbdnabdinpeaa", sum := "9c9466081a787230abd0f41a11439fb6b2ccab5e05d1d60b1f5bbaee0f5f6ed3", func := "beadle/beadlelaw31.RolesReaches", spec := "rolesReaches", unfollowed := true, recurses := true, apart := false, narrowed := true }
def RolesReachesUptoSaid : Prop := rolesReachesUptoRow.holds Try.pinned (OpenSpec.upto rolesReachesSpec)

/-- 'beadlelaw31.RolesChecks', WHERE WHAT IT READS IS OF BULK AT MOST 1048576: true; the input reads as it did. -/
def rolesChecksUptoRow : OpenClaim := { program := "ytjnbdnabdinpeaa", sum := "9c9466081a787230abd0f41a11439fb6b2ccab5e05d1d60b1f5bbaee0f5f6ed3", func := "beadle/beadlelaw31.RolesChecks", spec := "rolesChecks", unfollowed := true, recurses := true, apart := false, narrowed := true }
def RolesChecksUptoSaid : Prop := rolesChecksUptoRow.holds Try.pinned (OpenSpec.upto rolesChecksSpec)

/-- 'beadlelaw31.RolesLevels', WHERE WHAT IT READS IS OF BULK AT MOST 1048576: true; the input reads as it did. -/
def rolesLevelsUptoRow : OpenClaim := { program := "ytjnbdnabdinpeaa", sum := "9c9466081a787230abd0f41a11439fb6b2ccab5e05d1d60b1f5bbaee0f5f6ed3", func := "beadle/beadlelaw31.RolesLevels", spec := "rolesLevels", unfollowed := true, recurses := true, apart := false, narrowed := true }
def RolesLevelsUptoSaid : Prop := rolesLevelsUptoRow.holds Try.pinned (OpenSpec.upto rolesLevelsSpec)

/-- 'beadlelaw31.RolesReduces', WHERE WHAT IT READS IS OF BULK AT MOST 1048576: true; the input reads as it did. -/
def rolesReducesUptoRow : OpenClaim := { program := "ytjnbdnabdinpeaa", sum := "9c9466081a787230abd0f41a11439fb6b2ccab5e05d1d60b1f5bbaee0f5f6ed3", func := "beadle/beadlelaw31.RolesReduces", spec := "rolesReduces", unfollowed := true, recurses := true, apart := false, narrowed := true }
def RolesReducesUptoSaid : Prop := rolesReducesUptoRow.holds Try.pinned (OpenSpec.upto rolesReducesSpec)

end Rows
end Go.Proofs.Ytjnbdnabdinpeaa
