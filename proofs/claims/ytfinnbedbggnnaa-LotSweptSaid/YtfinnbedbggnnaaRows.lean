/-
  No cell of these rows narrows 'for every input' (looked for: loops, veiled, ifaces, maps, wideKeys, modest, calm, conditions, laid).
  DERIVED. THE GIVEN ROWS OF THIS SEAT. 3 by the template 'for every input the law returns true; each argument reads behind the call as it read before'; 0 by the template 'total and deterministic' (their statements: YtfinnbedbggnnaaTotals.lean).
  GIVEN WITH THE SEED: the statements are not yours to turn. If you find one false, say at which input.
  Laid BY PROGRAM, IN A SANDBOX (cutbox-rows.mjs): the forced cells as the released guide's own fill.sh prints them over the translation 7dea55342e70df53… (all of the seat's roots in one cut). By AI agents, Wed Nov 11 2026. No macro, syntax, notation, axiom, sorry.
-/
import Derived.Test.YtfinnbedbggnnaaChecked
import GoSem.Claim
import GoSem.ClaimJoined
import GoSem.ClaimMapViews
import Derived.JoinedTies
import Derived.KernelRfl
namespace Go.Proofs.Ytfinnbedbggnnaa
/- THE CELL 'sum', in the pinned program and in every row, IS THE sha256 OF THE DUMP (.gsa) THAT YtfinnbedbggnnaaProg.lean LOADS. Nothing in Lean hashes anything: it is a label: what it is worth is what the hold of that sum in a sandbox is worth. -/
noncomputable def Try.pinned : Pinned := { name := "ytfinnbedbggnnaa", sum := "7dea55342e70df531ea6ec2227adf960d48d76ac02d59bc2ecb4c026ce22d36f", checked := Try.checked }
namespace Rows
def none {H : Type} : Left H := { results := [], args := [] }

/-- 'storemanlaw04.LotRights': WHATEVER THE INPUT: true; the input reads as it did. -/
def lotRightsSpec : ChangeSpec := { name := "lotRights", fn := fun _ => fun
  | [d1, d2] => { results := [.lit (.bool true)], args := [d1, d2] }
  | _ => none }
def lotRightsRow : OpenClaim := { program := "ytfinnbedbggnnaa", sum := "7dea55342e70df531ea6ec2227adf960d48d76ac02d59bc2ecb4c026ce22d36f", func := "storeman/storemanlaw04.LotRights", spec := "lotRights", unfollowed := true, recurses := true, apart := false }
def LotRightsSaid : Prop := lotRightsRow.holds Try.pinned (OpenSpec.ofChange lotRightsSpec)

/-- ITS FALSE NEIGHBOUR: 'it returns false'. Refute it at one input. -/
def lotRightsWrong : ChangeSpec := { name := "lotRights", fn := fun _ => fun
  | [d1, d2] => { results := [.lit (.bool false)], args := [d1, d2] }
  | _ => none }
def LotRightsWrongFalsely : Prop := lotRightsRow.holds Try.pinned (OpenSpec.ofChange lotRightsWrong)

/-- 'storemanlaw04.LotSorted': WHATEVER THE INPUT: true; the input reads as it did. -/
def lotSortedSpec : ChangeSpec := { name := "lotSorted", fn := fun _ => fun
  | [d1, d2, d3, d4] => { results := [.lit (.bool true)], args := [d1, d2, d3, d4] }
  | _ => none }
def lotSortedRow : OpenClaim := { program := "ytfinnbedbggnnaa", sum := "7dea55342e70df531ea6ec2227adf960d48d76ac02d59bc2ecb4c026ce22d36f", func := "storeman/storemanlaw04.LotSorted", spec := "lotSorted", unfollowed := true, recurses := true, apart := false }
def LotSortedSaid : Prop := lotSortedRow.holds Try.pinned (OpenSpec.ofChange lotSortedSpec)

/-- ITS FALSE NEIGHBOUR: 'it returns false'. Refute it at one input. -/
def lotSortedWrong : ChangeSpec := { name := "lotSorted", fn := fun _ => fun
  | [d1, d2, d3, d4] => { results := [.lit (.bool false)], args := [d1, d2, d3, d4] }
  | _ => none }
def LotSortedWrongFalsely : Prop := lotSortedRow.holds Try.pinned (OpenSpec.ofChange lotSortedWrong)

/-- 'storemanlaw04.LotSwept': WHATEVER THE INPUT: true; the input reads as it did. -/
def lotSweptSpec : ChangeSpec := { name := "lotSwept", fn := fun _ => fun
  | [d1, d2, d3] => { results := [.lit (.bool true)], args := [d1, d2, d3] }
  | _ => none }
def lotSweptRow : OpenClaim := { program := "ytfinnbedbggnnaa", sum := "7dea55342e70df531ea6ec2227adf960d48d76ac02d59bc2ecb4c026ce22d36f", func := "storeman/storemanlaw04.LotSwept", spec := "lotSwept", unfollowed := true, recurses := true, apart := false }
def LotSweptSaid : Prop := lotSweptRow.holds Try.pinned (OpenSpec.ofChange lotSweptSpec)

/-- ITS FALSE NEIGHBOUR: 'it returns false'. Refute it at one input. -/
def lotSweptWrong : ChangeSpec := { name := "lotSwept", fn := fun _ => fun
  | [d1, d2, d3] => { results := [.lit (.bool false)], args := [d1, d2, d3] }
  | _ => none }
def LotSweptWrongFalsely : Prop := lotSweptRow.holds Try.pinned (OpenSpec.ofChange lotSweptWrong)

/- THE SECOND FORM. 'bulk': how many values and letters a reading holds, each counted each time it is reached (what is shared counts as often as it is met; a slice's spare places count too). A statement '..UptoSaid' is the law's where the arguments, and the package variables that the reading takes, are together of bulk at most 1048576: NARROWER than '..Said'. Prove '..Said' where nothing that the law and all that it calls make is longer than what came in: it says more and counts as full. Else prove '..UptoSaid'. A law counts once. -/
mutual
def uptoBulk {H : Type} : DataW H → Nat
  | .lit (.string bytes) => bytes.length + 1
  | .lit _ => 1
  | .nil => 1
  | .ptr d => uptoBulk d + 1
  | .slice elems spare => uptoBulkAll elems + uptoBulkAll spare + 1
  | .agg parts => uptoBulkAll parts + 1
  | .iface _ d => uptoBulk d + 1
  | .map entries => uptoBulkEntries entries + 1
  | .held _ => 1
def uptoBulkAll {H : Type} : List (DataW H) → Nat
  | [] => 0
  | d :: r => uptoBulk d + uptoBulkAll r
def uptoBulkEntries {H : Type} : List (Lit × DataW H) → Nat
  | [] => 0
  | x :: r => uptoBulkEntry x + uptoBulkEntries r
def uptoBulkEntry {H : Type} : Lit × DataW H → Nat
  | (.string bytes, d) => bytes.length + uptoBulk d + 1
  | (_, d) => uptoBulk d + 1
 end
def uptoSmall : (H : Type) → List (DataW H) → Bool := fun _ ds => decide (uptoBulkAll ds ≤ 1048576)
def OpenSpec.upto (s : _root_.Go.ChangeSpec) : _root_.Go.OpenSpec := { _root_.Go.OpenSpec.ofChange s with cond := some uptoSmall }

/-- 'storemanlaw04.LotRights', WHERE WHAT IT READS IS OF BULK AT MOST 1048576: true; the input reads as it did. -/
def lotRightsUptoRow : OpenClaim := { program := "ytfinnbedbggnnaa", sum := "7dea55342e70df531ea6ec2227adf960d48d76ac02d59bc2ecb4c026ce22d36f", func := "storeman/storemanlaw04.LotRights", spec := "lotRights", unfollowed := true, recurses := true, apart := false, narrowed := true }
def LotRightsUptoSaid : Prop := lotRightsUptoRow.holds Try.pinned (OpenSpec.upto lotRightsSpec)

/-- 'storemanlaw04.LotSorted', WHERE WHAT IT READS IS OF BULK AT MOST 1048576: true; the input reads as it did. -/
def lotSortedUptoRow : OpenClaim := { program := "ytfinnbedbggnnaa", sum := "7dea55342e70df531ea6ec2227adf960d48d76ac02d59bc2ecb4c026ce22d36f", func := "storeman/storemanlaw04.LotSorted", spec := "lotSorted", unfollowed := true, recurses := true, apart := false, narrowed := true }
def LotSortedUptoSaid : Prop := lotSortedUptoRow.holds Try.pinned (OpenSpec.upto lotSortedSpec)

/-- 'storemanlaw04.LotSwept', WHERE WHAT IT READS IS OF BULK AT MOST 1048576: true; the input reads as it did. -/
def lotSweptUptoRow : OpenClaim := { program := "ytfinnbedbggnnaa", sum := "7dea55342e70df531ea6ec2227adf960d48d76ac02d59bc2ecb4c026ce22d36f", func := "storeman/storemanlaw04.LotSwept", spec := "lotSwept", unfollowed := true, recurses := true, apart := false, narrowed := true }
def LotSweptUptoSaid : Prop := lotSweptUptoRow.holds Try.pinned (OpenSpec.upto lotSweptSpec)

end Rows
end Go.Proofs.Ytfinnbedbggnnaa
