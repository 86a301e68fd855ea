/-
  No cell of these rows narrows 'for every input' (looked for: loops, veiled, ifaces, maps, wideKeys, modest, calm, conditions, laid).
  DERIVED. THE GIVEN ROWS OF THIS SEAT. 3 by the template 'for every input the law returns true; each argument reads behind the call as it read before'; 0 by the template 'total and deterministic' (their statements: YtlcijlhcilgknaaGreatTotals.lean).
  GIVEN WITH THE SEED: the statements are not yours to turn. If you find one false, say at which input.
  Laid BY PROGRAM, IN A SANDBOX (cutbox-rows.mjs): the forced cells as the released guide's own fill.sh prints them over the translation 37b8e335424788a7… (all of the seat's roots in one cut). By AI agents, Wed Nov 11 2026. No macro, syntax, notation, axiom, sorry.
-/
import Derived.Test.YtlcijlhcilgknaaGreatChecked
import GoSem.Claim
import GoSem.ClaimJoined
import GoSem.ClaimMapViews
import Derived.JoinedTies
import Derived.KernelRfl
namespace Go.Proofs.YtlcijlhcilgknaaGreat
/- THE CELL 'sum', in the pinned program and in every row, IS THE sha256 OF THE DUMP (.gsa) THAT YtlcijlhcilgknaaGreatProg.lean LOADS. Nothing in Lean hashes anything: it is a label: what it is worth is what the hold of that sum in a sandbox is worth. -/
noncomputable def Tryz.pinned : Pinned := { name := "ytlcijlhcilgknaagreat", sum := "37b8e335424788a770b8f7079609898fa93520cf2a4aefda65b6b7c530eade3e", checked := Tryz.checked }
namespace Rows
def none {H : Type} : Left H := { results := [], args := [] }

/-- 'storemanlaw12.GroupOf': WHATEVER THE INPUT: true; the input reads as it did. -/
def groupOfSpec : ChangeSpec := { name := "groupOf", fn := fun _ => fun
  | [d1, d2] => { results := [.lit (.bool true)], args := [d1, d2] }
  | _ => none }
def groupOfRow : OpenClaim := { program := "ytlcijlhcilgknaagreat", sum := "37b8e335424788a770b8f7079609898fa93520cf2a4aefda65b6b7c530eade3e", func := "storeman/storemanlaw12.GroupOf", spec := "groupOf", unfollowed := true, recurses := true, apart := false }
def GroupOfSaid : Prop := groupOfRow.holds Tryz.pinned (OpenSpec.ofChange groupOfSpec)

/-- ITS FALSE NEIGHBOUR: 'it returns false'. Refute it at one input. -/
def groupOfWrong : ChangeSpec := { name := "groupOf", fn := fun _ => fun
  | [d1, d2] => { results := [.lit (.bool false)], args := [d1, d2] }
  | _ => none }
def GroupOfWrongFalsely : Prop := groupOfRow.holds Tryz.pinned (OpenSpec.ofChange groupOfWrong)

/-- 'storemanlaw12.GroupCodes': WHATEVER THE INPUT: true; the input reads as it did. -/
def groupCodesSpec : ChangeSpec := { name := "groupCodes", fn := fun _ => fun
  | [d1, d2, d3] => { results := [.lit (.bool true)], args := [d1, d2, d3] }
  | _ => none }
def groupCodesRow : OpenClaim := { program := "ytlcijlhcilgknaagreat", sum := "37b8e335424788a770b8f7079609898fa93520cf2a4aefda65b6b7c530eade3e", func := "storeman/storemanlaw12.GroupCodes", spec := "groupCodes", unfollowed := true, recurses := true, apart := false }
def GroupCodesSaid : Prop := groupCodesRow.holds Tryz.pinned (OpenSpec.ofChange groupCodesSpec)

/-- ITS FALSE NEIGHBOUR: 'it returns false'. Refute it at one input. -/
def groupCodesWrong : ChangeSpec := { name := "groupCodes", fn := fun _ => fun
  | [d1, d2, d3] => { results := [.lit (.bool false)], args := [d1, d2, d3] }
  | _ => none }
def GroupCodesWrongFalsely : Prop := groupCodesRow.holds Tryz.pinned (OpenSpec.ofChange groupCodesWrong)

/-- 'storemanlaw12.GroupNumbers': WHATEVER THE INPUT: true; the input reads as it did. -/
def groupNumbersSpec : ChangeSpec := { name := "groupNumbers", fn := fun _ => fun
  | [] => { results := [.lit (.bool true)], args := [] }
  | _ => none }
def groupNumbersRow : OpenClaim := { program := "ytlcijlhcilgknaagreat", sum := "37b8e335424788a770b8f7079609898fa93520cf2a4aefda65b6b7c530eade3e", func := "storeman/storemanlaw12.GroupNumbers", spec := "groupNumbers", unfollowed := true, recurses := true, apart := false }
def GroupNumbersSaid : Prop := groupNumbersRow.holds Tryz.pinned (OpenSpec.ofChange groupNumbersSpec)

/-- ITS FALSE NEIGHBOUR: 'it returns false'. Refute it at one input. -/
def groupNumbersWrong : ChangeSpec := { name := "groupNumbers", fn := fun _ => fun
  | [] => { results := [.lit (.bool false)], args := [] }
  | _ => none }
def GroupNumbersWrongFalsely : Prop := groupNumbersRow.holds Tryz.pinned (OpenSpec.ofChange groupNumbersWrong)

/- THE SECOND FORM. 'bulk': how many values and letters a reading holds, each counted each time it is reached (what is shared counts as often as it is met; a slice's spare places count too). A statement '..UptoSaid' is the law's where the arguments, and the package variables that the reading takes, are together of bulk at most 1048576: NARROWER than '..Said'. Prove '..Said' where nothing that the law and all that it calls make is longer than what came in: it says more and counts as full. Else prove '..UptoSaid'. A law counts once. -/
mutual
def uptoBulk {H : Type} : DataW H → Nat
  | .lit (.string bytes) => bytes.length + 1
  | .lit _ => 1
  | .nil => 1
  | .ptr d => uptoBulk d + 1
  | .slice elems spare => uptoBulkAll elems + uptoBulkAll spare + 1
  | .agg parts => uptoBulkAll parts + 1
  | .iface _ d => uptoBulk d + 1
  | .map entries => uptoBulkEntries entries + 1
  | .held _ => 1
def uptoBulkAll {H : Type} : List (DataW H) → Nat
  | [] => 0
  | d :: r => uptoBulk d + uptoBulkAll r
def uptoBulkEntries {H : Type} : List (Lit × DataW H) → Nat
  | [] => 0
  | x :: r => uptoBulkEntry x + uptoBulkEntries r
def uptoBulkEntry {H : Type} : Lit × DataW H → Nat
  | (.string bytes, d) => bytes.length + uptoBulk d + 1
  | (_, d) => uptoBulk d + 1
 end
def uptoSmall : (H : Type) → List (DataW H) → Bool := fun _ ds => decide (uptoBulkAll ds ≤ 1048576)
def OpenSpec.upto (s : _root_.Go.ChangeSpec) : _root_.Go.OpenSpec := { _root_.Go.OpenSpec.ofChange s with cond := some uptoSmall }

/-- 'storemanlaw12.GroupOf', WHERE WHAT IT READS IS OF BULK AT MOST 1048576: true; the input reads as it did. -/
def groupOfUptoRow : OpenClaim := { program := "ytlcijlhcilgknaagreat", sum := "37b8e335424788a770b8f7079609898fa93520cf2a4aefda65b6b7c530eade3e", func := "storeman/storemanlaw12.GroupOf", spec := "groupOf", unfollowed := true, recurses := true, apart := false, narrowed := true }
def GroupOfUptoSaid : Prop := groupOfUptoRow.holds Tryz.pinned (OpenSpec.upto groupOfSpec)

/-- 'storemanlaw12.GroupCodes', WHERE WHAT IT READS IS OF BULK AT MOST 1048576: true; the input reads as it did. -/
def groupCodesUptoRow : OpenClaim := { program := "ytlcijlhcilgknaagreat", sum := "37b8e335424788a770b8f7079609898fa93520cf2a4aefda65b6b7c530eade3e", func := "storeman/storemanlaw12.GroupCodes", spec := "groupCodes", unfollowed := true, recurses := true, apart := false, narrowed := true }
def GroupCodesUptoSaid : Prop := groupCodesUptoRow.holds Tryz.pinned (OpenSpec.upto groupCodesSpec)

/-- 'storemanlaw12.GroupNumbers', WHERE WHAT IT READS IS OF BULK AT MOST 1048576: true; the input reads as it did. -/
def groupNumbersUptoRow : OpenClaim := { program := "ytlcijlhcilgknaagreat", sum := "37b8e335424788a770b8f7079609898fa93520cf2a4aefda65b6b7c530eade3e", func := "storeman/storemanlaw12.GroupNumbers", spec := "groupNumbers", unfollowed := true, recurses := true, apart := false, narrowed := true }
def GroupNumbersUptoSaid : Prop := groupNumbersUptoRow.holds Tryz.pinned (OpenSpec.upto groupNumbersSpec)

end Rows
end Go.Proofs.YtlcijlhcilgknaaGreat
