/-
  No cell of these rows narrows 'for every input' (looked for: loops, veiled, ifaces, maps, wideKeys, modest, calm, conditions, laid).
  DERIVED. THE GIVEN ROWS OF THIS SEAT. 5 by the template 'for every input the law returns true; each argument reads behind the call as it read before'; 0 by the template 'total and deterministic' (their statements: YtnlgkpcffblojaaTotals.lean).
  GIVEN WITH THE SEED: the statements are not yours to turn. If you find one false, say at which input.
  Laid BY PROGRAM, IN A SANDBOX (cutbox-rows.mjs): the forced cells as the released guide's own fill.sh prints them over the translation 1863a00a771dcb93… (all of the seat's roots in one cut). By AI agents, Wed Nov 11 2026. No macro, syntax, notation, axiom, sorry.
-/
import Derived.Test.YtnlgkpcffblojaaChecked
import GoSem.Claim
import GoSem.ClaimJoined
import GoSem.ClaimMapViews
import Derived.JoinedTies
import Derived.KernelRfl
namespace Go.Proofs.Ytnlgkpcffblojaa
/- THE CELL 'sum', in the pinned program and in every row, IS THE sha256 OF THE DUMP (.gsa) THAT YtnlgkpcffblojaaProg.lean LOADS. Nothing in Lean hashes anything: it is a label: what it is worth is what the hold of that sum in a sandbox is worth. -/
noncomputable def Try.pinned : Pinned := { name := "ytnlgkpcffblojaa", sum := "1863a00a771dcb93eaf78cf5b7f5ef8cf26f177417ca36b29c60fae489387533", checked := Try.checked }
namespace Rows
def none {H : Type} : Left H := { results := [], args := [] }

/-- 'storemanlaw09.RankRights': WHATEVER THE INPUT: true; the input reads as it did. -/
def rankRightsSpec : ChangeSpec := { name := "rankRights", fn := fun _ => fun
  | [d1, d2] => { results := [.lit (.bool true)], args := [d1, d2] }
  | _ => none }
def rankRightsRow : OpenClaim := { program := "ytnlgkpcffblojaa", sum := "1863a00a771dcb93eaf78cf5b7f5ef8cf26f177417ca36b29c60fae489387533", func := "storeman/storemanlaw09.RankRights", spec := "rankRights", unfollowed := true, recurses := true, apart := false }
def RankRightsSaid : Prop := rankRightsRow.holds Try.pinned (OpenSpec.ofChange rankRightsSpec)

/-- ITS FALSE NEIGHBOUR: 'it returns false'. Refute it at one input. -/
def rankRightsWrong : ChangeSpec := { name := "rankRights", fn := fun _ => fun
  | [d1, d2] => { results := [.lit (.bool false)], args := [d1, d2] }
  | _ => none }
def RankRightsWrongFalsely : Prop := rankRightsRow.holds Try.pinned (OpenSpec.ofChange rankRightsWrong)

/-- 'storemanlaw09.RankLists': WHATEVER THE INPUT: true; the input reads as it did. -/
def rankListsSpec : ChangeSpec := { name := "rankLists", fn := fun _ => fun
  | [d1, d2] => { results := [.lit (.bool true)], args := [d1, d2] }
  | _ => none }
def rankListsRow : OpenClaim := { program := "ytnlgkpcffblojaa", sum := "1863a00a771dcb93eaf78cf5b7f5ef8cf26f177417ca36b29c60fae489387533", func := "storeman/storemanlaw09.RankLists", spec := "rankLists", unfollowed := true, recurses := true, apart := false }
def RankListsSaid : Prop := rankListsRow.holds Try.pinned (OpenSpec.ofChange rankListsSpec)

/-- ITS FALSE NEIGHBOUR: 'it returns false'. Refute it at one input. -/
def rankListsWrong : ChangeSpec := { name := "rankLists", fn := fun _ => fun
  | [d1, d2] => { results := [.lit (.bool false)], args := [d1, d2] }
  | _ => none }
def RankListsWrongFalsely : Prop := rankListsRow.holds Try.pinned (OpenSpec.ofChange rankListsWrong)

/-- 'storemanlaw09.RankNumbers': WHATEVER THE INPUT: true; the input reads as it did. -/
def rankNumbersSpec : ChangeSpec := { name := "rankNumbers", fn := fun _ => fun
  | [] => { results := [.lit (.bool true)], args := [] }
  | _ => none }
def rankNumbersRow : OpenClaim := { program := "ytnlgkpcffblojaa", sum := "1863a00a771dcb93eaf78cf5b7f5ef8cf26f177417ca36b29c60fae489387533", func := "storeman/storemanlaw09.RankNumbers", spec := "rankNumbers", unfollowed := true, recurses := true, apart := false }
def RankNumbersSaid : Prop := rankNumbersRow.holds Try.pinned (OpenSpec.ofChange rankNumbersSpec)

/-- ITS FALSE NEIGHBOUR: 'it returns false'. Refute it at one input. -/
def rankNumbersWrong : ChangeSpec := { name := "rankNumbers", fn := fun _ => fun
  | [] => { results := [.lit (.bool false)], args := [] }
  | _ => none }
def RankNumbersWrongFalsely : Prop := rankNumbersRow.holds Try.pinned (OpenSpec.ofChange rankNumbersWrong)

/-- 'storemanlaw09.RankOrder': WHATEVER THE INPUT: true; the input reads as it did. -/
def rankOrderSpec : ChangeSpec := { name := "rankOrder", fn := fun _ => fun
  | [d1, d2, d3, d4] => { results := [.lit (.bool true)], args := [d1, d2, d3, d4] }
  | _ => none }
def rankOrderRow : OpenClaim := { program := "ytnlgkpcffblojaa", sum := "1863a00a771dcb93eaf78cf5b7f5ef8cf26f177417ca36b29c60fae489387533", func := "storeman/storemanlaw09.RankOrder", spec := "rankOrder", unfollowed := true, recurses := true, apart := false }
def RankOrderSaid : Prop := rankOrderRow.holds Try.pinned (OpenSpec.ofChange rankOrderSpec)

/-- ITS FALSE NEIGHBOUR: 'it returns false'. Refute it at one input. -/
def rankOrderWrong : ChangeSpec := { name := "rankOrder", fn := fun _ => fun
  | [d1, d2, d3, d4] => { results := [.lit (.bool false)], args := [d1, d2, d3, d4] }
  | _ => none }
def RankOrderWrongFalsely : Prop := rankOrderRow.holds Try.pinned (OpenSpec.ofChange rankOrderWrong)

/-- 'storemanlaw09.RankAhead': WHATEVER THE INPUT: true; the input reads as it did. -/
def rankAheadSpec : ChangeSpec := { name := "rankAhead", fn := fun _ => fun
  | [d1, d2] => { results := [.lit (.bool true)], args := [d1, d2] }
  | _ => none }
def rankAheadRow : OpenClaim := { program := "ytnlgkpcffblojaa", sum := "1863a00a771dcb93eaf78cf5b7f5ef8cf26f177417ca36b29c60fae489387533", func := "storeman/storemanlaw09.RankAhead", spec := "rankAhead", unfollowed := true, recurses := true, apart := false }
def RankAheadSaid : Prop := rankAheadRow.holds Try.pinned (OpenSpec.ofChange rankAheadSpec)

/-- ITS FALSE NEIGHBOUR: 'it returns false'. Refute it at one input. -/
def rankAheadWrong : ChangeSpec := { name := "rankAhead", fn := fun _ => fun
  | [d1, d2] => { results := [.lit (.bool false)], args := [d1, d2] }
  | _ => none }
def RankAheadWrongFalsely : Prop := rankAheadRow.holds Try.pinned (OpenSpec.ofChange rankAheadWrong)

/- THE SECOND FORM. 'bulk': how many values and letters a reading holds, each counted each time it is reached (what is shared counts as often as it is met; a slice's spare places count too). A statement '..UptoSaid' is the law's where the arguments, and the package variables that the reading takes, are together of bulk at most 1048576: NARROWER than '..Said'. Prove '..Said' where nothing that the law and all that it calls make is longer than what came in: it says more and counts as full. Else prove '..UptoSaid'. A law counts once. -/
mutual
def uptoBulk {H : Type} : DataW H → Nat
  | .lit (.string bytes) => bytes.length + 1
  | .lit _ => 1
  | .nil => 1
  | .ptr d => uptoBulk d + 1
  | .slice elems spare => uptoBulkAll elems + uptoBulkAll spare + 1
  | .agg parts => uptoBulkAll parts + 1
  | .iface _ d => uptoBulk d + 1
  | .map entries => uptoBulkEntries entries + 1
  | .held _ => 1
def uptoBulkAll {H : Type} : List (DataW H) → Nat
  | [] => 0
  | d :: r => uptoBulk d + uptoBulkAll r
def uptoBulkEntries {H : Type} : List (Lit × DataW H) → Nat
  | [] => 0
  | x :: r => uptoBulkEntry x + uptoBulkEntries r
def uptoBulkEntry {H : Type} : Lit × DataW H → Nat
  | (.string bytes, d) => bytes.length + uptoBulk d + 1
  | (_, d) => uptoBulk d + 1
 end
def uptoSmall : (H : Type) → List (DataW H) → Bool := fun _ ds => decide (uptoBulkAll ds ≤ 1048576)
def OpenSpec.upto (s : _root_.Go.ChangeSpec) : _root_.Go.OpenSpec := { _root_.Go.OpenSpec.ofChange s with cond := some uptoSmall }

/-- 'storemanlaw09.RankRights', WHERE WHAT IT READS IS OF BULK AT MOST 1048576: true; the input reads as it did. -/
def rankRightsUptoRow : OpenClaim := { program := "ytnlgkpcffblojaa", sum := "1863a00a771dcb93eaf78cf5b7f5ef8cf26f177417ca36b29c60fae489387533", func := "storeman/storemanlaw09.RankRights", spec := "rankRights", unfollowed := true, recurses := true, apart := false, narrowed := true }
def RankRightsUptoSaid : Prop := rankRightsUptoRow.holds Try.pinned (OpenSpec.upto rankRightsSpec)

/-- 'storemanlaw09.RankLists', WHERE WHAT IT READS IS OF BULK AT MOST 1048576: true; the input reads as it did. -/
def rankListsUptoRow : OpenClaim := { program := "ytnlgkpcffblojaa", sum := "1863a00a771dcb93eaf78cf5b7f5ef8cf26f177417ca36b29c60fae489387533", func := "storeman/storemanlaw09.RankLists", spec := "rankLists", unfollowed := true, recurses := true, apart := false, narrowed := true }
def RankListsUptoSaid : Prop := rankListsUptoRow.holds Try.pinned (OpenSpec.upto rankListsSpec)

/-- 'storemanlaw09.RankNumbers', WHERE WHAT IT READS IS OF BULK AT MOST 1048576: true; the input reads as it did. -/
def rankNumbersUptoRow : OpenClaim := { program := "ytnlgkpcffblojaa", sum := "1863a00a771dcb93eaf78cf5b7f5ef8cf26f177417ca36b29c60fae489387533", func := "storeman/storemanlaw09.RankNumbers", spec := "rankNumbers", unfollowed := true, recurses := true, apart := false, narrowed := true }
def RankNumbersUptoSaid : Prop := rankNumbersUptoRow.holds Try.pinned (OpenSpec.upto rankNumbersSpec)

/-- 'storemanlaw09.RankOrder', WHERE WHAT IT READS IS OF BULK AT MOST 1048576: true; the input reads as it did. -/
def rankOrderUptoRow : OpenClaim := { program := "ytnlgkpcffblojaa", sum := "1863a00a771dcb93eaf78cf5b7f5ef8cf26f177417ca36b29c60fae489387533", func := "storeman/storemanlaw09.RankOrder", spec := "rankOrder", unfollowed := true, recurses := true, apart := false, narrowed := true }
def RankOrderUptoSaid : Prop := rankOrderUptoRow.holds Try.pinned (OpenSpec.upto rankOrderSpec)

/-- 'storemanlaw09.RankAhead', WHERE WHAT IT READS IS OF BULK AT MOST 1048576: true; the input reads as it did. -/
def rankAheadUptoRow : OpenClaim := { program := "ytnlgkpcffblojaa", sum := "1863a00a771dcb93eaf78cf5b7f5ef8cf26f177417ca36b29c60fae489387533", func := "storeman/storemanlaw09.RankAhead", spec := "rankAhead", unfollowed := true, recurses := true, apart := false, narrowed := true }
def RankAheadUptoSaid : Prop := rankAheadUptoRow.holds Try.pinned (OpenSpec.upto rankAheadSpec)

end Rows
end Go.Proofs.Ytnlgkpcffblojaa
