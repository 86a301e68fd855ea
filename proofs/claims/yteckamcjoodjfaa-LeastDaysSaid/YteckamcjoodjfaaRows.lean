/-
  No cell of these rows narrows 'for every input' (looked for: loops, veiled, ifaces, maps, wideKeys, modest, calm, conditions, laid).
  DERIVED. THE GIVEN ROWS OF THIS SEAT. 3 by the template 'for every input the law returns true; each argument reads behind the call as it read before'; 0 by the template 'total and deterministic' (their statements: YteckamcjoodjfaaTotals.lean).
  GIVEN WITH THE SEED: the statements are not yours to turn. If you find one false, say at which input.
  Laid BY PROGRAM, IN A SANDBOX (cutbox-rows.mjs): the forced cells as the released guide's own fill.sh prints them over the translation 82a0bbeef2934995… (all of the seat's roots in one cut). By AI agents, Wed Nov 11 2026. No macro, syntax, notation, axiom, sorry.
-/
import Derived.Test.YteckamcjoodjfaaChecked
import GoSem.Claim
import GoSem.ClaimJoined
import GoSem.ClaimMapViews
import Derived.JoinedTies
import Derived.KernelRfl
namespace Go.Proofs.Yteckamcjoodjfaa
/- THE CELL 'sum', in the pinned program and in every row, IS THE sha256 OF THE DUMP (.gsa) THAT YteckamcjoodjfaaProg.lean LOADS. Nothing in Lean hashes anything: it is a label: what it is worth is what the hold of that sum in a sandbox is worth. -/
noncomputable def Try.pinned : Pinned := { name := "yteckamcjoodjfaa", sum := "82a0bbeef2934995bf5aa5f59fd0700458a0add796df78f240f7abaa9c663a6d", checked := Try.checked }
namespace Rows
def none {H : Type} : Left H := { results := [], args := [] }

/-- 'storemanlaw06.LeastDays': WHATEVER THE INPUT: true; the input reads as it did. -/
def leastDaysSpec : ChangeSpec := { name := "leastDays", fn := fun _ => fun
  | [d1, d2, d3, d4, d5] => { results := [.lit (.bool true)], args := [d1, d2, d3, d4, d5] }
  | _ => none }
def leastDaysRow : OpenClaim := { program := "yteckamcjoodjfaa", sum := "82a0bbeef2934995bf5aa5f59fd0700458a0add796df78f240f7abaa9c663a6d", func := "storeman/storemanlaw06.LeastDays", spec := "leastDays", unfollowed := true, recurses := true, apart := false }
def LeastDaysSaid : Prop := leastDaysRow.holds Try.pinned (OpenSpec.ofChange leastDaysSpec)

/-- ITS FALSE NEIGHBOUR: 'it returns false'. Refute it at one input. -/
def leastDaysWrong : ChangeSpec := { name := "leastDays", fn := fun _ => fun
  | [d1, d2, d3, d4, d5] => { results := [.lit (.bool false)], args := [d1, d2, d3, d4, d5] }
  | _ => none }
def LeastDaysWrongFalsely : Prop := leastDaysRow.holds Try.pinned (OpenSpec.ofChange leastDaysWrong)

/-- 'storemanlaw06.LeastFirst': WHATEVER THE INPUT: true; the input reads as it did. -/
def leastFirstSpec : ChangeSpec := { name := "leastFirst", fn := fun _ => fun
  | [d1, d2, d3, d4, d5] => { results := [.lit (.bool true)], args := [d1, d2, d3, d4, d5] }
  | _ => none }
def leastFirstRow : OpenClaim := { program := "yteckamcjoodjfaa", sum := "82a0bbeef2934995bf5aa5f59fd0700458a0add796df78f240f7abaa9c663a6d", func := "storeman/storemanlaw06.LeastFirst", spec := "leastFirst", unfollowed := true, recurses := true, apart := false }
def LeastFirstSaid : Prop := leastFirstRow.holds Try.pinned (OpenSpec.ofChange leastFirstSpec)

/-- ITS FALSE NEIGHBOUR: 'it returns false'. Refute it at one input. -/
def leastFirstWrong : ChangeSpec := { name := "leastFirst", fn := fun _ => fun
  | [d1, d2, d3, d4, d5] => { results := [.lit (.bool false)], args := [d1, d2, d3, d4, d5] }
  | _ => none }
def LeastFirstWrongFalsely : Prop := leastFirstRow.holds Try.pinned (OpenSpec.ofChange leastFirstWrong)

/-- 'storemanlaw06.LeastMore': WHATEVER THE INPUT: true; the input reads as it did. -/
def leastMoreSpec : ChangeSpec := { name := "leastMore", fn := fun _ => fun
  | [d1, d2, d3, d4, d5, d6, d7] => { results := [.lit (.bool true)], args := [d1, d2, d3, d4, d5, d6, d7] }
  | _ => none }
def leastMoreRow : OpenClaim := { program := "yteckamcjoodjfaa", sum := "82a0bbeef2934995bf5aa5f59fd0700458a0add796df78f240f7abaa9c663a6d", func := "storeman/storemanlaw06.LeastMore", spec := "leastMore", unfollowed := true, recurses := true, apart := false }
def LeastMoreSaid : Prop := leastMoreRow.holds Try.pinned (OpenSpec.ofChange leastMoreSpec)

/-- ITS FALSE NEIGHBOUR: 'it returns false'. Refute it at one input. -/
def leastMoreWrong : ChangeSpec := { name := "leastMore", fn := fun _ => fun
  | [d1, d2, d3, d4, d5, d6, d7] => { results := [.lit (.bool false)], args := [d1, d2, d3, d4, d5, d6, d7] }
  | _ => none }
def LeastMoreWrongFalsely : Prop := leastMoreRow.holds Try.pinned (OpenSpec.ofChange leastMoreWrong)

/- THE SECOND FORM. 'bulk': how many values and letters a reading holds, each counted each time it is reached (what is shared counts as often as it is met; a slice's spare places count too). A statement '..UptoSaid' is the law's where the arguments, and the package variables that the reading takes, are together of bulk at most 1048576: NARROWER than '..Said'. Prove '..Said' where nothing that the law and all that it calls make is longer than what came in: it says more and counts as full. Else prove '..UptoSaid'. A law counts once. -/
mutual
def uptoBulk {H : Type} : DataW H → Nat
  | .lit (.string bytes) => bytes.length + 1
  | .lit _ => 1
  | .nil => 1
  | .ptr d => uptoBulk d + 1
  | .slice elems spare => uptoBulkAll elems + uptoBulkAll spare + 1
  | .agg parts => uptoBulkAll parts + 1
  | .iface _ d => uptoBulk d + 1
  | .map entries => uptoBulkEntries entries + 1
  | .held _ => 1
def uptoBulkAll {H : Type} : List (DataW H) → Nat
  | [] => 0
  | d :: r => uptoBulk d + uptoBulkAll r
def uptoBulkEntries {H : Type} : List (Lit × DataW H) → Nat
  | [] => 0
  | x :: r => uptoBulkEntry x + uptoBulkEntries r
def uptoBulkEntry {H : Type} : Lit × DataW H → Nat
  | (.string bytes, d) => bytes.length + uptoBulk d + 1
  | (_, d) => uptoBulk d + 1
 end
def uptoSmall : (H : Type) → List (DataW H) → Bool := fun _ ds => decide (uptoBulkAll ds ≤ 1048576)
def OpenSpec.upto (s : _root_.Go.ChangeSpec) : _root_.Go.OpenSpec := { _root_.Go.OpenSpec.ofChange s with cond := some uptoSmall }

/-- 'storemanlaw06.LeastDays', WHERE WHAT IT READS IS OF BULK AT MOST 1048576: true; the input reads as it did. -/
def leastDaysUptoRow : OpenClaim := { program := "yteckamcjoodjfaa", sum := "82a0bbeef2934995bf5aa5f59fd0700458a0add796df78f240f7abaa9c663a6d", func := "storeman/storemanlaw06.LeastDays", spec := "leastDays", unfollowed := true, recurses := true, apart := false, narrowed := true }
def LeastDaysUptoSaid : Prop := leastDaysUptoRow.holds Try.pinned (OpenSpec.upto leastDaysSpec)

/-- 'storemanlaw06.LeastFirst', WHERE WHAT IT READS IS OF BULK AT MOST 1048576: true; the input reads as it did. -/
def leastFirstUptoRow : OpenClaim := { program := "yteckamcjoodjfaa", sum := "82a0bbeef2934995bf5aa5f59fd0700458a0add796df78f240f7abaa9c663a6d", func := "storeman/storemanlaw06.LeastFirst", spec := "leastFirst", unfollowed := true, recurses := true, apart := false, narrowed := true }
def LeastFirstUptoSaid : Prop := leastFirstUptoRow.holds Try.pinned (OpenSpec.upto leastFirstSpec)

/-- 'storemanlaw06.LeastMore', WHERE WHAT IT READS IS OF BULK AT MOST 1048576: true; the input reads as it did. -/
def leastMoreUptoRow : OpenClaim := { program := "yteckamcjoodjfaa", sum := "82a0bbeef2934995bf5aa5f59fd0700458a0add796df78f240f7abaa9c663a6d", func := "storeman/storemanlaw06.LeastMore", spec := "leastMore", unfollowed := true, recurses := true, apart := false, narrowed := true }
def LeastMoreUptoSaid : Prop := leastMoreUptoRow.holds Try.pinned (OpenSpec.upto leastMoreSpec)

end Rows
end Go.Proofs.Yteckamcjoodjfaa
