/-
  No cell of these rows narrows 'for every input' (looked for: loops, veiled, ifaces, maps, wideKeys, modest, calm, conditions, laid).
  DERIVED. THE GIVEN ROWS OF THIS SEAT. 6 by the template 'for every input the law returns true; each argument reads behind the call as it read before'; 0 by the template 'total and deterministic' (their statements: YtncpfmgbjopjdaaTotals.lean).
  GIVEN WITH THE SEED: the statements are not yours to turn. If you find one false, say at which input.
  Laid BY PROGRAM, IN A SANDBOX (cutbox-rows.mjs): the forced cells as the released guide's own fill.sh prints them over the translation 8e3a8978aa181afe… (all of the seat's roots in one cut). By AI agents, Wed Nov 11 2026. No macro, syntax, notation, axiom, sorry.
-/
import Derived.Test.YtncpfmgbjopjdaaChecked
import GoSem.Claim
import GoSem.ClaimJoined
import GoSem.ClaimMapViews
import Derived.JoinedTies
import Derived.KernelRfl
namespace Go.Proofs.Ytncpfmgbjopjdaa
/- THE CELL 'sum', in the pinned program and in every row, IS THE sha256 OF THE DUMP (.gsa) THAT YtncpfmgbjopjdaaProg.lean LOADS. Nothing in Lean hashes anything: it is a label: what it is worth is what the hold of that sum in a sandbox is worth. -/
noncomputable def Try.pinned : Pinned := { name := "ytncpfmgbjopjdaa", sum := "8e3a8978aa181afe8dd99d9aed0cff54e9f9e507a3c0fcc71a1a9a4fd0318a07", checked := Try.checked }
namespace Rows
def none {H : Type} : Left H := { results := [], args := [] }

/-- 'storemanlaw05.FlowAny': WHATEVER THE INPUT: true; the input reads as it did. -/
def flowAnySpec : ChangeSpec := { name := "flowAny", fn := fun _ => fun
  | [d1, d2] => { results := [.lit (.bool true)], args := [d1, d2] }
  | _ => none }
def flowAnyRow : OpenClaim := { program := "ytncpfmgbjopjdaa", sum := "8e3a8978aa181afe8dd99d9aed0cff54e9f9e507a3c0fcc71a1a9a4fd0318a07", func := "storeman/storemanlaw05.FlowAny", spec := "flowAny", unfollowed := true, recurses := true, apart := false }
def FlowAnySaid : Prop := flowAnyRow.holds Try.pinned (OpenSpec.ofChange flowAnySpec)

/-- ITS FALSE NEIGHBOUR: 'it returns false'. Refute it at one input. -/
def flowAnyWrong : ChangeSpec := { name := "flowAny", fn := fun _ => fun
  | [d1, d2] => { results := [.lit (.bool false)], args := [d1, d2] }
  | _ => none }
def FlowAnyWrongFalsely : Prop := flowAnyRow.holds Try.pinned (OpenSpec.ofChange flowAnyWrong)

/-- 'storemanlaw05.FlowFills': WHATEVER THE INPUT: true; the input reads as it did. -/
def flowFillsSpec : ChangeSpec := { name := "flowFills", fn := fun _ => fun
  | [d1, d2] => { results := [.lit (.bool true)], args := [d1, d2] }
  | _ => none }
def flowFillsRow : OpenClaim := { program := "ytncpfmgbjopjdaa", sum := "8e3a8978aa181afe8dd99d9aed0cff54e9f9e507a3c0fcc71a1a9a4fd0318a07", func := "storeman/storemanlaw05.FlowFills", spec := "flowFills", unfollowed := true, recurses := true, apart := false }
def FlowFillsSaid : Prop := flowFillsRow.holds Try.pinned (OpenSpec.ofChange flowFillsSpec)

/-- ITS FALSE NEIGHBOUR: 'it returns false'. Refute it at one input. -/
def flowFillsWrong : ChangeSpec := { name := "flowFills", fn := fun _ => fun
  | [d1, d2] => { results := [.lit (.bool false)], args := [d1, d2] }
  | _ => none }
def FlowFillsWrongFalsely : Prop := flowFillsRow.holds Try.pinned (OpenSpec.ofChange flowFillsWrong)

/-- 'storemanlaw05.FlowChecks': WHATEVER THE INPUT: true; the input reads as it did. -/
def flowChecksSpec : ChangeSpec := { name := "flowChecks", fn := fun _ => fun
  | [d1, d2, d3] => { results := [.lit (.bool true)], args := [d1, d2, d3] }
  | _ => none }
def flowChecksRow : OpenClaim := { program := "ytncpfmgbjopjdaa", sum := "8e3a8978aa181afe8dd99d9aed0cff54e9f9e507a3c0fcc71a1a9a4fd0318a07", func := "storeman/storemanlaw05.FlowChecks", spec := "flowChecks", unfollowed := true, recurses := true, apart := false }
def FlowChecksSaid : Prop := flowChecksRow.holds Try.pinned (OpenSpec.ofChange flowChecksSpec)

/-- ITS FALSE NEIGHBOUR: 'it returns false'. Refute it at one input. -/
def flowChecksWrong : ChangeSpec := { name := "flowChecks", fn := fun _ => fun
  | [d1, d2, d3] => { results := [.lit (.bool false)], args := [d1, d2, d3] }
  | _ => none }
def FlowChecksWrongFalsely : Prop := flowChecksRow.holds Try.pinned (OpenSpec.ofChange flowChecksWrong)

/-- 'storemanlaw05.FlowWhy': WHATEVER THE INPUT: true; the input reads as it did. -/
def flowWhySpec : ChangeSpec := { name := "flowWhy", fn := fun _ => fun
  | [d1, d2] => { results := [.lit (.bool true)], args := [d1, d2] }
  | _ => none }
def flowWhyRow : OpenClaim := { program := "ytncpfmgbjopjdaa", sum := "8e3a8978aa181afe8dd99d9aed0cff54e9f9e507a3c0fcc71a1a9a4fd0318a07", func := "storeman/storemanlaw05.FlowWhy", spec := "flowWhy", unfollowed := true, recurses := true, apart := false }
def FlowWhySaid : Prop := flowWhyRow.holds Try.pinned (OpenSpec.ofChange flowWhySpec)

/-- ITS FALSE NEIGHBOUR: 'it returns false'. Refute it at one input. -/
def flowWhyWrong : ChangeSpec := { name := "flowWhy", fn := fun _ => fun
  | [d1, d2] => { results := [.lit (.bool false)], args := [d1, d2] }
  | _ => none }
def FlowWhyWrongFalsely : Prop := flowWhyRow.holds Try.pinned (OpenSpec.ofChange flowWhyWrong)

/-- 'storemanlaw05.FlowMore': WHATEVER THE INPUT: true; the input reads as it did. -/
def flowMoreSpec : ChangeSpec := { name := "flowMore", fn := fun _ => fun
  | [d1, d2, d3, d4, d5] => { results := [.lit (.bool true)], args := [d1, d2, d3, d4, d5] }
  | _ => none }
def flowMoreRow : OpenClaim := { program := "ytncpfmgbjopjdaa", sum := "8e3a8978aa181afe8dd99d9aed0cff54e9f9e507a3c0fcc71a1a9a4fd0318a07", func := "storeman/storemanlaw05.FlowMore", spec := "flowMore", unfollowed := true, recurses := true, apart := false }
def FlowMoreSaid : Prop := flowMoreRow.holds Try.pinned (OpenSpec.ofChange flowMoreSpec)

/-- ITS FALSE NEIGHBOUR: 'it returns false'. Refute it at one input. -/
def flowMoreWrong : ChangeSpec := { name := "flowMore", fn := fun _ => fun
  | [d1, d2, d3, d4, d5] => { results := [.lit (.bool false)], args := [d1, d2, d3, d4, d5] }
  | _ => none }
def FlowMoreWrongFalsely : Prop := flowMoreRow.holds Try.pinned (OpenSpec.ofChange flowMoreWrong)

/-- 'storemanlaw05.FlowServes': WHATEVER THE INPUT: true; the input reads as it did. -/
def flowServesSpec : ChangeSpec := { name := "flowServes", fn := fun _ => fun
  | [d1, d2, d3, d4] => { results := [.lit (.bool true)], args := [d1, d2, d3, d4] }
  | _ => none }
def flowServesRow : OpenClaim := { program := "ytncpfmgbjopjdaa", sum := "8e3a8978aa181afe8dd99d9aed0cff54e9f9e507a3c0fcc71a1a9a4fd0318a07", func := "storeman/storemanlaw05.FlowServes", spec := "flowServes", unfollowed := true, recurses := true, apart := false }
def FlowServesSaid : Prop := flowServesRow.holds Try.pinned (OpenSpec.ofChange flowServesSpec)

/-- ITS FALSE NEIGHBOUR: 'it returns false'. Refute it at one input. -/
def flowServesWrong : ChangeSpec := { name := "flowServes", fn := fun _ => fun
  | [d1, d2, d3, d4] => { results := [.lit (.bool false)], args := [d1, d2, d3, d4] }
  | _ => none }
def FlowServesWrongFalsely : Prop := flowServesRow.holds Try.pinned (OpenSpec.ofChange flowServesWrong)

/- THE SECOND FORM. 'bulk': how many values and letters a reading holds, each counted each time it is reached (what is shared counts as often as it is met; a slice's spare places count too). A statement '..UptoSaid' is the law's where the arguments, and the package variables that the reading takes, are together of bulk at most 1048576: NARROWER than '..Said'. Prove '..Said' where nothing that the law and all that it calls make is longer than what came in: it says more and counts as full. Else prove '..UptoSaid'. A law counts once. -/
mutual
def uptoBulk {H : Type} : DataW H → Nat
  | .lit (.string bytes) => bytes.length + 1
  | .lit _ => 1
  | .nil => 1
  | .ptr d => uptoBulk d + 1
  | .slice elems spare => uptoBulkAll elems + uptoBulkAll spare + 1
  | .agg parts => uptoBulkAll parts + 1
  | .iface _ d => uptoBulk d + 1
  | .map entries => uptoBulkEntries entries + 1
  | .held _ => 1
def uptoBulkAll {H : Type} : List (DataW H) → Nat
  | [] => 0
  | d :: r => uptoBulk d + uptoBulkAll r
def uptoBulkEntries {H : Type} : List (Lit × DataW H) → Nat
  | [] => 0
  | x :: r => uptoBulkEntry x + uptoBulkEntries r
def uptoBulkEntry {H : Type} : Lit × DataW H → Nat
  | (.string bytes, d) => bytes.length + uptoBulk d + 1
  | (_, d) => uptoBulk d + 1
 end
def uptoSmall : (H : Type) → List (DataW H) → Bool := fun _ ds => decide (uptoBulkAll ds ≤ 1048576)
def OpenSpec.upto (s : _root_.Go.ChangeSpec) : _root_.Go.OpenSpec := { _root_.Go.OpenSpec.ofChange s with cond := some uptoSmall }

/-- 'storemanlaw05.FlowAny', WHERE WHAT IT READS IS OF BULK AT MOST 1048576: true; the input reads as it did. -/
def flowAnyUptoRow : OpenClaim := { program := "ytncpfmgbjopjdaa", sum := "8e3a8978aa181afe8dd99d9aed0cff54e9f9e507a3c0fcc71a1a9a4fd0318a07", func := "storeman/storemanlaw05.FlowAny", spec := "flowAny", unfollowed := true, recurses := true, apart := false, narrowed := true }
def FlowAnyUptoSaid : Prop := flowAnyUptoRow.holds Try.pinned (OpenSpec.upto flowAnySpec)

/-- 'storemanlaw05.FlowFills', WHERE WHAT IT READS IS OF BULK AT MOST 1048576: true; the input reads as it did. -/
def flowFillsUptoRow : OpenClaim := { program := "ytncpfmgbjopjdaa", sum := "8e3a8978aa181afe8dd99d9aed0cff54e9f9e507a3c0fcc71a1a9a4fd0318a07", func := "storeman/storemanlaw05.FlowFills", spec := "flowFills", unfollowed := true, recurses := true, apart := false, narrowed := true }
def FlowFillsUptoSaid : Prop := flowFillsUptoRow.holds Try.pinned (OpenSpec.upto flowFillsSpec)

/-- 'storemanlaw05.FlowChecks', WHERE WHAT IT READS IS OF BULK AT MOST 1048576: true; the input reads as it did. -/
def flowChecksUptoRow : OpenClaim := { program := "ytncpfmgbjopjdaa", sum := "8e3a8978aa181afe8dd99d9aed0cff54e9f9e507a3c0fcc71a1a9a4fd0318a07", func := "storeman/storemanlaw05.FlowChecks", spec := "flowChecks", unfollowed := true, recurses := true, apart := false, narrowed := true }
def FlowChecksUptoSaid : Prop := flowChecksUptoRow.holds Try.pinned (OpenSpec.upto flowChecksSpec)

/-- 'storemanlaw05.FlowWhy', WHERE WHAT IT READS IS OF BULK AT MOST 1048576: true; the input reads as it did. -/
def flowWhyUptoRow : OpenClaim := { program := "ytncpfmgbjopjdaa", sum := "8e3a8978aa181afe8dd99d9aed0cff54e9f9e507a3c0fcc71a1a9a4fd0318a07", func := "storeman/storemanlaw05.FlowWhy", spec := "flowWhy", unfollowed := true, recurses := true, apart := false, narrowed := true }
def FlowWhyUptoSaid : Prop := flowWhyUptoRow.holds Try.pinned (OpenSpec.upto flowWhySpec)

/-- 'storemanlaw05.FlowMore', WHERE WHAT IT READS IS OF BULK AT MOST 1048576: true; the input reads as it did. -/
def flowMoreUptoRow : OpenClaim := { program := "ytncpfmgbjopjdaa", sum := "8e3a8978aa181afe8dd99d9aed0cff54e9f9e507a3c0fcc71a1a9a4fd0318a07", func := "storeman/storemanlaw05.FlowMore", spec := "flowMore", unfollowed := true, recurses := true, apart := false, narrowed := true }
def FlowMoreUptoSaid : Prop := flowMoreUptoRow.holds Try.pinned (OpenSpec.upto flowMoreSpec)

/-- 'storemanlaw05.FlowServes', WHERE WHAT IT READS IS OF BULK AT MOST 1048576: true; the input reads as it did. -/
def flowServesUptoRow : OpenClaim := { program := "ytncpfmgbjopjdaa", sum := "8e3a8978aa181afe8dd99d9aed0cff54e9f9e507a3c0fcc71a1a9a4fd0318a07", func := "storeman/storemanlaw05.FlowServes", spec := "flowServes", unfollowed := true, recurses := true, apart := false, narrowed := true }
def FlowServesUptoSaid : Prop := flowServesUptoRow.holds Try.pinned (OpenSpec.upto flowServesSpec)

end Rows
end Go.Proofs.Ytncpfmgbjopjdaa
