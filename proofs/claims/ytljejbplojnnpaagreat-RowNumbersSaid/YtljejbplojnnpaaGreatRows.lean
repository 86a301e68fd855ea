/-
  No cell of these rows narrows 'for every input' (looked for: loops, veiled, ifaces, maps, wideKeys, modest, calm, conditions, laid).
  DERIVED. THE GIVEN ROWS OF THIS SEAT. 4 by the template 'for every input the law returns true; each argument reads behind the call as it read before'; 0 by the template 'total and deterministic' (their statements: YtljejbplojnnpaaGreatTotals.lean).
  GIVEN WITH THE SEED: the statements are not yours to turn. If you find one false, say at which input.
  Laid BY PROGRAM, IN A SANDBOX (cutbox-rows.mjs): the forced cells as the released guide's own fill.sh prints them over the translation e188d9e2f60b7fad… (all of the seat's roots in one cut). By AI agents, Wed Nov 11 2026. No macro, syntax, notation, axiom, sorry.
-/
import Derived.Test.YtljejbplojnnpaaGreatChecked
import GoSem.Claim
import GoSem.ClaimJoined
import GoSem.ClaimMapViews
import Derived.JoinedTies
import Derived.KernelRfl
namespace Go.Proofs.YtljejbplojnnpaaGreat
/- THE CELL 'sum', in the pinned program and in every row, IS THE sha256 OF THE DUMP (.gsa) THAT YtljejbplojnnpaaGreatProg.lean LOADS. Nothing in Lean hashes anything: it is a label: what it is worth is what the hold of that sum in a sandbox is worth. -/
noncomputable def Tryz.pinned : Pinned := { name := "ytljejbplojnnpaagreat", sum := "e188d9e2f60b7fadb2f7f1f572b5b7cef8ea61f4cf7335ea6881f8689183eb0a", checked := Tryz.checked }
namespace Rows
def none {H : Type} : Left H := { results := [], args := [] }

/-- 'storemanlaw16.RowWrites': WHATEVER THE INPUT: true; the input reads as it did. -/
def rowWritesSpec : ChangeSpec := { name := "rowWrites", fn := fun _ => fun
  | [d] => { results := [.lit (.bool true)], args := [d] }
  | _ => none }
def rowWritesRow : OpenClaim := { program := "ytljejbplojnnpaagreat", sum := "e188d9e2f60b7fadb2f7f1f572b5b7cef8ea61f4cf7335ea6881f8689183eb0a", func := "storeman/storemanlaw16.RowWrites", spec := "rowWrites", inPlace := ["internal/bytealg.Compare"], unfollowed := true, recurses := true, apart := false }
def RowWritesSaid : Prop := rowWritesRow.holds Tryz.pinned (OpenSpec.ofChange rowWritesSpec)

/-- ITS FALSE NEIGHBOUR: 'it returns false'. Refute it at one input. -/
def rowWritesWrong : ChangeSpec := { name := "rowWrites", fn := fun _ => fun
  | [d] => { results := [.lit (.bool false)], args := [d] }
  | _ => none }
def RowWritesWrongFalsely : Prop := rowWritesRow.holds Tryz.pinned (OpenSpec.ofChange rowWritesWrong)

/-- 'storemanlaw16.RowReads': WHATEVER THE INPUT: true; the input reads as it did. -/
def rowReadsSpec : ChangeSpec := { name := "rowReads", fn := fun _ => fun
  | [d] => { results := [.lit (.bool true)], args := [d] }
  | _ => none }
def rowReadsRow : OpenClaim := { program := "ytljejbplojnnpaagreat", sum := "e188d9e2f60b7fadb2f7f1f572b5b7cef8ea61f4cf7335ea6881f8689183eb0a", func := "storeman/storemanlaw16.RowReads", spec := "rowReads", inPlace := ["internal/bytealg.Compare"], unfollowed := true, recurses := true, apart := false }
def RowReadsSaid : Prop := rowReadsRow.holds Tryz.pinned (OpenSpec.ofChange rowReadsSpec)

/-- ITS FALSE NEIGHBOUR: 'it returns false'. Refute it at one input. -/
def rowReadsWrong : ChangeSpec := { name := "rowReads", fn := fun _ => fun
  | [d] => { results := [.lit (.bool false)], args := [d] }
  | _ => none }
def RowReadsWrongFalsely : Prop := rowReadsRow.holds Tryz.pinned (OpenSpec.ofChange rowReadsWrong)

/-- 'storemanlaw16.RowAnswers': WHATEVER THE INPUT: true; the input reads as it did. -/
def rowAnswersSpec : ChangeSpec := { name := "rowAnswers", fn := fun _ => fun
  | [d1, d2, d3, d4, d5] => { results := [.lit (.bool true)], args := [d1, d2, d3, d4, d5] }
  | _ => none }
def rowAnswersRow : OpenClaim := { program := "ytljejbplojnnpaagreat", sum := "e188d9e2f60b7fadb2f7f1f572b5b7cef8ea61f4cf7335ea6881f8689183eb0a", func := "storeman/storemanlaw16.RowAnswers", spec := "rowAnswers", inPlace := ["internal/bytealg.Compare"], unfollowed := true, recurses := true, apart := false }
def RowAnswersSaid : Prop := rowAnswersRow.holds Tryz.pinned (OpenSpec.ofChange rowAnswersSpec)

/-- ITS FALSE NEIGHBOUR: 'it returns false'. Refute it at one input. -/
def rowAnswersWrong : ChangeSpec := { name := "rowAnswers", fn := fun _ => fun
  | [d1, d2, d3, d4, d5] => { results := [.lit (.bool false)], args := [d1, d2, d3, d4, d5] }
  | _ => none }
def RowAnswersWrongFalsely : Prop := rowAnswersRow.holds Tryz.pinned (OpenSpec.ofChange rowAnswersWrong)

/-- 'storemanlaw16.RowNumbers': WHATEVER THE INPUT: true; the input reads as it did. -/
def rowNumbersSpec : ChangeSpec := { name := "rowNumbers", fn := fun _ => fun
  | [] => { results := [.lit (.bool true)], args := [] }
  | _ => none }
def rowNumbersRow : OpenClaim := { program := "ytljejbplojnnpaagreat", sum := "e188d9e2f60b7fadb2f7f1f572b5b7cef8ea61f4cf7335ea6881f8689183eb0a", func := "storeman/storemanlaw16.RowNumbers", spec := "rowNumbers", inPlace := ["internal/bytealg.Compare"], unfollowed := true, recurses := true, apart := false }
def RowNumbersSaid : Prop := rowNumbersRow.holds Tryz.pinned (OpenSpec.ofChange rowNumbersSpec)

/-- ITS FALSE NEIGHBOUR: 'it returns false'. Refute it at one input. -/
def rowNumbersWrong : ChangeSpec := { name := "rowNumbers", fn := fun _ => fun
  | [] => { results := [.lit (.bool false)], args := [] }
  | _ => none }
def RowNumbersWrongFalsely : Prop := rowNumbersRow.holds Tryz.pinned (OpenSpec.ofChange rowNumbersWrong)

/- THE SECOND FORM. 'bulk': how many values and letters a reading holds, each counted each time it is reached (what is shared counts as often as it is met; a slice's spare places count too). A statement '..UptoSaid' is the law's where the arguments, and the package variables that the reading takes, are together of bulk at most 1048576: NARROWER than '..Said'. Prove '..Said' where nothing that the law and all that it calls make is longer than what came in: it says more and counts as full. Else prove '..UptoSaid'. A law counts once. -/
mutual
def uptoBulk {H : Type} : DataW H → Nat
  | .lit (.string bytes) => bytes.length + 1
  | .lit _ => 1
  | .nil => 1
  | .ptr d => uptoBulk d + 1
  | .slice elems spare => uptoBulkAll elems + uptoBulkAll spare + 1
  | .agg parts => uptoBulkAll parts + 1
  | .iface _ d => uptoBulk d + 1
  | .map entries => uptoBulkEntries entries + 1
  | .held _ => 1
def uptoBulkAll {H : Type} : List (DataW H) → Nat
  | [] => 0
  | d :: r => uptoBulk d + uptoBulkAll r
def uptoBulkEntries {H : Type} : List (Lit × DataW H) → Nat
  | [] => 0
  | x :: r => uptoBulkEntry x + uptoBulkEntries r
def uptoBulkEntry {H : Type} : Lit × DataW H → Nat
  | (.string bytes, d) => bytes.length + uptoBulk d + 1
  | (_, d) => uptoBulk d + 1
 end
def uptoSmall : (H : Type) → List (DataW H) → Bool := fun _ ds => decide (uptoBulkAll ds ≤ 1048576)
def OpenSpec.upto (s : _root_.Go.ChangeSpec) : _root_.Go.OpenSpec := { _root_.Go.OpenSpec.ofChange s with cond := some uptoSmall }

/-- 'storemanlaw16.RowWrites', WHERE WHAT IT READS IS OF BULK AT MOST 1048576: true; the input reads as it did. -/
def rowWritesUptoRow : OpenClaim := { program := "ytljejbplojnnpaagreat", sum := "e188d9e2f60b7fadb2f7f1f572b5b7cef8ea61f4cf7335ea6881f8689183eb0a", func := "storeman/storemanlaw16.RowWrites", spec := "rowWrites", inPlace := ["internal/bytealg.Compare"], unfollowed := true, recurses := true, apart := false, narrowed := true }
def RowWritesUptoSaid : Prop := rowWritesUptoRow.holds Tryz.pinned (OpenSpec.upto rowWritesSpec)

/-- 'storemanlaw16.RowReads', WHERE WHAT IT READS IS OF BULK AT MOST 1048576: true; the input reads as it did. -/
def rowReadsUptoRow : OpenClaim := { program := "ytljejbplojnnpaagreat", sum := "e188d9e2f60b7fadb2f7f1f572b5b7cef8ea61f4cf7335ea6881f8689183eb0a", func := "storeman/storemanlaw16.RowReads", spec := "rowReads", inPlace := ["internal/bytealg.Compare"], unfollowed := true, recurses := true, apart := false, narrowed := true }
def RowReadsUptoSaid : Prop := rowReadsUptoRow.holds Tryz.pinned (OpenSpec.upto rowReadsSpec)

/-- 'storemanlaw16.RowAnswers', WHERE WHAT IT READS IS OF BULK AT MOST 1048576: true; the input reads as it did. -/
def rowAnswersUptoRow : OpenClaim := { program := "ytljejbplojnnpaagreat", sum := "e188d9e2f60b7fadb2f7f1f572b5b7cef8ea61f4cf7335ea6881f8689183eb0a", func := "storeman/storemanlaw16.RowAnswers", spec := "rowAnswers", inPlace := ["internal/bytealg.Compare"], unfollowed := true, recurses := true, apart := false, narrowed := true }
def RowAnswersUptoSaid : Prop := rowAnswersUptoRow.holds Tryz.pinned (OpenSpec.upto rowAnswersSpec)

/-- 'storemanlaw16.RowNumbers', WHERE WHAT IT READS IS OF BULK AT MOST 1048576: true; the input reads as it did. -/
def rowNumbersUptoRow : OpenClaim := { program := "ytljejbplojnnpaagreat", sum := "e188d9e2f60b7fadb2f7f1f572b5b7cef8ea61f4cf7335ea6881f8689183eb0a", func := "storeman/storemanlaw16.RowNumbers", spec := "rowNumbers", inPlace := ["internal/bytealg.Compare"], unfollowed := true, recurses := true, apart := false, narrowed := true }
def RowNumbersUptoSaid : Prop := rowNumbersUptoRow.holds Tryz.pinned (OpenSpec.upto rowNumbersSpec)

end Rows
end Go.Proofs.YtljejbplojnnpaaGreat
