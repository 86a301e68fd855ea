/-
  No cell of these rows narrows 'for every input' (looked for: loops, veiled, ifaces, maps, wideKeys, modest, calm, conditions, laid).
  DERIVED. THE GIVEN ROWS OF THIS SEAT. 4 by the template 'for every input the law returns true; each argument reads behind the call as it read before'; 0 by the template 'total and deterministic' (their statements: YtjhldpbpopjkiaaTotals.lean).
  GIVEN WITH THE SEED: the statements are not yours to turn. If you find one false, say at which input.
  Laid BY PROGRAM, IN A SANDBOX (cutbox-rows.mjs): the forced cells as the released guide's own fill.sh prints them over the translation 4a4ee24035d4657d… (all of the seat's roots in one cut). By AI agents, Wed Nov 11 2026. No macro, syntax, notation, axiom, sorry.
-/
import Derived.Test.YtjhldpbpopjkiaaChecked
import GoSem.Claim
import GoSem.ClaimJoined
import GoSem.ClaimMapViews
import Derived.JoinedTies
import Derived.KernelRfl
namespace Go.Proofs.Ytjhldpbpopjkiaa
/- THE CELL 'sum', in the pinned program and in every row, IS THE sha256 OF THE DUMP (.gsa) THAT YtjhldpbpopjkiaaProg.lean LOADS. Nothing in Lean hashes anything: it is a label: what it is worth is what the hold of that sum in a sandbox is worth. -/
noncomputable def Try.pinned : Pinned := { name := "ytjhldpbpopjkiaa", sum := "4a4ee24035d4657de1b404fd3120a61f02fdcffcd40cb44ec769a28b4bdb87f6", checked := Try.checked }
namespace Rows
def none {H : Type} : Left H := { results := [], args := [] }

/-- 'storemanlaw01.WindowTells': WHATEVER THE INPUT: true; the input reads as it did. -/
def windowTellsSpec : ChangeSpec := { name := "windowTells", fn := fun _ => fun
  | [d1, d2, d3] => { results := [.lit (.bool true)], args := [d1, d2, d3] }
  | _ => none }
def windowTellsRow : OpenClaim := { program := "ytjhldpbpopjkiaa", sum := "4a4ee24035d4657de1b404fd3120a61f02fdcffcd40cb44ec769a28b4bdb87f6", func := "storeman/storemanlaw01.WindowTells", spec := "windowTells", apart := false }
def WindowTellsSaid : Prop := windowTellsRow.holds Try.pinned (OpenSpec.ofChange windowTellsSpec)

/-- ITS FALSE NEIGHBOUR: 'it returns false'. Refute it at one input. -/
def windowTellsWrong : ChangeSpec := { name := "windowTells", fn := fun _ => fun
  | [d1, d2, d3] => { results := [.lit (.bool false)], args := [d1, d2, d3] }
  | _ => none }
def WindowTellsWrongFalsely : Prop := windowTellsRow.holds Try.pinned (OpenSpec.ofChange windowTellsWrong)

/-- 'storemanlaw01.WindowMeets': WHATEVER THE INPUT: true; the input reads as it did. -/
def windowMeetsSpec : ChangeSpec := { name := "windowMeets", fn := fun _ => fun
  | [d1, d2, d3, d4, d5] => { results := [.lit (.bool true)], args := [d1, d2, d3, d4, d5] }
  | _ => none }
def windowMeetsRow : OpenClaim := { program := "ytjhldpbpopjkiaa", sum := "4a4ee24035d4657de1b404fd3120a61f02fdcffcd40cb44ec769a28b4bdb87f6", func := "storeman/storemanlaw01.WindowMeets", spec := "windowMeets", apart := false }
def WindowMeetsSaid : Prop := windowMeetsRow.holds Try.pinned (OpenSpec.ofChange windowMeetsSpec)

/-- ITS FALSE NEIGHBOUR: 'it returns false'. Refute it at one input. -/
def windowMeetsWrong : ChangeSpec := { name := "windowMeets", fn := fun _ => fun
  | [d1, d2, d3, d4, d5] => { results := [.lit (.bool false)], args := [d1, d2, d3, d4, d5] }
  | _ => none }
def WindowMeetsWrongFalsely : Prop := windowMeetsRow.holds Try.pinned (OpenSpec.ofChange windowMeetsWrong)

/-- 'storemanlaw01.WindowRows': WHATEVER THE INPUT: true; the input reads as it did. -/
def windowRowsSpec : ChangeSpec := { name := "windowRows", fn := fun _ => fun
  | [d] => { results := [.lit (.bool true)], args := [d] }
  | _ => none }
def windowRowsRow : OpenClaim := { program := "ytjhldpbpopjkiaa", sum := "4a4ee24035d4657de1b404fd3120a61f02fdcffcd40cb44ec769a28b4bdb87f6", func := "storeman/storemanlaw01.WindowRows", spec := "windowRows", apart := false }
def WindowRowsSaid : Prop := windowRowsRow.holds Try.pinned (OpenSpec.ofChange windowRowsSpec)

/-- ITS FALSE NEIGHBOUR: 'it returns false'. Refute it at one input. -/
def windowRowsWrong : ChangeSpec := { name := "windowRows", fn := fun _ => fun
  | [d] => { results := [.lit (.bool false)], args := [d] }
  | _ => none }
def WindowRowsWrongFalsely : Prop := windowRowsRow.holds Try.pinned (OpenSpec.ofChange windowRowsWrong)

/-- 'storemanlaw01.WindowDays': WHATEVER THE INPUT: true; the input reads as it did. -/
def windowDaysSpec : ChangeSpec := { name := "windowDays", fn := fun _ => fun
  | [d1, d2, d3] => { results := [.lit (.bool true)], args := [d1, d2, d3] }
  | _ => none }
def windowDaysRow : OpenClaim := { program := "ytjhldpbpopjkiaa", sum := "4a4ee24035d4657de1b404fd3120a61f02fdcffcd40cb44ec769a28b4bdb87f6", func := "storeman/storemanlaw01.WindowDays", spec := "windowDays", apart := false }
def WindowDaysSaid : Prop := windowDaysRow.holds Try.pinned (OpenSpec.ofChange windowDaysSpec)

/-- ITS FALSE NEIGHBOUR: 'it returns false'. Refute it at one input. -/
def windowDaysWrong : ChangeSpec := { name := "windowDays", fn := fun _ => fun
  | [d1, d2, d3] => { results := [.lit (.bool false)], args := [d1, d2, d3] }
  | _ => none }
def WindowDaysWrongFalsely : Prop := windowDaysRow.holds Try.pinned (OpenSpec.ofChange windowDaysWrong)

/- THE SECOND FORM. 'bulk': how many values and letters a reading holds, each counted each time it is reached (what is shared counts as often as it is met; a slice's spare places count too). A statement '..UptoSaid' is the law's where the arguments, and the package variables that the reading takes, are together of bulk at most 1048576: NARROWER than '..Said'. Prove '..Said' where nothing that the law and all that it calls make is longer than what came in: it says more and counts as full. Else prove '..UptoSaid'. A law counts once. -/
mutual
def uptoBulk {H : Type} : DataW H → Nat
  | .lit (.string bytes) => bytes.length + 1
  | .lit _ => 1
  | .nil => 1
  | .ptr d => uptoBulk d + 1
  | .slice elems spare => uptoBulkAll elems + uptoBulkAll spare + 1
  | .agg parts => uptoBulkAll parts + 1
  | .iface _ d => uptoBulk d + 1
  | .map entries => uptoBulkEntries entries + 1
  | .held _ => 1
def uptoBulkAll {H : Type} : List (DataW H) → Nat
  | [] => 0
  | d :: r => uptoBulk d + uptoBulkAll r
def uptoBulkEntries {H : Type} : List (Lit × DataW H) → Nat
  | [] => 0
  | x :: r => uptoBulkEntry x + uptoBulkEntries r
def uptoBulkEntry {H : Type} : Lit × DataW H → Nat
  | (.string bytes, d) => bytes.length + uptoBulk d + 1
  | (_, d) => uptoBulk d + 1
 end
def uptoSmall : (H : Type) → List (DataW H) → Bool := fun _ ds => decide (uptoBulkAll ds ≤ 1048576)
def OpenSpec.upto (s : _root_.Go.ChangeSpec) : _root_.Go.OpenSpec := { _root_.Go.OpenSpec.ofChange s with cond := some uptoSmall }

/-- 'storemanlaw01.WindowTells', WHERE WHAT IT READS IS OF BULK AT MOST 1048576: true; the input reads as it did. -/
def windowTellsUptoRow : OpenClaim := { program := "ytjhldpbpopjkiaa", sum := "4a4ee24035d4657de1b404fd3120a61f02fdcffcd40cb44ec769a28b4bdb87f6", func := "storeman/storemanlaw01.WindowTells", spec := "windowTells", apart := false, narrowed := true }
def WindowTellsUptoSaid : Prop := windowTellsUptoRow.holds Try.pinned (OpenSpec.upto windowTellsSpec)

/-- 'storemanlaw01.WindowMeets', WHERE WHAT IT READS IS OF BULK AT MOST 1048576: true; the input reads as it did. -/
def windowMeetsUptoRow : OpenClaim := { program := "ytjhldpbpopjkiaa", sum := "4a4ee24035d4657de1b404fd3120a61f02fdcffcd40cb44ec769a28b4bdb87f6", func := "storeman/storemanlaw01.WindowMeets", spec := "windowMeets", apart := false, narrowed := true }
def WindowMeetsUptoSaid : Prop := windowMeetsUptoRow.holds Try.pinned (OpenSpec.upto windowMeetsSpec)

/-- 'storemanlaw01.WindowRows', WHERE WHAT IT READS IS OF BULK AT MOST 1048576: true; the input reads as it did. -/
def windowRowsUptoRow : OpenClaim := { program := "ytjhldpbpopjkiaa", sum := "4a4ee24035d4657de1b404fd3120a61f02fdcffcd40cb44ec769a28b4bdb87f6", func := "storeman/storemanlaw01.WindowRows", spec := "windowRows", apart := false, narrowed := true }
def WindowRowsUptoSaid : Prop := windowRowsUptoRow.holds Try.pinned (OpenSpec.upto windowRowsSpec)

/-- 'storemanlaw01.WindowDays', WHERE WHAT IT READS IS OF BULK AT MOST 1048576: true; the input reads as it did. -/
def windowDaysUptoRow : OpenClaim := { program := "ytjhldpbpopjkiaa", sum := "4a4ee24035d4657de1b404fd3120a61f02fdcffcd40cb44ec769a28b4bdb87f6", func := "storeman/storemanlaw01.WindowDays", spec := "windowDays", apart := false, narrowed := true }
def WindowDaysUptoSaid : Prop := windowDaysUptoRow.holds Try.pinned (OpenSpec.upto windowDaysSpec)

end Rows
end Go.Proofs.Ytjhldpbpopjkiaa
