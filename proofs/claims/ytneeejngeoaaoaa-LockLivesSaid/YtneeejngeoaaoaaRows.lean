/-
  No cell of these rows narrows 'for every input' (looked for: loops, veiled, ifaces, maps, wideKeys, modest, calm, conditions, laid).
  DERIVED. THE GIVEN ROWS OF THIS SEAT. 5 by the template 'for every input the law returns true; each argument reads behind the call as it read before'; 0 by the template 'total and deterministic' (their statements: YtneeejngeoaaoaaTotals.lean).
  GIVEN WITH THE SEED: the statements are not yours to turn. If you find one false, say at which input.
  Laid BY PROGRAM, IN A SANDBOX (cutbox-rows.mjs): the forced cells as the released guide's own fill.sh prints them over the translation 14650a5b2101f206… (all of the seat's roots in one cut). By AI agents, Wed Nov 11 2026. No macro, syntax, notation, axiom, sorry.
-/
import Derived.Test.YtneeejngeoaaoaaChecked
import GoSem.Claim
import GoSem.ClaimJoined
import GoSem.ClaimMapViews
import Derived.JoinedTies
import Derived.KernelRfl
namespace Go.Proofs.Ytneeejngeoaaoaa
/- THE CELL 'sum', in the pinned program and in every row, IS THE sha256 OF THE DUMP (.gsa) THAT YtneeejngeoaaoaaProg.lean LOADS. Nothing in Lean hashes anything: it is a label: what it is worth is what the hold of that sum in a sandbox is worth. -/
noncomputable def Try.pinned : Pinned := { name := "ytneeejngeoaaoaa", sum := "14650a5b2101f206e41081adb47be0db43ebcdb4341ceae1cffa33f620ac80a8", checked := Try.checked }
namespace Rows
def none {H : Type} : Left H := { results := [], args := [] }

/-- 'storemanlaw24.LockLives': WHATEVER THE INPUT: true; the input reads as it did. -/
def lockLivesSpec : ChangeSpec := { name := "lockLives", fn := fun _ => fun
  | [d] => { results := [.lit (.bool true)], args := [d] }
  | _ => none }
def lockLivesRow : OpenClaim := { program := "ytneeejngeoaaoaa", sum := "14650a5b2101f206e41081adb47be0db43ebcdb4341ceae1cffa33f620ac80a8", func := "storeman/storemanlaw24.LockLives", spec := "lockLives", unfollowed := true, recurses := true, apart := false }
def LockLivesSaid : Prop := lockLivesRow.holds Try.pinned (OpenSpec.ofChange lockLivesSpec)

/-- ITS FALSE NEIGHBOUR: 'it returns false'. Refute it at one input. -/
def lockLivesWrong : ChangeSpec := { name := "lockLives", fn := fun _ => fun
  | [d] => { results := [.lit (.bool false)], args := [d] }
  | _ => none }
def LockLivesWrongFalsely : Prop := lockLivesRow.holds Try.pinned (OpenSpec.ofChange lockLivesWrong)

/-- 'storemanlaw24.LockNil': WHATEVER THE INPUT: true; the input reads as it did. -/
def lockNilSpec : ChangeSpec := { name := "lockNil", fn := fun _ => fun
  | [d1, d2] => { results := [.lit (.bool true)], args := [d1, d2] }
  | _ => none }
def lockNilRow : OpenClaim := { program := "ytneeejngeoaaoaa", sum := "14650a5b2101f206e41081adb47be0db43ebcdb4341ceae1cffa33f620ac80a8", func := "storeman/storemanlaw24.LockNil", spec := "lockNil", unfollowed := true, recurses := true, apart := false }
def LockNilSaid : Prop := lockNilRow.holds Try.pinned (OpenSpec.ofChange lockNilSpec)

/-- ITS FALSE NEIGHBOUR: 'it returns false'. Refute it at one input. -/
def lockNilWrong : ChangeSpec := { name := "lockNil", fn := fun _ => fun
  | [d1, d2] => { results := [.lit (.bool false)], args := [d1, d2] }
  | _ => none }
def LockNilWrongFalsely : Prop := lockNilRow.holds Try.pinned (OpenSpec.ofChange lockNilWrong)

/-- 'storemanlaw24.LockNumbers': WHATEVER THE INPUT: true; the input reads as it did. -/
def lockNumbersSpec : ChangeSpec := { name := "lockNumbers", fn := fun _ => fun
  | [] => { results := [.lit (.bool true)], args := [] }
  | _ => none }
def lockNumbersRow : OpenClaim := { program := "ytneeejngeoaaoaa", sum := "14650a5b2101f206e41081adb47be0db43ebcdb4341ceae1cffa33f620ac80a8", func := "storeman/storemanlaw24.LockNumbers", spec := "lockNumbers", unfollowed := true, recurses := true, apart := false }
def LockNumbersSaid : Prop := lockNumbersRow.holds Try.pinned (OpenSpec.ofChange lockNumbersSpec)

/-- ITS FALSE NEIGHBOUR: 'it returns false'. Refute it at one input. -/
def lockNumbersWrong : ChangeSpec := { name := "lockNumbers", fn := fun _ => fun
  | [] => { results := [.lit (.bool false)], args := [] }
  | _ => none }
def LockNumbersWrongFalsely : Prop := lockNumbersRow.holds Try.pinned (OpenSpec.ofChange lockNumbersWrong)

/-- 'storemanlaw24.LockOne': WHATEVER THE INPUT: true; the input reads as it did. -/
def lockOneSpec : ChangeSpec := { name := "lockOne", fn := fun _ => fun
  | [d] => { results := [.lit (.bool true)], args := [d] }
  | _ => none }
def lockOneRow : OpenClaim := { program := "ytneeejngeoaaoaa", sum := "14650a5b2101f206e41081adb47be0db43ebcdb4341ceae1cffa33f620ac80a8", func := "storeman/storemanlaw24.LockOne", spec := "lockOne", unfollowed := true, recurses := true, apart := false }
def LockOneSaid : Prop := lockOneRow.holds Try.pinned (OpenSpec.ofChange lockOneSpec)

/-- ITS FALSE NEIGHBOUR: 'it returns false'. Refute it at one input. -/
def lockOneWrong : ChangeSpec := { name := "lockOne", fn := fun _ => fun
  | [d] => { results := [.lit (.bool false)], args := [d] }
  | _ => none }
def LockOneWrongFalsely : Prop := lockOneRow.holds Try.pinned (OpenSpec.ofChange lockOneWrong)

/-- 'storemanlaw24.LockEnds': WHATEVER THE INPUT: true; the input reads as it did. -/
def lockEndsSpec : ChangeSpec := { name := "lockEnds", fn := fun _ => fun
  | [d] => { results := [.lit (.bool true)], args := [d] }
  | _ => none }
def lockEndsRow : OpenClaim := { program := "ytneeejngeoaaoaa", sum := "14650a5b2101f206e41081adb47be0db43ebcdb4341ceae1cffa33f620ac80a8", func := "storeman/storemanlaw24.LockEnds", spec := "lockEnds", unfollowed := true, recurses := true, apart := false }
def LockEndsSaid : Prop := lockEndsRow.holds Try.pinned (OpenSpec.ofChange lockEndsSpec)

/-- ITS FALSE NEIGHBOUR: 'it returns false'. Refute it at one input. -/
def lockEndsWrong : ChangeSpec := { name := "lockEnds", fn := fun _ => fun
  | [d] => { results := [.lit (.bool false)], args := [d] }
  | _ => none }
def LockEndsWrongFalsely : Prop := lockEndsRow.holds Try.pinned (OpenSpec.ofChange lockEndsWrong)

/- THE SECOND FORM. 'bulk': how many values and letters a reading holds, each counted each time it is reached (what is shared counts as often as it is met; a slice's spare places count too). A statement '..UptoSaid' is the law's where the arguments, and the package variables that the reading takes, are together of bulk at most 1048576: NARROWER than '..Said'. Prove '..Said' where nothing that the law and all that it calls make is longer than what came in: it says more and counts as full. Else prove '..UptoSaid'. A law counts once. -/
mutual
def uptoBulk {H : Type} : DataW H → Nat
  | .lit (.string bytes) => bytes.length + 1
  | .lit _ => 1
  | .nil => 1
  | .ptr d => uptoBulk d + 1
  | .slice elems spare => uptoBulkAll elems + uptoBulkAll spare + 1
  | .agg parts => uptoBulkAll parts + 1
  | .iface _ d => uptoBulk d + 1
  | .map entries => uptoBulkEntries entries + 1
  | .held _ => 1
def uptoBulkAll {H : Type} : List (DataW H) → Nat
  | [] => 0
  | d :: r => uptoBulk d + uptoBulkAll r
def uptoBulkEntries {H : Type} : List (Lit × DataW H) → Nat
  | [] => 0
  | x :: r => uptoBulkEntry x + uptoBulkEntries r
def uptoBulkEntry {H : Type} : Lit × DataW H → Nat
  | (.string bytes, d) => bytes.length + uptoBulk d + 1
  | (_, d) => uptoBulk d + 1
 end
def uptoSmall : (H : Type) → List (DataW H) → Bool := fun _ ds => decide (uptoBulkAll ds ≤ 1048576)
def OpenSpec.upto (s : _root_.Go.ChangeSpec) : _root_.Go.OpenSpec := { _root_.Go.OpenSpec.ofChange s with cond := some uptoSmall }

/-- 'storemanlaw24.LockLives', WHERE WHAT IT READS IS OF BULK AT MOST 1048576: true; the input reads as it did. -/
def lockLivesUptoRow : OpenClaim := { program := "ytneeejngeoaaoaa", sum := "14650a5b2101f206e41081adb47be0db43ebcdb4341ceae1cffa33f620ac80a8", func := "storeman/storemanlaw24.LockLives", spec := "lockLives", unfollowed := true, recurses := true, apart := false, narrowed := true }
def LockLivesUptoSaid : Prop := lockLivesUptoRow.holds Try.pinned (OpenSpec.upto lockLivesSpec)

/-- 'storemanlaw24.LockNil', WHERE WHAT IT READS IS OF BULK AT MOST 1048576: true; the input reads as it did. -/
def lockNilUptoRow : OpenClaim := { program := "ytneeejngeoaaoaa", sum := "14650a5b2101f206e41081adb47be0db43ebcdb4341ceae1cffa33f620ac80a8", func := "storeman/storemanlaw24.LockNil", spec := "lockNil", unfollowed := true, recurses := true, apart := false, narrowed := true }
def LockNilUptoSaid : Prop := lockNilUptoRow.holds Try.pinned (OpenSpec.upto lockNilSpec)

/-- 'storemanlaw24.LockNumbers', WHERE WHAT IT READS IS OF BULK AT MOST 1048576: true; the input reads as it did. -/
def lockNumbersUptoRow : OpenClaim := { program := "ytneeejngeoaaoaa", sum := "14650a5b2101f206e41081adb47be0db43ebcdb4341ceae1cffa33f620ac80a8", func := "storeman/storemanlaw24.LockNumbers", spec := "lockNumbers", unfollowed := true, recurses := true, apart := false, narrowed := true }
def LockNumbersUptoSaid : Prop := lockNumbersUptoRow.holds Try.pinned (OpenSpec.upto lockNumbersSpec)

/-- 'storemanlaw24.LockOne', WHERE WHAT IT READS IS OF BULK AT MOST 1048576: true; the input reads as it did. -/
def lockOneUptoRow : OpenClaim := { program := "ytneeejngeoaaoaa", sum := "14650a5b2101f206e41081adb47be0db43ebcdb4341ceae1cffa33f620ac80a8", func := "storeman/storemanlaw24.LockOne", spec := "lockOne", unfollowed := true, recurses := true, apart := false, narrowed := true }
def LockOneUptoSaid : Prop := lockOneUptoRow.holds Try.pinned (OpenSpec.upto lockOneSpec)

/-- 'storemanlaw24.LockEnds', WHERE WHAT IT READS IS OF BULK AT MOST 1048576: true; the input reads as it did. -/
def lockEndsUptoRow : OpenClaim := { program := "ytneeejngeoaaoaa", sum := "14650a5b2101f206e41081adb47be0db43ebcdb4341ceae1cffa33f620ac80a8", func := "storeman/storemanlaw24.LockEnds", spec := "lockEnds", unfollowed := true, recurses := true, apart := false, narrowed := true }
def LockEndsUptoSaid : Prop := lockEndsUptoRow.holds Try.pinned (OpenSpec.upto lockEndsSpec)

end Rows
end Go.Proofs.Ytneeejngeoaaoaa
