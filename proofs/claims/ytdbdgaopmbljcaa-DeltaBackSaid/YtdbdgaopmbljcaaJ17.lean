/- What is proved: the statement, joined. No conditions. -/
import Derived.Test.YtdbdgaopmbljcaaRows
import Derived.Test.YtdbdgaopmbljcaaQ6
import Derived.Test.YtdbdgaopmbljcaaQ7
import Derived.Test.YtdbdgaopmbljcaaQ8
import Derived.WalkKit
import Derived.ProofKit
import Derived.OpenShut

/- What is proved: statements of this seat. No conditions. -/
set_option linter.unusedVariables false
set_option maxRecDepth 100000
namespace Go.Proofs.Ytdbdgaopmbljcaa
open Go.Ab Go.Ab.S17
open Go.ChangeShapes Go.WideShapes Go.ChangeAt Go.RowKit

theorem own : ownKnob Try.prog.godebug = none := by kernel_rfl
theorem laid : laidOutB Try.prog = true := by kernel_rfl

theorem p_law17_row_spec : law17_row.Spec (AC P) N := law17_row.spec law17_row.imp
theorem p_bytes_Compare_spec : bytes_Compare.Spec (AC P) N := bytes_Compare.spec bytes_Compare.imp bytealg_Compare.imp
theorem p_delta_right_spec : delta_right.Spec (AC P) N := delta_right.spec delta_right.imp p_bytes_Compare_spec
theorem p_bytes_Equal_spec : bytes_Equal.Spec (AC P) N := bytes_Equal.spec bytes_Equal.imp
theorem p_slices_Clone_byte_byte_spec : slices_Clone_byte_byte.Spec (AC P) N := slices_Clone_byte_byte.spec slices_Clone_byte_byte.imp
theorem p_delta_turn_spec : delta_turn.Spec (AC P) N := delta_turn.spec delta_turn.imp p_slices_Clone_byte_byte_spec
theorem p_delta_Turns_spec : delta_Turns.Spec (AC P) N := delta_Turns.spec delta_Turns.imp p_delta_right_spec p_bytes_Compare_spec p_bytes_Equal_spec p_delta_turn_spec
theorem p_slices_xorshift_Next_spec : NextI (AC P) (N 298) := slices_xorshift_Next.spec slices_xorshift_Next.imp
theorem p_math_bits_Len_spec : LenI (AC P) (N 287) := math_bits_Len.spec math_bits_Len.imp math_bits_Len64.imp
theorem p_slices_nextPowerOfTwo_spec : PowI (AC P) (N 299) := slices_nextPowerOfTwo.spec slices_nextPowerOfTwo.imp p_math_bits_Len_spec
theorem p_delta_Apply_1_spec : delta_Apply_1.Spec (AC P) N := delta_Apply_1.spec delta_Apply_1.imp p_bytes_Compare_spec
theorem p_slices_SortFunc_api_Row_api_Row_spec : slices_SortFunc_api_Row_api_Row.Spec (AC P) N := slices_SortFunc_api_Row_api_Row.spec slices_SortFunc_api_Row_api_Row.imp slices_partitionEqualCmpFunc_api_Row.imp slices_partitionCmpFunc_api_Row.imp slices_pdqsortCmpFunc_api_Row.imp slices_partialInsertionSortCmpFunc_api_Row.imp slices_reverseRangeCmpFunc_api_Row.imp slices_choosePivotCmpFunc_api_Row.imp slices_breakPatternsCmpFunc_api_Row.imp slices_heapSortCmpFunc_api_Row.imp slices_insertionSortCmpFunc_api_Row.imp slices_order2CmpFunc_api_Row.imp slices_medianCmpFunc_api_Row.imp slices_medianAdjacentCmpFunc_api_Row.imp slices_siftDownCmpFunc_api_Row.imp p_slices_xorshift_Next_spec p_slices_nextPowerOfTwo_spec p_math_bits_Len_spec p_delta_Apply_1_spec
theorem p_delta_Apply_spec : delta_Apply.Spec (AC P) N := delta_Apply.spec delta_Apply.imp p_delta_right_spec p_bytes_Equal_spec p_slices_Clone_byte_byte_spec p_slices_SortFunc_api_Row_api_Row_spec
theorem p_delta_Back_spec : delta_Back.Spec (AC P) N := delta_Back.spec delta_Back.imp p_delta_turn_spec
theorem p_kit_SameBytes_spl : kit_SameBytes.SpecL (AC P) N := kit_SameBytes.spl kit_SameBytes.imp
theorem p_kit_SameRow_spec : kit_SameRow.Spec (AC P) N := kit_SameRow.spec kit_SameRow.imp p_kit_SameBytes_spl
theorem p_kit_SameRows_spec : kit_SameRows.Spec (AC P) N := kit_SameRows.spec kit_SameRows.imp p_kit_SameRow_spec
theorem p_law17_awake_spec : law17_awake.Spec (AC P) N := law17_awake.spec law17_awake.imp p_law17_row_spec p_delta_Turns_spec p_delta_Apply_spec p_delta_Back_spec p_kit_SameRows_spec
theorem p_kit_mark_spec : kit_mark.Spec (AC P) N := kit_mark.spec kit_mark.imp
theorem p_kit_markByte_spec : kit_markByte.Spec (AC P) N := kit_markByte.spec kit_markByte.imp p_kit_mark_spec
theorem p_kit_markRow_spec : kit_markRow.Spec (AC P) N := kit_markRow.spec kit_markRow.imp p_kit_markByte_spec
theorem p_kit_LentBytes_spl : kit_LentBytes.SpecL (AC P) N := kit_LentBytes.spl kit_LentBytes.imp p_kit_markByte_spec
theorem p_kit_LentRow_spec : kit_LentRow.Spec (AC P) N := kit_LentRow.spec kit_LentRow.imp p_kit_LentBytes_spl
theorem p_kit_LentRows_spec : kit_LentRows.Spec (AC P) N := kit_LentRows.spec kit_LentRows.imp p_kit_markRow_spec p_kit_LentRow_spec
theorem p_ref17_less_spec : ref17_less.Spec (AC P) N := ref17_less.spec ref17_less.imp
theorem p_ref17_Right_spec : ref17_Right.Spec (AC P) N := ref17_Right.spec ref17_Right.imp p_ref17_less_spec
theorem p_ref17_same_spec : ref17_same.Spec (AC P) N := ref17_same.spec ref17_same.imp p_ref17_less_spec
theorem p_ref17_put_spec : ref17_put.Spec (AC P) N := ref17_put.spec ref17_put.imp p_ref17_same_spec p_ref17_less_spec
theorem p_ref17_get_spec : ref17_get.Spec (AC P) N := ref17_get.spec ref17_get.imp p_ref17_same_spec
theorem p_ref17_Turns_spec : ref17_Turns.Spec (AC P) N := ref17_Turns.spec ref17_Turns.imp p_ref17_Right_spec p_ref17_put_spec p_ref17_get_spec p_ref17_same_spec
theorem p_kit_SameTurn_spec : kit_SameTurn.Spec (AC P) N := kit_SameTurn.spec kit_SameTurn.imp p_kit_SameBytes_spl
theorem p_kit_SameTurns_spec : kit_SameTurns.Spec (AC P) N := kit_SameTurns.spec kit_SameTurns.imp p_kit_SameTurn_spec
theorem p_kit_KeptBytes_spl : kit_KeptBytes.SpecL (AC P) N := kit_KeptBytes.spl kit_KeptBytes.imp p_kit_markByte_spec
theorem p_kit_KeptRow_spec : kit_KeptRow.Spec (AC P) N := kit_KeptRow.spec kit_KeptRow.imp p_kit_SameRow_spec p_kit_KeptBytes_spl
theorem p_kit_KeptRows_spec : kit_KeptRows.Spec (AC P) N := kit_KeptRows.spec kit_KeptRows.imp p_kit_KeptRow_spec p_kit_markRow_spec p_kit_SameRow_spec
theorem p_law17_DeltaTells_spec : law17_DeltaTells.Spec (AC P) N := law17_DeltaTells.spec law17_DeltaTells.imp p_law17_awake_spec p_kit_LentRows_spec p_delta_Turns_spec p_ref17_Turns_spec p_kit_SameTurns_spec p_kit_KeptRows_spec
theorem p_kit_markTurn_spec : kit_markTurn.Spec (AC P) N := kit_markTurn.spec kit_markTurn.imp p_kit_markByte_spec
theorem p_kit_LentTurn_spec : kit_LentTurn.Spec (AC P) N := kit_LentTurn.spec kit_LentTurn.imp p_kit_LentBytes_spl
theorem p_kit_LentTurns_spec : kit_LentTurns.Spec (AC P) N := kit_LentTurns.spec kit_LentTurns.imp p_kit_markTurn_spec p_kit_LentTurn_spec
theorem p_ref17_Apply_spec : ref17_Apply.Spec (AC P) N := ref17_Apply.spec ref17_Apply.imp p_ref17_Right_spec p_ref17_put_spec p_ref17_get_spec p_ref17_same_spec
theorem p_ref17_Back_spec : ref17_Back.Spec (AC P) N := ref17_Back.spec ref17_Back.imp
theorem p_kit_KeptTurn_spec : kit_KeptTurn.Spec (AC P) N := kit_KeptTurn.spec kit_KeptTurn.imp p_kit_SameTurn_spec p_kit_KeptBytes_spl
theorem p_kit_KeptTurns_spec : kit_KeptTurns.Spec (AC P) N := kit_KeptTurns.spec kit_KeptTurns.imp p_kit_KeptTurn_spec p_kit_markTurn_spec p_kit_SameTurn_spec
theorem p_law17_DeltaApplies_spec : law17_DeltaApplies.Spec (AC P) N := law17_DeltaApplies.spec law17_DeltaApplies.imp p_law17_awake_spec p_kit_LentRows_spec p_kit_LentTurns_spec p_delta_Apply_spec p_ref17_Apply_spec p_kit_SameRows_spec p_delta_Back_spec p_ref17_Back_spec p_kit_SameTurns_spec p_kit_KeptRows_spec p_kit_KeptTurns_spec
theorem p_law17_right_spec : law17_right.Spec (AC P) N := law17_right.spec law17_right.imp p_delta_Turns_spec
theorem p_law17_DeltaBack_spec : law17_DeltaBack.Spec (AC P) N := law17_DeltaBack.spec law17_DeltaBack.imp p_law17_awake_spec p_law17_right_spec p_delta_Turns_spec p_delta_Apply_spec p_delta_Back_spec p_kit_SameRows_spec

theorem deltaTells_AC (H : AHeap) (vs : List AVal) (h : AbsArgs H [.sl 48 2 tyRow, .sl 48 2 tyRow] vs) : AC P 3 vs H fun v _ => v = .bool true := by
  obtain ⟨x, r, rfl, hx, y, r1, rfl, hy, rfl⟩ := h
  obtain ⟨L, h1, h2⟩ := dRows hx
  obtain ⟨M, g1, g2⟩ := dRows hy
  exact p_law17_DeltaTells_spec x y L M H _ h1 g1 h2 g2 rfl
theorem deltaTells_lifted (os : Os) (started : os.Started) (H : Type) (enc : TypeId × Value → H) :
    ReturnsInHanded {} Try.checked os 3 .any (Rows.deltaTellsSpec.pre6 enc Try.prog Try.f3 Rows.deltaTellsRow.domain false) (Rows.deltaTellsSpec.post enc Try.prog Try.f3 false true false false) := by
  refine returnsInHanded_of_change_sized (C := Try.checked) own started (by kernel_rfl) Try.func3
    (ChangeSpec.witness6 (enc := enc) (C := Try.checked) false ⟨#[], #[.slice none 0 0, .slice none 0 0], []⟩ 8 (by kernel_rfl) (by kernel_rfl) (by kernel_rfl) (by kernel_rfl)) ?_
  intro W base args ds gs before hval hW _ hwt _
  exact law_contract (n := 6) (tb := 4) laid (by kernel_rfl) rfl (fun H ds h => by
    have h : ds.length = 2 := h
    match ds, h with
    | [a, b], _ => rfl) (by kernel_rfl) (by kernel_rfl) (callFunc_enter Try.func3 (by kernel_rfl) (by kernel_rfl)) deltaTells_AC hval hW hwt
theorem deltaTells : Rows.DeltaTellsSaid :=
  OpenClaim.holds_of_wide 3 Try.f3 rfl rfl rfl rfl rfl rfl rfl ⟨rfl, rfl, rfl, rfl, rfl⟩ rfl rfl rfl rfl rfl (by kernel_rfl) Try.func3 (by kernel_rfl)
    (of_decide_eq_true (by kernel_rfl)) (by unfold Func.isWrapper; first | (rw [if_pos (by decide +kernel)]; kernel_rfl) | (rw [if_neg (by decide +kernel)]; exact ⟨rfl, rfl⟩))
    (fun os started H enc _ => deltaTells_lifted os started H enc)
#print axioms deltaTells

theorem deltaApplies_AC (H : AHeap) (vs : List AVal) (h : AbsArgs H [.sl 48 2 tyRow, .sl 72 3 tyTurn] vs) : AC P 4 vs H fun v _ => v = .bool true := by
  obtain ⟨x, r, rfl, hx, y, r1, rfl, hy, rfl⟩ := h
  obtain ⟨L, h1, h2⟩ := dRows hx
  obtain ⟨M, g1, g2⟩ := dTurns hy
  exact p_law17_DeltaApplies_spec x y L M H _ h1 g1 h2 g2 rfl
theorem deltaApplies_lifted (os : Os) (started : os.Started) (H : Type) (enc : TypeId × Value → H) :
    ReturnsInHanded {} Try.checked os 4 .any (Rows.deltaAppliesSpec.pre6 enc Try.prog Try.f4 Rows.deltaAppliesRow.domain false) (Rows.deltaAppliesSpec.post enc Try.prog Try.f4 false true false false) := by
  refine returnsInHanded_of_change_sized (C := Try.checked) own started (by kernel_rfl) Try.func4
    (ChangeSpec.witness6 (enc := enc) (C := Try.checked) false ⟨#[], #[.slice none 0 0, .slice none 0 0], []⟩ 8 (by kernel_rfl) (by kernel_rfl) (by kernel_rfl) (by kernel_rfl)) ?_
  intro W base args ds gs before hval hW _ hwt _
  exact law_contract (n := 6) (tb := 4) laid (by kernel_rfl) rfl (fun H ds h => by
    have h : ds.length = 2 := h
    match ds, h with
    | [a, b], _ => rfl) (by kernel_rfl) (by kernel_rfl) (callFunc_enter Try.func4 (by kernel_rfl) (by kernel_rfl)) deltaApplies_AC hval hW hwt
theorem deltaApplies : Rows.DeltaAppliesSaid :=
  OpenClaim.holds_of_wide 4 Try.f4 rfl rfl rfl rfl rfl rfl rfl ⟨rfl, rfl, rfl, rfl, rfl⟩ rfl rfl rfl rfl rfl (by kernel_rfl) Try.func4 (by kernel_rfl)
    (of_decide_eq_true (by kernel_rfl)) (by unfold Func.isWrapper; first | (rw [if_pos (by decide +kernel)]; kernel_rfl) | (rw [if_neg (by decide +kernel)]; exact ⟨rfl, rfl⟩))
    (fun os started H enc _ => deltaApplies_lifted os started H enc)
#print axioms deltaApplies

theorem deltaBack_AC (H : AHeap) (vs : List AVal) (h : AbsArgs H [.sl 48 2 tyRow, .sl 48 2 tyRow, .sl 48 2 tyRow] vs) : AC P 5 vs H fun v _ => v = .bool true := by
  obtain ⟨x, r, rfl, hx, y, r1, rfl, hy, z, r2, rfl, hz, rfl⟩ := h
  obtain ⟨L, h1, h2⟩ := dRows hx
  obtain ⟨M, g1, g2⟩ := dRows hy
  obtain ⟨O, k1, k2⟩ := dRows hz
  exact p_law17_DeltaBack_spec x y z L M O H _ h1 g1 k1 h2 g2 k2 rfl
theorem deltaBack_lifted (os : Os) (started : os.Started) (H : Type) (enc : TypeId × Value → H) :
    ReturnsInHanded {} Try.checked os 5 .any (Rows.deltaBackSpec.pre6 enc Try.prog Try.f5 Rows.deltaBackRow.domain false) (Rows.deltaBackSpec.post enc Try.prog Try.f5 false true false false) := by
  refine returnsInHanded_of_change_sized (C := Try.checked) own started (by kernel_rfl) Try.func5
    (ChangeSpec.witness6 (enc := enc) (C := Try.checked) false ⟨#[], #[.slice none 0 0, .slice none 0 0, .slice none 0 0], []⟩ 8 (by kernel_rfl) (by kernel_rfl) (by kernel_rfl) (by kernel_rfl)) ?_
  intro W base args ds gs before hval hW _ hwt _
  exact law_contract (n := 6) (tb := 4) laid (by kernel_rfl) rfl (fun H ds h => by
    have h : ds.length = 3 := h
    match ds, h with
    | [a, b, c], _ => rfl) (by kernel_rfl) (by kernel_rfl) (callFunc_enter Try.func5 (by kernel_rfl) (by kernel_rfl)) deltaBack_AC hval hW hwt
theorem deltaBack : Rows.DeltaBackSaid :=
  OpenClaim.holds_of_wide 5 Try.f5 rfl rfl rfl rfl rfl rfl rfl ⟨rfl, rfl, rfl, rfl, rfl⟩ rfl rfl rfl rfl rfl (by kernel_rfl) Try.func5 (by kernel_rfl)
    (of_decide_eq_true (by kernel_rfl)) (by unfold Func.isWrapper; first | (rw [if_pos (by decide +kernel)]; kernel_rfl) | (rw [if_neg (by decide +kernel)]; exact ⟨rfl, rfl⟩))
    (fun os started H enc _ => deltaBack_lifted os started H enc)
#print axioms deltaBack
end Go.Proofs.Ytdbdgaopmbljcaa
