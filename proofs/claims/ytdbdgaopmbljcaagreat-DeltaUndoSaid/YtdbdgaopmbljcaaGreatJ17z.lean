/- What is proved: the statement, joined. No conditions. -/
import Derived.Test.YtdbdgaopmbljcaaGreatRows
import Derived.Test.YtdbdgaopmbljcaaGreatQ6
import Derived.Test.YtdbdgaopmbljcaaGreatQ7
import Derived.Test.YtdbdgaopmbljcaaGreatQ9
import Derived.WalkKit
import Derived.ProofKit
import Derived.OpenShut

/- What is proved: statements of this seat. No conditions. -/
set_option linter.unusedVariables false
set_option maxRecDepth 100000
namespace Go.Proofs.YtdbdgaopmbljcaaGreat
open Go.Ab Go.Ab.S17z
open Go.ChangeShapes Go.WideShapes Go.ChangeAt Go.RowKit

theorem own : ownKnob Tryz.prog.godebug = none := by kernel_rfl
theorem laid : laidOutB Tryz.prog = true := by kernel_rfl

theorem p_law17_row_spec : law17_row.Spec (AC P) N := law17_row.spec law17_row.imp
theorem p_bytes_Compare_spec : bytes_Compare.Spec (AC P) N := bytes_Compare.spec bytes_Compare.imp bytealg_Compare.imp
theorem p_delta_right_spec : delta_right.Spec (AC P) N := delta_right.spec delta_right.imp p_bytes_Compare_spec
theorem p_bytes_Equal_spec : bytes_Equal.Spec (AC P) N := bytes_Equal.spec bytes_Equal.imp
theorem p_slices_Clone_byte_byte_spec : slices_Clone_byte_byte.Spec (AC P) N := slices_Clone_byte_byte.spec slices_Clone_byte_byte.imp
theorem p_delta_turn_spec : delta_turn.Spec (AC P) N := delta_turn.spec delta_turn.imp p_slices_Clone_byte_byte_spec
theorem p_delta_Turns_spec : delta_Turns.Spec (AC P) N := delta_Turns.spec delta_Turns.imp p_delta_right_spec p_bytes_Compare_spec p_bytes_Equal_spec p_delta_turn_spec
theorem p_slices_xorshift_Next_spec : NextI (AC P) (N 298) := slices_xorshift_Next.spec slices_xorshift_Next.imp
theorem p_math_bits_Len_spec : LenI (AC P) (N 287) := math_bits_Len.spec math_bits_Len.imp math_bits_Len64.imp
theorem p_slices_nextPowerOfTwo_spec : PowI (AC P) (N 299) := slices_nextPowerOfTwo.spec slices_nextPowerOfTwo.imp p_math_bits_Len_spec
theorem p_delta_Apply_1_spec : delta_Apply_1.Spec (AC P) N := delta_Apply_1.spec delta_Apply_1.imp p_bytes_Compare_spec
theorem p_slices_SortFunc_api_Row_api_Row_spec : slices_SortFunc_api_Row_api_Row.Spec (AC P) N := slices_SortFunc_api_Row_api_Row.spec slices_SortFunc_api_Row_api_Row.imp slices_partitionEqualCmpFunc_api_Row.imp slices_partitionCmpFunc_api_Row.imp slices_pdqsortCmpFunc_api_Row.imp slices_partialInsertionSortCmpFunc_api_Row.imp slices_reverseRangeCmpFunc_api_Row.imp slices_choosePivotCmpFunc_api_Row.imp slices_breakPatternsCmpFunc_api_Row.imp slices_heapSortCmpFunc_api_Row.imp slices_insertionSortCmpFunc_api_Row.imp slices_order2CmpFunc_api_Row.imp slices_medianCmpFunc_api_Row.imp slices_medianAdjacentCmpFunc_api_Row.imp slices_siftDownCmpFunc_api_Row.imp p_slices_xorshift_Next_spec p_slices_nextPowerOfTwo_spec p_math_bits_Len_spec p_delta_Apply_1_spec
theorem p_delta_Apply_spec : delta_Apply.Spec (AC P) N := delta_Apply.spec delta_Apply.imp p_delta_right_spec p_bytes_Equal_spec p_slices_Clone_byte_byte_spec p_slices_SortFunc_api_Row_api_Row_spec
theorem p_delta_Back_spec : delta_Back.Spec (AC P) N := delta_Back.spec delta_Back.imp p_delta_turn_spec
theorem p_kit_SameBytes_spl : kit_SameBytes.SpecL (AC P) N := kit_SameBytes.spl kit_SameBytes.imp
theorem p_kit_SameRow_spec : kit_SameRow.Spec (AC P) N := kit_SameRow.spec kit_SameRow.imp p_kit_SameBytes_spl
theorem p_kit_SameRows_spec : kit_SameRows.Spec (AC P) N := kit_SameRows.spec kit_SameRows.imp p_kit_SameRow_spec
theorem p_law17_awake_spec : law17_awake.Spec (AC P) N := law17_awake.spec law17_awake.imp p_law17_row_spec p_delta_Turns_spec p_delta_Apply_spec p_delta_Back_spec p_kit_SameRows_spec
theorem p_kit_CopyBytes_spl : kit_CopyBytes.SpecL (AC P) N := kit_CopyBytes.spl kit_CopyBytes.imp
theorem p_kit_CopyRow_spec : kit_CopyRow.Spec (AC P) N := kit_CopyRow.spec kit_CopyRow.imp p_kit_CopyBytes_spl
theorem p_kit_CopyRows_spec : kit_CopyRows.Spec (AC P) N := kit_CopyRows.spec kit_CopyRows.imp p_kit_CopyRow_spec
theorem p_kit_bag_putBytes_spec : PutSpec (AC P) 4 (N 63) := kit_bag_putBytes.spec kit_bag_putBytes.imp
theorem p_kit_bag_oneRow_spec : OneSpec rowK rowInn (AC P) (N 315) := kit_bag_oneRow.spec kit_bag_oneRow.imp p_kit_bag_putBytes_spec
theorem p_kit_flatWords_nil : FlatNil (AC P) (N 80) := kit_flatWords.nil kit_flatWords.imp
theorem p_kit_flatInts_nil : FlatNil (AC P) (N 81) := kit_flatInts.nil kit_flatInts.imp
theorem p_kit_flatLongs_nil : FlatNil (AC P) (N 82) := kit_flatLongs.nil kit_flatLongs.imp
theorem p_kit_mark_spec : kit_mark.Spec (AC P) N := kit_mark.spec kit_mark.imp
theorem p_kit_markByte_spec : kit_markByte.Spec (AC P) N := kit_markByte.spec kit_markByte.imp p_kit_mark_spec
theorem p_kit_flatBytes_spl : FlatSpecL (AC P) 1 140737488351232 (N 84) := kit_flatBytes.spl kit_flatBytes.imp p_kit_markByte_spec
theorem p_kit_flatItems_nil : FlatNil (AC P) (N 90) := kit_flatItems.nil kit_flatItems.imp
theorem p_kit_flatAsks_nil : FlatNil (AC P) (N 92) := kit_flatAsks.nil kit_flatAsks.imp
theorem p_kit_flatTells_nil : FlatNil (AC P) (N 93) := kit_flatTells.nil kit_flatTells.imp
theorem p_kit_flatStates_nil : FlatNil (AC P) (N 94) := kit_flatStates.nil kit_flatStates.imp
theorem p_kit_markRow_spec : kit_markRow.Spec (AC P) N := kit_markRow.spec kit_markRow.imp p_kit_markByte_spec
theorem p_kit_flatRows_spec : FlatSpecL (AC P) 2 100000000 (N 95) := kit_flatRows.spec kit_flatRows.imp p_kit_markRow_spec p_kit_SameRow_spec
theorem p_kit_markTurn_spec : kit_markTurn.Spec (AC P) N := kit_markTurn.spec kit_markTurn.imp p_kit_markByte_spec
theorem p_kit_SameTurn_spec : kit_SameTurn.Spec (AC P) N := kit_SameTurn.spec kit_SameTurn.imp p_kit_SameBytes_spl
theorem p_kit_flatTurns_spec : FlatSpecL (AC P) 3 100000000 (N 96) := kit_flatTurns.spec kit_flatTurns.imp p_kit_markTurn_spec p_kit_SameTurn_spec
theorem p_kit_flatFates_nil : FlatNil (AC P) (N 97) := kit_flatFates.nil kit_flatFates.imp
theorem p_kit_flatDirties_nil : FlatNil (AC P) (N 98) := kit_flatDirties.nil kit_flatDirties.imp
theorem p_kit_flatOpens_nil : FlatNil (AC P) (N 99) := kit_flatOpens.nil kit_flatOpens.imp
theorem p_kit_flatRecords_nil : FlatNil (AC P) (N 100) := kit_flatRecords.nil kit_flatRecords.imp
theorem p_kit_flatSteps_nil : FlatNil (AC P) (N 101) := kit_flatSteps.nil kit_flatSteps.imp
theorem p_kit_flatTales_nil : FlatNil (AC P) (N 102) := kit_flatTales.nil kit_flatTales.imp
theorem p_kit_bag_apart_spl : ApartK (AC P) bagRT (N 62) := kit_bag_apart.spl kit_bag_apart.imp p_kit_flatWords_nil p_kit_flatInts_nil p_kit_flatLongs_nil kit_flatTexts.imp p_kit_flatBytes_spl kit_flatWindows.imp kit_flatLots.imp kit_flatWants.imp kit_flatUses.imp kit_flatParts.imp p_kit_flatItems_nil kit_flatLines.imp p_kit_flatAsks_nil p_kit_flatTells_nil p_kit_flatStates_nil p_kit_flatRows_spec p_kit_flatTurns_spec p_kit_flatFates_nil p_kit_flatDirties_nil p_kit_flatOpens_nil p_kit_flatRecords_nil p_kit_flatSteps_nil p_kit_flatTales_nil
theorem p_kit_ApartRows_spec : ApartD rowK (AC P) (N 307) := kit_ApartRows.spec kit_ApartRows.imp kit_bag_putRows.imp p_kit_bag_oneRow_spec p_kit_bag_apart_spl
theorem p_kit_CopyTurn_spec : kit_CopyTurn.Spec (AC P) N := kit_CopyTurn.spec kit_CopyTurn.imp p_kit_CopyBytes_spl
theorem p_kit_CopyTurns_spec : kit_CopyTurns.Spec (AC P) N := kit_CopyTurns.spec kit_CopyTurns.imp p_kit_CopyTurn_spec
theorem p_kit_bag_oneTurn_spec : OneSpec turnK turnInn (AC P) (N 316) := kit_bag_oneTurn.spec kit_bag_oneTurn.imp p_kit_bag_putBytes_spec
theorem p_kit_ApartTurns_spec : ApartD turnK (AC P) (N 309) := kit_ApartTurns.spec kit_ApartTurns.imp kit_bag_putTurns.imp p_kit_bag_oneTurn_spec p_kit_bag_apart_spl
theorem p_law17_DeltaUndo_spec : law17_DeltaUndo.Spec (AC P) N := law17_DeltaUndo.spec law17_DeltaUndo.imp p_law17_awake_spec p_kit_CopyRows_spec p_delta_Apply_spec p_delta_Back_spec p_kit_SameRows_spec p_kit_ApartRows_spec p_kit_CopyTurns_spec p_kit_ApartTurns_spec

theorem deltaUndo_AC (H : AHeap) (vs : List AVal) (h : AbsArgs H [.sl 48 2 tyRow, .sl 72 3 tyTurn] vs) : AC P 3 vs H fun v _ => v = .bool true := by
  obtain ⟨x, r, rfl, hx, y, r1, rfl, hy, rfl⟩ := h
  obtain ⟨L, h1, h2⟩ := dRows hx
  obtain ⟨M, g1, g2⟩ := dTurns hy
  exact p_law17_DeltaUndo_spec x y L M H _ h1 g1 h2 g2 rfl
theorem deltaUndo_lifted (os : Os) (started : os.Started) (H : Type) (enc : TypeId × Value → H) :
    ReturnsInHanded {} Tryz.checked os 3 .any (Rows.deltaUndoSpec.pre6 enc Tryz.prog Tryz.f3 Rows.deltaUndoRow.domain false) (Rows.deltaUndoSpec.post enc Tryz.prog Tryz.f3 false true false false) := by
  refine returnsInHanded_of_change_sized (C := Tryz.checked) own started (by kernel_rfl) Tryz.func3
    (ChangeSpec.witness6 (enc := enc) (C := Tryz.checked) false ⟨#[], #[.slice none 0 0, .slice none 0 0], []⟩ 8 (by kernel_rfl) (by kernel_rfl) (by kernel_rfl) (by kernel_rfl)) ?_
  intro W base args ds gs before hval hW _ hwt _
  exact law_contract (n := 6) (tb := 4) laid (by kernel_rfl) rfl (fun H ds h => by
    have h : ds.length = 2 := h
    match ds, h with
    | [a, b], _ => rfl) (by kernel_rfl) (by kernel_rfl) (callFunc_enter Tryz.func3 (by kernel_rfl) (by kernel_rfl)) deltaUndo_AC hval hW hwt
theorem deltaUndo : Rows.DeltaUndoSaid :=
  OpenClaim.holds_of_wide 3 Tryz.f3 rfl rfl rfl rfl rfl rfl rfl ⟨rfl, rfl, rfl, rfl, rfl⟩ rfl rfl rfl rfl rfl (by kernel_rfl) Tryz.func3 (by kernel_rfl)
    (of_decide_eq_true (by kernel_rfl)) (by unfold Func.isWrapper; first | (rw [if_pos (by decide +kernel)]; kernel_rfl) | (rw [if_neg (by decide +kernel)]; exact ⟨rfl, rfl⟩))
    (fun os started H enc _ => deltaUndo_lifted os started H enc)
#print axioms deltaUndo
end Go.Proofs.YtdbdgaopmbljcaaGreat
