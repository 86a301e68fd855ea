/- What is proved: the statement, joined. No conditions. -/
import Derived.Test.YtfinnbedbggnnaaGreatRows
import Derived.Test.YtfinnbedbggnnaaGreatQ6
import Derived.Test.YtfinnbedbggnnaaGreatQ7
import Derived.Test.YtfinnbedbggnnaaGreatQ8
import Derived.WalkKit
import Derived.ProofKit
import Derived.OpenShut

/- What is proved: statements of this seat. No conditions. -/
set_option linter.unusedVariables false
set_option maxRecDepth 100000
namespace Go.Proofs.YtfinnbedbggnnaaGreat
open Go.Ab Go.Ab.S04z
open Go.ChangeShapes Go.WideShapes Go.ChangeAt Go.RowKit

theorem own : ownKnob Tryz.prog.godebug = none := by kernel_rfl
theorem laid : laidOutB Tryz.prog = true := by kernel_rfl

theorem p_law04_three_spec : law04_three.Spec (AC P) N := law04_three.spec law04_three.imp
theorem p_slices_Clone_api_Lot_api_Lot_spec : slices_Clone_api_Lot_api_Lot.Spec (AC P) N := slices_Clone_api_Lot_api_Lot.spec slices_Clone_api_Lot_api_Lot.imp
theorem p_slices_SortStableFunc_api_Lot_api_Lot_spec : slices_SortStableFunc_api_Lot_api_Lot.Spec (AC P) N := slices_SortStableFunc_api_Lot_api_Lot.spec slices_SortStableFunc_api_Lot_api_Lot.imp slices_symMergeCmpFunc_api_Lot.imp slices_rotateCmpFunc_api_Lot.imp slices_swapRangeCmpFunc_api_Lot.imp slices_insertionSortCmpFunc_api_Lot.imp slices_stableCmpFunc_api_Lot.imp
theorem p_cmp_isNaN_int_spec : cmp_isNaN_int.Spec (AC P) N := cmp_isNaN_int.spec cmp_isNaN_int.imp
theorem p_cmp_Compare_int_spec : cmp_Compare_int.Spec (AC P) N := cmp_Compare_int.spec cmp_Compare_int.imp p_cmp_isNaN_int_spec
theorem p_cmp_Or_int_spec : cmp_Or_int.Spec (AC P) N := cmp_Or_int.spec cmp_Or_int.imp
theorem p_lot_Compare_spec : lot_Compare.Spec (AC P) N := lot_Compare.spec lot_Compare.imp p_cmp_Compare_int_spec p_cmp_Or_int_spec
theorem p_lot_Sort_spec : lot_Sort.Spec (AC P) N := lot_Sort.spec lot_Sort.imp p_slices_Clone_api_Lot_api_Lot_spec p_slices_SortStableFunc_api_Lot_api_Lot_spec p_lot_Compare_spec
theorem p_lot_some_api_Lot_spec : lot_some_api_Lot.Spec (AC P) N := lot_some_api_Lot.spec lot_some_api_Lot.imp
theorem p_lot_Sweep_1_spec : lot_Sweep_1.Spec (AC P) N := lot_Sweep_1.spec lot_Sweep_1.imp
theorem p_lot_Sweep_2_spec : lot_Sweep_2.Spec (AC P) N := lot_Sweep_2.spec lot_Sweep_2.imp
theorem p_lot_Sweep_spec : lot_Sweep.Spec (AC P) N := lot_Sweep.spec lot_Sweep.imp p_lot_some_api_Lot_spec p_lot_Sweep_1_spec p_lot_Sweep_2_spec
theorem p_code_Right_spec : code_Right.Spec (AC P) N := code_Right.spec code_Right.imp
theorem p_window_Right_spec : window_Right.Spec (AC P) N := window_Right.spec window_Right.imp
theorem p_lot_Right_spec : lot_Right.Spec (AC P) N := lot_Right.spec lot_Right.imp p_code_Right_spec p_window_Right_spec
theorem p_window_Has_spec : window_Has.Spec (AC P) N := window_Has.spec window_Has.imp p_window_Right_spec
theorem p_lot_On_spec : lot_On.Spec (AC P) N := lot_On.spec lot_On.imp p_lot_some_api_Lot_spec p_lot_Right_spec p_window_Has_spec
theorem p_lot_Of_1_spec : lot_Of_1.Spec (AC P) N := lot_Of_1.spec lot_Of_1.imp
theorem p_lot_Of_spec : lot_Of.Spec (AC P) N := lot_Of.spec lot_Of.imp p_lot_some_api_Lot_spec p_lot_Of_1_spec
theorem p_law04_awake_spec : law04_awake.Spec (AC P) N := law04_awake.spec law04_awake.imp p_law04_three_spec p_lot_Sort_spec p_lot_Sweep_spec p_lot_On_spec p_lot_Right_spec p_lot_Of_spec
theorem p_law04_great_spec : law04_great.Spec (AC P) N := law04_great.spec law04_great.imp
theorem p_kit_mark_spec : kit_mark.Spec (AC P) N := kit_mark.spec kit_mark.imp
theorem p_kit_markLot_spec : kit_markLot.Spec (AC P) N := kit_markLot.spec kit_markLot.imp p_kit_mark_spec
theorem p_kit_LentLots_spec : kit_LentLots.Spec (AC P) N := kit_LentLots.spec kit_LentLots.imp p_kit_markLot_spec
theorem p_kit_KeptLots_spec : kit_KeptLots.Spec (AC P) N := kit_KeptLots.spec kit_KeptLots.imp p_kit_markLot_spec
theorem p_kit_OverLots_spec : kit_OverLots.Spec (AC P) N := kit_OverLots.spec kit_OverLots.imp p_kit_markLot_spec
theorem p_ref04_Sweep_spec : ref04_Sweep.Spec (AC P) N := ref04_Sweep.spec ref04_Sweep.imp
theorem p_ref04_Compare_spec : ref04_Compare.Spec (AC P) N := ref04_Compare.spec ref04_Compare.imp
theorem p_ref04_Sort_spec : ref04_Sort.Spec (AC P) N := ref04_Sort.spec ref04_Sort.imp p_ref04_Compare_spec
theorem p_ref04_Of_spec : ref04_Of.Spec (AC P) N := ref04_Of.spec ref04_Of.imp
theorem p_ref03_Right_spec : ref03_Right.Spec (AC P) N := ref03_Right.spec ref03_Right.imp
theorem p_ref04_Right_spec : ref04_Right.Spec (AC P) N := ref04_Right.spec ref04_Right.imp p_ref03_Right_spec
theorem p_ref04_On_spec : ref04_On.Spec (AC P) N := ref04_On.spec ref04_On.imp p_ref04_Right_spec
theorem p_kit_SameLots_spec : kit_SameLots.Spec (AC P) N := kit_SameLots.spec kit_SameLots.imp
theorem p_kit_bag_putLots_spec : PutSpec (AC P) 6 (N 130) := kit_bag_putLots.spec kit_bag_putLots.imp
theorem p_kit_flatWords_nil : FlatNil (AC P) (N 80) := kit_flatWords.nil kit_flatWords.imp
theorem p_kit_flatInts_nil : FlatNil (AC P) (N 81) := kit_flatInts.nil kit_flatInts.imp
theorem p_kit_flatLongs_nil : FlatNil (AC P) (N 82) := kit_flatLongs.nil kit_flatLongs.imp
theorem p_kit_markText_spec : kit_markText.Spec (AC P) N := kit_markText.spec kit_markText.imp
theorem p_kit_flatTexts_spec : FlatSpec (AC P) 1 (N 83) := kit_flatTexts.spec kit_flatTexts.imp p_kit_markText_spec
theorem p_kit_markByte_spec : kit_markByte.Spec (AC P) N := kit_markByte.spec kit_markByte.imp p_kit_mark_spec
theorem p_kit_flatBytes_spec : FlatSpec (AC P) 1 (N 84) := kit_flatBytes.spec kit_flatBytes.imp p_kit_markByte_spec
theorem p_kit_markWindow_spec : kit_markWindow.Spec (AC P) N := kit_markWindow.spec kit_markWindow.imp p_kit_mark_spec
theorem p_kit_flatWindows_spec : FlatSpec (AC P) 2 (N 85) := kit_flatWindows.spec kit_flatWindows.imp p_kit_markWindow_spec
theorem p_kit_flatLots_spec : FlatSpec (AC P) 6 (N 86) := kit_flatLots.spec kit_flatLots.imp p_kit_markLot_spec
theorem p_kit_markWant_spec : kit_markWant.Spec (AC P) N := kit_markWant.spec kit_markWant.imp p_kit_mark_spec
theorem p_kit_flatWants_spec : FlatSpec (AC P) 3 (N 87) := kit_flatWants.spec kit_flatWants.imp p_kit_markWant_spec
theorem p_kit_markUse_spec : kit_markUse.Spec (AC P) N := kit_markUse.spec kit_markUse.imp p_kit_mark_spec
theorem p_kit_flatUses_spec : FlatSpec (AC P) 3 (N 88) := kit_flatUses.spec kit_flatUses.imp p_kit_markUse_spec
theorem p_kit_markPart_spec : kit_markPart.Spec (AC P) N := kit_markPart.spec kit_markPart.imp p_kit_mark_spec
theorem p_kit_flatParts_spec : FlatSpec (AC P) 2 (N 89) := kit_flatParts.spec kit_flatParts.imp p_kit_markPart_spec
theorem p_kit_flatItems_nil : FlatNil (AC P) (N 90) := kit_flatItems.nil kit_flatItems.imp
theorem p_kit_markLine_spec : kit_markLine.Spec (AC P) N := kit_markLine.spec kit_markLine.imp p_kit_mark_spec
theorem p_kit_flatLines_spec : FlatSpec (AC P) 8 (N 91) := kit_flatLines.spec kit_flatLines.imp p_kit_markLine_spec
theorem p_kit_flatAsks_nil : FlatNil (AC P) (N 92) := kit_flatAsks.nil kit_flatAsks.imp
theorem p_kit_markTell_spec : kit_markTell.Spec (AC P) N := kit_markTell.spec kit_markTell.imp p_kit_mark_spec
theorem p_kit_SameUses_spec : kit_SameUses.Spec (AC P) N := kit_SameUses.spec kit_SameUses.imp
theorem p_kit_SameTell_spec : kit_SameTell.Spec (AC P) N := kit_SameTell.spec kit_SameTell.imp p_kit_SameLots_spec p_kit_SameUses_spec
theorem p_kit_flatTells_spec : FlatSpec (AC P) 7 (N 93) := kit_flatTells.spec kit_flatTells.imp p_kit_markTell_spec p_kit_SameTell_spec
theorem p_kit_flatStates_nil : FlatNil (AC P) (N 94) := kit_flatStates.nil kit_flatStates.imp
theorem p_kit_flatRows_nil : FlatNil (AC P) (N 95) := kit_flatRows.nil kit_flatRows.imp
theorem p_kit_flatTurns_nil : FlatNil (AC P) (N 96) := kit_flatTurns.nil kit_flatTurns.imp
theorem p_kit_flatFates_nil : FlatNil (AC P) (N 97) := kit_flatFates.nil kit_flatFates.imp
theorem p_kit_flatDirties_nil : FlatNil (AC P) (N 98) := kit_flatDirties.nil kit_flatDirties.imp
theorem p_kit_flatOpens_nil : FlatNil (AC P) (N 99) := kit_flatOpens.nil kit_flatOpens.imp
theorem p_kit_flatRecords_nil : FlatNil (AC P) (N 100) := kit_flatRecords.nil kit_flatRecords.imp
theorem p_kit_flatSteps_nil : FlatNil (AC P) (N 101) := kit_flatSteps.nil kit_flatSteps.imp
theorem p_kit_flatTales_nil : FlatNil (AC P) (N 102) := kit_flatTales.nil kit_flatTales.imp
theorem p_kit_bag_apart_spec : kit_bag_apart.Spec (AC P) N := kit_bag_apart.spec kit_bag_apart.imp p_kit_flatWords_nil p_kit_flatInts_nil p_kit_flatLongs_nil p_kit_flatTexts_spec p_kit_flatBytes_spec p_kit_flatWindows_spec p_kit_flatLots_spec p_kit_flatWants_spec p_kit_flatUses_spec p_kit_flatParts_spec p_kit_flatItems_nil p_kit_flatLines_spec p_kit_flatAsks_nil p_kit_flatTells_spec p_kit_flatStates_nil p_kit_flatRows_nil p_kit_flatTurns_nil p_kit_flatFates_nil p_kit_flatDirties_nil p_kit_flatOpens_nil p_kit_flatRecords_nil p_kit_flatSteps_nil p_kit_flatTales_nil
theorem p_kit_ApartLots_spec : FlatSpec (AC P) 6 (N 176) := kit_ApartLots.spec kit_ApartLots.imp p_kit_bag_putLots_spec p_kit_bag_apart_spec
theorem p_law04_LotLists_spec : law04_LotLists.Spec (AC P) N := law04_LotLists.spec law04_LotLists.imp p_law04_awake_spec p_law04_great_spec p_kit_LentLots_spec p_lot_Sort_spec p_lot_Of_spec p_lot_Sweep_spec p_lot_On_spec p_kit_KeptLots_spec p_kit_OverLots_spec p_ref04_Sweep_spec p_ref04_Sort_spec p_ref04_Of_spec p_ref04_On_spec p_kit_SameLots_spec p_kit_ApartLots_spec
theorem p_law04_LotRights_spec : law04_LotRights.Spec (AC P) N := law04_LotRights.spec law04_LotRights.imp p_lot_Right_spec p_ref04_Right_spec p_lot_Compare_spec p_ref04_Compare_spec p_law04_awake_spec
theorem p_law04_LotNumbers_spec : law04_LotNumbers.Spec (AC P) N := law04_LotNumbers.spec law04_LotNumbers.imp p_law04_LotRights_spec p_law04_LotLists_spec p_law04_awake_spec

theorem lotNumbers_AC (H : AHeap) (vs : List AVal) (h : AbsArgs H [] vs) : AC P 4 vs H fun v _ => v = .bool true := by
  cases h
  exact p_law04_LotNumbers_spec H _ rfl
theorem lotNumbers_lifted (os : Os) (started : os.Started) (H : Type) (enc : TypeId × Value → H) :
    ReturnsInHanded {} Tryz.checked os 4 .any (Rows.lotNumbersSpec.pre6 enc Tryz.prog Tryz.f4 Rows.lotNumbersRow.domain false) (Rows.lotNumbersSpec.post enc Tryz.prog Tryz.f4 false true false false) := by
  refine returnsInHanded_of_change_sized (C := Tryz.checked) own started (by kernel_rfl) Tryz.func4
    (ChangeSpec.witness6 (enc := enc) (C := Tryz.checked) false ⟨#[], #[], []⟩ 8 (by kernel_rfl) (by kernel_rfl) (by kernel_rfl) (by kernel_rfl)) ?_
  intro W base args ds gs before hval hW _ hwt _
  exact law_contract (n := 6) (tb := 4) laid (by kernel_rfl) rfl (fun H ds h => by
    have h : ds.length = 0 := h
    match ds, h with
    | [], _ => rfl) (by kernel_rfl) (by kernel_rfl) lotNumbers_AC hval hW hwt
theorem lotNumbers : Rows.LotNumbersSaid :=
  OpenClaim.holds_of_wide 4 Tryz.f4 rfl rfl rfl rfl rfl rfl rfl ⟨rfl, rfl, rfl, rfl, rfl⟩ rfl rfl rfl rfl rfl (by kernel_rfl) Tryz.func4 (by kernel_rfl)
    (of_decide_eq_true (by kernel_rfl)) (by unfold Func.isWrapper; first | (rw [if_pos (by decide +kernel)]; kernel_rfl) | (rw [if_neg (by decide +kernel)]; exact ⟨rfl, rfl⟩))
    (fun os started H enc _ => lotNumbers_lifted os started H enc)
#print axioms lotNumbers
end Go.Proofs.YtfinnbedbggnnaaGreat
