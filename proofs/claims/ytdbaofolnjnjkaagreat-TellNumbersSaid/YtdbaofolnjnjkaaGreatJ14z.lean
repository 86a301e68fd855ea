/- What is proved: the statement, joined. No conditions. -/
import Derived.Test.YtdbaofolnjnjkaaGreatRows
import Derived.Test.YtdbaofolnjnjkaaGreatQ3
import Derived.Test.YtdbaofolnjnjkaaGreatQ5
import Derived.Test.YtdbaofolnjnjkaaGreatQ6
import Derived.WalkKit
import Derived.ProofKit
import Derived.OpenShut

/- What is proved: statements of this seat. No conditions. -/
set_option linter.unusedVariables false
set_option maxRecDepth 100000
namespace Go.Proofs.YtdbaofolnjnjkaaGreat
open Go.Ab Go.Ab.S14z
open Go.ChangeShapes Go.WideShapes Go.ChangeAt Go.RowKit

theorem own : ownKnob Tryz.prog.godebug = none := by kernel_rfl
theorem laid : laidOutB Tryz.prog = true := by kernel_rfl

theorem p_law14_lot_spec : law14_lot.Spec (AC P) N := law14_lot.spec law14_lot.imp
theorem p_law14_some_spec : law14_some.Spec (AC P) N := law14_some.spec law14_some.imp p_law14_lot_spec
theorem p_law14_bent_spec : law14_bent.Spec (AC P) N := law14_bent.spec law14_bent.imp p_law14_lot_spec
theorem p_law14_great_spec : law14_great.Spec (AC P) N := law14_great.spec law14_great.imp
theorem p_code_Right_spec : code_Right.Spec (AC P) N := code_Right.spec code_Right.imp
theorem p_window_Right_spec : window_Right.Spec (AC P) N := window_Right.spec window_Right.imp
theorem p_lot_Right_spec : lot_Right.Spec (AC P) N := lot_Right.spec lot_Right.imp p_code_Right_spec p_window_Right_spec
theorem p_tell_Right_spec : tell_Right.Spec (AC P) N := tell_Right.spec tell_Right.imp p_lot_Right_spec p_code_Right_spec
theorem p_tell_put_spec : tell_put.Spec (AC P) N := tell_put.spec tell_put.imp
theorem p_code_row_spec : code_row.Spec (AC P) N := code_row.spec code_row.imp
theorem p_code_Put_spec : code_Put.Spec (AC P) N := code_Put.spec code_Put.imp p_code_Right_spec p_code_row_spec
theorem p_tell_Put_spec : tell_Put.Spec (AC P) N := tell_Put.spec tell_Put.imp p_tell_Right_spec p_tell_put_spec p_code_Put_spec
theorem p_tell_reader_number_spec : tell_reader_number.Spec (AC P) N := tell_reader_number.spec tell_reader_number.imp
theorem p_code_Get_spec : code_Get.Spec (AC P) N := code_Get.spec code_Get.imp p_code_Right_spec
theorem p_tell_reader_code_spec : tell_reader_code.Spec (AC P) N := tell_reader_code.spec tell_reader_code.imp p_code_Get_spec
theorem p_tell_reader_lot_spec : tell_reader_lot.Spec (AC P) N := tell_reader_lot.spec tell_reader_lot.imp p_tell_reader_number_spec p_tell_reader_code_spec
theorem p_tell_list_api_Lot_spec : tell_list_api_Lot.Spec (AC P) N := tell_list_api_Lot.spec tell_list_api_Lot.imp p_tell_reader_number_spec p_tell_reader_lot_spec
theorem p_tell_reader_use_spec : tell_reader_use.Spec (AC P) N := tell_reader_use.spec tell_reader_use.imp p_tell_reader_number_spec
theorem p_tell_list_api_Use_spec : tell_list_api_Use.Spec (AC P) N := tell_list_api_Use.spec tell_list_api_Use.imp p_tell_reader_number_spec p_tell_reader_use_spec
theorem p_tell_Get_spec : tell_Get.Spec (AC P) N := tell_Get.spec tell_Get.imp p_tell_reader_number_spec p_tell_reader_code_spec p_tell_list_api_Lot_spec p_tell_list_api_Use_spec p_tell_Right_spec
theorem p_kit_SameBytes_spec : kit_SameBytes.Spec (AC P) N := kit_SameBytes.spec kit_SameBytes.imp
theorem p_law14_awake_spec : law14_awake.Spec (AC P) N := law14_awake.spec law14_awake.imp p_tell_Put_spec p_tell_Get_spec p_kit_SameBytes_spec p_tell_Right_spec
theorem p_kit_mark_spec : kit_mark.Spec (AC P) N := kit_mark.spec kit_mark.imp
theorem p_kit_markLot_spec : kit_markLot.Spec (AC P) N := kit_markLot.spec kit_markLot.imp p_kit_mark_spec
theorem p_kit_LentLots_spec : kit_LentLots.Spec (AC P) N := kit_LentLots.spec kit_LentLots.imp p_kit_markLot_spec
theorem p_kit_markUse_spec : kit_markUse.Spec (AC P) N := kit_markUse.spec kit_markUse.imp p_kit_mark_spec
theorem p_kit_LentUses_spec : kit_LentUses.Spec (AC P) N := kit_LentUses.spec kit_LentUses.imp p_kit_markUse_spec
theorem p_kit_LentTell_spec : kit_LentTell.Spec (AC P) N := kit_LentTell.spec kit_LentTell.imp p_kit_LentLots_spec p_kit_LentUses_spec
theorem p_kit_SameLots_spec : kit_SameLots.Spec (AC P) N := kit_SameLots.spec kit_SameLots.imp
theorem p_kit_SameUses_spec : kit_SameUses.Spec (AC P) N := kit_SameUses.spec kit_SameUses.imp
theorem p_kit_SameTell_spec : kit_SameTell.Spec (AC P) N := kit_SameTell.spec kit_SameTell.imp p_kit_SameLots_spec p_kit_SameUses_spec
theorem p_kit_KeptLots_spec : kit_KeptLots.Spec (AC P) N := kit_KeptLots.spec kit_KeptLots.imp p_kit_markLot_spec
theorem p_kit_KeptUses_spec : kit_KeptUses.Spec (AC P) N := kit_KeptUses.spec kit_KeptUses.imp p_kit_markUse_spec
theorem p_kit_KeptTell_spec : kit_KeptTell.Spec (AC P) N := kit_KeptTell.spec kit_KeptTell.imp p_kit_SameTell_spec p_kit_KeptLots_spec p_kit_KeptUses_spec
theorem p_kit_OverLots_spec : kit_OverLots.Spec (AC P) N := kit_OverLots.spec kit_OverLots.imp p_kit_markLot_spec
theorem p_kit_OverUses_spec : kit_OverUses.Spec (AC P) N := kit_OverUses.spec kit_OverUses.imp p_kit_markUse_spec
theorem p_kit_OverTell_spec : kit_OverTell.Spec (AC P) N := kit_OverTell.spec kit_OverTell.imp p_kit_OverLots_spec p_kit_OverUses_spec
theorem p_ref03_Right_spec : ref03_Right.Spec (AC P) N := ref03_Right.spec ref03_Right.imp
theorem p_ref04_Right_spec : ref04_Right.Spec (AC P) N := ref04_Right.spec ref04_Right.imp p_ref03_Right_spec
theorem p_ref14_Right_spec : ref14_Right.Spec (AC P) N := ref14_Right.spec ref14_Right.imp p_ref04_Right_spec p_ref03_Right_spec
theorem p_ref14_number_spec : ref14_number.Spec (AC P) N := ref14_number.spec ref14_number.imp
theorem p_ref03_Put_spec : ref03_Put.Spec (AC P) N := ref03_Put.spec ref03_Put.imp p_ref03_Right_spec
theorem p_ref14_Put_spec : ref14_Put.Spec (AC P) N := ref14_Put.spec ref14_Put.imp p_ref14_Right_spec p_ref14_number_spec p_ref03_Put_spec
theorem p_kit_bag_putBytes_spec : PutSpec (AC P) 4 (N 63) := kit_bag_putBytes.spec kit_bag_putBytes.imp
theorem p_kit_flatWords_nil : FlatNil (AC P) (N 80) := kit_flatWords.nil kit_flatWords.imp
theorem p_kit_flatInts_nil : FlatNil (AC P) (N 81) := kit_flatInts.nil kit_flatInts.imp
theorem p_kit_flatLongs_nil : FlatNil (AC P) (N 82) := kit_flatLongs.nil kit_flatLongs.imp
theorem p_kit_markText_spec : kit_markText.Spec (AC P) N := kit_markText.spec kit_markText.imp
theorem p_kit_flatTexts_spec : FlatSpec (AC P) 1 (N 83) := kit_flatTexts.spec kit_flatTexts.imp p_kit_markText_spec
theorem p_kit_markByte_spec : kit_markByte.Spec (AC P) N := kit_markByte.spec kit_markByte.imp p_kit_mark_spec
theorem p_kit_flatBytes_spec : FlatSpec (AC P) 1 (N 84) := kit_flatBytes.spec kit_flatBytes.imp p_kit_markByte_spec
theorem p_kit_markWindow_spec : kit_markWindow.Spec (AC P) N := kit_markWindow.spec kit_markWindow.imp p_kit_mark_spec
theorem p_kit_flatWindows_spec : FlatSpec (AC P) 2 (N 85) := kit_flatWindows.spec kit_flatWindows.imp p_kit_markWindow_spec
theorem p_kit_flatLots_spec : FlatSpec (AC P) 6 (N 86) := kit_flatLots.spec kit_flatLots.imp p_kit_markLot_spec
theorem p_kit_markWant_spec : kit_markWant.Spec (AC P) N := kit_markWant.spec kit_markWant.imp p_kit_mark_spec
theorem p_kit_flatWants_spec : FlatSpec (AC P) 3 (N 87) := kit_flatWants.spec kit_flatWants.imp p_kit_markWant_spec
theorem p_kit_flatUses_spec : FlatSpec (AC P) 3 (N 88) := kit_flatUses.spec kit_flatUses.imp p_kit_markUse_spec
theorem p_kit_markPart_spec : kit_markPart.Spec (AC P) N := kit_markPart.spec kit_markPart.imp p_kit_mark_spec
theorem p_kit_flatParts_spec : FlatSpec (AC P) 2 (N 89) := kit_flatParts.spec kit_flatParts.imp p_kit_markPart_spec
theorem p_kit_flatItems_nil : FlatNil (AC P) (N 90) := kit_flatItems.nil kit_flatItems.imp
theorem p_kit_markLine_spec : kit_markLine.Spec (AC P) N := kit_markLine.spec kit_markLine.imp p_kit_mark_spec
theorem p_kit_flatLines_spec : FlatSpec (AC P) 8 (N 91) := kit_flatLines.spec kit_flatLines.imp p_kit_markLine_spec
theorem p_kit_flatAsks_nil : FlatNil (AC P) (N 92) := kit_flatAsks.nil kit_flatAsks.imp
theorem p_kit_markTell_spec : kit_markTell.Spec (AC P) N := kit_markTell.spec kit_markTell.imp p_kit_mark_spec
theorem p_kit_flatTells_spec : FlatSpec (AC P) 7 (N 93) := kit_flatTells.spec kit_flatTells.imp p_kit_markTell_spec p_kit_SameTell_spec
theorem p_kit_flatStates_nil : FlatNil (AC P) (N 94) := kit_flatStates.nil kit_flatStates.imp
theorem p_kit_flatRows_nil : FlatNil (AC P) (N 95) := kit_flatRows.nil kit_flatRows.imp
theorem p_kit_flatTurns_nil : FlatNil (AC P) (N 96) := kit_flatTurns.nil kit_flatTurns.imp
theorem p_kit_flatFates_nil : FlatNil (AC P) (N 97) := kit_flatFates.nil kit_flatFates.imp
theorem p_kit_flatDirties_nil : FlatNil (AC P) (N 98) := kit_flatDirties.nil kit_flatDirties.imp
theorem p_kit_flatOpens_nil : FlatNil (AC P) (N 99) := kit_flatOpens.nil kit_flatOpens.imp
theorem p_kit_flatRecords_nil : FlatNil (AC P) (N 100) := kit_flatRecords.nil kit_flatRecords.imp
theorem p_kit_flatSteps_nil : FlatNil (AC P) (N 101) := kit_flatSteps.nil kit_flatSteps.imp
theorem p_kit_flatTales_nil : FlatNil (AC P) (N 102) := kit_flatTales.nil kit_flatTales.imp
theorem p_kit_bag_apart_spec : kit_bag_apart.Spec (AC P) N := kit_bag_apart.spec kit_bag_apart.imp p_kit_flatWords_nil p_kit_flatInts_nil p_kit_flatLongs_nil p_kit_flatTexts_spec p_kit_flatBytes_spec p_kit_flatWindows_spec p_kit_flatLots_spec p_kit_flatWants_spec p_kit_flatUses_spec p_kit_flatParts_spec p_kit_flatItems_nil p_kit_flatLines_spec p_kit_flatAsks_nil p_kit_flatTells_spec p_kit_flatStates_nil p_kit_flatRows_nil p_kit_flatTurns_nil p_kit_flatFates_nil p_kit_flatDirties_nil p_kit_flatOpens_nil p_kit_flatRecords_nil p_kit_flatSteps_nil p_kit_flatTales_nil
theorem p_kit_ApartBytes_spec : FlatSpec (AC P) 1 (N 35) := kit_ApartBytes.spec kit_ApartBytes.imp p_kit_bag_putBytes_spec p_kit_bag_apart_spec
theorem p_law14_TellPuts_spec : law14_TellPuts.Spec (AC P) N := law14_TellPuts.spec law14_TellPuts.imp p_law14_great_spec p_law14_awake_spec p_kit_LentTell_spec p_tell_Put_spec p_tell_Right_spec p_kit_KeptTell_spec p_kit_OverTell_spec p_ref14_Put_spec p_ref14_Right_spec p_kit_SameBytes_spec p_kit_ApartBytes_spec
theorem p_kit_LentBytes_spec : kit_LentBytes.Spec (AC P) N := kit_LentBytes.spec kit_LentBytes.imp p_kit_markByte_spec
theorem p_kit_KeptBytes_spec : kit_KeptBytes.Spec (AC P) N := kit_KeptBytes.spec kit_KeptBytes.imp p_kit_markByte_spec
theorem p_kit_OverBytes_spec : kit_OverBytes.Spec (AC P) N := kit_OverBytes.spec kit_OverBytes.imp p_kit_markByte_spec
theorem p_ref13_Reader_Number_spec : ref13_Reader_Number.Spec (AC P) N := ref13_Reader_Number.spec ref13_Reader_Number.imp
theorem p_ref03_Get_spec : ref03_Get.Spec (AC P) N := ref03_Get.spec ref03_Get.imp p_ref03_Right_spec
theorem p_ref13_Reader_Code_spec : ref13_Reader_Code.Spec (AC P) N := ref13_Reader_Code.spec ref13_Reader_Code.imp p_ref03_Get_spec
theorem p_ref14_lot_spec : ref14_lot.Spec (AC P) N := ref14_lot.spec ref14_lot.imp p_ref13_Reader_Number_spec p_ref13_Reader_Code_spec
theorem p_ref14_Get_spec : ref14_Get.Spec (AC P) N := ref14_Get.spec ref14_Get.imp p_ref13_Reader_Number_spec p_ref13_Reader_Code_spec p_ref14_lot_spec p_ref14_Right_spec
theorem p_kit_bag_putLots_spec : PutSpec (AC P) 6 (N 130) := kit_bag_putLots.spec kit_bag_putLots.imp
theorem p_kit_bag_putUses_spec : PutSpec (AC P) 8 (N 131) := kit_bag_putUses.spec kit_bag_putUses.imp
theorem p_kit_bag_oneTell_spec : kit_bag_oneTell.Spec (AC P) N := kit_bag_oneTell.spec kit_bag_oneTell.imp p_kit_bag_putLots_spec p_kit_bag_putUses_spec
theorem p_kit_bag_putTells_spec : kit_bag_putTells.Spec (AC P) N := kit_bag_putTells.spec kit_bag_putTells.imp p_kit_bag_oneTell_spec
theorem p_kit_ApartTells_spec : kit_ApartTells.Spec (AC P) N := kit_ApartTells.spec kit_ApartTells.imp p_kit_bag_putTells_spec p_kit_bag_apart_spec
theorem p_law14_TellGets_spec : law14_TellGets.Spec (AC P) N := law14_TellGets.spec law14_TellGets.imp p_law14_awake_spec p_kit_LentBytes_spec p_tell_Get_spec p_kit_KeptBytes_spec p_kit_OverBytes_spec p_ref14_Get_spec p_kit_SameTell_spec p_kit_ApartTells_spec
theorem p_kit_CopyBytes_spec : kit_CopyBytes.Spec (AC P) N := kit_CopyBytes.spec kit_CopyBytes.imp
theorem p_law14_turned_spec : law14_turned.Spec (AC P) N := law14_turned.spec law14_turned.imp p_tell_Put_spec p_tell_Right_spec p_law14_TellGets_spec p_kit_CopyBytes_spec
theorem p_law14_TellNumbers_spec : law14_TellNumbers.Spec (AC P) N := law14_TellNumbers.spec law14_TellNumbers.imp p_law14_some_spec p_law14_bent_spec p_law14_TellPuts_spec p_law14_turned_spec p_law14_awake_spec

theorem tellNumbers_AC (H : AHeap) (vs : List AVal) (h : AbsArgs H [] vs) : AC P 3 vs H fun v _ => v = .bool true := by
  cases h
  exact p_law14_TellNumbers_spec H _ rfl
theorem tellNumbers_lifted (os : Os) (started : os.Started) (H : Type) (enc : TypeId × Value → H) :
    ReturnsInHanded {} Tryz.checked os 3 .any (Rows.tellNumbersSpec.pre6 enc Tryz.prog Tryz.f3 Rows.tellNumbersRow.domain false) (Rows.tellNumbersSpec.post enc Tryz.prog Tryz.f3 false true false false) := by
  refine returnsInHanded_of_change_sized (C := Tryz.checked) own started (by kernel_rfl) Tryz.func3
    (ChangeSpec.witness6 (enc := enc) (C := Tryz.checked) false ⟨#[], #[], []⟩ 8 (by kernel_rfl) (by kernel_rfl) (by kernel_rfl) (by kernel_rfl)) ?_
  intro W base args ds gs before hval hW _ hwt _
  exact law_contract (n := 6) (tb := 4) laid (by kernel_rfl) rfl (fun H ds h => by
    have h : ds.length = 0 := h
    match ds, h with
    | [], _ => rfl) (by kernel_rfl) (by kernel_rfl) tellNumbers_AC hval hW hwt
theorem tellNumbers : Rows.TellNumbersSaid :=
  OpenClaim.holds_of_wide 3 Tryz.f3 rfl rfl rfl rfl rfl rfl rfl ⟨rfl, rfl, rfl, rfl, rfl⟩ rfl rfl rfl rfl rfl (by kernel_rfl) Tryz.func3 (by kernel_rfl)
    (of_decide_eq_true (by kernel_rfl)) (by unfold Func.isWrapper; first | (rw [if_pos (by decide +kernel)]; kernel_rfl) | (rw [if_neg (by decide +kernel)]; exact ⟨rfl, rfl⟩))
    (fun os started H enc _ => tellNumbers_lifted os started H enc)
#print axioms tellNumbers
end Go.Proofs.YtdbaofolnjnjkaaGreat
