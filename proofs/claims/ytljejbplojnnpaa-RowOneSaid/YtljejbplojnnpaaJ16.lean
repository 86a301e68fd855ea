/- What is proved: the statement, joined. No conditions. -/
import Derived.Test.YtljejbplojnnpaaRows
import Derived.Test.YtljejbplojnnpaaQ6
import Derived.Test.YtljejbplojnnpaaQ7
import Derived.Test.YtljejbplojnnpaaQ8
import Derived.WalkKit
import Derived.ProofKit
import Derived.OpenShut
set_option linter.unusedVariables false
set_option linter.unusedSimpArgs false
set_option maxRecDepth 100000
namespace Go.Proofs.Ytljejbplojnnpaa
open Go.Ab Go.Ab.S16
open Go.ChangeShapes Go.WideShapes Go.ChangeAt Go.RowKit
theorem own : ownKnob Try.prog.godebug = none := by kernel_rfl
theorem laid : laidOutB Try.prog = true := by kernel_rfl
theorem p_law16_small_spec : law16_small.Spec (AC P) N := law16_small.spec law16_small.imp
theorem p_code_Right_spec : code_Right.Spec (AC P) N := code_Right.spec code_Right.imp
theorem p_slices_Index_string_string_spec : slices_Index_string_string.Spec (AC P) N := slices_Index_string_string.spec slices_Index_string_string.imp
theorem p_slices_Contains_string_string_spec : slices_Contains_string_string.Spec (AC P) N := slices_Contains_string_string.spec slices_Contains_string_string.imp p_slices_Index_string_string_spec
theorem p_row_coded_spec : row_coded.Spec (AC P) N := row_coded.spec row_coded.imp p_code_Right_spec p_slices_Contains_string_string_spec
theorem p_row_kept_spec : row_kept.Spec (AC P) N := row_kept.spec row_kept.imp p_row_coded_spec
theorem p_window_Right_spec : window_Right.Spec (AC P) N := window_Right.spec window_Right.imp
theorem p_lot_Right_spec : lot_Right.Spec (AC P) N := lot_Right.spec lot_Right.imp p_code_Right_spec p_window_Right_spec
theorem p_rank_Right_spec : rank_Right.Spec (AC P) N := rank_Right.spec rank_Right.imp p_code_Right_spec
theorem p_row_plain_spec : row_plain.Spec (AC P) N := row_plain.spec row_plain.imp p_row_kept_spec p_lot_Right_spec p_rank_Right_spec
theorem p_row_number_spec : row_number.Spec (AC P) N := row_number.spec row_number.imp
theorem p_slices_Grow_byte_byte_spec : slices_Grow_byte_byte.Spec (AC P) N := slices_Grow_byte_byte.spec slices_Grow_byte_byte.imp
theorem p_slices_Concat_byte_byte_spec : slices_Concat_byte_byte.Spec (AC P) N := slices_Concat_byte_byte.spec slices_Concat_byte_byte.imp p_slices_Grow_byte_byte_spec
theorem p_row_join_spec : row_join.Spec (AC P) N := row_join.spec row_join.imp p_slices_Concat_byte_byte_spec
theorem p_row_All_1_spec : row_All_1.Spec (AC P) N := row_All_1.spec row_All_1.imp p_row_join_spec
theorem p_code_row_spec : code_row.Spec (AC P) N := code_row.spec code_row.imp
theorem p_code_Put_spec : code_Put.Spec (AC P) N := code_Put.spec code_Put.imp p_code_Right_spec p_code_row_spec
theorem p_row_All_spec : row_All.Spec (AC P) N := row_All.spec row_All.imp p_row_plain_spec p_row_number_spec p_row_All_1_spec p_code_Put_spec p_row_join_spec
theorem p_bytes_Compare_spec : bytes_Compare.Spec (AC P) N := bytes_Compare.spec bytes_Compare.imp bytealg_Compare.imp
theorem p_row_reader_number_spec : row_reader_number.Spec (AC P) N := row_reader_number.spec row_reader_number.imp
theorem p_code_Get_spec : code_Get.Spec (AC P) N := code_Get.spec code_Get.imp p_code_Right_spec
theorem p_row_reader_code_spec : row_reader_code.Spec (AC P) N := row_reader_code.spec row_reader_code.imp p_code_Get_spec
theorem p_row_reader_item_spec : row_reader_item.Spec (AC P) N := row_reader_item.spec row_reader_item.imp p_row_reader_number_spec p_row_reader_code_spec
theorem p_row_reader_lot_spec : row_reader_lot.Spec (AC P) N := row_reader_lot.spec row_reader_lot.imp p_row_reader_number_spec p_row_reader_code_spec
theorem p_row_reader_line_spec : row_reader_line.Spec (AC P) N := row_reader_line.spec row_reader_line.imp p_row_reader_number_spec p_row_reader_code_spec
theorem p_bytes_Equal_spec : bytes_Equal.Spec (AC P) N := bytes_Equal.spec bytes_Equal.imp
theorem p_row_State_1_spec : row_State_1.Spec (AC P) N := row_State_1.spec row_State_1.imp p_bytes_Equal_spec
theorem p_slices_EqualFunc_api_Row_api_Row_api_Row_api_Row_spec : slices_EqualFunc_api_Row_api_Row_api_Row_api_Row.Spec (AC P) N := slices_EqualFunc_api_Row_api_Row_api_Row_api_Row.spec slices_EqualFunc_api_Row_api_Row_api_Row_api_Row.imp p_row_State_1_spec
theorem p_row_State_spec : row_State.Spec (AC P) N := row_State.spec row_State.imp p_bytes_Compare_spec p_row_reader_number_spec p_row_reader_item_spec p_row_reader_lot_spec p_row_reader_line_spec p_row_All_spec p_slices_EqualFunc_api_Row_api_Row_api_Row_api_Row_spec
theorem p_tell_Right_spec : tell_Right.Spec (AC P) N := tell_Right.spec tell_Right.imp p_lot_Right_spec p_code_Right_spec
theorem p_tell_put_spec : tell_put.Spec (AC P) N := tell_put.spec tell_put.imp
theorem p_tell_Put_spec : tell_Put.Spec (AC P) N := tell_Put.spec tell_Put.imp p_tell_Right_spec p_tell_put_spec p_code_Put_spec
theorem p_row_Key_spec : row_Key.Spec (AC P) N := row_Key.spec row_Key.imp p_row_number_spec p_row_join_spec
theorem p_slices_Chunk_byte_byte_spec : slices_Chunk_byte_byte.Spec (AC P) N := slices_Chunk_byte_byte.spec slices_Chunk_byte_byte.imp
theorem p_bytes_Clone_spec : bytes_Clone.Spec (AC P) N := bytes_Clone.spec bytes_Clone.imp
theorem p_row_Answer_spec : row_Answer.Spec (AC P) N := row_Answer.spec row_Answer.imp (AC_cmono P) p_tell_Put_spec p_row_Key_spec p_slices_Chunk_byte_byte_spec slices_Chunk_byte_byte_1.imp p_bytes_Clone_spec
theorem p_bytes_HasPrefix_spec : bytes_HasPrefix.Spec (AC P) N := bytes_HasPrefix.spec bytes_HasPrefix.imp p_bytes_Equal_spec
theorem p_tell_reader_number_spec : tell_reader_number.Spec (AC P) N := tell_reader_number.spec tell_reader_number.imp
theorem p_tell_reader_code_spec : tell_reader_code.Spec (AC P) N := tell_reader_code.spec tell_reader_code.imp p_code_Get_spec
theorem p_tell_reader_lot_spec : tell_reader_lot.Spec (AC P) N := tell_reader_lot.spec tell_reader_lot.imp p_tell_reader_number_spec p_tell_reader_code_spec
theorem p_tell_list_api_Lot_spec : tell_list_api_Lot.Spec (AC P) N := tell_list_api_Lot.spec tell_list_api_Lot.imp p_tell_reader_number_spec p_tell_reader_lot_spec
theorem p_tell_reader_use_spec : tell_reader_use.Spec (AC P) N := tell_reader_use.spec tell_reader_use.imp p_tell_reader_number_spec
theorem p_tell_list_api_Use_spec : tell_list_api_Use.Spec (AC P) N := tell_list_api_Use.spec tell_list_api_Use.imp p_tell_reader_number_spec p_tell_reader_use_spec
theorem p_tell_Get_spec : tell_Get.Spec (AC P) N := tell_Get.spec tell_Get.imp p_tell_reader_number_spec p_tell_reader_code_spec p_tell_list_api_Lot_spec p_tell_list_api_Use_spec p_tell_Right_spec
theorem p_row_Answered_spec : row_Answered.Spec (AC P) N := row_Answered.spec row_Answered.imp p_row_Key_spec p_bytes_HasPrefix_spec p_bytes_Equal_spec p_tell_Get_spec
theorem p_kit_SameBytes_spl : kit_SameBytes.SpecL (AC P) N := kit_SameBytes.spl kit_SameBytes.imp
theorem p_kit_SameParts_spec : kit_SameParts.Spec (AC P) N := kit_SameParts.spec kit_SameParts.imp
theorem p_kit_SameTexts_spec : kit_SameTexts.Spec (AC P) N := kit_SameTexts.spec kit_SameTexts.imp
theorem p_kit_SameItem_spec : kit_SameItem.Spec (AC P) N := kit_SameItem.spec kit_SameItem.imp p_kit_SameParts_spec p_kit_SameTexts_spec
theorem p_kit_SameItems_spec : kit_SameItems.Spec (AC P) N := kit_SameItems.spec kit_SameItems.imp p_kit_SameItem_spec
theorem p_kit_SameLots_spec : kit_SameLots.Spec (AC P) N := kit_SameLots.spec kit_SameLots.imp
theorem p_kit_SameLines_spec : kit_SameLines.Spec (AC P) N := kit_SameLines.spec kit_SameLines.imp
theorem p_kit_SameState_spec : kit_SameState.Spec (AC P) N := kit_SameState.spec kit_SameState.imp p_kit_SameItems_spec p_kit_SameLots_spec p_kit_SameLines_spec
theorem p_law16_awake_spec : law16_awake.Spec (AC P) N := law16_awake.spec law16_awake.imp p_law16_small_spec p_row_All_spec p_row_State_spec p_row_Answer_spec p_row_Answered_spec p_kit_SameBytes_spl p_kit_SameState_spec
theorem p_law16_great_spec : law16_great.Spec (AC P) N := law16_great.spec law16_great.imp
theorem p_kit_CopyParts_spec : kit_CopyParts.Spec (AC P) N := kit_CopyParts.spec kit_CopyParts.imp
theorem p_kit_CopyTexts_spec : kit_CopyTexts.Spec (AC P) N := kit_CopyTexts.spec kit_CopyTexts.imp
theorem p_kit_CopyItem_spec : kit_CopyItem.Spec (AC P) N := kit_CopyItem.spec kit_CopyItem.imp p_kit_CopyParts_spec p_kit_CopyTexts_spec
theorem p_kit_CopyItems_spec : kit_CopyItems.Spec (AC P) N := kit_CopyItems.spec kit_CopyItems.imp p_kit_CopyItem_spec
theorem p_kit_CopyLots_spec : kit_CopyLots.Spec (AC P) N := kit_CopyLots.spec kit_CopyLots.imp
theorem p_kit_CopyLines_spec : kit_CopyLines.Spec (AC P) N := kit_CopyLines.spec kit_CopyLines.imp
theorem p_kit_CopyState_spec : kit_CopyState.Spec (AC P) N := kit_CopyState.spec kit_CopyState.imp p_kit_CopyItems_spec p_kit_CopyLots_spec p_kit_CopyLines_spec
theorem p_kit_Pick_spec : kit_Pick.Spec (AC P) N := kit_Pick.spec kit_Pick.imp
theorem p_law16_RowOne_spec : law16_RowOne.Spec (AC P) N := law16_RowOne.spec law16_RowOne.imp p_law16_awake_spec p_law16_great_spec p_row_All_spec p_kit_CopyState_spec p_kit_Pick_spec p_kit_SameBytes_spl p_kit_SameState_spec
theorem rowOne_AC (H : AHeap) (vs : List AVal) (h : AbsArgs H [.st tySta, .i .i64, .i .i64] vs) : AC P 4 vs H fun v _ => v = .bool true := by
 obtain ⟨a, r, rfl, ⟨cs, rfl, ha⟩, c, r2, rfl, ⟨n, e1, _⟩, d, r3, rfl, ⟨m, e2, _⟩, rfl⟩ := h
 cases e1
 cases e2
 obtain ⟨s, x, y, z, rfl, hs, ho⟩ := dState ha
 exact p_law16_RowOne_spec s x y z n m H _ hs rfl
theorem rowOne_lifted (os : Os) (started : os.Started) (H : Type) (enc : TypeId × Value → H) :
  ReturnsInHanded {} Try.checked os 4 .any (Rows.rowOneSpec.pre6 enc Try.prog Try.f4 Rows.rowOneRow.domain false) (Rows.rowOneSpec.post enc Try.prog Try.f4 false true false false) := by
 refine returnsInHanded_of_change_sized (C := Try.checked) own started (by kernel_rfl) Try.func4
  (ChangeSpec.witness6 (enc := enc) (C := Try.checked) false ⟨#[], #[.agg #[.int .i64 0, .int .i64 0, .int .i64 0, .slice none 0 0, .slice none 0 0, .slice none 0 0], .int .i64 0, .int .i64 0], []⟩ 8 (by kernel_rfl) (by kernel_rfl) (by kernel_rfl) (by kernel_rfl)) ?_
 intro W base args ds gs before hval hW _ hwt _
 exact law_contract (n := 6) (tb := 4) laid (by kernel_rfl) rfl (fun H ds h => by
  have h : ds.length = 3 := h
  match ds, h with
  | [a, b, c], _ => rfl) (by kernel_rfl) (by kernel_rfl) (callFunc_enter Try.func4 (by kernel_rfl) (by kernel_rfl)) rowOne_AC hval hW hwt
theorem rowOne : Rows.RowOneSaid :=
 OpenClaim.holds_of_wide 4 Try.f4 rfl rfl rfl rfl rfl rfl rfl ⟨rfl, rfl, rfl, rfl, rfl⟩ rfl rfl rfl rfl rfl (by kernel_rfl) Try.func4 (by kernel_rfl)
  (of_decide_eq_true (by kernel_rfl)) (by unfold Func.isWrapper; first | (rw [if_pos (by decide +kernel)]; kernel_rfl) | (rw [if_neg (by decide +kernel)]; exact ⟨rfl, rfl⟩))
  (fun os started H enc _ => rowOne_lifted os started H enc)
#print axioms rowOne
end Go.Proofs.Ytljejbplojnnpaa
