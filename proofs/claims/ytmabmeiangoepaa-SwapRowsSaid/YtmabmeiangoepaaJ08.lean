/- What is proved: the statement, joined. No conditions. -/
import Derived.Test.YtmabmeiangoepaaRows
import Derived.Test.YtmabmeiangoepaaQ6
import Derived.Test.YtmabmeiangoepaaQ8
import Derived.WalkKit
import Derived.ProofKit
import Derived.OpenShut
set_option linter.unusedVariables false
set_option linter.unusedSimpArgs false
set_option maxRecDepth 100000
namespace Go.Proofs.Ytmabmeiangoepaa
open Go.Ab Go.Ab.S08
open Go.ChangeShapes Go.WideShapes Go.ChangeAt Go.RowKit
theorem own : ownKnob Try.prog.godebug = none := by kernel_rfl
theorem laid : laidOutB Try.prog = true := by kernel_rfl
theorem p_law08_three_spec : law08_three.Spec (AC P) N := law08_three.spec law08_three.imp
theorem p_swap_Row_1_spec : swap_Row_1.Spec (AC P) N := swap_Row_1.spec swap_Row_1.imp
theorem p_slices_IndexFunc_api_Item_api_Item_spec : slices_IndexFunc_api_Item_api_Item.Spec (AC P) N := slices_IndexFunc_api_Item_api_Item.spec slices_IndexFunc_api_Item_api_Item.imp p_swap_Row_1_spec
theorem p_slices_Grow_string_string_spec : slices_Grow_string_string.Spec (AC P) N := slices_Grow_string_string.spec slices_Grow_string_string.imp
theorem p_slices_Concat_string_string_spec : slices_Concat_string_string.Spec (AC P) N := slices_Concat_string_string.spec slices_Concat_string_string.imp p_slices_Grow_string_string_spec
theorem p_swap_row_spec : swap_row.Spec (AC P) N := swap_row.spec swap_row.imp p_slices_Concat_string_string_spec
theorem p_swap_Row_spec : swap_Row.Spec (AC P) N := swap_Row.spec swap_Row.imp p_slices_IndexFunc_api_Item_api_Item_spec p_swap_row_spec
theorem p_kit_SameTexts_spec : kit_SameTexts.Spec (AC P) N := kit_SameTexts.spec kit_SameTexts.imp
theorem p_code_Right_spec : code_Right.Spec (AC P) N := code_Right.spec code_Right.imp
theorem p_kit_right_spec : kit_right.Spec (AC P) N := kit_right.spec kit_right.imp
theorem p_kit_book_spec : kit_book.Spec (AC P) N := kit_book.spec kit_book.imp
theorem p_kit_depths_spec : kit_depths.Spec (AC P) N := kit_depths.spec kit_depths.imp kit_depths_1.imp
theorem p_kit_check_spec : kit_check.Spec (AC P) N := kit_check.spec kit_check.imp p_code_Right_spec p_kit_right_spec p_kit_book_spec p_kit_depths_spec
theorem p_kit_Check_spec : kit_Check.Spec (AC P) N := kit_Check.spec kit_Check.imp p_kit_check_spec
theorem p_slices_xorshift_Next_spec : NextI (AC P) (N 298) := slices_xorshift_Next.spec slices_xorshift_Next.imp
theorem p_math_bits_Len_spec : LenI (AC P) (N 287) := math_bits_Len.spec math_bits_Len.imp math_bits_Len64.imp
theorem p_slices_nextPowerOfTwo_spec : PowI (AC P) (N 299) := slices_nextPowerOfTwo.spec slices_nextPowerOfTwo.imp p_math_bits_Len_spec
theorem p_cmp_isNaN_string_spec : cmp_isNaN_string.Spec (AC P) N := cmp_isNaN_string.spec cmp_isNaN_string.imp
theorem p_cmp_Less_string_spec : cmp_Less_string.Spec (AC P) N := cmp_Less_string.spec cmp_Less_string.imp p_cmp_isNaN_string_spec
theorem p_slices_Sort_string_string_spec : slices_Sort_string_string.Spec (AC P) N := slices_Sort_string_string.spec slices_Sort_string_string.imp slices_partitionEqualOrdered_string.imp slices_partitionOrdered_string.imp slices_pdqsortOrdered_string.imp slices_partialInsertionSortOrdered_string.imp slices_reverseRangeOrdered_string.imp slices_choosePivotOrdered_string.imp slices_breakPatternsOrdered_string.imp slices_heapSortOrdered_string.imp slices_insertionSortOrdered_string.imp slices_medianAdjacentOrdered_string.imp slices_medianOrdered_string.imp slices_order2Ordered_string.imp slices_siftDownOrdered_string.imp p_slices_xorshift_Next_spec p_slices_nextPowerOfTwo_spec p_math_bits_Len_spec p_cmp_Less_string_spec
theorem p_slices_Compact_string_string_spec : slices_Compact_string_string.Spec (AC P) N := slices_Compact_string_string.spec slices_Compact_string_string.imp
theorem p_swap_Check_spec : swap_Check.Spec (AC P) N := swap_Check.spec swap_Check.imp p_kit_Check_spec p_swap_row_spec p_slices_Sort_string_string_spec p_slices_Compact_string_string_spec
theorem p_law08_awake_spec : law08_awake.Spec (AC P) N := law08_awake.spec law08_awake.imp p_law08_three_spec p_swap_Row_spec p_kit_SameTexts_spec p_swap_Check_spec
theorem p_law08_great_spec : law08_great.Spec (AC P) N := law08_great.spec law08_great.imp
theorem p_kit_CopyParts_spec : kit_CopyParts.Spec (AC P) N := kit_CopyParts.spec kit_CopyParts.imp
theorem p_kit_CopyTexts_spec : kit_CopyTexts.Spec (AC P) N := kit_CopyTexts.spec kit_CopyTexts.imp
theorem p_kit_CopyItem_spec : kit_CopyItem.Spec (AC P) N := kit_CopyItem.spec kit_CopyItem.imp p_kit_CopyParts_spec p_kit_CopyTexts_spec
theorem p_kit_CopyItems_spec : kit_CopyItems.Spec (AC P) N := kit_CopyItems.spec kit_CopyItems.imp p_kit_CopyItem_spec
theorem p_kit_Pick_spec : kit_Pick.Spec (AC P) N := kit_Pick.spec kit_Pick.imp
theorem p_law08_SwapRows_spec : law08_SwapRows.Spec (AC P) N := law08_SwapRows.spec law08_SwapRows.imp p_law08_awake_spec p_law08_great_spec p_kit_CopyItems_spec p_kit_Check_spec p_swap_Check_spec p_swap_Row_spec p_kit_Pick_spec
theorem swapRows_AC (H : AHeap) (vs : List AVal) (h : AbsArgs H [.sl 72 4 tyItem, .i .i64] vs) : AC P 3 vs H fun v _ => v = .bool true := by
 obtain ⟨x, r, rfl, hx, a, r1, rfl, ⟨n1, e1, _⟩, rfl⟩ := h
 cases e1
 obtain ⟨L, h1, h2, h3⟩ := dItems hx
 exact p_law08_SwapRows_spec x L n1 H _ h1 h2 h3 rfl
theorem swapRows_lifted (os : Os) (started : os.Started) (H : Type) (enc : TypeId × Value → H) :
  ReturnsInHanded {} Try.checked os 3 .any (Rows.swapRowsSpec.pre6 enc Try.prog Try.f3 Rows.swapRowsRow.domain false) (Rows.swapRowsSpec.post enc Try.prog Try.f3 false true false false) := by
 refine returnsInHanded_of_change_sized (C := Try.checked) own started (by kernel_rfl) Try.func3
  (ChangeSpec.witness6 (enc := enc) (C := Try.checked) false ⟨#[], #[.slice none 0 0, .int .i64 0], []⟩ 8 (by kernel_rfl) (by kernel_rfl) (by kernel_rfl) (by kernel_rfl)) ?_
 intro W base args ds gs before hval hW _ hwt _
 exact law_contract (n := 6) (tb := 4) laid (by kernel_rfl) rfl (fun H ds h => by
  have h : ds.length = 2 := h
  match ds, h with
  | [a, b], _ => rfl) (by kernel_rfl) (by kernel_rfl) (callFunc_enter Try.func3 (by kernel_rfl) (by kernel_rfl)) swapRows_AC hval hW hwt
theorem swapRows : Rows.SwapRowsSaid :=
 OpenClaim.holds_of_wide 3 Try.f3 rfl rfl rfl rfl rfl rfl rfl ⟨rfl, rfl, rfl, rfl, rfl⟩ rfl rfl rfl rfl rfl (by kernel_rfl) Try.func3 (by kernel_rfl)
  (of_decide_eq_true (by kernel_rfl)) (by unfold Func.isWrapper; first | (rw [if_pos (by decide +kernel)]; kernel_rfl) | (rw [if_neg (by decide +kernel)]; exact ⟨rfl, rfl⟩))
  (fun os started H enc _ => swapRows_lifted os started H enc)
#print axioms swapRows
end Go.Proofs.Ytmabmeiangoepaa
