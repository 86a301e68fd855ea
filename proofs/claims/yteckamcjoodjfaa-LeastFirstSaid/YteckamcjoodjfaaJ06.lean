/- What is proved: the statement, joined. No conditions. -/
import Derived.Test.YteckamcjoodjfaaRows
import Derived.Test.YteckamcjoodjfaaQ6
import Derived.Test.YteckamcjoodjfaaQ7
import Derived.Test.YteckamcjoodjfaaQ9
import Derived.WalkKit
import Derived.ProofKit
import Derived.OpenShut
set_option linter.unusedVariables false
set_option linter.unusedSimpArgs false
set_option maxRecDepth 100000
namespace Go.Proofs.Yteckamcjoodjfaa
open Go.Ab Go.Ab.S06
open Go.ChangeShapes Go.WideShapes Go.ChangeAt Go.RowKit
theorem own : ownKnob Try.prog.godebug = none := by kernel_rfl
theorem laid : laidOutB Try.prog = true := by kernel_rfl
theorem p_law06_lots_spec : law06_lots.Spec (AC P) N := law06_lots.spec law06_lots.imp
theorem p_least_spans_spec : least_spans.Spec (AC P) N := least_spans.spec least_spans.imp
theorem p_window_Right_spec : window_Right.Spec (AC P) N := window_Right.spec window_Right.imp
theorem p_window_within_spec : window_within.Spec (AC P) N := window_within.spec window_within.imp
theorem p_window_Meet_spec : window_Meet.Spec (AC P) N := window_Meet.spec window_Meet.imp p_window_Right_spec p_window_within_spec
theorem p_slices_xorshift_Next_spec : NextI (AC P) (N 298) := slices_xorshift_Next.spec slices_xorshift_Next.imp
theorem p_math_bits_Len_spec : LenI (AC P) (N 287) := math_bits_Len.spec math_bits_Len.imp math_bits_Len64.imp
theorem p_slices_nextPowerOfTwo_spec : PowI (AC P) (N 299) := slices_nextPowerOfTwo.spec slices_nextPowerOfTwo.imp p_math_bits_Len_spec
theorem p_cmp_isNaN_int_spec : cmp_isNaN_int.Spec (AC P) N := cmp_isNaN_int.spec cmp_isNaN_int.imp
theorem p_cmp_Less_int_spec : cmp_Less_int.Spec (AC P) N := cmp_Less_int.spec cmp_Less_int.imp p_cmp_isNaN_int_spec
theorem p_slices_Sort_int_int_spec : slices_Sort_int_int.Spec (AC P) N := slices_Sort_int_int.spec slices_Sort_int_int.imp slices_partitionEqualOrdered_int.imp slices_partitionOrdered_int.imp slices_pdqsortOrdered_int.imp slices_partialInsertionSortOrdered_int.imp slices_reverseRangeOrdered_int.imp slices_choosePivotOrdered_int.imp slices_breakPatternsOrdered_int.imp slices_heapSortOrdered_int.imp slices_insertionSortOrdered_int.imp slices_medianAdjacentOrdered_int.imp slices_medianOrdered_int.imp slices_order2Ordered_int.imp slices_siftDownOrdered_int.imp p_slices_xorshift_Next_spec p_slices_nextPowerOfTwo_spec p_math_bits_Len_spec p_cmp_Less_int_spec
theorem p_slices_Compact_int_int_spec : slices_Compact_int_int.Spec (AC P) N := slices_Compact_int_int.spec slices_Compact_int_int.imp
theorem p_least_ends_spec : least_ends.Spec (AC P) N := least_ends.spec least_ends.imp p_window_Meet_spec p_slices_Sort_int_int_spec p_slices_Compact_int_int_spec
theorem p_slices_Clip_api_Want_api_Want_spec : slices_Clip_api_Want_api_Want.Spec (AC P) N := slices_Clip_api_Want_api_Want.spec slices_Clip_api_Want_api_Want.imp
theorem p_code_Right_spec : code_Right.Spec (AC P) N := code_Right.spec code_Right.imp
theorem p_lot_Right_spec : lot_Right.Spec (AC P) N := lot_Right.spec lot_Right.imp p_code_Right_spec p_window_Right_spec
theorem p_slices_IndexFunc_api_Want_api_Want_spec : slices_IndexFunc_api_Want_api_Want.Spec (AC P) N := slices_IndexFunc_api_Want_api_Want.spec slices_IndexFunc_api_Want_api_Want.imp
theorem p_slices_ContainsFunc_api_Want_api_Want_spec : slices_ContainsFunc_api_Want_api_Want.Spec (AC P) N := slices_ContainsFunc_api_Want_api_Want.spec slices_ContainsFunc_api_Want_api_Want.imp p_slices_IndexFunc_api_Want_api_Want_spec
theorem p_amount_Right_spec : amount_Right.Spec (AC P) N := amount_Right.spec amount_Right.imp
theorem p_flow_together_1_spec : flow_together_1.Spec (AC P) N := flow_together_1.spec flow_together_1.imp p_code_Right_spec p_amount_Right_spec
theorem p_flow_together_spec : flow_together.Spec (AC P) N := flow_together.spec flow_together.imp p_lot_Right_spec p_slices_ContainsFunc_api_Want_api_Want_spec p_flow_together_1_spec
theorem p_slices_Clone_api_Lot_api_Lot_spec : slices_Clone_api_Lot_api_Lot.Spec (AC P) N := slices_Clone_api_Lot_api_Lot.spec slices_Clone_api_Lot_api_Lot.imp
theorem p_slices_SortStableFunc_api_Lot_api_Lot_spec : slices_SortStableFunc_api_Lot_api_Lot.Spec (AC P) N := slices_SortStableFunc_api_Lot_api_Lot.spec slices_SortStableFunc_api_Lot_api_Lot.imp slices_symMergeCmpFunc_api_Lot.imp slices_rotateCmpFunc_api_Lot.imp slices_swapRangeCmpFunc_api_Lot.imp slices_insertionSortCmpFunc_api_Lot.imp slices_stableCmpFunc_api_Lot.imp
theorem p_cmp_Compare_int_spec : cmp_Compare_int.Spec (AC P) N := cmp_Compare_int.spec cmp_Compare_int.imp p_cmp_isNaN_int_spec
theorem p_cmp_Or_int_spec : cmp_Or_int.Spec (AC P) N := cmp_Or_int.spec cmp_Or_int.imp
theorem p_lot_Compare_spec : lot_Compare.Spec (AC P) N := lot_Compare.spec lot_Compare.imp p_cmp_Compare_int_spec p_cmp_Or_int_spec
theorem p_lot_Sort_spec : lot_Sort.Spec (AC P) N := lot_Sort.spec lot_Sort.imp p_slices_Clone_api_Lot_api_Lot_spec p_slices_SortStableFunc_api_Lot_api_Lot_spec p_lot_Compare_spec
theorem p_slices_SortStableFunc_int_int_spec : slices_SortStableFunc_int_int.Spec (AC P) N := slices_SortStableFunc_int_int.spec slices_SortStableFunc_int_int.imp slices_symMergeCmpFunc_int.imp slices_rotateCmpFunc_int.imp slices_swapRangeCmpFunc_int.imp slices_insertionSortCmpFunc_int.imp slices_stableCmpFunc_int.imp
theorem p_flow_days_1_spec : flow_days_1.Spec (AC P) N := flow_days_1.spec flow_days_1.imp
theorem p_flow_days_spec : flow_days.Spec (AC P) N := flow_days.spec flow_days.imp p_slices_SortStableFunc_int_int_spec p_flow_days_1_spec
theorem p_window_Has_spec : window_Has.Spec (AC P) N := window_Has.spec window_Has.imp p_window_Right_spec
theorem p_flow_fill_spec : flow_fill.Spec (AC P) N := flow_fill.spec flow_fill.imp p_flow_together_spec p_lot_Sort_spec p_flow_days_spec p_window_Has_spec
theorem p_flow_Fits_spec : flow_Fits.Spec (AC P) N := flow_Fits.spec flow_Fits.imp p_flow_fill_spec
theorem p_least_had_spec : least_had.Spec (AC P) N := least_had.spec least_had.imp p_slices_Clip_api_Want_api_Want_spec p_flow_Fits_spec
theorem p_least_Day_spec : least_Day.Spec (AC P) N := least_Day.spec least_Day.imp (AC_good P) p_least_spans_spec least_spans_1.imp p_least_ends_spec least_ends_1.imp p_least_had_spec
theorem p_window_Rows_spec : window_Rows.Spec (AC P) N := window_Rows.spec window_Rows.imp p_window_Right_spec
theorem p_least_Days_spec : least_Days.Spec (AC P) N := least_Days.spec least_Days.imp (AC_good P) p_least_spans_spec least_spans_1.imp p_least_ends_spec least_ends_1.imp p_least_had_spec p_window_Rows_spec
theorem p_law06_awake_spec : law06_awake.Spec (AC P) N := law06_awake.spec law06_awake.imp (AC_dis P) p_law06_lots_spec p_least_Day_spec p_least_Days_spec
theorem p_law06_small_spec : law06_small.Spec (AC P) N := law06_small.spec law06_small.imp
theorem p_law06_with_spec : law06_with.Spec (AC P) N := law06_with.spec law06_with.imp
theorem p_law06_LeastFirst_spec : law06_LeastFirst.Spec (AC P) N := law06_LeastFirst.spec law06_LeastFirst.imp p_law06_awake_spec p_law06_small_spec p_least_Day_spec p_law06_with_spec p_flow_Fits_spec
theorem leastFirst_AC (H : AHeap) (vs : List AVal) (h : AbsArgs H [.sl 56 6 tyLot, .sl 32 3 tyWant, .sl 24 2 tyPart, .i .i64, .i .i64] vs) : AC P 4 vs H fun v _ => v = .bool true := by
 obtain ⟨x, r, rfl, hx, y, r1, rfl, hy, z, r2, rfl, hz, a, r3, rfl, ⟨n1, e1, _⟩, b, r4, rfl, ⟨n2, e2, l1, l2⟩, rfl⟩ := h
 cases e1; cases e2
 obtain ⟨L, h1, h2, h3⟩ := dLots hx
 obtain ⟨W, g1, g2⟩ := dWants hy
 obtain ⟨M, k1, k2⟩ := dParts hz
 exact CDis.call (AC_dis P) y g1 (p_law06_LeastFirst_spec x y z L W M [] [] [] n1 n2 _ _ (h1.disown _) (g1.disown _) (k1.disown _) (noOwn_disown _ _) (i64_of l1 l2).1 rfl)
theorem leastFirst_lifted (os : Os) (started : os.Started) (H : Type) (enc : TypeId × Value → H) :
  ReturnsInHanded {} Try.checked os 4 .any (Rows.leastFirstSpec.pre6 enc Try.prog Try.f4 Rows.leastFirstRow.domain false) (Rows.leastFirstSpec.post enc Try.prog Try.f4 false true false false) := by
 refine returnsInHanded_of_change_sized (C := Try.checked) own started (by kernel_rfl) Try.func4
  (ChangeSpec.witness6 (enc := enc) (C := Try.checked) false ⟨#[], #[.slice none 0 0, .slice none 0 0, .slice none 0 0, .int .i64 0, .int .i64 0], []⟩ 8 (by kernel_rfl) (by kernel_rfl) (by kernel_rfl) (by kernel_rfl)) ?_
 intro W base args ds gs before hval hW _ hwt _
 exact law_contract (n := 6) (tb := 4) laid (by kernel_rfl) rfl (fun H ds h => by
  have h : ds.length = 5 := h
  match ds, h with
  | [a, b, c, d, e], _ => rfl) (by kernel_rfl) (by kernel_rfl) (callFunc_enter Try.func4 (by kernel_rfl) (by kernel_rfl)) leastFirst_AC hval hW hwt
theorem leastFirst : Rows.LeastFirstSaid :=
 OpenClaim.holds_of_wide 4 Try.f4 rfl rfl rfl rfl rfl rfl rfl ⟨rfl, rfl, rfl, rfl, rfl⟩ rfl rfl rfl rfl rfl (by kernel_rfl) Try.func4 (by kernel_rfl)
  (of_decide_eq_true (by kernel_rfl)) (by unfold Func.isWrapper; first | (rw [if_pos (by decide +kernel)]; kernel_rfl) | (rw [if_neg (by decide +kernel)]; exact ⟨rfl, rfl⟩))
  (fun os started H enc _ => leastFirst_lifted os started H enc)
#print axioms leastFirst
end Go.Proofs.Yteckamcjoodjfaa
