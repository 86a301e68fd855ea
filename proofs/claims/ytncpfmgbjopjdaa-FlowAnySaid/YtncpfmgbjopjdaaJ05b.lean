/- What is proved: the statement, joined. No conditions. -/
import Derived.Test.YtncpfmgbjopjdaaRows
import Derived.Test.YtncpfmgbjopjdaaQ6
import Derived.Test.YtncpfmgbjopjdaaQ8
import Derived.WalkKit
import Derived.ProofKit
import Derived.OpenShut

/- What is proved: statements of this seat. No conditions. -/
set_option linter.unusedVariables false
set_option maxRecDepth 100000
namespace Go.Proofs.Ytncpfmgbjopjdaa
open Go.Ab Go.Ab.S05
open Go.ChangeShapes Go.WideShapes Go.ChangeAt Go.RowKit

theorem own : ownKnob Try.prog.godebug = none := by kernel_rfl
theorem laid : laidOutB Try.prog = true := by kernel_rfl

theorem p_code_Right_spec : code_Right.Spec (AC P) N := code_Right.spec code_Right.imp
theorem p_window_Right_spec : window_Right.Spec (AC P) N := window_Right.spec window_Right.imp
theorem p_lot_Right_spec : lot_Right.Spec (AC P) N := lot_Right.spec lot_Right.imp p_code_Right_spec p_window_Right_spec
theorem p_slices_IndexFunc_api_Want_api_Want_spec : slices_IndexFunc_api_Want_api_Want.Spec (AC P) N := slices_IndexFunc_api_Want_api_Want.spec slices_IndexFunc_api_Want_api_Want.imp
theorem p_slices_ContainsFunc_api_Want_api_Want_spec : slices_ContainsFunc_api_Want_api_Want.Spec (AC P) N := slices_ContainsFunc_api_Want_api_Want.spec slices_ContainsFunc_api_Want_api_Want.imp p_slices_IndexFunc_api_Want_api_Want_spec
theorem p_amount_Right_spec : amount_Right.Spec (AC P) N := amount_Right.spec amount_Right.imp
theorem p_flow_together_1_spec : flow_together_1.Spec (AC P) N := flow_together_1.spec flow_together_1.imp p_code_Right_spec p_amount_Right_spec
theorem p_flow_together_spec : flow_together.Spec (AC P) N := flow_together.spec flow_together.imp p_lot_Right_spec p_slices_ContainsFunc_api_Want_api_Want_spec p_flow_together_1_spec
theorem p_slices_Clone_api_Lot_api_Lot_spec : slices_Clone_api_Lot_api_Lot.Spec (AC P) N := slices_Clone_api_Lot_api_Lot.spec slices_Clone_api_Lot_api_Lot.imp
theorem p_slices_SortStableFunc_api_Lot_api_Lot_spec : slices_SortStableFunc_api_Lot_api_Lot.Spec (AC P) N := slices_SortStableFunc_api_Lot_api_Lot.spec slices_SortStableFunc_api_Lot_api_Lot.imp slices_symMergeCmpFunc_api_Lot.imp slices_rotateCmpFunc_api_Lot.imp slices_swapRangeCmpFunc_api_Lot.imp slices_insertionSortCmpFunc_api_Lot.imp slices_stableCmpFunc_api_Lot.imp
theorem p_cmp_isNaN_int_spec : cmp_isNaN_int.Spec (AC P) N := cmp_isNaN_int.spec cmp_isNaN_int.imp
theorem p_cmp_Compare_int_spec : cmp_Compare_int.Spec (AC P) N := cmp_Compare_int.spec cmp_Compare_int.imp p_cmp_isNaN_int_spec
theorem p_cmp_Or_int_spec : cmp_Or_int.Spec (AC P) N := cmp_Or_int.spec cmp_Or_int.imp
theorem p_lot_Compare_spec : lot_Compare.Spec (AC P) N := lot_Compare.spec lot_Compare.imp p_cmp_Compare_int_spec p_cmp_Or_int_spec
theorem p_lot_Sort_spec : lot_Sort.Spec (AC P) N := lot_Sort.spec lot_Sort.imp p_slices_Clone_api_Lot_api_Lot_spec p_slices_SortStableFunc_api_Lot_api_Lot_spec p_lot_Compare_spec
theorem p_slices_SortStableFunc_int_int_spec : slices_SortStableFunc_int_int.Spec (AC P) N := slices_SortStableFunc_int_int.spec slices_SortStableFunc_int_int.imp slices_symMergeCmpFunc_int.imp slices_rotateCmpFunc_int.imp slices_swapRangeCmpFunc_int.imp slices_insertionSortCmpFunc_int.imp slices_stableCmpFunc_int.imp
theorem p_flow_days_1_spec : flow_days_1.Spec (AC P) N := flow_days_1.spec flow_days_1.imp
theorem p_flow_days_spec : flow_days.Spec (AC P) N := flow_days.spec flow_days.imp p_slices_SortStableFunc_int_int_spec p_flow_days_1_spec
theorem p_window_Has_spec : window_Has.Spec (AC P) N := window_Has.spec window_Has.imp p_window_Right_spec
theorem p_flow_fill_spec : flow_fill.Spec (AC P) N := flow_fill.spec flow_fill.imp p_flow_together_spec p_lot_Sort_spec p_flow_days_spec p_window_Has_spec
theorem p_flow_Fill_spec : flow_Fill.Spec (AC P) N := flow_Fill.spec flow_Fill.imp p_flow_fill_spec
theorem p_flow_Fits_spec : flow_Fits.Spec (AC P) N := flow_Fits.spec flow_Fits.imp p_flow_fill_spec
theorem p_law05_awake_spec : law05_awake.Spec (AC P) N := law05_awake.spec law05_awake.imp p_flow_Fill_spec p_flow_Fits_spec
theorem p_law05_small_spec : law05_small.Spec (AC P) N := law05_small.spec law05_small.imp
theorem p_kit_mark_spec : kit_mark.Spec (AC P) N := kit_mark.spec kit_mark.imp
theorem p_kit_markLot_spec : kit_markLot.Spec (AC P) N := kit_markLot.spec kit_markLot.imp p_kit_mark_spec
theorem p_kit_LentLots_spec : kit_LentLots.Spec (AC P) N := kit_LentLots.spec kit_LentLots.imp p_kit_markLot_spec
theorem p_kit_markWant_spec : kit_markWant.Spec (AC P) N := kit_markWant.spec kit_markWant.imp p_kit_mark_spec
theorem p_kit_LentWants_spec : kit_LentWants.Spec (AC P) N := kit_LentWants.spec kit_LentWants.imp p_kit_markWant_spec
theorem p_ref03_Right_spec : ref03_Right.Spec (AC P) N := ref03_Right.spec ref03_Right.imp
theorem p_ref04_Right_spec : ref04_Right.Spec (AC P) N := ref04_Right.spec ref04_Right.imp p_ref03_Right_spec
theorem p_ref05_Right_spec : ref05_Right.Spec (AC P) N := ref05_Right.spec ref05_Right.imp p_ref03_Right_spec
theorem p_ref05_May_spec : ref05_May.Spec (AC P) N := ref05_May.spec ref05_May.imp p_ref04_Right_spec p_ref05_Right_spec
theorem p_ref01_Right_spec : ref01_Right.Spec (AC P) N := ref01_Right.spec ref01_Right.imp
theorem p_ref01_Has_spec : ref01_Has.Spec (AC P) N := ref01_Has.spec ref01_Has.imp p_ref01_Right_spec
theorem p_ref05_Serves_spec : ref05_Serves.Spec (AC P) N := ref05_Serves.spec ref05_Serves.imp p_ref01_Has_spec
theorem p_ref04_Compare_spec : ref04_Compare.Spec (AC P) N := ref04_Compare.spec ref04_Compare.imp
theorem p_ref05_Fill_spec : ref05_Fill.Spec (AC P) N := ref05_Fill.spec ref05_Fill.imp p_ref05_May_spec p_ref05_Serves_spec p_ref04_Compare_spec
theorem p_flow_Left_spec : flow_Left.Spec (AC P) N := flow_Left.spec flow_Left.imp p_flow_fill_spec
theorem p_ref05_Left_spec : ref05_Left.Spec (AC P) N := ref05_Left.spec ref05_Left.imp p_ref05_Fill_spec
theorem p_kit_SameUses_spec : kit_SameUses.Spec (AC P) N := kit_SameUses.spec kit_SameUses.imp
theorem p_kit_SameLots_spec : kit_SameLots.Spec (AC P) N := kit_SameLots.spec kit_SameLots.imp
theorem p_kit_KeptLots_spec : kit_KeptLots.Spec (AC P) N := kit_KeptLots.spec kit_KeptLots.imp p_kit_markLot_spec
theorem p_kit_KeptWants_spec : kit_KeptWants.Spec (AC P) N := kit_KeptWants.spec kit_KeptWants.imp p_kit_markWant_spec
theorem p_law05_FlowFills_spec : law05_FlowFills.Spec (AC P) N := law05_FlowFills.spec law05_FlowFills.imp p_law05_awake_spec p_law05_small_spec p_kit_LentLots_spec p_kit_LentWants_spec p_flow_Fill_spec p_ref05_Fill_spec p_flow_Left_spec p_ref05_Left_spec p_kit_SameUses_spec p_flow_Fits_spec p_kit_SameLots_spec p_kit_KeptLots_spec p_kit_KeptWants_spec
theorem p_ref05_along_spec : ref05_along.Spec (AC P) N := ref05_along.spec ref05_along.imp
theorem p_ref05_way_spec : ref05_way.Spec (AC P) N := ref05_way.spec ref05_way.imp p_ref05_Serves_spec p_ref05_along_spec
theorem p_ref05_Any_spec : ref05_Any.Spec (AC P) N := ref05_Any.spec ref05_Any.imp p_ref05_May_spec p_ref05_way_spec
theorem p_law05_FlowAny_spec : law05_FlowAny.Spec (AC P) N := law05_FlowAny.spec law05_FlowAny.imp p_law05_awake_spec p_law05_small_spec p_flow_Fits_spec p_ref05_Any_spec

theorem flowFills_AC (H : AHeap) (vs : List AVal) (h : AbsArgs H [.sl 56 6 tyLot, .sl 32 3 tyWant] vs) : AC P 4 vs H fun v _ => v = .bool true := by
  obtain ⟨x, r, rfl, hx, y, r1, rfl, hy, rfl⟩ := h
  obtain ⟨L, h1, h2, h3⟩ := dLots hx
  obtain ⟨W, g1, g2⟩ := dWants hy
  exact p_law05_FlowFills_spec x y L W [] [] H _ h1 g1 h2 g2 rfl
theorem flowFills_lifted (os : Os) (started : os.Started) (H : Type) (enc : TypeId × Value → H) :
    ReturnsInHanded {} Try.checked os 4 .any (Rows.flowFillsSpec.pre6 enc Try.prog Try.f4 Rows.flowFillsRow.domain false) (Rows.flowFillsSpec.post enc Try.prog Try.f4 false true false false) := by
  refine returnsInHanded_of_change_sized (C := Try.checked) own started (by kernel_rfl) Try.func4
    (ChangeSpec.witness6 (enc := enc) (C := Try.checked) false ⟨#[], #[.slice none 0 0, .slice none 0 0], []⟩ 8 (by kernel_rfl) (by kernel_rfl) (by kernel_rfl) (by kernel_rfl)) ?_
  intro W base args ds gs before hval hW _ hwt _
  exact law_contract (n := 6) (tb := 4) laid (by kernel_rfl) rfl (fun H ds h => by
    have h : ds.length = 2 := h
    match ds, h with
    | [a, b], _ => rfl) (by kernel_rfl) (by kernel_rfl) flowFills_AC hval hW hwt
theorem flowFills : Rows.FlowFillsSaid :=
  OpenClaim.holds_of_wide 4 Try.f4 rfl rfl rfl rfl rfl rfl rfl ⟨rfl, rfl, rfl, rfl, rfl⟩ rfl rfl rfl rfl rfl (by kernel_rfl) Try.func4 (by kernel_rfl)
    (of_decide_eq_true (by kernel_rfl)) (by unfold Func.isWrapper; first | (rw [if_pos (by decide +kernel)]; kernel_rfl) | (rw [if_neg (by decide +kernel)]; exact ⟨rfl, rfl⟩))
    (fun os started H enc _ => flowFills_lifted os started H enc)
#print axioms flowFills

theorem flowAny_AC (H : AHeap) (vs : List AVal) (h : AbsArgs H [.sl 56 6 tyLot, .sl 32 3 tyWant] vs) : AC P 3 vs H fun v _ => v = .bool true := by
  obtain ⟨x, r, rfl, hx, y, r1, rfl, hy, rfl⟩ := h
  obtain ⟨L, h1, h2, h3⟩ := dLots hx
  obtain ⟨W, g1, g2⟩ := dWants hy
  exact p_law05_FlowAny_spec x y L W [] [] H _ h1 g1 h2 g2 rfl
theorem flowAny_lifted (os : Os) (started : os.Started) (H : Type) (enc : TypeId × Value → H) :
    ReturnsInHanded {} Try.checked os 3 .any (Rows.flowAnySpec.pre6 enc Try.prog Try.f3 Rows.flowAnyRow.domain false) (Rows.flowAnySpec.post enc Try.prog Try.f3 false true false false) := by
  refine returnsInHanded_of_change_sized (C := Try.checked) own started (by kernel_rfl) Try.func3
    (ChangeSpec.witness6 (enc := enc) (C := Try.checked) false ⟨#[], #[.slice none 0 0, .slice none 0 0], []⟩ 8 (by kernel_rfl) (by kernel_rfl) (by kernel_rfl) (by kernel_rfl)) ?_
  intro W base args ds gs before hval hW _ hwt _
  exact law_contract (n := 6) (tb := 4) laid (by kernel_rfl) rfl (fun H ds h => by
    have h : ds.length = 2 := h
    match ds, h with
    | [a, b], _ => rfl) (by kernel_rfl) (by kernel_rfl) flowAny_AC hval hW hwt
theorem flowAny : Rows.FlowAnySaid :=
  OpenClaim.holds_of_wide 3 Try.f3 rfl rfl rfl rfl rfl rfl rfl ⟨rfl, rfl, rfl, rfl, rfl⟩ rfl rfl rfl rfl rfl (by kernel_rfl) Try.func3 (by kernel_rfl)
    (of_decide_eq_true (by kernel_rfl)) (by unfold Func.isWrapper; first | (rw [if_pos (by decide +kernel)]; kernel_rfl) | (rw [if_neg (by decide +kernel)]; exact ⟨rfl, rfl⟩))
    (fun os started H enc _ => flowAny_lifted os started H enc)
#print axioms flowAny
end Go.Proofs.Ytncpfmgbjopjdaa
