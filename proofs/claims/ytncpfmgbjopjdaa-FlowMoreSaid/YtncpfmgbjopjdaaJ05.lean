/- What is proved: the statement, joined. No conditions. -/
import Derived.Test.YtncpfmgbjopjdaaRows
import Derived.Test.YtncpfmgbjopjdaaQ6
import Derived.Test.YtncpfmgbjopjdaaQ7
import Derived.Test.YtncpfmgbjopjdaaQ8
import Derived.WalkKit
import Derived.ProofKit
import Derived.OpenShut

/- What is proved: statements of this seat. No conditions. -/
set_option linter.unusedVariables false
set_option maxRecDepth 100000
namespace Go.Proofs.Ytncpfmgbjopjdaa
open Go.Ab Go.Ab.S05
open Go.ChangeShapes Go.WideShapes Go.ChangeAt Go.RowKit

theorem own : ownKnob Try.prog.godebug = none := by kernel_rfl
theorem laid : laidOutB Try.prog = true := by kernel_rfl

theorem p_code_Right_spec : code_Right.Spec (AC P) N := code_Right.spec code_Right.imp
theorem p_window_Right_spec : window_Right.Spec (AC P) N := window_Right.spec window_Right.imp
theorem p_lot_Right_spec : lot_Right.Spec (AC P) N := lot_Right.spec lot_Right.imp p_code_Right_spec p_window_Right_spec
theorem p_slices_IndexFunc_api_Want_api_Want_spec : slices_IndexFunc_api_Want_api_Want.Spec (AC P) N := slices_IndexFunc_api_Want_api_Want.spec slices_IndexFunc_api_Want_api_Want.imp
theorem p_slices_ContainsFunc_api_Want_api_Want_spec : slices_ContainsFunc_api_Want_api_Want.Spec (AC P) N := slices_ContainsFunc_api_Want_api_Want.spec slices_ContainsFunc_api_Want_api_Want.imp p_slices_IndexFunc_api_Want_api_Want_spec
theorem p_amount_Right_spec : amount_Right.Spec (AC P) N := amount_Right.spec amount_Right.imp
theorem p_flow_together_1_spec : flow_together_1.Spec (AC P) N := flow_together_1.spec flow_together_1.imp p_code_Right_spec p_amount_Right_spec
theorem p_flow_together_spec : flow_together.Spec (AC P) N := flow_together.spec flow_together.imp p_lot_Right_spec p_slices_ContainsFunc_api_Want_api_Want_spec p_flow_together_1_spec
theorem p_slices_Clone_api_Lot_api_Lot_spec : slices_Clone_api_Lot_api_Lot.Spec (AC P) N := slices_Clone_api_Lot_api_Lot.spec slices_Clone_api_Lot_api_Lot.imp
theorem p_slices_SortStableFunc_api_Lot_api_Lot_spec : slices_SortStableFunc_api_Lot_api_Lot.Spec (AC P) N := slices_SortStableFunc_api_Lot_api_Lot.spec slices_SortStableFunc_api_Lot_api_Lot.imp slices_symMergeCmpFunc_api_Lot.imp slices_rotateCmpFunc_api_Lot.imp slices_swapRangeCmpFunc_api_Lot.imp slices_insertionSortCmpFunc_api_Lot.imp slices_stableCmpFunc_api_Lot.imp
theorem p_cmp_isNaN_int_spec : cmp_isNaN_int.Spec (AC P) N := cmp_isNaN_int.spec cmp_isNaN_int.imp
theorem p_cmp_Compare_int_spec : cmp_Compare_int.Spec (AC P) N := cmp_Compare_int.spec cmp_Compare_int.imp p_cmp_isNaN_int_spec
theorem p_cmp_Or_int_spec : cmp_Or_int.Spec (AC P) N := cmp_Or_int.spec cmp_Or_int.imp
theorem p_lot_Compare_spec : lot_Compare.Spec (AC P) N := lot_Compare.spec lot_Compare.imp p_cmp_Compare_int_spec p_cmp_Or_int_spec
theorem p_lot_Sort_spec : lot_Sort.Spec (AC P) N := lot_Sort.spec lot_Sort.imp p_slices_Clone_api_Lot_api_Lot_spec p_slices_SortStableFunc_api_Lot_api_Lot_spec p_lot_Compare_spec
theorem p_slices_SortStableFunc_int_int_spec : slices_SortStableFunc_int_int.Spec (AC P) N := slices_SortStableFunc_int_int.spec slices_SortStableFunc_int_int.imp slices_symMergeCmpFunc_int.imp slices_rotateCmpFunc_int.imp slices_swapRangeCmpFunc_int.imp slices_insertionSortCmpFunc_int.imp slices_stableCmpFunc_int.imp
theorem p_flow_days_1_spec : flow_days_1.Spec (AC P) N := flow_days_1.spec flow_days_1.imp
theorem p_flow_days_spec : flow_days.Spec (AC P) N := flow_days.spec flow_days.imp p_slices_SortStableFunc_int_int_spec p_flow_days_1_spec
theorem p_window_Has_spec : window_Has.Spec (AC P) N := window_Has.spec window_Has.imp p_window_Right_spec
theorem p_flow_fill_spec : flow_fill.Spec (AC P) N := flow_fill.spec flow_fill.imp p_flow_together_spec p_lot_Sort_spec p_flow_days_spec p_window_Has_spec
theorem p_flow_Fill_spec : flow_Fill.Spec (AC P) N := flow_Fill.spec flow_Fill.imp p_flow_fill_spec
theorem p_flow_Fits_spec : flow_Fits.Spec (AC P) N := flow_Fits.spec flow_Fits.imp p_flow_fill_spec
theorem p_law05_awake_spec : law05_awake.Spec (AC P) N := law05_awake.spec law05_awake.imp p_flow_Fill_spec p_flow_Fits_spec
theorem p_law05_small_spec : law05_small.Spec (AC P) N := law05_small.spec law05_small.imp
theorem p_kit_mark_spec : kit_mark.Spec (AC P) N := kit_mark.spec kit_mark.imp
theorem p_kit_markUse_spec : kit_markUse.Spec (AC P) N := kit_markUse.spec kit_markUse.imp p_kit_mark_spec
theorem p_kit_LentUses_spec : kit_LentUses.Spec (AC P) N := kit_LentUses.spec kit_LentUses.imp p_kit_markUse_spec
theorem p_slices_Clone_api_Want_api_Want_spec : slices_Clone_api_Want_api_Want.Spec (AC P) N := slices_Clone_api_Want_api_Want.spec slices_Clone_api_Want_api_Want.imp
theorem p_flow_Check_1_spec : flow_Check_1.Spec (AC P) N := flow_Check_1.spec flow_Check_1.imp
theorem p_flow_Check_spec : flow_Check.Spec (AC P) N := flow_Check.spec flow_Check.imp p_flow_together_spec p_slices_Clone_api_Want_api_Want_spec p_window_Has_spec p_slices_ContainsFunc_api_Want_api_Want_spec p_flow_Check_1_spec
theorem p_ref03_Right_spec : ref03_Right.Spec (AC P) N := ref03_Right.spec ref03_Right.imp
theorem p_ref04_Right_spec : ref04_Right.Spec (AC P) N := ref04_Right.spec ref04_Right.imp p_ref03_Right_spec
theorem p_ref05_Right_spec : ref05_Right.Spec (AC P) N := ref05_Right.spec ref05_Right.imp p_ref03_Right_spec
theorem p_ref05_May_spec : ref05_May.Spec (AC P) N := ref05_May.spec ref05_May.imp p_ref04_Right_spec p_ref05_Right_spec
theorem p_ref01_Right_spec : ref01_Right.Spec (AC P) N := ref01_Right.spec ref01_Right.imp
theorem p_ref01_Has_spec : ref01_Has.Spec (AC P) N := ref01_Has.spec ref01_Has.imp p_ref01_Right_spec
theorem p_ref05_Serves_spec : ref05_Serves.Spec (AC P) N := ref05_Serves.spec ref05_Serves.imp p_ref01_Has_spec
theorem p_ref05_Check_spec : ref05_Check.Spec (AC P) N := ref05_Check.spec ref05_Check.imp p_ref05_May_spec p_ref05_Serves_spec
theorem p_kit_KeptUses_spec : kit_KeptUses.Spec (AC P) N := kit_KeptUses.spec kit_KeptUses.imp p_kit_markUse_spec
theorem p_law05_FlowChecks_spec : law05_FlowChecks.Spec (AC P) N := law05_FlowChecks.spec law05_FlowChecks.imp p_law05_awake_spec p_law05_small_spec p_kit_LentUses_spec p_flow_Check_spec p_ref05_Check_spec p_kit_KeptUses_spec
theorem p_kit_Pick_spec : kit_Pick.Spec (AC P) N := kit_Pick.spec kit_Pick.imp
theorem p_flow_Left_spec : flow_Left.Spec (AC P) N := flow_Left.spec flow_Left.imp p_flow_fill_spec
theorem p_law05_FlowServes_spec : law05_FlowServes.Spec (AC P) N := law05_FlowServes.spec law05_FlowServes.imp p_law05_awake_spec p_law05_small_spec p_kit_Pick_spec p_flow_Fits_spec p_flow_Fill_spec p_flow_Check_spec p_flow_Left_spec
theorem p_law05_FlowWhy_spec : law05_FlowWhy.Spec (AC P) N := law05_FlowWhy.spec law05_FlowWhy.imp p_law05_awake_spec p_law05_small_spec p_window_Has_spec p_flow_Fits_spec p_flow_Check_spec
theorem p_kit_CopyLots_spec : kit_CopyLots.Spec (AC P) N := kit_CopyLots.spec kit_CopyLots.imp
theorem p_law05_FlowMore_spec : law05_FlowMore.Spec (AC P) N := law05_FlowMore.spec law05_FlowMore.imp p_law05_awake_spec p_law05_small_spec p_kit_Pick_spec p_flow_Fits_spec p_kit_CopyLots_spec p_flow_Check_spec

theorem flowChecks_AC (H : AHeap) (vs : List AVal) (h : AbsArgs H [.sl 56 6 tyLot, .sl 32 3 tyWant, .sl 24 3 tyUse] vs) : AC P 5 vs H fun v _ => v = .bool true := by
  obtain ⟨x, r, rfl, hx, y, r1, rfl, hy, z, r2, rfl, hz, rfl⟩ := h
  obtain ⟨L, h1, h2, h3⟩ := dLots hx
  obtain ⟨W, g1, g2⟩ := dWants hy
  obtain ⟨U, k1, k2⟩ := dUses hz
  exact p_law05_FlowChecks_spec x y z L W U [] [] [] H _ h1 g1 k1 h2 g2 k2 rfl
theorem flowChecks_lifted (os : Os) (started : os.Started) (H : Type) (enc : TypeId × Value → H) :
    ReturnsInHanded {} Try.checked os 5 .any (Rows.flowChecksSpec.pre6 enc Try.prog Try.f5 Rows.flowChecksRow.domain false) (Rows.flowChecksSpec.post enc Try.prog Try.f5 false true false false) := by
  refine returnsInHanded_of_change_sized (C := Try.checked) own started (by kernel_rfl) Try.func5
    (ChangeSpec.witness6 (enc := enc) (C := Try.checked) false ⟨#[], #[.slice none 0 0, .slice none 0 0, .slice none 0 0], []⟩ 8 (by kernel_rfl) (by kernel_rfl) (by kernel_rfl) (by kernel_rfl)) ?_
  intro W base args ds gs before hval hW _ hwt _
  exact law_contract (n := 6) (tb := 4) laid (by kernel_rfl) rfl (fun H ds h => by
    have h : ds.length = 3 := h
    match ds, h with
    | [a, b, c], _ => rfl) (by kernel_rfl) (by kernel_rfl) flowChecks_AC hval hW hwt
theorem flowChecks : Rows.FlowChecksSaid :=
  OpenClaim.holds_of_wide 5 Try.f5 rfl rfl rfl rfl rfl rfl rfl ⟨rfl, rfl, rfl, rfl, rfl⟩ rfl rfl rfl rfl rfl (by kernel_rfl) Try.func5 (by kernel_rfl)
    (of_decide_eq_true (by kernel_rfl)) (by unfold Func.isWrapper; first | (rw [if_pos (by decide +kernel)]; kernel_rfl) | (rw [if_neg (by decide +kernel)]; exact ⟨rfl, rfl⟩))
    (fun os started H enc _ => flowChecks_lifted os started H enc)
#print axioms flowChecks

theorem flowServes_AC (H : AHeap) (vs : List AVal) (h : AbsArgs H [.sl 56 6 tyLot, .sl 32 3 tyWant, .sl 24 3 tyUse, .i .i64] vs) : AC P 8 vs H fun v _ => v = .bool true := by
  obtain ⟨x, r, rfl, hx, y, r1, rfl, hy, z, r2, rfl, hz, a, r3, rfl, ⟨n1, e1, _⟩, rfl⟩ := h
  cases e1
  obtain ⟨L, h1, h2, h3⟩ := dLots hx
  obtain ⟨W, g1, g2⟩ := dWants hy
  obtain ⟨U, k1, k2⟩ := dUses hz
  exact p_law05_FlowServes_spec x y z L W U [] [] [] n1 H _ h1 g1 k1 h2 g2 k2 rfl
theorem flowServes_lifted (os : Os) (started : os.Started) (H : Type) (enc : TypeId × Value → H) :
    ReturnsInHanded {} Try.checked os 8 .any (Rows.flowServesSpec.pre6 enc Try.prog Try.f8 Rows.flowServesRow.domain false) (Rows.flowServesSpec.post enc Try.prog Try.f8 false true false false) := by
  refine returnsInHanded_of_change_sized (C := Try.checked) own started (by kernel_rfl) Try.func8
    (ChangeSpec.witness6 (enc := enc) (C := Try.checked) false ⟨#[], #[.slice none 0 0, .slice none 0 0, .slice none 0 0, .int .i64 0], []⟩ 8 (by kernel_rfl) (by kernel_rfl) (by kernel_rfl) (by kernel_rfl)) ?_
  intro W base args ds gs before hval hW _ hwt _
  exact law_contract (n := 6) (tb := 4) laid (by kernel_rfl) rfl (fun H ds h => by
    have h : ds.length = 4 := h
    match ds, h with
    | [a, b, c, d], _ => rfl) (by kernel_rfl) (by kernel_rfl) flowServes_AC hval hW hwt
theorem flowServes : Rows.FlowServesSaid :=
  OpenClaim.holds_of_wide 8 Try.f8 rfl rfl rfl rfl rfl rfl rfl ⟨rfl, rfl, rfl, rfl, rfl⟩ rfl rfl rfl rfl rfl (by kernel_rfl) Try.func8 (by kernel_rfl)
    (of_decide_eq_true (by kernel_rfl)) (by unfold Func.isWrapper; first | (rw [if_pos (by decide +kernel)]; kernel_rfl) | (rw [if_neg (by decide +kernel)]; exact ⟨rfl, rfl⟩))
    (fun os started H enc _ => flowServes_lifted os started H enc)
#print axioms flowServes

theorem flowWhy_AC (H : AHeap) (vs : List AVal) (h : AbsArgs H [.sl 56 6 tyLot, .sl 32 3 tyWant] vs) : AC P 6 vs H fun v _ => v = .bool true := by
  obtain ⟨x, r, rfl, hx, y, r1, rfl, hy, rfl⟩ := h
  obtain ⟨L, h1, h2, h3⟩ := dLots hx
  obtain ⟨W, g1, g2⟩ := dWants hy
  exact p_law05_FlowWhy_spec x y L W [] [] H _ h1 g1 h2 g2 rfl
theorem flowWhy_lifted (os : Os) (started : os.Started) (H : Type) (enc : TypeId × Value → H) :
    ReturnsInHanded {} Try.checked os 6 .any (Rows.flowWhySpec.pre6 enc Try.prog Try.f6 Rows.flowWhyRow.domain false) (Rows.flowWhySpec.post enc Try.prog Try.f6 false true false false) := by
  refine returnsInHanded_of_change_sized (C := Try.checked) own started (by kernel_rfl) Try.func6
    (ChangeSpec.witness6 (enc := enc) (C := Try.checked) false ⟨#[], #[.slice none 0 0, .slice none 0 0], []⟩ 8 (by kernel_rfl) (by kernel_rfl) (by kernel_rfl) (by kernel_rfl)) ?_
  intro W base args ds gs before hval hW _ hwt _
  exact law_contract (n := 6) (tb := 4) laid (by kernel_rfl) rfl (fun H ds h => by
    have h : ds.length = 2 := h
    match ds, h with
    | [a, b], _ => rfl) (by kernel_rfl) (by kernel_rfl) flowWhy_AC hval hW hwt
theorem flowWhy : Rows.FlowWhySaid :=
  OpenClaim.holds_of_wide 6 Try.f6 rfl rfl rfl rfl rfl rfl rfl ⟨rfl, rfl, rfl, rfl, rfl⟩ rfl rfl rfl rfl rfl (by kernel_rfl) Try.func6 (by kernel_rfl)
    (of_decide_eq_true (by kernel_rfl)) (by unfold Func.isWrapper; first | (rw [if_pos (by decide +kernel)]; kernel_rfl) | (rw [if_neg (by decide +kernel)]; exact ⟨rfl, rfl⟩))
    (fun os started H enc _ => flowWhy_lifted os started H enc)
#print axioms flowWhy

theorem flowMore_AC (H : AHeap) (vs : List AVal) (h : AbsArgs H [.sl 56 6 tyLot, .sl 32 3 tyWant, tyLot, .i .i64, .i .i64] vs) : AC P 7 vs H fun v _ => v = .bool true := by
  obtain ⟨x, r, rfl, hx, y, r1, rfl, hy, m, r2, rfl, ⟨cs1, rfl, hm⟩, a, r3, rfl, ⟨n1, e1, _⟩, b, r4, rfl, ⟨n2, e2, _⟩, rfl⟩ := h
  cases e1; cases e2
  obtain ⟨L, h1, h2, h3⟩ := dLots hx
  obtain ⟨W, g1, g2⟩ := dWants hy
  obtain ⟨l, rfl, _⟩ := dLot (H := H) (p := cs1) hm
  exact p_law05_FlowMore_spec x y L W [] [] l n1 n2 H _ h1 g1 h2 g2 rfl
theorem flowMore_lifted (os : Os) (started : os.Started) (H : Type) (enc : TypeId × Value → H) :
    ReturnsInHanded {} Try.checked os 7 .any (Rows.flowMoreSpec.pre6 enc Try.prog Try.f7 Rows.flowMoreRow.domain false) (Rows.flowMoreSpec.post enc Try.prog Try.f7 false true false false) := by
  refine returnsInHanded_of_change_sized (C := Try.checked) own started (by kernel_rfl) Try.func7
    (ChangeSpec.witness6 (enc := enc) (C := Try.checked) false ⟨#[], #[.slice none 0 0, .slice none 0 0, .agg #[.int .i64 0, .string ⟨#[]⟩, .int .i64 0, .int .i64 0, .int .i64 0, .bool false], .int .i64 0, .int .i64 0], []⟩ 8 (by kernel_rfl) (by kernel_rfl) (by kernel_rfl) (by kernel_rfl)) ?_
  intro W base args ds gs before hval hW _ hwt _
  exact law_contract (n := 6) (tb := 4) laid (by kernel_rfl) rfl (fun H ds h => by
    have h : ds.length = 5 := h
    match ds, h with
    | [a, b, c, d, e], _ => rfl) (by kernel_rfl) (by kernel_rfl) flowMore_AC hval hW hwt
theorem flowMore : Rows.FlowMoreSaid :=
  OpenClaim.holds_of_wide 7 Try.f7 rfl rfl rfl rfl rfl rfl rfl ⟨rfl, rfl, rfl, rfl, rfl⟩ rfl rfl rfl rfl rfl (by kernel_rfl) Try.func7 (by kernel_rfl)
    (of_decide_eq_true (by kernel_rfl)) (by unfold Func.isWrapper; first | (rw [if_pos (by decide +kernel)]; kernel_rfl) | (rw [if_neg (by decide +kernel)]; exact ⟨rfl, rfl⟩))
    (fun os started H enc _ => flowMore_lifted os started H enc)
#print axioms flowMore
end Go.Proofs.Ytncpfmgbjopjdaa
