/- What is proved: the statement, joined. No conditions. -/
import Derived.Test.YtfinnbedbggnnaaRows
import Derived.Test.YtfinnbedbggnnaaQ6
import Derived.Test.YtfinnbedbggnnaaQ7
import Derived.WalkKit
import Derived.ProofKit
import Derived.OpenShut

/- What is proved: statements of this seat. No conditions. -/
set_option linter.unusedVariables false
set_option maxRecDepth 100000
namespace Go.Proofs.Ytfinnbedbggnnaa
open Go.Ab Go.Ab.S04
open Go.ChangeShapes Go.WideShapes Go.ChangeAt Go.RowKit

theorem own : ownKnob Try.prog.godebug = none := by kernel_rfl
theorem laid : laidOutB Try.prog = true := by kernel_rfl

theorem p_code_Right_spec : code_Right.Spec (AC P) N := code_Right.spec code_Right.imp
theorem p_window_Right_spec : window_Right.Spec (AC P) N := window_Right.spec window_Right.imp
theorem p_lot_Right_spec : lot_Right.Spec (AC P) N := lot_Right.spec lot_Right.imp p_code_Right_spec p_window_Right_spec
theorem p_cmp_isNaN_int_spec : cmp_isNaN_int.Spec (AC P) N := cmp_isNaN_int.spec cmp_isNaN_int.imp
theorem p_cmp_Compare_int_spec : cmp_Compare_int.Spec (AC P) N := cmp_Compare_int.spec cmp_Compare_int.imp p_cmp_isNaN_int_spec
theorem p_cmp_Or_int_spec : cmp_Or_int.Spec (AC P) N := cmp_Or_int.spec cmp_Or_int.imp
theorem p_lot_Compare_spec : lot_Compare.Spec (AC P) N := lot_Compare.spec lot_Compare.imp p_cmp_Compare_int_spec p_cmp_Or_int_spec
theorem p_law04_three_spec : law04_three.Spec (AC P) N := law04_three.spec law04_three.imp
theorem p_slices_Clone_api_Lot_api_Lot_spec : slices_Clone_api_Lot_api_Lot.Spec (AC P) N := slices_Clone_api_Lot_api_Lot.spec slices_Clone_api_Lot_api_Lot.imp
theorem p_slices_SortStableFunc_api_Lot_api_Lot_spec : slices_SortStableFunc_api_Lot_api_Lot.Spec (AC P) N := slices_SortStableFunc_api_Lot_api_Lot.spec slices_SortStableFunc_api_Lot_api_Lot.imp slices_symMergeCmpFunc_api_Lot.imp slices_rotateCmpFunc_api_Lot.imp slices_swapRangeCmpFunc_api_Lot.imp slices_insertionSortCmpFunc_api_Lot.imp slices_stableCmpFunc_api_Lot.imp
theorem p_lot_Sort_spec : lot_Sort.Spec (AC P) N := lot_Sort.spec lot_Sort.imp p_slices_Clone_api_Lot_api_Lot_spec p_slices_SortStableFunc_api_Lot_api_Lot_spec p_lot_Compare_spec
theorem p_lot_some_api_Lot_spec : lot_some_api_Lot.Spec (AC P) N := lot_some_api_Lot.spec lot_some_api_Lot.imp
theorem p_lot_Sweep_1_spec : lot_Sweep_1.Spec (AC P) N := lot_Sweep_1.spec lot_Sweep_1.imp
theorem p_lot_Sweep_2_spec : lot_Sweep_2.Spec (AC P) N := lot_Sweep_2.spec lot_Sweep_2.imp
theorem p_lot_Sweep_spec : lot_Sweep.Spec (AC P) N := lot_Sweep.spec lot_Sweep.imp p_lot_some_api_Lot_spec p_lot_Sweep_1_spec p_lot_Sweep_2_spec
theorem p_window_Has_spec : window_Has.Spec (AC P) N := window_Has.spec window_Has.imp p_window_Right_spec
theorem p_lot_On_spec : lot_On.Spec (AC P) N := lot_On.spec lot_On.imp p_lot_some_api_Lot_spec p_lot_Right_spec p_window_Has_spec
theorem p_lot_Of_1_spec : lot_Of_1.Spec (AC P) N := lot_Of_1.spec lot_Of_1.imp
theorem p_lot_Of_spec : lot_Of.Spec (AC P) N := lot_Of.spec lot_Of.imp p_lot_some_api_Lot_spec p_lot_Of_1_spec
theorem p_law04_awake_spec : law04_awake.Spec (AC P) N := law04_awake.spec law04_awake.imp p_law04_three_spec p_lot_Sort_spec p_lot_Sweep_spec p_lot_On_spec p_lot_Right_spec p_lot_Of_spec
theorem p_law04_great_spec : law04_great.Spec (AC P) N := law04_great.spec law04_great.imp
theorem p_kit_SameLots_spec : kit_SameLots.Spec (AC P) N := kit_SameLots.spec kit_SameLots.imp
theorem p_kit_Pick_spec : kit_Pick.Spec (AC P) N := kit_Pick.spec kit_Pick.imp
theorem p_law04_LotSwept_spec : law04_LotSwept.Spec (AC P) N := law04_LotSwept.spec law04_LotSwept.imp p_law04_awake_spec p_law04_great_spec p_lot_Sweep_spec p_kit_SameLots_spec p_lot_On_spec p_lot_Of_spec p_kit_Pick_spec

theorem lotSwept_AC (H : AHeap) (vs : List AVal) (h : AbsArgs H [.sl 56 6 tyLot, .i .i64, .i .i64] vs) : AC P 5 vs H fun v _ => v = .bool true := by
  obtain ⟨x, r, rfl, hx, a, r1, rfl, ⟨n1, e1, _⟩, b, r2, rfl, ⟨n2, e2, _⟩, rfl⟩ := h
  cases e1; cases e2
  obtain ⟨L, h1, h2, h3⟩ := dLots hx
  exact p_law04_LotSwept_spec x L [] n1 n2 H _ h1 h2 h3 rfl
theorem lotSwept_lifted (os : Os) (started : os.Started) (H : Type) (enc : TypeId × Value → H) :
    ReturnsInHanded {} Try.checked os 5 .any (Rows.lotSweptSpec.pre6 enc Try.prog Try.f5 Rows.lotSweptRow.domain false) (Rows.lotSweptSpec.post enc Try.prog Try.f5 false true false false) := by
  refine returnsInHanded_of_change_sized (C := Try.checked) own started (by kernel_rfl) Try.func5
    (ChangeSpec.witness6 (enc := enc) (C := Try.checked) false ⟨#[], #[.slice none 0 0, .int .i64 0, .int .i64 0], []⟩ 8 (by kernel_rfl) (by kernel_rfl) (by kernel_rfl) (by kernel_rfl)) ?_
  intro W base args ds gs before hval hW _ hwt _
  exact law_contract (n := 6) (tb := 4) laid (by kernel_rfl) rfl (fun H ds h => by
    have h : ds.length = 3 := h
    match ds, h with
    | [a, b, c], _ => rfl) (by kernel_rfl) (by kernel_rfl) lotSwept_AC hval hW hwt
theorem lotSwept : Rows.LotSweptSaid :=
  OpenClaim.holds_of_wide 5 Try.f5 rfl rfl rfl rfl rfl rfl rfl ⟨rfl, rfl, rfl, rfl, rfl⟩ rfl rfl rfl rfl rfl (by kernel_rfl) Try.func5 (by kernel_rfl)
    (of_decide_eq_true (by kernel_rfl)) (by unfold Func.isWrapper; first | (rw [if_pos (by decide +kernel)]; kernel_rfl) | (rw [if_neg (by decide +kernel)]; exact ⟨rfl, rfl⟩))
    (fun os started H enc _ => lotSwept_lifted os started H enc)
#print axioms lotSwept
end Go.Proofs.Ytfinnbedbggnnaa
