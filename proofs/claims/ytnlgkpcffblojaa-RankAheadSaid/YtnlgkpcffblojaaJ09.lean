/- What is proved: the statement, joined. No conditions. -/
import Derived.Test.YtnlgkpcffblojaaRows
import Derived.Test.YtnlgkpcffblojaaQ6
import Derived.Test.YtnlgkpcffblojaaQ7
import Derived.Test.YtnlgkpcffblojaaQ9
import Derived.WalkKit
import Derived.ProofKit
import Derived.OpenShut

/- What is proved: statements of this seat. No conditions. -/
set_option linter.unusedVariables false
set_option maxRecDepth 100000
namespace Go.Proofs.Ytnlgkpcffblojaa
open Go.Ab Go.Ab.S09
open Go.ChangeShapes Go.WideShapes Go.ChangeAt Go.RowKit

theorem own : ownKnob Try.prog.godebug = none := by kernel_rfl
theorem laid : laidOutB Try.prog = true := by kernel_rfl

theorem p_code_Right_spec : code_Right.Spec (AC P) N := code_Right.spec code_Right.imp
theorem p_rank_Right_spec : rank_Right.Spec (AC P) N := rank_Right.spec rank_Right.imp p_code_Right_spec
theorem p_ref03_Right_spec : ref03_Right.Spec (AC P) N := ref03_Right.spec ref03_Right.imp
theorem p_ref09_Right_spec : ref09_Right.Spec (AC P) N := ref09_Right.spec ref09_Right.imp p_ref03_Right_spec
theorem p_cmp_isNaN_int_spec : cmp_isNaN_int.Spec (AC P) N := cmp_isNaN_int.spec cmp_isNaN_int.imp
theorem p_cmp_Compare_int_spec : cmp_Compare_int.Spec (AC P) N := cmp_Compare_int.spec cmp_Compare_int.imp p_cmp_isNaN_int_spec
theorem p_cmp_Or_int_spec : cmp_Or_int.Spec (AC P) N := cmp_Or_int.spec cmp_Or_int.imp
theorem p_rank_Compare_spec : rank_Compare.Spec (AC P) N := rank_Compare.spec rank_Compare.imp p_cmp_Compare_int_spec p_cmp_Or_int_spec
theorem p_ref09_Compare_spec : ref09_Compare.Spec (AC P) N := ref09_Compare.spec ref09_Compare.imp
theorem p_law09_line_spec : law09_line.Spec (AC P) N := law09_line.spec law09_line.imp
theorem p_law09_four_spec : law09_four.Spec (AC P) N := law09_four.spec law09_four.imp p_law09_line_spec
theorem p_slices_Clone_api_Line_api_Line_spec : slices_Clone_api_Line_api_Line.Spec (AC P) N := slices_Clone_api_Line_api_Line.spec slices_Clone_api_Line_api_Line.imp
theorem p_slices_IndexFunc_api_Line_api_Line_spec : slices_IndexFunc_api_Line_api_Line.Spec (AC P) N := slices_IndexFunc_api_Line_api_Line.spec slices_IndexFunc_api_Line_api_Line.imp
theorem p_slices_DeleteFunc_api_Line_api_Line_spec : slices_DeleteFunc_api_Line_api_Line.Spec (AC P) N := slices_DeleteFunc_api_Line_api_Line.spec slices_DeleteFunc_api_Line_api_Line.imp p_slices_IndexFunc_api_Line_api_Line_spec
theorem p_slices_SortStableFunc_api_Line_api_Line_spec : slices_SortStableFunc_api_Line_api_Line.Spec (AC P) N := slices_SortStableFunc_api_Line_api_Line.spec slices_SortStableFunc_api_Line_api_Line.imp slices_symMergeCmpFunc_api_Line.imp slices_rotateCmpFunc_api_Line.imp slices_swapRangeCmpFunc_api_Line.imp slices_insertionSortCmpFunc_api_Line.imp slices_stableCmpFunc_api_Line.imp
theorem p_rank_Open_1_spec : rank_Open_1.Spec (AC P) N := rank_Open_1.spec rank_Open_1.imp
theorem p_rank_Open_spec : rank_Open.Spec (AC P) N := rank_Open.spec rank_Open.imp p_slices_Clone_api_Line_api_Line_spec p_slices_DeleteFunc_api_Line_api_Line_spec p_slices_SortStableFunc_api_Line_api_Line_spec p_rank_Open_1_spec p_rank_Compare_spec
theorem p_rank_Ahead_1_spec : rank_Ahead_1.Spec (AC P) N := rank_Ahead_1.spec rank_Ahead_1.imp
theorem p_rank_Ahead_spec : rank_Ahead.Spec (AC P) N := rank_Ahead.spec rank_Ahead.imp p_rank_Open_spec p_slices_IndexFunc_api_Line_api_Line_spec p_rank_Ahead_1_spec
theorem p_law09_awake_spec : law09_awake.Spec (AC P) N := law09_awake.spec law09_awake.imp p_law09_four_spec p_rank_Open_spec p_rank_Ahead_spec p_rank_Right_spec
theorem p_law09_RankRights_spec : law09_RankRights.Spec (AC P) N := law09_RankRights.spec law09_RankRights.imp p_rank_Right_spec p_ref09_Right_spec p_rank_Compare_spec p_ref09_Compare_spec p_law09_awake_spec
theorem p_law09_great_spec : law09_great.Spec (AC P) N := law09_great.spec law09_great.imp
theorem p_kit_mark_spec : kit_mark.Spec (AC P) N := kit_mark.spec kit_mark.imp
theorem p_kit_markLine_spec : kit_markLine.Spec (AC P) N := kit_markLine.spec kit_markLine.imp p_kit_mark_spec
theorem p_kit_LentLines_spec : kit_LentLines.Spec (AC P) N := kit_LentLines.spec kit_LentLines.imp p_kit_markLine_spec
theorem p_kit_KeptLines_spec : kit_KeptLines.Spec (AC P) N := kit_KeptLines.spec kit_KeptLines.imp p_kit_markLine_spec
theorem p_kit_OverLines_spec : kit_OverLines.Spec (AC P) N := kit_OverLines.spec kit_OverLines.imp p_kit_markLine_spec
theorem p_ref09_Open_spec : ref09_Open.Spec (AC P) N := ref09_Open.spec ref09_Open.imp p_ref09_Compare_spec
theorem p_ref09_Ahead_spec : ref09_Ahead.Spec (AC P) N := ref09_Ahead.spec ref09_Ahead.imp p_ref09_Open_spec
theorem p_kit_SameLines_spec : kit_SameLines.Spec (AC P) N := kit_SameLines.spec kit_SameLines.imp
theorem p_kit_bag_putLines_spec : PutSpec (AC P) 11 (N 207) := kit_bag_putLines.spec kit_bag_putLines.imp
theorem p_kit_flatWords_nil : FlatNil (AC P) (N 80) := kit_flatWords.nil kit_flatWords.imp
theorem p_kit_flatInts_nil : FlatNil (AC P) (N 81) := kit_flatInts.nil kit_flatInts.imp
theorem p_kit_flatLongs_nil : FlatNil (AC P) (N 82) := kit_flatLongs.nil kit_flatLongs.imp
theorem p_kit_markText_spec : kit_markText.Spec (AC P) N := kit_markText.spec kit_markText.imp
theorem p_kit_flatTexts_spec : FlatSpec (AC P) 1 (N 83) := kit_flatTexts.spec kit_flatTexts.imp p_kit_markText_spec
theorem p_kit_markByte_spec : kit_markByte.Spec (AC P) N := kit_markByte.spec kit_markByte.imp p_kit_mark_spec
theorem p_kit_flatBytes_spec : FlatSpec (AC P) 1 (N 84) := kit_flatBytes.spec kit_flatBytes.imp p_kit_markByte_spec
theorem p_kit_markWindow_spec : kit_markWindow.Spec (AC P) N := kit_markWindow.spec kit_markWindow.imp p_kit_mark_spec
theorem p_kit_flatWindows_spec : FlatSpec (AC P) 2 (N 85) := kit_flatWindows.spec kit_flatWindows.imp p_kit_markWindow_spec
theorem p_kit_markLot_spec : kit_markLot.Spec (AC P) N := kit_markLot.spec kit_markLot.imp p_kit_mark_spec
theorem p_kit_flatLots_spec : FlatSpec (AC P) 6 (N 86) := kit_flatLots.spec kit_flatLots.imp p_kit_markLot_spec
theorem p_kit_markWant_spec : kit_markWant.Spec (AC P) N := kit_markWant.spec kit_markWant.imp p_kit_mark_spec
theorem p_kit_flatWants_spec : FlatSpec (AC P) 3 (N 87) := kit_flatWants.spec kit_flatWants.imp p_kit_markWant_spec
theorem p_kit_markUse_spec : kit_markUse.Spec (AC P) N := kit_markUse.spec kit_markUse.imp p_kit_mark_spec
theorem p_kit_flatUses_spec : FlatSpec (AC P) 3 (N 88) := kit_flatUses.spec kit_flatUses.imp p_kit_markUse_spec
theorem p_kit_markPart_spec : kit_markPart.Spec (AC P) N := kit_markPart.spec kit_markPart.imp p_kit_mark_spec
theorem p_kit_flatParts_spec : FlatSpec (AC P) 2 (N 89) := kit_flatParts.spec kit_flatParts.imp p_kit_markPart_spec
theorem p_kit_flatItems_nil : FlatNil (AC P) (N 90) := kit_flatItems.nil kit_flatItems.imp
theorem p_kit_flatLines_spec : FlatSpec (AC P) 8 (N 91) := kit_flatLines.spec kit_flatLines.imp p_kit_markLine_spec
theorem p_kit_flatAsks_nil : FlatNil (AC P) (N 92) := kit_flatAsks.nil kit_flatAsks.imp
theorem p_kit_markTell_spec : kit_markTell.Spec (AC P) N := kit_markTell.spec kit_markTell.imp p_kit_mark_spec
theorem p_kit_SameLots_spec : kit_SameLots.Spec (AC P) N := kit_SameLots.spec kit_SameLots.imp
theorem p_kit_SameUses_spec : kit_SameUses.Spec (AC P) N := kit_SameUses.spec kit_SameUses.imp
theorem p_kit_SameTell_spec : kit_SameTell.Spec (AC P) N := kit_SameTell.spec kit_SameTell.imp p_kit_SameLots_spec p_kit_SameUses_spec
theorem p_kit_flatTells_spec : FlatSpec (AC P) 7 (N 93) := kit_flatTells.spec kit_flatTells.imp p_kit_markTell_spec p_kit_SameTell_spec
theorem p_kit_flatStates_nil : FlatNil (AC P) (N 94) := kit_flatStates.nil kit_flatStates.imp
theorem p_kit_flatRows_nil : FlatNil (AC P) (N 95) := kit_flatRows.nil kit_flatRows.imp
theorem p_kit_flatTurns_nil : FlatNil (AC P) (N 96) := kit_flatTurns.nil kit_flatTurns.imp
theorem p_kit_flatFates_nil : FlatNil (AC P) (N 97) := kit_flatFates.nil kit_flatFates.imp
theorem p_kit_flatDirties_nil : FlatNil (AC P) (N 98) := kit_flatDirties.nil kit_flatDirties.imp
theorem p_kit_flatOpens_nil : FlatNil (AC P) (N 99) := kit_flatOpens.nil kit_flatOpens.imp
theorem p_kit_flatRecords_nil : FlatNil (AC P) (N 100) := kit_flatRecords.nil kit_flatRecords.imp
theorem p_kit_flatSteps_nil : FlatNil (AC P) (N 101) := kit_flatSteps.nil kit_flatSteps.imp
theorem p_kit_flatTales_nil : FlatNil (AC P) (N 102) := kit_flatTales.nil kit_flatTales.imp
theorem p_kit_bag_apart_spec : kit_bag_apart.Spec (AC P) N := kit_bag_apart.spec kit_bag_apart.imp p_kit_flatWords_nil p_kit_flatInts_nil p_kit_flatLongs_nil p_kit_flatTexts_spec p_kit_flatBytes_spec p_kit_flatWindows_spec p_kit_flatLots_spec p_kit_flatWants_spec p_kit_flatUses_spec p_kit_flatParts_spec p_kit_flatItems_nil p_kit_flatLines_spec p_kit_flatAsks_nil p_kit_flatTells_spec p_kit_flatStates_nil p_kit_flatRows_nil p_kit_flatTurns_nil p_kit_flatFates_nil p_kit_flatDirties_nil p_kit_flatOpens_nil p_kit_flatRecords_nil p_kit_flatSteps_nil p_kit_flatTales_nil
theorem p_kit_ApartLines_spec : FlatSpec (AC P) 8 (N 193) := kit_ApartLines.spec kit_ApartLines.imp p_kit_bag_putLines_spec p_kit_bag_apart_spec
theorem p_law09_RankLists_spec : law09_RankLists.Spec (AC P) N := law09_RankLists.spec law09_RankLists.imp p_law09_awake_spec p_law09_great_spec p_kit_LentLines_spec p_rank_Open_spec p_rank_Ahead_spec p_kit_KeptLines_spec p_kit_OverLines_spec p_ref09_Open_spec p_ref09_Ahead_spec p_kit_SameLines_spec p_kit_ApartLines_spec
theorem p_law09_RankNumbers_spec : law09_RankNumbers.Spec (AC P) N := law09_RankNumbers.spec law09_RankNumbers.imp p_law09_line_spec p_law09_RankRights_spec p_law09_RankLists_spec p_law09_four_spec p_law09_awake_spec
theorem p_law09_count_spec : law09_count.Spec (AC P) N := law09_count.spec law09_count.imp
theorem p_law09_RankOrder_spec : law09_RankOrder.Spec (AC P) N := law09_RankOrder.spec law09_RankOrder.imp p_law09_awake_spec p_law09_great_spec p_rank_Open_spec p_kit_SameLines_spec p_rank_Compare_spec p_law09_count_spec
theorem p_kit_Pick_spec : kit_Pick.Spec (AC P) N := kit_Pick.spec kit_Pick.imp
theorem p_law09_RankAhead_spec : law09_RankAhead.Spec (AC P) N := law09_RankAhead.spec law09_RankAhead.imp p_law09_awake_spec p_law09_great_spec p_rank_Open_spec p_kit_SameLines_spec p_rank_Compare_spec p_law09_count_spec p_rank_Ahead_spec p_kit_Pick_spec

theorem rankRights_AC (H : AHeap) (vs : List AVal) (h : AbsArgs H [tyLine, tyLine] vs) : AC P 3 vs H fun v _ => v = .bool true := by
  obtain ⟨a, r, rfl, ⟨cs, rfl, ha⟩, b, r2, rfl, ⟨cs2, rfl, hb⟩, rfl⟩ := h
  obtain ⟨l, rfl⟩ := dLine (H := H) (p := cs) ha
  obtain ⟨m, rfl⟩ := dLine (H := H) (p := cs2) hb
  exact p_law09_RankRights_spec l m H _ rfl
theorem rankRights_lifted (os : Os) (started : os.Started) (H : Type) (enc : TypeId × Value → H) :
    ReturnsInHanded {} Try.checked os 3 .any (Rows.rankRightsSpec.pre6 enc Try.prog Try.f3 Rows.rankRightsRow.domain false) (Rows.rankRightsSpec.post enc Try.prog Try.f3 false true false false) := by
  refine returnsInHanded_of_change_sized (C := Try.checked) own started (by kernel_rfl) Try.func3
    (ChangeSpec.witness6 (enc := enc) (C := Try.checked) false ⟨#[], #[.agg #[.int .i64 0, .string ⟨#[]⟩, .int .i64 0, .int .i64 0, .int .i64 0, .int .u8 0, .int .i64 0, .string ⟨#[]⟩], .agg #[.int .i64 0, .string ⟨#[]⟩, .int .i64 0, .int .i64 0, .int .i64 0, .int .u8 0, .int .i64 0, .string ⟨#[]⟩]], []⟩ 8 (by kernel_rfl) (by kernel_rfl) (by kernel_rfl) (by kernel_rfl)) ?_
  intro W base args ds gs before hval hW _ hwt _
  exact law_contract (n := 6) (tb := 4) laid (by kernel_rfl) rfl (fun H ds h => by
    have h : ds.length = 2 := h
    match ds, h with
    | [a, b], _ => rfl) (by kernel_rfl) (by kernel_rfl) rankRights_AC hval hW hwt
theorem rankRights : Rows.RankRightsSaid :=
  OpenClaim.holds_of_wide 3 Try.f3 rfl rfl rfl rfl rfl rfl rfl ⟨rfl, rfl, rfl, rfl, rfl⟩ rfl rfl rfl rfl rfl (by kernel_rfl) Try.func3 (by kernel_rfl)
    (of_decide_eq_true (by kernel_rfl)) (by unfold Func.isWrapper; first | (rw [if_pos (by decide +kernel)]; kernel_rfl) | (rw [if_neg (by decide +kernel)]; exact ⟨rfl, rfl⟩))
    (fun os started H enc _ => rankRights_lifted os started H enc)
#print axioms rankRights

theorem rankLists_AC (H : AHeap) (vs : List AVal) (h : AbsArgs H [.sl 80 8 tyLine, .i .i64] vs) : AC P 4 vs H fun v _ => v = .bool true := by
  obtain ⟨x, r, rfl, hx, a, r1, rfl, ⟨n1, e1, _⟩, rfl⟩ := h
  cases e1
  obtain ⟨L, h1, h2, h3⟩ := dLines hx
  exact p_law09_RankLists_spec x L [] n1 H _ h1 h2 h3 rfl
theorem rankLists_lifted (os : Os) (started : os.Started) (H : Type) (enc : TypeId × Value → H) :
    ReturnsInHanded {} Try.checked os 4 .any (Rows.rankListsSpec.pre6 enc Try.prog Try.f4 Rows.rankListsRow.domain false) (Rows.rankListsSpec.post enc Try.prog Try.f4 false true false false) := by
  refine returnsInHanded_of_change_sized (C := Try.checked) own started (by kernel_rfl) Try.func4
    (ChangeSpec.witness6 (enc := enc) (C := Try.checked) false ⟨#[], #[.slice none 0 0, .int .i64 0], []⟩ 8 (by kernel_rfl) (by kernel_rfl) (by kernel_rfl) (by kernel_rfl)) ?_
  intro W base args ds gs before hval hW _ hwt _
  exact law_contract (n := 6) (tb := 4) laid (by kernel_rfl) rfl (fun H ds h => by
    have h : ds.length = 2 := h
    match ds, h with
    | [a, b], _ => rfl) (by kernel_rfl) (by kernel_rfl) rankLists_AC hval hW hwt
theorem rankLists : Rows.RankListsSaid :=
  OpenClaim.holds_of_wide 4 Try.f4 rfl rfl rfl rfl rfl rfl rfl ⟨rfl, rfl, rfl, rfl, rfl⟩ rfl rfl rfl rfl rfl (by kernel_rfl) Try.func4 (by kernel_rfl)
    (of_decide_eq_true (by kernel_rfl)) (by unfold Func.isWrapper; first | (rw [if_pos (by decide +kernel)]; kernel_rfl) | (rw [if_neg (by decide +kernel)]; exact ⟨rfl, rfl⟩))
    (fun os started H enc _ => rankLists_lifted os started H enc)
#print axioms rankLists

theorem rankNumbers_AC (H : AHeap) (vs : List AVal) (h : AbsArgs H [] vs) : AC P 5 vs H fun v _ => v = .bool true := by
  cases h
  exact p_law09_RankNumbers_spec H _ rfl
theorem rankNumbers_lifted (os : Os) (started : os.Started) (H : Type) (enc : TypeId × Value → H) :
    ReturnsInHanded {} Try.checked os 5 .any (Rows.rankNumbersSpec.pre6 enc Try.prog Try.f5 Rows.rankNumbersRow.domain false) (Rows.rankNumbersSpec.post enc Try.prog Try.f5 false true false false) := by
  refine returnsInHanded_of_change_sized (C := Try.checked) own started (by kernel_rfl) Try.func5
    (ChangeSpec.witness6 (enc := enc) (C := Try.checked) false ⟨#[], #[], []⟩ 8 (by kernel_rfl) (by kernel_rfl) (by kernel_rfl) (by kernel_rfl)) ?_
  intro W base args ds gs before hval hW _ hwt _
  exact law_contract (n := 6) (tb := 4) laid (by kernel_rfl) rfl (fun H ds h => by
    have h : ds.length = 0 := h
    match ds, h with
    | [], _ => rfl) (by kernel_rfl) (by kernel_rfl) rankNumbers_AC hval hW hwt
theorem rankNumbers : Rows.RankNumbersSaid :=
  OpenClaim.holds_of_wide 5 Try.f5 rfl rfl rfl rfl rfl rfl rfl ⟨rfl, rfl, rfl, rfl, rfl⟩ rfl rfl rfl rfl rfl (by kernel_rfl) Try.func5 (by kernel_rfl)
    (of_decide_eq_true (by kernel_rfl)) (by unfold Func.isWrapper; first | (rw [if_pos (by decide +kernel)]; kernel_rfl) | (rw [if_neg (by decide +kernel)]; exact ⟨rfl, rfl⟩))
    (fun os started H enc _ => rankNumbers_lifted os started H enc)
#print axioms rankNumbers

theorem rankOrder_AC (H : AHeap) (vs : List AVal) (h : AbsArgs H [.sl 80 8 tyLine, tyLine, tyLine, tyLine] vs) : AC P 6 vs H fun v _ => v = .bool true := by
  obtain ⟨x, r, rfl, hx, a, r1, rfl, ⟨cs1, rfl, ha⟩, b, r2, rfl, ⟨cs2, rfl, hb⟩, c, r3, rfl, ⟨cs3, rfl, hc⟩, rfl⟩ := h
  obtain ⟨L, h1, h2, h3⟩ := dLines hx
  obtain ⟨l, rfl⟩ := dLine (H := H) (p := cs1) ha
  obtain ⟨m, rfl⟩ := dLine (H := H) (p := cs2) hb
  obtain ⟨n, rfl⟩ := dLine (H := H) (p := cs3) hc
  exact p_law09_RankOrder_spec x L [] l m n H _ h1 h2 h3 rfl
theorem rankOrder_lifted (os : Os) (started : os.Started) (H : Type) (enc : TypeId × Value → H) :
    ReturnsInHanded {} Try.checked os 6 .any (Rows.rankOrderSpec.pre6 enc Try.prog Try.f6 Rows.rankOrderRow.domain false) (Rows.rankOrderSpec.post enc Try.prog Try.f6 false true false false) := by
  refine returnsInHanded_of_change_sized (C := Try.checked) own started (by kernel_rfl) Try.func6
    (ChangeSpec.witness6 (enc := enc) (C := Try.checked) false ⟨#[], #[.slice none 0 0, .agg #[.int .i64 0, .string ⟨#[]⟩, .int .i64 0, .int .i64 0, .int .i64 0, .int .u8 0, .int .i64 0, .string ⟨#[]⟩], .agg #[.int .i64 0, .string ⟨#[]⟩, .int .i64 0, .int .i64 0, .int .i64 0, .int .u8 0, .int .i64 0, .string ⟨#[]⟩], .agg #[.int .i64 0, .string ⟨#[]⟩, .int .i64 0, .int .i64 0, .int .i64 0, .int .u8 0, .int .i64 0, .string ⟨#[]⟩]], []⟩ 8 (by kernel_rfl) (by kernel_rfl) (by kernel_rfl) (by kernel_rfl)) ?_
  intro W base args ds gs before hval hW _ hwt _
  exact law_contract (n := 6) (tb := 4) laid (by kernel_rfl) rfl (fun H ds h => by
    have h : ds.length = 4 := h
    match ds, h with
    | [a, b, c, d], _ => rfl) (by kernel_rfl) (by kernel_rfl) rankOrder_AC hval hW hwt
theorem rankOrder : Rows.RankOrderSaid :=
  OpenClaim.holds_of_wide 6 Try.f6 rfl rfl rfl rfl rfl rfl rfl ⟨rfl, rfl, rfl, rfl, rfl⟩ rfl rfl rfl rfl rfl (by kernel_rfl) Try.func6 (by kernel_rfl)
    (of_decide_eq_true (by kernel_rfl)) (by unfold Func.isWrapper; first | (rw [if_pos (by decide +kernel)]; kernel_rfl) | (rw [if_neg (by decide +kernel)]; exact ⟨rfl, rfl⟩))
    (fun os started H enc _ => rankOrder_lifted os started H enc)
#print axioms rankOrder

theorem rankAhead_AC (H : AHeap) (vs : List AVal) (h : AbsArgs H [.sl 80 8 tyLine, .i .i64] vs) : AC P 7 vs H fun v _ => v = .bool true := by
  obtain ⟨x, r, rfl, hx, a, r1, rfl, ⟨n1, e1, _⟩, rfl⟩ := h
  cases e1
  obtain ⟨L, h1, h2, h3⟩ := dLines hx
  exact p_law09_RankAhead_spec x L [] n1 H _ h1 h2 h3 rfl
theorem rankAhead_lifted (os : Os) (started : os.Started) (H : Type) (enc : TypeId × Value → H) :
    ReturnsInHanded {} Try.checked os 7 .any (Rows.rankAheadSpec.pre6 enc Try.prog Try.f7 Rows.rankAheadRow.domain false) (Rows.rankAheadSpec.post enc Try.prog Try.f7 false true false false) := by
  refine returnsInHanded_of_change_sized (C := Try.checked) own started (by kernel_rfl) Try.func7
    (ChangeSpec.witness6 (enc := enc) (C := Try.checked) false ⟨#[], #[.slice none 0 0, .int .i64 0], []⟩ 8 (by kernel_rfl) (by kernel_rfl) (by kernel_rfl) (by kernel_rfl)) ?_
  intro W base args ds gs before hval hW _ hwt _
  exact law_contract (n := 6) (tb := 4) laid (by kernel_rfl) rfl (fun H ds h => by
    have h : ds.length = 2 := h
    match ds, h with
    | [a, b], _ => rfl) (by kernel_rfl) (by kernel_rfl) rankAhead_AC hval hW hwt
theorem rankAhead : Rows.RankAheadSaid :=
  OpenClaim.holds_of_wide 7 Try.f7 rfl rfl rfl rfl rfl rfl rfl ⟨rfl, rfl, rfl, rfl, rfl⟩ rfl rfl rfl rfl rfl (by kernel_rfl) Try.func7 (by kernel_rfl)
    (of_decide_eq_true (by kernel_rfl)) (by unfold Func.isWrapper; first | (rw [if_pos (by decide +kernel)]; kernel_rfl) | (rw [if_neg (by decide +kernel)]; exact ⟨rfl, rfl⟩))
    (fun os started H enc _ => rankAhead_lifted os started H enc)
#print axioms rankAhead
end Go.Proofs.Ytnlgkpcffblojaa
