/- What is proved: statements about windows. No conditions. -/
import Derived.Test.YtjhldpbpopjkiaaRows
import Derived.Test.YtjhldpbpopjkiaaAcJ
import Derived.Test.YtjhldpbpopjkiaaL01
import Derived.Test.YtjhldpbpopjkiaaC01f
import Derived.WalkKit
import Derived.ProofKit
import Derived.OpenShut
set_option linter.unusedVariables false
set_option maxRecDepth 100000
namespace Go.Proofs.Ytjhldpbpopjkiaa
open Go.Ab Go.Ab.S01
open Go.ChangeShapes Go.WideShapes Go.ChangeAt Go.RowKit

theorem own : ownKnob Try.prog.godebug = none := by kernel_rfl
theorem laid : laidOutB Try.prog = true := by kernel_rfl

theorem dWindow {H : AHeap} {p : List AVal} (h : AbsOk H (.st [.i .i64, .i .i64]) p) : ∃ w : Window, p = w.cs := by
  obtain ⟨a, r, rfl, ⟨n, rfl, _⟩, ⟨b, r2, rfl, ⟨m, rfl, _⟩, hr⟩⟩ := h
  cases hr
  exact ⟨⟨n, m⟩, rfl⟩
theorem dWindowA {H : AHeap} {v : AVal} (h : AbsArg H (.st [.i .i64, .i .i64]) v) : ∃ a b : Int, v = .agg [.int .i64 a, .int .i64 b] := by
  obtain ⟨cs, rfl, h⟩ := h
  obtain ⟨⟨a, b⟩, rfl⟩ := dWindow h
  exact ⟨a, b, rfl⟩

theorem s_Right : window_Right.Spec (AC P) N := window_Right.spec window_Right.imp
theorem s_within : window_within.Spec (AC P) N := window_within.spec window_within.imp
theorem s_Meet : window_Meet.Spec (AC P) N := window_Meet.spec window_Meet.imp s_Right s_within
theorem s_From : window_From.Spec (AC P) N := window_From.spec window_From.imp s_Right s_within
theorem s_Has : window_Has.Spec (AC P) N := window_Has.spec window_Has.imp s_Right
theorem s_Rows : window_Rows.Spec (AC P) N := window_Rows.spec window_Rows.imp s_Right
theorem s_Count : window_Count.Spec (AC P) N := window_Count.spec window_Count.imp s_Rows
theorem r_Right : ref01_Right.Spec (AC P) N := ref01_Right.spec ref01_Right.imp
theorem r_Has : ref01_Has.Spec (AC P) N := ref01_Has.spec ref01_Has.imp r_Right
theorem r_Of : ref01_Of.Spec (AC P) N := ref01_Of.spec ref01_Of.imp
theorem r_one : ref01_one.Spec (AC P) N := ref01_one.spec ref01_one.imp r_Has r_Of
theorem r_Meet : ref01_Meet.Spec (AC P) N := ref01_Meet.spec ref01_Meet.imp r_one
theorem r_From : ref01_From.Spec (AC P) N := ref01_From.spec ref01_From.imp r_one
theorem r_Rows : ref01_Rows.Spec (AC P) N := ref01_Rows.spec ref01_Rows.imp r_Right r_Of
theorem r_Count : ref01_Count.Spec (AC P) N := ref01_Count.spec ref01_Count.imp r_Rows
theorem k_mark : kit_mark.Spec (AC P) N := kit_mark.spec kit_mark.imp
theorem k_markWindow : kit_markWindow.Spec (AC P) N := kit_markWindow.spec kit_markWindow.imp k_mark
theorem k_Same : kit_SameWindows.Spec (AC P) N := kit_SameWindows.spec kit_SameWindows.imp
theorem k_Lent : kit_LentWindows.Spec (AC P) N := kit_LentWindows.spec kit_LentWindows.imp k_markWindow
theorem k_Kept : kit_KeptWindows.Spec (AC P) N := kit_KeptWindows.spec kit_KeptWindows.imp k_markWindow
theorem l_awake : law01_awake.Spec (AC P) N := law01_awake.spec law01_awake.imp s_Rows s_Meet s_Has

theorem tells_AC (H : AHeap) (vs : List AVal) (h : AbsArgs H [.st [.i .i64, .i .i64], .st [.i .i64, .i .i64], .i .i64] vs) : AC Try.prog 3 vs H fun v _ => v = .bool true := by
  obtain ⟨a, r, rfl, ha, b, r2, rfl, hb, c, r3, rfl, hc, rfl⟩ := h
  obtain ⟨x, y, rfl⟩ := dWindowA ha
  obtain ⟨z, w, rfl⟩ := dWindowA hb
  obtain ⟨n, hn, _⟩ := hc
  cases hn
  exact law01_WindowTells.spec law01_WindowTells.imp l_awake s_Meet r_Meet s_From r_From s_Right r_Right s_Has r_Has x y z w n H _ rfl

theorem tells_lifted (os : Os) (started : os.Started) (H : Type) (enc : TypeId × Value → H) :
    ReturnsInHanded {} Try.checked os 3 .any (Rows.windowTellsSpec.pre6 enc Try.prog Try.f3 Rows.windowTellsRow.domain false) (Rows.windowTellsSpec.post enc Try.prog Try.f3 false true false false) := by
  refine returnsInHanded_of_change_sized (C := Try.checked) own started (by kernel_rfl) Try.func3
    (ChangeSpec.witness6 (enc := enc) (C := Try.checked) false ⟨#[], #[.agg #[.int .i64 0, .int .i64 0], .agg #[.int .i64 0, .int .i64 0], .int .i64 0], []⟩ 8 (by kernel_rfl) (by kernel_rfl) (by kernel_rfl) (by kernel_rfl)) ?_
  intro W base args ds gs before hval hW _ hwt _
  exact law_contract (n := 6) (tb := 4) laid (by kernel_rfl) rfl (fun H ds h => by
    have h : ds.length = 3 := h
    match ds, h with
    | [a, b, c], _ => rfl) (by kernel_rfl) (by kernel_rfl) tells_AC hval hW hwt
theorem windowTells : Rows.WindowTellsSaid :=
  OpenClaim.holds_of_wide 3 Try.f3 rfl rfl rfl rfl rfl rfl rfl ⟨rfl, rfl, rfl, rfl, rfl⟩ rfl rfl rfl rfl rfl (by kernel_rfl) Try.func3 (by kernel_rfl)
    (of_decide_eq_true (by kernel_rfl)) (by unfold Func.isWrapper; first | (rw [if_pos (by decide +kernel)]; kernel_rfl) | (rw [if_neg (by decide +kernel)]; exact ⟨rfl, rfl⟩))
    (fun os started H enc _ => tells_lifted os started H enc)

theorem rows_AC (H : AHeap) (vs : List AVal) (h : AbsArgs H [.sl 16 2 (.st [.i .i64, .i .i64])] vs) : AC Try.prog 5 vs H fun v _ => v = .bool true := by
  obtain ⟨a, r, rfl, ha, rfl⟩ := h
  obtain ⟨L, h1, h2⟩ := arg_slice Window.cs (fun p hp => dWindow hp) ha
  exact law01_WindowRows.spec law01_WindowRows.imp l_awake k_Lent s_Rows r_Rows k_Same s_Count r_Count k_Kept a L [] H _ h1 (by unfold reach at h2; omega) rfl
theorem rows_lifted (os : Os) (started : os.Started) (H : Type) (enc : TypeId × Value → H) :
    ReturnsInHanded {} Try.checked os 5 .any (Rows.windowRowsSpec.pre6 enc Try.prog Try.f5 Rows.windowRowsRow.domain false) (Rows.windowRowsSpec.post enc Try.prog Try.f5 false true false false) := by
  refine returnsInHanded_of_change_sized (C := Try.checked) own started (by kernel_rfl) Try.func5
    (ChangeSpec.witness6 (enc := enc) (C := Try.checked) false ⟨#[], #[.slice none 0 0], []⟩ 8 (by kernel_rfl) (by kernel_rfl) (by kernel_rfl) (by kernel_rfl)) ?_
  intro W base args ds gs before hval hW _ hwt _
  exact law_contract (n := 6) (tb := 4) laid (by kernel_rfl) rfl (fun H ds h => by
    have h : ds.length = 1 := h
    match ds, h with
    | [a], _ => rfl) (by kernel_rfl) (by kernel_rfl) rows_AC hval hW hwt
theorem windowRows : Rows.WindowRowsSaid :=
  OpenClaim.holds_of_wide 5 Try.f5 rfl rfl rfl rfl rfl rfl rfl ⟨rfl, rfl, rfl, rfl, rfl⟩ rfl rfl rfl rfl rfl (by kernel_rfl) Try.func5 (by kernel_rfl)
    (of_decide_eq_true (by kernel_rfl)) (by unfold Func.isWrapper; first | (rw [if_pos (by decide +kernel)]; kernel_rfl) | (rw [if_neg (by decide +kernel)]; exact ⟨rfl, rfl⟩))
    (fun os started H enc _ => rows_lifted os started H enc)
#print axioms windowTells
#print axioms windowRows
end Go.Proofs.Ytjhldpbpopjkiaa
