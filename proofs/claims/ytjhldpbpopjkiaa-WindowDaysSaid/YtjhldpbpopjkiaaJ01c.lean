/- What is proved: WindowDays. No conditions. -/
import Derived.Test.YtjhldpbpopjkiaaJ01
import Derived.Test.YtjhldpbpopjkiaaC01h
set_option linter.unusedVariables false
set_option maxRecDepth 100000
namespace Go.Proofs.Ytjhldpbpopjkiaa
open Go.Ab Go.Ab.S01
open Go.ChangeShapes Go.WideShapes Go.ChangeAt Go.RowKit

theorem days_AC (H : AHeap) (vs : List AVal) (h : AbsArgs H [.sl 16 2 (.st [.i .i64, .i .i64]), .sl 16 2 (.st [.i .i64, .i .i64]), .i .i64] vs) : AC Try.prog 6 vs H fun v _ => v = .bool true := by
  obtain ⟨a, r, rfl, ha, b, r2, rfl, hb, c, r3, rfl, hc, rfl⟩ := h
  obtain ⟨L, h1, h2⟩ := arg_slice Window.cs (fun p hp => dWindow hp) ha
  obtain ⟨M, h3, h4⟩ := arg_slice Window.cs (fun p hp => dWindow hp) hb
  obtain ⟨n, hn, _⟩ := hc
  cases hn
  exact law01_WindowDays.spec law01_WindowDays.imp l_awake s_Right s_Rows s_Has s_Meet s_Count k_Same a b L M [] [] n H _ h1 h3 (by unfold reach at h2; omega) (by unfold reach at h4; omega) rfl
theorem days_lifted (os : Os) (started : os.Started) (H : Type) (enc : TypeId × Value → H) :
    ReturnsInHanded {} Try.checked os 6 .any (Rows.windowDaysSpec.pre6 enc Try.prog Try.f6 Rows.windowDaysRow.domain false) (Rows.windowDaysSpec.post enc Try.prog Try.f6 false true false false) := by
  refine returnsInHanded_of_change_sized (C := Try.checked) own started (by kernel_rfl) Try.func6
    (ChangeSpec.witness6 (enc := enc) (C := Try.checked) false ⟨#[], #[.slice none 0 0, .slice none 0 0, .int .i64 0], []⟩ 8 (by kernel_rfl) (by kernel_rfl) (by kernel_rfl) (by kernel_rfl)) ?_
  intro W base args ds gs before hval hW _ hwt _
  exact law_contract (n := 6) (tb := 4) laid (by kernel_rfl) rfl (fun H ds h => by
    have h : ds.length = 3 := h
    match ds, h with
    | [a, b, c], _ => rfl) (by kernel_rfl) (by kernel_rfl) days_AC hval hW hwt
theorem windowDays : Rows.WindowDaysSaid :=
  OpenClaim.holds_of_wide 6 Try.f6 rfl rfl rfl rfl rfl rfl rfl ⟨rfl, rfl, rfl, rfl, rfl⟩ rfl rfl rfl rfl rfl (by kernel_rfl) Try.func6 (by kernel_rfl)
    (of_decide_eq_true (by kernel_rfl)) (by unfold Func.isWrapper; first | (rw [if_pos (by decide +kernel)]; kernel_rfl) | (rw [if_neg (by decide +kernel)]; exact ⟨rfl, rfl⟩))
    (fun os started H enc _ => days_lifted os started H enc)
#print axioms windowDays
end Go.Proofs.Ytjhldpbpopjkiaa
