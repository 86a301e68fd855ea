/- What is proved: WindowMeets. No conditions. -/
import Derived.Test.YtjhldpbpopjkiaaJ01
import Derived.Test.YtjhldpbpopjkiaaC01g
set_option linter.unusedVariables false
set_option maxRecDepth 100000
namespace Go.Proofs.Ytjhldpbpopjkiaa
open Go.Ab Go.Ab.S01
open Go.ChangeShapes Go.WideShapes Go.ChangeAt Go.RowKit

theorem meets_AC (H : AHeap) (vs : List AVal) (h : AbsArgs H [.st [.i .i64, .i .i64], .st [.i .i64, .i .i64], .st [.i .i64, .i .i64], .i .i64, .i .i64] vs) : AC Try.prog 4 vs H fun v _ => v = .bool true := by
  obtain ⟨a, r, rfl, ha, b, r2, rfl, hb, c, r3, rfl, hc, d, r4, rfl, hd, e, r5, rfl, he, rfl⟩ := h
  obtain ⟨x, y, rfl⟩ := dWindowA ha
  obtain ⟨z, w, rfl⟩ := dWindowA hb
  obtain ⟨p, q, rfl⟩ := dWindowA hc
  obtain ⟨n, hn, _⟩ := hd
  cases hn
  obtain ⟨m, hm, _⟩ := he
  cases hm
  exact law01_WindowMeets.spec law01_WindowMeets.imp l_awake s_Meet s_From x y z w p q n m H _ rfl
theorem meets_lifted (os : Os) (started : os.Started) (H : Type) (enc : TypeId × Value → H) :
    ReturnsInHanded {} Try.checked os 4 .any (Rows.windowMeetsSpec.pre6 enc Try.prog Try.f4 Rows.windowMeetsRow.domain false) (Rows.windowMeetsSpec.post enc Try.prog Try.f4 false true false false) := by
  refine returnsInHanded_of_change_sized (C := Try.checked) own started (by kernel_rfl) Try.func4
    (ChangeSpec.witness6 (enc := enc) (C := Try.checked) false ⟨#[], #[.agg #[.int .i64 0, .int .i64 0], .agg #[.int .i64 0, .int .i64 0], .agg #[.int .i64 0, .int .i64 0], .int .i64 0, .int .i64 0], []⟩ 8 (by kernel_rfl) (by kernel_rfl) (by kernel_rfl) (by kernel_rfl)) ?_
  intro W base args ds gs before hval hW _ hwt _
  exact law_contract (n := 6) (tb := 4) laid (by kernel_rfl) rfl (fun H ds h => by
    have h : ds.length = 5 := h
    match ds, h with
    | [a, b, c, d, e], _ => rfl) (by kernel_rfl) (by kernel_rfl) meets_AC hval hW hwt
theorem windowMeets : Rows.WindowMeetsSaid :=
  OpenClaim.holds_of_wide 4 Try.f4 rfl rfl rfl rfl rfl rfl rfl ⟨rfl, rfl, rfl, rfl, rfl⟩ rfl rfl rfl rfl rfl (by kernel_rfl) Try.func4 (by kernel_rfl)
    (of_decide_eq_true (by kernel_rfl)) (by unfold Func.isWrapper; first | (rw [if_pos (by decide +kernel)]; kernel_rfl) | (rw [if_neg (by decide +kernel)]; exact ⟨rfl, rfl⟩))
    (fun os started H enc _ => meets_lifted os started H enc)
#print axioms windowMeets
end Go.Proofs.Ytjhldpbpopjkiaa
