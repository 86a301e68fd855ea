/- What is proved: a part of the way to the statement; each part is headed by what it proves. No conditions. -/
import Derived.Test.YtfinnbedbggnnaaQ6

/- What is proved: contracts of the fourth chapter's statements' functions. No conditions. -/
set_option linter.unusedVariables false
set_option linter.unusedSimpArgs false
namespace Go.Ab
variable {C : CSem} {N : Nat → Nat}
def three : List Lot := [⟨1, [65], 0, 9, 5, true⟩, ⟨2, [65], 3, 6, 4, false⟩, ⟨3, [66], 0, 6, 2, true⟩]
def law04_three.Spec (C : CSem) (N : Nat → Nat) : Prop := ∀ (h : AHeap) (Q : AVal → AHeap → Prop), (∀ x' h', Owns h h' [.sl 6 x' (three.map Lot.cs) []] → Q x' h') → C (N 159) [] h Q
theorem law04_three.spec (i : law04_three.Imp C N) : law04_three.Spec C N := by
  intro h Q hq
  apply i
  simp -dsimp [repL, A.bld]
  intro id hid
  refine dn_same (hq _ _ ?_)
  have := (Owns.start h).newSl hid (n := 3) (cp := 3) (es := 6) (L := three.map Lot.cs) (R := []) (by simp [three]) (by simp [three]) (by simp [three]) (by simp [three]; rfl)
  simpa using this
def law04_awake.Spec (C : CSem) (N : Nat → Nat) : Prop := ∀ (h : AHeap) (Q : AVal → AHeap → Prop), Q (.bool true) h → C (N 146) [] h Q
theorem law04_awake.spec (i : law04_awake.Imp C N) (s1 : law04_three.Spec C N) (s2 : lot_Sort.Spec C N) (s3 : lot_Sweep.Spec C N) (s4 : lot_On.Spec C N) (s5 : lot_Right.Spec C N) (s6 : lot_Of.Spec C N) : law04_awake.Spec C N := by
  intro h Q hq
  apply i
  simp -dsimp
  refine s1 _ _ fun x1 h1 o1 => ?_
  refine s2 _ _ _ _ _ (o1.slAt 0 rfl) (by decide) fun x2 h2 o2 => ?_
  rw [show sortLots three = [⟨2, [65], 3, 6, 4, false⟩, ⟨3, [66], 0, 6, 2, true⟩, ⟨1, [65], 0, 9, 5, true⟩] by decide] at o2
  refine s1 _ _ fun x3 h3 o3 => ?_
  refine s3 _ _ _ _ _ _ (o3.slAt 0 rfl) (by decide) fun x4 x5 h4 o4 => ?_
  rw [show three.filter (fun l => !lotOver 6 l) = [⟨1, [65], 0, 9, 5, true⟩, ⟨2, [65], 3, 6, 4, false⟩] by decide, show three.filter (lotOver 6) = [⟨3, [66], 0, 6, 2, true⟩] by decide] at o4
  have a2 := (o2.slAt 0 rfl).mono (AHeap.le_trans o3.le o4.le)
  have a4 := o4.slAt 0 rfl
  have a5 := o4.slAt 1 rfl
  have i0 : V.idxS 6 x2 (.int .i64 0) = some (elp 6 x2 0 0) := a2.idxN (i := 0) (by simp)
  have i1 : V.idxS 6 x2 (.int .i64 1) = some (elp 6 x2 1 0) := a2.idxN (i := 1) (by simp)
  have i2 : V.idxS 6 x2 (.int .i64 2) = some (elp 6 x2 2 0) := a2.idxN (i := 2) (by simp)
  have j0 : V.idxS 6 x5 (.int .i64 0) = some (elp 6 x5 0 0) := a5.idxN (i := 0) (by simp)
  have f0 := a2.fieldA (i := 0) (by simp) 0 0
  have f1 := a2.fieldA (i := 1) (by simp) 0 0
  have f2 := a2.fieldA (i := 2) (by simp) 0 0
  have g0 := a5.fieldA (i := 0) (by simp) 0 0
  have d0 := a2.ldv (i := 0) (f := 0) rfl (by omega)
  have d1 := a2.ldv (i := 1) (f := 0) rfl (by omega)
  have d2 := a2.ldv (i := 2) (f := 0) rfl (by omega)
  have c0 := a5.ldv (i := 0) (f := 0) rfl (by omega)
  simp at f0 f1 f2 g0 d0 d1 d2 c0
  simp -dsimp [a2.lenSl, a4.lenSl, a5.lenSl, i0, i1, i2, j0, f0, f1, f2, g0, d0, d1, d2, c0]
  refine s1 _ _ fun x6 h6 o6 => ?_
  simp -dsimp
  refine s4 _ _ _ _ _ _ (o6.slAt 0 rfl) (by decide) ?_
  rw [show lotOn three 4 = 11 by decide]
  simp -dsimp
  refine s1 _ _ fun x7 h7 o7 => ?_
  simp -dsimp
  refine s4 _ _ _ _ _ _ (o7.slAt 0 rfl) (by decide) ?_
  rw [show lotOn three 9 = 0 by decide]
  have b2 := a2.mono (AHeap.le_trans o6.le o7.le)
  have el := b2.elem (i := 0) rfl
  simp -dsimp [i0, el]
  refine s5 ⟨2, [65], 3, 6, 4, false⟩ _ _ ?_
  rw [show lotRight ⟨2, [65], 3, 6, 4, false⟩ = true by decide]
  simp -dsimp [A.bld]
  refine s5 ⟨0, [], 0, 0, 0, false⟩ _ _ ?_
  rw [show lotRight ⟨0, [], 0, 0, 0, false⟩ = false by decide]
  simp -dsimp
  refine s6 _ [⟨2, [65], 3, 6, 4, false⟩, ⟨3, [66], 0, 6, 2, true⟩, ⟨1, [65], 0, 9, 5, true⟩] _ _ _ _ b2 (by decide) fun x8 h8 o8 => ?_
  have a8 := (o8.slAt 0 rfl).lenSl
  rw [show lotOf [66] [⟨2, [65], 3, 6, 4, false⟩, ⟨3, [66], 0, 6, 2, true⟩, ⟨1, [65], 0, 9, 5, true⟩] = [⟨3, [66], 0, 6, 2, true⟩] by decide] at a8
  simp -dsimp [a8]
  exact dn_le (AHeap.le_trans o1.le (AHeap.le_trans o2.le (AHeap.le_trans o3.le (AHeap.le_trans o4.le (AHeap.le_trans o6.le (AHeap.le_trans o7.le o8.le)))))) hq
def law04_LotRights.Spec (C : CSem) (N : Nat → Nat) : Prop := ∀ (a b : Lot) (h : AHeap) (Q : AVal → AHeap → Prop), Q (.bool true) h → C (N 147) [.agg a.cs, .agg b.cs] h Q
theorem law04_LotRights.spec (i : law04_LotRights.Imp C N) (s1 : lot_Right.Spec C N) (s2 : ref04_Right.Spec C N) (s3 : lot_Compare.Spec C N) (s4 : ref04_Compare.Spec C N) (s5 : law04_awake.Spec C N) : law04_LotRights.Spec C N := by
  intro a b h Q hq
  apply i
  simp -dsimp
  refine s1 _ _ _ ?_
  refine s2 _ _ _ ?_
  simp -dsimp
  refine s3 _ _ _ _ ?_
  simp -dsimp
  refine s4 _ _ _ _ ?_
  simp -dsimp
  refine s5 _ _ ?_
  simp -dsimp
  exact dn_same hq
end Go.Ab

/- What is proved: contracts of the fourth chapter's statements' functions: what is sorted. No conditions. -/
set_option linter.unusedVariables false
set_option linter.unusedSimpArgs false
namespace Go.Ab
variable {C : CSem} {N : Nat → Nat}
end Go.Ab
