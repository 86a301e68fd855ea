/- What is proved: contracts of what the statements share about windows, and of the statements themselves. No conditions. -/
import Derived.Test.YtjhldpbpopjkiaaP01
set_option linter.unusedVariables false
set_option linter.unusedSimpArgs false
set_option maxRecDepth 100000
namespace Go.Ab
variable {C : CSem} {N : Nat → Nat}

@[irreducible] def mark (k i : Int) : Int := IntKind.i64.wrap (IntKind.i64.wrap (1000003 * IntKind.i64.wrap (k + 7)) + i)
def kit_mark.Spec (C : CSem) (N : Nat → Nat) : Prop := ∀ (k i : Int) (h : AHeap) (Q : AVal → AHeap → Prop), Q (.int .i64 (mark k i)) h → C (N 20) [.int .i64 k, .int .i64 i] h Q
theorem kit_mark.spec (i : kit_mark.Imp C N) : kit_mark.Spec C N := by
  intro k j h Q hq
  apply i
  simp +contextual -dsimp
  unfold mark at hq
  exact dn_same hq

def wF : Flat Window where
  cs := Window.cs
  es := 2
  sh := [.i .i64, .i .i64]
  len _ := rfl
  pos := by omega
  eq a b := by
    cases a; cases b
    simp

def markWindow (k i : Int) : Window := ⟨mark k i, 0⟩
def kit_markWindow.Spec (C : CSem) (N : Nat → Nat) : Prop := ∀ (k i : Int) (h : AHeap) (Q : AVal → AHeap → Prop), Q (.agg (markWindow k i).cs) h → C (N 18) [.int .i64 k, .int .i64 i] h Q
theorem kit_markWindow.spec (i : kit_markWindow.Imp C N) (s1 : kit_mark.Spec C N) : kit_markWindow.Spec C N := by
  intro k j h Q hq
  apply i
  simp +contextual -dsimp
  refine s1 _ _ _ _ ?_
  simp +contextual -dsimp
  exact dn_same hq

abbrev marksWindow : List (List AVal) := marks wF (markWindow 1) 12
def kit_SameWindows.Spec (C : CSem) (N : Nat → Nat) : Prop := ∀ (x y : AVal) (L M : List Window) (R S : List (List AVal)) (h : AHeap) (Q : AVal → AHeap → Prop), SlX h 2 x (L.map Window.cs) R → SlX h 2 y (M.map Window.cs) S → L.length < 4611686018427387904 →
  Q (.bool (decide (L = M))) h → C (N 12) [x, y] h Q
theorem kit_SameWindows.spec (i : kit_SameWindows.Imp C N) : kit_SameWindows.Spec C N := fun x y L M R S h Q hx hy hlen hq =>
  i x y h Q (sameG_spec wF hx hy hlen (dn_same hq))
def kit_LentWindows.Spec (C : CSem) (N : Nat → Nat) : Prop := ∀ (x : AVal) (L : List Window) (R : List (List AVal)) (h : AHeap) (Q : AVal → AHeap → Prop), SlX h 2 x (L.map Window.cs) R → L.length ≤ 100000000 →
  (∀ x' h', Owns h h' [.sl 2 x' (L.map Window.cs) marksWindow] → Q x' h') → C (N 9) [x] h Q
theorem kit_LentWindows.spec (i : kit_LentWindows.Imp C N) (s1 : kit_markWindow.Spec C N) : kit_LentWindows.Spec C N := fun x L R h Q hx hlen hq =>
  i x h Q (lentG_spec wF (z := [.int .i64 0, .int .i64 0]) (m := 1) (mk := markWindow 1) rfl (by omega) (s1 1) hx hlen fun x' h' ho => dn_same (hq x' h' ho))
def kit_KeptWindows.Spec (C : CSem) (N : Nat → Nat) : Prop := ∀ (x y : AVal) (L M : List Window) (R : List (List AVal)) (h : AHeap) (Q : AVal → AHeap → Prop), SlX h 2 x (L.map Window.cs) marksWindow → SlX h 2 y (M.map Window.cs) R → L.length ≤ 100000000 →
  Q (.bool (decide (L = M))) h → C (N 15) [x, y] h Q
theorem kit_KeptWindows.spec (i : kit_KeptWindows.Imp C N) (s1 : kit_markWindow.Spec C N) : kit_KeptWindows.Spec C N := fun x y L M R h Q hx hy hlen hq =>
  i x y h Q (keptG_spec wF (m := 1) (mk := markWindow 1) (s1 1) hx hy hlen (dn_same hq))

theorem awake_rows : rows [⟨3, 5⟩, ⟨5, 7⟩, ⟨1, 4⟩] = [⟨1, 7⟩] := by
  rw [rows_eq]
  unfold rrows
  rw [if_pos (by decide), ofTo_span (a := 1) (b := 7) 4001 fun d hd => ?_]
  · rfl
  · simp [cov]; omega
def law01_awake.Spec (C : CSem) (N : Nat → Nat) : Prop := ∀ (h : AHeap) (Q : AVal → AHeap → Prop), Q (.bool true) h → C (N 0) [] h Q
theorem law01_awake.spec (i : law01_awake.Imp C N) (s1 : window_Rows.Spec C N) (s2 : window_Meet.Spec C N) (s3 : window_Has.Spec C N) : law01_awake.Spec C N := by
  intro h Q hq
  apply i
  simp +contextual -dsimp
  intro id hid
  refine s1 _ [⟨3, 5⟩, ⟨5, 7⟩, ⟨1, 4⟩] [] _ _ (SlX.lit (upd_same ..) (by simp) rfl (by simp) (by simp)) (by simp) fun x h1 ho => ?_
  rw [awake_rows] at ho
  have hx := ho.slAt 0 rfl
  have hl := hx.lenSl
  simp +contextual -dsimp
  refine s2 _ _ _ _ _ _ ?_
  rw [show meet ⟨3, 6⟩ ⟨5, 9⟩ = (⟨5, 6⟩, true) by decide]
  simp +contextual -dsimp [hl, hx.idx (k := .i64) (n := 0) (by omega) (by simp), hx.elem (i := 0) (c := Window.cs ⟨1, 7⟩) (by simp), V.binAgg]
  refine s3 _ _ _ _ _ ?_
  rw [show Window.has ⟨5, 6⟩ 5 = true by decide]
  simp +contextual -dsimp
  refine s3 _ _ _ _ _ ?_
  rw [show Window.has ⟨5, 6⟩ 6 = false by decide]
  simp +contextual -dsimp
  exact dn_le (AHeap.le_trans (le_upd _ hid) ho.le) hq

/-- A law that answers true. -/
def law01_WindowRows.Spec (C : CSem) (N : Nat → Nat) : Prop := ∀ (x : AVal) (L : List Window) (R : List (List AVal)) (h : AHeap) (Q : AVal → AHeap → Prop), SlX h 2 x (L.map Window.cs) R → L.length < 4611686018427387904 → Q (.bool true) h → C (N 23) [x] h Q
theorem law01_WindowRows.spec (i : law01_WindowRows.Imp C N) (s0 : law01_awake.Spec C N) (s1 : kit_LentWindows.Spec C N) (s2 : window_Rows.Spec C N) (s3 : ref01_Rows.Spec C N) (s4 : kit_SameWindows.Spec C N) (s5 : window_Count.Spec C N) (s6 : ref01_Count.Spec C N) (s7 : kit_KeptWindows.Spec C N) : law01_WindowRows.Spec C N := by
  intro x L R h Q hx hlen hq
  apply i
  have hlx := hx.lenSl
  rw [List.length_map] at hlx
  simp +contextual -dsimp
  refine s0 _ _ ?_
  simp +contextual -dsimp [hlx]
  refine B.cond_bool (fun hb => ?_) (fun hb => ?_) <;> simp +contextual -dsimp at hb ⊢
  · exact dn_same hq
  · refine s1 x L R _ _ hx (by omega) fun y h1 ho => ?_
    refine s2 y L _ _ _ (ho.slAt 0 rfl) hlen fun u h2 ho2 => ?_
    refine s3 x L R _ _ (hx.mono (AHeap.le_trans ho.le ho2.le)) hlen fun v h3 ho3 => ?_
    have hrl := rows_len L
    refine s4 u v _ _ _ _ _ _ ((ho2.slAt 0 rfl).mono ho3.le) (ho3.slAt 0 rfl) (by omega) ?_
    rw [← rows_eq L]
    have hle : h.le h3 := AHeap.le_trans ho.le (AHeap.le_trans ho2.le ho3.le)
    have hy := (ho.slAt 0 rfl).mono (AHeap.le_trans ho2.le ho3.le)
    simp +contextual -dsimp
    refine s5 y L _ _ _ hy hlen ?_
    simp +contextual -dsimp
    refine s6 x L R _ _ (hx.mono hle) hlen ?_
    rw [show rcount L = count L by unfold rcount count; rw [rows_eq]]
    simp +contextual -dsimp
    refine s7 y x L L R _ _ hy (hx.mono hle) (by omega) ?_
    simp +contextual -dsimp
    exact dn_le hle hq

def law01_WindowTells.Spec (C : CSem) (N : Nat → Nat) : Prop := ∀ (a b c d day : Int) (h : AHeap) (Q : AVal → AHeap → Prop), Q (.bool true) h → C (N 21) [.agg [.int .i64 a, .int .i64 b], .agg [.int .i64 c, .int .i64 d], .int .i64 day] h Q
theorem law01_WindowTells.spec (i : law01_WindowTells.Imp C N) (s0 : law01_awake.Spec C N) (s1 : window_Meet.Spec C N) (s2 : ref01_Meet.Spec C N) (s3 : window_From.Spec C N) (s4 : ref01_From.Spec C N) (s5 : window_Right.Spec C N) (s6 : ref01_Right.Spec C N) (s7 : window_Has.Spec C N) (s8 : ref01_Has.Spec C N) : law01_WindowTells.Spec C N := by
  intro a b c d day h Q hq
  apply i
  try simp +contextual -dsimp
  refine s0 _ _ ?_
  try simp +contextual -dsimp
  refine s1 _ _ _ _ _ _ ?_
  try simp +contextual -dsimp
  refine s2 _ _ _ _ _ _ ?_
  rw [meet_eq]
  try simp +contextual -dsimp
  refine s3 _ _ _ _ _ ?_
  try simp +contextual -dsimp
  refine s4 _ _ _ _ _ ?_
  rw [from_eq]
  try simp +contextual -dsimp
  refine s5 _ _ _ _ ?_
  try simp +contextual -dsimp
  refine s6 _ _ _ _ ?_
  try simp +contextual -dsimp
  refine s7 _ _ _ _ _ ?_
  try simp +contextual -dsimp
  refine s8 _ _ _ _ _ ?_
  simp +contextual -dsimp [V.binAgg]
  exact dn_same hq
end Go.Ab
