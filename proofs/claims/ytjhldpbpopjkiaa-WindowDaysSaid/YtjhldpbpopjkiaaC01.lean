/- What is proved: contracts of windows' functions. No conditions. -/
import Derived.Test.YtjhldpbpopjkiaaAcK
import Derived.Test.YtjhldpbpopjkiaaR01
set_option linter.unusedVariables false
namespace Go.Ab
variable {C : CSem} {N : Nat → Nat}

structure Window where
  From : Int
  Until : Int
  deriving DecidableEq
@[simp] def Window.cs (w : Window) : List AVal := [.int .i64 w.From, .int .i64 w.Until]
@[simp] theorem Window.eta (w : Window) : Window.mk w.From w.Until = w := rfl
def Window.right (w : Window) : Bool := decide (0 ≤ w.From) && decide (w.From ≤ w.Until) && decide (w.Until ≤ 4001)

def window_Right.Spec (C : CSem) (N : Nat → Nat) : Prop := ∀ (a b : Int) (h : AHeap) (Q : AVal → AHeap → Prop), Q (.bool (Window.right ⟨a, b⟩)) h → C (N 5) [.agg [.int .i64 a, .int .i64 b]] h Q
theorem window_Right.spec (i : window_Right.Imp C N) : window_Right.Spec C N := by
  intro a b h Q hq
  apply i
  simp +contextual -dsimp
  exact dn_same hq

def Window.zero : Window := ⟨0, 0⟩
def within (a b : Int) : Window × Bool := if b ≤ a then (.zero, false) else (⟨a, b⟩, true)
/-- A window and whether there is one. -/
@[simp] def wb (x : Window × Bool) : AVal := .tup [.agg x.1.cs, .bool x.2]
def window_within.Spec (C : CSem) (N : Nat → Nat) : Prop := ∀ (a b : Int) (h : AHeap) (Q : AVal → AHeap → Prop), Q (wb (within a b)) h → C (N 16) [.int .i64 a, .int .i64 b] h Q
theorem window_within.spec (i : window_within.Imp C N) : window_within.Spec C N := by
  intro a b h Q hq
  apply i
  simp +contextual -dsimp
  refine B.cond_bool (fun hb => ?_) (fun hb => ?_) <;> simp at hb ⊢
  · rw [show within a b = (.zero, false) by simp [within, hb]] at hq
    exact dn_same hq
  · rw [show within a b = (⟨a, b⟩, true) by simp [within]; omega] at hq
    exact dn_same hq

def meet (a b : Window) : Window × Bool := if a.right && b.right then within (max a.From b.From) (min a.Until b.Until) else (.zero, false)
def window_Meet.Spec (C : CSem) (N : Nat → Nat) : Prop := ∀ (a b c d : Int) (h : AHeap) (Q : AVal → AHeap → Prop), Q (wb (meet ⟨a, b⟩ ⟨c, d⟩)) h → C (N 1) [.agg [.int .i64 a, .int .i64 b], .agg [.int .i64 c, .int .i64 d]] h Q
theorem window_Meet.spec (i : window_Meet.Imp C N) (s1 : window_Right.Spec C N) (s2 : window_within.Spec C N) : window_Meet.Spec C N := by
  intro a b c d h Q hq
  apply i
  simp +contextual -dsimp
  refine s1 _ _ _ _ ?_
  simp +contextual -dsimp
  refine B.gdb_call (fun _ _ hq => s1 _ _ _ _ hq) ?_
  simp +contextual -dsimp
  refine B.cond_bool (fun hb => ?_) (fun hb => ?_) <;> simp at hb ⊢
  · rw [show meet ⟨a, b⟩ ⟨c, d⟩ = (.zero, false) by simp [meet, Bool.and_eq_true]; intro h1 h2; rcases hb with hb | hb <;> simp_all] at hq
    exact dn_same hq
  · refine s2 _ _ _ _ ?_
    simp
    rw [show meet ⟨a, b⟩ ⟨c, d⟩ = within (max a c) (min b d) by simp [meet, hb]] at hq
    exact dn_same hq
end Go.Ab
