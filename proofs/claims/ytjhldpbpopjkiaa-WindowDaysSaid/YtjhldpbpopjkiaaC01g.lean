/- What is proved: the statements about windows outright. No conditions. -/
import Derived.Test.YtjhldpbpopjkiaaC01f
set_option linter.unusedVariables false
set_option linter.unusedSimpArgs false
set_option maxRecDepth 100000
namespace Go.Ab
variable {C : CSem} {N : Nat → Nat}

theorem within_right {a b : Int} (ha : 0 ≤ a) (hb : b ≤ 4001) : (within a b).1.right = true := by
  unfold within; split
  · rfl
  · simp [Window.right]; omega
theorem meet_comm (a b : Window) : meet a b = meet b a := by
  unfold meet
  rw [Bool.and_comm, Int.max_comm, Int.min_comm]
theorem zero_right : Window.zero.right = true := by decide
theorem meet_spec (a b : Window) : (∃ f u, meet a b = (⟨f, u⟩, true) ∧ f < u ∧ f = max a.From b.From ∧ u = min a.Until b.Until ∧ a.right = true ∧ b.right = true) ∨
    (meet a b = (.zero, false) ∧ (a.right = true → b.right = true → min a.Until b.Until ≤ max a.From b.From)) := by
  unfold meet
  by_cases h : (a.right && b.right) = true
  · rw [if_pos h]
    simp only [Bool.and_eq_true] at h
    unfold within
    by_cases h2 : min a.Until b.Until ≤ max a.From b.From
    · rw [if_pos h2]; exact .inr ⟨rfl, fun _ _ => h2⟩
    · rw [if_neg h2]; exact .inl ⟨_, _, rfl, by omega, rfl, rfl, h.1, h.2⟩
  · rw [if_neg h]
    exact .inr ⟨rfl, fun h1 h2 => by rw [h1, h2] at h; exact absurd rfl h⟩
theorem right_iff (w : Window) : w.right = true ↔ 0 ≤ w.From ∧ w.From ≤ w.Until ∧ w.Until ≤ 4001 := by
  simp [Window.right, and_assoc]
theorem meet_assoc (a b c : Window) : (((meet a b).2 && (meet (meet a b).1 c).2) = ((meet b c).2 && (meet a (meet b c).1).2)) ∧
    (((meet a b).2 && (meet (meet a b).1 c).2) = true → (meet (meet a b).1 c).1 = (meet a (meet b c).1).1) := by
  have z := zero_right
  rcases meet_spec a b with ⟨f, u, e1, k1, k2, k3, k4, k5⟩ | ⟨e1, k1⟩ <;> rcases meet_spec b c with ⟨f2, u2, e2, m1, m2, m3, m4, m5⟩ | ⟨e2, m1⟩ <;> rw [e1, e2] <;> simp only
  · rcases meet_spec ⟨f, u⟩ c with ⟨f3, u3, e3, n1, n2, n3, n4, n5⟩ | ⟨e3, n1⟩ <;> rcases meet_spec a ⟨f2, u2⟩ with ⟨f4, u4, e4, p1, p2, p3, p4, p5⟩ | ⟨e4, p1⟩ <;> rw [e3, e4] <;> simp only [right_iff] at * <;> simp <;> omega
  · rcases meet_spec ⟨f, u⟩ c with ⟨f3, u3, e3, n1, n2, n3, n4, n5⟩ | ⟨e3, n1⟩ <;> rw [e3] <;> simp only [right_iff] at * <;> simp <;> omega
  · rcases meet_spec a ⟨f2, u2⟩ with ⟨f4, u4, e4, p1, p2, p3, p4, p5⟩ | ⟨e4, p1⟩ <;> rw [e4] <;> simp only [right_iff] at * <;> simp <;> omega
  · simp
theorem from_spec (a : Window) (x : Int) : (∃ f u, winFrom a x = (⟨f, u⟩, true) ∧ f < u ∧ f = max a.From x ∧ u = a.Until ∧ a.right = true) ∨
    (winFrom a x = (.zero, false) ∧ (a.right = true → a.Until ≤ max a.From x)) := by
  unfold winFrom
  by_cases h : a.right = true
  · rw [if_pos h]
    unfold within
    by_cases h2 : a.Until ≤ max a.From x
    · rw [if_pos h2]; exact .inr ⟨rfl, fun _ => h2⟩
    · rw [if_neg h2]; exact .inl ⟨_, _, rfl, by omega, rfl, rfl, h⟩
  · rw [if_neg h]
    exact .inr ⟨rfl, fun h1 => absurd h1 h⟩
theorem from_from (a : Window) (x y : Int) : (((winFrom a x).2 && (winFrom (winFrom a x).1 y).2) = (winFrom a (max x y)).2) ∧
    ((winFrom a (max x y)).2 = true → (winFrom (winFrom a x).1 y).1 = (winFrom a (max x y)).1) := by
  rcases from_spec a x with ⟨f, u, e1, k1, k2, k3, k4⟩ | ⟨e1, k1⟩ <;> rcases from_spec a (max x y) with ⟨f2, u2, e2, m1, m2, m3, m4⟩ | ⟨e2, m1⟩ <;> rw [e1, e2] <;> simp only
  · rcases from_spec ⟨f, u⟩ y with ⟨f3, u3, e3, n1, n2, n3, n4⟩ | ⟨e3, n1⟩ <;> rw [e3] <;> simp only [right_iff] at * <;> simp <;> omega
  · rcases from_spec ⟨f, u⟩ y with ⟨f3, u3, e3, n1, n2, n3, n4⟩ | ⟨e3, n1⟩ <;> rw [e3] <;> simp only [right_iff] at * <;> simp <;> omega
  · simp only [right_iff] at *
    simp; omega
  · simp

def law01_WindowMeets.Spec (C : CSem) (N : Nat → Nat) : Prop := ∀ (a b c d e f x y : Int) (h : AHeap) (Q : AVal → AHeap → Prop), Q (.bool true) h → C (N 22) [.agg [.int .i64 a, .int .i64 b], .agg [.int .i64 c, .int .i64 d], .agg [.int .i64 e, .int .i64 f], .int .i64 x, .int .i64 y] h Q
theorem law01_WindowMeets.spec (i : law01_WindowMeets.Imp C N) (s0 : law01_awake.Spec C N) (s1 : window_Meet.Spec C N) (s2 : window_From.Spec C N) : law01_WindowMeets.Spec C N := by
  intro a b c d e f x y h Q hq
  have c1 := meet_comm ⟨c, d⟩ ⟨a, b⟩
  have c2 := meet_assoc ⟨a, b⟩ ⟨c, d⟩ ⟨e, f⟩
  have c3 := from_from ⟨a, b⟩ x y
  apply i
  simp +contextual -dsimp
  refine s0 _ _ ?_
  try simp +contextual -dsimp
  refine s1 _ _ _ _ _ _ ?_
  try simp +contextual -dsimp
  refine s1 _ _ _ _ _ _ ?_
  rw [c1]
  generalize hp : meet ⟨a, b⟩ ⟨c, d⟩ = p at c2 ⊢
  obtain ⟨⟨p1, p2⟩, pk⟩ := p
  try simp +contextual -dsimp
  refine s1 _ _ _ _ _ _ ?_
  generalize hr : meet ⟨p1, p2⟩ ⟨e, f⟩ = r at c2 ⊢
  obtain ⟨⟨r1, r2⟩, rk⟩ := r
  try simp +contextual -dsimp
  refine s1 _ _ _ _ _ _ ?_
  generalize hs : meet ⟨c, d⟩ ⟨e, f⟩ = s at c2 ⊢
  obtain ⟨⟨t1, t2⟩, sk⟩ := s
  try simp +contextual -dsimp
  refine s1 _ _ _ _ _ _ ?_
  generalize ht : meet ⟨a, b⟩ ⟨t1, t2⟩ = t at c2 ⊢
  obtain ⟨⟨u1, u2⟩, tk⟩ := t
  try simp +contextual -dsimp [V.binAgg]
  refine B.cond_bool (fun hb => ?_) (fun hb => ?_)
  · exfalso
    simp at c2
    cases pk <;> cases rk <;> cases sk <;> cases tk <;> simp_all
  · try simp +contextual -dsimp
    refine s2 _ _ _ _ _ ?_
    generalize hf : winFrom ⟨a, b⟩ x = p at c3 ⊢
    obtain ⟨⟨f1, f2⟩, fk⟩ := p
    try simp +contextual -dsimp
    refine s2 _ _ _ _ _ ?_
    generalize hg : winFrom ⟨f1, f2⟩ y = g at c3 ⊢
    obtain ⟨⟨g1, g2⟩, gk⟩ := g
    try simp +contextual -dsimp
    refine s2 _ _ _ _ _ ?_
    generalize ho : winFrom ⟨a, b⟩ (max x y) = o at c3 ⊢
    obtain ⟨⟨o1, o2⟩, ok⟩ := o
    try simp +contextual -dsimp [V.binAgg]
    simp at c3
    cases fk <;> cases gk <;> cases ok <;> simp at c3 <;> simp +contextual -dsimp [V.binAgg, c3] <;> exact dn_same hq
end Go.Ab
