/- What is proved: the program's windows are the document's, in plain words. No conditions. -/
import Derived.Test.YtjhldpbpopjkiaaC01e
set_option linter.unusedVariables false
set_option linter.unusedSimpArgs false
namespace Go.Ab

theorem opn_cov (L : List Window) (hL : ∀ w ∈ L, w.right = true) (d : Nat) : 0 < opn L (d + 1) ↔ cov L d = true := by
  rw [opn_eq L hL]
  have key : (L.countP fun w => decide (w.From < ((d + 1 : Nat) : Int))) = (L.countP fun w => decide (w.Until < ((d + 1 : Nat) : Int))) + L.countP fun w => decide (w.From ≤ (d : Int)) && decide ((d : Int) < w.Until) := by
    induction L with
    | nil => rfl
    | cons w r ih =>
      have ih := ih fun w hw => hL w (by simp [hw])
      have hw := hL w (by simp)
      simp only [Window.right, Bool.and_eq_true, decide_eq_true_eq] at hw
      simp only [List.countP_cons, Bool.and_eq_true, decide_eq_true_eq]
      rw [ih]
      split <;> split <;> split <;> omega
  have h2 : cov L d = true ↔ 0 < L.countP fun w => decide (w.From ≤ (d : Int)) && decide ((d : Int) < w.Until) := by
    rw [List.countP_pos_iff]; simp [cov, List.any_eq_true]
  rw [h2]
  omega

/-- How the two ways of telling rows stand to each other. -/
theorem rows_of (L : List Window) (hL : ∀ w ∈ L, w.right = true) : ∀ d, (0 < opn L d → ∃ S w, ofTo (cov L) d = S ++ [w] ∧ w.Until = (d : Int) ∧ rowsTo L d = S ++ [⟨w.From, 0⟩]) ∧
    (opn L d = 0 → rowsTo L d = ofTo (cov L) d ∧ ∀ w ∈ (ofTo (cov L) d).getLast?, w.Until < (d : Int))
  | 0 => ⟨fun h => by simp [opn] at h, fun _ => ⟨rfl, by simp [ofTo]⟩⟩
  | d + 1 => by
    obtain ⟨i1, i2⟩ := rows_of L hL d
    have p0 := opn_le L hL d
    have p1 := opn_le L hL (d + 1)
    have hc := opn_cov L hL d
    by_cases h0 : opn L d = 0
    · obtain ⟨e, hl⟩ := i2 h0
      by_cases h1 : 0 < opn L (d + 1)
      · refine ⟨fun _ => ⟨ofTo (cov L) d, ⟨d, d + 1⟩, ?_, by simp, ?_⟩, fun h => by omega⟩
        · simp only [ofTo, ofStep, hc.1 h1, if_true]
          rw [if_neg]
          rintro ⟨hne, hlast⟩
          rw [List.getLast?_eq_some_getLast hne] at hlast hl
          have := hl _ rfl
          simp at hlast
          omega
        · simp only [rowsTo, rowStep]
          rw [if_pos ⟨h0, h1⟩, e]
      · refine ⟨fun h => absurd h h1, fun _ => ?_⟩
        have hf : cov L d = false := by rw [← Bool.not_eq_true]; exact fun hh => h1 (hc.2 hh)
        have e1 : ofTo (cov L) (d + 1) = ofTo (cov L) d := by simp [ofTo, ofStep, hf]
        have e2 : rowsTo L (d + 1) = rowsTo L d := by simp only [rowsTo, rowStep]; rw [if_neg (by omega), if_neg (by omega)]
        rw [e1, e2]
        exact ⟨e, fun w hw => by have := hl w hw; omega⟩
    · obtain ⟨S, w, e1, e2, e3⟩ := i1 (by omega)
      by_cases h1 : 0 < opn L (d + 1)
      · refine ⟨fun _ => ⟨S, ⟨w.From, d + 1⟩, ?_, by simp, ?_⟩, fun h => by omega⟩
        · simp only [ofTo, ofStep, hc.1 h1, if_true]
          rw [e1, if_pos ⟨by simp, by simp [e2]⟩]
          simp
        · simp only [rowsTo, rowStep]
          rw [if_neg (by omega), if_neg (by omega), e3]
      · refine ⟨fun h => absurd h h1, fun _ => ?_⟩
        have hf : cov L d = false := by rw [← Bool.not_eq_true]; exact fun hh => h1 (hc.2 hh)
        have e4 : ofTo (cov L) (d + 1) = ofTo (cov L) d := by simp [ofTo, ofStep, hf]
        have e5 : rowsTo L (d + 1) = S ++ [w] := by
          simp only [rowsTo, rowStep]
          rw [if_neg (by omega), if_pos (by omega), e3]
          simp [← e2]
        rw [e4, e5, e1]
        exact ⟨rfl, fun z hz => by simp at hz; subst hz; omega⟩

theorem rows_eq (L : List Window) : rows L = rrows L := by
  unfold rows rrows
  split
  · rename_i ha
    have hL := List.all_eq_true.1 ha
    have hf : cov L 4001 = false := by
      rw [← Bool.not_eq_true]
      intro h
      obtain ⟨w, hw, h2⟩ := List.any_eq_true.1 h
      have := hL w hw
      simp [Window.right] at this h2
      omega
    have h0 : opn L 4002 = 0 := by
      have h1 := opn_le L hL 4002
      have h2 := opn_cov L hL 4001
      rw [hf] at h2
      have : ¬ 0 < opn L (4001 + 1) := fun h => by have := h2.1 h; cases this
      have : ¬ 0 < opn L 4002 := this
      omega
    rw [((rows_of L hL 4002).2 h0).1]
    show ofStep (cov L) (ofTo (cov L) 4001) 4001 = _
    simp [ofStep, hf]
  · rfl

theorem ofTo_span {p : Nat → Bool} {a b : Nat} : ∀ n, (∀ d, d < n → (p d = true ↔ a ≤ d ∧ d < b)) → ofTo p n = if a < min b n then [⟨a, (min b n : Nat)⟩] else []
  | 0, _ => by simp [ofTo]
  | n + 1, h => by
    have ih := ofTo_span n fun d hd => h d (by omega)
    have hn := h n (by omega)
    simp only [ofTo, ofStep, ih]
    by_cases hp : p n = true
    · have h1 := hn.1 hp
      rw [if_pos hp]
      have e' : min b (n + 1) = n + 1 := by omega
      by_cases h2 : a < n
      · have e : min b n = n := by omega
        have c1 : a < n + 1 := by omega
        simp [e, e', h2, c1]
      · have c2 : ¬ a < min b n := by omega
        have c1 : a < n + 1 := by omega
        have e : a = n := by omega
        rw [if_neg c2, e', if_pos c1]
        simp [e]
    · have h1 : ¬ (a ≤ n ∧ n < b) := fun hh => hp (hn.2 hh)
      rw [if_neg hp]
      by_cases h2 : a < min b n
      · rw [if_pos h2, if_pos (by omega)]
        congr 2; omega
      · rw [if_neg h2, if_neg (by omega)]
theorem oneW_span {p : Nat → Bool} {a b : Int} (ha : 0 ≤ a) (hb : b ≤ 4001) (h : ∀ d : Nat, d < 4001 → (p d = true ↔ a ≤ d ∧ (d : Int) < b)) : oneW p = within a b := by
  have := ofTo_span (p := p) (a := a.toNat) (b := b.toNat) 4001 fun d hd => by rw [h d hd]; omega
  unfold oneW within
  rw [this]
  by_cases hab : b ≤ a
  · have c : ¬ a.toNat < min b.toNat 4001 := by omega
    rw [if_neg c, if_pos hab]; rfl
  · have c : a.toNat < min b.toNat 4001 := by omega
    have e : min b.toNat 4001 = b.toNat := by omega
    rw [if_pos c, if_neg hab, e]
    have e1 : ((a.toNat : Nat) : Int) = a := by omega
    have e2 : ((b.toNat : Nat) : Int) = b := by omega
    rw [e1, e2]; rfl
theorem oneW_none {p : Nat → Bool} (h : ∀ d : Nat, p d = false) : oneW p = (.zero, false) := by
  have : ∀ n, ofTo p n = [] := fun n => by
    induction n with
    | zero => rfl
    | succ n ih => simp [ofTo, ofStep, h, ih]
  unfold oneW
  rw [this]; rfl
theorem meet_eq (a b : Window) : (oneW fun j => inAll [a, b] j) = meet a b := by
  unfold meet
  by_cases h : a.right && b.right
  · rw [if_pos h]
    simp only [Bool.and_eq_true] at h
    have h1 := h.1
    have h2 := h.2
    simp only [Window.right, Bool.and_eq_true, decide_eq_true_eq] at h1 h2
    refine oneW_span (by omega) (by omega) fun d hd => ?_
    simp only [inAll, Window.has, h.1, h.2, List.all_cons, List.all_nil, Bool.and_true, Bool.true_and, Bool.and_eq_true, decide_eq_true_eq]
    omega
  · rw [if_neg h]
    refine oneW_none fun d => ?_
    simp only [inAll, Window.has, List.all_cons, List.all_nil, Bool.and_true]
    cases ha : a.right <;> cases hb : b.right <;> simp_all
theorem from_eq (a : Window) (day : Int) : (oneW fun j => decide (day ≤ j) && inAll [a] j) = winFrom a day := by
  unfold winFrom
  by_cases h : a.right
  · rw [if_pos h]
    have h1 := h
    simp only [Window.right, Bool.and_eq_true, decide_eq_true_eq] at h1
    refine oneW_span (by omega) (by omega) fun d hd => ?_
    simp only [inAll, Window.has, h, List.all_cons, List.all_nil, Bool.and_true, Bool.true_and, Bool.and_eq_true, decide_eq_true_eq]
    omega
  · rw [if_neg h]
    refine oneW_none fun d => ?_
    simp only [inAll, Window.has, List.all_cons, List.all_nil, Bool.and_true]
    cases ha : a.right <;> simp_all
end Go.Ab
