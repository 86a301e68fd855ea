/- What is proved: what rows of days are, in plain words. No conditions. -/
import Derived.Test.YtjhldpbpopjkiaaP01
set_option linter.unusedVariables false
set_option linter.unusedSimpArgs false
namespace Go.Ab

def inW (w : Window) (d : Nat) : Bool := decide (w.From ≤ d) && decide ((d : Int) < w.Until)
theorem cov_any (L : List Window) (d : Nat) : cov L d = L.any fun w => inW w d := rfl

structure OfOk (p : Nat → Bool) (n : Nat) (S : List Window) : Prop where
  ends : ∀ w ∈ S, 0 ≤ w.From ∧ w.From < w.Until ∧ w.Until ≤ n
  apart : S.Pairwise fun a b => a.Until < b.From
  cov : ∀ d, cov S d = true ↔ d < n ∧ p d = true
  sum : (S.map Window.days).sum = ((List.range n).countP p : Nat)

theorem ofOk (p : Nat → Bool) : ∀ n, OfOk p n (ofTo p n)
  | 0 => ⟨fun _ h => (by cases h), .nil, fun d => by simp [ofTo, Go.Ab.cov], by simp [ofTo]⟩
  | n + 1 => by
    have ih := ofOk p n
    have hc : (List.range (n + 1)).countP p = (List.range n).countP p + if p n then 1 else 0 := by
      rw [List.range_succ, List.countP_append]; simp [List.countP_cons]
    cases hp : p n with
    | false =>
      have e : ofTo p (n + 1) = ofTo p n := by simp [ofTo, ofStep, hp]
      rw [e]
      refine ⟨fun w hw => by have := ih.ends w hw; omega, ih.apart, fun d => ?_, ?_⟩
      · rw [ih.cov]
        constructor
        · rintro ⟨h1, h2⟩; exact ⟨by omega, h2⟩
        · rintro ⟨h1, h2⟩
          refine ⟨?_, h2⟩
          by_cases e : d = n
          · subst e; rw [hp] at h2; cases h2
          · omega
      · rw [ih.sum, hc, hp]; simp
    | true =>
      rw [hp] at hc
      simp only [if_true] at hc
      by_cases hl : ofTo p n ≠ [] ∧ ((ofTo p n).getLast?.getD .zero).Until = n
      · obtain ⟨S, w, e⟩ : ∃ S w, ofTo p n = S ++ [w] := by
          rcases List.eq_nil_or_concat (ofTo p n) with h | ⟨a, z, h⟩
          · exact absurd h hl.1
          · exact ⟨a, z, by simpa using h⟩
        have hw : w.Until = n := by have := hl.2; rw [e] at this; simpa using this
        have e2 : ofTo p (n + 1) = S ++ [⟨w.From, n + 1⟩] := by
          simp only [ofTo, ofStep, hp, if_true]
          rw [if_pos hl, e]; simp
        rw [e2]
        rw [e] at ih
        have h1 := ih.ends w (by simp)
        refine ⟨fun x hx => ?_, ?_, fun d => ?_, ?_⟩
        · rcases List.mem_append.1 hx with hx | hx
          · have := ih.ends x (by simp [hx]); omega
          · rw [List.mem_singleton.1 hx]; simp only; omega
        · have := List.pairwise_append.1 ih.apart
          exact List.pairwise_append.2 ⟨this.1, List.pairwise_singleton _ _, fun a ha b hb => by rw [List.mem_singleton.1 hb]; exact this.2.2 a ha w (by simp)⟩
        · have hcv := ih.cov d
          simp only [Go.Ab.cov, List.any_append, List.any_cons, List.any_nil, Bool.or_false, Bool.or_eq_true, Bool.and_eq_true, decide_eq_true_eq] at hcv ⊢
          constructor
          · rintro (h | h)
            · have := hcv.1 (.inl h); exact ⟨by omega, this.2⟩
            · by_cases e : d = n
              · subst e; exact ⟨by omega, hp⟩
              · have := hcv.1 (.inr ⟨h.1, by omega⟩); exact ⟨by omega, this.2⟩
          · rintro ⟨h1, h2⟩
            by_cases e : d = n
            · subst e; exact .inr ⟨by omega, by omega⟩
            · rcases hcv.2 ⟨by omega, h2⟩ with h | h
              · exact .inl h
              · exact .inr ⟨h.1, by omega⟩
        · have hs := ih.sum
          simp only [List.map_append, List.map_cons, List.map_nil, List.sum_append, List.sum_cons, List.sum_nil, Window.days] at hs ⊢
          rw [hc]; omega
      · have e2 : ofTo p (n + 1) = ofTo p n ++ [⟨n, n + 1⟩] := by
          simp only [ofTo, ofStep, hp, if_true]
          rw [if_neg hl]
        rw [e2]
        have hlast : ∀ x ∈ ofTo p n, x.Until < n := fun x hx => by
          have h1 := ih.ends x hx
          rcases List.eq_nil_or_concat (ofTo p n) with h | ⟨a, z, h⟩
          · rw [h] at hx; cases hx
          · rw [List.concat_eq_append] at h
            have hz : z.Until ≠ n := fun hz => hl ⟨by rw [h]; simp, by rw [h]; simpa using hz⟩
            have hz2 := ih.ends z (by rw [h]; simp)
            rw [h] at hx
            rcases List.mem_append.1 hx with hx | hx
            · have := (List.pairwise_append.1 (h ▸ ih.apart)).2.2 x hx z (by simp)
              omega
            · rw [List.mem_singleton.1 hx]; omega
        refine ⟨fun x hx => ?_, ?_, fun d => ?_, ?_⟩
        · rcases List.mem_append.1 hx with hx | hx
          · have := ih.ends x hx; omega
          · rw [List.mem_singleton.1 hx]; simp only; omega
        · exact List.pairwise_append.2 ⟨ih.apart, List.pairwise_singleton _ _, fun a ha b hb => by rw [List.mem_singleton.1 hb]; exact hlast a ha⟩
        · have hcv := ih.cov d
          simp only [Go.Ab.cov, List.any_append, List.any_cons, List.any_nil, Bool.or_false, Bool.or_eq_true, Bool.and_eq_true, decide_eq_true_eq] at hcv ⊢
          constructor
          · rintro (h | h)
            · have := hcv.1 h; exact ⟨by omega, this.2⟩
            · have : d = n := by omega
              subst this; exact ⟨by omega, hp⟩
          · rintro ⟨h1, h2⟩
            by_cases e : d = n
            · subst e; exact .inr ⟨by omega, by omega⟩
            · exact .inl (hcv.2 ⟨by omega, h2⟩)
        · have hs := ih.sum
          simp only [List.map_append, List.map_cons, List.map_nil, List.sum_append, List.sum_cons, List.sum_nil, Window.days] at hs ⊢
          rw [hc]; omega

theorem rows_ok {L : List Window} (hL : ∀ w ∈ L, w.right = true) : rows L = ofTo (cov L) 4001 := by
  rw [rows_eq]; unfold rrows; rw [if_pos (List.all_eq_true.2 hL)]
theorem rows_rows {L : List Window} (hL : ∀ w ∈ L, w.right = true) : rows (rows L) = rows L := by
  have ok := ofOk (cov L) 4001
  rw [rows_ok hL]
  rw [rows_ok fun w hw => by have := ok.ends w hw; simp [Window.right]; omega]
  refine ofTo_congr fun d hd => ?_
  rw [Bool.eq_iff_iff, ok.cov]
  exact ⟨fun h => h.2, fun h => ⟨hd, h⟩⟩
theorem right_spec {w : Window} (h : w.right = true) : 0 ≤ w.From ∧ w.From ≤ w.Until ∧ w.Until ≤ 4001 := by simpa [Window.right, and_assoc] using h
theorem cov_has {L : List Window} (hL : ∀ w ∈ L, w.right = true) (day : Int) : (L.any fun w => w.has day) = (decide (0 ≤ day) && cov L day.toNat) := by
  rw [Bool.eq_iff_iff]
  simp only [List.any_eq_true, Bool.and_eq_true, decide_eq_true_eq, cov, Window.has]
  constructor
  · rintro ⟨w, hw, ⟨h1, h2⟩, h3⟩
    have := (right_spec (hL w hw))
    exact ⟨by omega, w, hw, by omega, by omega⟩
  · rintro ⟨h0, w, hw, h1, h2⟩
    exact ⟨w, hw, ⟨hL w hw, by omega⟩, by omega⟩
theorem count_or {p q : Nat → Bool} : ∀ n, (((List.range n).countP fun d => p d || q d : Nat) : Int) = ((List.range n).countP p : Nat) + ((List.range n).countP q : Nat) - ((List.range n).countP fun d => p d && q d : Nat)
  | 0 => by simp
  | n + 1 => by
    have ih := count_or (p := p) (q := q) n
    simp only [List.range_succ, List.countP_append, List.countP_cons, List.countP_nil]
    cases p n <;> cases q n <;> simp <;> omega
end Go.Ab
