/- What is proved: arguments that are lists of plain values, read in the abstract memory. No conditions. -/
import Derived.Test.YtjhldpbpopjkiaaAcK
import Derived.Test.YtjhldpbpopjkiaaAbY
set_option linter.unusedVariables false
namespace Go.Ab
theorem arg_slice {T : Type} {H : AHeap} {bytes es : Nat} {e : Ty} {v : AVal} (cs : T → List AVal) (hd : ∀ p, AbsOk H e p → ∃ t, p = cs t) (h : AbsOk H (.sl bytes es e) [v]) :
    ∃ L : List T, SlIs H es v (L.map cs) ∧ L.length * bytes ≤ reach := by
  rcases h with h | h | ⟨id, parts, h1, h2, h3, h4⟩
  · cases h; exact ⟨[], SlX.nils H es, by simp⟩
  · cases h; exact ⟨[], SlX.sz H es, by simp⟩
  · cases h1
    have : ∃ L : List T, parts = L.map cs := by
      clear h2 h3
      induction parts with
      | nil => exact ⟨[], rfl⟩
      | cons p r ih =>
        obtain ⟨L, rfl⟩ := ih fun q hq => h4 q (by simp [hq])
        obtain ⟨t, rfl⟩ := hd p (h4 p (by simp)).1
        exact ⟨t :: L, rfl⟩
    obtain ⟨L, rfl⟩ := this
    have hl : ∀ p ∈ L.map cs ++ [], p.length = es := fun p hp => (h4 p (by simpa using hp)).2
    have hfl : (L.map cs).flatten.length = L.length * es := by
      have := flat_len (css := L.map cs) (n := es) fun p hp => (h4 p hp).2
      simpa using this
    refine ⟨L, ⟨hl, .inr ⟨id, 0, 0, (L.map cs).length, roOf (L.map cs).flatten, (L.map cs).flatten.length, rfl, by simp, h2, lookup_self .., ?_, Nat.le_refl _, ?_⟩⟩, by simpa using h3⟩
    · rw [hfl]; simp
    · simp only [roOf, List.drop_zero, List.append_nil, List.length_nil, Nat.add_zero, List.length_map]
      rw [← hfl, List.take_length]
end Go.Ab
