/- What is proved: contracts of windows' functions. No conditions. -/
import Derived.Test.YtjhldpbpopjkiaaC01c
set_option linter.unusedVariables false
namespace Go.Ab
variable {C : CSem} {N : Nat → Nat}

theorem rowsTo_in (L : List Window) : ∀ d, ∀ w ∈ rowsTo L d, 0 ≤ w.From ∧ w.From ≤ d ∧ 0 ≤ w.Until ∧ w.Until ≤ d
  | 0, w, h => by cases h
  | d + 1, w, h => by
    have ih := rowsTo_in L d
    have ih' : ∀ w ∈ rowsTo L d, 0 ≤ w.From ∧ w.From ≤ ((d + 1 : Nat) : Int) ∧ 0 ≤ w.Until ∧ w.Until ≤ ((d + 1 : Nat) : Int) := fun w hw => by have := ih w hw; omega
    unfold rowsTo rowStep at h
    split at h
    · rcases List.mem_append.1 h with h | h
      · exact ih' w h
      · rw [List.mem_singleton.1 h]; simp only; omega
    · split at h
      · rcases List.mem_append.1 h with h | h
        · exact ih' w (List.dropLast_subset _ h)
        · rw [List.mem_singleton.1 h]
          cases hg : (rowsTo L d).getLast? with
          | none => simp only [Option.getD_none, Window.zero]; omega
          | some z => have := ih z (List.mem_of_getLast? hg); simp only [Option.getD_some]; omega
      · exact ih' w h
theorem sum_le {L : List Int} {b : Int} (hb : ∀ x ∈ L, -b ≤ x ∧ x ≤ b) : -(b * L.length) ≤ L.sum ∧ L.sum ≤ b * L.length := by
  induction L with
  | nil => simp
  | cons a r ih =>
    have h1 := hb a (by simp)
    have h2 := ih fun x hx => hb x (by simp [hx])
    simp only [List.sum_cons, List.length_cons]
    rw [show b * ((r.length + 1 : Nat) : Int) = b * r.length + b by rw [Int.natCast_add, Int.mul_add]; omega]
    omega
def Window.days (w : Window) : Int := w.Until - w.From
theorem sum_take_succ {D : List Int} {k : Nat} {v : Int} (h : D[k]? = some v) : (D.take (k + 1)).sum = (D.take k).sum + v := by rw [take_succ h]; simp
theorem sum_take_le {D : List Int} {b : Nat} (hb : ∀ x ∈ D, -(b : Int) ≤ x ∧ x ≤ b) (k : Nat) : -((b : Int) * D.length) ≤ (D.take k).sum ∧ (D.take k).sum ≤ b * D.length := by
  have := sum_le (L := D.take k) (b := b) fun x hx => hb x (List.mem_of_mem_take hx)
  have hl : (D.take k).length ≤ D.length := List.length_take_le' k D
  have : (b : Int) * (D.take k).length ≤ b * D.length := Int.mul_le_mul_of_nonneg_left (by omega) (by omega)
  omega

theorem rows_len (L : List Window) : (rows L).length ≤ 4002 := by
  unfold rows
  split
  · exact rowsTo_len L 4002
  · simp
theorem rows_days (L : List Window) : ∀ w ∈ rows L, -((4002 : Nat) : Int) ≤ w.days ∧ w.days ≤ ((4002 : Nat) : Int) := fun w hw => by
  unfold rows at hw
  split at hw
  · have := rowsTo_in L 4002 w hw
    unfold Window.days; omega
  · cases hw
def count (L : List Window) : Int := ((rows L).map Window.days).sum
def window_Count.Spec (C : CSem) (N : Nat → Nat) : Prop := ∀ (x : AVal) (L : List Window) (R : List (List AVal)) (h : AHeap) (Q : AVal → AHeap → Prop), SlX h 2 x (L.map Window.cs) R → L.length < 4611686018427387904 →
  Q (.int .i64 (count L)) h → C (N 13) [x] h Q
theorem window_Count.spec (i : window_Count.Imp C N) (s1 : window_Rows.Spec C N) : window_Count.Spec C N := by
  intro x L R h Q hx hlen hq
  apply i
  simp +contextual -dsimp
  refine s1 x L R h _ hx hlen fun y h1 ho => ?_
  have hy := ho.slAt 0 rfl
  have hl := rows_len L
  have hls := hy.lenSl
  rw [List.length_map] at hls
  simp +contextual -dsimp [hls]
  have hD : ∀ x ∈ (rows L).map Window.days, -((4002 : Nat) : Int) ≤ x ∧ x ≤ ((4002 : Nat) : Int) := fun x hx => by
    obtain ⟨w, hw, rfl⟩ := List.mem_map.1 hx
    exact rows_days L w hw
  refine LoopR.intro (fun n vs hh => ∃ k, k + n = (rows L).length ∧ vs = [.int .i64 (((rows L).map Window.days).take k).sum, .int .i64 k] ∧ hh = h1) (rows L).length ?_ ⟨0, by simp, by simp, rfl⟩
  rintro Y n vs _ ⟨k, hn, rfl, rfl⟩ hY
  simp +contextual -dsimp
  refine B.cond_bool (fun hb => ?_) (fun hb => ?_) <;> simp +contextual -dsimp at hb ⊢
  · have ew := get_lt (L := (rows L)) hb
    obtain ⟨w, hw⟩ := ew
    have d1 := sum_take_le hD k
    have d3 := rows_days L w (List.mem_of_getElem? hw)
    rw [List.length_map] at d1
    have e1 : IntKind.i64.wrap (w.Until - w.From) = w.days := wrap_i64 (by unfold Window.days at d3; omega) (by unfold Window.days at d3; omega)
    have e2 : IntKind.i64.wrap ((((rows L).map Window.days).take k).sum + w.days) = (((rows L).map Window.days).take (k + 1)).sum := by rw [sum_take_succ (get_map hw), wrap_i64 (by omega) (by omega)]
    simp +contextual -dsimp [hy.idxN (i := k) (by simpa using hb), hy.elem (get_map hw), inc64 (n := k) (by omega), e1, e2]
    exact hY ((rows L).length - (k + 1)) _ _ (by omega) ⟨k + 1, by omega, by simp, rfl⟩
  · rw [List.take_of_length_le (by simp; omega)]
    exact dn_le ho.le hq

/-! The document's functions. -/
def ofStep (p : Nat → Bool) (out : List Window) (d : Nat) : List Window :=
  if p d then (if out ≠ [] ∧ (out.getLast?.getD .zero).Until = d then out.dropLast ++ [⟨(out.getLast?.getD .zero).From, d + 1⟩] else out ++ [⟨d, d + 1⟩]) else out
def ofTo (p : Nat → Bool) : Nat → List Window
  | 0 => []
  | d + 1 => ofStep p (ofTo p d) d
theorem ofTo_len (p : Nat → Bool) : ∀ d, (ofTo p d).length ≤ d
  | 0 => Nat.le_refl _
  | d + 1 => by
    have := ofTo_len p d
    unfold ofTo ofStep
    split
    · split
      · simp; omega
      · simp; omega
    · omega
theorem ofTo_congr {p q : Nat → Bool} : ∀ {n : Nat}, (∀ d, d < n → p d = q d) → ofTo p n = ofTo q n
  | 0, _ => rfl
  | n + 1, h => by
    unfold ofTo ofStep
    rw [ofTo_congr (n := n) fun d hd => h d (by omega), h n (by omega)]

abbrev bools (n : Nat) (p : Nat → Bool) : List (List AVal) := fills n fun d => [.bool (p d)]
def ref01_Of.Spec (C : CSem) (N : Nat → Nat) : Prop := ∀ (x : AVal) (n : Nat) (p : Nat → Bool) (R : List (List AVal)) (h : AHeap) (Q : AVal → AHeap → Prop), SlX h 1 x (bools n p) R → n ≤ 4001 →
  (∀ x' h', Owns h h' [.sl 2 x' ((ofTo p n).map Window.cs) []] → Q x' h') → C (N 19) [x] h Q
theorem ref01_Of.spec (i : ref01_Of.Imp C N) : ref01_Of.Spec C N := by
  intro x n p R h Q hx hlen hq
  apply i
  simp +contextual -dsimp
  refine LoopR.intro (fun m vs hh => ∃ d y, d + m = n ∧ vs = [y, .int .i64 d] ∧ Owns h hh [.sl 2 y ((ofTo p d).map Window.cs) []]) n ?_ ⟨0, .nils, by simp, by simp, (Owns.start h).nils 2⟩
  rintro Y m vs hh ⟨d, y, hn, rfl, ho⟩ hY
  have hx1 := hx.mono ho.le
  have hy := ho.slAt 0 rfl
  have hl := ofTo_len p d
  have hls := hx1.lenSl
  have hly := hy.lenSl
  simp only [fills_len, List.length_map] at hls hly
  simp +contextual -dsimp [hls]
  refine B.cond_bool (fun hb => ?_) (fun hb => ?_) <;> simp +contextual -dsimp at hb ⊢
  · have e4 : IntKind.i64.wrap ((d : Int) + 1) = ((d + 1 : Nat) : Int) := inc64 (by omega)
    simp +contextual -dsimp [hx1.idxN (i := d) (by simpa using hb), hx1.ldv (fills_get _ hb) (f := 0) (by omega)]
    refine B.cond_bool (fun hc => ?_) (fun hc => ?_) <;> simp +contextual -dsimp at hc ⊢
    · simp [e4]
      refine hY (n - (d + 1)) _ _ (by omega) ⟨d + 1, y, by omega, by simp, ?_⟩
      have : ofTo p (d + 1) = ofTo p d := by simp [ofTo, ofStep, hc]
      rw [this]; exact ho
    · simp +contextual -dsimp [hly]
      by_cases hne : ofTo p d = []
      · have e : ofTo p (d + 1) = ofTo p d ++ [⟨d, d + 1⟩] := by simp [ofTo, ofStep, hc, hne]
        simp -dsimp [hne, e4, inc64 (n := d) (by omega)]
        rw [hne] at ho hl
        refine ho.push 0 rfl rfl (by omega) (by simp) (by simp [maxLen]) fun x' h' ho' _ => ?_
        try simp [e4]
        refine hY (n - (d + 1)) _ _ (by omega) ⟨d + 1, x', by omega, by simp, ?_⟩
        rw [e, hne]
        exact ho'
      · have hpos : 0 < (ofTo p d).length := List.length_pos_iff.2 hne
        have e5 : IntKind.i64.wrap (((ofTo p d).length : Int) - 1) = (((ofTo p d).length - 1 : Nat) : Int) := by rw [wrap_i64 (by omega) (by omega)]; omega
        have hl2 : (ofTo p d).length - 1 < ((ofTo p d).map Window.cs).length := by simp; omega
        have hlast : (ofTo p d)[(ofTo p d).length - 1]? = some ((ofTo p d).getLast hne) := by rw [List.getLast_eq_getElem]; simp
        simp +contextual -dsimp [hpos, hly, e5, hy.idxN hl2, hy.fieldA hl2, hy.ldv (get_map hlast) (f := 1) (by omega)]
        refine B.cond_bool (fun hd => ?_) (fun hd => ?_) <;> simp +contextual -dsimp at hd ⊢
        · simp +contextual -dsimp [hly, e5, hy.idxN hl2, hy.fieldA hl2, e4]
          refine ho.st 0 rfl (c := Window.cs ((ofTo p d).getLast hne)) (by simp [hlast]) (by omega) (by simp) fun h' ho' _ => ?_
          try simp [e4]
          refine hY (n - (d + 1)) _ _ (by omega) ⟨d + 1, y, by omega, by simp, ?_⟩
          have e : ofTo p (d + 1) = (ofTo p d).set ((ofTo p d).length - 1) ⟨((ofTo p d).getLast hne).From, d + 1⟩ := by
            simp only [ofTo, ofStep, hc, if_true]
            rw [List.getLast?_eq_some_getLast hne, if_pos ⟨hne, by simpa using hd⟩]
            exact dropLast_set hne _
          rw [e]
          simpa using ho'
        · try simp [e4]
          refine ho.push 0 rfl rfl (by omega) (by simp; omega) (by simp [maxLen]; omega) fun x' h' ho' _ => ?_
          try simp [e4]
          refine hY (n - (d + 1)) _ _ (by omega) ⟨d + 1, x', by omega, by simp, ?_⟩
          have e : ofTo p (d + 1) = ofTo p d ++ [⟨d, d + 1⟩] := by
            simp only [ofTo, ofStep, hc, if_true]
            rw [List.getLast?_eq_some_getLast hne, if_neg (by simpa [hne] using hd)]
          rw [e, List.map_append]
          exact ho'
  · have : d = n := by omega
    subst this
    exact dn_same (hq _ _ ho)

def ref01_Right.Spec (C : CSem) (N : Nat → Nat) : Prop := ∀ (a b : Int) (h : AHeap) (Q : AVal → AHeap → Prop), Q (.bool (Window.right ⟨a, b⟩)) h → C (N 6) [.agg [.int .i64 a, .int .i64 b]] h Q
theorem ref01_Right.spec (i : ref01_Right.Imp C N) : ref01_Right.Spec C N := by
  intro a b h Q hq
  apply i
  simp +contextual -dsimp
  exact dn_same hq
def ref01_Has.Spec (C : CSem) (N : Nat → Nat) : Prop := ∀ (a b day : Int) (h : AHeap) (Q : AVal → AHeap → Prop), Q (.bool (Window.has ⟨a, b⟩ day)) h → C (N 8) [.agg [.int .i64 a, .int .i64 b], .int .i64 day] h Q
theorem ref01_Has.spec (i : ref01_Has.Imp C N) (s1 : ref01_Right.Spec C N) : ref01_Has.Spec C N := by
  intro a b day h Q hq
  apply i
  simp +contextual -dsimp
  refine s1 _ _ _ _ ?_
  simp +contextual -dsimp
  exact dn_same hq
end Go.Ab
