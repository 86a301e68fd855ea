/- What is proved: literals, and what makes new memory, are as told in the abstract memory. -/
import Derived.Test.YtjhldpbpopjkiaaAbH
import Derived.Laws.Tables
import Derived.Great.BuildSlice
namespace Go.Ab
open Go.RowKit (Below)

theorem foldl_sets (off : Nat) : ∀ (vs : List Value) (k : Nat) (arr : Array Value), off + k + vs.length ≤ arr.size →
    ((vs.zipIdx k).foldl (fun (cs : Array Value) (p : Value × Nat) => cs.setIfInBounds (off + p.2) p.1) arr).toList = arr.toList.take (off + k) ++ vs ++ arr.toList.drop (off + k + vs.length)
  | [], k, arr, _ => by simp
  | v :: vs, k, arr, h => by
    simp only [List.length_cons] at h
    rw [List.zipIdx_cons, List.foldl_cons, foldl_sets off vs (k + 1) _ (by simp; omega)]
    simp only [Array.toList_setIfInBounds, List.length_cons]
    apply List.ext_getElem?
    intro x
    have hl : arr.toList.length = arr.size := by simp
    rw [List.append_assoc, List.append_assoc]
    by_cases h1 : x < off + k
    · rw [List.getElem?_append_left (by rw [List.length_take, List.length_set]; omega), List.getElem?_append_left (by rw [List.length_take]; omega),
        List.getElem?_take_of_lt (by omega), List.getElem?_take_of_lt (by omega), List.getElem?_set_ne (by omega)]
    · by_cases h2 : x = off + k
      · subst h2
        rw [List.getElem?_append_left (by rw [List.length_take, List.length_set]; omega), List.getElem?_append_right (by rw [List.length_take]; omega),
          List.getElem?_take_of_lt (by omega), List.getElem?_set_self (by omega), List.length_take]
        simp [show off + k - min (off + k) arr.size = 0 by omega]
      · have l1 : ((arr.toList.set (off + k) v).take (off + (k + 1))).length = off + (k + 1) := by rw [List.length_take, List.length_set]; omega
        have l2 : (arr.toList.take (off + k)).length = off + k := by rw [List.length_take]; omega
        have e1 : ∀ B : List Value, ((arr.toList.set (off + k) v).take (off + (k + 1)) ++ B)[x]? = B[x - (off + (k + 1))]? := fun B => by rw [List.getElem?_append_right (by omega), l1]
        have e2 : ∀ B : List Value, (arr.toList.take (off + k) ++ (v :: B))[x]? = B[x - (off + (k + 1))]? := fun B => by
          rw [List.getElem?_append_right (by omega), l2, show x - (off + k) = (x - (off + (k + 1))) + 1 by omega, List.getElem?_cons_succ]
        rw [e1, List.cons_append, e2]
        by_cases h3 : x - (off + (k + 1)) < vs.length
        · rw [List.getElem?_append_left h3, List.getElem?_append_left h3]
        · rw [List.getElem?_append_right (by omega), List.getElem?_append_right (by omega), List.getElem?_drop, List.getElem?_drop, List.getElem?_set_ne (by omega)]
          congr 1
          omega

section
variable {P : Program} {ρ : Locs}

theorem fill_one (place : Nat → Option (Nat × Nat)) (i off : Nat) (u : Value) (us l : List Value) (r : List (Nat × Value)) (hp : place i = some (off, us.length)) (hu : u.cells = us.toArray) (hl : off + us.length ≤ l.length) :
    Instr.fill place l.toArray ((i, u) :: r) = Instr.fill place (l.take off ++ us ++ l.drop (off + us.length)).toArray r := by
  simp only [Instr.fill, hp, hu, List.size_toArray]
  rw [if_neg (by simp; omega)]
  congr 1
  apply Array.ext'
  have := foldl_sets off us 0 l.toArray (by simpa using hl)
  simp only [Nat.add_zero] at this
  rw [← this]
  simp

/-- How an abstract part stands to the model's. -/
def PartRel (ρ : Locs) (place : Nat → Option (Nat × Nat)) (x : Nat × Option Nat × AVal) (y : Nat × Value) : Prop :=
  place y.1 = some (x.1, x.2.1.getD 1) ∧ VRel ρ x.2.2 y.2
def PartsRel (ρ : Locs) (place : Nat → Option (Nat × Nat)) : List (Nat × Option Nat × AVal) → List (Nat × Value) → Prop
  | [], l => l = []
  | x :: xs, l => ∃ y ys, l = y :: ys ∧ PartRel ρ place x y ∧ PartsRel ρ place xs ys

theorem fill_sound (place : Nat → Option (Nat × Nat)) : ∀ (ps : List (Nat × Option Nat × AVal)) (qs : List (Nat × Value)) (cs cs' : List AVal) (l : List Value), PartsRel ρ place ps qs → fillL ps cs = some cs' →
    VRels ρ cs l → (∀ u ∈ l, u.oneCell' = true) → ∃ l', Instr.fill place l.toArray qs = some l'.toArray ∧ VRels ρ cs' l' ∧ ∀ u ∈ l', u.oneCell' = true
  | [], _, cs, cs', l, e, h, hv, h1 => by
    subst e
    cases h
    exact ⟨l, rfl, hv, h1⟩
  | (off, none, x) :: ps, _, cs, cs', l, ⟨(i, u), qs, e, ⟨hp, hx⟩, hr⟩, h, hv, h1 => by
    subst e
    simp only [fillL, V.put1] at h
    cases hc : x.isCell with
    | false => simp [hc] at h
    | true =>
      simp only [hc, cond_true] at h
      split at h
      · rename_i cs1 hcs
        split at hcs <;> (try (cases hcs; done))
        rename_i hlt
        cases hcs
        have ho := oneCell_of_isCell hc hx
        have hl := hv.length
        obtain ⟨l', k1, k2, k3⟩ := fill_sound place ps qs (cs.set off x) cs' (l.take off ++ [u] ++ l.drop (off + 1)) hr h (VRels.of_get (by
            simp only [List.length_set, List.length_append, List.length_take, List.length_drop, List.length_singleton]; omega) fun j a v ha hv' => by
          by_cases hj : j = off
          · subst hj
            rw [List.getElem?_set_self hlt] at ha
            cases ha
            rw [List.append_assoc, List.getElem?_append_right (by rw [List.length_take]; omega), List.length_take] at hv'
            simp [show j - min j l.length = 0 by omega] at hv'
            subst hv'; exact hx
          · rw [List.getElem?_set_ne (Ne.symm hj)] at ha
            obtain ⟨u', q1, q2⟩ := hv.get ha
            have : (l.take off ++ [u] ++ l.drop (off + 1))[j]? = l[j]? := by
              rcases Nat.lt_or_ge j off with h' | h'
              · rw [List.append_assoc, List.getElem?_append_left (by rw [List.length_take]; omega), List.getElem?_take_of_lt h']
              · rw [List.getElem?_append_right (by simp only [List.length_append, List.length_take, List.length_singleton]; omega), List.getElem?_drop]
                congr 1
                simp only [List.length_append, List.length_take, List.length_singleton]; omega
            rw [this, q1] at hv'
            cases hv'; exact q2) (fun v hv' => by
          simp only [List.mem_append, List.mem_singleton] at hv'
          rcases hv' with (hv' | rfl) | hv'
          · exact h1 v (List.mem_of_mem_take hv')
          · exact ho
          · exact h1 v (List.mem_of_mem_drop hv'))
        refine ⟨l', ?_, k2, k3⟩
        rw [← k1]
        exact fill_one place i off u [u] l qs hp (cells_of_oneCell ho) (by simp; omega)
      · cases h
  | (off, some n, x) :: ps, _, cs, cs', l, ⟨(i, u), qs, e, ⟨hp, hx⟩, hr⟩, h, hv, h1 => by
    subst e
    simp only [fillL] at h
    split at h <;> (try (cases h; done))
    rename_i cs1 hcs
    unfold V.putN at hcs
    split at hcs <;> (try (cases hcs; done))
    rename_i xs
    split at hcs <;> (try (cases hcs; done))
    rename_i hlen
    cases hcs
    obtain ⟨us, e, hus, ho⟩ := hx
    simp only at e
    subst e
    have hl := hv.length
    have hul := hus.length
    obtain ⟨l', k1, k2, k3⟩ := fill_sound place ps qs _ cs' (l.take off ++ us ++ l.drop (off + us.length)) hr h (by
        have := (hv.take off).append hus |>.append (hv.drop (off + n))
        rwa [show off + us.length = off + n by omega]) (fun v hv' => by
      simp only [List.mem_append] at hv'
      rcases hv' with (hv' | hv') | hv'
      · exact h1 v (List.mem_of_mem_take hv')
      · exact ho v hv'
      · exact h1 v (List.mem_of_mem_drop hv'))
    refine ⟨l', ?_, k2, k3⟩
    rw [← k1]
    exact fill_one place i off (.agg us.toArray) us l qs (by rw [hp]; simp; omega) rfl (by omega)

/-! Zero cells. -/
theorem flatIs_rel : ∀ {a : AVal} {v : Value}, flatIs a v = true → VRel ρ a v ∧ v.oneCell' = true := by
  intro a v h
  unfold flatIs at h
  split at h
  · simp at h; subst h; exact ⟨rfl, rfl⟩
  · simp at h; obtain ⟨rfl, rfl⟩ := h; exact ⟨rfl, rfl⟩
  · simp only [beq_iff_eq] at h; exact ⟨⟨_, rfl, h.symm⟩, rfl⟩
  · exact ⟨rfl, rfl⟩
  · exact ⟨rfl, rfl⟩
  · exact ⟨rfl, rfl⟩
  · cases h

theorem flatsAre_rel : ∀ {as : List AVal} {l : List Value}, flatsAre as l = true → VRels ρ as l ∧ ∀ u ∈ l, u.oneCell' = true
  | [], [], _ => ⟨rfl, by simp⟩
  | [], _ :: _, h => by simp [flatsAre] at h
  | _ :: _, [], h => by simp [flatsAre] at h
  | a :: as, v :: l, h => by
    simp only [flatsAre, Bool.and_eq_true] at h
    obtain ⟨h1, h2⟩ := flatIs_rel (ρ := ρ) h.1
    obtain ⟨h3, h4⟩ := flatsAre_rel h.2
    exact ⟨⟨v, l, rfl, h1, h3⟩, fun u hu => by
      rcases List.mem_cons.1 hu with rfl | hu
      · exact h2
      · exact h4 u hu⟩

theorem zeroOf_spec {t : TypeId} {cs : List AVal} (h : zeroOf P t = some cs) :
    ∃ i z, P.info? t = some i ∧ i.zero = some z ∧ VRels ρ cs z.cells.toList ∧ (∀ u ∈ z.cells.toList, u.oneCell' = true) ∧ cs.length = P.cellsOf t ∧ z.cells.size = i.size ∧ (∃ d, P.underlying t = some d) ∧ zeroAt P 12 t = some cs := by
  unfold zeroOf at h
  split at h
  · rename_i cs' z h1 h2
    cases hc : (flatsAre cs' z.cells.toList && Nat.beq cs'.length (P.cellsOf t)) with
    | false => simp [hc] at h
    | true =>
      simp only [hc, cond_true, Option.some.injEq] at h
      subst h
      simp only [Bool.and_eq_true] at hc
      cases hi : P.info? t with
      | none => simp [hi] at h2
      | some i =>
        simp only [hi, Option.bind_some] at h2
        obtain ⟨k1, k2⟩ := flatsAre_rel (ρ := ρ) hc.1
        have k3 := Nat.eq_of_beq_eq_true hc.2
        have k4 := cellsOf_eq hi
        refine ⟨i, z, rfl, h2, k1, k2, k3, ?_, ?_, h1⟩
        · have := k1.length
          simp at this
          omega
        · simp only [zeroAt] at h1
          cases hu : P.underlying t with
          | none => simp [hu] at h1
          | some d => exact ⟨d, rfl⟩
  · cases h
end
end Go.Ab
