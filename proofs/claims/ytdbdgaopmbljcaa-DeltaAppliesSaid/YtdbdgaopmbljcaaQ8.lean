/- What is proved: a part of the way to the statement; each part is headed by what it proves. No conditions. -/
import Derived.Test.YtdbdgaopmbljcaaQ7
import Derived.Test.YtdbdgaopmbljcaaQ6
import Derived.Test.YtdbdgaopmbljcaaQ3

/- What is proved: the library's quick sort, generic: what is in order; heap sort; insertion sort of a range. No conditions. -/
set_option linter.unusedVariables false
set_option linter.unusedSimpArgs false
namespace Go.Ab
section
variable {X : Type} {c : X → X → Int} {a b n lo : Nat} {G G' : List X}
theorem Heap.sinv {X : Type} {c : X → X → Int} {a n lo : Nat} {G : List X} (p : Heap c a n (lo + 1) G) (hl : a + n ≤ G.length) : SInv c a n lo lo G :=
  ⟨hl, fun k k0 hk h1 hne h2 h3 => p k k0 hk (by omega) h2 h3, fun h1 h0 => by omega⟩
theorem Heap.none_ {X : Type} {c : X → X → Int} {a n lo : Nat} {G : List X} (h : n ≤ 2 * lo + 1) : Heap c a n lo G := fun k k0 hk h1 _ _ => by omega
/-- The root is no less than any. -/
theorem Heap.root (W : Weak (lessC c)) (p : Heap c a n 0 G) (hl : a + n ≤ G.length) : ∀ (k : Nat) (hk : k < n), ¬ c (G[a]'(by omega)) (G[a + k]'(by omega)) < 0 := by
  intro k
  induction k using Nat.strongRecOn with
  | ind k ih =>
    intro hk
    by_cases e : k = 0
    · subst e
      have := W.irr (G[a]'(by omega)); unfold lessC at this; simpa using this
    · have h1 := ih ((k - 1) / 2) (by omega) (by omega)
      have h2 := p k (by omega) hk (by omega) (by omega) (by omega)
      have := W.ntrans (a := G[a]'(by omega)) (b := G[a + (k - 1) / 2]'(by omega)) (c := G[a + k]'(by omega)) (by unfold lessC; exact decide_eq_false h1) (by unfold lessC; exact decide_eq_false h2)
      unfold lessC at this; exact of_decide_eq_false this
theorem Within.take (w : Within a b G G') : G'.take a = G.take a := List.ext_getElem? fun i => by
  rw [List.getElem?_take, List.getElem?_take]
  split
  · rename_i h; exact w.out i (.inl h)
  · rfl
theorem Within.drop (w : Within a b G G') : G'.drop b = G.drop b := List.ext_getElem? fun i => by
  rw [List.getElem?_drop, List.getElem?_drop]; exact w.out (b + i) (.inr (by omega))
theorem split3 (hab : a ≤ b) (G : List X) : G = G.take a ++ ((G.take b).drop a ++ G.drop b) := by
  have h1 : G.take a = (G.take b).take a := by rw [List.take_take, Nat.min_eq_left hab]
  rw [h1, ← List.append_assoc, List.take_append_drop, List.take_append_drop]
theorem Within.mid (w : Within a b G G') (hab : a ≤ b) : ((G'.take b).drop a).Perm ((G.take b).drop a) := by
  have h := w.perm
  rw [split3 hab G, split3 hab G', w.take, w.drop] at h
  exact (List.perm_append_right_iff _).1 ((List.perm_append_left_iff _).1 h)
/-- What stands in the range stood in the range. -/
theorem Within.mem (w : Within a b G G') {k : Nat} (h1 : a ≤ k) (h2 : k < b) (hk : k < G'.length) : ∃ k', a ≤ k' ∧ k' < b ∧ ∃ h' : k' < G.length, G'[k] = G[k'] := by
  have hm : G'[k] ∈ (G'.take b).drop a := by
    rw [List.mem_iff_getElem?]
    refine ⟨k - a, ?_⟩
    rw [List.getElem?_drop, List.getElem?_take, if_pos (by omega), Nat.add_sub_cancel' h1, List.getElem?_eq_getElem hk]
  have := (w.mid (by omega)).mem_iff.1 hm
  rw [List.mem_iff_getElem?] at this
  obtain ⟨i, hi⟩ := this
  rw [List.getElem?_drop, List.getElem?_take] at hi
  split at hi
  · rename_i hlt
    obtain ⟨hb, e⟩ := List.getElem?_eq_some_iff.1 hi
    exact ⟨a + i, by omega, hlt, hb, e.symm⟩
  · cases hi
/-- In order between all but where both stand in [a,b). -/
def Cut {X : Type} (c : X → X → Int) (A B a b : Nat) (G : List X) : Prop := ∀ p q, A ≤ p → p < q → q < B → p < a ∨ b ≤ q → ∀ (h1 : p < G.length) (h2 : q < G.length), ¬ c G[q] G[p] < 0
/-- In order. -/
def Srt {X : Type} (c : X → X → Int) (A B : Nat) (G : List X) : Prop := ∀ p q, A ≤ p → p < q → q < B → ∀ (h1 : p < G.length) (h2 : q < G.length), ¬ c G[q] G[p] < 0
theorem Cut.within {A B : Nat} (x : Cut c A B a b G) (w : Within a b G G') (ha : A ≤ a) (hb : b ≤ B) : Cut c A B a b G' := fun p q hp hpq hq h h1 h2 => by
  have hl := w.len
  rcases h with h | h
  · rw [w.same (.inl h) h1 (by omega)]
    by_cases hq2 : a ≤ q ∧ q < b
    · obtain ⟨q', h3, h4, h5, e⟩ := w.mem hq2.1 hq2.2 h2
      rw [e]; exact x p q' hp (by omega) (by omega) (.inl h) (by omega) h5
    · rw [w.same (by omega) h2 (by omega)]; exact x p q hp hpq hq (.inl h) _ _
  · rw [w.same (k := q) (.inr h) h2 (by omega)]
    by_cases hp2 : a ≤ p ∧ p < b
    · obtain ⟨p', h3, h4, h5, e⟩ := w.mem hp2.1 hp2.2 h1
      rw [e]; exact x p' q (by omega) (by omega) hq (.inr h) h5 (by omega)
    · rw [w.same (k := p) (by omega) h1 (by omega)]; exact x p q hp hpq hq (.inr h) _ _
theorem Cut.join {A B : Nat} (x : Cut c A B a b G) (s : Srt c a b G) : Srt c A B G := fun p q hp hpq hq h1 h2 => by
  by_cases h : p < a ∨ b ≤ q
  · exact x p q hp hpq hq h h1 h2
  · exact s p q (by omega) hpq (by omega) h1 h2
theorem Cut.small {A B : Nat} (x : Cut c A B a b G) (s : b ≤ a + 1) : Srt c A B G := x.join fun p q _ _ _ _ _ => by omega
theorem within_mid {M : List X} (hab : a ≤ b) (hb : b ≤ G.length) (hp : M.Perm ((G.take b).drop a)) : Within a b G (G.take a ++ (M ++ G.drop b)) := by
  have hl := hp.length_eq
  simp only [List.length_drop, List.length_take] at hl
  refine ⟨?_, fun i hi => ?_⟩
  · have := (hp.append_right (G.drop b)).append_left (G.take a)
    rw [← split3 hab G] at this; exact this
  · rcases hi with hi | hi
    · rw [List.getElem?_append_left (by rw [List.length_take]; omega), List.getElem?_take, if_pos hi]
    · rw [List.getElem?_append_right (by rw [List.length_take]; omega), List.getElem?_append_right (by rw [List.length_take]; omega), List.getElem?_drop, List.length_take]
      congr 1; omega
theorem srt_mid {M : List X} (hab : a ≤ b) (hb : b ≤ G.length) (hl : M.length = b - a) (hp : M.Pairwise fun x y => ¬ c y x < 0) : Srt c a b (G.take a ++ (M ++ G.drop b)) := fun p q hp1 hpq hq h1 h2 => by
  have e : ∀ k (h1 : a ≤ k) (h2 : k < b) (hk : k < (G.take a ++ (M ++ G.drop b)).length), (G.take a ++ (M ++ G.drop b))[k] = M[k - a]'(by omega) := fun k h1 h2 hk => by
    rw [List.getElem_append_right (by rw [List.length_take]; omega), List.getElem_append_left (by rw [List.length_take]; omega)]
    congr 1; rw [List.length_take]; omega
  rw [e p hp1 (by omega), e q (by omega) hq]
  exact List.pairwise_iff_getElem.1 hp _ _ _ _ (by omega)
end
variable {C : CSem}
abbrev SiftI (C : CSem) (E : ElOps) (f1 : Nat) : Prop := ∀ (v0 v1 v2 v3 v4 : AVal) (h : AHeap) (Q : AVal → AHeap → Prop), slices_siftDownCmpFuncG.cps C E v0 v1 v2 v3 v4 h (dn Q) → C f1 [v0, v1, v2, v3, v4] h Q
section
variable {E : ElOps} {X : Type} {cs : X → List AVal} {v : X → AVal} {h0 h : AHeap} {x f : AVal} {G : List X} {R : List (List AVal)} {c : X → X → Int} {Q : AVal → AHeap → Prop} {a b : Nat}
/-- Insertion sort of a range. -/
theorem insertion_srt (S : SeqSpec E cs v) (W : Weak (lessC c)) (hc : CmpSpec C v c f h0) (ho : Rw E cs h0 h x G R) (hl : G.length ≤ 100000000) (hab : a ≤ b) (hb : b ≤ G.length)
    (hq : ∀ h' G', Within a b G G' → Srt c a b G' → Rw E cs h0 h' x G' R → Q (.tup []) h') : slices_insertionSortCmpFuncG.cps C E x (.int .i64 (a : Int)) (.int .i64 (b : Int)) f h Q := by
  have e0 : ∀ (L : List X), (L.map (fun y => (y, 0))).map (fun p : X × Nat => cs p.1) = L.map cs := fun L => by rw [List.map_map]; rfl
  have e1 : ∀ (L : List (X × Nat)), L.map (fun p : X × Nat => cs p.1) = (L.map (·.1)).map cs := fun L => by rw [List.map_map]; rfl
  have lt : (G.take a).length = a := by rw [List.length_take]; omega
  have lm : ((G.take b).drop a).length = b - a := by rw [List.length_drop, List.length_take]; omega
  refine insertionSort_spec (P := (G.take a).map (fun y => (y, 0))) (M := ((G.take b).drop a).zipIdx) (U := (G.drop b).map (fun y => (y, 0))) S W ?_ ?_ hc ?_ ?_ ?_ ?_ (R := R) (h0 := h0)
  · simp only [List.length_append, List.length_map, List.length_zipIdx, lt, lm, List.length_drop]; omega
  · have : (((G.take b).drop a).zipIdx.map (·.2)).Pairwise (· < ·) := by
      rw [List.zipIdx_map_snd]; exact List.pairwise_lt_range'
    rwa [List.pairwise_map] at this
  · rw [List.length_map, lt]
  · rw [List.length_map, List.length_zipIdx, lt, lm]; omega
  · unfold Rw
    rw [List.map_append, List.map_append, e0, e0, e1, List.zipIdx_map_fst, ← List.map_append, ← List.map_append, ← split3 hab G]
    exact ho
  · intro h' M' hp hs ho'
    have hp' : (M'.map (·.1)).Perm ((G.take b).drop a) := by
      have := hp.map (·.1); rwa [List.zipIdx_map_fst] at this
    refine hq h' (G.take a ++ (M'.map (·.1) ++ G.drop b)) (within_mid hab hb hp') (srt_mid hab hb (by rw [hp'.length_eq, lm]) ?_) ?_
    · rw [List.pairwise_map]
      refine hs.imp fun {x y} hxy => ?_
      have hx : lessC c y.1 x.1 = false := hxy.elim (fun h => W.asym h) fun ⟨h, _⟩ => h
      unfold lessC at hx; exact of_decide_eq_false hx
    · unfold Rw at ho' ⊢
      rw [List.map_append, List.map_append, e0, e0, e1] at ho'
      rwa [List.map_append, List.map_append]
/-- Heap sort of a range. -/
theorem heapSort_spec {f1 : Nat} (is : SiftI C E f1) (S : SeqSpec E cs v) (W : Weak (lessC c)) (hc : CmpSpec C v c f h0) (ho : Rw E cs h0 h x G R) (hl : G.length ≤ 100000000) (hab : a < b) (hb : b ≤ G.length)
    (hq : ∀ h' G', Within a b G G' → Srt c a b G' → Rw E cs h0 h' x G' R → Q (.tup []) h') : slices_heapSortCmpFuncG.cps C E f1 x (.int .i64 (a : Int)) (.int .i64 (b : Int)) f h Q := by
  have e1 := subNN (a := b) (b := a) (by omega) (by omega)
  obtain ⟨n, hn⟩ : ∃ n, n = b - a := ⟨_, rfl⟩
  have e2 : V.bin .quo (.int .i64 ((n - 1 : Nat) : Int)) (.int .i64 2) = some (.int .i64 (((n - 1) / 2 : Nat) : Int)) := by
    rw [V.bin_quo _ _ _ (by omega), show ((n - 1 : Nat) : Int).tdiv 2 = (((n - 1) / 2 : Nat) : Int) from rfl, wrap_i64 (by omega) (by omega)]
  have m1 : ∀ k : Nat, k ≤ 100000000 → V.bin .sub (.int .i64 (k : Int)) (.int .i64 1) = some (.int .i64 ((k : Int) - 1)) := fun k hk => by
    rw [V.bin_sub, wrap_i64 (by omega) (by omega)]
  have m2 : ∀ k : Nat, k ≤ 100000000 → V.bin .sub (.int .i64 ((k + 1 : Nat) - 1 : Int)) (.int .i64 1) = some (.int .i64 ((k : Int) - 1)) := fun k hk => by
    rw [V.bin_sub, wrap_i64 (by omega) (by omega)]; congr 2; omega
  simp -dsimp only [slices_heapSortCmpFuncG.cps, slices_heapSortCmpFuncG.k5, e1, B.pv_some]
  rw [← hn]
  simp -dsimp only [sub1 (show 1 ≤ n by omega) (by omega), e2, B.pv_some]
  refine LoopR.intro (fun t vs hh => ∃ (G' : List X), vs = [.int .i64 ((t : Int) - 1)] ∧ t ≤ n ∧ Heap c a n t G' ∧ Within a b G G' ∧ Rw E cs h0 hh x G' R) ((n - 1) / 2 + 1) ?_ ⟨G, by congr 2; omega, by omega, Heap.none_ (by omega), Within.refl _ _ _, ho⟩
  rintro Y t vs hh ⟨G1, rfl, htn, p1, W1, o1⟩ hY
  have l1 := W1.len
  simp -dsimp only [slices_heapSortCmpFuncG.l4, slices_heapSortCmpFuncG.k3, V.bin_geq, B.pv_some]
  cases t with
  | succ k =>
    rw [show decide ((0 : Int) ≤ ((k + 1 : Nat) : Int) - 1) = true by simp, B.cond_true, show (((k + 1 : Nat) : Int) - 1) = (k : Int) by omega]
    refine is _ _ _ _ _ _ _ (siftDown_spec (b := b) S W hc o1 (by omega) (p1.sinv (by omega)) (Nat.le_refl _) (by omega) (by omega) fun h2 G2 p2 w2 o2 => dn_same ?_)
    simp -dsimp only [m1 k (by omega), B.pv_some]
    exact hY k _ _ (by omega) ⟨G2, rfl, by omega, p2, W1.trans w2, o2⟩
  | zero =>
    rw [show decide ((0 : Int) ≤ ((0 : Nat) : Int) - 1) = false by simp, B.cond_false]
    simp -dsimp only [m1 n (by omega), B.pv_some]
    refine LoopR.intro (fun t vs hh => ∃ (G' : List X), vs = [.int .i64 ((t : Int) - 1)] ∧ t ≤ n ∧ Heap c a t 0 G' ∧ Cut c a b a (a + t) G' ∧ Within a b G G' ∧ Rw E cs h0 hh x G' R) n ?_ ⟨G1, rfl, Nat.le_refl _, p1, fun p q _ _ h3 h4 => by omega, W1, o1⟩
    rintro Z t vs hh ⟨G2, rfl, htn, p2, c2, W2, o2⟩ hZ
    have l2 := W2.len
    simp -dsimp only [slices_heapSortCmpFuncG.l2, slices_heapSortCmpFuncG.k1, V.bin_geq, B.pv_some]
    cases t with
    | zero =>
      rw [show decide ((0 : Int) ≤ ((0 : Nat) : Int) - 1) = false by simp, B.cond_false]
      exact hq hh G2 W2 (c2.small (by omega)) o2
    | succ k =>
      rw [show decide ((0 : Int) ≤ ((k + 1 : Nat) : Int) - 1) = true by simp, B.cond_true, show (((k + 1 : Nat) : Int) - 1) = (k : Int) by omega]
      have ac := addNN (a := a) (b := k) (by omega)
      have la : a < G2.length := by omega
      have lk : a + k < G2.length := by omega
      simp -dsimp only [ac, o2.idx la, o2.idx lk, B.pv_some]
      refine o2.ld S (List.getElem?_eq_getElem lk) ?_
      refine o2.ld S (List.getElem?_eq_getElem la) ?_
      refine o2.swap S la lk fun h3 o3 => ?_
      have hsl := swp_len la lk
      have w3 : Within a (a + (k + 1)) G2 (swp G2 a (a + k) la lk) := swp_within la lk (by omega) (by omega) (by omega) (by omega)
      have c3 := c2.within w3 (Nat.le_refl _) (by omega)
      have c4 : Cut c a b a (a + k) (swp G2 a (a + k) la lk) := fun p q h1 h2 h3 h4 h5 h6 => by
        by_cases e : a + (k + 1) ≤ q
        · exact c3 p q h1 h2 h3 (.inr e) h5 h6
        · have : q = a + k := by omega
          subst this
          rw [swp_at la lk h6 (by omega), if_pos rfl, swp_at la lk h5 (by omega), if_neg (by omega)]
          split
          · exact p2.root W (by omega) k (by omega)
          · have := p2.root W (by omega) (p - a) (by omega)
            simpa only [show a + (p - a) = p by omega] using this
      have s3 : SInv c a k 0 0 (swp G2 a (a + k) la lk) := ⟨by omega, fun j j0 hj _ hne h1 h2 => by
        rw [swp_at la lk h1 (by omega), if_neg (by omega), if_neg (by omega), swp_at la lk h2 (by omega), if_neg (by omega), if_neg (by omega)]
        exact p2 j j0 (by omega) (by omega) (by omega) (by omega), fun _ h => by omega⟩
      refine is _ _ _ _ _ _ _ (siftDown_spec (r := 0) (b := a + k) S W hc o3 (by omega) s3 (Nat.le_refl _) (by omega) (by omega) fun h4 G4 p4 w4 o4 => dn_same ?_)
      simp -dsimp only [m1 k (by omega), B.pv_some]
      exact hZ k _ _ (by omega) ⟨G4, rfl, by omega, p4, c4.within w4 (Nat.le_refl _) (by omega), (W2.trans (w3.mono (Nat.le_refl _) (by omega))).trans (w4.mono (Nat.le_refl _) (by omega)), o4⟩
end
end Go.Ab

/- What is proved: the library's quick sort, generic: partial insertion sort. No conditions. -/
set_option linter.unusedVariables false
set_option linter.unusedSimpArgs false
namespace Go.Ab
variable {C : CSem}
/-- None in the range is less than the one ahead of it. -/
def Pre {X : Type} (c : X → X → Int) (a b : Nat) (G : List X) : Prop := 0 < a → ∀ i, a ≤ i → i < b → ∀ (h1 : i < G.length) (h2 : a - 1 < G.length), ¬ c G[i] G[a - 1] < 0
theorem Pre.within {X : Type} {c : X → X → Int} {a b : Nat} {G G' : List X} (p : Pre c a b G) (w : Within a b G G') : Pre c a b G' := fun h0 i h1 h2 h3 h4 => by
  have hl := w.len
  obtain ⟨k, k1, k2, k3, e⟩ := w.mem h1 h2 h3
  rw [e, w.same (k := a - 1) (.inl (by omega)) h4 (by omega)]
  exact p h0 k k1 k2 _ _
/-- In order but for what stands ahead of the one at j. -/
def But1 {X : Type} (c : X → X → Int) (A B j : Nat) (G : List X) : Prop := ∀ p q, A ≤ p → p < q → q < B → q ≠ j → ∀ (h1 : p < G.length) (h2 : q < G.length), ¬ c G[q] G[p] < 0
section
variable {X : Type} {c : X → X → Int} {A B j : Nat} {G : List X}
theorem But1.done (W : Weak (lessC c)) (x : But1 c A B j G) (hj : j < G.length) (h : j ≤ A ∨ ∀ (h1 : j - 1 < G.length), ¬ c G[j] G[j - 1] < 0) : Srt c A B G := fun p q h1 h2 h3 h4 h5 => by
  by_cases e : q = j
  · subst e
    have h := h.resolve_left (by omega)
    by_cases e2 : p = q - 1
    · subst e2; exact h _
    · have k1 := x p (q - 1) h1 (by omega) (by omega) (by omega) h4 (by omega)
      have := W.ntrans (a := G[q]) (b := G[q - 1]'(by omega)) (c := G[p]) (by unfold lessC; exact decide_eq_false (h _)) (by unfold lessC; exact decide_eq_false k1)
      unfold lessC at this; exact of_decide_eq_false this
  · exact x p q h1 h2 h3 e h4 h5
theorem But1.step (W : Weak (lessC c)) (x : But1 c A B j G) (hA : A < j) (hj : j < G.length) (hj1 : j - 1 < G.length) (hlt : c G[j] G[j - 1] < 0) : But1 c A B (j - 1) (swp G j (j - 1) hj hj1) := fun p q h1 h2 h3 h4 h5 h6 => by
  have hl := swp_len hj hj1
  rw [swp_at hj hj1 h6 (by omega), if_neg h4, swp_at hj hj1 h5 (by omega)]
  by_cases e : q = j
  · rw [if_pos e]
    split
    · have := W.asym (a := G[j]) (b := G[j - 1]) (by unfold lessC; exact decide_eq_true hlt)
      unfold lessC at this; exact of_decide_eq_false this
    · rw [if_neg (by omega)]; exact x p (j - 1) h1 (by omega) (by omega) (by omega) (by omega) hj1
  · rw [if_neg e]
    split
    · exact x j q (by omega) (by omega) h3 e hj (by omega)
    · split
      · exact x (j - 1) q (by omega) (by omega) h3 e hj1 (by omega)
      · exact x p q h1 h2 h3 e (by omega) (by omega)
end
section
variable {E : ElOps} {X : Type} {cs : X → List AVal} {v : X → AVal} {h0 h : AHeap} {x f : AVal} {G : List X} {R : List (List AVal)} {c : X → X → Int} {Q : AVal → AHeap → Prop} {Y1 : List AVal → AHeap → Prop} {a b i s : Nat}
/-- The greater one goes right. -/
theorem pis_k3 (S : SeqSpec E cs v) (hc : CmpSpec C v c f h0) (ho : Rw E cs h0 h x G R) (hl : G.length ≤ 100000000) (hi0 : 0 < i) (hi : i < b) (hb : b ≤ G.length) (hs : s ≤ 5)
    (hY : ∀ h' G', Within i b G G' → Rw E cs h0 h' x G' R → Y1 [.int .i64 (i : Int), .int .i64 ((s + 1 : Nat) : Int)] h') :
    slices_partialInsertionSortCmpFuncG.k3 C E Q Y1 x (.int .i64 (a : Int)) (.int .i64 (b : Int)) f (.int .i64 (i : Int)) (.int .i64 (s : Int)) h := by
  have hge : V.bin .geq (.int .i64 ((b - i : Nat) : Int)) (.int .i64 2) = some (.bool (decide (2 ≤ b - i))) := geqN (b := 2)
  simp -dsimp only [slices_partialInsertionSortCmpFuncG.k3, subNN (show i ≤ b by omega) (by omega), hge, add1 (show s < 4611686018427387904 by omega), add1 (show i < 4611686018427387904 by omega), B.pv_some]
  refine B.cond_bool (fun hd => ?_) (fun hd => ?_)
  rotate_left
  · simp -dsimp only [add1 (show s < 4611686018427387904 by omega), B.pv_some]
    exact hY h G (Within.refl _ _ _) ho
  rw [decide_eq_true_eq] at hd
  simp -dsimp only [add1 (show i < 4611686018427387904 by omega), B.pv_some]
  refine LoopR.intro (fun t vs hh => ∃ (j : Nat) (G' : List X), j + t = b ∧ vs = [.int .i64 (j : Int)] ∧ i < j ∧ Within i b G G' ∧ Rw E cs h0 hh x G' R) (b - (i + 1)) ?_ ⟨i + 1, G, by omega, rfl, by omega, Within.refl _ _ _, ho⟩
  rintro Y t vs hh ⟨j, G1, hjt, rfl, hij, W1, o⟩ hY2
  have hlen := W1.len
  simp -dsimp only [slices_partialInsertionSortCmpFuncG.l2, slices_partialInsertionSortCmpFuncG.k1, lssN, B.pv_some]
  refine B.cond_bool (fun he => ?_) (fun he => ?_)
  · rw [decide_eq_true_eq] at he
    have lj : j < G1.length := by omega
    have lj1 : j - 1 < G1.length := by omega
    have sj := sub1 (a := j) (by omega) (by omega)
    simp -dsimp only [sj, o.idx lj, o.idx lj1, B.pv_some]
    refine o.ld S (List.getElem?_eq_getElem lj) ?_
    refine o.ld S (List.getElem?_eq_getElem lj1) ?_
    refine hc.call _ _ _ _ o.le ?_
    simp -dsimp only [V.bin_lss, V.un_not, B.pv_some]
    refine B.cond_bool (fun hd => ?_) (fun hd => ?_)
    · simp -dsimp only [add1 (show s < 4611686018427387904 by omega), B.pv_some]
      exact hY hh G1 W1 o
    · simp -dsimp only [sj, o.idx lj, o.idx lj1, B.pv_some]
      refine o.ld S (List.getElem?_eq_getElem lj1) ?_
      refine o.ld S (List.getElem?_eq_getElem lj) ?_
      refine o.swap S lj lj1 fun h2 o2 => ?_
      simp -dsimp only [add1 (show j < 4611686018427387904 by omega), B.pv_some]
      exact hY2 (b - (j + 1)) _ _ (by omega) ⟨j + 1, _, by omega, rfl, by omega, W1.trans (swp_within lj lj1 (by omega) (by omega) (by omega) (by omega)), o2⟩
  · simp -dsimp only [add1 (show s < 4611686018427387904 by omega), B.pv_some]
    exact hY hh G1 W1 o
/-- The lesser one goes left. -/
theorem pis_k6 (S : SeqSpec E cs v) (W : Weak (lessC c)) (hc : CmpSpec C v c f h0) (ho : Rw E cs h0 h x G R) (hl : G.length ≤ 100000000) (hai : a < i) (hi : i < b) (hb : b ≤ G.length) (hs : s ≤ 5) (hp : Pre c a b G) (h1 : But1 c a i (i - 1) G)
    (hY : ∀ h' G', Within a b G G' → Srt c a i G' → Rw E cs h0 h' x G' R → Y1 [.int .i64 (i : Int), .int .i64 ((s + 1 : Nat) : Int)] h') :
    slices_partialInsertionSortCmpFuncG.k6 C E Q Y1 x (.int .i64 (a : Int)) (.int .i64 (b : Int)) f (.int .i64 (i : Int)) (.int .i64 (s : Int)) h := by
  have fin : ∀ {hh G1}, Rw E cs h0 hh x G1 R → Within a b G G1 → Srt c a i G1 → slices_partialInsertionSortCmpFuncG.k3 C E Q Y1 x (.int .i64 (a : Int)) (.int .i64 (b : Int)) f (.int .i64 (i : Int)) (.int .i64 (s : Int)) hh := fun {hh G1} o W1 s1 => by
    have l1 := W1.len
    refine pis_k3 S hc o (by omega) (by omega) hi (by omega) hs fun h2 G2 W2 o2 => hY h2 G2 (W1.trans (W2.mono (by omega) (Nat.le_refl _))) (fun p q h1 h2 h3 h4 h5 => ?_) o2
    have l2 := W2.len
    rw [W2.same (k := p) (.inl (by omega)) h4 (by omega), W2.same (k := q) (.inl (by omega)) h5 (by omega)]
    exact s1 p q h1 h2 h3 _ _
  have hge : V.bin .geq (.int .i64 ((i - a : Nat) : Int)) (.int .i64 2) = some (.bool (decide (2 ≤ i - a))) := geqN (b := 2)
  simp -dsimp only [slices_partialInsertionSortCmpFuncG.k6, subNN (show a ≤ i by omega) (by omega), hge, sub1 (show 1 ≤ i by omega) (by omega), B.pv_some]
  refine B.cond_bool (fun hd => ?_) (fun hd => ?_)
  · simp -dsimp only [sub1 (show 1 ≤ i by omega) (show i < 4611686018427387904 by omega), B.pv_some]
    refine LoopR.intro (fun t vs hh => ∃ (G' : List X), vs = [.int .i64 (t : Int)] ∧ a ≤ t ∧ t < i ∧ But1 c a i t G' ∧ Within a b G G' ∧ Rw E cs h0 hh x G' R) (i - 1) ?_ ⟨G, rfl, by omega, by omega, h1, Within.refl _ _ _, ho⟩
    rintro Y j vs hh ⟨G1, rfl, haj, hji, b1, W1, o⟩ hY2
    have hlen := W1.len
    have lj : j < G1.length := by omega
    have hg1 : V.bin .geq (.int .i64 (j : Int)) (.int .i64 1) = some (.bool (decide (1 ≤ j))) := geqN (b := 1)
    simp -dsimp only [slices_partialInsertionSortCmpFuncG.l5, slices_partialInsertionSortCmpFuncG.k4, hg1, B.pv_some]
    refine B.cond_bool (fun he => ?_) (fun he => ?_)
    · rw [decide_eq_true_eq] at he
      have lj1 : j - 1 < G1.length := by omega
      have sj := sub1 (a := j) (by omega) (by omega)
      simp -dsimp only [sj, o.idx lj, o.idx lj1, B.pv_some]
      refine o.ld S (List.getElem?_eq_getElem lj) ?_
      refine o.ld S (List.getElem?_eq_getElem lj1) ?_
      refine hc.call _ _ _ _ o.le ?_
      simp -dsimp only [V.bin_lss, V.un_not, B.pv_some]
      refine B.cond_bool (fun hd => ?_) (fun hd => ?_)
      · exact fin o W1 (b1.done W lj (.inr fun _ => by simpa using hd))
      · have hlt : c G1[j] G1[j - 1] < 0 := by simpa using hd
        have haj2 : a < j := by
          rcases Nat.lt_or_ge a j with k | k
          · exact k
          · have : j = a := by omega
            subst this
            exact absurd hlt ((hp.within W1) (by omega) j (Nat.le_refl _) (by omega) _ _)
        simp -dsimp only [sj, o.idx lj, o.idx lj1, B.pv_some]
        refine o.ld S (List.getElem?_eq_getElem lj1) ?_
        refine o.ld S (List.getElem?_eq_getElem lj) ?_
        refine o.swap S lj lj1 fun h2 o2 => ?_
        exact hY2 (j - 1) _ _ (by omega) ⟨_, rfl, by omega, by omega, b1.step W haj2 lj lj1 hlt, W1.trans (swp_within lj lj1 (by omega) (by omega) (by omega) (by omega)), o2⟩
    · rw [decide_eq_false_iff_not] at he
      exact fin o W1 (b1.done W lj (.inl (by omega)))
  · rw [decide_eq_false_iff_not] at hd
    exact fin ho (Within.refl _ _ _) fun p q _ _ _ _ _ => by omega
/-- Some shifts: true if the range is in order then. -/
theorem partialInsertionSort_spec (S : SeqSpec E cs v) (W : Weak (lessC c)) (hc : CmpSpec C v c f h0) (ho : Rw E cs h0 h x G R) (hl : G.length ≤ 100000000) (hab : a < b) (hb : b ≤ G.length) (hp : Pre c a b G)
    (hq : ∀ h' G' t, Within a b G G' → (t = true → Srt c a b G') → Rw E cs h0 h' x G' R → Q (.bool t) h') :
    slices_partialInsertionSortCmpFuncG.cps C E x (.int .i64 (a : Int)) (.int .i64 (b : Int)) f h Q := by
  simp -dsimp only [slices_partialInsertionSortCmpFuncG.cps, add1 (show a < 4611686018427387904 by omega), B.pv_some]
  refine LoopR.intro (fun t vs hh => ∃ (s i : Nat) (G' : List X), s + t = 5 ∧ vs = [.int .i64 (i : Int), .int .i64 (s : Int)] ∧ a < i ∧ i ≤ b ∧ Srt c a i G' ∧ Within a b G G' ∧ Rw E cs h0 hh x G' R) 5 ?_ ⟨0, a + 1, G, rfl, rfl, by omega, by omega, fun p q _ _ _ _ _ => by omega, Within.refl _ _ _, ho⟩
  rintro Y t vs hh ⟨s, i, G1, hst, rfl, hai, hib, s1, W1, o⟩ hY
  have hl1 := W1.len
  have h5 : V.bin .lss (.int .i64 (s : Int)) (.int .i64 5) = some (.bool (decide (s < 5))) := lssN (b := 5)
  simp -dsimp only [slices_partialInsertionSortCmpFuncG.l12, slices_partialInsertionSortCmpFuncG.k11, h5, B.pv_some]
  refine B.cond_bool (fun hd => ?_) (fun hd => hq hh G1 false W1 (fun h => by cases h) o)
  rw [decide_eq_true_eq] at hd
  refine LoopR.intro (fun t vs hh => ∃ (i : Nat), i + t = b ∧ vs = [.int .i64 (i : Int)] ∧ a < i ∧ Srt c a i G1 ∧ Rw E cs h0 hh x G1 R) (b - i) ?_ ⟨i, by omega, rfl, hai, s1, o⟩
  rintro Z t vs hh ⟨i, hit, rfl, hai, s2, o2⟩ hZ
  simp -dsimp only [slices_partialInsertionSortCmpFuncG.l10, slices_partialInsertionSortCmpFuncG.k9, lssN, B.pv_some]
  by_cases hd2 : i < b
  · have li : i < G1.length := by omega
    have li1 : i - 1 < G1.length := by omega
    have si := sub1 (a := i) (by omega) (by omega)
    simp -dsimp only [hd2, decide_true, B.gd_t, B.gdb_true, si, o2.idx li, o2.idx li1, B.pv_some]
    refine o2.ld S (List.getElem?_eq_getElem li) ?_
    refine o2.ld S (List.getElem?_eq_getElem li1) ?_
    refine hc.call _ _ _ _ o2.le ?_
    simp -dsimp only [hd2, decide_true, B.gd_t, B.gdb_true, V.bin_lss, V.un_not, B.pick_t, B.pv_some]
    refine B.cond_bool (fun he => ?_) (fun he => ?_)
    · have hnl : ¬ c G1[i] G1[i - 1] < 0 := by simpa using he
      simp -dsimp only [add1 (show i < 4611686018427387904 by omega), B.pv_some]
      refine hZ (t - 1) _ _ (by omega) ⟨i + 1, by omega, rfl, by omega, ?_, o2⟩
      exact But1.done W (j := i) (fun p q h1 h2 h3 h4 h5 h6 => s2 p q h1 h2 (by omega) h5 h6) li (.inr fun _ => hnl)
    · have hlt : c G1[i] G1[i - 1] < 0 := by simpa using he
      have hne : V.bin .eql (.int .i64 (i : Int)) (.int .i64 (b : Int)) = some (.bool false) := by rw [V.bin_eql]; simp; omega
      simp -dsimp only [hne, B.pv_some, B.cond_false, slices_partialInsertionSortCmpFuncG.k8, slices_partialInsertionSortCmpFuncG.k7, subNN (show a ≤ b by omega) (show b < 4611686018427387904 by omega)]
      rw [show V.bin .lss (.int .i64 ((b - a : Nat) : Int)) (.int .i64 50) = some (.bool (decide (b - a < 50))) from lssN (b := 50)]
      simp -dsimp only [B.pv_some]
      refine B.cond_bool (fun hf => hq hh G1 false W1 (fun h => by cases h) o2) (fun hf => ?_)
      simp -dsimp only [slices_partialInsertionSortCmpFuncG.k7, si, o2.idx li, o2.idx li1, B.pv_some]
      refine o2.ld S (List.getElem?_eq_getElem li1) ?_
      refine o2.ld S (List.getElem?_eq_getElem li) ?_
      refine o2.swap S li li1 fun h3 o3 => ?_
      have hsl := swp_len li li1
      have w3 : Within a b G1 (swp G1 i (i - 1) li li1) := swp_within li li1 (by omega) (by omega) (by omega) (by omega)
      have W3 := W1.trans w3
      refine pis_k6 S W hc o3 (by omega) hai hd2 (by omega) (by omega) (hp.within W3) (fun p q h1 h2 h3 h4 h5 h6 => ?_) fun h4 G4 W4 s4 o4 => hY (5 - (s + 1)) _ _ (by omega) ⟨s + 1, i, G4, by omega, rfl, hai, by omega, s4, W3.trans W4, o4⟩
      rw [swp_at li li1 h6 (by omega), if_neg h4, if_neg (by omega), swp_at li li1 h5 (by omega), if_neg (by omega), if_neg (by omega)]
      exact s2 p q h1 h2 h3 _ _
  · have e : i = b := by omega
    subst e
    have heq : V.bin .eql (.int .i64 (i : Int)) (.int .i64 (i : Int)) = some (.bool true) := by rw [V.bin_eql]; simp
    simp -dsimp only [hd2, decide_false, B.gd_t, B.gdb_false, B.pick_f, B.cond_false, heq, B.cond_true, B.pv_some]
    exact hq hh G1 true W1 (fun _ => s2) o2
end
end Go.Ab

/- What is proved: contracts of answers' bytes, the program's and the document's. No conditions. -/
set_option linter.unusedVariables false
set_option linter.unusedSimpArgs false
namespace Go.Ab
variable {C : CSem} {N : Nat → Nat}

end Go.Ab

/- What is proved: contracts of what reads answers' bytes, the program's and the document's. No conditions. -/
set_option linter.unusedVariables false
set_option linter.unusedSimpArgs false
namespace Go.Ab
variable {C : CSem} {N : Nat → Nat}

theorem bin_shl {k j : IntKind} {a b : Int} (h0 : 0 ≤ b) (h1 : b < k.bits) : V.bin .shl (.int k a) (.int j b) = some (.int k (k.wrap (a * 2 ^ b.toNat))) := by
  simp only [V.bin, V.shift]
  rw [if_neg (by omega), Nat.min_eq_left (by omega)]
end Go.Ab

/- What is proved: the library's quick sort, generic: numbers of bits; some places are exchanged at random. No conditions. -/
set_option linter.unusedVariables false
set_option linter.unusedSimpArgs false
namespace Go.Ab
variable {C : CSem} {N : Nat → Nat}
theorem V.bin_xor (k : IntKind) (a b : Int) : V.bin .xor (.int k a) (.int k b) = some (.int k (k.wrap (BitVec.ofInt k.bits a ^^^ BitVec.ofInt k.bits b).toNat)) := by simp [V.bin, V.arith]
theorem V.bin_and (k : IntKind) (a b : Int) : V.bin .and (.int k a) (.int k b) = some (.int k (k.wrap (BitVec.ofInt k.bits a &&& BitVec.ofInt k.bits b).toNat)) := by simp [V.bin, V.arith]
theorem wrapU {n : Nat} (h : n < 18446744073709551616) : IntKind.u64.wrap (n : Int) = n := by rw [wrap_u64]; omega
theorem toUN {n : Nat} (h : n < 18446744073709551616) : V.toInt .u64 (.int .i64 (n : Int)) = some (.int .u64 (n : Int)) := by rw [V.toInt_int, wrapU h]
theorem toIN {k : IntKind} {n : Nat} (h : n < 4611686018427387904) : V.toInt .i64 (.int k (n : Int)) = some (.int .i64 (n : Int)) := by rw [V.toInt_int, wrap_i64 (by omega) (by omega)]
theorem and_le {z : Int} {m : Nat} (h : m < 4611686018427387904) : ∃ o : Nat, o ≤ m ∧ V.bin .and (.int .u64 z) (.int .u64 (m : Int)) = some (.int .u64 (o : Int)) := by
  refine ⟨(BitVec.ofInt 64 z &&& BitVec.ofInt 64 (m : Int)).toNat, ?_, ?_⟩
  · rw [BitVec.toNat_and]
    refine Nat.le_trans Nat.and_le_right ?_
    rw [BitVec.toNat_ofInt]; omega
  · rw [V.bin_and]
    show some (AVal.int .u64 (IntKind.u64.wrap ((BitVec.ofInt 64 z &&& BitVec.ofInt 64 (m : Int)).toNat : Int))) = _
    rw [wrapU (BitVec.isLt _)]
def lenT : List UInt8 := [0, 1, 2, 2, 3, 3, 3, 3, 4, 4, 4, 4, 4, 4, 4, 4, 5, 5, 5, 5, 5, 5, 5, 5, 5, 5, 5, 5, 5, 5, 5, 5, 6, 6, 6, 6, 6, 6, 6, 6, 6, 6, 6, 6, 6, 6, 6, 6, 6, 6, 6, 6, 6, 6, 6, 6, 6, 6, 6, 6, 6, 6, 6, 6, 7, 7, 7, 7, 7, 7, 7, 7, 7, 7, 7, 7, 7, 7, 7, 7, 7, 7, 7, 7, 7, 7, 7, 7, 7, 7, 7, 7, 7, 7, 7, 7, 7, 7, 7, 7, 7, 7, 7, 7, 7, 7, 7, 7, 7, 7, 7, 7, 7, 7, 7, 7, 7, 7, 7, 7, 7, 7, 7, 7, 7, 7, 7, 7, 8, 8, 8, 8, 8, 8, 8, 8, 8, 8, 8, 8, 8, 8, 8, 8, 8, 8, 8, 8, 8, 8, 8, 8, 8, 8, 8, 8, 8, 8, 8, 8, 8, 8, 8, 8, 8, 8, 8, 8, 8, 8, 8, 8, 8, 8, 8, 8, 8, 8, 8, 8, 8, 8, 8, 8, 8, 8, 8, 8, 8, 8, 8, 8, 8, 8, 8, 8, 8, 8, 8, 8, 8, 8, 8, 8, 8, 8, 8, 8, 8, 8, 8, 8, 8, 8, 8, 8, 8, 8, 8, 8, 8, 8, 8, 8, 8, 8, 8, 8, 8, 8, 8, 8, 8, 8, 8, 8, 8, 8, 8, 8, 8, 8, 8, 8, 8, 8, 8, 8, 8, 8, 8, 8, 8, 8, 8, 8]
theorem idxStr_u8 {s : List UInt8} {k : Nat} {b : UInt8} (hb : s[k]? = some b) : V.idxStr (.str s) (.int .u8 (k : Int)) = some (.int .u8 b.toNat) := by
  simp [V.idxStr, hb]
theorem lenT_all : ∀ k : Fin 256, ∃ b : Fin 9, lenT[k.val]? = some (UInt8.ofNat b.val) ∧ (0 < k.val → 2 ^ b.val ≤ 2 * k.val) := by decide +kernel
theorem lenTab {k : Nat} (h : k < 256) : ∃ b : Nat, V.idxStr (.str lenT) (.int .u8 (k : Int)) = some (.int .u8 (b : Int)) ∧ b ≤ 8 ∧ (0 < k → 2 ^ b ≤ 2 * k) := by
  obtain ⟨b, e, hb⟩ := lenT_all ⟨k, h⟩
  have hb9 := b.isLt
  refine ⟨b.val, ?_, by omega, hb⟩
  rw [idxStr_u8 e]
  congr 2
  rw [UInt8.toNat_ofNat', Nat.mod_eq_of_lt (by omega)]
theorem Len64_k1 {Q : AVal → AHeap → Prop} {v0 v2 : AVal} {h : AHeap} : math_bits_Len64.k1 C N Q v0 v2 h = (B.pv (V.toInt .u8 v0) fun v21 =>
    B.pv (V.idxStr (.str lenT) v21) fun v22 =>
    B.pv (V.toInt .i64 v22) fun v23 =>
    B.pv (V.bin .add v2 v23) fun v24 =>
    Q v24 h) := rfl
theorem Len64_spec {x : Nat} (hx : x ≤ 100000000) {h : AHeap} {Q : AVal → AHeap → Prop} (hq : ∀ r : Nat, r ≤ 32 → (0 < x → 2 ^ r ≤ 2 * x) → Q (.int .i64 (r : Int)) h) : math_bits_Len64.cps C N (.int .u64 (x : Int)) h Q := by
  have fin : ∀ (y s : Nat), y < 256 → s ≤ 24 → (0 < x → 0 < y) → 2 ^ s * y ≤ x → math_bits_Len64.k1 C N Q (.int .u64 (y : Int)) (.int .i64 (s : Int)) h := fun y s hy hs h0 hle => by
    obtain ⟨b, e, hb, hp⟩ := lenTab hy
    have e1 : V.toInt .u8 (.int .u64 (y : Int)) = some (.int .u8 (y : Int)) := by rw [V.toInt_int, wrap_u8]; congr 2; omega
    rw [Len64_k1]
    simp -dsimp only [e1, B.pv_some, e, toIN (show b < 4611686018427387904 by omega), addNN (show s + b < 4611686018427387904 by omega)]
    refine hq (s + b) (by omega) fun hx0 => ?_
    have h1 := hp (h0 hx0)
    have h2 : 2 ^ s * 2 ^ b ≤ 2 ^ s * (2 * y) := Nat.mul_le_mul_left _ h1
    rw [Nat.pow_add]
    have h3 : 2 ^ s * (2 * y) = 2 * (2 ^ s * y) := by rw [Nat.mul_left_comm]
    omega
  have sh : ∀ (y j : Nat), j < 64 → V.bin .shr (.int .u64 (y : Int)) (.int .u64 (j : Int)) = some (.int .u64 ((y / 2 ^ j : Nat) : Int)) := fun y j hj => by
    rw [bin_shr (by omega) (by simp [IntKind.bits]; omega), Int.toNat_natCast]
    congr 2
    rw [Int.fdiv_eq_ediv_of_nonneg _ (by exact_mod_cast Nat.zero_le (2 ^ j))]
    simp
  have g3 : V.bin .geq (.int .u64 (x : Int)) (.int .u64 4294967296) = some (.bool false) := by rw [V.bin_geq]; simp; omega
  have gk : ∀ y m : Nat, V.bin .geq (.int .u64 (y : Int)) (.int .u64 (m : Int)) = some (.bool (decide (m ≤ y))) := fun y m => by rw [V.bin_geq]; congr 3; exact propext (by omega)
  have low : ∀ (y s : Nat), y < 65536 → s ≤ 16 → (0 < x → 0 < y) → 2 ^ s * y ≤ x → math_bits_Len64.k2 C N Q (.int .u64 (y : Int)) (.int .i64 (s : Int)) h := fun y s hy hs h0 hle => by
    have g1 : V.bin .geq (.int .u64 (y : Int)) (.int .u64 256) = some (.bool (decide (256 ≤ y))) := gk y 256
    have s1 : V.bin .shr (.int .u64 (y : Int)) (.int .u64 8) = some (.int .u64 ((y / 2 ^ 8 : Nat) : Int)) := sh y 8 (by omega)
    have a1 : V.bin .add (.int .i64 (s : Int)) (.int .i64 8) = some (.int .i64 ((s + 8 : Nat) : Int)) := addNN (a := s) (b := 8) (by omega)
    simp -dsimp only [math_bits_Len64.k2, g1, B.pv_some]
    refine B.cond_bool (fun hd => ?_) (fun hd => ?_)
    · rw [decide_eq_true_eq] at hd
      simp -dsimp only [s1, a1, B.pv_some]
      refine fin (y / 2 ^ 8) (s + 8) (by omega) (by omega) (fun _ => by omega) ?_
      rw [Nat.pow_add, Nat.mul_assoc]
      refine Nat.le_trans (Nat.mul_le_mul_left _ ?_) hle
      omega
    · rw [decide_eq_false_iff_not] at hd
      exact fin y s (by omega) (by omega) h0 hle
  have g2 : V.bin .geq (.int .u64 (x : Int)) (.int .u64 65536) = some (.bool (decide (65536 ≤ x))) := gk x 65536
  have s2 : V.bin .shr (.int .u64 (x : Int)) (.int .u64 16) = some (.int .u64 ((x / 2 ^ 16 : Nat) : Int)) := sh x 16 (by omega)
  simp -dsimp only [math_bits_Len64.cps, math_bits_Len64.k4, math_bits_Len64.k3, g3, g2, s2, B.pv_some, B.cond_false]
  refine B.cond_bool (fun hd => ?_) (fun hd => ?_)
  · rw [decide_eq_true_eq] at hd
    simp -dsimp only [s2, show V.bin .add (.int .i64 0) (.int .i64 16) = some (.int .i64 ((16 : Nat) : Int)) from rfl, B.pv_some]
    exact low (x / 2 ^ 16) 16 (by omega) (by omega) (fun _ => by omega) (by omega)
  · rw [decide_eq_false_iff_not] at hd
    exact low x 0 (by omega) (by omega) id (by simp)
theorem Len_spec (i : math_bits_Len64.Imp C N) {x : Nat} (hx : x ≤ 100000000) {h : AHeap} {Q : AVal → AHeap → Prop} (hq : ∀ r : Nat, r ≤ 32 → (0 < x → 2 ^ r ≤ 2 * x) → Q (.int .i64 (r : Int)) h) : math_bits_Len.cps C N (.int .u64 (x : Int)) h Q := by
  simp -dsimp only [math_bits_Len.cps, math_bits_Len.k1, B.cond_false]
  exact i _ _ _ (Len64_spec hx fun r h1 h2 => dn_same (hq r h1 h2))
/-- What is asked of bits.Len. -/
def LenI (C : CSem) (f : Nat) : Prop := ∀ (x : Nat) (h : AHeap) (Q : AVal → AHeap → Prop), x ≤ 100000000 → (∀ r : Nat, r ≤ 32 → (0 < x → 2 ^ r ≤ 2 * x) → Q (.int .i64 (r : Int)) h) → C f [.int .u64 (x : Int)] h Q
theorem math_bits_Len.spec (i : math_bits_Len.Imp C N) (i2 : math_bits_Len64.Imp C N) : LenI C (N 287) := fun x h Q hx hq => i _ _ _ (Len_spec i2 hx fun r h1 h2 => dn_same (hq r h1 h2))
/-- What is asked of nextPowerOfTwo. -/
def PowI (C : CSem) (f : Nat) : Prop := ∀ (n : Nat) (h : AHeap) (Q : AVal → AHeap → Prop), 0 < n → n ≤ 100000000 → (∀ m : Nat, 0 < m → m ≤ 2 * n → Q (.int .u64 (m : Int)) h) → C f [.int .i64 (n : Int)] h Q
theorem slices_nextPowerOfTwo.spec (i : slices_nextPowerOfTwo.Imp C N) (hl : LenI C (N 287)) : PowI C (N 299) := fun n h Q h0 hn hq => by
  apply i
  simp -dsimp only [slices_nextPowerOfTwo.cps, toUN (show n < 18446744073709551616 by omega), B.pv_some]
  refine hl n h _ hn fun r hr hp => ?_
  have e : V.bin .shl (.int .u64 1) (.int .i64 (r : Int)) = some (.int .u64 ((2 ^ r : Nat) : Int)) := by
    rw [bin_shl (by omega) (by simp [IntKind.bits]; omega), Int.toNat_natCast]
    have : (1 : Int) * 2 ^ r = ((2 ^ r : Nat) : Int) := by simp
    rw [this, wrapU]
    have := hp h0
    omega
  simp -dsimp only [e, B.pv_some]
  exact dn_same (hq (2 ^ r) (Nat.pos_of_ne_zero (by simp)) (hp h0))
/-- What is asked of xorshift.Next. -/
def NextI (C : CSem) (f : Nat) : Prop := ∀ (h0 h : AHeap) (p : AVal) (n : Int) (Q : AVal → AHeap → Prop), Owns h0 h [.box p [.int .u64 n]] → (∀ m m' h', Owns h0 h' [.box p [.int .u64 m']] → Q (.int .u64 m) h') → C f [p] h Q
theorem slices_xorshift_Next.spec (i : slices_xorshift_Next.Imp C N) : NextI C (N 298) := fun h0 h p n Q ho hq => by
  have key : ∀ {h : AHeap} {n : Int}, Owns h0 h [.box p [.int .u64 n]] → ∃ id, p = .ptr id 0 0 ∧ A.ldv h (.ptr id 0 0) = some (.int .u64 n) := fun {h n} ho => by
    obtain ⟨id, rfl, hb⟩ := ho.boxAt 0 rfl
    exact ⟨id, rfl, by rw [ldv_at hb]; rfl⟩
  apply i
  obtain ⟨id, rfl, ld⟩ := key ho
  simp -dsimp only [slices_xorshift_Next.cps, slices_xorshift_Next.k1, B.nilCheck_ptr, B.ld_eq, ld, B.pv_some, bin_shl (k := .u64) (j := .u64) (b := 13) (by omega) (by simp [IntKind.bits]), V.bin_xor]
  refine ho.boxSt 0 (off := 0) rfl rfl (by simp) fun h1 o1 _ => ?_
  simp only [List.set_cons_zero] at o1
  obtain ⟨id1, e, ld1⟩ := key o1
  cases e
  simp -dsimp only [B.nilCheck_ptr, B.ld_eq, ld1, B.pv_some, bin_shr (k := .u64) (j := .u64) (b := 7) (by omega) (by simp [IntKind.bits]), V.bin_xor]
  refine o1.boxSt 0 (off := 0) rfl rfl (by simp) fun h2 o2 _ => ?_
  simp only [List.set_cons_zero] at o2
  obtain ⟨id2, e, ld2⟩ := key o2
  cases e
  simp -dsimp only [B.nilCheck_ptr, B.ld_eq, ld2, B.pv_some, bin_shl (k := .u64) (j := .u64) (b := 17) (by omega) (by simp [IntKind.bits]), V.bin_xor]
  refine o2.boxSt 0 (off := 0) rfl rfl (by simp) fun h3 o3 _ => ?_
  simp only [List.set_cons_zero] at o3
  obtain ⟨id3, e, ld3⟩ := key o3
  cases e
  simp -dsimp only [B.nilCheck_ptr, B.ld_eq, ld3, B.pv_some]
  exact dn_same (hq _ _ _ o3)
section
variable {E : ElOps} {X : Type} {cs : X → List AVal} {v : X → AVal} {h0 h : AHeap} {x f : AVal} {G : List X} {R : List (List AVal)} {Q : AVal → AHeap → Prop} {a b : Nat}
/-- Some are exchanged at random. -/
theorem breakPatterns_spec {f1 f2 : Nat} (hn : NextI C f1) (hp : PowI C f2) (S : SeqSpec E cs v) (ho : Rw E cs h0 h x G R) (hl : G.length ≤ 100000000) (hab : a ≤ b) (hb : b ≤ G.length)
    (hq : ∀ h' G', Within a b G G' → Rw E cs h0 h' x G' R → Q (.tup []) h') : slices_breakPatternsCmpFuncG.cps C E f1 f2 x (.int .i64 (a : Int)) (.int .i64 (b : Int)) f h Q := by
  obtain ⟨n, en⟩ : ∃ n, n = b - a := ⟨_, rfl⟩
  have e1 := subNN hab (show b < 4611686018427387904 by omega)
  rw [← en] at e1
  have g8 : V.bin .geq (.int .i64 (n : Int)) (.int .i64 8) = some (.bool (decide (8 ≤ n))) := geqN (b := 8)
  simp -dsimp only [slices_breakPatternsCmpFuncG.cps, slices_breakPatternsCmpFuncG.k8, e1, g8, B.pv_some]
  refine B.cond_bool (fun hd => ?_) (fun hd => hq h G (Within.refl _ _ _) ho)
  rw [decide_eq_true_eq] at hd
  simp -dsimp only [slices_breakPatternsCmpFuncG.k7, toUN (show n < 18446744073709551616 by omega), B.pv_some]
  intro id hid
  have o := Owns.newBox ho hid [.int .u64 0]
  simp only [List.cons_append, List.nil_append] at o
  refine o.boxSt 1 (off := 0) rfl rfl (by simp) fun h1 o1 _ => ?_
  simp only [List.set_cons_succ, List.set_cons_zero] at o1
  refine hp n _ _ (by omega) (by omega) fun m hm0 hm => ?_
  have m4 : V.bin .quo (.int .i64 (n : Int)) (.int .i64 4) = some (.int .i64 ((n / 4 : Nat) : Int)) := quo4 (by omega)
  have m2 : V.bin .mul (.int .i64 ((n / 4 : Nat) : Int)) (.int .i64 2) = some (.int .i64 ((n / 4 * 2 : Nat) : Int)) := mulN (a := n / 4) (b := 2) (by omega)
  have m5 : V.bin .add (.int .i64 (a : Int)) (.int .i64 ((n / 4 * 2 : Nat) : Int)) = some (.int .i64 ((a + n / 4 * 2 : Nat) : Int)) := addNN (by omega)
  simp -dsimp only [slices_breakPatternsCmpFuncG.k6, m4, m2, m5, sub1 (show 1 ≤ a + n / 4 * 2 by omega) (by omega), B.pv_some]
  refine LoopR.intro (fun t vs hh => ∃ (i : Nat) (G' : List X) (z : Int), i + t = a + n / 4 * 2 + 2 ∧ vs = [.int .i64 (i : Int)] ∧ a ≤ i ∧ Within a b G G' ∧ Owns h0 hh [.sl E.es x (G'.map cs) R, .box (.ptr id 0 0) [.int .u64 z]]) 3 ?_ ⟨a + n / 4 * 2 - 1, G, _, by omega, rfl, by omega, Within.refl _ _ _, o1⟩
  rintro Y t vs hh ⟨i, G1, z, hit, rfl, hai, W1, o2⟩ hY
  have l1 := W1.len
  simp -dsimp only [slices_breakPatternsCmpFuncG.l5, slices_breakPatternsCmpFuncG.k4, m4, m2, m5, add1 (show a + n / 4 * 2 < 4611686018427387904 by omega), leqN, B.pv_some]
  refine B.cond_bool (fun he => ?_) (fun he => hq hh G1 W1 (o2.sub (by simp)))
  rw [decide_eq_true_eq] at he
  have oo := Owns.out (l1 := [.sl E.es x (G1.map cs) R]) (l2 := [.box (.ptr id 0 0) [.int .u64 z]]) o2
  simp -dsimp only [slices_breakPatternsCmpFuncG.k3]
  refine hn _ _ _ _ _ oo.2 fun w z' h3 o3 => ?_
  have o4 := oo.1.join o3
  have s1 : V.bin .sub (.int .u64 (m : Int)) (.int .u64 1) = some (.int .u64 ((m - 1 : Nat) : Int)) := by
    rw [V.bin_sub, show (m : Int) - 1 = ((m - 1 : Nat) : Int) by omega, wrapU (by omega)]
  obtain ⟨ot, hot, ea⟩ := and_le (z := w) (m := m - 1) (by omega)
  simp -dsimp only [s1, ea, toIN (show ot < 4611686018427387904 by omega), B.pv_some, slices_breakPatternsCmpFuncG.k2, geqN]
  have fin : ∀ k : Nat, k < n → slices_breakPatternsCmpFuncG.k1 C E f1 f2 Q Y x (.int .i64 (a : Int)) (.int .i64 (n : Int)) (.ptr id 0 0) (.int .u64 (m : Int)) (.int .i64 (i : Int)) (.int .i64 (k : Int)) h3 := fun k hk => by
    have la : a + k < G1.length := by omega
    have li : i < G1.length := by omega
    have op := Owns.perm o4 (List.Perm.swap _ _ [])
    have oq := Owns.out (l1 := [.box (.ptr id 0 0) [.int .u64 z']]) (l2 := [.sl E.es x (G1.map cs) R]) op
    have orw : Rw E cs _ h3 x G1 R := oq.2
    simp -dsimp only [slices_breakPatternsCmpFuncG.k1, addNN (show a + k < 4611686018427387904 by omega), orw.idx la, orw.idx li, B.pv_some]
    refine orw.ld S (List.getElem?_eq_getElem la) ?_
    refine orw.ld S (List.getElem?_eq_getElem li) ?_
    refine orw.swap S li la fun h5 o5 => ?_
    simp -dsimp only [add1 (show i < 4611686018427387904 by omega), B.pv_some]
    have o6 := oq.1.join o5
    exact hY (a + n / 4 * 2 + 2 - (i + 1)) _ _ (by omega) ⟨i + 1, _, z', by omega, rfl, by omega, W1.trans (swp_within li la (by omega) (by omega) (by omega) (by omega)), o6.perm (List.Perm.swap _ _ [])⟩
  refine B.cond_bool (fun hf => ?_) (fun hf => ?_)
  · rw [decide_eq_true_eq] at hf
    simp -dsimp only [subNN hf (show ot < 4611686018427387904 by omega), B.pv_some]
    exact fin (ot - n) (by omega)
  · rw [decide_eq_false_iff_not] at hf
    exact fin ot (by omega)
end
end Go.Ab

/- What is proved: the library's quick sort, generic: a range is put in order. No conditions. -/
set_option linter.unusedVariables false
set_option linter.unusedSimpArgs false
namespace Go.Ab
variable {C : CSem}
section
variable {X : Type} {c : X → X → Int} {a b m A0 Z0 : Nat} {G G' : List X}
theorem le_of (W : Weak (lessC c)) {x y z : X} (h1 : ¬ c x y < 0) (h2 : ¬ c y z < 0) : ¬ c x z < 0 := by
  have := W.ntrans (a := x) (b := y) (c := z) (by unfold lessC; exact decide_eq_false h1) (by unfold lessC; exact decide_eq_false h2)
  unfold lessC at this; exact of_decide_eq_false this
theorem nlt_of (W : Weak (lessC c)) {x y : X} (h : c x y < 0) : ¬ c y x < 0 := by
  have := W.asym (a := x) (b := y) (by unfold lessC; exact decide_eq_true h)
  unfold lessC at this; exact of_decide_eq_false this
theorem le_self (W : Weak (lessC c)) (x : X) : ¬ c x x < 0 := by
  have := W.irr x; unfold lessC at this; exact of_decide_eq_false this
theorem Parted.pair (W : Weak (lessC c)) (x : Parted c a b m G) {p q : Nat} (h1 : a ≤ p) (h2 : p < q) (h3 : q < b) (h4 : p ≤ m) (h5 : m ≤ q) (hp : p < G.length) (hq : q < G.length) : ¬ c G[q] G[p] < 0 := by
  have hm : m < G.length := by omega
  have e1 : p < m → ¬ c G[m] G[p] < 0 := fun k => nlt_of W (x.lo p hp hm h1 k)
  have e2 : m < q → ¬ c G[q] G[m] < 0 := fun k => x.hi q hq hm k h3
  by_cases k1 : p = m
  · subst k1; exact e2 (by omega)
  · by_cases k2 : q = m
    · subst k2; exact e1 (by omega)
    · exact le_of W (e2 (by omega)) (e1 (by omega))
theorem Parted.left (W : Weak (lessC c)) (x : Parted c a b m G) (w : Within a m G G') : Parted c a b m G' := by
  have hl := w.len
  refine ⟨x.ge, x.lt, by have := x.hb; omega, fun k h hm h1 h2 => ?_, fun k h hm h1 h2 => ?_⟩
  · obtain ⟨k', k1, k2, k3, e⟩ := w.mem h1 h2 h
    rw [e, w.same (k := m) (.inr (by omega)) hm (by omega)]
    exact x.lo k' k3 _ k1 k2
  · rw [w.same (k := m) (.inr (by omega)) hm (by omega), w.same (k := k) (.inr (by omega)) h (by omega)]
    exact x.hi k _ _ h1 h2
theorem Parted.right (W : Weak (lessC c)) (x : Parted c a b m G) (w : Within (m + 1) b G G') : Parted c a b m G' := by
  have hl := w.len
  refine ⟨x.ge, x.lt, by have := x.hb; omega, fun k h hm h1 h2 => ?_, fun k h hm h1 h2 => ?_⟩
  · rw [w.same (k := m) (.inl (by omega)) hm (by omega), w.same (k := k) (.inl (by omega)) h (by omega)]
    exact x.lo k _ _ h1 h2
  · obtain ⟨k', k1, k2, k3, e⟩ := w.mem (k := k) (by omega) h2 h
    rw [e, w.same (k := m) (.inl (by omega)) hm (by omega)]
    exact x.hi k' k3 _ (by omega) k2
theorem Cut.left (W : Weak (lessC c)) (x : Cut c A0 Z0 a b G) (p : Parted c a b m G) (s : Srt c a m G) : Cut c A0 Z0 (m + 1) b G := fun i j h1 h2 h3 h4 h5 h6 => by
  by_cases k : i < a ∨ b ≤ j
  · exact x i j h1 h2 h3 k h5 h6
  · by_cases k2 : j < m
    · exact s i j (by omega) h2 k2 h5 h6
    · exact p.pair W (by omega) h2 (by omega) (by omega) (by omega) h5 h6
theorem Cut.right (W : Weak (lessC c)) (x : Cut c A0 Z0 a b G) (p : Parted c a b m G) (s : Srt c (m + 1) b G) : Cut c A0 Z0 a m G := fun i j h1 h2 h3 h4 h5 h6 => by
  by_cases k : i < a ∨ b ≤ j
  · exact x i j h1 h2 h3 k h5 h6
  · by_cases k2 : m < i
    · exact s i j (by omega) h2 (by omega) h5 h6
    · exact p.pair W (by omega) h2 (by omega) (by omega) (by omega) h5 h6
theorem Cut.pre (x : Cut c A0 Z0 a b G) (h : A0 < a) (hb : b ≤ Z0) : Pre c a b G := fun h0 i h1 h2 h3 h4 => x (a - 1) i (by omega) (by omega) (by omega) (.inl (by omega)) h4 h3
theorem Pre.sub (x : Pre c a b G) (h : m ≤ b) : Pre c a m G := fun h0 i h1 h2 h3 h4 => x h0 i h1 (by omega) h3 h4
theorem Cut.equal (W : Weak (lessC c)) {i j : Nat} (x : Cut c A0 Z0 a b G) (p : EInv c a b G i j) (hji : j < i) (ha : 0 < a) (hp : Pre c a b G) (hlt : a < b) (hd : ∀ (h1 : a - 1 < G.length) (h2 : a < G.length), ¬ c G[a - 1] G[a] < 0) : Cut c A0 Z0 i b G := fun s t h1 h2 h3 h4 h5 h6 => by
  have e := p.hij
  have e3 := p.hi
  by_cases k : s < a ∨ b ≤ t
  · exact x s t h1 h2 h3 k h5 h6
  · have la : a < G.length := by omega
    have sp : ¬ c G[a] G[s] < 0 := by
      by_cases k3 : s = a
      · subst k3; exact le_self W _
      · exact p.lo s h5 la (by omega) (by omega)
    by_cases k2 : t < i
    · have t1 := hp ha t (by omega) (by omega) h6 (by omega)
      exact le_of W (le_of W t1 (hd (by omega) la)) sp
    · exact le_of W (nlt_of W (p.hi2 t h6 la (by omega) (by omega))) sp
end
abbrev I5 (F : AVal → AVal → AVal → AVal → AVal → AHeap → (AVal → AHeap → Prop) → Prop) (C : CSem) (n : Nat) : Prop := ∀ (v0 v1 v2 v3 v4 : AVal) (h : AHeap) (Q : AVal → AHeap → Prop), F v0 v1 v2 v3 v4 h (dn Q) → C n [v0, v1, v2, v3, v4] h Q
abbrev I4 (F : AVal → AVal → AVal → AVal → AHeap → (AVal → AHeap → Prop) → Prop) (C : CSem) (n : Nat) : Prop := ∀ (v0 v1 v2 v3 : AVal) (h : AHeap) (Q : AVal → AHeap → Prop), F v0 v1 v2 v3 h (dn Q) → C n [v0, v1, v2, v3] h Q
/-- The sort's functions. -/
structure PdqI (C : CSem) (E : ElOps) (f1 f2 f3 f4 f5 f6 f7 f8 f9 g1 g2 g3 g4 g5 g6 : Nat) : Prop where
  eq : I5 (slices_partitionEqualCmpFuncG.cps C E) C f1
  part : I5 (slices_partitionCmpFuncG.cps C E) C f2
  pdq : I5 (slices_pdqsortCmpFuncG.cps C E f1 f2 f3 f4 f5 f6 f7 f8 f9) C f3
  pis : I4 (slices_partialInsertionSortCmpFuncG.cps C E) C f4
  rev : I4 (slices_reverseRangeCmpFuncG.cps C E) C f5
  piv : I4 (slices_choosePivotCmpFuncG.cps C E g2 g3) C f6
  brk : I4 (slices_breakPatternsCmpFuncG.cps C E g5 g6) C f7
  heap : I4 (slices_heapSortCmpFuncG.cps C E g4) C f8
  ins : I4 (slices_insertionSortCmpFuncG.cps C E) C f9
  ord : O2I C E g1
  med : MedI C E g1 g2
  adj : AdjI C E g2 g3
  sift : SiftI C E g4
  next : NextI C g5
  pow : PowI C g6
section
variable {E : ElOps} {X : Type} {cs : X → List AVal} {v : X → AVal} {h0 h : AHeap} {x f : AVal} {G : List X} {R : List (List AVal)} {c : X → X → Int} {Q : AVal → AHeap → Prop} {Y : List AVal → AHeap → Prop} {f1 f2 f3 f4 f5 f6 f7 f8 f9 g1 g2 g3 g4 g5 g6 : Nat}
/-- What is known at each turn. -/
structure PS (E : ElOps) {X : Type} (cs : X → List AVal) (h0 : AHeap) (x : AVal) (R : List (List AVal)) (c : X → X → Int) (A0 Z0 : Nat) (G0 : List X) (a b : Nat) (G : List X) (h : AHeap) : Prop where
  hA : A0 ≤ a
  hab : a ≤ b
  hB : b ≤ Z0
  W : Within A0 Z0 G0 G
  cut : Cut c A0 Z0 a b G
  pre : Pre c a b G
  o : Rw E cs h0 h x G R
theorem PS.turn {A0 Z0 a b : Nat} {G0 G' : List X} {h' : AHeap} (p : PS E cs h0 x R c A0 Z0 G0 a b G h) (w : Within a b G G') (o : Rw E cs h0 h' x G' R) : PS E cs h0 x R c A0 Z0 G0 a b G' h' :=
  ⟨p.hA, p.hab, p.hB, p.W.trans (w.mono p.hA p.hB), p.cut.within w p.hA p.hB, p.pre.within w, o⟩
/-- What a turn leads to. -/
abbrev Go1 (E : ElOps) {X : Type} (cs : X → List AVal) (h0 : AHeap) (x : AVal) (R : List (List AVal)) (c : X → X → Int) (A0 Z0 : Nat) (G0 : List X) (n : Nat) (Y : List AVal → AHeap → Prop) : Prop :=
  ∀ a b (lim : Int) w1 w2 G h, b - a < n → PS E cs h0 x R c A0 Z0 G0 a b G h → Y [.int .i64 (a : Int), .int .i64 (b : Int), .int .i64 lim, .bool w1, .bool w2] h
theorem pdq_k1 (J : PdqI C E f1 f2 f3 f4 f5 f6 f7 f8 f9 g1 g2 g3 g4 g5 g6) (S : SeqSpec E cs v) (W : Weak (lessC c)) (hc : CmpSpec C v c f h0) {A0 Z0 a b : Nat} {G0 : List X} {lim : Int} {w1 w2 : Bool} {pv : Nat} (p : PS E cs h0 x R c A0 Z0 G0 a b G h) (hl : G.length ≤ 100000000) (hBl : Z0 ≤ G.length)
    (h1 : a ≤ pv) (h2 : pv < b)
    (rcs : ∀ (a' b' : Nat) (lim : Int) (h : AHeap) (G : List X) (Q : AVal → AHeap → Prop), b' - a' < b - a → a' ≤ b' → b' ≤ G.length → G.length ≤ 100000000 → Pre c a' b' G → Rw E cs h0 h x G R → (∀ h' G', Within a' b' G G' → Srt c a' b' G' → Rw E cs h0 h' x G' R → Q (.tup []) h') →
      C f3 [x, .int .i64 (a' : Int), .int .i64 (b' : Int), .int .i64 lim, f] h Q)
    (hY : Go1 E cs h0 x R c A0 Z0 G0 (b - a) Y) :
    slices_pdqsortCmpFuncG.k1 C E f1 f2 f3 f4 f5 f6 f7 f8 f9 Q Y x (.int .i64 (a : Int)) (.int .i64 (b : Int)) (.int .i64 lim) f (.bool w1) (.bool w2) (.int .i64 ((b - a : Nat) : Int)) (.int .i64 (pv : Int)) h := by
  have hA := p.hA; have hB := p.hB; have o := p.o
  have lp : pv < G.length := by omega
  have part : slices_pdqsortCmpFuncG.k1 C E f1 f2 f3 f4 f5 f6 f7 f8 f9 Q Y x (.int .i64 (a : Int)) (.int .i64 (b : Int)) (.int .i64 lim) f (.bool w1) (.bool w2) (.int .i64 ((b - a : Nat) : Int)) (.int .i64 (pv : Int)) h =
    slices_pdqsortCmpFuncG.k1 C E f1 f2 f3 f4 f5 f6 f7 f8 f9 Q Y x (.int .i64 (a : Int)) (.int .i64 (b : Int)) (.int .i64 lim) f (.bool w1) (.bool w2) (.int .i64 ((b - a : Nat) : Int)) (.int .i64 (pv : Int)) h := rfl
  clear part
  have part : C f2 [x, .int .i64 (a : Int), .int .i64 (b : Int), .int .i64 (pv : Int), f] h (fun v111 h =>
    B.pv (V.ext 0 v111) fun v112 =>
    B.pv (V.ext 1 v111) fun v113 =>
    B.pv (V.bin .sub v112 (.int .i64 (a : Int))) fun v117 =>
    B.pv (V.bin .sub (.int .i64 (b : Int)) v112) fun v120 =>
    B.pv (V.bin .quo (.int .i64 ((b - a : Nat) : Int)) (.int .i64 8)) fun v122 =>
    B.pv (V.bin .lss v117 v120) fun v125 =>
    B.cond v125
    (B.pv (V.bin .geq v117 v122) fun v128 =>
    B.call C f3 [x, .int .i64 (a : Int), v112, .int .i64 lim, f] h fun v134 h =>
    B.pv (V.bin .add v112 (.int .i64 1)) fun v136 =>
    Y [v136, .int .i64 (b : Int), .int .i64 lim, v128, v113] h)
    (B.pv (V.bin .geq v120 v122) fun v139 =>
    B.pv (V.bin .add v112 (.int .i64 1)) fun v142 =>
    B.call C f3 [x, v142, .int .i64 (b : Int), .int .i64 lim, f] h fun v146 h =>
    Y [.int .i64 (a : Int), v112, .int .i64 lim, v139, v113] h)) := by
    refine J.part _ _ _ _ _ _ _ (partition_spec S hc o (by omega) h1 h2 (by omega) fun h3 m G3 t pt W3 o3 => dn_same ?_)
    have p3 := p.turn W3 o3
    have l3 := W3.len
    have m1 := pt.ge; have m2 := pt.lt
    have q8 : V.bin .quo (.int .i64 ((b - a : Nat) : Int)) (.int .i64 8) = some (.int .i64 (((b - a) / 8 : Nat) : Int)) := by
      rw [V.bin_quo _ _ _ (by omega), show ((b - a : Nat) : Int).tdiv 8 = (((b - a) / 8 : Nat) : Int) from rfl, wrap_i64 (by omega) (by omega)]
    simp -dsimp only [V.ext_tup, List.getElem?_cons_zero, List.getElem?_cons_succ, B.pv_some, subNN m1 (show m < 4611686018427387904 by omega), subNN (show m ≤ b by omega) (show b < 4611686018427387904 by omega), q8, lssN, geqN, add1 (show m < 4611686018427387904 by omega)]
    refine B.cond_bool (fun hd => ?_) (fun hd => ?_)
    · simp -dsimp only [geqN, add1 (show m < 4611686018427387904 by omega), B.pv_some]
      refine rcs a m lim _ G3 _ (by omega) m1 (by omega) (by omega) (p3.pre.sub (by omega)) o3 fun h4 G4 W4 s4 o4 => ?_
      have pt4 := pt.left W W4
      have cut4 := (p3.cut.within (W4.mono (Nat.le_refl _) (by omega)) hA hB).left W pt4 s4
      simp -dsimp only [add1 (show m < 4611686018427387904 by omega), B.pv_some]
      exact hY (m + 1) b lim _ _ G4 h4 (by omega) ⟨by omega, by omega, hB, p3.W.trans (W4.mono hA (by omega)), cut4, cut4.pre (by omega) hB, o4⟩
    · have c3 : Pre c (m + 1) b G3 := fun h0 i k1 k2 k3 k4 => pt.pair W (p := m + 1 - 1) (q := i) (by omega) (by omega) k2 (by omega) (by omega) k4 k3
      simp -dsimp only [geqN, add1 (show m < 4611686018427387904 by omega), B.pv_some]
      refine rcs (m + 1) b lim _ G3 _ (by omega) (by omega) (by omega) (by omega) c3 o3 fun h4 G4 W4 s4 o4 => ?_
      have pt4 := pt.right W W4
      have W4' : Within a b G3 G4 := W4.mono (by omega) (Nat.le_refl _)
      have cut4 := (p3.cut.within W4' hA hB).right W pt4 s4
      exact hY a m lim _ _ G4 h4 (by omega) ⟨hA, m1, by omega, p3.W.trans (W4.mono (by omega) hB), cut4, (p3.pre.within W4').sub (by omega), o4⟩
  simp -dsimp only [slices_pdqsortCmpFuncG.k1]
  have g0 : V.bin .gtr (.int .i64 (a : Int)) (.int .i64 0) = some (.bool (decide (0 < a))) := gtrN (b := 0)
  simp -dsimp only [g0, B.pv_some]
  by_cases ha : 0 < a
  · have la : a - 1 < G.length := by omega
    simp -dsimp only [ha, decide_true, B.gd_t, B.gdb_true, sub1 (show 1 ≤ a by omega) (show a < 4611686018427387904 by omega), o.idx la, o.idx lp, B.pv_some]
    refine o.ld S (List.getElem?_eq_getElem la) ?_
    refine o.ld S (List.getElem?_eq_getElem lp) ?_
    refine hc.call _ _ _ _ o.le ?_
    simp -dsimp only [ha, decide_true, B.gd_t, B.gdb_true, V.bin_lss, V.un_not, B.pick_t, B.pv_some]
    refine B.cond_bool (fun he => ?_) (fun he => part)
    have hd : ¬ c G[a - 1] G[pv] < 0 := by simpa using he
    refine J.eq _ _ _ _ _ _ _ (partitionEqual_spec S hc o (by omega) h1 h2 (by omega) fun h3 i j G3 pe hji W3 e3 o3 => dn_same ?_)
    have p3 := p.turn W3 o3
    have l3 := W3.len
    have k1 := pe.hi; have k2 := pe.hij; have k3 := pe.hj
    have cut4 := p3.cut.equal W pe hji ha p3.pre (by omega) fun q1 q2 => by
      rw [e3 q2 lp, W3.same (.inl (by omega)) q1 la]; exact hd
    exact hY i b lim _ _ G3 h3 (by omega) ⟨by omega, by omega, hB, p3.W, cut4, cut4.pre (by omega) hB, o3⟩
  · simp -dsimp only [ha, decide_false, B.gd_t, B.gdb_false, B.pick_f, B.cond_false]
    exact part
/-- A0 range is put in order. -/
theorem pdq_spec (J : PdqI C E f1 f2 f3 f4 f5 f6 f7 f8 f9 g1 g2 g3 g4 g5 g6) (S : SeqSpec E cs v) (W : Weak (lessC c)) (hc : CmpSpec C v c f h0) : ∀ (n : Nat) (A0 Z0 : Nat) (lim : Int) (h : AHeap) (G : List X) (Q : AVal → AHeap → Prop), Z0 - A0 = n → A0 ≤ Z0 → Z0 ≤ G.length → G.length ≤ 100000000 → Pre c A0 Z0 G → Rw E cs h0 h x G R →
    (∀ h' G', Within A0 Z0 G G' → Srt c A0 Z0 G' → Rw E cs h0 h' x G' R → Q (.tup []) h') → slices_pdqsortCmpFuncG.cps C E f1 f2 f3 f4 f5 f6 f7 f8 f9 x (.int .i64 (A0 : Int)) (.int .i64 (Z0 : Int)) (.int .i64 lim) f h Q := by
  intro n
  induction n using Nat.strongRecOn with
  | ind n ih =>
  intro A0 Z0 lim h G0 Q hn hAB hBl hl hpre ho hq
  simp -dsimp only [slices_pdqsortCmpFuncG.cps]
  refine LoopR.intro (fun t vs hh => ∃ (a b : Nat) (lim : Int) (w1 w2 : Bool) (G : List X), t = b - a ∧ vs = [.int .i64 (a : Int), .int .i64 (b : Int), .int .i64 lim, .bool w1, .bool w2] ∧ PS E cs h0 x R c A0 Z0 G0 a b G hh) (Z0 - A0) ?_
    ⟨A0, Z0, lim, true, true, G0, rfl, rfl, ⟨Nat.le_refl _, hAB, Nat.le_refl _, Within.refl _ _ _, fun p q _ _ _ k => by omega, hpre, ho⟩⟩
  rintro Y t vs hh ⟨a, b, lim, w1, w2, G, rfl, rfl, p⟩ hY'
  have hY : Go1 E cs h0 x R c A0 Z0 G0 (b - a) Y := fun a' b' lim' w1' w2' G' h' hlt p' => hY' (b' - a') _ _ hlt ⟨a', b', lim', w1', w2', G', rfl, rfl, p'⟩
  clear hY'
  have hA := p.hA; have hab := p.hab; have hB := p.hB
  have lG := p.W.len
  have rcs : ∀ (a' b' : Nat) (lim : Int) (h : AHeap) (G : List X) (Q : AVal → AHeap → Prop), b' - a' < b - a → a' ≤ b' → b' ≤ G.length → G.length ≤ 100000000 → Pre c a' b' G → Rw E cs h0 h x G R → (∀ h' G', Within a' b' G G' → Srt c a' b' G' → Rw E cs h0 h' x G' R → Q (.tup []) h') →
      C f3 [x, .int .i64 (a' : Int), .int .i64 (b' : Int), .int .i64 lim, f] h Q := fun a' b' lim h G Q k1 k2 k3 k4 k5 k6 k7 =>
    J.pdq _ _ _ _ _ _ _ (ih (b' - a') (by omega) a' b' lim h G _ rfl k2 k3 k4 k5 k6 fun h' G' w s o => dn_same (k7 h' G' w s o))
  have fin : ∀ {hh G G2}, PS E cs h0 x R c A0 Z0 G0 a b G hh → ∀ h', Within a b G G2 → Srt c a b G2 → Rw E cs h0 h' x G2 R → Q (.tup []) h' := fun p h' w s o => by
    have p2 := p.turn w o
    exact hq h' _ p2.W (p2.cut.join s) o
  have e12 : V.bin .leq (.int .i64 ((b - a : Nat) : Int)) (.int .i64 12) = some (.bool (decide (b - a ≤ 12))) := leqN (b := 12)
  simp -dsimp only [slices_pdqsortCmpFuncG.l8, subNN hab (show b < 4611686018427387904 by omega), B.pv_some, slices_pdqsortCmpFuncG.k7, e12]
  refine B.cond_bool (fun hd => ?_) (fun hd => ?_)
  · exact J.ins _ _ _ _ _ _ (insertion_srt S W hc p.o (by omega) hab (by omega) fun h' G' w s o => dn_same (fin p h' w s o))
  rw [decide_eq_false_iff_not] at hd
  simp -dsimp only [slices_pdqsortCmpFuncG.k6, V.bin_eql, B.pv_some]
  refine B.cond_bool (fun _ => ?_) (fun _ => ?_)
  · exact J.heap _ _ _ _ _ _ (heapSort_spec J.sift S W hc p.o (by omega) (by omega) (by omega) fun h' G' w s o => dn_same (fin p h' w s o))
  have k4 : ∀ {hh G} (lim : Int), PS E cs h0 x R c A0 Z0 G0 a b G hh → slices_pdqsortCmpFuncG.k4 C E f1 f2 f3 f4 f5 f6 f7 f8 f9 Q Y x (.int .i64 (a : Int)) (.int .i64 (b : Int)) (.int .i64 lim) f (.bool w1) (.bool w2) (.int .i64 ((b - a : Nat) : Int)) hh := fun {hh G} lim p => by
    have lG := p.W.len
    simp -dsimp only [slices_pdqsortCmpFuncG.k4]
    refine J.piv _ _ _ _ _ _ (choosePivot_spec J.ord J.med J.adj S (Owns.slAt p.o 0 rfl) p.o.le hc (by omega) (by omega) (by omega) fun m hint h2 m1 m2 hle => dn_same ?_)
    have p2 : PS E cs h0 x R c A0 Z0 G0 a b G h2 := ⟨p.hA, p.hab, p.hB, p.W, p.cut, p.pre, Owns.grow p.o hle⟩
    simp -dsimp only [V.ext_tup, List.getElem?_cons_zero, List.getElem?_cons_succ, B.pv_some, slices_pdqsortCmpFuncG.k3, V.bin_eql]
    have k2 : ∀ {hh G} (pv : Nat) (hint : Int), a ≤ pv → pv < b → PS E cs h0 x R c A0 Z0 G0 a b G hh → slices_pdqsortCmpFuncG.k2 C E f1 f2 f3 f4 f5 f6 f7 f8 f9 Q Y x (.int .i64 (a : Int)) (.int .i64 (b : Int)) (.int .i64 lim) f (.bool w1) (.bool w2) (.int .i64 ((b - a : Nat) : Int)) (.int .i64 (pv : Int)) (.int .i64 hint) hh := fun {hh G} pv hint q1 q2 p => by
      have lG := p.W.len
      have go := pdq_k1 (Q := Q) (lim := lim) (w1 := w1) (w2 := w2) J S W hc p (by omega) (by omega) q1 q2 rcs hY
      simp -dsimp only [slices_pdqsortCmpFuncG.k2]
      have two : B.cond (.bool true) (B.call C f4 [x, .int .i64 (a : Int), .int .i64 (b : Int), f] hh fun v80 h =>
          B.cond v80 (Q (.tup []) h) (slices_pdqsortCmpFuncG.k1 C E f1 f2 f3 f4 f5 f6 f7 f8 f9 Q Y x (.int .i64 (a : Int)) (.int .i64 (b : Int)) (.int .i64 lim) f (.bool w1) (.bool w2) (.int .i64 ((b - a : Nat) : Int)) (.int .i64 (pv : Int)) h))
          (slices_pdqsortCmpFuncG.k1 C E f1 f2 f3 f4 f5 f6 f7 f8 f9 Q Y x (.int .i64 (a : Int)) (.int .i64 (b : Int)) (.int .i64 lim) f (.bool w1) (.bool w2) (.int .i64 ((b - a : Nat) : Int)) (.int .i64 (pv : Int)) hh) := by
        rw [B.cond_true]
        refine J.pis _ _ _ _ _ _ (partialInsertionSort_spec S W hc p.o (by omega) (by omega) (by omega) p.pre fun h' G' t w s o => dn_same ?_)
        have p' := p.turn w o
        have lG' := p'.W.len
        refine B.cond_bool (fun ht => fin p h' w (s ht) o) (fun _ => ?_)
        exact pdq_k1 (Q := Q) (lim := lim) (w1 := w1) (w2 := w2) J S W hc p' (by omega) (by omega) q1 q2 rcs hY
      cases w1 <;> cases w2
      · simp -dsimp only [B.gd_t, B.gdb_false, B.pick_f, B.cond_false]; exact go
      · simp -dsimp only [B.gd_t, B.gdb_false, B.pick_f, B.cond_false]; exact go
      · simp -dsimp only [B.gd_t, B.gdb_true, B.gdb_false, B.pick_t, B.pick_f, B.cond_false]; exact go
      · by_cases hh1 : hint = 1
        · simp -dsimp only [B.gd_t, B.gdb_true, V.bin_eql, hh1, decide_true, B.pv_some, B.pick_t]; exact two
        · simp -dsimp only [B.gd_t, B.gdb_true, V.bin_eql, hh1, decide_false, B.pv_some, B.pick_t, B.cond_false]; exact go
    refine B.cond_bool (fun _ => ?_) (fun _ => k2 m hint m1 m2 p2)
    refine J.rev _ _ _ _ _ _ (reverseRange_spec S (by omega) p2.o (by omega) (by omega) fun h3 G3 w3 o3 => dn_same ?_)
    simp -dsimp only [sub1 (show 1 ≤ b by omega) (show b < 4611686018427387904 by omega), subNN m1 (show m < 4611686018427387904 by omega), subNN (show m - a ≤ b - 1 by omega) (show b - 1 < 4611686018427387904 by omega), B.pv_some]
    exact k2 (b - 1 - (m - a)) 1 (by omega) (by omega) (p2.turn w3 o3)
  simp -dsimp only [slices_pdqsortCmpFuncG.k5, V.un_not, B.pv_some]
  refine B.cond_bool (fun _ => ?_) (fun _ => k4 lim p)
  refine J.brk _ _ _ _ _ _ (breakPatterns_spec J.next J.pow S p.o (by omega) hab (by omega) fun h' G' w o => dn_same ?_)
  simp -dsimp only [V.bin_sub, B.pv_some]
  exact k4 _ (p.turn w o)
/-- A0 list is put in order. -/
theorem SortFunc_spec {fl : Nat} (J : PdqI C E f1 f2 f3 f4 f5 f6 f7 f8 f9 g1 g2 g3 g4 g5 g6) (hlen : LenI C fl) (S : SeqSpec E cs v) (W : Weak (lessC c)) (hc : CmpSpec C v c f h0) (hl : G.length ≤ 100000000) (ho : Rw E cs h0 h x G R)
    (hq : ∀ h' G', G'.Perm G → G'.Pairwise (fun s t => ¬ c t s < 0) → Rw E cs h0 h' x G' R → Q (.tup []) h') : slices_SortFuncG.cps C E fl f3 x f h Q := by
  simp -dsimp only [slices_SortFuncG.cps, slices_SortFuncG.k1, ho.lenE, toUN (show G.length < 18446744073709551616 by omega), B.pv_some]
  refine hlen _ _ _ hl fun r hr _ => ?_
  refine J.pdq _ _ _ _ _ _ _ (pdq_spec J S W hc _ 0 G.length r h G _ rfl (by omega) (Nat.le_refl _) hl (fun h => by omega) ho fun h' G' w s o => dn_same ?_)
  refine hq h' G' w.perm ?_ o
  rw [List.pairwise_iff_getElem]
  intro i j hi hj hij
  have := w.len
  exact s i j (by omega) hij (by omega) hi hj
end
end Go.Ab

/- What is proved: contracts: bytes compared, cloned; rows right; turns told, turned round. No conditions. -/
set_option linter.unusedVariables false
set_option linter.unusedSimpArgs false
namespace Go.Ab
variable {C : CSem} {N : Nat → Nat}
theorem Bs.sl {h : AHeap} {x : AVal} {b : List UInt8} (hb : Bs h x b) : ∃ R, SlX h 1 x (b.map bc) R := hb.1
theorem bOb_bs {h0 h : AHeap} {x : AVal} {s : List UInt8} {b : Bool} (hs : s.length ≤ far) (ho : Owns h0 h [bOb b x s]) : Bs h x s := bOb_at hs (ho.is _ (List.mem_singleton_self _))
theorem row_get {h : AHeap} {x : AVal} {L : List Row} (hx : Dl rowK h x L) {i : Nat} {r : Row} (hr : L[i]? = some r) : ∃ k v, V.idxS 2 x (.int .i64 (i : Int)) = some (elp 2 x i 0) ∧ A.ldnv h (elp 2 x i 0) 2 = some (.agg [k, v]) ∧ V.fieldAddr 0 (elp 2 x i 0) = some (elp 2 x i 0) ∧
    V.fieldAddr 1 (elp 2 x i 0) = some (elp 2 x i 1) ∧ A.ldv h (elp 2 x i 0) = some k ∧ A.ldv h (elp 2 x i 1) = some v ∧ Bs h k r.Key ∧ Bs h v r.Value := by
  obtain ⟨a, ea⟩ := hx.get hr
  exact ⟨a.1, a.2, ea.idx, ea.ldn, ea.fld 0 0, ea.fld 0 1, ea.ld 0 (by decide), ea.ld 1 (by decide), ea.at_.1, ea.at_.2⟩
theorem turn_get {h : AHeap} {x : AVal} {L : List Turn} (hx : Dl turnK h x L) {i : Nat} {r : Turn} (hr : L[i]? = some r) : ∃ k v w, V.idxS 3 x (.int .i64 (i : Int)) = some (elp 3 x i 0) ∧ A.ldnv h (elp 3 x i 0) 3 = some (.agg [k, v, w]) ∧ V.fieldAddr 0 (elp 3 x i 0) = some (elp 3 x i 0) ∧
    V.fieldAddr 1 (elp 3 x i 0) = some (elp 3 x i 1) ∧ V.fieldAddr 2 (elp 3 x i 0) = some (elp 3 x i 2) ∧ A.ldv h (elp 3 x i 0) = some k ∧ A.ldv h (elp 3 x i 1) = some v ∧ A.ldv h (elp 3 x i 2) = some w ∧ Bs h k r.Key ∧ Bs h v r.Old ∧ Bs h w r.New := by
  obtain ⟨a, ea⟩ := hx.get hr
  exact ⟨a.1, a.2.1, a.2.2, ea.idx, ea.ldn, ea.fld 0 0, ea.fld 0 1, ea.fld 0 2, ea.ld 0 (by decide), ea.ld 1 (by decide), ea.ld 2 (by decide), ea.at_.1, ea.at_.2.1, ea.at_.2.2⟩
theorem lenZ {α : Type} [DecidableEq α] (s : List α) : decide ((s.length : Int) = 0) = decide (s = []) := by
  cases s with
  | nil => rfl
  | cons a s => simp; omega
def bytes_Compare.Spec (C : CSem) (N : Nat → Nat) : Prop := ∀ (x y : AVal) (a b : List UInt8) (h : AHeap) (Q : AVal → AHeap → Prop), Bs h x a → Bs h y b → Q (.int .i64 (cmpB a b)) h → C (N 274) [x, y] h Q
theorem bytes_Compare.spec (i : bytes_Compare.Imp C N) (i2 : bytealg_Compare.Imp C N) : bytes_Compare.Spec C N := fun x y a b h Q ⟨⟨R, hx⟩, _⟩ ⟨⟨S, hy⟩, _⟩ hq =>
  i x y h Q (i2 x y a b R S h _ hx hy (dn_same hq))
def bytes_Equal.Spec (C : CSem) (N : Nat → Nat) : Prop := ∀ (x y : AVal) (a b : List UInt8) (h : AHeap) (Q : AVal → AHeap → Prop), Bs h x a → Bs h y b → Q (.bool (decide (a = b))) h → C (N 273) [x, y] h Q
theorem bytes_Equal.spec (i : bytes_Equal.Imp C N) : bytes_Equal.Spec C N := fun x y a b h Q ⟨⟨R, hx⟩, _⟩ ⟨⟨S, hy⟩, _⟩ hq => by
  apply i
  simp -dsimp only [bytes_Equal.cps, bytesStr_bc hx, bytesStr_bc hy, V.bin_seql, B.pv_some]
  exact dn_same hq
theorem clone_specL {E : ElOps} {X : Type} {cs : X → List AVal} {v : X → AVal} (S : SeqSpec E cs v) {x : AVal} {L : List X} {R : List (List AVal)} {h : AHeap} {Q : AVal → AHeap → Prop} (hx : SlX h E.es x (L.map cs) R) (hlen : L.length ≤ 4611686018427387000) (hm : L.length * E.bytes ≤ 140737488355328)
    (hq : ∀ x' h', Rw E cs h h' x' L [] → Q x' h') : slices_CloneG.cps C E x h Q := by
  have cp : B.appW h E.es E.bytes .sz x (fun v7 h => Q v7 h) := by
    refine Owns.appW ((Owns.start h).sz E.es) 0 rfl hx S.pos (by simp; omega) (by simp [maxLen]; omega) fun x' h' h1 _ => hq x' h' ?_
    simpa [Rw] using h1
  rcases hx.2 with ⟨e1, e2, rfl | rfl⟩ | ⟨id, g, off, cp', b, hi, rfl, h3⟩
  · simp -dsimp [V.eqSl]
    refine hq _ _ ?_
    unfold Rw
    rw [e1]
    exact (Owns.start h).nils E.es
  · simp -dsimp [V.eqSl]
    exact cp
  · simp -dsimp [V.eqSl]
    rw [List.length_map] at cp
    exact cp
theorem byteS : SeqSpec (opsS 1 (.int .u8 0) 0) bc (fun b : UInt8 => .int .u8 (b.toNat : Int)) := seqS (by omega) fun _ => rfl
def slices_Clone_byte_byte.Spec (C : CSem) (N : Nat → Nat) : Prop := ∀ (x : AVal) (s : List UInt8) (h : AHeap) (Q : AVal → AHeap → Prop), Bs h x s → (∀ x' h', Owns h h' [bOb false x' s] → Q x' h') → C (N 284) [x] h Q
theorem slices_Clone_byte_byte.spec (i : slices_Clone_byte_byte.Imp C N) : slices_Clone_byte_byte.Spec C N := fun x s h Q ⟨⟨R, hx⟩, hs⟩ hq =>
  i x h Q (clone_specL byteS hx (by unfold far at hs; omega) (by simp [opsS]; unfold far at hs; omega) fun x' h' o => dn_same (hq x' h' o))
theorem strBytes_own {h : AHeap} {s : List UInt8} {K : AVal → AHeap → Prop} (hs : s.length ≤ far) (hk : ∀ x' h', Owns h h' [bOb false x' s] → K x' h') : B.strBytes h (.str s) K := by
  refine ⟨by unfold far at hs; omega, fun id hid => hk _ _ ?_⟩
  exact (Owns.start h).newSl (id := id) (n := s.length) (cp := s.length) (es := 1) (cs := s.map fun b => .int .u8 b.toNat) (L := s.map bc) (R := []) hid (by simp) (by simp) (by simp) (by rw [List.append_nil, bc_flat])
def delta_turn.Spec (C : CSem) (N : Nat → Nat) : Prop := ∀ (x y z : AVal) (t : Turn) (h : AHeap) (Q : AVal → AHeap → Prop), Bs h x t.Key → Bs h y t.Old → Bs h z t.New → (∀ a' h', Owns h h' (turnK.obs false t a') → Q (.agg (turnK.cells a')) h') → C (N 272) [x, y, z] h Q
theorem delta_turn.spec (i : delta_turn.Imp C N) (s1 : slices_Clone_byte_byte.Spec C N) : delta_turn.Spec C N := by
  intro x y z t h Q a1 a2 a3 hq
  apply i
  simp -dsimp
  refine s1 _ _ _ _ a1 fun x1 h1 o1 => ?_
  refine s1 _ _ _ _ (a2.mono o1.le) fun x2 h2 o2 => ?_
  have o12 := o1.join o2
  refine s1 _ _ _ _ (a3.mono o12.le) fun x3 h3 o3 => ?_
  simp -dsimp [(bOb_bs a1.2 o1).isCell, (bOb_bs a2.2 o2).isCell, (bOb_bs a3.2 o3).isCell]
  exact dn_same (hq (x1, x2, x3) h3 (o12.join o3))
theorem rightAt_some {l : List Row} {i : Nat} {r : Row} (h : l[i]? = some r) : rightAt l i = (!decide (r.Key = []) && !decide (r.Value = []) && (decide (i = 0) || match l[i - 1]? with | some p => lessB p.Key r.Key | none => true)) := by
  unfold rightAt; rw [h]; rfl
theorem rightR_false {l : List Row} {i : Nat} (hi : i < l.length) (h : rightAt l i = false) : rightR l = false := by
  unfold rightR
  rw [List.all_eq_false]
  exact ⟨i, by simpa using hi, by simp [h]⟩
theorem rightR_true {l : List Row} (h : ∀ i, i < l.length → rightAt l i = true) : rightR l = true := by
  unfold rightR
  rw [List.all_eq_true]
  exact fun i hi => h i (by simpa using hi)
def delta_right.Spec (C : CSem) (N : Nat → Nat) : Prop := ∀ (x : AVal) (L : List Row) (h : AHeap) (Q : AVal → AHeap → Prop), Dl rowK h x L → L.length < 4611686018427387904 → Q (.bool (rightR L)) h → C (N 275) [x] h Q
theorem delta_right.spec (i : delta_right.Imp C N) (s1 : bytes_Compare.Spec C N) : delta_right.Spec C N := by
  intro x L h Q hx hlen hq
  apply i
  simp -dsimp only [delta_right.cps, hx.lenSl, B.pv_some]
  refine LoopR.intro (fun n vs hh => ∃ k : Nat, k + n = L.length ∧ vs = [.int .i64 (k : Int)] ∧ hh = h ∧ ∀ j, j < k → rightAt L j = true) L.length ?_ ⟨0, by simp, rfl, rfl, fun j hj => by omega⟩
  rintro Y n vs hh ⟨k, hn, rfl, rfl, hall⟩ hY
  simp -dsimp only [delta_right.l2, delta_right.k1, V.bin_lss, B.pv_some]
  refine B.cond_bool (fun hc => ?_) (fun hc => ?_)
  · have hk : k < L.length := by simpa using hc
    obtain ⟨r, hr⟩ := get_lt hk
    obtain ⟨kx, vx, e1, e2, e3, e4, e5, e6, b1, b2⟩ := row_get hx hr
    have er := rightAt_some hr
    have no : rightAt L k = false → dn Q (.bool false) hh := fun e => by rw [rightR_false hk e] at hq; exact dn_same hq
    have yes : rightAt L k = true → Y [.int .i64 ((k + 1 : Nat) : Int)] hh := fun e => hY (L.length - (k + 1)) _ _ (by omega) ⟨k + 1, by omega, rfl, rfl, fun j hj => by
      by_cases h : j = k
      · subst h; exact e
      · exact hall j (by omega)⟩
    by_cases hkey : r.Key = []
    · simp -dsimp [e1, e2, b1.lenSl, hkey]
      exact no (by rw [er, hkey]; rfl)
    · have hkz : decide ((r.Key.length : Int) = 0) = false := by rw [lenZ]; simp [hkey]
      by_cases hval : r.Value = []
      · simp -dsimp [e1, e2, b1.lenSl, b2.lenSl, hkey, hval]
        exact no (by rw [er, hval]; simp)
      · by_cases h0 : k = 0
        · simp -dsimp [e1, e2, b1.lenSl, b2.lenSl, hkey, hval, show ¬ 0 < k by omega, add1 (show k < 4611686018427387904 by omega), - V.bin_add]
          exact yes (by rw [er]; simp [hkey, hval, h0])
        · obtain ⟨p, hp⟩ := get_lt (L := L) (k := k - 1) (by omega)
          obtain ⟨kp, vp, f1, f2, f3, f4, f5, f6, c1, c2⟩ := row_get hx hp
          have sk := sub1 (a := k) (by omega) (by omega)
          have hk0 : 0 < k := by omega
          rw [hp] at er
          simp -dsimp [e1, e2, b1.lenSl, b2.lenSl, hkey, hval, sk, f1, f3, f5, hk0, - V.bin_sub]
          refine s1 _ _ _ _ _ _ c1 b1 ?_
          simp -dsimp [- V.bin_add, add1 (show k < 4611686018427387904 by omega)]
          refine B.cond_bool (fun hd => ?_) (fun hd => ?_)
          · have hd : 0 ≤ cmpB p.Key r.Key := by simpa using hd
            refine no ?_
            have : lessB p.Key r.Key = false := by
              cases e : lessB p.Key r.Key with
              | false => rfl
              | true => have := cmpB_neg.2 e; omega
            rw [er]; simp [this, h0]
          · have hd : cmpB p.Key r.Key < 0 := by simpa using hd
            simp -dsimp [- V.bin_add, add1 (show k < 4611686018427387904 by omega)]
            refine yes ?_
            rw [er]; simp [cmpB_neg.1 hd, hkey, hval]
  · have hk : k = L.length := by
      have : ¬ (k : Int) < L.length := by simpa using hc
      omega
    rw [rightR_true fun j hj => hall j (by omega)] at hq
    exact dn_same hq
/-- One more turn. -/
theorem turns_push (s1 : delta_turn.Spec C N) {h hh : AHeap} {o x y z : AVal} {t : Turn} {P : List (Turn × (AVal × AVal × AVal))} (ho : Df turnK h hh o P) (hl : P.length ≤ 10000000) (a1 : Bs hh x t.Key) (a2 : Bs hh y t.Old) (a3 : Bs hh z t.New) {K : AVal → AHeap → Prop}
    (hK : ∀ o' a' h', Df turnK h h' o' (P ++ [(t, a')]) → K o' h') : C (N 272) [x, y, z] hh (fun v52 h => B.newO h (fillL [(0, some 3, v52)] (repL 1 [.nils, .nils, .nils])) fun i53 h => B.appW h 3 72 o (.sl i53 0 0 1 3 1) K) := by
  refine s1 _ _ _ t _ _ a1 a2 a3 fun a' h4 o4 => ?_
  have hf : fillL [(0, some 3, .agg (turnK.cells a'))] (repL 1 [.nils, .nils, .nils]) = some (turnK.cells a') := fill_agg turnK a'
  rw [hf]
  refine (Owns.join ho o4).push 0 rfl (turnK.len a') (by decide) (by simp; omega) (by simp [maxLen]; omega) fun y5 h5 o5 _ => ?_
  refine hK y5 a' h5 ?_
  unfold Df
  rw [DK.os_append, DK.os_one, List.map_append]
  simp only [List.cons_append, List.set_cons_zero] at o5
  exact o5
def delta_Turns.Spec (C : CSem) (N : Nat → Nat) : Prop := ∀ (x y : AVal) (L M : List Row) (h : AHeap) (Q : AVal → AHeap → Prop), Dl rowK h x L → Dl rowK h y M → L.length + M.length ≤ 1000000 →
  (∀ x' P h', P.map (·.1) = turnsP L M → Df turnK h h' x' P → Q x' h') → C (N 255) [x, y] h Q
theorem delta_Turns.spec (i : delta_Turns.Imp C N) (s1 : delta_right.Spec C N) (s2 : bytes_Compare.Spec C N) (s3 : bytes_Equal.Spec C N) (s4 : delta_turn.Spec C N) : delta_Turns.Spec C N := by
  intro x y L M h Q hx hy hlen hq
  apply i
  simp -dsimp only [delta_Turns.cps, delta_Turns.k6]
  refine s1 _ _ _ _ hx (by omega) ?_
  have nil : (!rightR L || !rightR M) = true → dn Q .nils h := fun e => dn_same (hq .nils [] h (by unfold turnsP; rw [e]; rfl) (by simpa [Df, DK.os] using (Owns.start h).nils turnK.n))
  by_cases hL : rightR L = true
  · simp -dsimp [hL]
    refine s1 _ _ _ _ hy (by omega) ?_
    by_cases hM : rightR M = true
    · simp -dsimp [hM]
      have hq : ∀ x' P h', P.map (·.1) = turnsM L M → Df turnK h h' x' P → Q x' h' := fun x' P h' e o => hq x' P h' (by unfold turnsP; rw [hL, hM]; exact e) o
      refine LoopR.intro (fun n vs hh => ∃ (x' y' o : AVal) (L' M' : List Row) (P : List (Turn × (AVal × AVal × AVal))), n = L'.length + M'.length ∧ vs = [x', y', o] ∧ Dl rowK h x' L' ∧ Dl rowK h y' M' ∧ P.map (·.1) ++ turnsM L' M' = turnsM L M ∧ Df turnK h hh o P) (L.length + M.length) ?_
        ⟨x, y, .nils, L, M, [], rfl, rfl, hx, hy, rfl, by simpa [Df, DK.os] using (Owns.start h).nils turnK.n⟩
      rintro Y n vs hh ⟨x', y', o, L', M', P, rfl, rfl, hx', hy', hP, ho⟩ hY
      have hPl : P.length ≤ 1000000 := by
        have := congrArg List.length hP
        have h2 := turnsM_len L M
        simp only [List.length_append, List.length_map] at this
        omega
      have hxx := hx'.mono ho.le
      have hyy := hy'.mono ho.le
      have one : ∀ (c : Int) (a : Row) (as1 : List Row), L' = a :: as1 → c < 0 → turnsM L' M' = ⟨a.Key, a.Value, []⟩ :: turnsM as1 M' → delta_Turns.k2 C N (dn Q) Y x' y' o (.int .i64 c) hh := fun c a as1 e hc he => by
        subst e
        obtain ⟨kx, vx, e1, e2, e3, e4, e5, e6, b1, b2⟩ := row_get hxx (i := 0) (r := a) rfl
        obtain ⟨x2, t1, t2⟩ := hx'.tail
        have e1 : V.idxS 2 x' (.int .i64 0) = some (elp 2 x' 0 0) := e1
        have t1 : V.cutSl 2 x' (some (.int .i64 1)) none = some x2 := t1
        simp -dsimp [e1, e3, e4, e5, e6, hc]
        refine turns_push s4 (t := ⟨a.Key, a.Value, []⟩) ho (by omega) b1 b2 (Bs.nils _) fun o' a' h' o1 => ?_
        simp -dsimp [t1]
        refine hY (as1.length + M'.length) _ _ (by simp <;> omega) ⟨x2, y', o', as1, M', P ++ [(⟨a.Key, a.Value, []⟩, a')], rfl, rfl, t2, hy', ?_, o1⟩
        rw [he] at hP
        simpa using hP
      have two : ∀ (c : Int) (b : Row) (bs : List Row), M' = b :: bs → 0 < c → turnsM L' M' = ⟨b.Key, [], b.Value⟩ :: turnsM L' bs → delta_Turns.k2 C N (dn Q) Y x' y' o (.int .i64 c) hh := fun c b bs e hc he => by
        subst e
        obtain ⟨ky, vy, f1, f2, f3, f4, f5, f6, c1, c2⟩ := row_get hyy (i := 0) (r := b) rfl
        obtain ⟨y2, t1, t2⟩ := hy'.tail
        have f1 : V.idxS 2 y' (.int .i64 0) = some (elp 2 y' 0 0) := f1
        have t1 : V.cutSl 2 y' (some (.int .i64 1)) none = some y2 := t1
        simp -dsimp [f1, f3, f4, f5, f6, hc, show ¬ c < 0 by omega]
        refine turns_push s4 (t := ⟨b.Key, [], b.Value⟩) ho (by omega) c1 (Bs.nils _) c2 fun o' a' h' o1 => ?_
        simp -dsimp [t1, show ¬ c = 0 by omega]
        refine hY (L'.length + bs.length) _ _ (by simp <;> omega) ⟨x', y2, o', L', bs, P ++ [(⟨b.Key, [], b.Value⟩, a')], rfl, rfl, hx', t2, ?_, o1⟩
        rw [he] at hP
        simpa using hP
      simp -dsimp only [delta_Turns.l5, delta_Turns.k4, hx'.lenSl, hy'.lenSl, V.bin_gtr, B.pv_some]
      cases L' with
      | nil =>
        cases M' with
        | nil =>
          simp -dsimp [hy'.lenSl]
          refine dn_same (hq o P hh ?_ ho)
          rw [turnsM, List.append_nil] at hP
          exact hP
        | cons b bs =>
          simp -dsimp [hx'.lenSl, hy'.lenSl, - delta_Turns.k2]
          exact two 1 b bs rfl (by omega) (by rw [turnsM])
      | cons a as1 =>
        simp -dsimp [hx'.lenSl, hy'.lenSl, - delta_Turns.k2]
        cases M' with
        | nil =>
          simp -dsimp [hy'.lenSl, show ¬ ((as1.length : Int) + 1 = 0) by omega, - delta_Turns.k2]
          exact one (-1) a as1 rfl (by omega) (by rw [turnsM])
        | cons b bs =>
          obtain ⟨kx, vx, e1, e2, e3, e4, e5, e6, b1, b2⟩ := row_get hxx (i := 0) (r := a) rfl
          obtain ⟨ky, vy, f1, f2, f3, f4, f5, f6, c1, c2⟩ := row_get hyy (i := 0) (r := b) rfl
          have e1 : V.idxS 2 x' (.int .i64 0) = some (elp 2 x' 0 0) := e1
          have f1 : V.idxS 2 y' (.int .i64 0) = some (elp 2 y' 0 0) := f1
          simp -dsimp [hy'.lenSl, show ¬ ((as1.length : Int) + 1 = 0) by omega, show ¬ ((bs.length : Int) + 1 = 0) by omega, e1, e3, e5, f1, f3, f5, - delta_Turns.k2]
          refine s2 _ _ _ _ _ _ b1 c1 ?_
          by_cases h1 : cmpB a.Key b.Key < 0
          · exact one _ a as1 rfl h1 (by rw [turnsM, if_pos h1])
          · by_cases h2 : 0 < cmpB a.Key b.Key
            · exact two _ b bs rfl h2 (by rw [turnsM, if_neg h1, if_pos h2])
            · have h0 : cmpB a.Key b.Key = 0 := by omega
              obtain ⟨x2, t1, t2⟩ := hx'.tail
              obtain ⟨y2, u1, u2⟩ := hy'.tail
              have t1 : V.cutSl 2 x' (some (.int .i64 1)) none = some x2 := t1
              have u1 : V.cutSl 2 y' (some (.int .i64 1)) none = some y2 := u1
              have he : turnsM (a :: as1) (b :: bs) = if a.Value = b.Value then turnsM as1 bs else ⟨a.Key, a.Value, b.Value⟩ :: turnsM as1 bs := by rw [turnsM, if_neg h1, if_neg h2]
              rw [he] at hP
              simp -dsimp [h0, e1, e3, e4, e5, e6, f1, f3, f4, f5, f6]
              refine s3 _ _ _ _ _ _ b2 c2 ?_
              by_cases hv : a.Value = b.Value
              · simp -dsimp [hv, h0, t1, u1]
                rw [if_pos hv] at hP
                exact hY (as1.length + bs.length) _ _ (by simp <;> omega) ⟨x2, y2, o, as1, bs, P, rfl, rfl, t2, u2, hP, ho⟩
              · simp -dsimp [hv, e1, e3, e4, e5, e6, f1, f3, f4, f5, f6]
                rw [if_neg hv] at hP
                refine turns_push s4 (t := ⟨a.Key, a.Value, b.Value⟩) ho (by omega) b1 b2 c2 fun o' a' h' o1 => ?_
                simp -dsimp [h0, t1, u1]
                refine hY (as1.length + bs.length) _ _ (by simp <;> omega) ⟨x2, y2, o', as1, bs, P ++ [(⟨a.Key, a.Value, b.Value⟩, a')], rfl, rfl, t2, u2, ?_, o1⟩
                simpa using hP
    · simp -dsimp [hM]
      exact nil (by simp [hM])
  · simp -dsimp [hL]
    exact nil (by simp [hL])
theorem backR_snoc (t : Turn) (T : List Turn) : backR (t :: T) = backR T ++ [⟨t.Key, t.New, t.Old⟩] := by simp [backR]
def delta_Back.Spec (C : CSem) (N : Nat → Nat) : Prop := ∀ (x : AVal) (T : List Turn) (h : AHeap) (Q : AVal → AHeap → Prop), Dl turnK h x T → T.length ≤ 1000000 →
  (∀ x' P h', P.map (·.1) = backR T → Df turnK h h' x' P → Q x' h') → C (N 264) [x] h Q
theorem delta_Back.spec (i : delta_Back.Imp C N) (s4 : delta_turn.Spec C N) : delta_Back.Spec C N := by
  intro x T h Q hx hlen hq
  apply i
  have m1 : ∀ k : Nat, k ≤ 100000000 → V.bin .sub (.int .i64 (k : Int)) (.int .i64 1) = some (.int .i64 ((k : Int) - 1)) := fun k hk => by
    rw [V.bin_sub, wrap_i64 (by omega) (by omega)]
  simp -dsimp only [delta_Back.cps, hx.lenSl, m1 T.length (by omega), B.pv_some]
  refine LoopR.intro (fun n vs hh => ∃ (o : AVal) (P : List (Turn × (AVal × AVal × AVal))), n ≤ T.length ∧ vs = [o, .int .i64 ((n : Int) - 1)] ∧ P.map (·.1) = backR (T.drop n) ∧ Df turnK h hh o P) T.length ?_
    ⟨.nils, [], Nat.le_refl _, rfl, by simp [backR], by simpa [Df, DK.os] using (Owns.start h).nils turnK.n⟩
  rintro Y n vs hh ⟨o, P, hn, rfl, hP, ho⟩ hY
  have hPl : P.length ≤ 1000000 := by
    have := congrArg List.length hP
    simp [backR] at this
    omega
  simp -dsimp only [delta_Back.l2, delta_Back.k1, V.bin_geq, B.pv_some]
  cases n with
  | zero =>
    rw [show decide ((0 : Int) ≤ ((0 : Nat) : Int) - 1) = false by simp, B.cond_false]
    exact dn_same (hq o P hh hP ho)
  | succ k =>
    rw [show decide ((0 : Int) ≤ ((k + 1 : Nat) : Int) - 1) = true by simp, B.cond_true, show (((k + 1 : Nat) : Int) - 1) = (k : Int) by omega]
    obtain ⟨t, ht⟩ := get_lt (L := T) (k := k) (by omega)
    obtain ⟨kx, vx, wx, e1, e2, e3, e4, e5, e6, e7, e8, b1, b2, b3⟩ := turn_get (hx.mono ho.le) ht
    simp -dsimp only [e1, e3, e4, e5, e6, e7, e8, B.pv_some, B.ld_eq]
    refine turns_push s4 (t := ⟨t.Key, t.New, t.Old⟩) ho (by omega) b1 b3 b2 fun o' a' h' o1 => ?_
    simp -dsimp only [m1 k (by omega), B.pv_some]
    refine hY k _ _ (by omega) ⟨o', P ++ [(⟨t.Key, t.New, t.Old⟩, a')], by omega, rfl, ?_, o1⟩
    have hd : T.drop k = t :: T.drop (k + 1) := by
      obtain ⟨hk, e⟩ := List.getElem?_eq_some_iff.1 ht
      rw [List.drop_eq_getElem_cons hk, e]
    rw [hd, backR_snoc, List.map_append, hP]; rfl
end Go.Ab

/- What is proved: clear of a slice's end. No conditions. -/
set_option linter.unusedVariables false
namespace Go.Ab
theorem flat_take {α : Type} {n : Nat} : ∀ {css : List (List α)}, (∀ cs ∈ css, cs.length = n) → ∀ k : Nat, (css.take k).flatten = css.flatten.take (k * n)
  | [], _, k => by simp
  | c :: css, hl, 0 => by simp
  | c :: css, hl, k + 1 => by
    have hc : c.length = n := hl c (by simp)
    rw [List.take_succ_cons, List.flatten_cons, List.flatten_cons, flat_take (fun p hp => hl p (by simp [hp])) k, Nat.add_mul, Nat.one_mul, show k * n + n = c.length + k * n by omega, List.take_length_add_append]
section
variable {h h0 : AHeap} {es : Nat} {x : AVal} {L R : List (List AVal)} {l : List Ob}
/-- x[:k:k]. -/
theorem SlX.cut3 (hs : SlX h es x L R) {k : Nat} {j1 j2 j3 : IntKind} (hk : k ≤ L.length) :
    ∃ x', V.cut3 es x (.int j1 0) (.int j2 (k : Int)) (.int j3 (k : Int)) = some x' ∧ SlX h es x' (L.take k) [] ∧ foot x' = foot x := by
  rcases hs.at_ with ⟨e, e', e''⟩ | ⟨id, g, off, cp, bk, hh, k1, k1', k2, k3, k4, k5, k6⟩
  · subst e e'
    simp only [List.length_nil, Nat.le_zero_eq] at hk
    subst hk
    rcases e'' with rfl | rfl
    · exact ⟨.nils, rfl, ⟨by simp, .inl ⟨rfl, rfl, .inl rfl⟩⟩, rfl⟩
    · exact ⟨.sz, rfl, ⟨by simp, .inl ⟨rfl, rfl, .inr rfl⟩⟩, rfl⟩
  · subst k1
    refine ⟨.sl id g off k es k, ?_, ⟨fun p hp => hs.len p (List.mem_append_left _ (List.mem_of_mem_take (by simpa using hp))), .inr ⟨id, g, off, k, bk, hh, ?_, ?_, k2, k3, ?_, k5, ?_⟩⟩, rfl⟩
    · have h1 : (0 : Int) ≤ (k : Int) := by omega
      simp only [V.cut3, V.asNat, Int.le_refl, if_true, h1, Int.toNat_natCast, show (0 : Int).toNat = 0 from rfl]
      rw [if_pos ⟨by omega, Nat.le_refl _, by omega, trivial⟩]
      simp
    · simp; omega
    · simp; omega
    · have : k * es ≤ (L.length + R.length) * es := Nat.mul_le_mul_right _ (by omega)
      simp only [List.length_take, List.length_nil, Nat.min_eq_left hk, Nat.add_zero]
      omega
    · have : k * es ≤ (L.length + R.length) * es := Nat.mul_le_mul_right _ (by omega)
      simp only [List.length_take, List.length_nil, Nat.min_eq_left hk, Nat.add_zero, List.append_nil]
      have e1 : (L.take k).flatten = (L ++ R).flatten.take (k * es) := by
        rw [← flat_take hs.len, List.take_append_of_le_length hk]
      rw [e1, ← k6, List.take_take, Nat.min_eq_left this]
end
end Go.Ab

/- What is proved: maps of one's own, by typed entries: what is looked up, put, taken out. No conditions. -/
set_option linter.unusedVariables false
set_option linter.unusedSimpArgs false
namespace Go.Ab
/-! Entries by their keys. -/
abbrev Ents (K T : Type) := List (K × T × Nat)
def keysP {K T : Type} (ps : Ents K T) : List K := ps.map (·.1)
theorem keysP_cons {K T : Type} (p : K × T × Nat) (r : Ents K T) : keysP (p :: r) = p.1 :: keysP r := rfl
section
variable {K T : Type} [DecidableEq K]
def getP : Ents K T → K → Option T
  | [], _ => none
  | p :: r, k => if p.1 = k then some p.2.1 else getP r k
def putP : Ents K T → K → T → Nat → Ents K T
  | [], k, t, c => [(k, t, c)]
  | p :: r, k, t, c => if p.1 = k then (k, t, p.2.2) :: r else p :: putP r k t c
def delP : Ents K T → K → Ents K T
  | [], _ => []
  | p :: r, k => if p.1 = k then r else p :: delP r k
def clkP (ps : Ents K T) (k : K) (c : Nat) : Nat := if (getP ps k).isSome then c else c + 1
/-- Where a key stands. -/
def idxP : Ents K T → K → Option (Nat × T × Nat)
  | [], _ => none
  | p :: r, k => if p.1 = k then some (0, p.2.1, p.2.2) else (idxP r k).map fun (i, q) => (i + 1, q)
theorem getP_put (k k' : K) (t : T) (c : Nat) : ∀ ps : Ents K T, getP (putP ps k t c) k' = if k' = k then some t else getP ps k'
  | [] => by
    simp only [putP, getP]
    by_cases h : k' = k
    · rw [if_pos h.symm, if_pos h]
    · rw [if_neg (Ne.symm h), if_neg h]
  | p :: r => by
    have ih := getP_put k k' t c r
    simp only [putP]
    by_cases hp : p.1 = k
    · rw [if_pos hp]
      simp only [getP]
      by_cases h : k' = k
      · rw [if_pos h.symm, if_pos h]
      · rw [if_neg (Ne.symm h), if_neg h, if_neg (by rw [hp]; exact Ne.symm h)]
    · rw [if_neg hp]
      simp only [getP, ih]
      by_cases h : k' = k
      · subst h; rw [if_neg hp, if_pos rfl, if_pos rfl]
      · rw [if_neg h, if_neg h]
theorem getP_none {k : K} : ∀ {ps : Ents K T}, getP ps k = none ↔ k ∉ keysP ps
  | [] => by simp [getP, keysP]
  | p :: r => by
    have ih := getP_none (k := k) (ps := r)
    simp only [getP, keysP, List.map_cons, List.mem_cons, not_or] at ih ⊢
    by_cases hp : p.1 = k
    · simp [hp]
    · simp [hp, ih, Ne.symm hp]
theorem idxP_get (k : K) : ∀ ps : Ents K T, getP ps k = (idxP ps k).map (·.2.1)
  | [] => rfl
  | p :: r => by
    simp only [getP, idxP]
    split
    · rfl
    · rw [idxP_get k r]; cases idxP r k <;> rfl
theorem idxP_put {k : K} {t : T} {c i : Nat} {q : T × Nat} : ∀ {ps : Ents K T}, idxP ps k = some (i, q) → putP ps k t c = ps.set i (k, t, q.2) ∧ i < ps.length
  | [], h => by simp [idxP] at h
  | p :: r, h => by
    simp only [idxP] at h
    by_cases hp : p.1 = k
    · rw [if_pos hp] at h
      simp only [Option.some.injEq, Prod.mk.injEq] at h
      obtain ⟨rfl, rfl⟩ := h
      simp [putP, hp]
    · rw [if_neg hp] at h
      cases hr : idxP r k with
      | none => simp [hr] at h
      | some x =>
        obtain ⟨j, q'⟩ := x
        simp [hr] at h
        obtain ⟨rfl, rfl⟩ := h
        have := idxP_put (t := t) (c := c) hr
        simp [putP, hp, this.1, this.2]
theorem idxP_del {k : K} {i : Nat} {q : T × Nat} : ∀ {ps : Ents K T}, idxP ps k = some (i, q) → delP ps k = ps.eraseIdx i
  | [], h => by simp [idxP] at h
  | p :: r, h => by
    simp only [idxP] at h
    by_cases hp : p.1 = k
    · rw [if_pos hp] at h
      simp only [Option.some.injEq, Prod.mk.injEq] at h
      obtain ⟨rfl, rfl⟩ := h
      simp [delP, hp]
    · rw [if_neg hp] at h
      cases hr : idxP r k with
      | none => simp [hr] at h
      | some x =>
        obtain ⟨j, q'⟩ := x
        simp [hr] at h
        obtain ⟨rfl, rfl⟩ := h
        simp [delP, hp, idxP_del hr]
theorem idxP_put_none {k : K} {t : T} {c : Nat} : ∀ {ps : Ents K T}, idxP ps k = none → putP ps k t c = ps ++ [(k, t, c)]
  | [], _ => rfl
  | p :: r, h => by
    simp only [idxP] at h
    by_cases hp : p.1 = k
    · rw [if_pos hp] at h; cases h
    · rw [if_neg hp] at h
      cases hr : idxP r k with
      | none => simp [putP, hp, idxP_put_none hr]
      | some x => simp [hr] at h
theorem idxP_del_none {k : K} : ∀ {ps : Ents K T}, idxP ps k = none → delP ps k = ps
  | [], _ => rfl
  | p :: r, h => by
    simp only [idxP] at h
    by_cases hp : p.1 = k
    · rw [if_pos hp] at h; cases h
    · rw [if_neg hp] at h
      cases hr : idxP r k with
      | none => simp [delP, hp, idxP_del_none hr]
      | some x => simp [hr] at h
theorem keysP_put (k : K) (t : T) (c : Nat) : ∀ ps : Ents K T, keysP (putP ps k t c) = if k ∈ keysP ps then keysP ps else keysP ps ++ [k]
  | [] => by simp [putP, keysP]
  | p :: r => by
    have ih := keysP_put k t c r
    by_cases hp : p.1 = k
    · rw [putP, if_pos hp, keysP_cons, keysP_cons, if_pos (by simp [hp]), hp]
    · rw [putP, if_neg hp, keysP_cons, ih, keysP_cons]
      by_cases hm : k ∈ keysP r
      · rw [if_pos hm, if_pos (by simp [hm])]
      · rw [if_neg hm, if_neg (by simp [hm, Ne.symm hp])]; rfl
theorem nodup_put {ps : Ents K T} (h : (keysP ps).Nodup) (k : K) (t : T) (c : Nat) : (keysP (putP ps k t c)).Nodup := by
  rw [keysP_put]
  split
  · exact h
  · rename_i hk
    rw [List.nodup_append]
    exact ⟨h, List.pairwise_singleton _ _, fun a ha b hb e => hk (by rw [List.mem_singleton.1 hb] at e; rw [← e]; exact ha)⟩
theorem keysP_del (k : K) : ∀ {ps : Ents K T}, keysP (delP ps k) = (keysP ps).erase k
  | [] => rfl
  | p :: r => by
    have ih := keysP_del k (ps := r)
    simp only [delP, keysP] at ih ⊢
    by_cases hp : p.1 = k
    · simp [hp]
    · simp [hp, ih, List.erase_cons]
theorem nodup_del {ps : Ents K T} (h : (keysP ps).Nodup) (k : K) : (keysP (delP ps k)).Nodup := by
  rw [keysP_del]; exact h.sublist (List.erase_sublist)
theorem getP_del (k k' : K) : ∀ {ps : Ents K T}, (keysP ps).Nodup → getP (delP ps k) k' = if k' = k then none else getP ps k'
  | [], _ => by simp [delP, getP]
  | p :: r, hn => by
    simp only [keysP, List.map_cons, List.nodup_cons] at hn
    have ih := getP_del k k' (ps := r) hn.2
    simp only [delP]
    by_cases hp : p.1 = k
    · rw [if_pos hp]
      by_cases h : k' = k
      · subst h
        rw [if_pos rfl, getP_none]
        rw [← hp]; exact hn.1
      · rw [if_neg h]; simp only [getP]; rw [if_neg (by rw [hp]; exact Ne.symm h)]
    · rw [if_neg hp]
      simp only [getP, ih]
      by_cases h : k' = k
      · subst h; rw [if_neg hp, if_pos rfl, if_pos rfl]
      · rw [if_neg h, if_neg h]
theorem getP_mem {k : K} {t : T} : ∀ {ps : Ents K T}, getP ps k = some t → ∃ n, (k, t, n) ∈ ps
  | [], h => by simp [getP] at h
  | p :: r, h => by
    simp only [getP] at h
    by_cases hp : p.1 = k
    · rw [if_pos hp] at h
      cases h
      exact ⟨p.2.2, by rw [← hp]; simp⟩
    · rw [if_neg hp] at h
      obtain ⟨n, hn⟩ := getP_mem h
      exact ⟨n, by simp [hn]⟩
theorem mem_getP {ps : Ents K T} (hn : (keysP ps).Nodup) {p : K × T × Nat} (hp : p ∈ ps) : getP ps p.1 = some p.2.1 := by
  induction ps with
  | nil => cases hp
  | cons q r ih =>
    simp only [keysP, List.map_cons, List.nodup_cons] at hn
    simp only [getP]
    rcases List.mem_cons.1 hp with rfl | hp
    · rw [if_pos rfl]
    · rw [if_neg, ih hn.2 hp]
      intro e
      exact hn.1 (by rw [e]; exact List.mem_map_of_mem hp)
end

/-- How keys stand in the memory. -/
structure KeyE (kd : KD) {K : Type} [DecidableEq K] (κ : K → AVal) : Prop where
  same : ∀ a b, V.sameK kd (κ a) (κ b) = some (decide (a = b))
theorem keyS : KeyE .s (fun s : List UInt8 => .str s) := ⟨fun a b => by
  simp only [V.sameK]; congr 1; rw [Bool.eq_iff_iff, beq_iff_eq, decide_eq_true_eq]⟩
theorem map_eraseIdx {α β : Type} (f : α → β) : ∀ (l : List α) (i : Nat), (l.map f).eraseIdx i = (l.eraseIdx i).map f
  | [], _ => rfl
  | _ :: _, 0 => rfl
  | a :: l, i + 1 => by simp [map_eraseIdx f l i]
/-- Entries in the memory. -/
def encM {K T : Type} (κ : K → AVal) (v : T → AVal) (ps : Ents K T) : List (AVal × AVal × Nat) := ps.map fun p => (κ p.1, v p.2.1, p.2.2)
section
variable {kd : KD} {K T : Type} [DecidableEq K] {κ : K → AVal} {v : T → AVal}
theorem findK_enc (hκ : KeyE kd κ) (k : K) : ∀ (ps : Ents K T) (i : Nat), V.findK kd (κ k) (encM κ v ps) i = some ((idxP ps k).map fun (j, q) => (i + j, v q.1, q.2))
  | [], i => rfl
  | p :: r, i => by
    simp only [encM, List.map_cons, V.findK, hκ.same, idxP]
    by_cases hp : k = p.1
    · rw [if_pos hp.symm]; simp [hp]
    · rw [if_neg (Ne.symm hp)]
      have ih := findK_enc hκ k r (i + 1)
      simp only [encM] at ih
      simp only [hp, decide_false, ih]
      cases idxP r k with
      | none => rfl
      | some x => obtain ⟨j, q⟩ := x; simp only [Option.map_some]; congr 3; omega
theorem fset_enc (hκ : KeyE kd κ) (k : K) (t : T) (ps : Ents K T) (c : Nat) : A.fset (some kd) (κ k) (v t) (encM κ v ps) c = some (encM κ v (putP ps k t c), clkP ps k c, .undef) := by
  simp only [A.fset, findK_enc hκ, clkP, idxP_get]
  cases h : idxP ps k with
  | none => simp [idxP_put_none h, encM]
  | some x =>
    obtain ⟨j, q⟩ := x
    have := idxP_put (t := t) (c := c) h
    simp only [Option.map_some, Option.isSome_some, if_true, Nat.zero_add, this.1, encM, List.map_set]
theorem fdel_enc (hκ : KeyE kd κ) (k : K) (ps : Ents K T) (c : Nat) : A.fdel (some kd) (κ k) (encM κ v ps) c = some (encM κ v (delP ps k), c, .tup []) := by
  simp only [A.fdel, findK_enc hκ]
  cases h : idxP ps k with
  | none => simp [idxP_del_none h]
  | some x =>
    obtain ⟨j, q⟩ := x
    have := idxP_del h
    simp only [Option.map_some, Nat.zero_add, this, encM]
    rw [map_eraseIdx]
end

/-- A map of one's own. -/
def mapBlk (es : List (AVal × AVal × Nat)) (c : Nat) : Blk := objOf (.map es c)
theorem Owns.newBlk {h0 h : AHeap} {l : List Ob} (ho : Owns h0 h l) {id : Nat} (hid : h id = none) {b : Blk} (hb : b.own = true) : Owns h0 (upd h id b) (l ++ [.blk id b]) :=
  ho.join ⟨le_upd _ hid, fun o hm => by rw [List.mem_singleton.1 hm]; exact upd_same .., fun o hm j hj => by rw [List.mem_singleton.1 hm] at hj; cases hj; exact ⟨hid, fun b hb' => by rw [upd_same] at hb'; cases hb'; exact hb⟩, List.pairwise_singleton _ _⟩
theorem Owns.newMap {h0 h : AHeap} {l : List Ob} {K T : Type} (ho : Owns h0 h l) (κ : K → AVal) (v : T → AVal) {Q : AVal → AHeap → Prop} (hq : ∀ id h', h id = none → Owns h0 h' (l ++ [.blk id (mapBlk (encM κ v []) 0)]) → h.le h' → Q (.mp id) h') : B.newMap h Q :=
  fun id hid => hq id _ hid (ho.newBlk hid rfl) (le_upd _ hid)
section
variable {h0 h : AHeap} {l : List Ob} {kd : KD} {K T : Type} [DecidableEq K] {κ : K → AVal} {v : T → AVal}
theorem Owns.setBlk (ho : Owns h0 h l) (k : Nat) {id : Nat} {b b' : Blk} (hk : l[k]? = some (.blk id b)) (hb : b'.own = true) : Owns h0 (upd h id b') (l.set k (.blk id b')) :=
  ho.turn k hk (upd_same ..) (fun j c hj hc => by cases hj; rw [upd_same] at hc; cases hc; exact hb) (fun j c e1 e2 => by rw [upd_other]; exact e1; intro e; subst e; exact e2 rfl) (.inl rfl)
theorem mapAt_blk {id : Nat} {es : List (AVal × AVal × Nat)} {c : Nat} (hb : h id = some (mapBlk es c)) : A.mapAt h (.mp id) = some (es, c) := by simp [A.mapAt, hb, mapBlk, objOf]
theorem objT_blk {id : Nat} {es es' : List (AVal × AVal × Nat)} {c c' : Nat} {u : AVal} {f : List (AVal × AVal × Nat) → Nat → Option (List (AVal × AVal × Nat) × Nat × AVal)} {Q : AVal → AHeap → Prop} (hb : h id = some (mapBlk es c)) (hf : f es c = some (es', c', u))
    (hq : Q u (upd h id (mapBlk es' c'))) : A.objT h (.mp id) f Q := by
  unfold mapBlk objOf at *
  simp only [A.objT, hb, hf]
  exact hq
theorem lkp_blk {id : Nat} {c : Nat} {ps : Ents K T} (hκ : KeyE kd κ) (hb : h id = some (mapBlk (encM κ v ps) c)) (z : T) (k : K) (ok : Bool) :
    A.lkp h (some kd) (some (v z)) ok (.mp id) (κ k) = some (bif ok then .tup [v ((getP ps k).getD z), .bool (getP ps k).isSome] else v ((getP ps k).getD z)) := by
  simp only [A.lkp, A.entries, mapAt_blk hb, findK_enc hκ, idxP_get]
  cases idxP ps k with
  | none => rfl
  | some x => rfl
theorem Owns.lkp (ho : Owns h0 h l) (i : Nat) {id c : Nat} {ps : Ents K T} (hi : l[i]? = some (.blk id (mapBlk (encM κ v ps) c))) (hκ : KeyE kd κ) (z : T) (k : K) : A.lkp h (some kd) (some (v z)) false (.mp id) (κ k) = some (v ((getP ps k).getD z)) :=
  lkp_blk hκ (ho.at i hi) z k false
theorem Owns.mset (ho : Owns h0 h l) (i : Nat) {id c : Nat} {ps : Ents K T} (hi : l[i]? = some (.blk id (mapBlk (encM κ v ps) c))) (hκ : KeyE kd κ) (k : K) (t : T) {Q : AHeap → Prop}
    (hq : ∀ h', Owns h0 h' (l.set i (.blk id (mapBlk (encM κ v (putP ps k t c)) (clkP ps k c)))) → But (.mp id) h h' → (∀ j, j ≠ id → h' j = h j) → Q h') : B.mset h kd (.mp id) (κ k) (v t) Q :=
  objT_blk (ho.at i hi) (fset_enc hκ k t ps c) (hq _ (ho.setBlk i hi rfl) (fun j b e1 e2 => by rw [upd_other]; exact e1; intro e; subst e; exact e2 rfl) fun j hj => upd_other _ _ hj)
end
end Go.Ab

/- What is proved: ranges over maps of one's own. No conditions. -/
set_option linter.unusedVariables false
set_option linter.unusedSimpArgs false
namespace Go.Ab
/-- The births of entries: all ahead of the clock, no two alike. -/
def Births {K T : Type} (ps : Ents K T) (c : Nat) : Prop := (∀ p ∈ ps, p.2.2 < c) ∧ (ps.map (·.2.2)).Nodup
section
variable {K T : Type} {ps D : Ents K T} {c : Nat}
theorem Births.nil (c : Nat) : Births ([] : Ents K T) c := ⟨fun _ h => (by cases h), List.Pairwise.nil⟩
theorem Births.put [DecidableEq K] (hb : Births ps c) (k : K) (t : T) : Births (putP ps k t c) (clkP ps k c) := by
  unfold clkP
  rw [idxP_get]
  cases h : idxP ps k with
  | none =>
    rw [idxP_put_none h]
    simp only [Option.map_none, Option.isSome_none, Bool.false_eq_true, if_false]
    refine ⟨fun p hp => ?_, ?_⟩
    · rcases List.mem_append.1 hp with hp | hp
      · have := hb.1 p hp; omega
      · rw [List.mem_singleton.1 hp]; exact Nat.lt_succ_self _
    · rw [List.map_append, List.nodup_append]
      refine ⟨hb.2, List.pairwise_singleton _ _, fun a ha b hb2 => ?_⟩
      obtain ⟨p, hp, rfl⟩ := List.mem_map.1 ha
      rw [List.map_singleton, List.mem_singleton] at hb2
      have := hb.1 p hp
      subst hb2
      exact Nat.ne_of_lt this
  | some x =>
    obtain ⟨j, q⟩ := x
    have he := idxP_put (t := t) (c := c) h
    simp only [Option.map_some, Option.isSome_some, if_true, he.1]
    have hq : (ps.map (·.2.2))[j]? = some q.2 := by
      have : ∀ (ps : Ents K T) (j : Nat) (q : T × Nat), idxP ps k = some (j, q) → (ps.map (·.2.2))[j]? = some q.2 := by
        intro ps
        induction ps with
        | nil => intro j q h; cases h
        | cons p r ih =>
          intro j q h
          simp only [idxP] at h
          split at h
          · cases h; rfl
          · cases e : idxP r k with
            | none => rw [e] at h; cases h
            | some y =>
              obtain ⟨j', q'⟩ := y
              rw [e] at h
              simp only [Option.map_some, Option.some.injEq, Prod.mk.injEq] at h
              obtain ⟨rfl, rfl⟩ := h
              simpa using ih _ _ e
      exact this _ _ _ h
    have hm : (ps.set j (k, t, q.2)).map (·.2.2) = ps.map (·.2.2) := by
      rw [List.map_set]
      apply List.ext_getElem?
      intro i
      rw [List.getElem?_set]
      split
      · rename_i e; subst e
        split
        · exact hq.symm
        · rename_i e2; simp at e2; omega
      · rfl
    refine ⟨fun p hp => ?_, by rw [hm]; exact hb.2⟩
    have : p.2.2 ∈ (ps.set j (k, t, q.2)).map (·.2.2) := List.mem_map.2 ⟨p, hp, rfl⟩
    rw [hm] at this
    obtain ⟨p', hp', e⟩ := List.mem_map.1 this
    rw [← e]; exact hb.1 p' hp'
theorem Births.del [DecidableEq K] (hb : Births ps c) (k : K) : Births (delP ps k) c := by
  cases h : idxP ps k with
  | none => rw [idxP_del_none h]; exact hb
  | some x =>
    obtain ⟨j, q⟩ := x
    rw [idxP_del h]
    have hs := List.eraseIdx_sublist ps j
    exact ⟨fun p hp => hb.1 p (hs.subset hp), (hs.map _).nodup hb.2⟩
theorem Births.inj (hb : Births ps c) {p q : K × T × Nat} (hp : p ∈ ps) (hq : q ∈ ps) (e : p.2.2 = q.2.2) : p = q := by
  obtain ⟨i, hi, rfl⟩ := List.mem_iff_getElem.1 hp
  obtain ⟨j, hj, rfl⟩ := List.mem_iff_getElem.1 hq
  have : i = j := by
    refine (List.getElem_inj (h₀ := by simpa using hi) (h₁ := by simpa using hj) hb.2).1 ?_
    simpa using e
  subst this; rfl
/-- All have been gone through. -/
theorem Births.all (hb : Births ps c) (h1 : ∀ p ∈ D, p ∈ ps) (h2 : (D.map (·.2.2)).Nodup) (h3 : ∀ p ∈ ps, p.2.2 ∈ D.map (·.2.2)) : D.Perm ps := by
  have nd : ∀ {l : Ents K T}, (l.map (·.2.2)).Nodup → l.Nodup := fun h => List.Pairwise.of_map (S := (· ≠ ·)) (fun p : K × T × Nat => p.2.2) (fun a b h e => h (by rw [e])) h
  refine (List.perm_ext_iff_of_nodup (nd h2) (nd hb.2)).2 fun p => ⟨h1 p, fun hp => ?_⟩
  obtain ⟨q, hq, e⟩ := List.mem_map.1 (h3 p hp)
  rwa [hb.inj (h1 q hq) hp e] at hq
end
/-- A range under way. -/
def iterBlk (m since : Nat) (seen : List Nat) (last : Nat) : Blk := objOf (.mapIter (some m) since seen last)
section
variable {h0 h : AHeap} {l : List Ob} {K T : Type} {κ : K → AVal} {v : T → AVal} {ps : Ents K T} {m c : Nat} {Q : AVal → AHeap → Prop}
theorem Owns.rangeMap (ho : Owns h0 h l) (i : Nat) (hi : l[i]? = some (.blk m (mapBlk (encM κ v ps) c))) (hq : ∀ it h', Owns h0 h' (l ++ [.blk it (iterBlk m c [] c)]) → h.le h' → Q (.ptr it 0 0) h') : B.rangeMap h (.mp m) Q := by
  have hb : h m = some (mapBlk (encM κ v ps) c) := ho.at i hi
  show A.rangeMap h (.mp m) Q
  simp only [A.rangeMap, mapAt_blk hb]
  exact fun it hit => hq it _ (ho.newBlk hit rfl) (le_upd _ hit)
theorem Owns.nextMap (ho : Owns h0 h l) (i j : Nat) {it since last : Nat} {seen : List Nat} (hi : l[i]? = some (.blk m (mapBlk (encM κ v ps) c))) (hj : l[j]? = some (.blk it (iterBlk m since seen last))) (hb : Births ps c) (hs : c ≤ since) (hsl : since ≤ last)
    (hdone : (∀ p ∈ ps, p.2.2 ∈ seen) → Q (.tup [.bool false]) h)
    (hstep : ∀ p ∈ ps, p.2.2 ∉ seen → ∀ h', Owns h0 h' (l.set j (.blk it (iterBlk m since (seen ++ [p.2.2]) c))) → (∀ k, k ≠ it → h' k = h k) → A.entryAt h' (.ptr it 0 0) = some (.tup [κ p.1, v p.2.1]) → Q (.tup [.bool true, κ p.1, v p.2.1]) h') :
    B.nextMap h (.ptr it 0 0) Q := by
  have hbm : h m = some (mapBlk (encM κ v ps) c) := ho.at i hi
  have hbi : h it = some (iterBlk m since seen last) := ho.at j hj
  have hne : m ≠ it := fun e => by
    subst e
    rw [hbm] at hbi
    have := Option.some.inj hbi
    unfold mapBlk iterBlk objOf at this
    cases this
  show A.nextMap h (.ptr it 0 0) Q
  have hall : ((encM κ v ps).all fun e => Nat.blt e.2.2 since) = true := by
    rw [List.all_eq_true]
    intro e he
    obtain ⟨p, hp, rfl⟩ := List.mem_map.1 he
    have := hb.1 p hp
    rw [Nat.blt_eq]; show p.2.2 < since; omega
  have hle : Nat.ble since last = true := by rw [Nat.ble_eq]; exact hsl
  have hst : A.steps h (.ptr it 0 0) = some (it, match (encM κ v ps).filter (fun e => !seen.contains e.2.2) with
      | [] => [(iterBlk m since seen last, .tup [.bool false])]
      | l => l.map fun e => ({ iterBlk m since seen last with obj := some (.mapIter (some m) since (seen ++ [e.2.2]) c) }, .tup [.bool true, e.1, e.2.1])) := by
    simp only [A.steps, hbi]
    unfold iterBlk objOf
    simp only [mapAt_blk hbm, hall, hle, Bool.and_self, cond_true]
    rfl
  simp only [A.nextMap, hst]
  intro p hp
  have hf : ∀ e, e ∈ (encM κ v ps).filter (fun e => !seen.contains e.2.2) ↔ ∃ q ∈ ps, q.2.2 ∉ seen ∧ e = (κ q.1, v q.2.1, q.2.2) := fun e => by
    rw [List.mem_filter]
    constructor
    · rintro ⟨he, hc⟩
      obtain ⟨q, hq, rfl⟩ := List.mem_map.1 he
      refine ⟨q, hq, ?_, rfl⟩
      simpa using hc
    · rintro ⟨q, hq, hn, rfl⟩
      exact ⟨List.mem_map.2 ⟨q, hq, rfl⟩, by simpa using hn⟩
  cases hfl : (encM κ v ps).filter (fun e => !seen.contains e.2.2) with
  | nil =>
    rw [hfl] at hp
    rw [List.mem_singleton.1 hp]
    have : upd h it (iterBlk m since seen last) = h := upd_self hbi
    rw [this]
    refine hdone fun q hq => ?_
    by_cases hn : q.2.2 ∈ seen
    · exact hn
    · have := (hf _).2 ⟨q, hq, hn, rfl⟩
      rw [hfl] at this; cases this
  | cons e0 es0 =>
    rw [hfl] at hp
    obtain ⟨e, he, rfl⟩ := List.mem_map.1 hp
    rw [← hfl] at he
    obtain ⟨q, hq, hn, rfl⟩ := (hf _).1 he
    have hblk : ({ iterBlk m since seen last with obj := some (.mapIter (some m) since (seen ++ [q.2.2]) c) } : Blk) = iterBlk m since (seen ++ [q.2.2]) c := rfl
    show Q _ (upd h it { iterBlk m since seen last with obj := some (.mapIter (some m) since (seen ++ [q.2.2]) c) })
    rw [hblk]
    refine hstep q hq hn _ (ho.setBlk j hj rfl) (fun k hk => upd_other _ _ hk) ?_
    have hbm' : upd h it (iterBlk m since (seen ++ [q.2.2]) c) m = some (mapBlk (encM κ v ps) c) := by rw [upd_other _ _ hne]; exact hbm
    have hfind : (encM κ v ps).find? (fun e => Nat.beq e.2.2 q.2.2) = some (κ q.1, v q.2.1, q.2.2) := by
      have key : ∀ (ps : Ents K T), (ps.map (·.2.2)).Nodup → q ∈ ps → (encM κ v ps).find? (fun e => Nat.beq e.2.2 q.2.2) = some (κ q.1, v q.2.1, q.2.2) := by
        intro ps
        induction ps with
        | nil => intro _ h; cases h
        | cons a r ih =>
          intro hnd hm
          simp only [List.map_cons, List.nodup_cons] at hnd
          simp only [encM, List.map_cons, List.find?_cons]
          rcases List.mem_cons.1 hm with rfl | hm
          · simp [Nat.beq_refl]
          · have hne : a.2.2 ≠ q.2.2 := fun e => hnd.1 (by rw [e]; exact List.mem_map.2 ⟨q, hm, rfl⟩)
            have : Nat.beq a.2.2 q.2.2 = false := by
              cases e : Nat.beq a.2.2 q.2.2 with
              | false => rfl
              | true => exact absurd (Nat.eq_of_beq_eq_true e) hne
            rw [this]
            exact ih hnd.2 hm
      exact key ps hb.2 hq
    simp only [A.entryAt, upd_get]
    unfold iterBlk objOf
    have hbm'' := hbm'
    unfold iterBlk objOf at hbm''
    simp only [mapAt_blk hbm'', List.getLast?_append, List.getLast?_singleton, Option.some_or, Nat.beq_refl, cond_true, hfind]
end
end Go.Ab

/- What is proved: contracts: rows are turned by a map of one's own. No conditions. -/
set_option linter.unusedVariables false
set_option linter.unusedSimpArgs false
namespace Go.Ab
variable {C : CSem} {N : Nat → Nat}
abbrev kB : List UInt8 → AVal := fun s => .str s
abbrev vB : List UInt8 × AVal → AVal := fun p => p.2
abbrev MEnt := Ents (List UInt8) (List UInt8 × AVal)
def tabP (ps : MEnt) (k : List UInt8) : List UInt8 := ((getP ps k).map (·.1)).getD []
/-- A map that tells a table. -/
structure MapT (h : AHeap) (ps : MEnt) (c : Nat) (f : Tab) : Prop where
  births : Births ps c
  nodup : (keysP ps).Nodup
  tab : ∀ k, tabP ps k = f k
  ent : ∀ e ∈ ps, e.1.length ≤ far ∧ e.1 ≠ [] ∧ e.2.1.1 ≠ [] ∧ Bs h e.2.1.2 e.2.1.1
section
variable {h : AHeap} {ps : MEnt} {c : Nat} {f g : Tab}
theorem MapT.congr (m : MapT h ps c f) (e : ∀ k, f k = g k) : MapT h ps c g := ⟨m.births, m.nodup, fun k => (m.tab k).trans (e k), m.ent⟩
theorem MapT.empty (h : AHeap) (c : Nat) : MapT h [] c fun _ => [] := ⟨Births.nil c, List.Pairwise.nil, fun _ => rfl, fun _ h => by cases h⟩
theorem MapT.look (m : MapT h ps c f) (k : List UInt8) : Bs h ((getP ps k).getD ([], .nils)).2 (f k) := by
  rw [← m.tab k]
  unfold tabP
  cases e : getP ps k with
  | none => exact Bs.nils h
  | some q =>
    obtain ⟨n, hn⟩ := getP_mem e
    exact (m.ent _ hn).2.2.2
theorem mem_putP {k : List UInt8} {t : List UInt8 × AVal} (hn : (keysP ps).Nodup) {e : List UInt8 × (List UInt8 × AVal) × Nat} (he : e ∈ putP ps k t c) : (e.1 = k ∧ e.2.1 = t) ∨ (e.1 ≠ k ∧ ∃ n, (e.1, e.2.1, n) ∈ ps) := by
  have h1 := mem_getP (nodup_put hn k t c) he
  rw [getP_put] at h1
  by_cases h : e.1 = k
  · rw [if_pos h] at h1; exact .inl ⟨h, (Option.some.inj h1).symm⟩
  · rw [if_neg h] at h1; exact .inr ⟨h, getP_mem h1⟩
theorem MapT.put (m : MapT h ps c f) {k v : List UInt8} {x : AVal} (hk : k.length ≤ far) (hk0 : k ≠ []) (hv : v ≠ []) (hx : Bs h x v) : MapT h (putP ps k (v, x) c) (clkP ps k c) (fun k' => if k' = k then v else f k') := by
  refine ⟨m.births.put k _, nodup_put m.nodup k _ c, fun k' => ?_, fun e he => ?_⟩
  · unfold tabP
    rw [getP_put]
    split
    · rfl
    · exact m.tab k'
  · rcases mem_putP m.nodup he with ⟨e1, e2⟩ | ⟨_, n, hn⟩
    · rw [e1, e2]; exact ⟨hk, hk0, hv, hx⟩
    · exact m.ent (e.1, e.2.1, n) hn
theorem MapT.del (m : MapT h ps c f) {k : List UInt8} {t : List UInt8 × AVal} : MapT h (delP (putP ps k t c) k) (clkP ps k c) (fun k' => if k' = k then [] else f k') := by
  have nd := nodup_put m.nodup k t c
  refine ⟨(m.births.put k _).del k, nodup_del nd k, fun k' => ?_, fun e he => ?_⟩
  · unfold tabP
    rw [getP_del k k' nd, getP_put]
    split
    · rfl
    · exact m.tab k'
  · have h1 := mem_getP (nodup_del nd k) he
    rw [getP_del k _ nd, getP_put] at h1
    split at h1
    · cases h1
    · obtain ⟨n, hn⟩ := getP_mem h1
      exact m.ent (e.1, e.2.1, n) hn
end
theorem Owns.mdel {h0 h : AHeap} {l : List Ob} {kd : KD} {K T : Type} [DecidableEq K] {κ : K → AVal} {v : T → AVal} (ho : Owns h0 h l) (i : Nat) {id c : Nat} {ps : Ents K T} (hi : l[i]? = some (.blk id (mapBlk (encM κ v ps) c))) (hκ : KeyE kd κ) (k : K) {Q : AVal → AHeap → Prop}
    (hq : ∀ h', Owns h0 h' (l.set i (.blk id (mapBlk (encM κ v (delP ps k)) c))) → (∀ j, j ≠ id → h' j = h j) → Q (.tup []) h') : B.mdel h kd (.mp id) (κ k) Q :=
  objT_blk (ho.at i hi) (fdel_enc hκ k ps c) (hq _ (ho.setBlk i hi rfl) fun j hj => upd_other _ _ hj)
theorem getR_snoc {l : List Row} {r : Row} (h : ∀ s ∈ l, s.Key ≠ r.Key) (k : List UInt8) : getR (l ++ [r]) k = if k = r.Key then r.Value else getR l k := by
  induction l with
  | nil => rw [List.nil_append, getR_cons]
  | cons s l ih =>
    rw [List.cons_append, getR_cons, getR_cons, ih fun t ht => h t (List.mem_cons_of_mem _ ht)]
    have := h s (by simp)
    by_cases e : k = s.Key
    · subst e; simp [this]
    · simp [e]

/-- The rows are laid into the map. -/
theorem apply_lay {x : AVal} {L : List Row} {h hh : AHeap} {m : Nat} {y : AVal} {Q : AVal → AHeap → Prop} (hx : Dl rowK h x L) (hL : RightL L) (hlen : L.length ≤ 1000000) (ho : Owns h hh [.blk m (mapBlk (encM kB vB ([] : MEnt)) 0)])
    {n2 : Nat} (hy : V.lenSl y = some (.int .i64 (n2 : Int)))
    (hq : ∀ h' ps c, Owns h h' [.blk m (mapBlk (encM kB vB ps) c)] → MapT h ps c (getR L) → LoopR (delta_Apply.l4 C N Q (.mp m) y (.int .i64 (n2 : Int))) [.int .i64 0] h') :
    LoopR (delta_Apply.l6 C N Q y (.mp m) x (.int .i64 (L.length : Int))) [.int .i64 0] hh := by
  refine LoopR.intro (fun n vs hh => ∃ (k : Nat) (ps : MEnt) (c : Nat), k + n = L.length ∧ vs = [.int .i64 (k : Int)] ∧ Owns h hh [.blk m (mapBlk (encM kB vB ps) c)] ∧ MapT h ps c (getR (L.take k))) L.length ?_ ⟨0, [], 0, by simp, rfl, ho, (MapT.empty h 0).congr fun k => by simp [getR]⟩
  rintro Y n vs hh ⟨k, ps, c, hn, rfl, o, mt⟩ hY
  simp -dsimp only [delta_Apply.l6, delta_Apply.k5, V.bin_lss, B.pv_some]
  refine B.cond_bool (fun hc => ?_) (fun hc => ?_)
  · have hk : k < L.length := by simpa using hc
    obtain ⟨r, hr⟩ := get_lt hk
    obtain ⟨kx, vx, e1, e2, e3, e4, e5, e6, b1, b2⟩ := row_get (hx.mono o.le) hr
    obtain ⟨_, vx', _, e2', _, _, _, _, _, b2'⟩ := row_get hx hr
    obtain ⟨R1, s1⟩ := b1.1
    have hvx : vx' = vx := by
      have h1 : A.ldnv hh (elp 2 x k 0) 2 = some (.agg [kx, vx]) := e2
      obtain ⟨a, ea⟩ := hx.get hr
      obtain ⟨P, R, rfl, s, ha⟩ := hx
      rw [List.getElem?_map] at hr
      obtain ⟨p, hp, rfl⟩ := Option.map_eq_some_iff.1 hr
      have q1 := (slX_el s ha hp).ldn
      have q2 := (slX_el (K := rowK) (s.mono o.le) (fun q hq => rowK.mono o.le (ha q hq)) hp).ldn
      have q1 : A.ldnv h (elp 2 x k 0) 2 = some (.agg [p.2.1, p.2.2]) := q1
      have q2 : A.ldnv hh (elp 2 x k 0) 2 = some (.agg [p.2.1, p.2.2]) := q2
      rw [e2'] at q1; rw [h1] at q2
      cases q1; cases q2; rfl
    subst hvx
    have hmem : r ∈ L := List.mem_of_getElem? hr
    simp -dsimp [e1, e2, bytesStr_bc s1, - V.bin_add, add1 (show k < 4611686018427387904 by omega)]
    refine o.mset (κ := kB) (v := vB) 0 rfl keyS r.Key (r.Value, vx') fun h' o' _ _ => ?_
    simp -dsimp [- V.bin_add, add1 (show k < 4611686018427387904 by omega)]
    refine hY (L.length - (k + 1)) _ _ (by omega) ⟨k + 1, _, _, by omega, rfl, o', ?_⟩
    refine (mt.put b1.2 (hL.key r hmem) (hL.val r hmem) b2').congr fun k' => ?_
    rw [take_succ hr, getR_snoc fun s hs e => ?_]
    obtain ⟨j, hj, rfl⟩ := List.mem_iff_getElem.1 hs
    have hjk : j < k := by rw [List.length_take] at hj; omega
    have := List.pairwise_iff_getElem.1 hL.up j k (by omega) hk hjk
    rw [List.getElem_take] at e
    obtain ⟨_, e8⟩ := List.getElem?_eq_some_iff.1 hr
    rw [← e8] at e
    exact lessB_ne this e
  · have hk : k = L.length := by
      have : ¬ (k : Int) < L.length := by simpa using hc
      omega
    rw [hk, List.take_length] at mt
    simp -dsimp only [hy, B.pv_some]
    exact hq hh ps c o mt
/-- The map is turned. -/
theorem apply_turn {y : AVal} {L : List Row} {T : List Turn} {h hh : AHeap} {m : Nat} {Q : AVal → AHeap → Prop} (s3 : bytes_Equal.Spec C N) (hy : Dl turnK h y T) (hlen : T.length ≤ 1000000) {ps : MEnt} {c : Nat} (ho : Owns h hh [.blk m (mapBlk (encM kB vB ps) c)]) (hL : RightL L) (mt : MapT h ps c (getR L))
    (hno : goA L T = none → ∀ h', h.le h' → Q (.tup [.nils, .bool false]) h')
    (hq : ∀ h' ps c out, goA L T = some out → RightL out → Owns h h' [.blk m (mapBlk (encM kB vB ps) c)] → MapT h ps c (getR out) → B.rangeMap h' (.mp m) fun v64 h => LoopR (delta_Apply.l2 C N Q v64) [.nils] h) :
    LoopR (delta_Apply.l4 C N Q (.mp m) y (.int .i64 (T.length : Int))) [.int .i64 0] hh := by
  refine LoopR.intro (fun n vs hh => ∃ (k : Nat) (ps : MEnt) (c : Nat) (out : List Row), k + n = T.length ∧ vs = [.int .i64 (k : Int)] ∧ RightL out ∧ goA L T = goA out (T.drop k) ∧ Owns h hh [.blk m (mapBlk (encM kB vB ps) c)] ∧ MapT h ps c (getR out)) T.length ?_ ⟨0, ps, c, L, by simp, rfl, hL, rfl, ho, mt⟩
  rintro Y n vs hh ⟨k, ps, c, out, hn, rfl, hout, hgo, o, mt⟩ hY
  simp -dsimp only [delta_Apply.l4, delta_Apply.k3, V.bin_lss, B.pv_some]
  refine B.cond_bool (fun hc => ?_) (fun hc => ?_)
  · have hk : k < T.length := by simpa using hc
    obtain ⟨t, ht⟩ := get_lt hk
    have hd : T.drop k = t :: T.drop (k + 1) := by
      obtain ⟨hk, e⟩ := List.getElem?_eq_some_iff.1 ht
      rw [List.drop_eq_getElem_cons hk, e]
    rw [hd, goA] at hgo
    obtain ⟨P, R, rfl, s, ha⟩ := hy
    rw [List.getElem?_map] at ht
    obtain ⟨p, hp, rfl⟩ := Option.map_eq_some_iff.1 ht
    obtain ⟨b1', b2', b3'⟩ : Bs h p.2.1 p.1.Key ∧ Bs h p.2.2.1 p.1.Old ∧ Bs h p.2.2.2 p.1.New := ha p (List.mem_of_getElem? hp)
    have el := slX_el (K := turnK) (s.mono o.le) (fun q hq => turnK.mono o.le (ha q hq)) hp
    have e1 : V.idxS 3 y (.int .i64 (k : Int)) = some (elp 3 y k 0) := el.idx
    have e2 : A.ldnv hh (elp 3 y k 0) 3 = some (.agg [p.2.1, p.2.2.1, p.2.2.2]) := el.ldn
    have b1 := b1'.mono o.le; have b2 := b2'.mono o.le; have b3 := b3'.mono o.le
    obtain ⟨R1, s1⟩ := b1.1
    by_cases hkey : p.1.Key = []
    · rw [if_pos (.inl hkey)] at hgo
      simp -dsimp [e1, e2, bytesStr_bc s1, hkey]
      exact hno hgo hh o.le
    · have hlk : A.lkp hh (some .s) (some .nils) false (.mp m) (.str p.1.Key) = some ((getP ps p.1.Key).getD ([], .nils)).2 := o.lkp (κ := kB) (v := vB) 0 rfl keyS ([], .nils) p.1.Key
      simp -dsimp [e1, e2, bytesStr_bc s1, hkey, hlk]
      refine s3 _ _ _ _ _ _ ((mt.look p.1.Key).mono o.le) b2 ?_
      by_cases hold : getR out p.1.Key = p.1.Old
      · rw [if_neg (by simp [hkey, hold])] at hgo
        simp -dsimp [hkey, hold, - V.bin_add]
        refine o.mset (κ := kB) (v := vB) 0 rfl keyS p.1.Key (p.1.New, p.2.2.2) fun h' o' _ hoth => ?_
        have hout' := putR_right hout (v := p.1.New) hkey
        have hget : ∀ k', (if k' = p.1.Key then p.1.New else getR out k') = getR (putR out p.1.Key p.1.New) k' := fun k' => (putR_get hout hkey k').symm
        by_cases hnew : p.1.New = []
        · have hlen3 := (b3'.mono o'.le).lenSl
          rw [hnew] at hlen3
          simp -dsimp [hlen3, - V.bin_add]
          refine o'.mdel (κ := kB) (v := vB) 0 rfl keyS p.1.Key fun h'' o'' _ => ?_
          simp -dsimp [- V.bin_add, add1 (show k < 4611686018427387904 by omega)]
          refine hY ((P.map (·.1)).length - (k + 1)) _ _ (by omega) ⟨k + 1, _, _, _, by omega, rfl, hout', hgo, o'', ?_⟩
          exact mt.del.congr fun k' => by rw [← hget k', hnew]
        · have hlen3 := (b3'.mono o'.le).lenSl
          have hz : ¬ ((p.1.New.length : Int) = 0) := by
            intro e
            exact hnew (List.eq_nil_of_length_eq_zero (by omega))
          simp -dsimp [hlen3, hz, hnew, - V.bin_add, add1 (show k < 4611686018427387904 by omega)]
          refine hY ((P.map (·.1)).length - (k + 1)) _ _ (by omega) ⟨k + 1, _, _, _, by omega, rfl, hout', hgo, o', ?_⟩
          exact (mt.put b1'.2 hkey hnew b3').congr hget
      · rw [if_pos (.inr hold)] at hgo
        simp -dsimp [hkey, hold]
        exact hno hgo hh o.le
  · have hk : k = T.length := by
      have : ¬ (k : Int) < T.length := by simpa using hc
      omega
    rw [hk, List.drop_length, goA] at hgo
    exact hq hh ps c out hgo hout o mt
abbrev rowOf (e : List UInt8 × (List UInt8 × AVal) × Nat) : Row := ⟨e.1, e.2.1.1⟩
theorem rows_of_map {h : AHeap} {ps D : MEnt} {c : Nat} {out S : List Row} (mt : MapT h ps c (getR out)) (ho : RightL out) (hD : D.Perm ps) (hS : S.Perm (D.map rowOf)) (hs : S.Pairwise fun s t => ¬ cmpB t.Key s.Key < 0) : S = out := by
  have hp : S.Perm (ps.map rowOf) := hS.trans (hD.map rowOf)
  have keys : (S.map (·.Key)).Nodup := by
    have : (S.map (·.Key)).Perm (keysP ps) := by
      have := hp.map (·.Key)
      rwa [List.map_map] at this
    exact this.nodup_iff.2 mt.nodup
  have mem : ∀ r, r ∈ S ↔ ∃ e ∈ ps, rowOf e = r := fun r => by rw [hp.mem_iff, List.mem_map]
  have hr : RightL S := by
    refine ⟨fun r hr => ?_, fun r hr => ?_, ?_⟩
    · obtain ⟨e, he, rfl⟩ := (mem r).1 hr; exact (mt.ent e he).2.1
    · obtain ⟨e, he, rfl⟩ := (mem r).1 hr; exact (mt.ent e he).2.2.1
    · have hk : S.Pairwise fun s t => s.Key ≠ t.Key := by
        have := keys; unfold List.Nodup at this; rwa [List.pairwise_map] at this
      refine (hs.and hk).imp fun {s t} ⟨h1, h2⟩ => ?_
      have : lessB t.Key s.Key = false := by
        cases e : lessB t.Key s.Key with
        | false => rfl
        | true => exact absurd (cmpB_neg.2 e) h1
      exact lessB_or this (Ne.symm h2)
  refine hr.ext ho fun k => ?_
  rw [← mt.tab k]
  unfold tabP
  cases e : getP ps k with
  | none =>
    refine getR_none fun r hr' e2 => ?_
    obtain ⟨q, hq, rfl⟩ := (mem r).1 hr'
    have := mem_getP mt.nodup hq
    have e2 : q.1 = k := e2
    rw [e2, e] at this; cases this
  | some q =>
    obtain ⟨n, hn⟩ := getP_mem e
    exact hr.get (r := rowOf (k, q, n)) ((mem _).2 ⟨_, hn, rfl⟩)
theorem lessB_ntrans {a b c : List UInt8} (h1 : lessB a b = false) (h2 : lessB b c = false) : lessB a c = false := by
  cases e : lessB a c with
  | false => rfl
  | true =>
    by_cases e1 : a = b
    · subst e1; rw [e] at h2; cases h2
    · have := lessB_trans (lessB_or h1 e1) e; rw [this] at h2; cases h2
theorem weakB {X : Type} (k : X → List UInt8) : Weak (lessC fun a b : X => cmpB (k a) (k b)) := by
  have key : ∀ a b : X, lessC (fun a b : X => cmpB (k a) (k b)) a b = lessB (k a) (k b) := fun a b => by
    unfold lessC
    rw [Bool.eq_iff_iff, decide_eq_true_eq]; exact cmpB_neg
  exact ⟨fun {a b} h => by rw [key] at h ⊢; exact lessB_asym h, fun {a b c} h1 h2 => by rw [key] at h1 h2 ⊢; exact lessB_ntrans h1 h2⟩
theorem rowS {X : Type} (f : X → AVal × AVal) : SeqSpec (opsF 2 48 [.nils, .nils] 0 []) (fun p : X => rowK.cells (f p)) (fun p => .agg (rowK.cells (f p))) := seqF (by omega) (by omega) rfl fun _ => rfl
def delta_Apply_1.Spec (C : CSem) (N : Nat → Nat) : Prop := ∀ (r s : Row) (a b : AVal × AVal) (h : AHeap) (Q : AVal → AHeap → Prop), rowK.at_ h r a → rowK.at_ h s b → Q (.int .i64 (cmpB r.Key s.Key)) h → C (N 282) [.agg (rowK.cells a), .agg (rowK.cells b)] h Q
theorem delta_Apply_1.spec (i : delta_Apply_1.Imp C N) (s1 : bytes_Compare.Spec C N) : delta_Apply_1.Spec C N := by
  intro r s a b h Q ha hb hq
  apply i
  simp -dsimp [rowK]
  exact s1 _ _ _ _ _ _ ha.1 hb.1 (dn_same hq)
theorem exists_sub {α : Type} {p : α → Prop} : ∀ {P : List α}, (∀ a ∈ P, p a) → ∃ G : List { a // p a }, G.map (·.1) = P
  | [], _ => ⟨[], rfl⟩
  | a :: P, h => by
    obtain ⟨G, e⟩ := exists_sub (P := P) fun b hb => h b (List.mem_cons_of_mem _ hb)
    exact ⟨⟨a, h a (by simp)⟩ :: G, by simp [e]⟩
/-- Rows of one's own are put in order. -/
def slices_SortFunc_api_Row_api_Row.Spec (C : CSem) (N : Nat → Nat) : Prop := ∀ (h0 h : AHeap) (x : AVal) (P : List (Row × (AVal × AVal))) (R : List (List AVal)) (l : List Ob) (Q : AVal → AHeap → Prop), Owns h0 h (l ++ [.sl 2 x (P.map rowK.cs) R]) → P.length ≤ 100000000 →
  (∀ p ∈ P, ∀ h', (∀ o ∈ l, o.at h') → h0.le h' → rowK.at_ h' p.1 p.2) →
  (∀ h' (P' : List (Row × (AVal × AVal))), P'.Perm P → P'.Pairwise (fun s t => ¬ cmpB t.1.Key s.1.Key < 0) → Owns h0 h' (l ++ [.sl 2 x (P'.map rowK.cs) R]) → Q (.tup []) h') → C (N 283) [x, .fn (N 282) [] []] h Q
theorem slices_SortFunc_api_Row_api_Row.spec (i : slices_SortFunc_api_Row_api_Row.Imp C N) (j1 : slices_partitionEqualCmpFunc_api_Row.Imp C N) (j2 : slices_partitionCmpFunc_api_Row.Imp C N) (j3 : slices_pdqsortCmpFunc_api_Row.Imp C N) (j4 : slices_partialInsertionSortCmpFunc_api_Row.Imp C N)
    (j5 : slices_reverseRangeCmpFunc_api_Row.Imp C N) (j6 : slices_choosePivotCmpFunc_api_Row.Imp C N) (j7 : slices_breakPatternsCmpFunc_api_Row.Imp C N) (j8 : slices_heapSortCmpFunc_api_Row.Imp C N) (j9 : slices_insertionSortCmpFunc_api_Row.Imp C N) (k1 : slices_order2CmpFunc_api_Row.Imp C N)
    (k2 : slices_medianCmpFunc_api_Row.Imp C N) (k3 : slices_medianAdjacentCmpFunc_api_Row.Imp C N) (k4 : slices_siftDownCmpFunc_api_Row.Imp C N) (k5 : NextI C (N 298)) (k6 : PowI C (N 299)) (hl : LenI C (N 287)) (s1 : delta_Apply_1.Spec C N) : slices_SortFunc_api_Row_api_Row.Spec C N := by
  intro h0 h x P R l Q ho hlen hat hq
  have oo := ho.out
  have hat' : ∀ p ∈ P, rowK.at_ (h.without [.sl 2 x (P.map rowK.cs) R]) p.1 p.2 := fun p hp => hat p hp _ oo.1.is oo.1.le
  obtain ⟨G, hG⟩ := exists_sub hat'
  have hGl : G.length = P.length := by have := congrArg List.length hG; rwa [List.length_map] at this
  have hGc : G.map (fun p : { p : Row × (AVal × AVal) // rowK.at_ (h.without [.sl 2 x (P.map rowK.cs) R]) p.1 p.2 } => rowK.cells p.1.2) = P.map rowK.cs := by
    have := congrArg (List.map rowK.cs) hG
    rw [List.map_map] at this; exact this
  have orw : Rw (opsF 2 48 [.nils, .nils] 0 []) (fun p : { p : Row × (AVal × AVal) // rowK.at_ (h.without [.sl 2 x (P.map rowK.cs) R]) p.1 p.2 } => rowK.cells p.1.2) (h.without [.sl 2 x (P.map rowK.cs) R]) h x G R := by
    unfold Rw; rw [hGc]; exact oo.2
  have hc : CmpSpec C (fun p : { p : Row × (AVal × AVal) // rowK.at_ (h.without [.sl 2 x (P.map rowK.cs) R]) p.1 p.2 } => .agg (rowK.cells p.1.2)) (fun a b : { p : Row × (AVal × AVal) // rowK.at_ (h.without [.sl 2 x (P.map rowK.cs) R]) p.1 p.2 } => cmpB a.1.1.Key b.1.1.Key) (.fn (N 282) [] []) (h.without [.sl 2 x (P.map rowK.cs) R]) := ⟨fun h' a b K hle hk => s1 _ _ _ _ _ _ (rowK.mono hle a.2) (rowK.mono hle b.2) hk⟩
  have J : PdqI C (opsF 2 48 [.nils, .nils] 0 []) (N 289) (N 290) (N 288) (N 291) (N 292) (N 293) (N 294) (N 295) (N 296) (N 302) (N 300) (N 301) (N 297) (N 298) (N 299) := ⟨j1, j2, j3, j4, j5, j6, j7, j8, j9, k1, k2, k3, k4, k5, k6⟩
  refine i _ _ _ _ (SortFunc_spec J hl (rowS fun p : { p : Row × (AVal × AVal) // rowK.at_ (h.without [.sl 2 x (P.map rowK.cs) R]) p.1 p.2 } => p.1.2) (weakB fun p : { p : Row × (AVal × AVal) // rowK.at_ (h.without [.sl 2 x (P.map rowK.cs) R]) p.1 p.2 } => p.1.1.Key) hc (by rw [hGl]; exact hlen) orw fun h' G' hp hs o' => dn_same ?_)
  have hP' : (G'.map (·.1)).Perm P := by have := hp.map (·.1); rwa [hG] at this
  refine hq h' (G'.map (·.1)) hP' ?_ ?_
  · rw [List.pairwise_map]; exact hs
  · have e : G'.map (fun p : { p : Row × (AVal × AVal) // rowK.at_ (h.without [.sl 2 x (P.map rowK.cs) R]) p.1 p.2 } => rowK.cells p.1.2) = (G'.map (·.1)).map rowK.cs := by rw [List.map_map]; rfl
    unfold Rw at o'
    rw [e] at o'
    exact oo.1.join o'
end Go.Ab

/- What is proved: contract: rows are turned. No conditions. -/
set_option linter.unusedVariables false
set_option linter.unusedSimpArgs false
namespace Go.Ab
variable {C : CSem} {N : Nat → Nat}
def delta_Apply.Spec (C : CSem) (N : Nat → Nat) : Prop := ∀ (x y : AVal) (L : List Row) (T : List Turn) (h : AHeap) (Q : AVal → AHeap → Prop), Dl rowK h x L → Dl turnK h y T → L.length ≤ 1000000 → T.length ≤ 1000000 →
  (applyR L T = none → Q (.tup [.nils, .bool false]) h) → (∀ m x' P h', applyR L T = some m → P.map (·.1) = m → Df rowK h h' x' P → Q (.tup [x', .bool true]) h') → C (N 261) [x, y] h Q
theorem apply_out (s1 : slices_Clone_byte_byte.Spec C N) (s2 : slices_SortFunc_api_Row_api_Row.Spec C N) {h hh : AHeap} {ps : MEnt} {c m : Nat} {out : List Row} {Q : AVal → AHeap → Prop} (hlen : ps.length ≤ 10000000) (hout : RightL out) (mt : MapT h ps c (getR out)) (ho : Owns h hh [.blk m (mapBlk (encM kB vB ps) c)])
    (hq : ∀ x' P h', P.map (·.1) = out → Df rowK h h' x' P → Q (.tup [x', .bool true]) h') : B.rangeMap hh (.mp m) fun v64 h => LoopR (delta_Apply.l2 C N Q v64) [.nils] h := by
  refine ho.rangeMap (κ := kB) (v := vB) 0 rfl fun it h1 o1 _ => ?_
  have o1 := o1.nils 2
  refine LoopR.intro (fun n vs hh => ∃ (D : MEnt) (o : AVal) (P : List (Row × (AVal × AVal))), n = ps.length - D.length ∧ vs = [o] ∧ (∀ p ∈ D, p ∈ ps) ∧ (D.map (·.2.2)).Nodup ∧ P.map (·.1) = D.map rowOf ∧
    Owns h hh (.blk m (mapBlk (encM kB vB ps) c) :: .blk it (iterBlk m c (D.map (·.2.2)) c) :: .sl 2 o (P.map rowK.cs) [] :: rowK.os false P)) ps.length ?_ ⟨[], .nils, [], rfl, rfl, fun _ h => (by cases h), List.Pairwise.nil, rfl, by simpa [DK.os] using o1⟩
  rintro Y n vs h2 ⟨D, o, P, rfl, rfl, hD, hnd, hP, o2⟩ hY
  have sub : ∀ {D : MEnt}, (∀ p ∈ D, p ∈ ps) → (D.map (·.2.2)).Nodup → D.length ≤ ps.length := fun h1 h2 => List.Nodup.length_le_of_subset (List.Pairwise.of_map (S := (· ≠ ·)) (fun p : List UInt8 × (List UInt8 × AVal) × Nat => p.2.2) (fun a b h e => h (by rw [e])) h2) h1
  have hPl : P.length = D.length := by have := congrArg List.length hP; simpa using this
  have hDl := sub hD hnd
  have hok : ∀ p ∈ P, rowK.ok p.1 := fun p hp => by
    have : p.1 ∈ P.map (·.1) := List.mem_map.2 ⟨p, hp, rfl⟩
    rw [hP, List.mem_map] at this
    obtain ⟨e, he, e1⟩ := this
    rw [← e1]
    have := mt.ent e (hD e he)
    exact ⟨this.1, this.2.2.2.2⟩
  simp -dsimp only [delta_Apply.l2, delta_Apply.k1]
  refine o2.nextMap (κ := kB) (v := vB) 0 1 rfl rfl mt.births (Nat.le_refl c) (Nat.le_refl c) (fun hall => ?_) fun p hp hn h3 o3 _ hent => ?_
  · simp -dsimp
    have hperm := mt.births.all hD hnd hall
    have o4 : Owns h h2 ((.blk m (mapBlk (encM kB vB ps) c) :: .blk it (iterBlk m c (D.map (·.2.2)) c) :: rowK.os false P) ++ [.sl 2 o (P.map rowK.cs) []]) := o2.perm (by
      refine List.Perm.cons _ (List.Perm.cons _ ?_)
      exact (List.perm_append_comm (l₁ := [Ob.sl 2 o (P.map rowK.cs) []]) (l₂ := rowK.os false P)))
    refine s2 _ _ _ _ _ _ _ o4 (by omega) (fun p hp h' ha _ => rowK.ofObs (b := false) (hok p hp) fun ob hob => ha ob (List.mem_cons_of_mem _ (List.mem_cons_of_mem _ (List.mem_flatMap.2 ⟨p, hp, hob⟩)))) fun h' P' hp' hs o5 => ?_
    have e : P'.map (·.1) = out := rows_of_map (S := P'.map (·.1)) mt hout hperm (by have := hp'.map (·.1); rwa [hP] at this) (by rw [List.pairwise_map]; exact hs)
    refine hq o P' h' e ?_
    have o6 : Owns h h' (.sl 2 o (P'.map rowK.cs) [] :: rowK.os false P) := by
      have o7 := o5.perm (List.perm_append_comm (l₁ := (.blk m (mapBlk (encM kB vB ps) c) :: .blk it (iterBlk m c (D.map (·.2.2)) c) :: rowK.os false P)) (l₂ := [Ob.sl 2 o (P'.map rowK.cs) []]))
      exact o7.sub (List.Sublist.cons_cons _ (List.Sublist.cons _ (List.Sublist.cons _ (List.Sublist.refl _))))
    exact o6.perm (List.Perm.cons _ (hp'.symm.flatMap_right _))
  · have he := mt.ent p hp
    simp -dsimp [hent]
    refine strBytes_own he.1 fun x1 h4 o4 => ?_
    have o34 := o3.join o4
    refine s1 _ p.2.1.1 _ _ (he.2.2.2.mono o34.le) fun x2 h5 o5 => ?_
    have o35 := o34.join o5
    simp -dsimp [(bOb_bs he.1 o4).isCell, (bOb_bs he.2.2.2.2 o5).isCell]
    refine o35.push 2 rfl (cs := [x1, x2]) rfl (by omega) (by simp; omega) (by simp [maxLen]; omega) fun o' h6 o6 _ => ?_
    have hD' : ∀ q ∈ D ++ [p], q ∈ ps := fun q hq => by
      rcases List.mem_append.1 hq with hq | hq
      · exact hD q hq
      · rw [List.mem_singleton.1 hq]; exact hp
    have hnd' : ((D ++ [p]).map (·.2.2)).Nodup := by
      rw [List.map_append, List.nodup_append]
      refine ⟨hnd, List.pairwise_singleton _ _, fun a ha b hb e => ?_⟩
      rw [List.map_singleton, List.mem_singleton] at hb
      rw [e, hb] at ha
      exact hn ha
    have hl' := sub hD' hnd'
    simp only [List.length_append, List.length_singleton] at hl'
    refine hY (ps.length - (D.length + 1)) _ _ (by omega) ⟨D ++ [p], o', P ++ [(rowOf p, (x1, x2))], by simp, rfl, hD', hnd', ?_, ?_⟩
    · rw [List.map_append, List.map_append, hP]; rfl
    · rw [DK.os_append, DK.os_one, List.map_append, List.map_append]
      simp only [List.cons_append, List.set_cons_succ, List.set_cons_zero, List.append_assoc] at o6
      exact o6
theorem MapT.few {h : AHeap} {ps : MEnt} {c : Nat} {out : List Row} (mt : MapT h ps c (getR out)) : ps.length ≤ out.length := by
  have h1 : ∀ k ∈ keysP ps, k ∈ out.map (·.Key) := fun k hk => by
    have : ∃ q, getP ps k = some q := by
      cases e : getP ps k with
      | none => exact absurd hk (getP_none.1 e)
      | some q => exact ⟨q, rfl⟩
    obtain ⟨q, e⟩ := this
    obtain ⟨n, hn⟩ := getP_mem e
    have ht := mt.tab k
    unfold tabP at ht
    rw [e] at ht
    have hne : getR out k ≠ [] := by rw [← ht]; exact (mt.ent _ hn).2.2.1
    obtain ⟨r, hr, rfl, _⟩ := getR_ne hne
    exact List.mem_map.2 ⟨r, hr, rfl⟩
  have := List.Nodup.length_le_of_subset mt.nodup h1
  unfold keysP at this
  simpa using this
theorem putGo_len (k v : List UInt8) : ∀ (l : List Row) (d : Bool), (putGo k v d l).length ≤ l.length + (if d then 0 else 1)
  | [], d => by cases d <;> simp [putGo]
  | r :: l, d => by
    rw [putGo]
    have ih := putGo_len k v l (d || !lessB r.Key k)
    generalize lessB r.Key k = b at ih ⊢
    have h3 : ((if r.Key = k then [] else [r]) : List Row).length ≤ 1 := by split <;> simp
    simp only [List.length_append, List.length_cons]
    cases d <;> cases b <;> simp at ih ⊢ <;> omega
theorem goA_len : ∀ (ts : List Turn) {out m : List Row}, goA out ts = some m → m.length ≤ out.length + ts.length
  | [], out, m, h => by cases h; simp
  | t :: ts, out, m, h => by
    rw [goA] at h
    split at h
    · cases h
    · have := goA_len ts h
      have h2 := putGo_len t.Key t.New out (decide (t.New = []))
      unfold putR at this
      simp only [List.length_cons]
      split at h2 <;> omega
theorem delta_Apply.spec (i : delta_Apply.Imp C N) (s1 : delta_right.Spec C N) (s2 : bytes_Equal.Spec C N) (s3 : slices_Clone_byte_byte.Spec C N) (s4 : slices_SortFunc_api_Row_api_Row.Spec C N) : delta_Apply.Spec C N := by
  intro x y L T h Q hx hy hl1 hl2 hno hyes
  apply i
  simp -dsimp only [delta_Apply.cps, delta_Apply.k7]
  refine s1 _ _ _ _ hx (by omega) ?_
  by_cases hL : rightR L = true
  · have hR := rightR_iff.1 hL
    have ha : applyR L T = goA L T := by unfold applyR; rw [if_pos hL]
    rw [ha] at hno hyes
    simp -dsimp only [hL, V.un_not, Bool.not_true, B.pv_some, B.cond_false]
    refine (Owns.start h).newMap kB vB fun m h1 _ o1 _ => ?_
    simp only [List.nil_append] at o1
    simp -dsimp only [hx.lenSl, B.pv_some]
    refine apply_lay hx hR hl1 o1 hy.lenSl fun h2 ps c o2 mt => ?_
    refine apply_turn s2 hy hl2 o2 hR mt (fun e h' hle => dn_le hle (hno e)) fun h3 ps' c' out e hout o3 mt' => ?_
    have h4 := mt'.few
    have h5 := goA_len T e
    exact apply_out s3 s4 (by omega) hout mt' o3 fun x' P h' e' o' => dn_same (hyes out x' P h' e e' o')
  · have hL' : rightR L = false := by simpa using hL
    have ha : applyR L T = none := by unfold applyR; rw [if_neg hL]
    simp -dsimp only [hL', V.un_not, Bool.not_false, B.pv_some, B.cond_true]
    exact dn_same (hno ha)
end Go.Ab

/- What is proved: contracts: the document's rows and turns. No conditions. -/
set_option linter.unusedVariables false
set_option linter.unusedSimpArgs false
namespace Go.Ab
variable {C : CSem} {N : Nat → Nat}
theorem bs_get {h : AHeap} {x : AVal} {b : List UInt8} (hb : Bs h x b) {i : Nat} {c : UInt8} (hi : b[i]? = some c) : V.idxS 1 x (.int .i64 (i : Int)) = some (elp 1 x i 0) ∧ A.ldv h (elp 1 x i 0) = some (.int .u8 (c.toNat : Int)) := by
  obtain ⟨⟨R, s⟩, _⟩ := hb
  have hl : i < b.length := (List.getElem?_eq_some_iff.1 hi).1
  have hc : (b.map bc)[i]? = some (bc c) := by rw [List.getElem?_map, hi]; rfl
  exact ⟨s.idxN (by simpa using hl), by rw [s.ldv hc (by omega)]; rfl⟩
def ref17_less.Spec (C : CSem) (N : Nat → Nat) : Prop := ∀ (x y : AVal) (a b : List UInt8) (h : AHeap) (Q : AVal → AHeap → Prop), Bs h x a → Bs h y b → Q (.bool (lessB a b)) h → C (N 286) [x, y] h Q
theorem drop_get {α : Type} {l : List α} {i : Nat} {a : α} (h : l[i]? = some a) : l.drop i = a :: l.drop (i + 1) := by
  obtain ⟨hi, e⟩ := List.getElem?_eq_some_iff.1 h
  rw [List.drop_eq_getElem_cons hi, e]
theorem ref17_less.spec (i : ref17_less.Imp C N) : ref17_less.Spec C N := by
  intro x y a b h Q ha hb hq
  apply i
  have fa := ha.2; have fb := hb.2
  unfold far at fa fb
  simp -dsimp only [ref17_less.cps]
  refine LoopR.intro (fun n vs hh => ∃ k : Nat, k + n = a.length ∧ k ≤ b.length ∧ vs = [.int .i64 (k : Int)] ∧ hh = h ∧ lessB a b = lessB (a.drop k) (b.drop k)) a.length ?_ ⟨0, by simp, by simp, rfl, rfl, rfl⟩
  rintro Y n vs hh ⟨k, hn, hkb, rfl, rfl, he⟩ hY
  simp -dsimp only [ref17_less.l2, ref17_less.k1, ha.lenSl, hb.lenSl, V.bin_lss, B.pv_some]
  by_cases h1 : k < a.length ∧ k < b.length
  · obtain ⟨u, hu⟩ := get_lt h1.1
    obtain ⟨w, hw⟩ := get_lt h1.2
    obtain ⟨e1, e2⟩ := bs_get ha hu
    obtain ⟨f1, f2⟩ := bs_get hb hw
    rw [drop_get hu, drop_get hw, lessB_cc] at he
    simp -dsimp [h1.1, h1.2, hb.lenSl, e1, e2, f1, f2, - V.bin_add, add1 (show k < 4611686018427387904 by omega)]
    refine B.cond_bool (fun hd => ?_) (fun hd => ?_)
    · simp -dsimp [e1, e2, f1, f2]
      have hne : ¬ u = w := fun e => by subst e; simp at hd
      have : (u == w) = false := by simp [hne]
      rw [this, Bool.false_and, Bool.or_false] at he
      rw [he] at hq
      refine dn_same ?_
      have e : decide (u < w) = decide (u.toNat < w.toNat) := by rw [Bool.eq_iff_iff]; simp [UInt8.lt_iff_toNat_lt]
      rw [e] at hq
      exact hq
    · have heq : u = w := by
        have : ((u.toNat : Int) = (w.toNat : Int)) := by simpa using hd
        exact UInt8.toNat_inj.1 (by omega)
      subst heq
      simp -dsimp [- V.bin_add, add1 (show k < 4611686018427387904 by omega)]
      refine hY (a.length - (k + 1)) _ _ (by omega) ⟨k + 1, by omega, by omega, rfl, rfl, ?_⟩
      rw [he]; simp
  · have hres : lessB a b = decide (a.length < b.length) := by
      rw [he]
      by_cases h2 : k < a.length
      · have : k = b.length := by
          have : ¬ k < b.length := fun h => h1 ⟨h2, h⟩
          omega
        rw [this, List.drop_length, lessB_nil]
        symm; rw [decide_eq_false_iff_not]; omega
      · have hk : k = a.length := by omega
        rw [hk, List.drop_length]
        cases hb2 : b.drop a.length with
        | nil =>
          rw [lessB_nil]
          symm; rw [decide_eq_false_iff_not]
          have := congrArg List.length hb2
          simp at this; omega
        | cons c r =>
          rw [lessB_nc]
          symm; rw [decide_eq_true_eq]
          have := congrArg List.length hb2
          simp at this; omega
    rw [hres] at hq
    by_cases h2 : k < a.length
    · have h3 : ¬ k < b.length := fun h => h1 ⟨h2, h⟩
      simp -dsimp [h2, h3, hb.lenSl]
      simp -dsimp [ha.lenSl, hb.lenSl]
      exact dn_same hq
    · simp -dsimp [h2, ha.lenSl, hb.lenSl]
      exact dn_same hq
def ref17_same.Spec (C : CSem) (N : Nat → Nat) : Prop := ∀ (x y : AVal) (a b : List UInt8) (h : AHeap) (Q : AVal → AHeap → Prop), Bs h x a → Bs h y b → Q (.bool (decide (a = b))) h → C (N 277) [x, y] h Q
theorem lessB_eq (a b : List UInt8) : (!lessB a b && !lessB b a) = decide (a = b) := by
  by_cases e : a = b
  · subst e; simp [lessB_irr]
  · rw [decide_eq_false e]
    cases h : lessB a b with
    | true => rfl
    | false => rw [lessB_or h e]; rfl
theorem ref17_same.spec (i : ref17_same.Imp C N) (s1 : ref17_less.Spec C N) : ref17_same.Spec C N := by
  intro x y a b h Q ha hb hq
  apply i
  simp -dsimp
  refine s1 _ _ _ _ _ _ ha hb ?_
  rw [← lessB_eq] at hq
  cases hab : lessB a b with
  | true =>
    rw [hab] at hq
    simp -dsimp
    exact dn_same hq
  | false =>
    rw [hab] at hq
    simp -dsimp
    refine s1 _ _ _ _ _ _ hb ha ?_
    simp -dsimp
    exact dn_same (by simpa using hq)
def ref17_Right.Spec (C : CSem) (N : Nat → Nat) : Prop := ∀ (x : AVal) (L : List Row) (h : AHeap) (Q : AVal → AHeap → Prop), Dl rowK h x L → L.length < 4611686018427387904 → Q (.bool (rightR L)) h → C (N 279) [x] h Q
theorem ref17_Right.spec (i : ref17_Right.Imp C N) (s1 : ref17_less.Spec C N) : ref17_Right.Spec C N := by
  intro x L h Q hx hlen hq
  apply i
  simp -dsimp only [ref17_Right.cps]
  refine LoopR.intro (fun n vs hh => ∃ k : Nat, k + n = L.length ∧ vs = [.int .i64 (k : Int)] ∧ hh = h ∧ ∀ j, j < k → rightAt L j = true) L.length ?_ ⟨0, by simp, rfl, rfl, fun j hj => by omega⟩
  rintro Y n vs hh ⟨k, hn, rfl, rfl, hall⟩ hY
  simp -dsimp only [ref17_Right.l2, ref17_Right.k1, hx.lenSl, V.bin_lss, B.pv_some]
  refine B.cond_bool (fun hc => ?_) (fun hc => ?_)
  · have hk : k < L.length := by simpa using hc
    obtain ⟨r, hr⟩ := get_lt hk
    obtain ⟨kx, vx, e1, e2, e3, e4, e5, e6, b1, b2⟩ := row_get hx hr
    have er := rightAt_some hr
    have no : rightAt L k = false → dn Q (.bool false) hh := fun e => by rw [rightR_false hk e] at hq; exact dn_same hq
    have yes : rightAt L k = true → Y [.int .i64 ((k + 1 : Nat) : Int)] hh := fun e => hY (L.length - (k + 1)) _ _ (by omega) ⟨k + 1, by omega, rfl, rfl, fun j hj => by
      by_cases h : j = k
      · subst h; exact e
      · exact hall j (by omega)⟩
    by_cases hkey : r.Key = []
    · simp -dsimp [e1, e3, e5, b1.lenSl, hkey]
      exact no (by rw [er, hkey]; rfl)
    · by_cases hval : r.Value = []
      · simp -dsimp [e1, e3, e4, e5, e6, b1.lenSl, b2.lenSl, hkey, hval]
        exact no (by rw [er, hval]; simp)
      · by_cases h0 : k = 0
        · simp -dsimp [e1, e3, e4, e5, e6, b1.lenSl, b2.lenSl, hkey, hval, show ¬ 0 < k by omega, add1 (show k < 4611686018427387904 by omega), - V.bin_add]
          exact yes (by rw [er]; simp [hkey, hval, h0])
        · obtain ⟨p, hp⟩ := get_lt (L := L) (k := k - 1) (by omega)
          obtain ⟨kp, vp, f1, f2, f3, f4, f5, f6, c1, c2⟩ := row_get hx hp
          have sk := sub1 (a := k) (by omega) (by omega)
          have hk0 : 0 < k := by omega
          rw [hp] at er
          simp -dsimp [e1, e3, e4, e5, e6, b1.lenSl, b2.lenSl, hkey, hval, sk, f1, f3, f5, hk0, - V.bin_sub]
          refine s1 _ _ _ _ _ _ c1 b1 ?_
          cases e : lessB p.Key r.Key with
          | false =>
            simp -dsimp [hk0]
            exact no (by rw [er]; simp [e, h0])
          | true =>
            simp -dsimp [hk0, - V.bin_add, add1 (show k < 4611686018427387904 by omega)]
            exact yes (by rw [er]; simp [e, hkey, hval])
  · have hk : k = L.length := by
      have : ¬ (k : Int) < L.length := by simpa using hc
      omega
    rw [rightR_true fun j hj => hall j (by omega)] at hq
    exact dn_same hq
/-- What is loaded from a list of another's stays the same. -/
theorem row_get2 {h h' : AHeap} {x : AVal} {L : List Row} (hx : Dl rowK h x L) (hle : h.le h') {i : Nat} {r : Row} (hr : L[i]? = some r) : ∃ k v, V.idxS 2 x (.int .i64 (i : Int)) = some (elp 2 x i 0) ∧ A.ldnv h' (elp 2 x i 0) 2 = some (.agg [k, v]) ∧ V.fieldAddr 0 (elp 2 x i 0) = some (elp 2 x i 0) ∧
    V.fieldAddr 1 (elp 2 x i 0) = some (elp 2 x i 1) ∧ A.ldv h' (elp 2 x i 0) = some k ∧ A.ldv h' (elp 2 x i 1) = some v ∧ Bs h k r.Key ∧ Bs h v r.Value := by
  obtain ⟨P, R, rfl, s, ha⟩ := hx
  rw [List.getElem?_map] at hr
  obtain ⟨p, hp, rfl⟩ := Option.map_eq_some_iff.1 hr
  have ea := slX_el (K := rowK) (s.mono hle) (fun q hq => rowK.mono hle (ha q hq)) hp
  have at0 := ha p (List.mem_of_getElem? hp)
  exact ⟨p.2.1, p.2.2, ea.idx, ea.ldn, ea.fld 0 0, ea.fld 0 1, ea.ld 0 (by decide), ea.ld 1 (by decide), at0.1, at0.2⟩
theorem turn_get2 {h h' : AHeap} {x : AVal} {L : List Turn} (hx : Dl turnK h x L) (hle : h.le h') {i : Nat} {r : Turn} (hr : L[i]? = some r) : ∃ k v w, V.idxS 3 x (.int .i64 (i : Int)) = some (elp 3 x i 0) ∧ A.ldnv h' (elp 3 x i 0) 3 = some (.agg [k, v, w]) ∧ V.fieldAddr 0 (elp 3 x i 0) = some (elp 3 x i 0) ∧
    V.fieldAddr 1 (elp 3 x i 0) = some (elp 3 x i 1) ∧ V.fieldAddr 2 (elp 3 x i 0) = some (elp 3 x i 2) ∧ A.ldv h' (elp 3 x i 0) = some k ∧ A.ldv h' (elp 3 x i 1) = some v ∧ A.ldv h' (elp 3 x i 2) = some w ∧ Bs h k r.Key ∧ Bs h v r.Old ∧ Bs h w r.New := by
  obtain ⟨P, R, rfl, s, ha⟩ := hx
  rw [List.getElem?_map] at hr
  obtain ⟨p, hp, rfl⟩ := Option.map_eq_some_iff.1 hr
  have ea := slX_el (K := turnK) (s.mono hle) (fun q hq => turnK.mono hle (ha q hq)) hp
  have at0 := ha p (List.mem_of_getElem? hp)
  exact ⟨p.2.1, p.2.2.1, p.2.2.2, ea.idx, ea.ldn, ea.fld 0 0, ea.fld 0 1, ea.fld 0 2, ea.ld 0 (by decide), ea.ld 1 (by decide), ea.ld 2 (by decide), at0.1, at0.2.1, at0.2.2⟩
def ref17_get.Spec (C : CSem) (N : Nat → Nat) : Prop := ∀ (x y : AVal) (L : List Row) (k : List UInt8) (h : AHeap) (Q : AVal → AHeap → Prop), Dl rowK h x L → Bs h y k → L.length < 4611686018427387904 → (∀ v, (∀ h0 : AHeap, h0.le h → Dl rowK h0 x L → Bs h0 v (getR L k)) → Q v h) → C (N 276) [x, y] h Q
theorem ref17_get.spec (i : ref17_get.Imp C N) (s1 : ref17_same.Spec C N) : ref17_get.Spec C N := by
  intro x y L key h Q hx hy hlen hq
  apply i
  simp -dsimp only [ref17_get.cps]
  refine LoopR.intro (fun n vs hh => ∃ k : Nat, k + n = L.length ∧ vs = [.int .i64 (k : Int)] ∧ hh = h ∧ getR L key = getR (L.drop k) key) L.length ?_ ⟨0, by simp, rfl, rfl, rfl⟩
  rintro Y n vs hh ⟨k, hn, rfl, rfl, he⟩ hY
  simp -dsimp only [ref17_get.l2, ref17_get.k1, hx.lenSl, V.bin_lss, B.pv_some]
  refine B.cond_bool (fun hc => ?_) (fun hc => ?_)
  · have hk : k < L.length := by simpa using hc
    obtain ⟨r, hr⟩ := get_lt hk
    obtain ⟨kx, vx, e1, e2, e3, e4, e5, e6, b1, b2⟩ := row_get hx hr
    rw [drop_get hr, getR] at he
    simp -dsimp only [e1, e3, e5, B.pv_some, B.ld_eq]
    refine s1 _ _ _ _ _ _ b1 hy ?_
    refine B.cond_bool (fun hd => ?_) (fun hd => ?_)
    · rw [if_pos (by simpa using hd)] at he
      simp -dsimp only [e1, e4, e6, B.pv_some, B.ld_eq]
      refine dn_same (hq _ fun h0 hle hx0 => ?_)
      obtain ⟨kx', vx', g1, g2, g3, g4, g5, g6, c1, c2⟩ := row_get2 hx0 hle hr
      rw [e6] at g6; cases g6
      rw [he]; exact c2
    · rw [if_neg (by simpa using hd)] at he
      simp -dsimp only [add1 (show k < 4611686018427387904 by omega), B.pv_some]
      exact hY (L.length - (k + 1)) _ _ (by omega) ⟨k + 1, by omega, rfl, rfl, he⟩
  · have hk : k = L.length := by
      have : ¬ (k : Int) < L.length := by simpa using hc
      omega
    rw [hk, List.drop_length] at he
    exact dn_same (hq _ fun h0 _ _ => by rw [he]; exact Bs.nils _)
/-- A list of one's own whose elements are others'. -/
def Ds {T Ad : Type} (K : DK T Ad) (h0 h : AHeap) (x : AVal) (L : List T) : Prop := ∃ (P : List (T × Ad)) (R : List (List AVal)), P.map (·.1) = L ∧ Owns h0 h [.sl K.n x (P.map K.cs) R] ∧ ∀ p ∈ P, K.at_ h0 p.1 p.2
theorem Ds.dl {T Ad : Type} {K : DK T Ad} {h0 h : AHeap} {x : AVal} {L : List T} (d : Ds K h0 h x L) : Dl K h x L := by
  obtain ⟨P, R, e, o, a⟩ := d
  exact ⟨P, R, e, o.slAt 0 rfl, fun p hp => K.mono o.le (a p hp)⟩
theorem Ds.le {T Ad : Type} {K : DK T Ad} {h0 h : AHeap} {x : AVal} {L : List T} (d : Ds K h0 h x L) : h0.le h := by
  obtain ⟨P, R, e, o, a⟩ := d
  exact o.le
theorem Ds.nils {T Ad : Type} (K : DK T Ad) (h : AHeap) : Ds K h h .nils [] := ⟨[], [], rfl, by simpa using (Owns.start h).nils K.n, fun _ h => by cases h⟩
theorem Ds.push {T Ad : Type} {K : DK T Ad} {h0 h : AHeap} {x : AVal} {L : List T} {t : T} {a : Ad} {Q : AVal → AHeap → Prop} (d : Ds K h0 h x L) (hl : L.length ≤ 100000000) (ha : K.at_ h0 t a) (hq : ∀ y h', Ds K h0 h' y (L ++ [t]) → Q y h') :
    A.newO h (some (K.cells a)) fun i h => A.appW h K.n K.bytes x (.sl i 0 0 1 K.n 1) Q := by
  obtain ⟨P, R, rfl, o, ha'⟩ := d
  rw [List.length_map] at hl
  have hm := Nat.mul_le_mul (show P.length + 1 ≤ 100000001 by omega) K.small
  refine o.push 0 rfl (K.len a) K.pos (by simp only [List.length_map]; omega) (by simp [maxLen]; omega) fun y h' o' _ => hq y h' ⟨P ++ [(t, a)], [], by simp, ?_, fun p hp => ?_⟩
  · rw [List.map_append]; exact o'
  · rcases List.mem_append.1 hp with hp | hp
    · exact ha' p hp
    · rw [List.mem_singleton.1 hp]; exact ha
theorem row_push {h0 h : AHeap} {x k v : AVal} {L : List Row} {r : Row} {Q : AVal → AHeap → Prop} (d : Ds rowK h0 h x L) (hl : L.length ≤ 100000000) (hk : Bs h0 k r.Key) (hv : Bs h0 v r.Value) (hq : ∀ y h', Ds rowK h0 h' y (L ++ [r]) → Q y h') :
    B.newO h (some [k, v]) fun i h => B.appW h 2 48 x (.sl i 0 0 1 2 1) Q := d.push hl (a := (k, v)) ⟨hk, hv⟩ hq
theorem turn_push {h0 h : AHeap} {x k v w : AVal} {L : List Turn} {t : Turn} {Q : AVal → AHeap → Prop} (d : Ds turnK h0 h x L) (hl : L.length ≤ 100000000) (hk : Bs h0 k t.Key) (hv : Bs h0 v t.Old) (hw : Bs h0 w t.New) (hq : ∀ y h', Ds turnK h0 h' y (L ++ [t]) → Q y h') :
    B.newO h (some [k, v, w]) fun i h => B.appW h 3 72 x (.sl i 0 0 1 3 1) Q := d.push hl (a := (k, v, w)) ⟨hk, hv, hw⟩ hq
def ref17_put.Spec (C : CSem) (N : Nat → Nat) : Prop := ∀ (x y z : AVal) (L : List Row) (k v : List UInt8) (h : AHeap) (Q : AVal → AHeap → Prop), Dl rowK h x L → Bs h y k → Bs h z v → L.length ≤ 10000000 → (∀ x' h', Ds rowK h h' x' (putR L k v) → Q x' h') → C (N 278) [x, y, z] h Q
theorem ref17_put.spec (i : ref17_put.Imp C N) (s1 : ref17_same.Spec C N) (s2 : ref17_less.Spec C N) : ref17_put.Spec C N := by
  intro x y z L k v h Q hx hy hz hlen hq
  apply i
  simp -dsimp only [ref17_put.cps, hz.lenSl, V.bin_eql, lenZ, B.pv_some]
  refine LoopR.intro (fun n vs hh => ∃ (j : Nat) (d : Bool) (o : AVal) (O : List Row), j + n = L.length ∧ vs = [o, .bool d, .int .i64 (j : Int)] ∧ Ds rowK h hh o O ∧ O.length ≤ j + (bif d then 1 else 0) ∧ O ++ putGo k v d (L.drop j) = putR L k v) L.length ?_ ⟨0, decide (v = []), .nils, [], by simp, rfl, Ds.nils _ _, by simp, rfl⟩
  rintro Y n vs hh ⟨j, d, o, O, hn, rfl, dO, hOl, he⟩ hY
  have hle := dO.le
  have hl0 : (bif d then 1 else 0) ≤ 1 := by cases d <;> simp
  simp -dsimp only [ref17_put.l5, ref17_put.k4, (hx.mono hle).lenSl, V.bin_lss, B.pv_some]
  refine B.cond_bool (fun hc => ?_) (fun hc => ?_)
  · have hj : j < L.length := by simpa using hc
    obtain ⟨r, hr⟩ := get_lt hj
    obtain ⟨kx, vx, e1, e2, e3, e4, e5, e6, b1, b2⟩ := row_get2 hx hle hr
    rw [drop_get hr, putGo] at he
    have fin : ∀ {h2 : AHeap} {o2 : AVal} {O2 : List Row} (d2 : Bool), Ds rowK h h2 o2 O2 → O2.length ≤ j + (bif d2 then 1 else 0) → O2 ++ ((if r.Key = k then [] else [r]) ++ putGo k v d2 (L.drop (j + 1))) = putR L k v → ref17_put.k2 C N (dn Q) Y x y z o2 (.bool d2) (.int .i64 (j : Int)) h2 := fun {h2 o2 O2} d2 dO2 hl2 he2 => by
      have hl3 : (bif d2 then 1 else 0) ≤ 1 := by cases d2 <;> simp
      obtain ⟨kx', vx', g1, g2, g3, g4, g5, g6, c1, c2⟩ := row_get2 hx dO2.le hr
      simp -dsimp only [ref17_put.k2, g1, g3, g5, B.pv_some, B.ld_eq]
      refine s1 _ _ _ _ _ _ (c1.mono dO2.le) (hy.mono dO2.le) ?_
      by_cases hkk : r.Key = k
      · rw [if_pos hkk] at he2
        simp -dsimp only [hkk, decide_true, V.un_not, Bool.not_true, B.pv_some, B.cond_false, add1 (show j < 4611686018427387904 by omega)]
        exact hY (L.length - (j + 1)) _ _ (by omega) ⟨j + 1, d2, o2, O2, by omega, rfl, dO2, by omega, by simpa using he2⟩
      · rw [if_neg hkk] at he2
        have hf : fillL [(0, some 2, .agg [kx', vx'])] (repL 1 [.nils, .nils]) = some [kx', vx'] := by simp
        simp -dsimp only [hkk, decide_false, V.un_not, Bool.not_false, B.pv_some, B.cond_true, g1, g2, B.ldn_eq, hf]
        refine row_push dO2 (by omega) c1 c2 fun o3 h3 dO3 => ?_
        simp -dsimp only [add1 (show j < 4611686018427387904 by omega), B.pv_some]
        exact hY (L.length - (j + 1)) _ _ (by omega) ⟨j + 1, d2, o3, O2 ++ [r], by omega, rfl, dO3, by simp; omega, by simpa using he2⟩
    simp -dsimp only [ref17_put.k3, V.un_not, B.pv_some]
    cases d with
    | true =>
      simp -dsimp [- ref17_put.k2]
      refine fin true dO hOl ?_
      simpa using he
    | false =>
      simp -dsimp [e1, e3, e5, - ref17_put.k2]
      refine s2 _ _ _ _ _ _ (b1.mono hle) (hy.mono hle) ?_
      cases hlt : lessB r.Key k with
      | true =>
        simp -dsimp [- ref17_put.k2]
        refine fin false dO hOl ?_
        rw [hlt] at he
        simpa using he
      | false =>
        simp -dsimp [hy.isCell, hz.isCell, - ref17_put.k2]
        refine row_push (r := ⟨k, v⟩) dO (by omega) hy hz fun o3 h3 dO3 => ?_
        rw [hlt] at he
        refine fin true dO3 (by simp at hOl ⊢; omega) (by simpa using he)
  · have hj : j = L.length := by
      have : ¬ (j : Int) < L.length := by simpa using hc
      omega
    rw [hj, List.drop_length, putGo] at he
    cases d with
    | true =>
      simp -dsimp
      rw [if_pos rfl, List.append_nil] at he
      exact dn_same (hq o hh (he ▸ dO))
    | false =>
      simp -dsimp [hy.isCell, hz.isCell]
      refine row_push (r := ⟨k, v⟩) dO (by omega) hy hz fun o3 h3 dO3 => dn_same (hq o3 h3 ?_)
      rw [if_neg (by simp)] at he
      rw [← he]; exact dO3
end Go.Ab

/- What is proved: contracts: the document's turns told, rows turned. No conditions. -/
set_option linter.unusedVariables false
set_option linter.unusedSimpArgs false
namespace Go.Ab
variable {C : CSem} {N : Nat → Nat}
theorem putR_len (l : List Row) (k v : List UInt8) : (putR l k v).length ≤ l.length + 1 := by
  have := putGo_len k v l (decide (v = []))
  unfold putR
  split at this <;> omega
theorem keysU_len : ∀ (l ks : List Row), (keysU ks l).length ≤ ks.length + l.length
  | [], ks => by simp [keysU]
  | r :: l, ks => by
    have h1 := keysU_len l (putR ks r.Key [1])
    have h2 := putR_len ks r.Key [1]
    show (keysU (putR ks r.Key [1]) l).length ≤ _
    simp only [List.length_cons]; omega
theorem keysU_snoc (ks l : List Row) (r : Row) : keysU ks (l ++ [r]) = putR (keysU ks l) r.Key [1] := by simp [keysU, List.foldl_append]
theorem turnsK_snoc (a b ks : List Row) (r : Row) : turnsK a b (ks ++ [r]) = turnsK a b ks ++ (if getR a r.Key = getR b r.Key then [] else [⟨r.Key, getR a r.Key, getR b r.Key⟩]) := by
  unfold turnsK
  rw [List.filterMap_append]
  congr 1
  by_cases h : getR a r.Key = getR b r.Key <;> simp [h]
theorem ones {h : AHeap} {id : Nat} (hid : h id = none) : Bs (upd h id (blkOf [.int .u8 1])) (.sl id 0 0 1 1 1) [1] :=
  ⟨⟨[], SlX.lit (upd_same ..) (by simp) rfl (by simp) rfl⟩, by simp [far]⟩
theorem keys_round (s1 : ref17_put.Spec C N) {h0 h : AHeap} {x key : AVal} {ks : List Row} {k : List UInt8} {Q : AVal → AHeap → Prop} (hx : Dl rowK h x ks) (hl : ks.length ≤ 10000000) (hk : Bs h key k)
    (hq : ∀ x' h', h.le h' → Dl rowK h' x' (putR ks k [1]) → Q x' h') :
    B.newO h (fillL [(0, none, (.int .u8 1))] (repL 1 [.int .u8 0])) fun i46 h => B.call C (N 278) [x, key, (.sl i46 0 0 1 1 1)] h Q := by
  have hf : fillL [(0, none, (.int .u8 1))] (repL 1 [.int .u8 0]) = some [AVal.int .u8 1] := by simp [repL]
  rw [hf]
  intro id hid
  have hle : h.le (upd h id (blkOf [.int .u8 1])) := le_upd _ hid
  exact s1 _ _ _ _ _ _ _ _ (hx.mono hle) (hk.mono hle) (ones hid) hl fun x' h' d => hq x' h' (AHeap.le_trans hle d.le) d.dl
def ref17_Turns.Spec (C : CSem) (N : Nat → Nat) : Prop := ∀ (x y : AVal) (L M : List Row) (h : AHeap) (Q : AVal → AHeap → Prop), Dl rowK h x L → Dl rowK h y M → L.length + M.length ≤ 1000000 →
  (∀ x' h', h.le h' → Dl turnK h' x' (turnsR L M) → Q x' h') → C (N 256) [x, y] h Q
theorem ref17_Turns.spec (i : ref17_Turns.Imp C N) (s1 : ref17_Right.Spec C N) (s2 : ref17_put.Spec C N) (s3 : ref17_get.Spec C N) (s4 : ref17_same.Spec C N) : ref17_Turns.Spec C N := by
  intro x y L M h Q hx hy hlen hq
  apply i
  simp -dsimp only [ref17_Turns.cps, ref17_Turns.k7]
  refine s1 _ _ _ _ hx (by omega) ?_
  have nil : (!rightR L || !rightR M) = true → dn Q .nils h := fun e => dn_same (hq .nils h (AHeap.le_refl h) (by unfold turnsR; rw [e]; exact Dl.nils turnK h))
  by_cases hL : rightR L = true
  · simp -dsimp [hL]
    refine s1 _ _ _ _ hy (by omega) ?_
    by_cases hM : rightR M = true
    · simp -dsimp [hM]
      have hq : ∀ x' h', h.le h' → Dl turnK h' x' (turnsK L M (keysU (keysU [] L) M)) → Q x' h' := fun x' h' e o => hq x' h' e (by unfold turnsR; rw [hL, hM]; exact o)
      refine LoopR.intro (fun n vs hh => ∃ (k : Nat) (o : AVal), k + n = L.length ∧ vs = [o, .int .i64 (k : Int)] ∧ h.le hh ∧ Dl rowK hh o (keysU [] (L.take k))) L.length ?_ ⟨0, .nils, by simp, rfl, AHeap.le_refl h, Dl.nils rowK h⟩
      rintro Y n vs hh ⟨k, o, hn, rfl, hle, hd⟩ hY
      have hkl := keysU_len (L.take k) []
      simp only [List.length_nil, List.length_take] at hkl
      simp -dsimp only [ref17_Turns.l6, ref17_Turns.k5, (hx.mono hle).lenSl, V.bin_lss, B.pv_some]
      refine B.cond_bool (fun hc => ?_) (fun hc => ?_)
      · have hk : k < L.length := by simpa using hc
        obtain ⟨r, hr⟩ := get_lt hk
        obtain ⟨kx, vx, e1, e2, e3, e4, e5, e6, b1, b2⟩ := row_get2 hx hle hr
        simp -dsimp only [e1, e3, e5, B.pv_some, B.ld_eq]
        refine keys_round (h0 := h) s2 hd (by omega) (b1.mono hle) fun o' h2 hle2 hd2 => ?_
        simp -dsimp only [add1 (show k < 4611686018427387904 by omega), B.pv_some]
        refine hY (L.length - (k + 1)) _ _ (by omega) ⟨k + 1, o', by omega, rfl, AHeap.le_trans hle hle2, ?_⟩
        rw [take_succ hr, keysU_snoc]; exact hd2
      · have hk : k = L.length := by
          have : ¬ (k : Int) < L.length := by simpa using hc
          omega
        rw [hk, List.take_length] at hd
        refine LoopR.intro (fun n vs hh => ∃ (k : Nat) (o : AVal), k + n = M.length ∧ vs = [o, .int .i64 (k : Int)] ∧ h.le hh ∧ Dl rowK hh o (keysU (keysU [] L) (M.take k))) M.length ?_ ⟨0, o, by simp, rfl, hle, hd⟩
        rintro Z n vs h2 ⟨k, o, hn, rfl, hle, hd⟩ hZ
        have hkl := keysU_len (M.take k) (keysU [] L)
        have hkl0 := keysU_len L []
        simp only [List.length_nil, List.length_take] at hkl hkl0
        simp -dsimp only [ref17_Turns.l4, ref17_Turns.k3, (hy.mono hle).lenSl, V.bin_lss, B.pv_some]
        refine B.cond_bool (fun hc => ?_) (fun hc => ?_)
        · have hk : k < M.length := by simpa using hc
          obtain ⟨r, hr⟩ := get_lt hk
          obtain ⟨kx, vx, e1, e2, e3, e4, e5, e6, b1, b2⟩ := row_get2 hy hle hr
          simp -dsimp only [e1, e3, e5, B.pv_some, B.ld_eq]
          refine keys_round (h0 := h) s2 hd (by omega) (b1.mono hle) fun o' h3 hle2 hd2 => ?_
          simp -dsimp only [add1 (show k < 4611686018427387904 by omega), B.pv_some]
          refine hZ (M.length - (k + 1)) _ _ (by omega) ⟨k + 1, o', by omega, rfl, AHeap.le_trans hle hle2, ?_⟩
          rw [take_succ hr, keysU_snoc]; exact hd2
        · have hk : k = M.length := by
            have : ¬ (k : Int) < M.length := by simpa using hc
            omega
          rw [hk, List.take_length] at hd
          obtain ⟨ks, hks⟩ : ∃ ks, ks = keysU (keysU [] L) M := ⟨_, rfl⟩
          rw [← hks] at hd hq
          have hksl : ks.length ≤ 1000000 := by
            have := keysU_len M (keysU [] L)
            rw [hks]; omega
          have hx2 := hx.mono hle
          have hy2 := hy.mono hle
          refine LoopR.intro (fun n vs hh => ∃ (k : Nat) (o' : AVal), k + n = ks.length ∧ vs = [o', .int .i64 (k : Int)] ∧ Ds turnK h2 hh o' (turnsK L M (ks.take k))) ks.length ?_ ⟨0, .nils, by simp, rfl, Ds.nils turnK h2⟩
          rintro W n vs h3 ⟨k, o', hn, rfl, d⟩ hW
          have hle3 := d.le
          have hkl3 : (turnsK L M (ks.take k)).length ≤ 1000000 := by
            have := List.length_filterMap_le (fun r : Row => if getR L r.Key = getR M r.Key then none else some (⟨r.Key, getR L r.Key, getR M r.Key⟩ : Turn)) (ks.take k)
            unfold turnsK
            rw [List.length_take] at this
            omega
          simp -dsimp only [ref17_Turns.l2, ref17_Turns.k1, (hd.mono hle3).lenSl, V.bin_lss, B.pv_some]
          refine B.cond_bool (fun hc => ?_) (fun hc => ?_)
          · have hk : k < ks.length := by simpa using hc
            obtain ⟨r, hr⟩ := get_lt hk
            obtain ⟨kx, vx, e1, e2, e3, e4, e5, e6, b1, b2⟩ := row_get2 hd hle3 hr
            simp -dsimp only [e1, e3, e5, B.pv_some, B.ld_eq]
            refine s3 _ _ _ _ _ _ (hx2.mono hle3) (b1.mono hle3) (by omega) fun va hva => keepS1 ⟨_, e5⟩ ?_
            refine s3 _ _ _ _ _ _ (hy2.mono hle3) (b1.mono hle3) (by omega) fun vb hvb => ?_
            have ha2 := hva h2 hle3 hx2
            have hb2 := hvb h2 hle3 hy2
            refine s4 _ _ _ _ _ _ (ha2.mono hle3) (hb2.mono hle3) ?_
            by_cases hv : getR L r.Key = getR M r.Key
            · simp -dsimp only [hv, decide_true, V.un_not, Bool.not_true, B.pv_some, B.cond_false, add1 (show k < 4611686018427387904 by omega)]
              refine hW (ks.length - (k + 1)) _ _ (by omega) ⟨k + 1, o', by omega, rfl, ?_⟩
              rw [take_succ hr, turnsK_snoc, if_pos hv, List.append_nil]; exact d
            · have hf : fillL [(0, some 3, .agg [kx, va, vb])] (repL 1 [.nils, .nils, .nils]) = some [kx, va, vb] := by simp
              have hb : A.bld [(0, none, kx), (1, none, va), (2, none, vb)] [.nils, .nils, .nils] = some (.agg [kx, va, vb]) := by simp [b1.isCell, ha2.isCell, hb2.isCell]
              simp -dsimp only [hv, decide_false, V.un_not, Bool.not_false, B.pv_some, B.cond_true, e1, e3, e5, B.ld_eq, hb, hf]
              refine turn_push (t := ⟨r.Key, getR L r.Key, getR M r.Key⟩) d (by omega) b1 ha2 hb2 fun o4 h4 d4 => ?_
              simp -dsimp only [add1 (show k < 4611686018427387904 by omega), B.pv_some]
              refine hW (ks.length - (k + 1)) _ _ (by omega) ⟨k + 1, o4, by omega, rfl, ?_⟩
              rw [take_succ hr, turnsK_snoc, if_neg hv]; exact d4
          · have hk : k = ks.length := by
              have : ¬ (k : Int) < ks.length := by simpa using hc
              omega
            rw [hk, List.take_length] at d
            exact dn_same (hq o' h3 (AHeap.le_trans hle hle3) d.dl)
    · simp -dsimp [hM]
      exact nil (by simp [hM])
  · simp -dsimp [hL]
    exact nil (by simp [hL])
def ref17_Back.Spec (C : CSem) (N : Nat → Nat) : Prop := ∀ (x : AVal) (T : List Turn) (h : AHeap) (Q : AVal → AHeap → Prop), Dl turnK h x T → T.length ≤ 1000000 →
  (∀ x' h', h.le h' → Dl turnK h' x' (backR T) → Q x' h') → C (N 265) [x] h Q
theorem ref17_Back.spec (i : ref17_Back.Imp C N) : ref17_Back.Spec C N := by
  intro x T h Q hx hlen hq
  apply i
  have m1 : ∀ k : Nat, k ≤ 100000000 → V.bin .sub (.int .i64 (k : Int)) (.int .i64 1) = some (.int .i64 ((k : Int) - 1)) := fun k hk => by
    rw [V.bin_sub, wrap_i64 (by omega) (by omega)]
  simp -dsimp only [ref17_Back.cps, hx.lenSl, m1 T.length (by omega), B.pv_some]
  refine LoopR.intro (fun n vs hh => ∃ (o : AVal), n ≤ T.length ∧ vs = [o, .int .i64 ((n : Int) - 1)] ∧ Ds turnK h hh o (backR (T.drop n))) T.length ?_
    ⟨.nils, Nat.le_refl _, rfl, by rw [List.drop_length]; exact Ds.nils turnK h⟩
  rintro Y n vs hh ⟨o, hn, rfl, d⟩ hY
  have hPl : (backR (T.drop n)).length ≤ 1000000 := by simp [backR]; omega
  simp -dsimp only [ref17_Back.l2, ref17_Back.k1, V.bin_geq, B.pv_some]
  cases n with
  | zero =>
    rw [show decide ((0 : Int) ≤ ((0 : Nat) : Int) - 1) = false by simp, B.cond_false]
    exact dn_same (hq o hh d.le d.dl)
  | succ k =>
    rw [show decide ((0 : Int) ≤ ((k + 1 : Nat) : Int) - 1) = true by simp, B.cond_true, show (((k + 1 : Nat) : Int) - 1) = (k : Int) by omega]
    obtain ⟨t, ht⟩ := get_lt (L := T) (k := k) (by omega)
    obtain ⟨kx, vx, wx, e1, e2, e3, e4, e5, e6, e7, e8, b1, b2, b3⟩ := turn_get2 hx d.le ht
    have hf : fillL [(0, some 3, .agg [kx, wx, vx])] (repL 1 [.nils, .nils, .nils]) = some [kx, wx, vx] := by simp
    have hb : A.bld [(0, none, kx), (1, none, wx), (2, none, vx)] [.nils, .nils, .nils] = some (.agg [kx, wx, vx]) := by simp [b1.isCell, b2.isCell, b3.isCell]
    simp -dsimp only [e1, e3, e4, e5, e6, e7, e8, B.pv_some, B.ld_eq, hb, hf]
    refine turn_push (t := ⟨t.Key, t.New, t.Old⟩) d (by omega) b1 b3 b2 fun o4 h4 d4 => ?_
    simp -dsimp only [m1 k (by omega), B.pv_some]
    refine hY k _ _ (by omega) ⟨o4, by omega, rfl, ?_⟩
    rw [drop_get ht, backR_snoc]; exact d4
def ref17_Apply.Spec (C : CSem) (N : Nat → Nat) : Prop := ∀ (x y : AVal) (L : List Row) (T : List Turn) (h : AHeap) (Q : AVal → AHeap → Prop), Dl rowK h x L → Dl turnK h y T → L.length ≤ 1000000 → T.length ≤ 1000000 →
  (applyR L T = none → Q (.tup [.nils, .bool false]) h) → (∀ m x' h', applyR L T = some m → h.le h' → Dl rowK h' x' m → Q (.tup [x', .bool true]) h') → C (N 262) [x, y] h Q
theorem copy_list {T Ad : Type} {K : DK T Ad} {h : AHeap} {x : AVal} {L : List T} {Q : AVal → AHeap → Prop} (hx : Dl K h x L) (hl : L.length ≤ 100000000) (hq : ∀ y h', Ds K h h' y L → Q y h') : B.appW h K.n K.bytes .sz x Q := by
  obtain ⟨P, R, rfl, s, ha⟩ := hx
  rw [List.length_map] at hl
  have hm := Nat.mul_le_mul hl K.small
  refine Owns.appW ((Owns.start h).sz K.n) 0 rfl s K.pos (by simp; omega) (by simp [maxLen]; omega) fun x' h' h1 _ => hq x' h' ⟨P, [], rfl, by simpa using h1, ha⟩
theorem app_list {T Ad : Type} {K : DK T Ad} {h0 h : AHeap} {x y : AVal} {L M : List T} {Q : AVal → AHeap → Prop} (d : Ds K h0 h x L) (hy : Dl K h0 y M) (hl : L.length ≤ 10000000) (hm : M.length ≤ 10000000) (hq : ∀ z h', Ds K h0 h' z (L ++ M) → Q z h') : B.appW h K.n K.bytes x y Q := by
  obtain ⟨P, R, rfl, o, ha⟩ := d
  obtain ⟨P2, R2, rfl, s, hb⟩ := hy
  rw [List.length_map] at hl hm
  have hmm := Nat.mul_le_mul (show P.length + P2.length ≤ 20000000 by omega) K.small
  refine o.appW 0 rfl (s.mono o.le) K.pos (by simp; omega) (by simp [maxLen]; omega) fun x' h' h1 _ => hq x' h' ⟨P ++ P2, [], by simp, ?_, fun p hp => ?_⟩
  · rw [List.map_append]; exact h1
  · rcases List.mem_append.1 hp with hp | hp
    · exact ha p hp
    · exact hb p hp
theorem ref17_Apply.spec (i : ref17_Apply.Imp C N) (s1 : ref17_Right.Spec C N) (s2 : ref17_put.Spec C N) (s3 : ref17_get.Spec C N) (s4 : ref17_same.Spec C N) : ref17_Apply.Spec C N := by
  intro x y L T h Q hx hy hl1 hl2 hno hyes
  apply i
  simp -dsimp only [ref17_Apply.cps, ref17_Apply.k3]
  refine s1 _ _ _ _ hx (by omega) ?_
  by_cases hL : rightR L = true
  · have ha : applyR L T = goA L T := by unfold applyR; rw [if_pos hL]
    rw [ha] at hno hyes
    simp -dsimp only [hL, V.un_not, Bool.not_true, B.pv_some, B.cond_false]
    refine copy_list (K := rowK) hx (by omega) fun o h1 d1 => ?_
    refine LoopR.intro (fun n vs hh => ∃ (k : Nat) (o : AVal) (out : List Row), k + n = T.length ∧ vs = [o, .int .i64 (k : Int)] ∧ h.le hh ∧ Dl rowK hh o out ∧ out.length ≤ L.length + k ∧ goA L T = goA out (T.drop k)) T.length ?_ ⟨0, o, L, by simp, rfl, d1.le, d1.dl, by simp, rfl⟩
    rintro Y n vs hh ⟨k, o, out, hn, rfl, hle, hd, hol, hgo⟩ hY
    have hyy := hy.mono hle
    simp -dsimp only [ref17_Apply.l2, ref17_Apply.k1, hyy.lenSl, V.bin_lss, B.pv_some]
    refine B.cond_bool (fun hc => ?_) (fun hc => ?_)
    · have hk : k < T.length := by simpa using hc
      obtain ⟨t, ht⟩ := get_lt hk
      obtain ⟨kx, vx, wx, e1, e2, e3, e4, e5, e6, e7, e8, b1, b2, b3⟩ := turn_get hyy ht
      rw [drop_get ht, goA] at hgo
      by_cases hkey : t.Key = []
      · rw [if_pos (.inl hkey)] at hgo
        simp -dsimp [e1, e3, e6, b1.lenSl, hkey]
        exact dn_le hle (hno hgo)
      · simp -dsimp [e1, e3, e4, e6, e7, b1.lenSl, hkey]
        refine s3 _ _ _ _ _ _ hd b1 (by omega) fun va hva => keepS1 ⟨_, e7⟩ ?_
        have ha2 := hva hh (AHeap.le_refl hh) hd
        simp -dsimp [hkey]
        refine s4 _ _ _ _ _ _ ha2 b2 ?_
        by_cases hold : getR out t.Key = t.Old
        · rw [if_neg (by simp [hkey, hold])] at hgo
          simp -dsimp [hkey, hold, e1, e3, e5, e6, e8]
          refine s2 _ _ _ _ _ _ _ _ hd b1 b3 (by omega) fun o2 h2 d2 => ?_
          simp -dsimp [- V.bin_add, add1 (show k < 4611686018427387904 by omega)]
          have := putR_len out t.Key t.New
          exact hY (T.length - (k + 1)) _ _ (by omega) ⟨k + 1, o2, _, by omega, rfl, AHeap.le_trans hle d2.le, d2.dl, by omega, hgo⟩
        · rw [if_pos (.inr hold)] at hgo
          simp -dsimp [hkey, hold]
          exact dn_le hle (hno hgo)
    · have hk : k = T.length := by
        have : ¬ (k : Int) < T.length := by simpa using hc
        omega
      rw [hk, List.drop_length, goA] at hgo
      exact dn_same (hyes out o hh hgo hle hd)
  · have hL' : rightR L = false := by simpa using hL
    have ha : applyR L T = none := by unfold applyR; rw [if_neg hL]
    simp -dsimp only [hL', V.un_not, Bool.not_false, B.pv_some, B.cond_true]
    exact dn_same (hno ha)
end Go.Ab

/- What is proved: contracts of what the statements share about turns: are they the same, lent, kept, copied, marks. No conditions. -/
set_option linter.unusedVariables false
set_option linter.unusedSimpArgs false
namespace Go.Ab
variable {C : CSem} {N : Nat → Nat}
def kit_SameTurn.Spec (C : CSem) (N : Nat → Nat) : Prop := SameE turnK C (N 120)
theorem kit_SameTurn.spec (i : kit_SameTurn.Imp C N) (s1 : kit_SameBytes.SpecL C N) : kit_SameTurn.Spec C N := by
  intro t u a b h Q ha hb hq
  obtain ⟨a1, a2, a3⟩ : Bs h a.1 t.Key ∧ Bs h a.2.1 t.Old ∧ Bs h a.2.2 t.New := ha
  obtain ⟨b1, b2, b3⟩ : Bs h b.1 u.Key ∧ Bs h b.2.1 u.Old ∧ Bs h b.2.2 u.New := hb
  apply i
  simp -dsimp [turnK]
  refine s1 _ _ _ _ _ _ a1 b1 ?_
  simp +contextual -dsimp
  refine B.gdb_call (v := .bool (decide (t.Old = u.Old))) (fun _ Q hq => s1 _ _ _ _ _ _ a2 b2 hq) ?_
  simp +contextual -dsimp
  refine B.gdb_call (v := .bool (decide (t.New = u.New))) (fun _ Q hq => s1 _ _ _ _ _ _ a3 b3 hq) ?_
  simp -dsimp
  refine dn_same ?_
  have : decide (t = u) = (decide (t.Key = u.Key) && decide (t.Old = u.Old) && decide (t.New = u.New)) := by
    cases t; cases u; simp [Turn.mk.injEq, Bool.and_assoc]
  rw [this] at hq
  exact hq
def kit_LentTurn.Spec (C : CSem) (N : Nat → Nat) : Prop := OneE turnK true C (N 281)
theorem kit_LentTurn.spec (i : kit_LentTurn.Imp C N) (s1 : kit_LentBytes.SpecL C N) : kit_LentTurn.Spec C N := by
  intro t a h Q ha hq
  obtain ⟨a1, a2, a3⟩ : Bs h a.1 t.Key ∧ Bs h a.2.1 t.Old ∧ Bs h a.2.2 t.New := ha
  apply i
  simp -dsimp [turnK]
  refine s1 _ _ _ _ a1 fun x1 h1 o1 => ?_
  simp -dsimp [((o1.is _ (List.mem_singleton_self _)) : (bOb true x1 t.Key).at h1).isCell]
  refine s1 _ _ _ _ (a2.mono o1.le) fun x2 h2 o2 => ?_
  simp -dsimp [((o2.is _ (List.mem_singleton_self _)) : (bOb true x2 t.Old).at h2).isCell]
  have o12 := o1.join o2
  refine s1 _ _ _ _ (a3.mono o12.le) fun x3 h3 o3 => ?_
  simp -dsimp [((o3.is _ (List.mem_singleton_self _)) : (bOb true x3 t.New).at h3).isCell]
  exact dn_same (hq (x1, x2, x3) h3 (o12.join o3))
def kit_KeptTurn.Spec (C : CSem) (N : Nat → Nat) : Prop := KeptE turnK C (N 285)
theorem kit_KeptTurn.spec (i : kit_KeptTurn.Imp C N) (s0 : kit_SameTurn.Spec C N) (s1 : kit_KeptBytes.SpecL C N) : kit_KeptTurn.Spec C N := by
  intro t u a b h Q hok ha hb hq
  apply i
  have ha' := turnK.ofObs hok ha
  simp -dsimp [turnK]
  refine s0 t u a b h _ ha' hb ?_
  simp +contextual -dsimp
  refine B.gdb_call (v := .bool (decide (t.Key = u.Key))) (fun _ Q hq => s1 _ _ _ _ _ _ hok.1 (ha _ (by simp [turnK])) hb.1 hq) ?_
  simp +contextual -dsimp
  refine B.gdb_call (v := .bool (decide (t.Old = u.Old))) (fun _ Q hq => s1 _ _ _ _ _ _ hok.2.1 (ha _ (by simp [turnK])) hb.2.1 hq) ?_
  simp +contextual -dsimp
  refine B.gdb_call (v := .bool (decide (t.New = u.New))) (fun _ Q hq => s1 _ _ _ _ _ _ hok.2.2 (ha _ (by simp [turnK])) hb.2.2 hq) ?_
  simp -dsimp
  refine dn_same ?_
  have : decide (t = u) = (decide (t = u) && decide (t.Key = u.Key) && decide (t.Old = u.Old) && decide (t.New = u.New)) := by
    by_cases h : t = u
    · subst h; simp
    · simp [h]
  rw [this] at hq
  exact hq
def markTurn (k i : Int) : Turn := ⟨[markByte k i], [], []⟩
theorem markTurn_ok (k i : Int) : turnK.ok (markTurn k i) := ⟨by simp [markTurn, far], by simp [markTurn], by simp [markTurn]⟩
def kit_markTurn.Spec (C : CSem) (N : Nat → Nat) : Prop := MarkE turnK markTurn C (N 119)
theorem kit_markTurn.spec (i : kit_markTurn.Imp C N) (s1 : kit_markByte.Spec C N) : kit_markTurn.Spec C N := by
  intro k j h Q hq
  apply i
  simp -dsimp
  refine s1 _ _ _ _ ?_
  simp -dsimp
  intro id hid
  simp -dsimp
  have o := (Owns.start h).newSl hid (n := 1) (cp := 1) (es := 1) (cs := [.int .u8 ((markByte k j).toNat : Int)]) (L := [markByte k j].map bc) (R := []) (by simp) rfl (by simp) rfl
  exact dn_same (hq (.sl id 0 0 1 1 1, .nils, .nils) _ (by simpa [turnK, markTurn, bOb] using (o.nils 1).nils 1))
def kit_SameTurns.Spec (C : CSem) (N : Nat → Nat) : Prop := ∀ (x y : AVal) (L M : List Turn) (h : AHeap) (Q : AVal → AHeap → Prop), Dl turnK h x L → Dl turnK h y M → L.length < 4611686018427387904 → Q (.bool (decide (L = M))) h → C (N 257) [x, y] h Q
theorem kit_SameTurns.spec (i : kit_SameTurns.Imp C N) (s1 : kit_SameTurn.Spec C N) : kit_SameTurns.Spec C N := fun x y L M h Q hx hy hl hq =>
  i x y h Q (sameD_spec (K := turnK) s1 hx hy hl (dn_same hq))
def kit_LentTurns.Spec (C : CSem) (N : Nat → Nat) : Prop := ∀ (x : AVal) (L : List Turn) (h : AHeap) (Q : AVal → AHeap → Prop), Dl turnK h x L → L.length ≤ 100000000 →
  (∀ x' h', h.le h' → DLent turnK markTurn h' x' L → Q x' h') → C (N 260) [x] h Q
theorem kit_LentTurns.spec (i : kit_LentTurns.Imp C N) (s1 : kit_markTurn.Spec C N) (s2 : kit_LentTurn.Spec C N) : kit_LentTurns.Spec C N := fun x L h Q hx hl hq =>
  i x h Q (lentD_spec (K := turnK) s1 s2 hx hl fun x' P PM h' e1 e2 ho => dn_same (hq x' h' ho.le (DLent.of markTurn_ok hx.ok e1 e2 ho)))
def kit_KeptTurns.Spec (C : CSem) (N : Nat → Nat) : Prop := ∀ (x y : AVal) (L M : List Turn) (h : AHeap) (Q : AVal → AHeap → Prop), DLent turnK markTurn h x L → Dl turnK h y M → L.length ≤ 100000000 →
  Q (.bool (decide (L = M))) h → C (N 266) [x, y] h Q
theorem kit_KeptTurns.spec (i : kit_KeptTurns.Imp C N) (s1 : kit_KeptTurn.Spec C N) (s2 : kit_markTurn.Spec C N) (s3 : kit_SameTurn.Spec C N) : kit_KeptTurns.Spec C N := fun x y L M h Q hx hy hl hq =>
  i x y h Q (keptD_spec (K := turnK) markTurn_ok s1 s2 s3 hx hy hl fun h' hle => dn_le hle hq)
end Go.Ab

/- What is proved: contracts of the seventeenth chapter's statements' functions. No conditions. -/
set_option linter.unusedVariables false
set_option linter.unusedSimpArgs false
namespace Go.Ab
variable {C : CSem} {N : Nat → Nat}
theorem getR_far {l : List Row} (h : ∀ r ∈ l, rowK.ok r) (k : List UInt8) : (getR l k).length ≤ far := by
  by_cases e : getR l k = []
  · rw [e]; exact Nat.zero_le _
  · obtain ⟨r, hr, _, e2⟩ := getR_ne e
    rw [← e2]; exact (h r hr).2
theorem turnsP_ok {a b : List Row} (ha : ∀ r ∈ a, rowK.ok r) (hb : ∀ r ∈ b, rowK.ok r) : ∀ t ∈ turnsP a b, turnK.ok t := by
  intro t ht
  unfold turnsP at ht
  split at ht
  · cases ht
  · rename_i h
    simp only [Bool.or_eq_true, Bool.not_eq_true', not_or, Bool.not_eq_false] at h
    obtain ⟨h1, h2, h3⟩ := ((turnsM_of a b (rightR_iff.1 h.1) (rightR_iff.1 h.2)).mem t).1 ht
    refine ⟨?_, by rw [h1]; exact getR_far ha _, by rw [h2]; exact getR_far hb _⟩
    rw [h1, h2] at h3
    rcases ne_or h3 with h3 | h3
    · obtain ⟨r, hr, e, _⟩ := getR_ne h3
      rw [← e]; exact (ha r hr).1
    · obtain ⟨r, hr, e, _⟩ := getR_ne h3
      rw [← e]; exact (hb r hr).1
theorem putGo_ok {k v : List UInt8} (hk : k.length ≤ far) (hv : v.length ≤ far) : ∀ {l : List Row} (d : Bool), (∀ r ∈ l, rowK.ok r) → ∀ r ∈ putGo k v d l, rowK.ok r
  | [], d, _, r, hr => by
    rw [putGo] at hr
    split at hr
    · cases hr
    · rw [List.mem_singleton.1 hr]; exact ⟨hk, hv⟩
  | s :: l, d, h, r, hr => by
    rw [putGo, List.mem_append, List.mem_append] at hr
    rcases hr with hr | hr | hr
    · split at hr
      · rw [List.mem_singleton.1 hr]; exact ⟨hk, hv⟩
      · cases hr
    · split at hr
      · cases hr
      · rw [List.mem_singleton.1 hr]; exact h s (by simp)
    · exact putGo_ok hk hv _ (fun t ht => h t (List.mem_cons_of_mem _ ht)) r hr
theorem goA_ok : ∀ (ts : List Turn) {out m : List Row}, (∀ t ∈ ts, turnK.ok t) → (∀ r ∈ out, rowK.ok r) → goA out ts = some m → ∀ r ∈ m, rowK.ok r
  | [], out, m, _, ho, h => by cases h; exact ho
  | t :: ts, out, m, ht, ho, h => by
    rw [goA] at h
    split at h
    · cases h
    · exact goA_ok ts (fun u hu => ht u (List.mem_cons_of_mem _ hu)) (putGo_ok (ht t (by simp)).1 (ht t (by simp)).2.2 _ ho) h
theorem applyR_ok {l m : List Row} {t : List Turn} (ht : ∀ x ∈ t, turnK.ok x) (hl : ∀ r ∈ l, rowK.ok r) (h : applyR l t = some m) : ∀ r ∈ m, rowK.ok r := by
  unfold applyR at h
  split at h
  · exact goA_ok t ht hl h
  · cases h
theorem backR_ok {t : List Turn} (ht : ∀ x ∈ t, turnK.ok x) : ∀ x ∈ backR t, turnK.ok x := by
  intro x hx
  unfold backR at hx
  rw [List.mem_reverse, List.mem_map] at hx
  obtain ⟨y, hy, rfl⟩ := hx
  exact ⟨(ht y hy).1, (ht y hy).2.2, (ht y hy).2.1⟩
theorem Df.dl' {T Ad : Type} {K : DK T Ad} {h0 h : AHeap} {x : AVal} {P : List (T × Ad)} {L : List T} (hd : Df K h0 h x P) (e : P.map (·.1) = L) (hok : ∀ t ∈ L, K.ok t) : Dl K h x L := by
  rw [← e]
  exact hd.dl fun p hp => hok _ (by rw [← e]; exact List.mem_map.2 ⟨p, hp, rfl⟩)

def law17_row.Spec (C : CSem) (N : Nat → Nat) : Prop := ∀ (k v : List UInt8) (h : AHeap) (Q : AVal → AHeap → Prop), k.length ≤ far → v.length ≤ far → (∀ a' h', Owns h h' (rowK.obs false ⟨k, v⟩ a') → Q (.agg (rowK.cells a')) h') → C (N 270) [.str k, .str v] h Q
theorem law17_row.spec (i : law17_row.Imp C N) : law17_row.Spec C N := by
  intro k v h Q hk hv hq
  apply i
  simp -dsimp only [law17_row.cps, law17_row.k1]
  refine strBytes_own hk fun x1 h1 o1 => ?_
  refine strBytes_own hv fun x2 h2 o2 => ?_
  simp -dsimp [(bOb_bs hk o1).isCell, (bOb_bs hv o2).isCell]
  exact dn_same (hq (x1, x2) h2 (o1.join o2))
theorem two_rows {h : AHeap} {r1 r2 : Row} {a b : AVal × AVal} (h1 : rowK.at_ h r1 a) (h2 : rowK.at_ h r2 b) {id : Nat} (hid : h id = none) : Dl rowK (upd h id (blkOf [a.1, a.2, b.1, b.2])) (.sl id 0 0 2 2 2) [r1, r2] := by
  have hle : h.le (upd h id (blkOf [a.1, a.2, b.1, b.2])) := le_upd _ hid
  refine ⟨[(r1, a), (r2, b)], [], rfl, SlX.lit (upd_same ..) (by intro p hp; simp at hp; rcases hp with rfl | rfl <;> rfl) rfl (by simp) rfl, fun p hp => ?_⟩
  simp only [List.mem_cons, List.not_mem_nil, or_false] at hp
  rcases hp with rfl | rfl
  · exact rowK.mono hle h1
  · exact rowK.mono hle h2
theorem fill_two (a b : AVal × AVal) : fillL [(0, some 2, .agg (rowK.cells a)), (2, some 2, .agg (rowK.cells b))] (repL 2 [.nils, .nils]) = some [a.1, a.2, b.1, b.2] := by
  simp [rowK, repL]
abbrev rowsA : List Row := [⟨[97], [49]⟩, ⟨[98], [50]⟩]
abbrev rowsB : List Row := [⟨[98], [51]⟩, ⟨[99], [52]⟩]
theorem rowsA_right : RightL rowsA := rightR_iff.1 (by decide)
theorem rowsB_right : RightL rowsB := rightR_iff.1 (by decide)
theorem rowsAB_len : (turnsP rowsA rowsB).length = 3 := by rw [turnsP_eq]; decide
theorem smallA : ∀ r ∈ rowsA, rowK.ok r := by
  intro r hr
  simp only [rowsA, List.mem_cons, List.not_mem_nil, or_false] at hr
  rcases hr with rfl | rfl <;> exact ⟨by simp [far], by simp [far]⟩
theorem smallB : ∀ r ∈ rowsB, rowK.ok r := by
  intro r hr
  simp only [rowsB, List.mem_cons, List.not_mem_nil, or_false] at hr
  rcases hr with rfl | rfl <;> exact ⟨by simp [far], by simp [far]⟩
def law17_awake.Spec (C : CSem) (N : Nat → Nat) : Prop := ∀ (h : AHeap) (Q : AVal → AHeap → Prop), Q (.bool true) h → C (N 253) [] h Q
theorem law17_awake.spec (i : law17_awake.Imp C N) (s1 : law17_row.Spec C N) (s2 : delta_Turns.Spec C N) (s3 : delta_Apply.Spec C N) (s4 : delta_Back.Spec C N) (s5 : kit_SameRows.Spec C N) : law17_awake.Spec C N := by
  intro h Q hq
  apply i
  have f1 : ∀ u : UInt8, [u].length ≤ far := fun u => by simp [far]
  simp -dsimp only [law17_awake.cps, law17_awake.k1]
  refine s1 _ _ _ _ (f1 _) (f1 _) fun a1 h1 o1 => ?_
  refine s1 _ _ _ _ (f1 _) (f1 _) fun a2 h2 o2 => ?_
  rw [fill_two]
  intro id3 hid3
  have A0 := two_rows (rowK.mono o2.le (rowK.ofObs (t := ⟨[97], [49]⟩) ⟨f1 _, f1 _⟩ o1.is)) (rowK.ofObs (t := ⟨[98], [50]⟩) ⟨f1 _, f1 _⟩ o2.is) hid3
  have l3 := AHeap.le_trans (AHeap.le_trans o1.le o2.le) (le_upd (blkOf [a1.1, a1.2, a2.1, a2.2]) hid3)
  generalize upd h2 id3 (blkOf [a1.1, a1.2, a2.1, a2.2]) = h3 at A0 l3 ⊢
  refine s1 _ _ _ _ (f1 _) (f1 _) fun b1 h4 o4 => ?_
  refine s1 _ _ _ _ (f1 _) (f1 _) fun b2 h5 o5 => ?_
  rw [fill_two]
  intro id6 hid6
  have B0 := two_rows (rowK.mono o5.le (rowK.ofObs (t := ⟨[98], [51]⟩) ⟨f1 _, f1 _⟩ o4.is)) (rowK.ofObs (t := ⟨[99], [52]⟩) ⟨f1 _, f1 _⟩ o5.is) hid6
  have l6 := AHeap.le_trans (AHeap.le_trans o4.le o5.le) (le_upd (blkOf [b1.1, b1.2, b2.1, b2.2]) hid6)
  generalize upd h5 id6 (blkOf [b1.1, b1.2, b2.1, b2.2]) = h6 at B0 l6 ⊢
  have A6 := A0.mono l6
  refine s2 _ _ _ _ _ _ A6 B0 (by simp) fun x7 P7 h7 e7 o7 => ?_
  have T7 := o7.dl' e7 (turnsP_ok smallA smallB)
  have lt : (turnsP rowsA rowsB).length = 3 := rowsAB_len
  refine s3 _ _ _ _ _ _ (A6.mono o7.le) T7 (by simp) (by rw [lt]; omega) (fun e => by rw [apply_turns rowsA_right rowsB_right] at e; cases e) fun m x8 P8 h8 em e8 o8 => ?_
  rw [apply_turns rowsA_right rowsB_right] at em
  cases em
  have R8 := o8.dl' e8 smallB
  simp -dsimp only [V.ext_tup, List.getElem?_cons_zero, List.getElem?_cons_succ, B.pv_some]
  refine s4 _ _ _ _ (T7.mono o8.le) (by rw [lt]; omega) fun x9 P9 h9 e9 o9 => ?_
  have T9 := o9.dl' e9 (backR_ok (turnsP_ok smallA smallB))
  refine s3 _ _ _ _ _ _ (R8.mono o9.le) T9 (by simp) (by simp [backR, lt]) (fun e => by rw [apply_back rowsA_right rowsB_right] at e; cases e) fun m x10 P10 h10 em e10 o10 => ?_
  rw [apply_back rowsA_right rowsB_right] at em
  cases em
  have R10 := o10.dl' e10 smallA
  have l9 := AHeap.le_trans o9.le o10.le
  have l8 := AHeap.le_trans o8.le l9
  have l7 := AHeap.le_trans o7.le l8
  have hlen := (T7.mono l8).lenSl
  rw [lt] at hlen
  simp -dsimp [hlen]
  refine s5 _ _ _ _ _ _ (R8.mono l9) (B0.mono l7) (by simp) ?_
  simp -dsimp
  refine s5 _ _ _ _ _ _ R10 (A6.mono l7) (by simp) ?_
  simp -dsimp
  exact dn_le (AHeap.le_trans l3 (AHeap.le_trans l6 l7)) hq
/-! The arguments. -/
abbrev tyRow : Ty := .st [.sl 1 1 (.i .u8), .sl 1 1 (.i .u8)]
abbrev tyTurn : Ty := .st [.sl 1 1 (.i .u8), .sl 1 1 (.i .u8), .sl 1 1 (.i .u8)]
theorem dBs {H : AHeap} {v : AVal} (h : AbsOk H (.sl 1 1 (.i .u8)) [v]) : ∃ b : List UInt8, Bs H v b := by
  obtain ⟨L, h1, h2⟩ := arg_slice bc (fun p hp => dByte hp) h
  exact ⟨L, ⟨[], h1⟩, by unfold reach at h2; unfold far; omega⟩
theorem absSl_one {H : AHeap} {b e : Nat} {t : Ty} {c : List AVal} (h : AbsOk H (.sl b e t) c) : ∃ v, c = [v] := by
  rcases h with h | h | ⟨_, _, h, _⟩ <;> exact ⟨_, h⟩
theorem dRow {H : AHeap} {p : List AVal} (h : AbsOk H tyRow p) : ∃ (t : Row) (a : AVal × AVal), p = rowK.cells a ∧ rowK.at_ H t a := by
  obtain ⟨a, r, rfl, h1, ⟨b, r2, rfl, h2, hr⟩⟩ := h
  cases hr
  obtain ⟨v, rfl⟩ := absSl_one h1
  obtain ⟨w, rfl⟩ := absSl_one h2
  obtain ⟨s, hs⟩ := dBs h1
  obtain ⟨t, ht⟩ := dBs h2
  exact ⟨⟨s, t⟩, (v, w), rfl, hs, ht⟩
theorem dTurn {H : AHeap} {p : List AVal} (h : AbsOk H tyTurn p) : ∃ (t : Turn) (a : AVal × AVal × AVal), p = turnK.cells a ∧ turnK.at_ H t a := by
  obtain ⟨a, r, rfl, h1, ⟨b, r2, rfl, h2, ⟨c, r3, rfl, h3, hr⟩⟩⟩ := h
  cases hr
  obtain ⟨v, rfl⟩ := absSl_one h1
  obtain ⟨w, rfl⟩ := absSl_one h2
  obtain ⟨u, rfl⟩ := absSl_one h3
  obtain ⟨s, hs⟩ := dBs h1
  obtain ⟨t, ht⟩ := dBs h2
  obtain ⟨q, hq⟩ := dBs h3
  exact ⟨⟨s, t, q⟩, (v, w, u), rfl, hs, ht, hq⟩
theorem arg_sliceD {T Ad : Type} {K : DK T Ad} {H : AHeap} {bytes : Nat} {e : Ty} {v : AVal} (hd : ∀ p, AbsOk H e p → ∃ (t : T) (a : Ad), p = K.cells a ∧ K.at_ H t a) (h : AbsOk H (.sl bytes K.n e) [v]) : ∃ L : List T, Dl K H v L ∧ L.length * bytes ≤ reach := by
  obtain ⟨G, h1, h2⟩ := arg_slice (T := { p : T × Ad // K.at_ H p.1 p.2 }) (fun p => K.cells p.1.2) (fun p hp => by obtain ⟨t, a, e, k⟩ := hd p hp; exact ⟨⟨(t, a), k⟩, e⟩) h
  refine ⟨(G.map (·.1)).map (·.1), ⟨G.map (·.1), [], rfl, ?_, fun p hp => ?_⟩, by simpa using h2⟩
  · rw [List.map_map]; exact h1
  · obtain ⟨q, _, rfl⟩ := List.mem_map.1 hp; exact q.2
theorem dRows {H : AHeap} {v : AVal} (h : AbsOk H (.sl 48 2 tyRow) [v]) : ∃ L : List Row, Dl rowK H v L ∧ L.length < 4000000000000 := by
  obtain ⟨L, h1, h2⟩ := arg_sliceD (K := rowK) (fun p hp => dRow hp) h
  exact ⟨L, h1, by unfold reach at h2; omega⟩
theorem dTurns {H : AHeap} {v : AVal} (h : AbsOk H (.sl 72 3 tyTurn) [v]) : ∃ L : List Turn, Dl turnK H v L ∧ L.length < 4000000000000 := by
  obtain ⟨L, h1, h2⟩ := arg_sliceD (K := turnK) (fun p hp => dTurn hp) h
  exact ⟨L, h1, by unfold reach at h2; omega⟩
def law17_DeltaTells.Spec (C : CSem) (N : Nat → Nat) : Prop := ∀ (x y : AVal) (L M : List Row) (h : AHeap) (Q : AVal → AHeap → Prop), Dl rowK h x L → Dl rowK h y M → L.length < 4000000000000 → M.length < 4000000000000 → Q (.bool true) h → C (N 259) [x, y] h Q
theorem law17_DeltaTells.spec (i : law17_DeltaTells.Imp C N) (s1 : law17_awake.Spec C N) (s2 : kit_LentRows.Spec C N) (s3 : delta_Turns.Spec C N) (s4 : ref17_Turns.Spec C N) (s5 : kit_SameTurns.Spec C N) (s6 : kit_KeptRows.Spec C N) : law17_DeltaTells.Spec C N := by
  intro x y L M h Q hx hy hl1 hl2 hq
  apply i
  simp -dsimp only [law17_DeltaTells.cps, law17_DeltaTells.k1]
  refine s1 _ _ ?_
  have g60 : V.bin .gtr (.int .i64 ((L.length + M.length : Nat) : Int)) (.int .i64 60) = some (.bool (decide (60 < L.length + M.length))) := gtrN (b := 60)
  simp -dsimp only [V.un_not, Bool.not_true, B.pv_some, B.cond_false, hx.lenSl, hy.lenSl, addNN (show L.length + M.length < 4611686018427387904 by omega), g60]
  refine B.cond_bool (fun _ => dn_same hq) (fun hc => ?_)
  rw [decide_eq_false_iff_not] at hc
  refine s2 _ _ _ _ hx (by omega) fun x1 h1 l1 d1 => ?_
  refine s2 _ _ _ _ (hy.mono l1) (by omega) fun y2 h2 l2 d2 => ?_
  refine s3 _ _ _ _ _ _ (d1.dl.mono l2) d2.dl (by omega) fun t P h3 e3 o3 => ?_
  have hok := turnsP_ok hx.ok hy.ok
  have hlen := turnsP_len L M
  have l12 := AHeap.le_trans l1 l2
  have l13 := AHeap.le_trans l12 o3.le
  refine s4 _ _ _ _ _ _ (hx.mono l13) (hy.mono l13) (by omega) fun u h4 l4 d4 => ?_
  refine s5 _ _ _ _ _ _ ((o3.dl' e3 hok).mono l4) d4 (by omega) ?_
  have l14 := AHeap.le_trans l13 l4
  have l24 := AHeap.le_trans o3.le l4
  have heq := turnsP_eq L M
  simp -dsimp [heq]
  refine s6 _ _ _ _ _ _ (d1.mono (AHeap.le_trans l2 l24)) (hx.mono l14) (by omega) ?_
  simp -dsimp [heq]
  refine s6 _ _ _ _ _ _ (d2.mono l24) (hy.mono l14) (by omega) ?_
  simp -dsimp
  exact dn_le l14 hq
end Go.Ab

/- What is proved: contracts of the seventeenth chapter's statements: rows turned; there and back. No conditions. -/
set_option linter.unusedVariables false
set_option linter.unusedSimpArgs false
namespace Go.Ab
variable {C : CSem} {N : Nat → Nat}
def law17_DeltaApplies.Spec (C : CSem) (N : Nat → Nat) : Prop := ∀ (x y : AVal) (L : List Row) (T : List Turn) (h : AHeap) (Q : AVal → AHeap → Prop), Dl rowK h x L → Dl turnK h y T → L.length < 4000000000000 → T.length < 4000000000000 → Q (.bool true) h → C (N 267) [x, y] h Q
theorem law17_DeltaApplies.spec (i : law17_DeltaApplies.Imp C N) (s1 : law17_awake.Spec C N) (s2 : kit_LentRows.Spec C N) (s3 : kit_LentTurns.Spec C N) (s4 : delta_Apply.Spec C N) (s5 : ref17_Apply.Spec C N) (s6 : kit_SameRows.Spec C N) (s7 : delta_Back.Spec C N) (s8 : ref17_Back.Spec C N)
    (s9 : kit_SameTurns.Spec C N) (s10 : kit_KeptRows.Spec C N) (s11 : kit_KeptTurns.Spec C N) : law17_DeltaApplies.Spec C N := by
  intro x y L T h Q hx hy hl1 hl2 hq
  apply i
  simp -dsimp only [law17_DeltaApplies.cps, law17_DeltaApplies.k1]
  refine s1 _ _ ?_
  have g60 : V.bin .gtr (.int .i64 (L.length : Int)) (.int .i64 60) = some (.bool (decide (60 < L.length))) := gtrN (b := 60)
  have g80 : V.bin .gtr (.int .i64 (T.length : Int)) (.int .i64 80) = some (.bool (decide (80 < T.length))) := gtrN (b := 80)
  by_cases hL : 60 < L.length
  · simp -dsimp [- V.bin_gtr, hx.lenSl, g60, hL]
    exact dn_same hq
  by_cases hT : 80 < T.length
  · simp -dsimp [- V.bin_gtr, hx.lenSl, hy.lenSl, g60, g80, hL, hT]
    exact dn_same hq
  simp -dsimp [- V.bin_gtr, hx.lenSl, hy.lenSl, g60, g80, hL, hT]
  refine s2 _ _ _ _ hx (by omega) fun x1 h1 l1 d1 => ?_
  refine s3 _ _ _ _ (hy.mono l1) (by omega) fun y2 h2 l2 d2 => ?_
  have l12 := AHeap.le_trans l1 l2
  have d1' := d1.mono l2
  have rest : ∀ (h4 : AHeap), h2.le h4 → (B.pick (.bool true) (.bool true) (.bool false) fun v44 =>
      B.gd h4 v44 true (fun K => K y2 h4) fun v46 h =>
      B.gd h v44 true (fun K => B.call C (N 264) [v46] h K) fun v47 h =>
      B.gd h v44 true (fun K => K y h) fun v48 h =>
      B.gd h v44 true (fun K => B.call C (N 265) [v48] h K) fun v49 h =>
      B.gd h v44 true (fun K => B.call C (N 257) [v47, v49] h K) fun v50 h =>
      B.pick v44 v50 (.bool false) fun v51 =>
      B.gd h v51 true (fun K => K x1 h) fun v53 h =>
      B.gd h v51 true (fun K => K x h) fun v54 h =>
      B.gd h v51 true (fun K => B.call C (N 258) [v53, v54] h K) fun v55 h =>
      B.pick v51 v55 (.bool false) fun v56 =>
      B.gd h v56 true (fun K => K y2 h) fun v58 h =>
      B.gd h v56 true (fun K => K y h) fun v59 h =>
      B.gd h v56 true (fun K => B.call C (N 266) [v58, v59] h K) fun v60 h =>
      B.pick v56 v60 (.bool false) fun v61 =>
      dn Q v61 h) := fun h4 l4 => by
    simp -dsimp
    refine s7 _ _ _ _ (d2.dl.mono l4) (by omega) fun t P h5 e5 o5 => ?_
    have l5 := AHeap.le_trans l4 o5.le
    simp -dsimp
    refine s8 _ _ _ _ (hy.mono (AHeap.le_trans l12 l5)) (by omega) fun u h6 l6 d6 => ?_
    simp -dsimp
    have l7 := AHeap.le_trans l5 l6
    refine s9 _ _ _ _ _ _ ((o5.dl' e5 (backR_ok hy.ok)).mono l6) d6 (by simp [backR]; omega) ?_
    simp -dsimp
    refine s10 _ _ _ _ _ _ (d1'.mono l7) (hx.mono (AHeap.le_trans l12 l7)) (by omega) ?_
    simp -dsimp
    refine s11 _ _ _ _ _ _ (d2.mono l7) (hy.mono (AHeap.le_trans l12 l7)) (by omega) ?_
    simp -dsimp
    exact dn_le (AHeap.le_trans l12 l7) hq
  refine s4 _ _ _ _ _ _ d1'.dl d2.dl (by omega) (by omega) (fun hn => ?_) fun m t P h3 em e3 o3 => ?_
  · simp -dsimp only [V.ext_tup, List.getElem?_cons_zero, List.getElem?_cons_succ, B.pv_some]
    refine s5 _ _ _ _ _ _ (hx.mono l12) (hy.mono l12) (by omega) (by omega) (fun _ => ?_) fun m t h4 em l4 d4 => by rw [hn] at em; cases em
    simp -dsimp
    refine s6 _ _ _ _ _ _ (Dl.nils rowK _) (Dl.nils rowK _) (by simp) ?_
    rw [decide_eq_true rfl]
    exact rest _ (AHeap.le_refl _)
  · simp -dsimp only [V.ext_tup, List.getElem?_cons_zero, List.getElem?_cons_succ, B.pv_some]
    have l13 := AHeap.le_trans l12 o3.le
    refine s5 _ _ _ _ _ _ (hx.mono l13) (hy.mono l13) (by omega) (by omega) (fun hn => by rw [hn] at em; cases em) fun m2 u h4 em2 l4 d4 => ?_
    rw [em] at em2
    cases em2
    simp -dsimp
    have hml : m.length ≤ L.length + T.length := by
      unfold applyR at em
      split at em
      · exact goA_len T em
      · cases em
    refine s6 _ _ _ _ _ _ ((o3.dl' e3 (applyR_ok hy.ok hx.ok em)).mono l4) d4 (by omega) ?_
    rw [decide_eq_true rfl]
    exact rest _ (AHeap.le_trans o3.le l4)
def law17_right.Spec (C : CSem) (N : Nat → Nat) : Prop := ∀ (x : AVal) (L : List Row) (h : AHeap) (Q : AVal → AHeap → Prop), Dl rowK h x L → L.length ≤ 100000 → Q (.bool (rightR L)) h → C (N 268) [x] h Q
theorem law17_right.spec (i : law17_right.Imp C N) (s1 : delta_Turns.Spec C N) : law17_right.Spec C N := by
  intro x L h Q hx hl hq
  apply i
  simp -dsimp only [law17_right.cps]
  refine s1 _ _ _ _ _ _ (Dl.nils rowK h) hx (by simp; omega) fun t P h1 e1 o1 => ?_
  have d1 := o1.dl' e1 (turnsP_ok (fun _ h => by cases h) hx.ok)
  simp -dsimp only [d1.lenSl, (hx.mono o1.le).lenSl, V.bin_eql, B.pv_some]
  refine dn_le o1.le ?_
  have : decide (((turnsP [] L).length : Int) = (L.length : Int)) = rightR L := by
    rw [Bool.eq_iff_iff, decide_eq_true_eq, rightR_iff, ← turns_nil_len]; omega
  rw [this]; exact hq
def law17_DeltaBack.Spec (C : CSem) (N : Nat → Nat) : Prop := ∀ (x y z : AVal) (L M O : List Row) (h : AHeap) (Q : AVal → AHeap → Prop), Dl rowK h x L → Dl rowK h y M → Dl rowK h z O → L.length < 4000000000000 → M.length < 4000000000000 → O.length < 4000000000000 → Q (.bool true) h → C (N 269) [x, y, z] h Q
theorem law17_DeltaBack.spec (i : law17_DeltaBack.Imp C N) (s1 : law17_awake.Spec C N) (s2 : law17_right.Spec C N) (s3 : delta_Turns.Spec C N) (s4 : delta_Apply.Spec C N) (s5 : delta_Back.Spec C N) (s6 : kit_SameRows.Spec C N) : law17_DeltaBack.Spec C N := by
  intro x y z L M O h Q hx hy hz hl1 hl2 hl3 hq
  apply i
  simp -dsimp only [law17_DeltaBack.cps, law17_DeltaBack.k1]
  refine s1 _ _ ?_
  have g80 : V.bin .gtr (.int .i64 ((L.length + M.length + O.length : Nat) : Int)) (.int .i64 80) = some (.bool (decide (80 < L.length + M.length + O.length))) := gtrN (b := 80)
  simp -dsimp only [V.un_not, Bool.not_true, B.pv_some, B.cond_false, hx.lenSl, hy.lenSl, hz.lenSl, addNN (show L.length + M.length < 4611686018427387904 by omega), addNN (show L.length + M.length + O.length < 4611686018427387904 by omega), g80]
  by_cases hbig : 80 < L.length + M.length + O.length
  · simp -dsimp [hbig]
    exact dn_same hq
  simp -dsimp [hbig]
  refine s2 _ _ _ _ hx (by omega) ?_
  by_cases hL : rightR L = true
  case neg => simp -dsimp [hL, hbig]; exact dn_same hq
  simp -dsimp [hL, hbig]
  refine s2 _ _ _ _ hy (by omega) ?_
  by_cases hM : rightR M = true
  case neg => simp -dsimp [hM, hbig]; exact dn_same hq
  simp -dsimp [hM, hbig]
  refine s2 _ _ _ _ hz (by omega) ?_
  by_cases hO : rightR O = true
  case neg => simp -dsimp [hO, hbig]; exact dn_same hq
  simp -dsimp [hO, hbig]
  have rL := rightR_iff.1 hL; have rM := rightR_iff.1 hM; have rO := rightR_iff.1 hO
  have n1 := turnsP_len L M; have n2 := turnsP_len M O
  refine s3 _ _ _ _ _ _ hx hy (by omega) fun t P1 h1 e1 o1 => ?_
  have okT := turnsP_ok hx.ok hy.ok
  have okU := turnsP_ok hy.ok hz.ok
  have T1 := o1.dl' e1 okT
  refine s3 _ _ _ _ _ _ (hy.mono o1.le) (hz.mono o1.le) (by omega) fun u P2 h2 e2 o2 => ?_
  have U2 := o2.dl' e2 okU
  have T2 := T1.mono o2.le
  have l2 := AHeap.le_trans o1.le o2.le
  refine s4 _ _ _ _ _ _ (hx.mono l2) T2 (by omega) (by omega) (fun e => by rw [apply_turns rL rM] at e; cases e) fun m a P3 h3 em e3 o3 => ?_
  rw [apply_turns rL rM] at em
  cases em
  have A3 := o3.dl' e3 hy.ok
  have l3 := AHeap.le_trans l2 o3.le
  simp -dsimp only [V.ext_tup, List.getElem?_cons_zero, List.getElem?_cons_succ, B.pv_some]
  refine s5 _ _ _ _ (T2.mono o3.le) (by omega) fun bk P4 h4 e4 o4 => ?_
  have B4 := o4.dl' e4 (backR_ok okT)
  have l4 := AHeap.le_trans l3 o4.le
  refine s4 _ _ _ _ _ _ (hy.mono l4) B4 (by omega) (by simp [backR]; omega) (fun e => by rw [apply_back rL rM] at e; cases e) fun m b P5 h5 em e5 o5 => ?_
  rw [apply_back rL rM] at em
  cases em
  have B5 := o5.dl' e5 hx.ok
  have l5 := AHeap.le_trans l4 o5.le
  simp -dsimp only [V.ext_tup, List.getElem?_cons_zero, List.getElem?_cons_succ, B.pv_some]
  have T5 := T2.mono (AHeap.le_trans o3.le (AHeap.le_trans o4.le o5.le))
  have U5 := U2.mono (AHeap.le_trans o3.le (AHeap.le_trans o4.le o5.le))
  refine copy_list (K := turnK) T5 (by omega) fun c1 h6 d6 => ?_
  refine app_list (K := turnK) d6 U5 (by omega) (by omega) fun c2 h7 d7 => ?_
  have l7 := AHeap.le_trans l5 d7.le
  have D7 := d7.dl
  refine s4 _ _ _ _ _ _ (hx.mono l7) D7 (by omega) (by simp; omega) (fun e => by rw [apply_two rL rM rO] at e; cases e) fun m c P8 h8 em e8 o8 => ?_
  rw [apply_two rL rM rO] at em
  cases em
  have C8 := o8.dl' e8 hz.ok
  have l8 := AHeap.le_trans l7 o8.le
  simp -dsimp
  have k48 := AHeap.le_trans (AHeap.le_trans o4.le o5.le) (AHeap.le_trans d7.le o8.le)
  refine s6 _ _ _ _ _ _ (A3.mono k48) (hy.mono l8) (by omega) ?_
  simp -dsimp
  refine s6 _ _ _ _ _ _ (B5.mono (AHeap.le_trans d7.le o8.le)) (hx.mono l8) (by omega) ?_
  simp -dsimp
  refine s6 _ _ _ _ _ _ C8 (hz.mono l8) (by omega) ?_
  simp -dsimp
  refine s3 _ _ _ _ _ _ (hx.mono l8) (hx.mono l8) (by omega) fun w P9 h9 e9 o9 => ?_
  have W9 := o9.dl' e9 (turnsP_ok hx.ok hx.ok)
  have l9 := AHeap.le_trans l8 o9.le
  have hw := W9.lenSl
  rw [turns_self rL] at hw
  have T9 := (T5.mono (AHeap.le_trans d7.le (AHeap.le_trans o8.le o9.le))).lenSl
  have hle : V.bin .leq (.int .i64 ((turnsP L M).length : Int)) (.int .i64 ((L.length + M.length : Nat) : Int)) = some (.bool true) := by rw [leqN, decide_eq_true n1]
  have hle2 : ((turnsP L M).length : Int) ≤ (L.length : Int) + (M.length : Int) := by omega
  simp -dsimp [- V.bin_add, hle2, hw, T9, (hx.mono l9).lenSl, (hy.mono l9).lenSl, addNN (show L.length + M.length < 4611686018427387904 by omega), hle]
  exact dn_le l9 hq
end Go.Ab
