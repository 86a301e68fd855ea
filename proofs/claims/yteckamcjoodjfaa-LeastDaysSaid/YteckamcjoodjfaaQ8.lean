/- What is proved: a part of the way to the statement: SrtP4, SrtP5, SrtP6, SrtP7, SrtP8, Ccode, C01, Rtell, Rref14, Rref13, Ctell, Ctell2, Ctell3, SrtP9, SrtP10, SrtO, SrtQ, AcP, AcV, C01b, Clot, Clot2, Clot3, Clot4, Ckit, Rlaw04, Claw04, Claw04b, Rrank, Rref09, Crank, Crank2, Csort, AcQ, C01c, C01d, Cflow, Pflow, Cflow2. No conditions. -/
import Derived.Test.YteckamcjoodjfaaQ7
import Derived.Test.YteckamcjoodjfaaQ6
import Derived.Test.YteckamcjoodjfaaQ3
import Derived.KernelRfl
set_option linter.unusedVariables false
set_option linter.unusedSimpArgs false
namespace Go.Ab
variable {C : CSem}
structure EInv {X : Type} (c : X → X → Int) (a b : Nat) (G : List X) (i j : Nat) : Prop where
 hb : b ≤ G.length
 hi : a < i
 hj : j < b
 hij : i ≤ j + 1
 lo : ∀ k (h : k < G.length) (ha : a < G.length), a < k → k < i → ¬ c G[a] G[k] < 0
 hi2 : ∀ k (h : k < G.length) (ha : a < G.length), j < k → k < b → c G[a] G[k] < 0
theorem EInv.swap {X : Type} {c : X → X → Int} {a b i j : Nat} {G : List X} (p : EInv c a b G i j) (hc : i ≤ j) (hi : i < G.length) (hj : j < G.length) (ha : a < G.length) (h1 : c G[a] G[i] < 0) (h2 : ¬ c G[a] G[j] < 0) : EInv c a b (swp G i j hi hj) (i + 1) (j - 1) := by
 have k1 := p.hi; have k2 := p.hij; have k3 := p.hj; have k4 := p.hb
 have hne : i ≠ j := fun e => by subst e; exact h2 h1
 have hl := zjp hi hj
 have pa : ∀ (hm : a < (swp G i j hi hj).length), (swp G i j hi hj)[a] = G[a] := fun hm => by rw [zgm hi hj hm ha, if_neg (by omega), if_neg (by omega)]
 refine ⟨by omega, by omega, by omega, by omega, fun k hk hm q1 q2 => ?_, fun k hk hm q1 q2 => ?_⟩
 ·rw [pa, zgm hi hj hk (by omega), if_neg (by omega)]
  by_cases e : k = i
  ·rw [if_pos e]; exact h2
  ·rw [if_neg e]; exact p.lo k (by omega) ha q1 (by omega)
 ·rw [pa, zgm hi hj hk (by omega)]
  by_cases e : k = j
  ·rw [if_pos e]; exact h1
  ·rw [if_neg e, if_neg (by omega)]; exact p.hi2 k (by omega) ha (by omega) q2
section
variable {E : zx} {X : Type} {cs : X → List AVal} {v : X → AVal} {h0 h : za} {x f : AVal} {G : List X} {R : List (List AVal)} {c : X → X → Int} {Q : AVal → za → Prop} {Y1 : List AVal → za → Prop} {a b i j : Nat}
end
end Go.Ab
namespace Go.Ab
structure SInv {X : Type} (c : X → X → Int) (a n lo r : Nat) (G : List X) : Prop where
 len : a + n ≤ G.length
 heap : ∀ k, 0 < k → (hk : k < n) → lo ≤ (k - 1) / 2 → (k - 1) / 2 ≠ r → (h1 : a + (k - 1) / 2 < G.length) → (h2 : a + k < G.length) → ¬ c G[a + (k - 1) / 2] G[a + k] < 0
 grand : lo ≤ (r - 1) / 2 → 0 < r → ∀ k, 0 < k → (hk : k < n) → (k - 1) / 2 = r → (h1 : a + (r - 1) / 2 < G.length) → (h2 : a + k < G.length) → ¬ c G[a + (r - 1) / 2] G[a + k] < 0
def Heap {X : Type} (c : X → X → Int) (a n lo : Nat) (G : List X) : Prop := ∀ k, 0 < k → (hk : k < n) → lo ≤ (k - 1) / 2 → (h1 : a + (k - 1) / 2 < G.length) → (h2 : a + k < G.length) → ¬ c G[a + (k - 1) / 2] G[a + k] < 0
section
variable {X : Type} {c : X → X → Int} {a n lo r ch : Nat} {G : List X}
theorem SInv.done (p : SInv c a n lo r G) (hr : ∀ k, 0 < k → k < n → (k - 1) / 2 = r → (h1 : a + r < G.length) → (h2 : a + k < G.length) → ¬ c G[a + r] G[a + k] < 0) : Heap c a n lo G := fun k h0 hk hl h1 h2 => by
 by_cases e : (k - 1) / 2 = r
 ·have := hr k h0 hk e (by rw [← e]; exact h1) h2
  simp only [e]; exact this
 ·exact p.heap k h0 hk hl e h1 h2
theorem SInv.step (W : Weak (zch c)) (p : SInv c a n lo r G) (hlo : lo ≤ r) (hch : ch < n) (hp : (ch - 1) / 2 = r) (h0 : 0 < ch) (hr : a + r < G.length) (hc : a + ch < G.length) (hlt : c G[a + r] G[a + ch] < 0)
  (hmax : ∀ k, 0 < k → k < n → (k - 1) / 2 = r → (h2 : a + k < G.length) → ¬ c G[a + ch] G[a + k] < 0) : SInv c a n lo ch (swp G (a + r) (a + ch) hr hc) := by
 have hl := zjp hr hc
 have hrc : r < ch := by omega
 have asym : ¬ c G[a + ch] G[a + r] < 0 := by
  have := W.asym (a := G[a + r]) (b := G[a + ch]) (by unfold zch; exact decide_eq_true hlt)
  unfold zch at this; exact of_decide_eq_false this
 refine ⟨by rw [hl]; exact p.len, fun k k0 hk hlk hne h1 h2 => ?_, fun _ _ k k0 hk hkp h1 h2 => ?_⟩
 ·have g1 : a + (k - 1) / 2 < G.length := by omega
  have g2 : a + k < G.length := by omega
  rw [zgm hr hc h1 g1, zgm hr hc h2 g2, if_neg (by omega : ¬ a + (k - 1) / 2 = a + ch)]
  by_cases e1 : (k - 1) / 2 = r
  ·rw [if_pos (by omega)]
   by_cases e2 : k = ch
   ·rw [if_pos (by omega)]; exact asym
   ·rw [if_neg (by omega), if_neg (by omega)]; exact hmax k k0 hk e1 g2
  ·rw [if_neg (by omega)]
   by_cases e2 : k = r
   ·rw [if_neg (by omega), if_pos (by omega)]
    subst e2
    exact p.grand hlk k0 ch h0 hch hp g1 hc
   ·rw [if_neg (by omega), if_neg (by omega)]; exact p.heap k k0 hk hlk e1 g1 g2
 ·have g1 : a + (ch - 1) / 2 < G.length := by omega
  have g2 : a + k < G.length := by omega
  rw [zgm hr hc h1 g1, zgm hr hc h2 g2, if_neg (by omega), if_pos (by omega), if_neg (by omega), if_neg (by omega)]
  have := p.heap k k0 hk (by omega) (by omega) (by omega) g2
  simp only [hkp] at this
  exact this
end
end Go.Ab
namespace Go.Ab
section
variable {X : Type} {c : X → X → Int} {a b n lo : Nat} {G G' : List X}
theorem Heap.sinv {X : Type} {c : X → X → Int} {a n lo : Nat} {G : List X} (p : Heap c a n (lo + 1) G) (hl : a + n ≤ G.length) : SInv c a n lo lo G :=
 ⟨hl, fun k k0 hk h1 hne h2 h3 => p k k0 hk (by omega) h2 h3, fun h1 h0 => by omega⟩
theorem Heap.none_ {X : Type} {c : X → X → Int} {a n lo : Nat} {G : List X} (h : n ≤ 2 * lo + 1) : Heap c a n lo G := fun k k0 hk h1 _ _ => by omega
theorem Heap.root (W : Weak (zch c)) (p : Heap c a n 0 G) (hl : a + n ≤ G.length) : ∀ (k : Nat) (hk : k < n), ¬ c (G[a]'(by omega)) (G[a + k]'(by omega)) < 0 := by
 intro k
 induction k using Nat.strongRecOn with
 | ind k ih =>
  intro hk
  by_cases e : k = 0
  ·subst e
   have := W.irr (G[a]'(by omega)); unfold zch at this; simpa using this
  ·have h1 := ih ((k - 1) / 2) (by omega) (by omega)
   have h2 := p k (by omega) hk (by omega) (by omega) (by omega)
   have := W.zmm (a := G[a]'(by omega)) (b := G[a + (k - 1) / 2]'(by omega)) (c := G[a + k]'(by omega)) (by unfold zch; exact decide_eq_false h1) (by unfold zch; exact decide_eq_false h2)
   unfold zch at this; exact of_decide_eq_false this
theorem zc8.take (w : zc8 a b G G') : G'.take a = G.take a := List.ext_getElem? fun i => by
 rw [List.getElem?_take, List.getElem?_take]
 split
 ·rename_i h; exact w.out i (.inl h)
 ·rfl
theorem zc8.drop (w : zc8 a b G G') : G'.drop b = G.drop b := List.ext_getElem? fun i => by
 rw [List.getElem?_drop, List.getElem?_drop]; exact w.out (b + i) (.inr (by omega))
theorem split3 (hab : a ≤ b) (G : List X) : G = G.take a ++ ((G.take b).drop a ++ G.drop b) := by
 have h1 : G.take a = (G.take b).take a := by rw [List.take_take, Nat.min_eq_left hab]
 rw [h1, ← List.append_assoc, List.take_append_drop, List.take_append_drop]
theorem zc8.mid (w : zc8 a b G G') (hab : a ≤ b) : ((G'.take b).drop a).Perm ((G.take b).drop a) := by
 have h := w.perm
 rw [split3 hab G, split3 hab G', w.take, w.drop] at h
 exact (List.perm_append_right_iff _).1 ((List.perm_append_left_iff _).1 h)
theorem zc8.mem (w : zc8 a b G G') {k : Nat} (h1 : a ≤ k) (h2 : k < b) (hk : k < G'.length) : ∃ k', a ≤ k' ∧ k' < b ∧ ∃ h' : k' < G.length, G'[k] = G[k'] := by
 have hm : G'[k] ∈ (G'.take b).drop a := by
  rw [List.mem_iff_getElem?]
  refine ⟨k - a, ?_⟩
  rw [List.getElem?_drop, List.getElem?_take, if_pos (by omega), Nat.add_sub_cancel' h1, List.getElem?_eq_getElem hk]
 have := (w.mid (by omega)).mem_iff.1 hm
 rw [List.mem_iff_getElem?] at this
 obtain ⟨i, hi⟩ := this
 rw [List.getElem?_drop, List.getElem?_take] at hi
 split at hi
 ·rename_i hlt
  obtain ⟨hb, e⟩ := List.getElem?_eq_some_iff.1 hi
  exact ⟨a + i, by omega, hlt, hb, e.symm⟩
 ·cases hi
def Cut {X : Type} (c : X → X → Int) (A B a b : Nat) (G : List X) : Prop := ∀ p q, A ≤ p → p < q → q < B → p < a ∨ b ≤ q → ∀ (h1 : p < G.length) (h2 : q < G.length), ¬ c G[q] G[p] < 0
def Srt {X : Type} (c : X → X → Int) (A B : Nat) (G : List X) : Prop := ∀ p q, A ≤ p → p < q → q < B → ∀ (h1 : p < G.length) (h2 : q < G.length), ¬ c G[q] G[p] < 0
theorem Cut.within {A B : Nat} (x : Cut c A B a b G) (w : zc8 a b G G') (ha : A ≤ a) (hb : b ≤ B) : Cut c A B a b G' := fun p q hp hpq hq h h1 h2 => by
 have hl := w.len
 rcases h with h | h
 ·rw [w.same (.inl h) h1 (by omega)]
  by_cases hq2 : a ≤ q ∧ q < b
  ·obtain ⟨q', h3, h4, h5, e⟩ := w.mem hq2.1 hq2.2 h2
   rw [e]; exact x p q' hp (by omega) (by omega) (.inl h) (by omega) h5
  ·rw [w.same (by omega) h2 (by omega)]; exact x p q hp hpq hq (.inl h) _ _
 ·rw [w.same (k := q) (.inr h) h2 (by omega)]
  by_cases hp2 : a ≤ p ∧ p < b
  ·obtain ⟨p', h3, h4, h5, e⟩ := w.mem hp2.1 hp2.2 h1
   rw [e]; exact x p' q (by omega) (by omega) hq (.inr h) h5 (by omega)
  ·rw [w.same (k := p) (by omega) h1 (by omega)]; exact x p q hp hpq hq (.inr h) _ _
theorem Cut.join {A B : Nat} (x : Cut c A B a b G) (s : Srt c a b G) : Srt c A B G := fun p q hp hpq hq h1 h2 => by
 by_cases h : p < a ∨ b ≤ q
 ·exact x p q hp hpq hq h h1 h2
 ·exact s p q (by omega) hpq (by omega) h1 h2
theorem Cut.small {A B : Nat} (x : Cut c A B a b G) (s : b ≤ a + 1) : Srt c A B G := x.join fun p q _ _ _ _ _ => by omega
theorem within_mid {M : List X} (hab : a ≤ b) (hb : b ≤ G.length) (hp : M.Perm ((G.take b).drop a)) : zc8 a b G (G.take a ++ (M ++ G.drop b)) := by
 have hl := hp.length_eq
 simp only [List.length_drop, List.length_take] at hl
 refine ⟨?_, fun i hi => ?_⟩
 ·have := (hp.append_right (G.drop b)).append_left (G.take a)
  rw [← split3 hab G] at this; exact this
 ·rcases hi with hi | hi
  ·rw [List.getElem?_append_left (by rw [List.length_take]; omega), List.getElem?_take, if_pos hi]
  ·rw [List.getElem?_append_right (by rw [List.length_take]; omega), List.getElem?_append_right (by rw [List.length_take]; omega), List.getElem?_drop, List.length_take]
   congr 1; omega
theorem srt_mid {M : List X} (hab : a ≤ b) (hb : b ≤ G.length) (hl : M.length = b - a) (hp : M.Pairwise fun x y => ¬ c y x < 0) : Srt c a b (G.take a ++ (M ++ G.drop b)) := fun p q hp1 hpq hq h1 h2 => by
 have e : ∀ k (h1 : a ≤ k) (h2 : k < b) (hk : k < (G.take a ++ (M ++ G.drop b)).length), (G.take a ++ (M ++ G.drop b))[k] = M[k - a]'(by omega) := fun k h1 h2 hk => by
  rw [List.getElem_append_right (by rw [List.length_take]; omega), List.getElem_append_left (by rw [List.length_take]; omega)]
  congr 1; rw [List.length_take]; omega
 rw [e p hp1 (by omega), e q (by omega) hq]
 exact List.pairwise_iff_getElem.1 hp _ _ _ _ (by omega)
end
variable {C : CSem}
section
variable {E : zx} {X : Type} {cs : X → List AVal} {v : X → AVal} {h0 h : za} {x f : AVal} {G : List X} {R : List (List AVal)} {c : X → X → Int} {Q : AVal → za → Prop} {a b : Nat}
end
end Go.Ab
namespace Go.Ab
variable {C : CSem}
def Pre {X : Type} (c : X → X → Int) (a b : Nat) (G : List X) : Prop := 0 < a → ∀ i, a ≤ i → i < b → ∀ (h1 : i < G.length) (h2 : a - 1 < G.length), ¬ c G[i] G[a - 1] < 0
theorem Pre.within {X : Type} {c : X → X → Int} {a b : Nat} {G G' : List X} (p : Pre c a b G) (w : zc8 a b G G') : Pre c a b G' := fun h0 i h1 h2 h3 h4 => by
 have hl := w.len
 obtain ⟨k, k1, k2, k3, e⟩ := w.mem h1 h2 h3
 rw [e, w.same (k := a - 1) (.inl (by omega)) h4 (by omega)]
 exact p h0 k k1 k2 _ _
def But1 {X : Type} (c : X → X → Int) (A B j : Nat) (G : List X) : Prop := ∀ p q, A ≤ p → p < q → q < B → q ≠ j → ∀ (h1 : p < G.length) (h2 : q < G.length), ¬ c G[q] G[p] < 0
section
variable {X : Type} {c : X → X → Int} {A B j : Nat} {G : List X}
theorem But1.done (W : Weak (zch c)) (x : But1 c A B j G) (hj : j < G.length) (h : j ≤ A ∨ ∀ (h1 : j - 1 < G.length), ¬ c G[j] G[j - 1] < 0) : Srt c A B G := fun p q h1 h2 h3 h4 h5 => by
 by_cases e : q = j
 ·subst e
  have h := h.resolve_left (by omega)
  by_cases e2 : p = q - 1
  ·subst e2; exact h _
  ·have k1 := x p (q - 1) h1 (by omega) (by omega) (by omega) h4 (by omega)
   have := W.zmm (a := G[q]) (b := G[q - 1]'(by omega)) (c := G[p]) (by unfold zch; exact decide_eq_false (h _)) (by unfold zch; exact decide_eq_false k1)
   unfold zch at this; exact of_decide_eq_false this
 ·exact x p q h1 h2 h3 e h4 h5
theorem But1.step (W : Weak (zch c)) (x : But1 c A B j G) (hA : A < j) (hj : j < G.length) (hj1 : j - 1 < G.length) (hlt : c G[j] G[j - 1] < 0) : But1 c A B (j - 1) (swp G j (j - 1) hj hj1) := fun p q h1 h2 h3 h4 h5 h6 => by
 have hl := zjp hj hj1
 rw [zgm hj hj1 h6 (by omega), if_neg h4, zgm hj hj1 h5 (by omega)]
 by_cases e : q = j
 ·rw [if_pos e]
  split
  ·have := W.asym (a := G[j]) (b := G[j - 1]) (by unfold zch; exact decide_eq_true hlt)
   unfold zch at this; exact of_decide_eq_false this
  ·rw [if_neg (by omega)]; exact x p (j - 1) h1 (by omega) (by omega) (by omega) (by omega) hj1
 ·rw [if_neg e]
  split
  ·exact x j q (by omega) (by omega) h3 e hj (by omega)
  ·split
   ·exact x (j - 1) q (by omega) (by omega) h3 e hj1 (by omega)
   ·exact x p q h1 h2 h3 e (by omega) (by omega)
end
section
variable {E : zx} {X : Type} {cs : X → List AVal} {v : X → AVal} {h0 h : za} {x f : AVal} {G : List X} {R : List (List AVal)} {c : X → X → Int} {Q : AVal → za → Prop} {Y1 : List AVal → za → Prop} {a b i s : Nat}
end
end Go.Ab
namespace Go.Ab
variable {C : CSem} {N : Nat → Nat}
theorem nextStr_at {h : za} {id : Nat} {b : Blk} {s : List UInt8} {pos : Nat} {K : AVal → za → Prop} (hb : h id = some b) (ho : b.obj = some (.iter s pos)) :
  (B.zft h (.ptr id 0 0) K : Prop) = if pos < s.length then K (.tup [.bool true, .int .i64 pos, .int .i32 (A.rune s pos).1]) (upd h id { b with obj := some (.iter s (pos + (A.rune s pos).2)) }) else K (.tup [.bool false]) h := by
 simp only [B.zft, A.zft, hb, ho]
theorem get_bang {s : List UInt8} {pos : Nat} {b : UInt8} (hb : s[pos]? = some b) : ((⟨s.toArray⟩ : ByteArray).get! pos) = b := by
 simp [ByteArray.get!, hb]
theorem rune_ascii {s : List UInt8} {pos : Nat} {b : UInt8} (hb : s[pos]? = some b) (h : b.toNat < 128) : A.rune s pos = (b.toNat, 1) := by
 unfold A.rune Utf8.decode
 simp only [Nat.add_zero, get_bang hb]
 rw [if_pos h]
theorem rune_high {s : List UInt8} {pos : Nat} {b : UInt8} (hb : s[pos]? = some b) (h : 128 ≤ b.toNat) : 128 ≤ (A.rune s pos).1 := by
 unfold A.rune Utf8.decode
 simp only [Nat.add_zero, get_bang hb]
 rw [if_neg (by omega)]
 split
 ·split <;> simp_all [Utf8.runeError]
 ·split
  ·split <;> simp_all [Utf8.runeError]; omega
  ·split
   ·split <;> simp_all [Utf8.runeError]; omega
   ·simp [Utf8.runeError]
def zln (i : Nat) (b : UInt8) : Bool := (decide (65 ≤ b.toNat) && decide (b.toNat ≤ 90)) || (decide (0 < i) && ((decide (48 ≤ b.toNat) && decide (b.toNat ≤ 57)) || decide (b.toNat = 45)))
def zkw (s : List UInt8) : Nat → Bool
 | 0 => true
 | n + 1 => zkw s n && zln n (s.getD n 0)
def zeu (s : List UInt8) : Bool := !s.isEmpty && decide (s.length ≤ 12) && zkw s s.length
theorem zti {s : List UInt8} {k : Nat} (h : zkw s k = true) {b : UInt8} (hb : s[k]? = some b) (hc : zln k b = false) : ∀ n, k < n → zkw s n = false
 | 0, h => by omega
 | n + 1, hn => by
  by_cases e : n = k
  ·subst e; simp [zkw, List.getD, hb, hc]
  ·rw [zkw, zti h hb hc n (by omega)]; rfl
theorem zr9 {s : List UInt8} {k : Nat} (h : zkw s k = true) {b : UInt8} (hb : s[k]? = some b) (hc : zln k b = true) : zkw s (k + 1) = true := by
 simp [zkw, List.getD, hb, hc, h]
theorem zkp {s : List UInt8} {k : Nat} (h : zkw s k = true) {b : UInt8} (hb : s[k]? = some b) (hc : zln k b = false) : zeu s = false := by
 have := zti h hb hc s.length (List.getElem?_eq_some_iff.1 hb).1
 simp [zeu, this]
def zc4.Spec (C : CSem) (N : Nat → Nat) : Prop := ∀ (s : List UInt8) (h : za) (Q : AVal → za → Prop), Q (.bool (zeu s)) h → C (N 53) [.str s] h Q
def itB (s : List UInt8) (k : Nat) : Blk := { cells := [], gens := [], next := 1, own := true, obj := some (.iter s k) }
theorem zc4.spec (i : zc4.Imp C N) : zc4.Spec C N := by
 intro s h Q hq
 apply i
 simp only [zc4.cps]
 intro id hid
 refine zm.intro (fun n vs hh => ∃ k, k + n = s.length ∧ vs = [] ∧ hh = upd h id (itB s k) ∧ zkw s k = true) s.length ?_ ⟨0, by simp, rfl, rfl, rfl⟩
 rintro Y n vs hh ⟨k, hn, rfl, rfl, hc⟩ hY
 simp only [zc4.l3, zc4.k2]
 rw [nextStr_at (zbh ..) rfl]
 have hle : h.le (upd h id (itB s k)) := zgo _ hid
 split
 ·rename_i hk
  obtain ⟨b, hb⟩ := zry hk
  by_cases hlt : b.toNat < 128
  ·rw [rune_ascii hb hlt, upd_upd]
   have next : zln k b = true → Y [] (upd h id { cells := (itB s k).cells, gens := (itB s k).gens, next := (itB s k).next, own := (itB s k).own, obj := some (.iter s (k + 1)) }) := fun hcc =>
    hY (n - 1) _ _ (by omega) ⟨k + 1, by omega, rfl, rfl, zr9 hc hb hcc⟩
   simp +contextual -dsimp
   refine B.zk (fun h1 => ?_) (fun h1 => ?_)
   ·exact next (by simp at h1; simp [zln]; omega)
   ·simp +contextual -dsimp
    refine B.zk (fun h2 => ?_) (fun h2 => ?_)
    ·exact next (by simp at h2; simp [zln]; omega)
    ·have := zkp hc hb (by simp at h1 h2; simp [zln]; omega)
     rw [this] at hq
     exact zk5 (zgo _ hid) hq
  ·have hr := rune_high hb (by omega)
   have := zkp hc hb (by simp [zln]; omega)
   rw [this] at hq
   simp +contextual -dsimp
   refine B.zk (fun h1 => ?_) (fun h1 => ?_)
   ·simp at h1; omega
   ·simp +contextual -dsimp
    refine B.zk (fun h2 => ?_) (fun h2 => ?_)
    ·simp at h2; omega
    ·exact zk5 (zgo _ hid) hq
 ·have hk : k = s.length := by omega
  subst hk
  have : zeu s = (!decide (s = []) && decide ((s.length : Int) ≤ 12)) := by
   unfold zeu
   rw [hc, Bool.and_true]
   cases s with
   | nil => rfl
   | cons a r => simp; omega
  rw [this] at hq
  simp +contextual -dsimp
  exact zk5 hle hq
def zc1.Spec (C : CSem) (N : Nat → Nat) : Prop := ∀ (s : List UInt8) (h : za) (Q : AVal → za → Prop), Q (.bool (zeu s)) h → C (N 61) [.str s] h Q
theorem idxStr_at {s : List UInt8} {k : Nat} {b : UInt8} (hb : s[k]? = some b) : V.zij (.str s) (.int .i64 (k : Int)) = some (.int .u8 b.toNat) := by
 simp [V.zij, hb]
theorem zc1.spec (i : zc1.Imp C N) : zc1.Spec C N := by
 intro s h Q hq
 apply i
 simp +contextual -dsimp
 refine B.zk (fun h1 => ?_) (fun h1 => ?_)
 ·have : zeu s = false := by
   simp at h1
   cases s with
   | nil => rfl
   | cons a r => simp [zeu]; simp at h1; omega
  rw [this] at hq
  exact zba hq
 ·simp at h1
  refine zm.intro (fun n vs hh => ∃ k : Nat, k + n = s.length ∧ vs = [.int .i64 k] ∧ hh = h ∧ zkw s k = true) s.length ?_ ⟨0, by simp, by simp, rfl, rfl⟩
  rintro Y n vs hh ⟨k, hn, rfl, rfl, hc⟩ hY
  simp +contextual -dsimp
  refine B.zk (fun h2 => ?_) (fun h2 => ?_)
  ·simp at h2
   obtain ⟨b, hb⟩ := zry h2
   simp +contextual -dsimp [idxStr_at hb]
   refine B.zk (fun h3 => ?_) (fun h3 => ?_)
   ·have := zkp hc hb (by simp at h3; simp [zln]; omega)
    rw [this] at hq
    exact zba hq
   ·simp +contextual -dsimp [inc64 (n := k) (by omega)]
    exact hY (n - 1) _ _ (by omega) ⟨k + 1, by omega, by simp, rfl, zr9 hc hb (by simp at h3; simp [zln]; omega)⟩
  ·have hk : k = s.length := by simp at h2; omega
   subst hk
   have : zeu s = true := by
    unfold zeu
    rw [hc]
    cases s with
    | nil => simp at h1
    | cons a r => simp; simp at h1; omega
   rw [this] at hq
   exact zba hq
theorem SlX.sliceIn {T : Type} {h : za} {es : Nat} {x : AVal} {f : T → List AVal} {L : List T} {R : List (List AVal)} (hs : SlX h es x (L.map f) R) (hes : 0 < es) {lo hi : Nat} {a b : Option AVal} (ha : a = none ∧ lo = 0 ∨ ∃ k, a = some (.int k lo)) (hb : b = none ∧ hi = L.length ∨ ∃ k, b = some (.int k hi)) (h1 : lo ≤ hi) (h2 : hi ≤ L.length) :
  ∃ x' R', V.zhe es x a b = some x' ∧ SlX h es x' (((L.take hi).drop lo).map f) R' ∧ foot x' = foot x := by
 obtain ⟨x', e1, e2, e3⟩ := hs.slice hes ha (by simpa using hb) h1 (by simp; omega)
 refine ⟨x', (L.map f ++ R).drop hi, e1, ?_, e3⟩
 rwa [List.take_append_of_le_length (by simpa using h2), ← List.map_take, ← List.map_drop] at e2
def zpo : List UInt8 → List UInt8 × Nat × Bool
 | [] => ([], 0, false)
 | c :: r => if r.length < c.toNat ∨ (r.take c.toNat ≠ [] ∧ zeu (r.take c.toNat) = false) then ([], 0, false) else (r.take c.toNat, 1 + c.toNat, true)
theorem codeGet_cons (c : UInt8) (r : List UInt8) : zpo (c :: r) = if r.length < c.toNat ∨ (r.take c.toNat ≠ [] ∧ zeu (r.take c.toNat) = false) then ([], 0, false) else (r.take c.toNat, 1 + c.toNat, true) := rfl
end Go.Ab
namespace Go.Ab
variable {C : CSem} {N : Nat → Nat}
def zbz.right (w : zbz) : Bool := decide (0 ≤ w.From) && decide (w.From ≤ w.zel) && decide (w.zel ≤ 4001)
def zdc.Spec (C : CSem) (N : Nat → Nat) : Prop := ∀ (a b : Int) (h : za) (Q : AVal → za → Prop), Q (.bool (zbz.right ⟨a, b⟩)) h → C (N 5) [.agg [.int .i64 a, .int .i64 b]] h Q
theorem zdc.spec (i : zdc.Imp C N) : zdc.Spec C N := by
 intro a b h Q hq
 apply i
 simp +contextual -dsimp
 exact zba hq
def zbz.zero : zbz := ⟨0, 0⟩
def within (a b : Int) : zbz × Bool := if b ≤ a then (.zero, false) else (⟨a, b⟩, true)
@[simp] def wb (x : zbz × Bool) : AVal := .tup [.agg x.1.cs, .bool x.2]
def zdd.Spec (C : CSem) (N : Nat → Nat) : Prop := ∀ (a b : Int) (h : za) (Q : AVal → za → Prop), Q (wb (within a b)) h → C (N 16) [.int .i64 a, .int .i64 b] h Q
theorem zdd.spec (i : zdd.Imp C N) : zdd.Spec C N := by
 intro a b h Q hq
 apply i
 simp +contextual -dsimp
 refine B.zk (fun hb => ?_) (fun hb => ?_) <;> simp at hb ⊢
 ·rw [show within a b = (.zero, false) by simp [within, hb]] at hq
  exact zba hq
 ·rw [show within a b = (⟨a, b⟩, true) by simp [within]; omega] at hq
  exact zba hq
def meet (a b : zbz) : zbz × Bool := if a.right && b.right then within (max a.From b.From) (min a.zel b.zel) else (.zero, false)
def zd4.Spec (C : CSem) (N : Nat → Nat) : Prop := ∀ (a b c d : Int) (h : za) (Q : AVal → za → Prop), Q (wb (meet ⟨a, b⟩ ⟨c, d⟩)) h → C (N 1) [.agg [.int .i64 a, .int .i64 b], .agg [.int .i64 c, .int .i64 d]] h Q
theorem zd4.spec (i : zd4.Imp C N) (s1 : zdc.Spec C N) (s2 : zdd.Spec C N) : zd4.Spec C N := by
 intro a b c d h Q hq
 apply i
 simp +contextual -dsimp
 refine s1 _ _ _ _ ?_
 simp +contextual -dsimp
 refine B.zjm (fun _ _ hq => s1 _ _ _ _ hq) ?_
 simp +contextual -dsimp
 refine B.zk (fun hb => ?_) (fun hb => ?_) <;> simp at hb ⊢
 ·rw [show meet ⟨a, b⟩ ⟨c, d⟩ = (.zero, false) by simp [meet, Bool.and_eq_true]; intro h1 h2; rcases hb with hb | hb <;> simp_all] at hq
  exact zba hq
 ·refine s2 _ _ _ _ ?_
  simp
  rw [show meet ⟨a, b⟩ ⟨c, d⟩ = within (max a c) (min b d) by simp [meet, hb]] at hq
  exact zba hq
end Go.Ab
namespace Go.Ab
@[simp] def tell_Get.k1 (C : CSem) (N : Nat → Nat) (Q : AVal → za → Prop) (v2 v5 c6 : AVal) (h : za) : Prop :=
 B.nilCheck v5 fun v41 =>
  B.pv (V.fieldAddr 2 v41) fun v42 =>
  B.ld h v42 fun v43 =>
  B.gd h v43 false (fun K => B.pv (V.zen 0 7 c6) fun v => K v h) fun v45 h =>
  B.gd h v43 false (fun K => B.call C (N 29) [v45] h K) fun v46 h =>
  B.gd h v43 false (fun K => B.pv (V.un .not v46) fun v => K v h) fun v47 h =>
  B.pick v43 (.bool true) v47 fun v48 =>
  B.cond v48
  (B.pv (A.bld [] [.int .i64 0, .int .i64 0, .int .i64 0, .str [], .int .u8 0, .nils, .nils]) fun v49 =>
  B.stn h v2 7 v49 fun h =>
  B.pv (oneOf (zfe (A.ldnv h v2 7) (zfe (some (.int .i64 0)) (zfe (some (.int .i64 4)) (some []))))) fun v => Q v h)
  (B.pv (V.zen 0 7 c6) fun v50 =>
  B.nilCheck v5 fun v52 =>
  B.pv (V.fieldAddr 1 v52) fun v53 =>
  B.ld h v53 fun v54 =>
  (fun K => B.stn h v2 7 v50 fun h => K .undef h) (B.zso h [(v53, none)] (fun _ h => B.pv (oneOf (zfe (A.ldnv h v2 7) (zfe (some v54) (zfe (some (.int .i64 0)) (some []))))) fun v => Q v h)))
end Go.Ab
namespace Go.Ab
@[simp] def ref14_Put.k1 (C : CSem) (N : Nat → Nat) (Q : AVal → za → Prop) (Y1 : List AVal → za → Prop) (v4 v8 c1 : AVal) (h : za) : Prop :=
 B.al c1 (B.pv (V.zbu 6 c1) fun v99 =>
  B.pv (V.zcj v99) fun v100 =>
  B.pv (V.bin .lss v8 v100) fun v101 =>
  B.cond v101
  (B.al c1 (B.pv (V.zbu 6 c1) fun v106 =>
  B.pv (V.idxS 3 v106 v8) fun v108 =>
  B.pv (V.fieldAddr 0 v108) fun v109 =>
  B.ld h v109 fun v110 =>
  B.call C (N 58) [v110, (.int .i64 8)] h fun v111 h =>
  B.appW h 1 1 v4 v111 fun v112 h =>
  B.al c1 (B.pv (V.zbu 6 c1) fun v115 =>
  B.pv (V.idxS 3 v115 v8) fun v117 =>
  B.pv (V.fieldAddr 1 v117) fun v118 =>
  B.ld h v118 fun v119 =>
  B.call C (N 58) [v119, (.int .i64 8)] h fun v120 h =>
  B.appW h 1 1 v112 v120 fun v121 h =>
  B.al c1 (B.pv (V.zbu 6 c1) fun v124 =>
  B.pv (V.idxS 3 v124 v8) fun v126 =>
  B.pv (V.fieldAddr 2 v126) fun v127 =>
  B.ld h v127 fun v128 =>
  B.call C (N 58) [v128, (.int .i64 8)] h fun v129 h =>
  B.appW h 1 1 v121 v129 fun v130 h =>
  B.pv (V.bin .add v8 (.int .i64 1)) fun v103 =>
  Y1 [v130, v103] h))))
  (Q (.tup [v4, (.int .i64 0)]) h))
@[simp] def ref14_Put.l2 (C : CSem) (N : Nat → Nat) (Q : AVal → za → Prop) (c1 : AVal) : List AVal → za → (List AVal → za → Prop) → Prop
 | [v4, v8], h, Y1 => ref14_Put.k1 C N Q Y1 v4 v8 c1 h
 | _, _, _ => False
@[simp] def zfb.k1 (C : CSem) (N : Nat → Nat) (Q : AVal → za → Prop) (v2 v5 c6 : AVal) (h : za) : Prop :=
 B.nilCheck v5 fun v82 =>
  B.pv (V.fieldAddr 2 v82) fun v83 =>
  B.ld h v83 fun v84 =>
  B.gd h v84 false (fun K => B.pv (V.zen 0 7 c6) fun v => K v h) fun v86 h =>
  B.gd h v84 false (fun K => B.call C (N 33) [v86] h K) fun v87 h =>
  B.gd h v84 false (fun K => B.pv (V.un .not v87) fun v => K v h) fun v88 h =>
  B.pick v84 (.bool true) v88 fun v89 =>
  B.cond v89
  (B.pv (A.bld [] [.int .i64 0, .int .i64 0, .int .i64 0, .str [], .int .u8 0, .nils, .nils]) fun v90 =>
  B.stn h v2 7 v90 fun h =>
  B.pv (oneOf (zfe (A.ldnv h v2 7) (zfe (some (.int .i64 0)) (zfe (some (.int .i64 4)) (some []))))) fun v => Q v h)
  (B.pv (V.zen 0 7 c6) fun v91 =>
  B.nilCheck v5 fun v93 =>
  B.pv (V.fieldAddr 1 v93) fun v94 =>
  B.ld h v94 fun v95 =>
  (fun K => B.stn h v2 7 v91 fun h => K .undef h) (B.zso h [(v94, none)] (fun _ h => B.pv (oneOf (zfe (A.ldnv h v2 7) (zfe (some v95) (zfe (some (.int .i64 0)) (some []))))) fun v => Q v h)))
@[simp] def zfb.k2 (C : CSem) (N : Nat → Nat) (Q : AVal → za → Prop) (Y1 : List AVal → za → Prop) (v2 v5 v8 c6 : AVal) (h : za) : Prop :=
 B.pv (V.bin .gtr v8 (.int .i64 0)) fun v56 =>
  B.gd h v56 true (fun K => K v5 h) fun v58 h =>
  B.gd h v56 true (fun K => B.nilCheck v58 fun v => K v h) fun v59 h =>
  B.gd h v56 true (fun K => B.pv (V.fieldAddr 2 v59) fun v => K v h) fun v60 h =>
  B.gd h v56 true (fun K => B.ld h v60 fun v => K v h) fun v61 h =>
  B.gd h v56 true (fun K => B.pv (V.un .not v61) fun v => K v h) fun v62 h =>
  B.pick v56 v62 (.bool false) fun v63 =>
  B.cond v63
  (B.call C (N 71) [v5, (.int .i64 8)] h fun v67 h =>
  B.pv (A.bld [(0, none, v67)] [.int .i64 0, .int .i64 0, .int .i64 0]) fun v68 =>
  B.pv (V.setN 0 3 v68 (.agg [.int .i64 0, .int .i64 0, .int .i64 0])) fun c9 =>
  B.call C (N 71) [v5, (.int .i64 8)] h fun v70 h =>
  B.al c9 (B.pv (V.setF 1 v70 c9) fun c9 =>
  B.call C (N 71) [v5, (.int .i64 8)] h fun v73 h =>
  B.al c9 (B.pv (V.setF 2 v73 c9) fun c9 =>
  B.al c6 (B.pv (V.zbu 6 c6) fun v76 =>
  B.pv (V.zen 0 3 c9) fun v77 =>
  B.newO h (zfu [(0, some 3, v77)] (repL 1 [.int .i64 0, .int .i64 0, .int .i64 0])) fun i78 h =>
  B.appW h 3 24 v76 (.sl i78 0 0 1 3 1) fun v79 h =>
  B.al c6 (B.pv (V.setF 6 v79 c6) fun c6 =>
  B.pv (V.bin .sub v8 (.int .i64 1)) fun v65 =>
  Y1 [v65, c6] h)))))
  (zfb.k1 C N Q v2 v5 c6 h)
@[simp] def zfb.l3 (C : CSem) (N : Nat → Nat) (Q : AVal → za → Prop) (v2 v5 : AVal) : List AVal → za → (List AVal → za → Prop) → Prop
 | [v8, c6], h, Y1 => zfb.k2 C N Q Y1 v2 v5 v8 c6 h
 | _, _, _ => False
@[simp] def zfb.k4 (C : CSem) (N : Nat → Nat) (Q : AVal → za → Prop) (Y2 : List AVal → za → Prop) (v2 v5 v7 c6 : AVal) (h : za) : Prop :=
 B.pv (V.bin .gtr v7 (.int .i64 0)) fun v36 =>
  B.gd h v36 true (fun K => K v5 h) fun v38 h =>
  B.gd h v36 true (fun K => B.nilCheck v38 fun v => K v h) fun v39 h =>
  B.gd h v36 true (fun K => B.pv (V.fieldAddr 2 v39) fun v => K v h) fun v40 h =>
  B.gd h v36 true (fun K => B.ld h v40 fun v => K v h) fun v41 h =>
  B.gd h v36 true (fun K => B.pv (V.un .not v41) fun v => K v h) fun v42 h =>
  B.pick v36 v42 (.bool false) fun v43 =>
  B.cond v43
  (B.al c6 (B.pv (V.zbu 5 c6) fun v47 =>
  B.call C (N 72) [v5] h fun v49 h =>
  B.newO h (zfu [(0, some 6, v49)] (repL 1 [.int .i64 0, .str [], .int .i64 0, .int .i64 0, .int .i64 0, .bool false])) fun i50 h =>
  B.appW h 6 56 v47 (.sl i50 0 0 1 6 1) fun v51 h =>
  B.al c6 (B.pv (V.setF 5 v51 c6) fun c6 =>
  B.pv (V.bin .sub v7 (.int .i64 1)) fun v45 =>
  Y2 [v45, c6] h)))
  (B.call C (N 71) [v5, (.int .i64 2)] h fun v54 h =>
  zm (zfb.l3 C N Q v2 v5) [v54, c6] h)
@[simp] def zfb.l5 (C : CSem) (N : Nat → Nat) (Q : AVal → za → Prop) (v2 v5 : AVal) : List AVal → za → (List AVal → za → Prop) → Prop
 | [v7, c6], h, Y2 => zfb.k4 C N Q Y2 v2 v5 v7 c6 h
 | _, _, _ => False
end Go.Ab
namespace Go.Ab
variable {C : CSem} {N : Nat → Nat}
def ze7 (l : Lot) : Bool := decide (0 < l.Id) && zeu l.Item && zbz.right ⟨l.From, l.zel⟩ && decide (l.From < l.zel) && decide (0 < l.Qty) && decide (l.Qty ≤ 1073741824)
def useRight (u : Use) : Bool := decide (0 ≤ u.Want) && decide (1 ≤ u.Lot) && decide (1 ≤ u.Qty)
def zet.Spec (C : CSem) (N : Nat → Nat) : Prop := ∀ (l : Lot) (h : za) (Q : AVal → za → Prop), Q (.bool (ze7 l)) h → C (N 52) [.agg l.cs] h Q
theorem zet.spec (i : zet.Imp C N) (s1 : zc4.Spec C N) (s2 : zdc.Spec C N) : zet.Spec C N := by
 intro l h Q hq
 apply i
 simp +contextual -dsimp
 refine B.zjm (fun _ _ hq => s1 _ _ _ hq) ?_
 simp +contextual -dsimp
 refine B.zjm (fun _ _ hq => s2 _ _ _ _ hq) ?_
 simp +contextual -dsimp
 simp only [ze7, Bool.and_assoc] at hq
 simp only [Bool.and_assoc]
 exact zba hq
def zd6.Spec (C : CSem) (N : Nat → Nat) : Prop := ∀ (l : Lot) (h : za) (Q : AVal → za → Prop), Q (.bool (ze7 l)) h → C (N 60) [.agg l.cs] h Q
theorem zd6.spec (i : zd6.Imp C N) (s1 : zc1.Spec C N) : zd6.Spec C N := by
 intro l h Q hq
 apply i
 simp +contextual -dsimp
 refine B.zjm (fun _ _ hq => s1 _ _ _ hq) ?_
 simp +contextual -dsimp
 refine zba ?_
 have : ∀ a b : Bool, a = b → Q (.bool b) h → Q (.bool a) h := fun a b e => by rw [e]; exact id
 refine this _ _ ?_ hq
 rw [Bool.eq_iff_iff]
 cases hc : zeu l.Item <;> simp [ze7, zbz.right, hc]
 omega
def be (n : Int) : Nat → List UInt8
 | 0 => []
 | k + 1 => byt (n.fdiv (2 ^ (8 * k))) :: be n k
@[simp] theorem be_len (n : Int) : ∀ k, (be n k).length = k
 | 0 => rfl
 | k + 1 => by simp [be, be_len n k]
def zi7.bare (t : zi7) : Bool := decide (t.Id = 0) && decide (t.Day = 0) && decide (t.Code = []) && decide (t.State = 0) && decide (t.Lots = []) && decide (t.Uses = [])
def zi7.head (t : zi7) : Bool := !(decide (t.Id < 0) || decide (t.Day < -1) || decide (4000 < t.Day) || !decide (t.Code = []) && !zeu t.Code || decide (3 < (t.State.toNat : Int)) || decide (300 < (t.Lots.length : Int)) || decide (2000 < (t.Uses.length : Int)))
def zi7.full (t : zi7) : Bool := t.head && t.Lots.all ze7 && t.Uses.all useRight
def zq5 (t : zi7) : Bool := decide (0 ≤ t.Err) && decide (t.Err ≤ 999) && if 0 < t.Err then t.bare else t.full
def tell_Right.Spec (C : CSem) (N : Nat → Nat) : Prop := ∀ (t : zi7) (x y : AVal) (h : za) (Q : AVal → za → Prop), TellAt h t x y → t.Lots.length ≤ 100000000 → t.Uses.length ≤ 100000000 → Q (.bool (zq5 t)) h → C (N 29) [.agg (t.cs x y)] h Q
def ref14_Right.Spec (C : CSem) (N : Nat → Nat) : Prop := ∀ (t : zi7) (x y : AVal) (h : za) (Q : AVal → za → Prop), TellAt h t x y → t.Lots.length ≤ 100000000 → t.Uses.length ≤ 100000000 → Q (.bool (zq5 t)) h → C (N 33) [.agg (t.cs x y)] h Q
end Go.Ab
namespace Go.Ab
variable {C : CSem} {N : Nat → Nat}
structure Rdr where
 at_ : Nat
 bad : Bool
def beVal (l : List UInt8) : Nat := l.foldl (fun n c => 256 * n + c.toNat) 0
def rNum (b : List UInt8) (k : Nat) (r : Rdr) : Int × Rdr := if r.bad = true ∨ b.length - r.at_ < k then (0, ⟨r.at_, true⟩) else (IntKind.i64.wrap (beVal ((b.drop r.at_).take k)), ⟨r.at_ + k, false⟩)
def rCode (b : List UInt8) (r : Rdr) : List UInt8 × Rdr := if r.bad then ([], r) else ((zpo (b.drop r.at_)).1, ⟨r.at_ + (zpo (b.drop r.at_)).2.1, !(zpo (b.drop r.at_)).2.2⟩)
theorem zjt {b : List UInt8} {k : Nat} {r : Rdr} (h : r.at_ ≤ b.length) : (rNum b k r).2.at_ ≤ b.length := by
 unfold rNum; split
 ·exact h
 ·rename_i hh; simp only [not_or] at hh; simp only; omega
theorem codeGet_le : ∀ b : List UInt8, (zpo b).2.1 ≤ b.length
 | [] => by simp [zpo]
 | c :: r => by rw [codeGet_cons]; split <;> simp; rename_i hh; simp only [not_or] at hh; omega
theorem rCode_le {b : List UInt8} {r : Rdr} (h : r.at_ ≤ b.length) : (rCode b r).2.at_ ≤ b.length := by
 unfold rCode; split
 ·exact h
 ·have := codeGet_le (b.drop r.at_); simp at this ⊢; omega
abbrev RdAt (h0 h : za) (p x : AVal) (r : Rdr) : Prop := Owns h0 h [.box p [x, .int .i64 (r.at_ : Int), .bool r.bad]]
theorem bin_shl {k j : IntKind} {a b : Int} (h0 : 0 ≤ b) (h1 : b < k.bits) : V.bin .shl (.int k a) (.int j b) = some (.int k (k.wrap (a * 2 ^ b.toNat))) := by
 simp only [V.bin, V.shift]
 rw [if_neg (by omega), Nat.min_eq_left (by omega)]
def zix.Spec (C : CSem) (N : Nat → Nat) : Prop := ∀ (h0 h : za) (p x : AVal) (b : List UInt8) (R : List (List AVal)) (r : Rdr) (k : Nat) (Q : AVal → za → Prop), SlX h0 1 x (b.map bc) R → b.length < 4611686018427387904 → r.at_ ≤ b.length → k ≤ 8 → RdAt h0 h p x r →
 (∀ h', RdAt h0 h' p x (rNum b k r).2 → Q (.int .i64 (rNum b k r).1) h') → C (N 71) [p, .int .i64 (k : Int)] h Q
def rLot (b : List UInt8) (r : Rdr) : Lot × Rdr :=
 let a := rNum b 8 r
 let c := rCode b a.2
 let f := rNum b 2 c.2
 let u := rNum b 2 f.2
 let q := rNum b 8 u.2
 let e := rNum b 1 q.2
 (⟨a.1, c.1, f.1, u.1, q.1, decide (e.1 = 1)⟩, ⟨e.2.at_, e.2.bad || decide (1 < e.1)⟩)
theorem rLot_le {b : List UInt8} {r : Rdr} (h : r.at_ ≤ b.length) : (rLot b r).2.at_ ≤ b.length :=
 zjt (zjt (zjt (zjt (rCode_le (zjt h)))))
def rUse (b : List UInt8) (r : Rdr) : Use × Rdr :=
 let a := rNum b 8 r
 let c := rNum b 8 a.2
 let f := rNum b 8 c.2
 (⟨a.1, c.1, f.1⟩, f.2)
theorem rUse_le {b : List UInt8} {r : Rdr} (h : r.at_ ≤ b.length) : (rUse b r).2.at_ ≤ b.length := zjt (zjt (zjt h))
def ref14_lot.Spec (C : CSem) (N : Nat → Nat) : Prop := ∀ (h0 h : za) (p x : AVal) (b : List UInt8) (R : List (List AVal)) (r : Rdr) (Q : AVal → za → Prop), SlX h0 1 x (b.map bc) R → b.length < 4611686018427387904 → r.at_ ≤ b.length → RdAt h0 h p x r →
 (∀ h', RdAt h0 h' p x (rLot b r).2 → Q (.agg (rLot b r).1.cs) h') → C (N 72) [p] h Q
end Go.Ab
namespace Go.Ab
variable {C : CSem} {N : Nat → Nat}
theorem V.bin_xor (k : IntKind) (a b : Int) : V.bin .xor (.int k a) (.int k b) = some (.int k (k.wrap (BitVec.ofInt k.bits a ^^^ BitVec.ofInt k.bits b).toNat)) := by simp [V.bin, V.arith]
theorem V.bin_and (k : IntKind) (a b : Int) : V.bin .and (.int k a) (.int k b) = some (.int k (k.wrap (BitVec.ofInt k.bits a &&& BitVec.ofInt k.bits b).toNat)) := by simp [V.bin, V.arith]
theorem wrapU {n : Nat} (h : n < 18446744073709551616) : IntKind.u64.wrap (n : Int) = n := by rw [wrap_u64]; omega
theorem toUN {n : Nat} (h : n < 18446744073709551616) : V.toInt .u64 (.int .i64 (n : Int)) = some (.int .u64 (n : Int)) := by rw [V.toInt_int, wrapU h]
theorem toIN {k : IntKind} {n : Nat} (h : n < 4611686018427387904) : V.toInt .i64 (.int k (n : Int)) = some (.int .i64 (n : Int)) := by rw [V.toInt_int, wrap_i64 (by omega) (by omega)]
theorem and_le {z : Int} {m : Nat} (h : m < 4611686018427387904) : ∃ o : Nat, o ≤ m ∧ V.bin .and (.int .u64 z) (.int .u64 (m : Int)) = some (.int .u64 (o : Int)) := by
 refine ⟨(BitVec.ofInt 64 z &&& BitVec.ofInt 64 (m : Int)).toNat, ?_, ?_⟩
 ·rw [BitVec.toNat_and]
  refine Nat.le_trans Nat.and_le_right ?_
  rw [BitVec.toNat_ofInt]; omega
 ·rw [V.bin_and]
  show some (AVal.int .u64 (IntKind.u64.wrap ((BitVec.ofInt 64 z &&& BitVec.ofInt 64 (m : Int)).toNat : Int))) = _
  rw [wrapU (BitVec.isLt _)]
def lenT : List UInt8 := [0, 1, 2, 2, 3, 3, 3, 3, 4, 4, 4, 4, 4, 4, 4, 4, 5, 5, 5, 5, 5, 5, 5, 5, 5, 5, 5, 5, 5, 5, 5, 5, 6, 6, 6, 6, 6, 6, 6, 6, 6, 6, 6, 6, 6, 6, 6, 6, 6, 6, 6, 6, 6, 6, 6, 6, 6, 6, 6, 6, 6, 6, 6, 6, 7, 7, 7, 7, 7, 7, 7, 7, 7, 7, 7, 7, 7, 7, 7, 7, 7, 7, 7, 7, 7, 7, 7, 7, 7, 7, 7, 7, 7, 7, 7, 7, 7, 7, 7, 7, 7, 7, 7, 7, 7, 7, 7, 7, 7, 7, 7, 7, 7, 7, 7, 7, 7, 7, 7, 7, 7, 7, 7, 7, 7, 7, 7, 7, 8, 8, 8, 8, 8, 8, 8, 8, 8, 8, 8, 8, 8, 8, 8, 8, 8, 8, 8, 8, 8, 8, 8, 8, 8, 8, 8, 8, 8, 8, 8, 8, 8, 8, 8, 8, 8, 8, 8, 8, 8, 8, 8, 8, 8, 8, 8, 8, 8, 8, 8, 8, 8, 8, 8, 8, 8, 8, 8, 8, 8, 8, 8, 8, 8, 8, 8, 8, 8, 8, 8, 8, 8, 8, 8, 8, 8, 8, 8, 8, 8, 8, 8, 8, 8, 8, 8, 8, 8, 8, 8, 8, 8, 8, 8, 8, 8, 8, 8, 8, 8, 8, 8, 8, 8, 8, 8, 8, 8, 8, 8, 8, 8, 8, 8, 8, 8, 8, 8, 8, 8, 8, 8, 8, 8, 8, 8, 8]
theorem idxStr_u8 {s : List UInt8} {k : Nat} {b : UInt8} (hb : s[k]? = some b) : V.zij (.str s) (.int .u8 (k : Int)) = some (.int .u8 b.toNat) := by
 simp [V.zij, hb]
theorem lenT_all : ∀ k : Fin 256, ∃ b : Fin 9, lenT[k.val]? = some (UInt8.ofNat b.val) ∧ (0 < k.val → 2 ^ b.val ≤ 2 * k.val) := by decide +kernel
theorem lenTab {k : Nat} (h : k < 256) : ∃ b : Nat, V.zij (.str lenT) (.int .u8 (k : Int)) = some (.int .u8 (b : Int)) ∧ b ≤ 8 ∧ (0 < k → 2 ^ b ≤ 2 * k) := by
 obtain ⟨b, e, hb⟩ := lenT_all ⟨k, h⟩
 have hb9 := b.isLt
 refine ⟨b.val, ?_, by omega, hb⟩
 rw [idxStr_u8 e]
 congr 2
 rw [UInt8.toNat_ofNat', Nat.mod_eq_of_lt (by omega)]
theorem Len64_k1 {Q : AVal → za → Prop} {v0 v2 : AVal} {h : za} : zbe.k1 C N Q v0 v2 h = (B.pv (V.toInt .u8 v0) fun v21 =>
  B.pv (V.zij (.str lenT) v21) fun v22 =>
  B.pv (V.toInt .i64 v22) fun v23 =>
  B.pv (V.bin .add v2 v23) fun v24 =>
  Q v24 h) := rfl
theorem Len64_spec {x : Nat} (hx : x ≤ 100000000) {h : za} {Q : AVal → za → Prop} (hq : ∀ r : Nat, r ≤ 32 → (0 < x → 2 ^ r ≤ 2 * x) → Q (.int .i64 (r : Int)) h) : zbe.cps C N (.int .u64 (x : Int)) h Q := by
 have fin : ∀ (y s : Nat), y < 256 → s ≤ 24 → (0 < x → 0 < y) → 2 ^ s * y ≤ x → zbe.k1 C N Q (.int .u64 (y : Int)) (.int .i64 (s : Int)) h := fun y s hy hs h0 hle => by
  obtain ⟨b, e, hb, hp⟩ := lenTab hy
  have e1 : V.toInt .u8 (.int .u64 (y : Int)) = some (.int .u8 (y : Int)) := by rw [V.toInt_int, wrap_u8]; congr 2; omega
  rw [Len64_k1]
  simp -dsimp only [e1, B.ze, e, toIN (show b < 4611686018427387904 by omega), zse (show s + b < 4611686018427387904 by omega)]
  refine hq (s + b) (by omega) fun hx0 => ?_
  have h1 := hp (h0 hx0)
  have h2 : 2 ^ s * 2 ^ b ≤ 2 ^ s * (2 * y) := Nat.mul_le_mul_left _ h1
  rw [Nat.pow_add]
  have h3 : 2 ^ s * (2 * y) = 2 * (2 ^ s * y) := by rw [Nat.mul_left_comm]
  omega
 have sh : ∀ (y j : Nat), j < 64 → V.bin .shr (.int .u64 (y : Int)) (.int .u64 (j : Int)) = some (.int .u64 ((y / 2 ^ j : Nat) : Int)) := fun y j hj => by
  rw [bin_shr (by omega) (by simp [IntKind.bits]; omega), Int.toNat_natCast]
  congr 2
  rw [Int.fdiv_eq_ediv_of_nonneg _ (by exact_mod_cast Nat.zero_le (2 ^ j))]
  simp
 have g3 : V.bin .geq (.int .u64 (x : Int)) (.int .u64 4294967296) = some (.bool false) := by rw [V.znu]; simp; omega
 have gk : ∀ y m : Nat, V.bin .geq (.int .u64 (y : Int)) (.int .u64 (m : Int)) = some (.bool (decide (m ≤ y))) := fun y m => by rw [V.znu]; congr 3; exact propext (by omega)
 have low : ∀ (y s : Nat), y < 65536 → s ≤ 16 → (0 < x → 0 < y) → 2 ^ s * y ≤ x → zbe.k2 C N Q (.int .u64 (y : Int)) (.int .i64 (s : Int)) h := fun y s hy hs h0 hle => by
  have g1 : V.bin .geq (.int .u64 (y : Int)) (.int .u64 256) = some (.bool (decide (256 ≤ y))) := gk y 256
  have s1 : V.bin .shr (.int .u64 (y : Int)) (.int .u64 8) = some (.int .u64 ((y / 2 ^ 8 : Nat) : Int)) := sh y 8 (by omega)
  have a1 : V.bin .add (.int .i64 (s : Int)) (.int .i64 8) = some (.int .i64 ((s + 8 : Nat) : Int)) := zse (a := s) (b := 8) (by omega)
  simp -dsimp only [zbe.k2, g1, B.ze]
  refine B.zk (fun hd => ?_) (fun hd => ?_)
  ·rw [decide_eq_true_eq] at hd
   simp -dsimp only [s1, a1, B.ze]
   refine fin (y / 2 ^ 8) (s + 8) (by omega) (by omega) (fun _ => by omega) ?_
   rw [Nat.pow_add, Nat.mul_assoc]
   refine Nat.le_trans (Nat.mul_le_mul_left _ ?_) hle
   omega
  ·rw [decide_eq_false_iff_not] at hd
   exact fin y s (by omega) (by omega) h0 hle
 have g2 : V.bin .geq (.int .u64 (x : Int)) (.int .u64 65536) = some (.bool (decide (65536 ≤ x))) := gk x 65536
 have s2 : V.bin .shr (.int .u64 (x : Int)) (.int .u64 16) = some (.int .u64 ((x / 2 ^ 16 : Nat) : Int)) := sh x 16 (by omega)
 simp -dsimp only [zbe.cps, zbe.k4, zbe.k3, g3, g2, s2, B.ze, B.cond_false]
 refine B.zk (fun hd => ?_) (fun hd => ?_)
 ·rw [decide_eq_true_eq] at hd
  simp -dsimp only [s2, show V.bin .add (.int .i64 0) (.int .i64 16) = some (.int .i64 ((16 : Nat) : Int)) from rfl, B.ze]
  exact low (x / 2 ^ 16) 16 (by omega) (by omega) (fun _ => by omega) (by omega)
 ·rw [decide_eq_false_iff_not] at hd
  exact low x 0 (by omega) (by omega) id (by simp)
theorem Len_spec (i : zbe.Imp C N) {x : Nat} (hx : x ≤ 100000000) {h : za} {Q : AVal → za → Prop} (hq : ∀ r : Nat, r ≤ 32 → (0 < x → 2 ^ r ≤ 2 * x) → Q (.int .i64 (r : Int)) h) : zdi.cps C N (.int .u64 (x : Int)) h Q := by
 simp -dsimp only [zdi.cps, zdi.k1, B.cond_false]
 exact i _ _ _ (Len64_spec hx fun r h1 h2 => zba (hq r h1 h2))
def LenI (C : CSem) (f : Nat) : Prop := ∀ (x : Nat) (h : za) (Q : AVal → za → Prop), x ≤ 100000000 → (∀ r : Nat, r ≤ 32 → (0 < x → 2 ^ r ≤ 2 * x) → Q (.int .i64 (r : Int)) h) → C f [.int .u64 (x : Int)] h Q
theorem zdi.spec (i : zdi.Imp C N) (i2 : zbe.Imp C N) : LenI C (N 287) := fun x h Q hx hq => i _ _ _ (Len_spec i2 hx fun r h1 h2 => zba (hq r h1 h2))
def PowI (C : CSem) (f : Nat) : Prop := ∀ (n : Nat) (h : za) (Q : AVal → za → Prop), 0 < n → n ≤ 100000000 → (∀ m : Nat, 0 < m → m ≤ 2 * n → Q (.int .u64 (m : Int)) h) → C f [.int .i64 (n : Int)] h Q
theorem zce.spec (i : zce.Imp C N) (hl : LenI C (N 287)) : PowI C (N 299) := fun n h Q h0 hn hq => by
 apply i
 simp -dsimp only [zce.cps, toUN (show n < 18446744073709551616 by omega), B.ze]
 refine hl n h _ hn fun r hr hp => ?_
 have e : V.bin .shl (.int .u64 1) (.int .i64 (r : Int)) = some (.int .u64 ((2 ^ r : Nat) : Int)) := by
  rw [bin_shl (by omega) (by simp [IntKind.bits]; omega), Int.toNat_natCast]
  have : (1 : Int) * 2 ^ r = ((2 ^ r : Nat) : Int) := by simp
  rw [this, wrapU]
  have := hp h0
  omega
 simp -dsimp only [e, B.ze]
 exact zba (hq (2 ^ r) (Nat.pos_of_ne_zero (by simp)) (hp h0))
def NextI (C : CSem) (f : Nat) : Prop := ∀ (h0 h : za) (p : AVal) (n : Int) (Q : AVal → za → Prop), Owns h0 h [.box p [.int .u64 n]] → (∀ m m' h', Owns h0 h' [.box p [.int .u64 m']] → Q (.int .u64 m) h') → C f [p] h Q
theorem zb3.spec (i : zb3.Imp C N) : NextI C (N 298) := fun h0 h p n Q ho hq => by
 have key : ∀ {h : za} {n : Int}, Owns h0 h [.box p [.int .u64 n]] → ∃ id, p = .ptr id 0 0 ∧ A.ldv h (.ptr id 0 0) = some (.int .u64 n) := fun {h n} ho => by
  obtain ⟨id, rfl, hb⟩ := ho.zhu 0 rfl
  exact ⟨id, rfl, by rw [zfs hb]; rfl⟩
 apply i
 obtain ⟨id, rfl, ld⟩ := key ho
 simp -dsimp only [zb3.cps, zb3.k1, B.zh6, B.zic, ld, B.ze, bin_shl (k := .u64) (j := .u64) (b := 13) (by omega) (by simp [IntKind.bits]), V.bin_xor]
 refine ho.znt 0 (off := 0) rfl rfl (by simp) fun h1 o1 _ => ?_
 simp only [List.set_cons_zero] at o1
 obtain ⟨id1, e, ld1⟩ := key o1
 cases e
 simp -dsimp only [B.zh6, B.zic, ld1, B.ze, bin_shr (k := .u64) (j := .u64) (b := 7) (by omega) (by simp [IntKind.bits]), V.bin_xor]
 refine o1.znt 0 (off := 0) rfl rfl (by simp) fun h2 o2 _ => ?_
 simp only [List.set_cons_zero] at o2
 obtain ⟨id2, e, ld2⟩ := key o2
 cases e
 simp -dsimp only [B.zh6, B.zic, ld2, B.ze, bin_shl (k := .u64) (j := .u64) (b := 17) (by omega) (by simp [IntKind.bits]), V.bin_xor]
 refine o2.znt 0 (off := 0) rfl rfl (by simp) fun h3 o3 _ => ?_
 simp only [List.set_cons_zero] at o3
 obtain ⟨id3, e, ld3⟩ := key o3
 cases e
 simp -dsimp only [B.zh6, B.zic, ld3, B.ze]
 exact zba (hq _ _ _ o3)
section
variable {E : zx} {X : Type} {cs : X → List AVal} {v : X → AVal} {h0 h : za} {x f : AVal} {G : List X} {R : List (List AVal)} {Q : AVal → za → Prop} {a b : Nat}
end
end Go.Ab
namespace Go.Ab
variable {C : CSem}
section
variable {X : Type} {c : X → X → Int} {a b m A0 Z0 : Nat} {G G' : List X}
theorem le_of (W : Weak (zch c)) {x y z : X} (h1 : ¬ c x y < 0) (h2 : ¬ c y z < 0) : ¬ c x z < 0 := by
 have := W.zmm (a := x) (b := y) (c := z) (by unfold zch; exact decide_eq_false h1) (by unfold zch; exact decide_eq_false h2)
 unfold zch at this; exact of_decide_eq_false this
theorem nlt_of (W : Weak (zch c)) {x y : X} (h : c x y < 0) : ¬ c y x < 0 := by
 have := W.asym (a := x) (b := y) (by unfold zch; exact decide_eq_true h)
 unfold zch at this; exact of_decide_eq_false this
theorem le_self (W : Weak (zch c)) (x : X) : ¬ c x x < 0 := by
 have := W.irr x; unfold zch at this; exact of_decide_eq_false this
theorem zjo.pair (W : Weak (zch c)) (x : zjo c a b m G) {p q : Nat} (h1 : a ≤ p) (h2 : p < q) (h3 : q < b) (h4 : p ≤ m) (h5 : m ≤ q) (hp : p < G.length) (hq : q < G.length) : ¬ c G[q] G[p] < 0 := by
 have hm : m < G.length := by omega
 have e1 : p < m → ¬ c G[m] G[p] < 0 := fun k => nlt_of W (x.lo p hp hm h1 k)
 have e2 : m < q → ¬ c G[q] G[m] < 0 := fun k => x.hi q hq hm k h3
 by_cases k1 : p = m
 ·subst k1; exact e2 (by omega)
 ·by_cases k2 : q = m
  ·subst k2; exact e1 (by omega)
  ·exact le_of W (e2 (by omega)) (e1 (by omega))
theorem zjo.left (W : Weak (zch c)) (x : zjo c a b m G) (w : zc8 a m G G') : zjo c a b m G' := by
 have hl := w.len
 refine ⟨x.ge, x.lt, by have := x.hb; omega, fun k h hm h1 h2 => ?_, fun k h hm h1 h2 => ?_⟩
 ·obtain ⟨k', k1, k2, k3, e⟩ := w.mem h1 h2 h
  rw [e, w.same (k := m) (.inr (by omega)) hm (by omega)]
  exact x.lo k' k3 _ k1 k2
 ·rw [w.same (k := m) (.inr (by omega)) hm (by omega), w.same (k := k) (.inr (by omega)) h (by omega)]
  exact x.hi k _ _ h1 h2
theorem zjo.right (W : Weak (zch c)) (x : zjo c a b m G) (w : zc8 (m + 1) b G G') : zjo c a b m G' := by
 have hl := w.len
 refine ⟨x.ge, x.lt, by have := x.hb; omega, fun k h hm h1 h2 => ?_, fun k h hm h1 h2 => ?_⟩
 ·rw [w.same (k := m) (.inl (by omega)) hm (by omega), w.same (k := k) (.inl (by omega)) h (by omega)]
  exact x.lo k _ _ h1 h2
 ·obtain ⟨k', k1, k2, k3, e⟩ := w.mem (k := k) (by omega) h2 h
  rw [e, w.same (k := m) (.inl (by omega)) hm (by omega)]
  exact x.hi k' k3 _ (by omega) k2
theorem Cut.left (W : Weak (zch c)) (x : Cut c A0 Z0 a b G) (p : zjo c a b m G) (s : Srt c a m G) : Cut c A0 Z0 (m + 1) b G := fun i j h1 h2 h3 h4 h5 h6 => by
 by_cases k : i < a ∨ b ≤ j
 ·exact x i j h1 h2 h3 k h5 h6
 ·by_cases k2 : j < m
  ·exact s i j (by omega) h2 k2 h5 h6
  ·exact p.pair W (by omega) h2 (by omega) (by omega) (by omega) h5 h6
theorem Cut.right (W : Weak (zch c)) (x : Cut c A0 Z0 a b G) (p : zjo c a b m G) (s : Srt c (m + 1) b G) : Cut c A0 Z0 a m G := fun i j h1 h2 h3 h4 h5 h6 => by
 by_cases k : i < a ∨ b ≤ j
 ·exact x i j h1 h2 h3 k h5 h6
 ·by_cases k2 : m < i
  ·exact s i j (by omega) h2 (by omega) h5 h6
  ·exact p.pair W (by omega) h2 (by omega) (by omega) (by omega) h5 h6
theorem Cut.pre (x : Cut c A0 Z0 a b G) (h : A0 < a) (hb : b ≤ Z0) : Pre c a b G := fun h0 i h1 h2 h3 h4 => x (a - 1) i (by omega) (by omega) (by omega) (.inl (by omega)) h4 h3
theorem Pre.sub (x : Pre c a b G) (h : m ≤ b) : Pre c a m G := fun h0 i h1 h2 h3 h4 => x h0 i h1 (by omega) h3 h4
theorem Cut.equal (W : Weak (zch c)) {i j : Nat} (x : Cut c A0 Z0 a b G) (p : EInv c a b G i j) (hji : j < i) (ha : 0 < a) (hp : Pre c a b G) (hlt : a < b) (hd : ∀ (h1 : a - 1 < G.length) (h2 : a < G.length), ¬ c G[a - 1] G[a] < 0) : Cut c A0 Z0 i b G := fun s t h1 h2 h3 h4 h5 h6 => by
 have e := p.hij
 have e3 := p.hi
 by_cases k : s < a ∨ b ≤ t
 ·exact x s t h1 h2 h3 k h5 h6
 ·have la : a < G.length := by omega
  have sp : ¬ c G[a] G[s] < 0 := by
   by_cases k3 : s = a
   ·subst k3; exact le_self W _
   ·exact p.lo s h5 la (by omega) (by omega)
  by_cases k2 : t < i
  ·have t1 := hp ha t (by omega) (by omega) h6 (by omega)
   exact le_of W (le_of W t1 (hd (by omega) la)) sp
  ·exact le_of W (nlt_of W (p.hi2 t h6 la (by omega) (by omega))) sp
end
abbrev I5 (F : AVal → AVal → AVal → AVal → AVal → za → (AVal → za → Prop) → Prop) (C : CSem) (n : Nat) : Prop := ∀ (v0 v1 v2 v3 v4 : AVal) (h : za) (Q : AVal → za → Prop), F v0 v1 v2 v3 v4 h (dn Q) → C n [v0, v1, v2, v3, v4] h Q
abbrev I4 (F : AVal → AVal → AVal → AVal → za → (AVal → za → Prop) → Prop) (C : CSem) (n : Nat) : Prop := ∀ (v0 v1 v2 v3 : AVal) (h : za) (Q : AVal → za → Prop), F v0 v1 v2 v3 h (dn Q) → C n [v0, v1, v2, v3] h Q
section
variable {E : zx} {X : Type} {cs : X → List AVal} {v : X → AVal} {h0 h : za} {x f : AVal} {G : List X} {R : List (List AVal)} {c : X → X → Int} {Q : AVal → za → Prop} {Y : List AVal → za → Prop} {f1 f2 f3 f4 f5 f6 f7 f8 f9 g1 g2 g3 g4 g5 g6 : Nat}
structure PS (E : zx) {X : Type} (cs : X → List AVal) (h0 : za) (x : AVal) (R : List (List AVal)) (c : X → X → Int) (A0 Z0 : Nat) (G0 : List X) (a b : Nat) (G : List X) (h : za) : Prop where
 hA : A0 ≤ a
 hab : a ≤ b
 hB : b ≤ Z0
 W : zc8 A0 Z0 G0 G
 cut : Cut c A0 Z0 a b G
 pre : Pre c a b G
 o : Rw E cs h0 h x G R
theorem PS.turn {A0 Z0 a b : Nat} {G0 G' : List X} {h' : za} (p : PS E cs h0 x R c A0 Z0 G0 a b G h) (w : zc8 a b G G') (o : Rw E cs h0 h' x G' R) : PS E cs h0 x R c A0 Z0 G0 a b G' h' :=
 ⟨p.hA, p.hab, p.hB, p.W.trans (w.mono p.hA p.hB), p.cut.within w p.hA p.hB, p.pre.within w, o⟩
abbrev Go1 (E : zx) {X : Type} (cs : X → List AVal) (h0 : za) (x : AVal) (R : List (List AVal)) (c : X → X → Int) (A0 Z0 : Nat) (G0 : List X) (n : Nat) (Y : List AVal → za → Prop) : Prop :=
 ∀ a b (lim : Int) w1 w2 G h, b - a < n → PS E cs h0 x R c A0 Z0 G0 a b G h → Y [.int .i64 (a : Int), .int .i64 (b : Int), .int .i64 lim, .bool w1, .bool w2] h
end
end Go.Ab
namespace Go.Ab.Ord
open Go.Ab
structure zed (C : CSem) {X : Type} (v : X → AVal) (c : X → X → Int) (fL : Nat) (h0 : za) : Prop where
 call : ∀ (h : za) (a b : X) (K : AVal → za → Prop), h0.le h → K (.bool (decide (c a b < 0))) h → B.call C fL [v a, v b] h K
variable {C C0 : CSem} {fL : Nat}
variable {C C0 : CSem} {fL : Nat} {N : Nat → Nat}
section
variable {E : zx} {X : Type} {cs : X → List AVal} {v : X → AVal} {h0 h : za} {x : AVal} {G : List X} {R : List (List AVal)}
end
section
variable {E : zx} {T : Type} {cs : T → List AVal} {v : T → AVal} {c : T → T → Int} {h0 h : za} {x f : AVal} {R : List (List AVal)} {Q : AVal → za → Prop}
theorem zf9 (S : zc6 E cs v) (W : Weak (zch c)) {P M U : List (T × Nat)} (hlen : (P ++ (M ++ U)).length ≤ 100000000) (ht : M.Pairwise fun a b => a.2 < b.2)
  (hc : zed C0 v c fL h0) {a b : Nat} (ha : a = P.length) (hb : b = P.length + M.length) (ho : Rw E (fun p : T × Nat => cs p.1) h0 h x (P ++ (M ++ U)) R)
  (hq : ∀ h' M', M'.Perm M → M'.Pairwise (lt' (zch c)) → Rw E (fun p : T × Nat => cs p.1) h0 h' x (P ++ (M' ++ U)) R → Q (.tup []) h') :
  zcf.cps C E C0 fL x (.int .i64 (a : Int)) (.int .i64 (b : Int)) f h Q := by
 have S' := S.comp (fun p : T × Nat => p.1)
 subst ha
 have hlen' : P.length + M.length + U.length ≤ 100000000 := by simpa [Nat.add_assoc] using hlen
 simp -dsimp only [zcf.cps, add1 (show P.length < 4611686018427387904 by omega), B.ze]
 cases M with
 | nil =>
  intro Y hY
  refine hY _ _ ?_
  simp -dsimp only [zcf.l3, lssN, B.ze]
  rw [show decide (P.length + 1 < b) = false by simp at hb ⊢; omega, B.cond_false]
  exact hq h [] (List.Perm.refl _) .nil ho
 | cons m M1 =>
 simp only [List.length_cons] at hlen' hb
 rw [List.pairwise_cons] at ht
 refine zm.intro (fun t vs hh => ∃ (i : Nat) (L M2 : List (T × Nat)), t = M2.length ∧ vs = [.int .i64 i] ∧ i = P.length + L.length ∧ i + M2.length = b ∧ Rw E (fun p : T × Nat => cs p.1) h0 hh x (P ++ (L ++ (M2 ++ U))) R ∧
  (L ++ M2).Perm (m :: M1) ∧ L.Pairwise (lt' (zch c)) ∧ M2.Pairwise (fun a b => a.2 < b.2) ∧ ∀ p ∈ L, ∀ q ∈ M2, p.2 < q.2) M1.length ?_
  ⟨P.length + 1, [m], M1, rfl, rfl, by simp, by omega, by simpa using ho, List.Perm.refl _, List.pairwise_singleton .., ht.2, by simpa using ht.1⟩
 rintro Y t vs hh ⟨i, L, M2, rfl, rfl, hi, hib, o, hp, hs, ht2, htt⟩ hY
 simp -dsimp only [zcf.l3, lssN, B.ze]
 cases M2 with
 | nil =>
  rw [show decide (i < b) = false by simp at hib ⊢; omega, B.cond_false]
  rw [List.append_nil] at hp
  exact hq hh L hp hs o
 | cons x0 M2 =>
  simp only [List.length_cons] at hib
  rw [show decide (i < b) = true by simp; omega, B.cond_true]
  rw [List.pairwise_cons] at ht2
  have hll : P.length + (L.length + (M2.length + 1)) = b := by omega
  refine zm.intro (fun t vs h2 => ∃ (L1 L2 : List (T × Nat)), t = L1.length ∧ vs = [.int .i64 ((P.length + L1.length : Nat) : Int)] ∧ L = L1 ++ L2 ∧ Rw E (fun p : T × Nat => cs p.1) h0 h2 x (P ++ (L1 ++ x0 :: (L2 ++ (M2 ++ U)))) R ∧
   ∀ q ∈ L2, lt' (zch c) x0 q) L.length ?_ ⟨L, [], rfl, by rw [hi], by simp, by simpa using o, by simp⟩
  rintro Z t vs h2 ⟨L1, L2, rfl, rfl, rfl, o2, hx⟩ hZ
  rw [List.pairwise_append] at hs
  have fin : (L1 = [] ∨ ∃ L0 y, L1 = L0 ++ [y] ∧ lt' (zch c) y x0) → Y [.int .i64 ((i + 1 : Nat) : Int)] h2 := fun hz => by
   have hlow : ∀ p ∈ L1, lt' (zch c) p x0 := by
    rcases hz with rfl | ⟨L0, y, rfl, hy⟩
    ·simp
    ·intro p hpm
     rcases List.mem_append.1 hpm with h1 | h1
     ·exact zhl W ((List.pairwise_append.1 hs.1).2.2 p h1 y (by simp)) hy
     ·rw [List.mem_singleton.1 h1]; exact hy
   refine hY M2.length _ _ (by simp) ⟨i + 1, L1 ++ x0 :: L2, M2, rfl, rfl, by simp at hi ⊢; omega, by omega, by simpa using o2, ?_, ?_, ht2.2, ?_⟩
   ·refine List.Perm.trans ?_ hp
    simp only [List.append_assoc, List.cons_append]
    refine List.Perm.append_left _ ?_
    exact (List.perm_middle (l₁ := L2) (l₂ := M2) (a := x0)).symm
   ·rw [List.pairwise_append, List.pairwise_cons]
    refine ⟨hs.1, ⟨hx, hs.2.1⟩, fun p h1 q h2 => ?_⟩
    rcases List.mem_cons.1 h2 with rfl | h2
    ·exact hlow p h1
    ·exact hs.2.2 p h1 q h2
   ·intro p h1 q h2
    rcases List.mem_append.1 h1 with h1 | h1
    ·exact htt p (List.mem_append_left _ h1) q (List.mem_cons_of_mem _ h2)
    ·rcases List.mem_cons.1 h1 with rfl | h1
     ·exact ht2.1 q h2
     ·exact htt p (List.mem_append_right _ h1) q (List.mem_cons_of_mem _ h2)
  have hll2 : i = P.length + (L1.length + L2.length) := by simpa using hi
  simp -dsimp only [zcf.l2, zcf.k1, gtrN, B.ze]
  obtain rfl | ⟨L0, y, rfl⟩ := znd L1
  ·simp -dsimp [add1 (show i < 4611686018427387904 by omega)]
   exact fin (.inl rfl)
  ·have hyx : y.2 < x0.2 := htt y (by simp) x0 (by simp)
   have o2' := o2
   simp only [List.append_assoc, List.cons_append, List.nil_append] at o2'
   simp only [List.length_append, List.length_singleton] at hll2 hlen' hll
   have hj : P.length + (L0 ++ [y]).length = P.length + L0.length + 1 := by simp [Nat.add_assoc]
   rw [show decide (P.length < P.length + (L0 ++ [y]).length) = true by simp]
   rw [hj]
   simp -dsimp only [B.gd_t, B.zok, B.zeg, gv_true, sub1 (show 1 ≤ P.length + L0.length + 1 by omega) (by omega), Nat.add_sub_cancel, o2.idx (i := P.length + L0.length + 1) (by simp; omega), o2.idx (i := P.length + L0.length) (by simp), B.ze]
   have o3 : Rw E (fun p : T × Nat => cs p.1) h0 h2 x ((P ++ L0) ++ y :: ([] ++ x0 :: (L2 ++ (M2 ++ U)))) R := by simpa using o2
   have gy : ((P ++ L0) ++ y :: ([] ++ x0 :: (L2 ++ (M2 ++ U))))[P.length + L0.length]? = some y := zjx (by simp)
   have gx : ((P ++ L0) ++ y :: ([] ++ x0 :: (L2 ++ (M2 ++ U))))[P.length + L0.length + 1]? = some x0 := zoj (by simp)
   refine o3.ld S' gx ?_
   refine o3.ld S' gy ?_
   refine hc.call _ _ _ _ o2.le ?_
   simp -dsimp only [B.gd_t, B.zok, B.zeg, gv_true, V.zfx, B.ze, B.zif]
   refine B.zk (fun hb2 => ?_) (fun hb2 => ?_)
   ·simp -dsimp only [sub1 (show 1 ≤ P.length + L0.length + 1 by omega) (by omega), Nat.add_sub_cancel, o2.idx (i := P.length + L0.length + 1) (by simp; omega), o2.idx (i := P.length + L0.length) (by simp), B.ze]
    refine o3.ld S' gy ?_
    refine o3.ld S' gx ?_
    refine o3.swapDn S' (by simp) (by simp) fun h4 o4 => ?_
    refine hZ L0.length _ _ (by simp) ⟨L0, y :: L2, rfl, rfl, by simp, by simpa using o4, ?_⟩
    intro q hq2
    rcases List.mem_cons.1 hq2 with rfl | hq2
    ·exact (lt'_gt hyx).2 hb2
    ·exact hx q hq2
   ·simp -dsimp only [add1 (show i < 4611686018427387904 by omega), B.ze]
    exact fin (.inr ⟨L0, y, rfl, (zs8 W hyx).2 hb2⟩)
end
section
variable {E : zx} {X : Type} {cs : X → List AVal} {v : X → AVal} {h0 h : za} {x f : AVal} {G : List X} {R : List (List AVal)} {c : X → X → Int}
theorem znc (S : zc6 E cs v) (hx : SlX h0 E.es x (G.map cs) R) (hc : zed C0 v c fL h0) {p : AVal} {n : Int} (ho : Owns h0 h [.box p [.int .i64 n]]) {i j : Nat} (hi : i < G.length) (hj : j < G.length) {Q : AVal → za → Prop}
  (hq : ∀ (i' j' : Nat) (n' : Int) h', (i' = i ∨ i' = j) → (j' = i ∨ j' = j) → Owns h0 h' [.box p [.int .i64 n']] → Q (.tup [.int .i64 (i' : Int), .int .i64 (j' : Int)]) h') : zfq.cps C E C0 fL x (.int .i64 (i : Int)) (.int .i64 (j : Int)) p f h Q := by
 have hxx := hx.mono ho.le
 have ii : V.idxS E.es x (.int .i64 (i : Int)) = some (elp E.es x i 0) := hxx.idxN (by simpa using hi)
 have ij : V.idxS E.es x (.int .i64 (j : Int)) = some (elp E.es x j 0) := hxx.idxN (by simpa using hj)
 have gi : (G.map cs)[i]? = some (cs G[i]) := by rw [List.getElem?_map, List.getElem?_eq_getElem hi]; rfl
 have gj : (G.map cs)[j]? = some (cs G[j]) := by rw [List.getElem?_map, List.getElem?_eq_getElem hj]; rfl
 obtain ⟨id, rfl, hb⟩ := ho.zhu 0 rfl
 have ld : A.ldv h (.ptr id 0 0) = some (.int .i64 n) := by rw [zfs hb]; rfl
 simp -dsimp only [zfq.cps, zfq.k1, ij, B.ze]
 refine S.ld hxx gj ?_
 simp -dsimp only [ii, B.ze]
 refine S.ld hxx gi ?_
 refine hc.call _ _ _ _ ho.le ?_
 refine B.zk (fun hd => ?_) (fun hd => ?_)
 ·simp -dsimp only [B.zh6, B.zic, ld, V.znv, B.ze]
  refine ho.znt 0 (off := 0) rfl rfl (by simp) fun h2 o2 _ => ?_
  exact hq j i _ h2 (.inr rfl) (.inl rfl) (by simpa using o2)
 ·exact hq i j n h (.inl rfl) (.inr rfl) ho
abbrev O2I (C : CSem) (E : zx) (C0 : CSem) (fL : Nat) (f1 : Nat) : Prop := ∀ (v0 v1 v2 v3 v4 : AVal) (h : za) (Q : AVal → za → Prop), zfq.cps C E C0 fL v0 v1 v2 v3 v4 h (dn Q) → C f1 [v0, v1, v2, v3, v4] h Q
abbrev MedI (C : CSem) (E : zx) (C0 : CSem) (fL : Nat) (f1 f2 : Nat) : Prop := ∀ (v0 v1 v2 v3 v4 v5 : AVal) (h : za) (Q : AVal → za → Prop), zfr.cps C E C0 fL f1 v0 v1 v2 v3 v4 v5 h (dn Q) → C f2 [v0, v1, v2, v3, v4, v5] h Q
abbrev AdjI (C : CSem) (E : zx) (C0 : CSem) (fL : Nat) (f2 f3 : Nat) : Prop := ∀ (v0 v1 v2 v3 : AVal) (h : za) (Q : AVal → za → Prop), zef.cps C E C0 fL f2 v0 v1 v2 v3 h (dn Q) → C f3 [v0, v1, v2, v3] h Q
theorem zng {f1 : Nat} (io : O2I C E C0 fL f1) (S : zc6 E cs v) (hx : SlX h0 E.es x (G.map cs) R) (hc : zed C0 v c fL h0) {p : AVal} {n : Int} (ho : Owns h0 h [.box p [.int .i64 n]]) {i j k : Nat} (hi : i < G.length) (hj : j < G.length) (hk : k < G.length) {Q : AVal → za → Prop}
  (hq : ∀ (m : Nat) (n' : Int) h', (m = i ∨ m = j ∨ m = k) → Owns h0 h' [.box p [.int .i64 n']] → Q (.int .i64 (m : Int)) h') : zfr.cps C E C0 fL f1 x (.int .i64 (i : Int)) (.int .i64 (j : Int)) (.int .i64 (k : Int)) p f h Q := by
 simp -dsimp only [zfr.cps, zfr.k1]
 refine io _ _ _ _ _ _ _ (znc S hx hc ho hi hj fun a b n1 h1 ha hb o1 => zba ?_)
 simp -dsimp only [V.zjy, List.getElem?_cons_zero, List.getElem?_cons_succ, B.ze]
 have la : a < G.length := by rcases ha with rfl | rfl <;> assumption
 have lb : b < G.length := by rcases hb with rfl | rfl <;> assumption
 refine io _ _ _ _ _ _ _ (znc S hx hc o1 lb hk fun a2 b2 n2 h2 ha2 hb2 o2 => zba ?_)
 simp -dsimp only [V.zjy, List.getElem?_cons_zero, List.getElem?_cons_succ, B.ze]
 have la2 : a2 < G.length := by rcases ha2 with rfl | rfl <;> assumption
 refine io _ _ _ _ _ _ _ (znc S hx hc o2 la la2 fun a3 b3 n3 h3 ha3 hb3 o3 => zba ?_)
 simp -dsimp only [V.zjy, List.getElem?_cons_zero, List.getElem?_cons_succ, B.ze]
 refine hq b3 n3 h3 ?_ o3
 omega
theorem zg6 {f1 f2 : Nat} (io : O2I C E C0 fL f1) (im : MedI C E C0 fL f1 f2) (S : zc6 E cs v) (hx : SlX h0 E.es x (G.map cs) R) (hc : zed C0 v c fL h0) {p : AVal} {n : Int} (ho : Owns h0 h [.box p [.int .i64 n]]) {i : Nat} (hi : 0 < i) (hi2 : i + 1 < G.length) (hl : G.length < 4611686018427387904) {Q : AVal → za → Prop}
  (hq : ∀ (m : Nat) (n' : Int) h', i - 1 ≤ m → m ≤ i + 1 → Owns h0 h' [.box p [.int .i64 n']] → Q (.int .i64 (m : Int)) h') : zef.cps C E C0 fL f2 x (.int .i64 (i : Int)) p f h Q := by
 have e1 : V.bin .sub (.int .i64 (i : Int)) (.int .i64 1) = some (.int .i64 ((i - 1 : Nat) : Int)) := by
  rw [V.zf3, wrap_i64 (by omega) (by omega)]; congr 2; omega
 simp -dsimp only [zef.cps, zef.k1, e1, add1 (show i < 4611686018427387904 by omega), B.ze]
 exact im _ _ _ _ _ _ _ _ (zng io S hx hc ho (by omega) (by omega) hi2 fun m n' h' hm o' => zba (hq m n' h' (by omega) (by omega) o'))
theorem zo3 (S : zc6 E cs v) (hl : G.length < 4611686018427387904) (ho : Rw E cs h0 h x G R) {a b : Nat} (hab : a < b) (hb : b ≤ G.length) {Q : AVal → za → Prop} (hq : ∀ h' G', zc8 a b G G' → Rw E cs h0 h' x G' R → Q (.tup []) h') :
  zdu.cps C E C0 fL x (.int .i64 (a : Int)) (.int .i64 (b : Int)) f h Q := by
 have e1 : V.bin .sub (.int .i64 (b : Int)) (.int .i64 1) = some (.int .i64 ((b - 1 : Nat) : Int)) := by
  rw [V.zf3, wrap_i64 (by omega) (by omega)]; congr 2; omega
 simp -dsimp only [zdu.cps, e1, B.ze]
 refine zm.intro (fun t vs hh => ∃ (i j : Nat) (G' : List X), t = j ∧ vs = [.int .i64 (i : Int), .int .i64 (j : Int)] ∧ a ≤ i ∧ j < b ∧ zc8 a b G G' ∧ Rw E cs h0 hh x G' R) (b - 1) ?_ ⟨a, b - 1, G, rfl, rfl, Nat.le_refl _, by omega, zc8.refl _ _ _, ho⟩
 rintro Y j vs hh ⟨i, _, G', rfl, rfl, hi, hj, W, o⟩ hY
 simp -dsimp only [zdu.l2, zdu.k1, lssN, B.ze]
 have hlen := W.len
 refine B.zk (fun hc => ?_) (fun hc => hq hh G' W o)
 rw [decide_eq_true_eq] at hc
 have li : i < G'.length := by omega
 have lj : j < G'.length := by omega
 simp -dsimp only [o.idx lj, B.ze]
 refine o.ld S (List.getElem?_eq_getElem lj) ?_
 simp -dsimp only [o.idx li, B.ze]
 refine o.ld S (List.getElem?_eq_getElem li) ?_
 have ij := o.idx lj
 refine o.st S (t := G'[j]) li fun h1 o1 => ?_
 simp -dsimp only [ij, B.ze]
 refine o1.st S (t := G'[i]) (by simpa using lj) fun h2 o2 => ?_
 have e2 : V.bin .sub (.int .i64 (j : Int)) (.int .i64 1) = some (.int .i64 ((j - 1 : Nat) : Int)) := by
  rw [V.zf3, wrap_i64 (by omega) (by omega)]; congr 2; omega
 simp -dsimp only [add1 (show i < 4611686018427387904 by omega), e2, B.ze]
 exact hY (j - 1) _ _ (by omega) ⟨i + 1, j - 1, _, rfl, rfl, by omega, by omega, W.trans (ze6 li lj hi (by omega) (by omega) hj), o2⟩
theorem zqq {f1 f2 f3 : Nat} (io : O2I C E C0 fL f1) (im : MedI C E C0 fL f1 f2) (ia : AdjI C E C0 fL f2 f3) (S : zc6 E cs v) (hx : SlX h E.es x (G.map cs) R) (h0le : h0.le h) (hc : zed C0 v c fL h0) (hl : G.length ≤ 100000000) {a b : Nat} (hab : a + 8 ≤ b) (hb : b ≤ G.length) {Q : AVal → za → Prop}
  (hq : ∀ (m : Nat) (hint : Int) h', a ≤ m → m < b → h.le h' → Q (.tup [.int .i64 (m : Int), .int .i64 hint]) h') : z9.cps C E C0 fL f2 f3 x (.int .i64 (a : Int)) (.int .i64 (b : Int)) f h Q := by
 have e1 := zi9 (a := b) (b := a) (by omega) (by omega)
 simp -dsimp only [z9.cps, e1, B.ze]
 intro id hid
 have o := (Owns.start h).zj9 hid [.int .i64 0]
 simp only [List.nil_append] at o
 have q4 := quo4 (a := b - a) (by omega)
 have m1 := mulN (a := (b - a) / 4) (b := 1) (by omega)
 have m2 := mulN (a := (b - a) / 4) (b := 2) (by omega)
 have m3 := mulN (a := (b - a) / 4) (b := 3) (by omega)
 have a1 := zse (a := a) (b := (b - a) / 4 * 1) (by omega)
 have a2 := zse (a := a) (b := (b - a) / 4 * 2) (by omega)
 have a3 := zse (a := a) (b := (b - a) / 4 * 3) (by omega)
 have g8 : V.bin .geq (.int .i64 ((b - a : Nat) : Int)) (.int .i64 8) = some (.bool true) := by rw [V.znu, decide_eq_true (by omega)]
 have hc' : zed C0 v c fL h := ⟨fun h2 s t K hle hk => hc.call h2 s t K (za.le_trans h0le hle) hk⟩
 simp -dsimp only [z9.k6, z9.k5, z9.k4, z9.k3, q4, B.ze]
 have m1' : V.bin .mul (.int .i64 (((b - a) / 4 : Nat) : Int)) (.int .i64 1) = some (.int .i64 (((b - a) / 4 * 1 : Nat) : Int)) := m1
 have m2' : V.bin .mul (.int .i64 (((b - a) / 4 : Nat) : Int)) (.int .i64 2) = some (.int .i64 (((b - a) / 4 * 2 : Nat) : Int)) := m2
 have m3' : V.bin .mul (.int .i64 (((b - a) / 4 : Nat) : Int)) (.int .i64 3) = some (.int .i64 (((b - a) / 4 * 3 : Nat) : Int)) := m3
 simp -dsimp only [q4, m1', m2', m3', a1, a2, a3, g8, B.cond_true, z9.k5, z9.k4, z9.k3, z9.k2, B.ze]
 have fin : ∀ (m : Nat) (n' : Int) h', a ≤ m → m < b → Owns h h' [.box (.ptr id 0 0) [.int .i64 n']] → z9.k1 C E C0 fL f2 f3 Q (.ptr id 0 0) (.int .i64 (m : Int)) h' := fun m n' h' k1 k2 o' => by
  obtain ⟨id', e, hb'⟩ := o'.zhu 0 rfl
  cases e
  have ld : A.ldv h' (.ptr id 0 0) = some (.int .i64 n') := by rw [zfs hb']; rfl
  simp -dsimp only [z9.k1, B.zic, ld, V.zh0, B.ze]
  refine B.zk (fun _ => hq m _ h' k1 k2 o'.le) (fun _ => ?_)
  refine B.zk (fun _ => hq m _ h' k1 k2 o'.le) (fun _ => hq m _ h' k1 k2 o'.le)
 have g50 : V.bin .geq (.int .i64 ((b - a : Nat) : Int)) (.int .i64 50) = some (.bool (decide (50 ≤ b - a))) := geqN (b := 50)
 simp -dsimp only [g50, B.ze]
 refine B.zk (fun hd => ?_) (fun hd => ?_)
 ·rw [decide_eq_true_eq] at hd
  refine ia _ _ _ _ _ _ (zg6 io im S hx hc' o (by omega) (by omega) (by omega) fun i n1 h1 i1 i2 o1 => zba ?_)
  refine ia _ _ _ _ _ _ (zg6 io im S hx hc' o1 (by omega) (by omega) (by omega) fun j n2 h2 j1 j2 o2 => zba ?_)
  refine ia _ _ _ _ _ _ (zg6 io im S hx hc' o2 (by omega) (by omega) (by omega) fun k n3 h3 k1 k2 o3 => zba ?_)
  refine im _ _ _ _ _ _ _ _ (zng io S hx hc' o3 (by omega) (by omega) (by omega) fun m n4 h4 hm o4 => zba ?_)
  exact fin m n4 h4 (by omega) (by omega) o4
 ·refine im _ _ _ _ _ _ _ _ (zng io S hx hc' o (by omega) (by omega) (by omega) fun m n4 h4 hm o4 => zba ?_)
  exact fin m n4 h4 (by omega) (by omega) o4
end
section
variable {E : zx} {X : Type} {cs : X → List AVal} {v : X → AVal} {h0 h : za} {x f : AVal} {G : List X} {R : List (List AVal)} {c : X → X → Int} {Q : AVal → za → Prop} {Y1 : List AVal → za → Prop} {a b i j : Nat}
theorem part_j (S : zc6 E cs v) (hc : zed C0 v c fL h0) (ho : Rw E cs h0 h x G R) (hl : G.length < 4611686018427387904) (hab : a < b) (p : PInv c a b G i j) (hi0 : j < i ∨ ∀ (h1 : i < G.length) (h2 : a < G.length), ¬ c G[i] G[a] < 0)
  (done : ∀ h' j', PInv c a b G i j' → j' < i → Rw E cs h0 h' x G R → zh.k1 C E C0 fL Q x (.int .i64 (a : Int)) (.int .i64 (j' : Int)) h')
  (next : ∀ h' j' (hi : i < G.length) (hj : j' < G.length) , PInv c a b (swp G i j' hi hj) (i + 1) (j' - 1) → i < j' → j' < b → Rw E cs h0 h' x (swp G i j' hi hj) R → Y1 [.int .i64 ((i + 1 : Nat) : Int), .int .i64 ((j' - 1 : Nat) : Int)] h') :
  zm (zh.l4 C E C0 fL Q Y1 x (.int .i64 (a : Int)) f (.int .i64 (i : Int))) [.int .i64 (j : Int)] h := by
 refine zm.intro (fun t vs hh => hh = h ∧ ∃ j' : Nat, t = j' ∧ vs = [.int .i64 (j' : Int)] ∧ PInv c a b G i j' ∧ (j' < i ∨ ∀ (h1 : i < G.length) (h2 : a < G.length), ¬ c G[i] G[a] < 0)) j ?_ ⟨rfl, j, rfl, rfl, p, hi0⟩
 rintro Y j' vs hh ⟨rfl, _, rfl, rfl, p, hi0⟩ hY
 have k1 := p.hi; have k2 := p.hij; have k3 := p.hj; have k4 := p.hb
 have la : a < G.length := by omega
 have lj : j' < G.length := by omega
 simp -dsimp only [zh.l4, zh.k3, leqN, B.ze]
 by_cases hle : i ≤ j'
 ·have li : i < G.length := by omega
  simp -dsimp only [hle, decide_true, B.gd_t, B.zeg, ho.idx lj, ho.idx la, B.ze]
  refine ho.ld S (List.getElem?_eq_getElem lj) ?_
  refine ho.ld S (List.getElem?_eq_getElem la) ?_
  refine hc.call _ _ _ _ ho.le ?_
  simp -dsimp only [hle, decide_true, B.gd_t, B.zeg, V.zfx, V.zf7, B.zif, B.ze]
  refine B.zk (fun hd => ?_) (fun hd => ?_)
  ·have hd' : ¬ c G[j'] G[a] < 0 := by simpa using hd
   have e1 := zi9 (a := j') (b := 1) (by omega) (by omega)
   have e1' : V.bin .sub (.int .i64 (j' : Int)) (.int .i64 1) = some (.int .i64 ((j' - 1 : Nat) : Int)) := e1
   simp -dsimp only [e1', B.ze]
   refine hY (j' - 1) _ _ (by omega) ⟨rfl, j' - 1, rfl, rfl, ⟨k4, k1, by omega, by omega, p.lo, fun k hk ha q1 q2 => ?_⟩, ?_⟩
   ·by_cases e : k = j'
    ·subst e; exact hd'
    ·exact p.hi2 k hk ha (by omega) q2
   ·rcases hi0 with h | h
    ·omega
    ·exact .inr h
  ·have hd' : c G[j'] G[a] < 0 := by simpa using hd
   have hni : ¬ c G[i] G[a] < 0 := by
    rcases hi0 with h | h
    ·omega
    ·exact h li la
   simp -dsimp only [zh.k2, gtrN, show ¬ j' < i by omega, decide_false, B.cond_false, ho.idx lj, ho.idx li, B.ze]
   refine ho.ld S (List.getElem?_eq_getElem lj) ?_
   refine ho.ld S (List.getElem?_eq_getElem li) ?_
   refine ho.st S (t := G[j']) li fun h1 o1 => ?_
   refine o1.st S (t := G[i]) (by simpa using lj) fun h2 o2 => ?_
   have e1' : V.bin .sub (.int .i64 (j' : Int)) (.int .i64 1) = some (.int .i64 ((j' - 1 : Nat) : Int)) := zi9 (a := j') (b := 1) (by omega) (by omega)
   simp -dsimp only [add1 (show i < 4611686018427387904 by omega), e1', B.ze]
   have hne : i ≠ j' := fun e => by subst e; exact hni hd'
   exact next h2 j' li lj (p.swap hle li lj la hni hd') (by omega) k3 o2
 ·simp -dsimp only [hle, decide_false, B.gd_t, B.zfo, B.zje, B.cond_false, zh.k2, gtrN, show j' < i by omega, decide_true, B.cond_true, B.ze]
  exact done hh j' p (by omega) ho
theorem part_i (S : zc6 E cs v) (hc : zed C0 v c fL h0) (ho : Rw E cs h0 h x G R) (hl : G.length < 4611686018427387904) (hab : a < b) (p : PInv c a b G i j)
  (done : ∀ h' i' j', PInv c a b G i' j' → j' < i' → Rw E cs h0 h' x G R → zh.k1 C E C0 fL Q x (.int .i64 (a : Int)) (.int .i64 (j' : Int)) h')
  (next : ∀ h' i' j' (hi : i' < G.length) (hj : j' < G.length), PInv c a b (swp G i' j' hi hj) (i' + 1) (j' - 1) → a < i' → i ≤ i' → i' < j' → j' < b → Rw E cs h0 h' x (swp G i' j' hi hj) R → Y1 [.int .i64 ((i' + 1 : Nat) : Int), .int .i64 ((j' - 1 : Nat) : Int)] h') :
  zm (zh.l6 C E C0 fL Q Y1 x (.int .i64 (a : Int)) f (.int .i64 (j : Int))) [.int .i64 (i : Int)] h := by
 refine zm.intro (fun t vs hh => hh = h ∧ ∃ i' : Nat, i' + t = b ∧ i ≤ i' ∧ vs = [.int .i64 (i' : Int)] ∧ PInv c a b G i' j) (b - i) ?_ ⟨rfl, i, by have := p.hij; have := p.hj; omega, Nat.le_refl _, rfl, p⟩
 rintro Y t vs hh ⟨rfl, i', hit, hii, rfl, p⟩ hY
 have k1 := p.hi; have k2 := p.hij; have k3 := p.hj; have k4 := p.hb
 have la : a < G.length := by omega
 simp -dsimp only [zh.l6, zh.k5, leqN, B.ze]
 by_cases hle : i' ≤ j
 ·have li : i' < G.length := by omega
  simp -dsimp only [hle, decide_true, B.gd_t, B.zeg, ho.idx li, ho.idx la, B.ze]
  refine ho.ld S (List.getElem?_eq_getElem li) ?_
  refine ho.ld S (List.getElem?_eq_getElem la) ?_
  refine hc.call _ _ _ _ ho.le ?_
  simp -dsimp only [hle, decide_true, B.gd_t, B.zeg, V.zfx, B.zif, B.ze]
  refine B.zk (fun hd => ?_) (fun hd => ?_)
  ·have hd' : c G[i'] G[a] < 0 := by simpa using hd
   simp -dsimp only [add1 (show i' < 4611686018427387904 by omega), B.ze]
   refine hY (b - (i' + 1)) _ _ (by omega) ⟨rfl, i' + 1, by omega, by omega, rfl, ⟨k4, by omega, k3, by omega, fun k hk ha q1 q2 => ?_, p.hi2⟩⟩
   by_cases e : k = i'
   ·subst e; exact hd'
   ·exact p.lo k hk ha q1 (by omega)
  ·have hd' : ¬ c G[i'] G[a] < 0 := by simpa using hd
   exact part_j S hc ho hl hab p (.inr fun _ _ => hd') (fun h' j' p' hlt o' => done h' i' j' p' hlt o') fun h' j' hi hj p' h1 h2 o' => next h' i' j' hi hj p' k1 hii h1 h2 o'
 ·simp -dsimp only [hle, decide_false, B.gd_t, B.zfo, B.zje, B.cond_false]
  exact part_j S hc ho hl hab p (.inl (by omega)) (fun h' j' p' hlt o' => done h' i' j' p' hlt o') fun h' j' hi hj p' h1 h2 o' => next h' i' j' hi hj p' k1 hii h1 h2 o'
theorem part_end (S : zc6 E cs v) (ho : Rw E cs h0 h x G R) (hab : a < b) (p : PInv c a b G i j) (hlt : j < i) (hq : ∀ h' m G', zjo c a b m G' → zc8 a b G G' → Rw E cs h0 h' x G' R → Q (.tup [.int .i64 (m : Int), .bool false]) h') :
  zh.k1 C E C0 fL Q x (.int .i64 (a : Int)) (.int .i64 (j : Int)) h := by
 have k1 := p.hi; have k2 := p.hij; have k3 := p.hj; have k4 := p.hb
 have la : a < G.length := by omega
 have lj : j < G.length := by omega
 simp -dsimp only [zh.k1, ho.idx lj, ho.idx la, B.ze]
 refine ho.ld S (List.getElem?_eq_getElem la) ?_
 refine ho.ld S (List.getElem?_eq_getElem lj) ?_
 refine ho.st S (t := G[a]) lj fun h1 o1 => ?_
 refine o1.st S (t := G[j]) (by simpa using la) fun h2 o2 => ?_
 exact hq h2 j _ (p.done hab hlt lj la) (ze6 lj la (by omega) k3 (Nat.le_refl _) hab) o2
theorem part_main (S : zc6 E cs v) (hc : zed C0 v c fL h0) (ho : Rw E cs h0 h x G R) (hl : G.length < 4611686018427387904) (hab : a < b) (p : PInv c a b G i j)
  (hq : ∀ h' m G', zjo c a b m G' → zc8 a b G G' → Rw E cs h0 h' x G' R → Q (.tup [.int .i64 (m : Int), .bool false]) h') :
  zm (zh.l7 C E C0 fL Q x (.int .i64 (a : Int)) f) [.int .i64 (i : Int), .int .i64 (j : Int)] h := by
 refine zm.intro (fun t vs hh => ∃ (i' j' : Nat) (G' : List X), i' + t = b ∧ vs = [.int .i64 (i' : Int), .int .i64 (j' : Int)] ∧ zc8 a b G G' ∧ PInv c a b G' i' j' ∧ Rw E cs h0 hh x G' R) (b - i) ?_ ⟨i, j, G, by have := p.hij; have := p.hj; omega, rfl, zc8.refl _ _ _, p, ho⟩
 rintro Y t vs hh ⟨i', j', G', hit, rfl, W, p, o⟩ hY
 have hlen := W.len
 simp -dsimp only [zh.l7]
 refine part_i S hc o (by omega) hab p (fun h' i2 j2 p2 hlt o2 => part_end S o2 hab p2 hlt fun h3 m G3 P3 W3 o3 => hq h3 m G3 P3 (W.trans W3) o3) fun h' i2 j2 hi hj p2 h1 h2 h3 h4 o2 => ?_
 exact hY (b - (i2 + 1)) _ _ (by omega) ⟨i2 + 1, j2 - 1, _, by omega, rfl, W.trans (ze6 hi hj (by omega) (by omega) (by omega) h4), p2, o2⟩
end
section
variable {E : zx} {X : Type} {cs : X → List AVal} {v : X → AVal} {h0 h : za} {x f : AVal} {G : List X} {R : List (List AVal)} {c : X → X → Int} {Q : AVal → za → Prop} {a b i j : Nat}
theorem part_k10 (S : zc6 E cs v) (hc : zed C0 v c fL h0) (ho : Rw E cs h0 h x G R) (hl : G.length < 4611686018427387904) (hab : a < b) (p : PInv c a b G i j)
  (hd : j < i ∨ ∃ (h1 : i < G.length) (h2 : a < G.length) (h3 : j < G.length), i ≤ j ∧ ¬ c G[i] G[a] < 0 ∧ c G[j] G[a] < 0) (hq : PartQ E cs h0 x c a b R G Q) :
  zh.k10 C E C0 fL Q x (.int .i64 (a : Int)) f (.int .i64 (i : Int)) (.int .i64 (j : Int)) h := by
 have k1 := p.hi; have k2 := p.hij; have k3 := p.hj; have k4 := p.hb
 have la : a < G.length := by omega
 have lj : j < G.length := by omega
 rcases hd with hlt | ⟨li, _, _, hle, n1, n2⟩
 ·simp -dsimp only [zh.k10, gtrN, hlt, decide_true, B.cond_true, ho.idx lj, ho.idx la, B.ze]
  refine ho.ld S (List.getElem?_eq_getElem la) ?_
  refine ho.ld S (List.getElem?_eq_getElem lj) ?_
  refine ho.st S (t := G[a]) lj fun h1 o1 => ?_
  refine o1.st S (t := G[j]) (by simpa using la) fun h2 o2 => ?_
  exact hq h2 j _ true (p.done hab hlt lj la) (ze6 lj la (by omega) k3 (Nat.le_refl _) hab) o2
 ·simp -dsimp only [zh.k10, zh.k9, gtrN, show ¬ j < i by omega, decide_false, B.cond_false, ho.idx lj, ho.idx li, B.ze]
  refine ho.ld S (List.getElem?_eq_getElem lj) ?_
  refine ho.ld S (List.getElem?_eq_getElem li) ?_
  refine ho.st S (t := G[j]) li fun h1 o1 => ?_
  refine o1.st S (t := G[i]) (by simpa using lj) fun h2 o2 => ?_
  have hne : i ≠ j := fun e => by subst e; exact n1 n2
  have e1' : V.bin .sub (.int .i64 (j : Int)) (.int .i64 1) = some (.int .i64 ((j - 1 : Nat) : Int)) := zi9 (a := j) (b := 1) (by omega) (by omega)
  simp -dsimp only [zh.k8, add1 (show i < 4611686018427387904 by omega), e1', B.ze]
  have W := ze6 li lj (by omega) (by omega) (by omega : a ≤ j) k3
  exact part_main S hc (G := swp G i j li lj) o2 (by rw [zjp li lj]; omega) hab (p.swap hle li lj la n1 n2) fun h' m G' P' W' o' => hq h' m G' false P' (W.trans W') o'
theorem part_j1 (S : zc6 E cs v) (hc : zed C0 v c fL h0) (ho : Rw E cs h0 h x G R) (hl : G.length < 4611686018427387904) (hab : a < b) (p : PInv c a b G i j) (hi0 : j < i ∨ ∀ (h1 : i < G.length) (h2 : a < G.length), ¬ c G[i] G[a] < 0) (hq : PartQ E cs h0 x c a b R G Q) :
  zm (zh.l12 C E C0 fL Q x (.int .i64 (a : Int)) f (.int .i64 (i : Int))) [.int .i64 (j : Int)] h := by
 refine zm.intro (fun t vs hh => hh = h ∧ ∃ j' : Nat, t = j' ∧ vs = [.int .i64 (j' : Int)] ∧ PInv c a b G i j' ∧ (j' < i ∨ ∀ (h1 : i < G.length) (h2 : a < G.length), ¬ c G[i] G[a] < 0)) j ?_ ⟨rfl, j, rfl, rfl, p, hi0⟩
 rintro Y j' vs hh ⟨rfl, _, rfl, rfl, p, hi0⟩ hY
 have k1 := p.hi; have k2 := p.hij; have k3 := p.hj; have k4 := p.hb
 have la : a < G.length := by omega
 have lj : j' < G.length := by omega
 simp -dsimp only [zh.l12, zh.k11, leqN, B.ze]
 by_cases hle : i ≤ j'
 ·have li : i < G.length := by omega
  simp -dsimp only [hle, decide_true, B.gd_t, B.zeg, ho.idx lj, ho.idx la, B.ze]
  refine ho.ld S (List.getElem?_eq_getElem lj) ?_
  refine ho.ld S (List.getElem?_eq_getElem la) ?_
  refine hc.call _ _ _ _ ho.le ?_
  simp -dsimp only [hle, decide_true, B.gd_t, B.zeg, V.zfx, V.zf7, B.zif, B.ze]
  refine B.zk (fun hd => ?_) (fun hd => ?_)
  ·have hd' : ¬ c G[j'] G[a] < 0 := by simpa using hd
   have e1' : V.bin .sub (.int .i64 (j' : Int)) (.int .i64 1) = some (.int .i64 ((j' - 1 : Nat) : Int)) := zi9 (a := j') (b := 1) (by omega) (by omega)
   simp -dsimp only [e1', B.ze]
   refine hY (j' - 1) _ _ (by omega) ⟨rfl, j' - 1, rfl, rfl, ⟨k4, k1, by omega, by omega, p.lo, fun k hk ha q1 q2 => ?_⟩, ?_⟩
   ·by_cases e : k = j'
    ·subst e; exact hd'
    ·exact p.hi2 k hk ha (by omega) q2
   ·rcases hi0 with h | h
    ·omega
    ·exact .inr h
  ·have hd' : c G[j'] G[a] < 0 := by simpa using hd
   have hni : ¬ c G[i] G[a] < 0 := by
    rcases hi0 with h | h
    ·omega
    ·exact h li la
   exact part_k10 S hc ho hl hab p (.inr ⟨li, la, lj, hle, hni, hd'⟩) hq
 ·simp -dsimp only [hle, decide_false, B.gd_t, B.zfo, B.zje, B.cond_false]
  exact part_k10 S hc ho hl hab p (.inl (by omega)) hq
theorem part_i1 (S : zc6 E cs v) (hc : zed C0 v c fL h0) (ho : Rw E cs h0 h x G R) (hl : G.length < 4611686018427387904) (hab : a < b) (p : PInv c a b G i j) (hq : PartQ E cs h0 x c a b R G Q) :
  zm (zh.l14 C E C0 fL Q x (.int .i64 (a : Int)) f (.int .i64 (j : Int))) [.int .i64 (i : Int)] h := by
 refine zm.intro (fun t vs hh => hh = h ∧ ∃ i' : Nat, i' + t = b ∧ vs = [.int .i64 (i' : Int)] ∧ PInv c a b G i' j) (b - i) ?_ ⟨rfl, i, by have := p.hij; have := p.hj; omega, rfl, p⟩
 rintro Y t vs hh ⟨rfl, i', hit, rfl, p⟩ hY
 have k1 := p.hi; have k2 := p.hij; have k3 := p.hj; have k4 := p.hb
 have la : a < G.length := by omega
 simp -dsimp only [zh.l14, zh.k13, leqN, B.ze]
 by_cases hle : i' ≤ j
 ·have li : i' < G.length := by omega
  simp -dsimp only [hle, decide_true, B.gd_t, B.zeg, ho.idx li, ho.idx la, B.ze]
  refine ho.ld S (List.getElem?_eq_getElem li) ?_
  refine ho.ld S (List.getElem?_eq_getElem la) ?_
  refine hc.call _ _ _ _ ho.le ?_
  simp -dsimp only [hle, decide_true, B.gd_t, B.zeg, V.zfx, B.zif, B.ze]
  refine B.zk (fun hd => ?_) (fun hd => ?_)
  ·have hd' : c G[i'] G[a] < 0 := by simpa using hd
   simp -dsimp only [add1 (show i' < 4611686018427387904 by omega), B.ze]
   refine hY (b - (i' + 1)) _ _ (by omega) ⟨rfl, i' + 1, by omega, rfl, ⟨k4, by omega, k3, by omega, fun k hk ha q1 q2 => ?_, p.hi2⟩⟩
   by_cases e : k = i'
   ·subst e; exact hd'
   ·exact p.lo k hk ha q1 (by omega)
  ·have hd' : ¬ c G[i'] G[a] < 0 := by simpa using hd
   exact part_j1 S hc ho hl hab p (.inr fun _ _ => hd') hq
 ·simp -dsimp only [hle, decide_false, B.gd_t, B.zfo, B.zje, B.cond_false]
  exact part_j1 S hc ho hl hab p (.inl (by omega)) hq
theorem zsl (S : zc6 E cs v) (hc : zed C0 v c fL h0) (ho : Rw E cs h0 h x G R) (hl : G.length < 4611686018427387904) {pv : Nat} (hp1 : a ≤ pv) (hp2 : pv < b) (hb : b ≤ G.length) (hq : PartQ E cs h0 x c a b R G Q) :
  zh.cps C E C0 fL x (.int .i64 (a : Int)) (.int .i64 (b : Int)) (.int .i64 (pv : Int)) f h Q := by
 have la : a < G.length := by omega
 have lp : pv < G.length := by omega
 simp -dsimp only [zh.cps, zh.k16, ho.idx lp, ho.idx la, B.ze]
 refine ho.ld S (List.getElem?_eq_getElem lp) ?_
 refine ho.ld S (List.getElem?_eq_getElem la) ?_
 refine ho.st S (t := G[pv]) la fun h1 o1 => ?_
 refine o1.st S (t := G[a]) (by simpa using lp) fun h2 o2 => ?_
 have e1' : V.bin .sub (.int .i64 (b : Int)) (.int .i64 1) = some (.int .i64 ((b - 1 : Nat) : Int)) := zi9 (a := b) (b := 1) (by omega) (by omega)
 simp -dsimp only [zh.k15, add1 (show a < 4611686018427387904 by omega), e1', B.ze]
 have W := ze6 la lp (Nat.le_refl _) (by omega) hp1 hp2
 have hsl := zjp la lp
 refine part_i1 S hc (G := swp G a pv la lp) o2 (by omega) (by omega) ⟨by omega, by omega, by omega, by omega, fun k _ _ q1 q2 => by omega, fun k _ _ q1 q2 => by omega⟩ fun h' m G' t P' W' o' => hq h' m G' t P' (W.trans W') o'
end
section
variable {E : zx} {X : Type} {cs : X → List AVal} {v : X → AVal} {h0 h : za} {x f : AVal} {G : List X} {R : List (List AVal)} {c : X → X → Int} {Q : AVal → za → Prop} {Y1 : List AVal → za → Prop} {a b i j : Nat}
theorem eq_j (S : zc6 E cs v) (hc : zed C0 v c fL h0) (ho : Rw E cs h0 h x G R) (hl : G.length < 4611686018427387904) (hab : a < b) (p : EInv c a b G i j) (hi0 : j < i ∨ ∀ (h1 : i < G.length) (h2 : a < G.length), c G[a] G[i] < 0)
  (done : ∀ h' j', EInv c a b G i j' → j' < i → Rw E cs h0 h' x G R → Q (.int .i64 (i : Int)) h')
  (next : ∀ h' j' (hi : i < G.length) (hj : j' < G.length), EInv c a b (swp G i j' hi hj) (i + 1) (j' - 1) → i < j' → j' < b → Rw E cs h0 h' x (swp G i j' hi hj) R → Y1 [.int .i64 ((i + 1 : Nat) : Int), .int .i64 ((j' - 1 : Nat) : Int)] h') :
  zm (zt.l3 C E C0 fL Q Y1 x (.int .i64 (a : Int)) f (.int .i64 (i : Int))) [.int .i64 (j : Int)] h := by
 refine zm.intro (fun t vs hh => hh = h ∧ ∃ j' : Nat, t = j' ∧ vs = [.int .i64 (j' : Int)] ∧ EInv c a b G i j' ∧ (j' < i ∨ ∀ (h1 : i < G.length) (h2 : a < G.length), c G[a] G[i] < 0)) j ?_ ⟨rfl, j, rfl, rfl, p, hi0⟩
 rintro Y j' vs hh ⟨rfl, _, rfl, rfl, p, hi0⟩ hY
 have k1 := p.hi; have k2 := p.hij; have k3 := p.hj; have k4 := p.hb
 have la : a < G.length := by omega
 have lj : j' < G.length := by omega
 simp -dsimp only [zt.l3, zt.k2, leqN, B.ze]
 by_cases hle : i ≤ j'
 ·have li : i < G.length := by omega
  simp -dsimp only [hle, decide_true, B.gd_t, B.zeg, ho.idx lj, ho.idx la, B.ze]
  refine ho.ld S (List.getElem?_eq_getElem la) ?_
  refine ho.ld S (List.getElem?_eq_getElem lj) ?_
  refine hc.call _ _ _ _ ho.le ?_
  simp -dsimp only [hle, decide_true, B.gd_t, B.zeg, V.zfx, B.zif, B.ze]
  refine B.zk (fun hd => ?_) (fun hd => ?_)
  ·have hd' : c G[a] G[j'] < 0 := by simpa using hd
   have e1' : V.bin .sub (.int .i64 (j' : Int)) (.int .i64 1) = some (.int .i64 ((j' - 1 : Nat) : Int)) := zi9 (a := j') (b := 1) (by omega) (by omega)
   simp -dsimp only [e1', B.ze]
   refine hY (j' - 1) _ _ (by omega) ⟨rfl, j' - 1, rfl, rfl, ⟨k4, k1, by omega, by omega, p.lo, fun k hk ha q1 q2 => ?_⟩, ?_⟩
   ·by_cases e : k = j'
    ·subst e; exact hd'
    ·exact p.hi2 k hk ha (by omega) q2
   ·rcases hi0 with h | h
    ·omega
    ·exact .inr h
  ·have hd' : ¬ c G[a] G[j'] < 0 := by simpa using hd
   have hni : c G[a] G[i] < 0 := by
    rcases hi0 with h | h
    ·omega
    ·exact h li la
   simp -dsimp only [zt.k1, gtrN, show ¬ j' < i by omega, decide_false, B.cond_false, ho.idx lj, ho.idx li, B.ze]
   refine ho.ld S (List.getElem?_eq_getElem lj) ?_
   refine ho.ld S (List.getElem?_eq_getElem li) ?_
   refine ho.st S (t := G[j']) li fun h1 o1 => ?_
   refine o1.st S (t := G[i]) (by simpa using lj) fun h2 o2 => ?_
   have e1' : V.bin .sub (.int .i64 (j' : Int)) (.int .i64 1) = some (.int .i64 ((j' - 1 : Nat) : Int)) := zi9 (a := j') (b := 1) (by omega) (by omega)
   simp -dsimp only [add1 (show i < 4611686018427387904 by omega), e1', B.ze]
   have hne : i ≠ j' := fun e => by subst e; exact hd' hni
   exact next h2 j' li lj (p.swap hle li lj la hni hd') (by omega) k3 o2
 ·simp -dsimp only [hle, decide_false, B.gd_t, B.zfo, B.zje, B.cond_false, zt.k1, gtrN, show j' < i by omega, decide_true, B.cond_true, B.ze]
  exact done hh j' p (by omega) ho
theorem eq_i (S : zc6 E cs v) (hc : zed C0 v c fL h0) (ho : Rw E cs h0 h x G R) (hl : G.length < 4611686018427387904) (hab : a < b) (p : EInv c a b G i j)
  (done : ∀ h' i' j', EInv c a b G i' j' → j' < i' → Rw E cs h0 h' x G R → Q (.int .i64 (i' : Int)) h')
  (next : ∀ h' i' j' (hi : i' < G.length) (hj : j' < G.length), EInv c a b (swp G i' j' hi hj) (i' + 1) (j' - 1) → a < i' → i ≤ i' → i' < j' → j' < b → Rw E cs h0 h' x (swp G i' j' hi hj) R → Y1 [.int .i64 ((i' + 1 : Nat) : Int), .int .i64 ((j' - 1 : Nat) : Int)] h') :
  zm (zt.l5 C E C0 fL Q Y1 x (.int .i64 (a : Int)) f (.int .i64 (j : Int))) [.int .i64 (i : Int)] h := by
 refine zm.intro (fun t vs hh => hh = h ∧ ∃ i' : Nat, i' + t = b ∧ i ≤ i' ∧ vs = [.int .i64 (i' : Int)] ∧ EInv c a b G i' j) (b - i) ?_ ⟨rfl, i, by have := p.hij; have := p.hj; omega, Nat.le_refl _, rfl, p⟩
 rintro Y t vs hh ⟨rfl, i', hit, hii, rfl, p⟩ hY
 have k1 := p.hi; have k2 := p.hij; have k3 := p.hj; have k4 := p.hb
 have la : a < G.length := by omega
 simp -dsimp only [zt.l5, zt.k4, leqN, B.ze]
 by_cases hle : i' ≤ j
 ·have li : i' < G.length := by omega
  simp -dsimp only [hle, decide_true, B.gd_t, B.zeg, ho.idx li, ho.idx la, B.ze]
  refine ho.ld S (List.getElem?_eq_getElem la) ?_
  refine ho.ld S (List.getElem?_eq_getElem li) ?_
  refine hc.call _ _ _ _ ho.le ?_
  simp -dsimp only [hle, decide_true, B.gd_t, B.zeg, V.zfx, V.zf7, B.zif, B.ze]
  refine B.zk (fun hd => ?_) (fun hd => ?_)
  ·have hd' : ¬ c G[a] G[i'] < 0 := by simpa using hd
   simp -dsimp only [add1 (show i' < 4611686018427387904 by omega), B.ze]
   refine hY (b - (i' + 1)) _ _ (by omega) ⟨rfl, i' + 1, by omega, by omega, rfl, ⟨k4, by omega, k3, by omega, fun k hk ha q1 q2 => ?_, p.hi2⟩⟩
   by_cases e : k = i'
   ·subst e; exact hd'
   ·exact p.lo k hk ha q1 (by omega)
  ·have hd' : c G[a] G[i'] < 0 := by simpa using hd
   exact eq_j S hc ho hl hab p (.inr fun _ _ => hd') (fun h' j' p' hlt o' => done h' i' j' p' hlt o') fun h' j' hi hj p' h1 h2 o' => next h' i' j' hi hj p' k1 hii h1 h2 o'
 ·simp -dsimp only [hle, decide_false, B.gd_t, B.zfo, B.zje, B.cond_false]
  exact eq_j S hc ho hl hab p (.inl (by omega)) (fun h' j' p' hlt o' => done h' i' j' p' hlt o') fun h' j' hi hj p' h1 h2 o' => next h' i' j' hi hj p' k1 hii h1 h2 o'
theorem eq_main (S : zc6 E cs v) (hc : zed C0 v c fL h0) (ho : Rw E cs h0 h x G R) (hl : G.length < 4611686018427387904) (hab : a < b) (p : EInv c a b G i j)
  (hq : ∀ h' i' j' G', EInv c a b G' i' j' → j' < i' → zc8 (a + 1) b G G' → Rw E cs h0 h' x G' R → Q (.int .i64 (i' : Int)) h') :
  zm (zt.l6 C E C0 fL Q x (.int .i64 (a : Int)) f) [.int .i64 (i : Int), .int .i64 (j : Int)] h := by
 refine zm.intro (fun t vs hh => ∃ (i' j' : Nat) (G' : List X), i' + t = b ∧ vs = [.int .i64 (i' : Int), .int .i64 (j' : Int)] ∧ zc8 (a + 1) b G G' ∧ EInv c a b G' i' j' ∧ Rw E cs h0 hh x G' R) (b - i) ?_ ⟨i, j, G, by have := p.hij; have := p.hj; omega, rfl, zc8.refl _ _ _, p, ho⟩
 rintro Y t vs hh ⟨i', j', G', hit, rfl, W, p, o⟩ hY
 have hlen := W.len
 simp -dsimp only [zt.l6]
 refine eq_i S hc o (by omega) hab p (fun h' i2 j2 p2 hlt o2 => hq h' i2 j2 G' p2 hlt W o2) fun h' i2 j2 hi hj p2 h1 h2 h3 h4 o2 => ?_
 exact hY (b - (i2 + 1)) _ _ (by omega) ⟨i2 + 1, j2 - 1, _, by omega, rfl, W.trans (ze6 hi hj (by omega) (by omega) (by omega) h4), p2, o2⟩
theorem zm6 (S : zc6 E cs v) (hc : zed C0 v c fL h0) (ho : Rw E cs h0 h x G R) (hl : G.length < 4611686018427387904) {pv : Nat} (hp1 : a ≤ pv) (hp2 : pv < b) (hb : b ≤ G.length)
  (hq : ∀ h' i' j' G', EInv c a b G' i' j' → j' < i' → zc8 a b G G' → (∀ (h1 : a < G'.length) (h2 : pv < G.length), G'[a] = G[pv]) → Rw E cs h0 h' x G' R → Q (.int .i64 (i' : Int)) h') :
  zt.cps C E C0 fL x (.int .i64 (a : Int)) (.int .i64 (b : Int)) (.int .i64 (pv : Int)) f h Q := by
 have la : a < G.length := by omega
 have lp : pv < G.length := by omega
 simp -dsimp only [zt.cps, zt.k8, ho.idx lp, ho.idx la, B.ze]
 refine ho.ld S (List.getElem?_eq_getElem lp) ?_
 refine ho.ld S (List.getElem?_eq_getElem la) ?_
 refine ho.st S (t := G[pv]) la fun h1 o1 => ?_
 refine o1.st S (t := G[a]) (by simpa using lp) fun h2 o2 => ?_
 have e1' : V.bin .sub (.int .i64 (b : Int)) (.int .i64 1) = some (.int .i64 ((b - 1 : Nat) : Int)) := zi9 (a := b) (b := 1) (by omega) (by omega)
 simp -dsimp only [zt.k7, add1 (show a < 4611686018427387904 by omega), e1', B.ze]
 have W := ze6 la lp (Nat.le_refl _) (by omega) hp1 hp2
 have hsl := zjp la lp
 refine eq_main S hc (G := swp G a pv la lp) o2 (by omega) (by omega) ⟨by omega, by omega, by omega, by omega, fun k _ _ q1 q2 => by omega, fun k _ _ q1 q2 => by omega⟩ fun h' i' j' G' p' hlt W' o' => hq h' i' j' G' p' hlt (W.trans (W'.mono (by omega) (Nat.le_refl _))) (fun h1 h2 => ?_) o'
 rw [W'.same (.inl (by omega)) h1 (by omega), zgm la lp (by omega) la]
 split
 ·rename_i e; simp only [e]
 ·rw [if_pos rfl]
end
section
variable {X : Type} {c : X → X → Int} {a n lo r ch : Nat} {G : List X}
end
section
variable {E : zx} {X : Type} {cs : X → List AVal} {v : X → AVal} {h0 h : za} {x f : AVal} {G : List X} {R : List (List AVal)} {c : X → X → Int} {Q : AVal → za → Prop} {Y1 : List AVal → za → Prop} {a n lo r ch : Nat}
theorem sift_k1 (S : zc6 E cs v) (W : Weak (zch c)) (hc : zed C0 v c fL h0) (ho : Rw E cs h0 h x G R) (hl : G.length < 1000000000) (p : SInv c a n lo r G) (hlo : lo ≤ r) (hch : ch < n) (hp : (ch - 1) / 2 = r) (hc0 : 0 < ch)
  (hmax : ∀ k, 0 < k → k < n → (k - 1) / 2 = r → (h1 : a + ch < G.length) → (h2 : a + k < G.length) → ¬ c G[a + ch] G[a + k] < 0)
  (done : ∀ h', Heap c a n lo G → Rw E cs h0 h' x G R → Q (.tup []) h')
  (next : ∀ h' (hr : a + r < G.length) (hcl : a + ch < G.length), SInv c a n lo ch (swp G (a + r) (a + ch) hr hcl) → Rw E cs h0 h' x (swp G (a + r) (a + ch) hr hcl) R → Y1 [.int .i64 (ch : Int)] h') :
  zct.k1 C E C0 fL Q Y1 x (.int .i64 (n : Int)) (.int .i64 (a : Int)) f (.int .i64 (r : Int)) (.int .i64 (ch : Int)) h := by
 have hlen := p.len
 have lr : a + r < G.length := by omega
 have lc : a + ch < G.length := by omega
 have ar := zse (a := a) (b := r) (by omega)
 have ac := zse (a := a) (b := ch) (by omega)
 simp -dsimp only [zct.k1, ar, ac, ho.idx lr, ho.idx lc, B.ze]
 refine ho.ld S (List.getElem?_eq_getElem lr) ?_
 refine ho.ld S (List.getElem?_eq_getElem lc) ?_
 refine hc.call _ _ _ _ ho.le ?_
 simp -dsimp only [V.zfx, V.zf7, B.ze]
 refine B.zk (fun hd => ?_) (fun hd => ?_)
 ·have hd' : ¬ c G[a + r] G[a + ch] < 0 := by simpa using hd
  refine done h (p.done fun k k0 hk hkp h1 h2 => ?_) ho
  have := W.zmm (a := G[a + r]) (b := G[a + ch]) (c := G[a + k]) (by unfold zch; exact decide_eq_false hd') (by unfold zch; exact decide_eq_false (hmax k k0 hk hkp lc h2))
  unfold zch at this; exact of_decide_eq_false this
 ·have hd' : c G[a + r] G[a + ch] < 0 := by simpa using hd
  simp -dsimp only [ar, ac, ho.idx lr, ho.idx lc, B.ze]
  refine ho.ld S (List.getElem?_eq_getElem lc) ?_
  refine ho.ld S (List.getElem?_eq_getElem lr) ?_
  refine ho.st S (t := G[a + ch]) lr fun h1 o1 => ?_
  refine o1.st S (t := G[a + r]) (by simpa using lc) fun h2 o2 => ?_
  exact next h2 lr lc (p.step W hlo hch hp hc0 lr lc hd' fun k k0 hk hkp h2 => hmax k k0 hk hkp lc h2) o2
theorem zn0 (S : zc6 E cs v) (W : Weak (zch c)) (hc : zed C0 v c fL h0) (ho : Rw E cs h0 h x G R) (hl : G.length < 1000000000) (p : SInv c a n lo r G) (hlo : lo ≤ r) (hrn : r ≤ n) {b : Nat} (hb : a + n ≤ b)
  (hq : ∀ h' G', Heap c a n lo G' → zc8 a b G G' → Rw E cs h0 h' x G' R → Q (.tup []) h') :
  zct.cps C E C0 fL x (.int .i64 (r : Int)) (.int .i64 (n : Int)) (.int .i64 (a : Int)) f h Q := by
 simp -dsimp only [zct.cps]
 refine zm.intro (fun t vs hh => ∃ (r' : Nat) (G' : List X), r' + t = n ∧ vs = [.int .i64 (r' : Int)] ∧ lo ≤ r' ∧ SInv c a n lo r' G' ∧ zc8 a b G G' ∧ Rw E cs h0 hh x G' R) (n - r) ?_ ⟨r, G, by omega, rfl, hlo, p, zc8.refl _ _ _, ho⟩
 rintro Y t vs hh ⟨r', G', hrt, rfl, hlo', p', W', o⟩ hY
 have hlen := W'.len
 have pl := p'.len
 have e1 : V.bin .mul (.int .i64 2) (.int .i64 (r' : Int)) = some (.int .i64 ((2 * r' : Nat) : Int)) := mulN (a := 2) (b := r') (by omega)
 simp -dsimp only [zct.l4, zct.k3, e1, add1 (show 2 * r' < 4611686018427387904 by omega), geqN, B.ze]
 refine B.zk (fun hd => ?_) (fun hd => ?_)
 ·rw [decide_eq_true_eq] at hd
  exact hq hh G' (p'.done fun k k0 hk hkp _ _ => by omega) W' o
 ·rw [decide_eq_false_iff_not] at hd
  have fin : ∀ ch, ch < n → (ch - 1) / 2 = r' → 0 < ch → (∀ k, 0 < k → k < n → (k - 1) / 2 = r' → (h1 : a + ch < G'.length) → (h2 : a + k < G'.length) → ¬ c G'[a + ch] G'[a + k] < 0) → zct.k1 C E C0 fL Q Y x (.int .i64 (n : Int)) (.int .i64 (a : Int)) f (.int .i64 (r' : Int)) (.int .i64 (ch : Int)) hh := fun ch c1 c2 c3 c4 =>
   sift_k1 S W hc o (by omega) p' hlo' c1 c2 c3 c4 (fun h' hp o' => hq h' G' hp W' o') fun h' hr hcl p2 o2 => hY (n - ch) _ _ (by omega) ⟨ch, _, by omega, rfl, by omega, p2, W'.trans (ze6 hr hcl (by omega) (by omega) (by omega) (by omega)), o2⟩
  have irr : ∀ t : X, ¬ c t t < 0 := fun t => by
   have := W.irr t; unfold zch at this; exact of_decide_eq_false this
  have a1 := zse (a := a) (b := 2 * r' + 1) (by omega)
  simp -dsimp only [zct.k2, add1 (show 2 * r' + 1 < 4611686018427387904 by omega), lssN, B.ze]
  by_cases h2 : 2 * r' + 1 + 1 < n
  ·have l1 : a + (2 * r' + 1) < G'.length := by omega
   have l2 : a + (2 * r' + 1) + 1 < G'.length := by omega
   simp -dsimp only [h2, decide_true, B.gd_t, B.zeg, a1, add1 (show a + (2 * r' + 1) < 4611686018427387904 by omega), o.idx l1, o.idx l2, B.ze]
   refine o.ld S (List.getElem?_eq_getElem l1) ?_
   refine o.ld S (List.getElem?_eq_getElem l2) ?_
   refine hc.call _ _ _ _ o.le ?_
   simp -dsimp only [h2, decide_true, B.gd_t, B.zeg, V.zfx, B.zif, B.ze]
   refine B.zk (fun hf => ?_) (fun hf => ?_)
   ·have hf' : c G'[a + (2 * r' + 1)] G'[a + (2 * r' + 1) + 1] < 0 := by simpa using hf
    simp -dsimp only [add1 (show 2 * r' + 1 < 4611686018427387904 by omega), B.ze]
    refine fin (2 * r' + 1 + 1) h2 (by omega) (by omega) fun k k0 hk hkp h1 h3 => ?_
    rcases (show k = 2 * r' + 1 ∨ k = 2 * r' + 1 + 1 by omega) with rfl | rfl
    ·have := W.asym (a := G'[a + (2 * r' + 1)]) (b := G'[a + (2 * r' + 1) + 1]) (by unfold zch; exact decide_eq_true hf')
     unfold zch at this; exact of_decide_eq_false this
    ·exact irr _
   ·have hf' : ¬ c G'[a + (2 * r' + 1)] G'[a + (2 * r' + 1) + 1] < 0 := by simpa using hf
    refine fin (2 * r' + 1) (by omega) (by omega) (by omega) fun k k0 hk hkp h1 h3 => ?_
    rcases (show k = 2 * r' + 1 ∨ k = 2 * r' + 1 + 1 by omega) with rfl | rfl
    ·exact irr _
    ·exact hf'
  ·simp -dsimp only [h2, decide_false, B.gd_t, B.zfo, B.zje, B.cond_false]
   refine fin (2 * r' + 1) (by omega) (by omega) (by omega) fun k k0 hk hkp h1 h3 => ?_
   have : k = 2 * r' + 1 := by omega
   subst this; exact irr _
end
section
variable {X : Type} {c : X → X → Int} {a b n lo : Nat} {G G' : List X}
end
abbrev SiftI (C : CSem) (E : zx) (C0 : CSem) (fL : Nat) (f1 : Nat) : Prop := ∀ (v0 v1 v2 v3 v4 : AVal) (h : za) (Q : AVal → za → Prop), zct.cps C E C0 fL v0 v1 v2 v3 v4 h (dn Q) → C f1 [v0, v1, v2, v3, v4] h Q
section
variable {E : zx} {X : Type} {cs : X → List AVal} {v : X → AVal} {h0 h : za} {x f : AVal} {G : List X} {R : List (List AVal)} {c : X → X → Int} {Q : AVal → za → Prop} {a b : Nat}
theorem insertion_srt (S : zc6 E cs v) (W : Weak (zch c)) (hc : zed C0 v c fL h0) (ho : Rw E cs h0 h x G R) (hl : G.length ≤ 100000000) (hab : a ≤ b) (hb : b ≤ G.length)
  (hq : ∀ h' G', zc8 a b G G' → Srt c a b G' → Rw E cs h0 h' x G' R → Q (.tup []) h') : zcf.cps C E C0 fL x (.int .i64 (a : Int)) (.int .i64 (b : Int)) f h Q := by
 have e0 : ∀ (L : List X), (L.map (fun y => (y, 0))).map (fun p : X × Nat => cs p.1) = L.map cs := fun L => by rw [List.map_map]; rfl
 have e1 : ∀ (L : List (X × Nat)), L.map (fun p : X × Nat => cs p.1) = (L.map (·.1)).map cs := fun L => by rw [List.map_map]; rfl
 have lt : (G.take a).length = a := by rw [List.length_take]; omega
 have lm : ((G.take b).drop a).length = b - a := by rw [List.length_drop, List.length_take]; omega
 refine zf9 (P := (G.take a).map (fun y => (y, 0))) (M := ((G.take b).drop a).zipIdx) (U := (G.drop b).map (fun y => (y, 0))) S W ?_ ?_ hc ?_ ?_ ?_ ?_ (R := R) (h0 := h0)
 ·simp only [List.length_append, List.length_map, List.length_zipIdx, lt, lm, List.length_drop]; omega
 ·have : (((G.take b).drop a).zipIdx.map (·.2)).Pairwise (· < ·) := by
   rw [List.zipIdx_map_snd]; exact List.pairwise_lt_range'
  rwa [List.pairwise_map] at this
 ·rw [List.length_map, lt]
 ·rw [List.length_map, List.length_zipIdx, lt, lm]; omega
 ·unfold Rw
  rw [List.map_append, List.map_append, e0, e0, e1, List.zipIdx_map_fst, ← List.map_append, ← List.map_append, ← split3 hab G]
  exact ho
 ·intro h' M' hp hs ho'
  have hp' : (M'.map (·.1)).Perm ((G.take b).drop a) := by
   have := hp.map (·.1); rwa [List.zipIdx_map_fst] at this
  refine hq h' (G.take a ++ (M'.map (·.1) ++ G.drop b)) (within_mid hab hb hp') (srt_mid hab hb (by rw [hp'.length_eq, lm]) ?_) ?_
  ·rw [List.pairwise_map]
   refine hs.imp fun {x y} hxy => ?_
   have hx : zch c y.1 x.1 = false := hxy.elim (fun h => W.asym h) fun ⟨h, _⟩ => h
   unfold zch at hx; exact of_decide_eq_false hx
  ·unfold Rw at ho' ⊢
   rw [List.map_append, List.map_append, e0, e0, e1] at ho'
   rwa [List.map_append, List.map_append]
theorem heapSort_spec {f1 : Nat} (is : SiftI C E C0 fL f1) (S : zc6 E cs v) (W : Weak (zch c)) (hc : zed C0 v c fL h0) (ho : Rw E cs h0 h x G R) (hl : G.length ≤ 100000000) (hab : a < b) (hb : b ≤ G.length)
  (hq : ∀ h' G', zc8 a b G G' → Srt c a b G' → Rw E cs h0 h' x G' R → Q (.tup []) h') : zcu.cps C E C0 fL f1 x (.int .i64 (a : Int)) (.int .i64 (b : Int)) f h Q := by
 have e1 := zi9 (a := b) (b := a) (by omega) (by omega)
 obtain ⟨n, hn⟩ : ∃ n, n = b - a := ⟨_, rfl⟩
 have e2 : V.bin .quo (.int .i64 ((n - 1 : Nat) : Int)) (.int .i64 2) = some (.int .i64 (((n - 1) / 2 : Nat) : Int)) := by
  rw [V.bin_quo _ _ _ (by omega), show ((n - 1 : Nat) : Int).tdiv 2 = (((n - 1) / 2 : Nat) : Int) from rfl, wrap_i64 (by omega) (by omega)]
 have m1 : ∀ k : Nat, k ≤ 100000000 → V.bin .sub (.int .i64 (k : Int)) (.int .i64 1) = some (.int .i64 ((k : Int) - 1)) := fun k hk => by
  rw [V.zf3, wrap_i64 (by omega) (by omega)]
 have m2 : ∀ k : Nat, k ≤ 100000000 → V.bin .sub (.int .i64 ((k + 1 : Nat) - 1 : Int)) (.int .i64 1) = some (.int .i64 ((k : Int) - 1)) := fun k hk => by
  rw [V.zf3, wrap_i64 (by omega) (by omega)]; congr 2; omega
 simp -dsimp only [zcu.cps, zcu.k5, e1, B.ze]
 rw [← hn]
 simp -dsimp only [sub1 (show 1 ≤ n by omega) (by omega), e2, B.ze]
 refine zm.intro (fun t vs hh => ∃ (G' : List X), vs = [.int .i64 ((t : Int) - 1)] ∧ t ≤ n ∧ Heap c a n t G' ∧ zc8 a b G G' ∧ Rw E cs h0 hh x G' R) ((n - 1) / 2 + 1) ?_ ⟨G, by congr 2; omega, by omega, Heap.none_ (by omega), zc8.refl _ _ _, ho⟩
 rintro Y t vs hh ⟨G1, rfl, htn, p1, W1, o1⟩ hY
 have l1 := W1.len
 simp -dsimp only [zcu.l4, zcu.k3, V.znu, B.ze]
 cases t with
 | succ k =>
  rw [show decide ((0 : Int) ≤ ((k + 1 : Nat) : Int) - 1) = true by simp, B.cond_true, show (((k + 1 : Nat) : Int) - 1) = (k : Int) by omega]
  refine is _ _ _ _ _ _ _ (zn0 (b := b) S W hc o1 (by omega) (p1.sinv (by omega)) (Nat.le_refl _) (by omega) (by omega) fun h2 G2 p2 w2 o2 => zba ?_)
  simp -dsimp only [m1 k (by omega), B.ze]
  exact hY k _ _ (by omega) ⟨G2, rfl, by omega, p2, W1.trans w2, o2⟩
 | zero =>
  rw [show decide ((0 : Int) ≤ ((0 : Nat) : Int) - 1) = false by simp, B.cond_false]
  simp -dsimp only [m1 n (by omega), B.ze]
  refine zm.intro (fun t vs hh => ∃ (G' : List X), vs = [.int .i64 ((t : Int) - 1)] ∧ t ≤ n ∧ Heap c a t 0 G' ∧ Cut c a b a (a + t) G' ∧ zc8 a b G G' ∧ Rw E cs h0 hh x G' R) n ?_ ⟨G1, rfl, Nat.le_refl _, p1, fun p q _ _ h3 h4 => by omega, W1, o1⟩
  rintro Z t vs hh ⟨G2, rfl, htn, p2, c2, W2, o2⟩ hZ
  have l2 := W2.len
  simp -dsimp only [zcu.l2, zcu.k1, V.znu, B.ze]
  cases t with
  | zero =>
   rw [show decide ((0 : Int) ≤ ((0 : Nat) : Int) - 1) = false by simp, B.cond_false]
   exact hq hh G2 W2 (c2.small (by omega)) o2
  | succ k =>
   rw [show decide ((0 : Int) ≤ ((k + 1 : Nat) : Int) - 1) = true by simp, B.cond_true, show (((k + 1 : Nat) : Int) - 1) = (k : Int) by omega]
   have ac := zse (a := a) (b := k) (by omega)
   have la : a < G2.length := by omega
   have lk : a + k < G2.length := by omega
   simp -dsimp only [ac, o2.idx la, o2.idx lk, B.ze]
   refine o2.ld S (List.getElem?_eq_getElem lk) ?_
   refine o2.ld S (List.getElem?_eq_getElem la) ?_
   refine o2.swap S la lk fun h3 o3 => ?_
   have hsl := zjp la lk
   have w3 : zc8 a (a + (k + 1)) G2 (swp G2 a (a + k) la lk) := ze6 la lk (by omega) (by omega) (by omega) (by omega)
   have c3 := c2.within w3 (Nat.le_refl _) (by omega)
   have c4 : Cut c a b a (a + k) (swp G2 a (a + k) la lk) := fun p q h1 h2 h3 h4 h5 h6 => by
    by_cases e : a + (k + 1) ≤ q
    ·exact c3 p q h1 h2 h3 (.inr e) h5 h6
    ·have : q = a + k := by omega
     subst this
     rw [zgm la lk h6 (by omega), if_pos rfl, zgm la lk h5 (by omega), if_neg (by omega)]
     split
     ·exact p2.root W (by omega) k (by omega)
     ·have := p2.root W (by omega) (p - a) (by omega)
      simpa only [show a + (p - a) = p by omega] using this
   have s3 : SInv c a k 0 0 (swp G2 a (a + k) la lk) := ⟨by omega, fun j j0 hj _ hne h1 h2 => by
    rw [zgm la lk h1 (by omega), if_neg (by omega), if_neg (by omega), zgm la lk h2 (by omega), if_neg (by omega), if_neg (by omega)]
    exact p2 j j0 (by omega) (by omega) (by omega) (by omega), fun _ h => by omega⟩
   refine is _ _ _ _ _ _ _ (zn0 (r := 0) (b := a + k) S W hc o3 (by omega) s3 (Nat.le_refl _) (by omega) (by omega) fun h4 G4 p4 w4 o4 => zba ?_)
   simp -dsimp only [m1 k (by omega), B.ze]
   exact hZ k _ _ (by omega) ⟨G4, rfl, by omega, p4, c4.within w4 (Nat.le_refl _) (by omega), (W2.trans (w3.mono (Nat.le_refl _) (by omega))).trans (w4.mono (Nat.le_refl _) (by omega)), o4⟩
end
section
variable {X : Type} {c : X → X → Int} {A B j : Nat} {G : List X}
end
section
variable {E : zx} {X : Type} {cs : X → List AVal} {v : X → AVal} {h0 h : za} {x f : AVal} {G : List X} {R : List (List AVal)} {c : X → X → Int} {Q : AVal → za → Prop} {Y1 : List AVal → za → Prop} {a b i s : Nat}
theorem pis_k3 (S : zc6 E cs v) (hc : zed C0 v c fL h0) (ho : Rw E cs h0 h x G R) (hl : G.length ≤ 100000000) (hi0 : 0 < i) (hi : i < b) (hb : b ≤ G.length) (hs : s ≤ 5)
  (hY : ∀ h' G', zc8 i b G G' → Rw E cs h0 h' x G' R → Y1 [.int .i64 (i : Int), .int .i64 ((s + 1 : Nat) : Int)] h') :
  zf.k3 C E C0 fL Q Y1 x (.int .i64 (a : Int)) (.int .i64 (b : Int)) f (.int .i64 (i : Int)) (.int .i64 (s : Int)) h := by
 have hge : V.bin .geq (.int .i64 ((b - i : Nat) : Int)) (.int .i64 2) = some (.bool (decide (2 ≤ b - i))) := geqN (b := 2)
 simp -dsimp only [zf.k3, zi9 (show i ≤ b by omega) (by omega), hge, add1 (show s < 4611686018427387904 by omega), add1 (show i < 4611686018427387904 by omega), B.ze]
 refine B.zk (fun hd => ?_) (fun hd => ?_)
 rotate_left
 ·simp -dsimp only [add1 (show s < 4611686018427387904 by omega), B.ze]
  exact hY h G (zc8.refl _ _ _) ho
 rw [decide_eq_true_eq] at hd
 simp -dsimp only [add1 (show i < 4611686018427387904 by omega), B.ze]
 refine zm.intro (fun t vs hh => ∃ (j : Nat) (G' : List X), j + t = b ∧ vs = [.int .i64 (j : Int)] ∧ i < j ∧ zc8 i b G G' ∧ Rw E cs h0 hh x G' R) (b - (i + 1)) ?_ ⟨i + 1, G, by omega, rfl, by omega, zc8.refl _ _ _, ho⟩
 rintro Y t vs hh ⟨j, G1, hjt, rfl, hij, W1, o⟩ hY2
 have hlen := W1.len
 simp -dsimp only [zf.l2, zf.k1, lssN, B.ze]
 refine B.zk (fun he => ?_) (fun he => ?_)
 ·rw [decide_eq_true_eq] at he
  have lj : j < G1.length := by omega
  have lj1 : j - 1 < G1.length := by omega
  have sj := sub1 (a := j) (by omega) (by omega)
  simp -dsimp only [sj, o.idx lj, o.idx lj1, B.ze]
  refine o.ld S (List.getElem?_eq_getElem lj) ?_
  refine o.ld S (List.getElem?_eq_getElem lj1) ?_
  refine hc.call _ _ _ _ o.le ?_
  simp -dsimp only [V.zfx, V.zf7, B.ze]
  refine B.zk (fun hd => ?_) (fun hd => ?_)
  ·simp -dsimp only [add1 (show s < 4611686018427387904 by omega), B.ze]
   exact hY hh G1 W1 o
  ·simp -dsimp only [sj, o.idx lj, o.idx lj1, B.ze]
   refine o.ld S (List.getElem?_eq_getElem lj1) ?_
   refine o.ld S (List.getElem?_eq_getElem lj) ?_
   refine o.swap S lj lj1 fun h2 o2 => ?_
   simp -dsimp only [add1 (show j < 4611686018427387904 by omega), B.ze]
   exact hY2 (b - (j + 1)) _ _ (by omega) ⟨j + 1, _, by omega, rfl, by omega, W1.trans (ze6 lj lj1 (by omega) (by omega) (by omega) (by omega)), o2⟩
 ·simp -dsimp only [add1 (show s < 4611686018427387904 by omega), B.ze]
  exact hY hh G1 W1 o
theorem pis_k6 (S : zc6 E cs v) (W : Weak (zch c)) (hc : zed C0 v c fL h0) (ho : Rw E cs h0 h x G R) (hl : G.length ≤ 100000000) (hai : a < i) (hi : i < b) (hb : b ≤ G.length) (hs : s ≤ 5) (hp : Pre c a b G) (h1 : But1 c a i (i - 1) G)
  (hY : ∀ h' G', zc8 a b G G' → Srt c a i G' → Rw E cs h0 h' x G' R → Y1 [.int .i64 (i : Int), .int .i64 ((s + 1 : Nat) : Int)] h') :
  zf.k6 C E C0 fL Q Y1 x (.int .i64 (a : Int)) (.int .i64 (b : Int)) f (.int .i64 (i : Int)) (.int .i64 (s : Int)) h := by
 have fin : ∀ {hh G1}, Rw E cs h0 hh x G1 R → zc8 a b G G1 → Srt c a i G1 → zf.k3 C E C0 fL Q Y1 x (.int .i64 (a : Int)) (.int .i64 (b : Int)) f (.int .i64 (i : Int)) (.int .i64 (s : Int)) hh := fun {hh G1} o W1 s1 => by
  have l1 := W1.len
  refine pis_k3 S hc o (by omega) (by omega) hi (by omega) hs fun h2 G2 W2 o2 => hY h2 G2 (W1.trans (W2.mono (by omega) (Nat.le_refl _))) (fun p q h1 h2 h3 h4 h5 => ?_) o2
  have l2 := W2.len
  rw [W2.same (k := p) (.inl (by omega)) h4 (by omega), W2.same (k := q) (.inl (by omega)) h5 (by omega)]
  exact s1 p q h1 h2 h3 _ _
 have hge : V.bin .geq (.int .i64 ((i - a : Nat) : Int)) (.int .i64 2) = some (.bool (decide (2 ≤ i - a))) := geqN (b := 2)
 simp -dsimp only [zf.k6, zi9 (show a ≤ i by omega) (by omega), hge, sub1 (show 1 ≤ i by omega) (by omega), B.ze]
 refine B.zk (fun hd => ?_) (fun hd => ?_)
 ·simp -dsimp only [sub1 (show 1 ≤ i by omega) (show i < 4611686018427387904 by omega), B.ze]
  refine zm.intro (fun t vs hh => ∃ (G' : List X), vs = [.int .i64 (t : Int)] ∧ a ≤ t ∧ t < i ∧ But1 c a i t G' ∧ zc8 a b G G' ∧ Rw E cs h0 hh x G' R) (i - 1) ?_ ⟨G, rfl, by omega, by omega, h1, zc8.refl _ _ _, ho⟩
  rintro Y j vs hh ⟨G1, rfl, haj, hji, b1, W1, o⟩ hY2
  have hlen := W1.len
  have lj : j < G1.length := by omega
  have hg1 : V.bin .geq (.int .i64 (j : Int)) (.int .i64 1) = some (.bool (decide (1 ≤ j))) := geqN (b := 1)
  simp -dsimp only [zf.l5, zf.k4, hg1, B.ze]
  refine B.zk (fun he => ?_) (fun he => ?_)
  ·rw [decide_eq_true_eq] at he
   have lj1 : j - 1 < G1.length := by omega
   have sj := sub1 (a := j) (by omega) (by omega)
   simp -dsimp only [sj, o.idx lj, o.idx lj1, B.ze]
   refine o.ld S (List.getElem?_eq_getElem lj) ?_
   refine o.ld S (List.getElem?_eq_getElem lj1) ?_
   refine hc.call _ _ _ _ o.le ?_
   simp -dsimp only [V.zfx, V.zf7, B.ze]
   refine B.zk (fun hd => ?_) (fun hd => ?_)
   ·exact fin o W1 (b1.done W lj (.inr fun _ => by simpa using hd))
   ·have hlt : c G1[j] G1[j - 1] < 0 := by simpa using hd
    have haj2 : a < j := by
     rcases Nat.lt_or_ge a j with k | k
     ·exact k
     ·have : j = a := by omega
      subst this
      exact absurd hlt ((hp.within W1) (by omega) j (Nat.le_refl _) (by omega) _ _)
    simp -dsimp only [sj, o.idx lj, o.idx lj1, B.ze]
    refine o.ld S (List.getElem?_eq_getElem lj1) ?_
    refine o.ld S (List.getElem?_eq_getElem lj) ?_
    refine o.swap S lj lj1 fun h2 o2 => ?_
    exact hY2 (j - 1) _ _ (by omega) ⟨_, rfl, by omega, by omega, b1.step W haj2 lj lj1 hlt, W1.trans (ze6 lj lj1 (by omega) (by omega) (by omega) (by omega)), o2⟩
  ·rw [decide_eq_false_iff_not] at he
   exact fin o W1 (b1.done W lj (.inl (by omega)))
 ·rw [decide_eq_false_iff_not] at hd
  exact fin ho (zc8.refl _ _ _) fun p q _ _ _ _ _ => by omega
theorem zju (S : zc6 E cs v) (W : Weak (zch c)) (hc : zed C0 v c fL h0) (ho : Rw E cs h0 h x G R) (hl : G.length ≤ 100000000) (hab : a < b) (hb : b ≤ G.length) (hp : Pre c a b G)
  (hq : ∀ h' G' t, zc8 a b G G' → (t = true → Srt c a b G') → Rw E cs h0 h' x G' R → Q (.bool t) h') :
  zf.cps C E C0 fL x (.int .i64 (a : Int)) (.int .i64 (b : Int)) f h Q := by
 simp -dsimp only [zf.cps, add1 (show a < 4611686018427387904 by omega), B.ze]
 refine zm.intro (fun t vs hh => ∃ (s i : Nat) (G' : List X), s + t = 5 ∧ vs = [.int .i64 (i : Int), .int .i64 (s : Int)] ∧ a < i ∧ i ≤ b ∧ Srt c a i G' ∧ zc8 a b G G' ∧ Rw E cs h0 hh x G' R) 5 ?_ ⟨0, a + 1, G, rfl, rfl, by omega, by omega, fun p q _ _ _ _ _ => by omega, zc8.refl _ _ _, ho⟩
 rintro Y t vs hh ⟨s, i, G1, hst, rfl, hai, hib, s1, W1, o⟩ hY
 have hl1 := W1.len
 have h5 : V.bin .lss (.int .i64 (s : Int)) (.int .i64 5) = some (.bool (decide (s < 5))) := lssN (b := 5)
 simp -dsimp only [zf.l12, zf.k11, h5, B.ze]
 refine B.zk (fun hd => ?_) (fun hd => hq hh G1 false W1 (fun h => by cases h) o)
 rw [decide_eq_true_eq] at hd
 refine zm.intro (fun t vs hh => ∃ (i : Nat), i + t = b ∧ vs = [.int .i64 (i : Int)] ∧ a < i ∧ Srt c a i G1 ∧ Rw E cs h0 hh x G1 R) (b - i) ?_ ⟨i, by omega, rfl, hai, s1, o⟩
 rintro Z t vs hh ⟨i, hit, rfl, hai, s2, o2⟩ hZ
 simp -dsimp only [zf.l10, zf.k9, lssN, B.ze]
 by_cases hd2 : i < b
 ·have li : i < G1.length := by omega
  have li1 : i - 1 < G1.length := by omega
  have si := sub1 (a := i) (by omega) (by omega)
  simp -dsimp only [hd2, decide_true, B.gd_t, B.zeg, si, o2.idx li, o2.idx li1, B.ze]
  refine o2.ld S (List.getElem?_eq_getElem li) ?_
  refine o2.ld S (List.getElem?_eq_getElem li1) ?_
  refine hc.call _ _ _ _ o2.le ?_
  simp -dsimp only [hd2, decide_true, B.gd_t, B.zeg, V.zfx, V.zf7, B.zif, B.ze]
  refine B.zk (fun he => ?_) (fun he => ?_)
  ·have hnl : ¬ c G1[i] G1[i - 1] < 0 := by simpa using he
   simp -dsimp only [add1 (show i < 4611686018427387904 by omega), B.ze]
   refine hZ (t - 1) _ _ (by omega) ⟨i + 1, by omega, rfl, by omega, ?_, o2⟩
   exact But1.done W (j := i) (fun p q h1 h2 h3 h4 h5 h6 => s2 p q h1 h2 (by omega) h5 h6) li (.inr fun _ => hnl)
  ·have hlt : c G1[i] G1[i - 1] < 0 := by simpa using he
   have hne : V.bin .eql (.int .i64 (i : Int)) (.int .i64 (b : Int)) = some (.bool false) := by rw [V.zh0]; simp; omega
   simp -dsimp only [hne, B.ze, B.cond_false, zf.k8, zf.k7, zi9 (show a ≤ b by omega) (show b < 4611686018427387904 by omega)]
   rw [show V.bin .lss (.int .i64 ((b - a : Nat) : Int)) (.int .i64 50) = some (.bool (decide (b - a < 50))) from lssN (b := 50)]
   simp -dsimp only [B.ze]
   refine B.zk (fun hf => hq hh G1 false W1 (fun h => by cases h) o2) (fun hf => ?_)
   simp -dsimp only [zf.k7, si, o2.idx li, o2.idx li1, B.ze]
   refine o2.ld S (List.getElem?_eq_getElem li1) ?_
   refine o2.ld S (List.getElem?_eq_getElem li) ?_
   refine o2.swap S li li1 fun h3 o3 => ?_
   have hsl := zjp li li1
   have w3 : zc8 a b G1 (swp G1 i (i - 1) li li1) := ze6 li li1 (by omega) (by omega) (by omega) (by omega)
   have W3 := W1.trans w3
   refine pis_k6 S W hc o3 (by omega) hai hd2 (by omega) (by omega) (hp.within W3) (fun p q h1 h2 h3 h4 h5 h6 => ?_) fun h4 G4 W4 s4 o4 => hY (5 - (s + 1)) _ _ (by omega) ⟨s + 1, i, G4, by omega, rfl, hai, by omega, s4, W3.trans W4, o4⟩
   rw [zgm li li1 h6 (by omega), if_neg h4, if_neg (by omega), zgm li li1 h5 (by omega), if_neg (by omega), if_neg (by omega)]
   exact s2 p q h1 h2 h3 _ _
 ·have e : i = b := by omega
  subst e
  have heq : V.bin .eql (.int .i64 (i : Int)) (.int .i64 (i : Int)) = some (.bool true) := by rw [V.zh0]; simp
  simp -dsimp only [hd2, decide_false, B.gd_t, B.zfo, B.zje, B.cond_false, heq, B.cond_true, B.ze]
  exact hq hh G1 true W1 (fun _ => s2) o2
end
variable {C C0 : CSem} {fL : Nat} {N : Nat → Nat}
section
variable {E : zx} {X : Type} {cs : X → List AVal} {v : X → AVal} {h0 h : za} {x f : AVal} {G : List X} {R : List (List AVal)} {Q : AVal → za → Prop} {a b : Nat}
theorem zov {f1 f2 : Nat} (hn : NextI C0 f1) (hp : PowI C0 f2) (S : zc6 E cs v) (ho : Rw E cs h0 h x G R) (hl : G.length ≤ 100000000) (hab : a ≤ b) (hb : b ≤ G.length)
  (hq : ∀ h' G', zc8 a b G G' → Rw E cs h0 h' x G' R → Q (.tup []) h') : zy.cps C E C0 fL f1 f2 x (.int .i64 (a : Int)) (.int .i64 (b : Int)) f h Q := by
 obtain ⟨n, en⟩ : ∃ n, n = b - a := ⟨_, rfl⟩
 have e1 := zi9 hab (show b < 4611686018427387904 by omega)
 rw [← en] at e1
 have g8 : V.bin .geq (.int .i64 (n : Int)) (.int .i64 8) = some (.bool (decide (8 ≤ n))) := geqN (b := 8)
 simp -dsimp only [zy.cps, zy.k8, e1, g8, B.ze]
 refine B.zk (fun hd => ?_) (fun hd => hq h G (zc8.refl _ _ _) ho)
 rw [decide_eq_true_eq] at hd
 simp -dsimp only [zy.k7, toUN (show n < 18446744073709551616 by omega), B.ze]
 intro id hid
 have o := Owns.zj9 ho hid [.int .u64 0]
 simp only [List.cons_append, List.nil_append] at o
 refine o.znt 1 (off := 0) rfl rfl (by simp) fun h1 o1 _ => ?_
 simp only [List.set_cons_succ, List.set_cons_zero] at o1
 refine hp n _ _ (by omega) (by omega) fun m hm0 hm => ?_
 have m4 : V.bin .quo (.int .i64 (n : Int)) (.int .i64 4) = some (.int .i64 ((n / 4 : Nat) : Int)) := quo4 (by omega)
 have m2 : V.bin .mul (.int .i64 ((n / 4 : Nat) : Int)) (.int .i64 2) = some (.int .i64 ((n / 4 * 2 : Nat) : Int)) := mulN (a := n / 4) (b := 2) (by omega)
 have m5 : V.bin .add (.int .i64 (a : Int)) (.int .i64 ((n / 4 * 2 : Nat) : Int)) = some (.int .i64 ((a + n / 4 * 2 : Nat) : Int)) := zse (by omega)
 simp -dsimp only [zy.k6, m4, m2, m5, sub1 (show 1 ≤ a + n / 4 * 2 by omega) (by omega), B.ze]
 refine zm.intro (fun t vs hh => ∃ (i : Nat) (G' : List X) (z : Int), i + t = a + n / 4 * 2 + 2 ∧ vs = [.int .i64 (i : Int)] ∧ a ≤ i ∧ zc8 a b G G' ∧ Owns h0 hh [.sl E.es x (G'.map cs) R, .box (.ptr id 0 0) [.int .u64 z]]) 3 ?_ ⟨a + n / 4 * 2 - 1, G, _, by omega, rfl, by omega, zc8.refl _ _ _, o1⟩
 rintro Y t vs hh ⟨i, G1, z, hit, rfl, hai, W1, o2⟩ hY
 have l1 := W1.len
 simp -dsimp only [zy.l5, zy.k4, m4, m2, m5, add1 (show a + n / 4 * 2 < 4611686018427387904 by omega), leqN, B.ze]
 refine B.zk (fun he => ?_) (fun he => hq hh G1 W1 (o2.sub (by simp)))
 rw [decide_eq_true_eq] at he
 have oo := Owns.out (l1 := [.sl E.es x (G1.map cs) R]) (l2 := [.box (.ptr id 0 0) [.int .u64 z]]) o2
 simp -dsimp only [zy.k3]
 refine hn _ _ _ _ _ oo.2 fun w z' h3 o3 => ?_
 have o4 := oo.1.join o3
 have s1 : V.bin .sub (.int .u64 (m : Int)) (.int .u64 1) = some (.int .u64 ((m - 1 : Nat) : Int)) := by
  rw [V.zf3, show (m : Int) - 1 = ((m - 1 : Nat) : Int) by omega, wrapU (by omega)]
 obtain ⟨ot, hot, ea⟩ := and_le (z := w) (m := m - 1) (by omega)
 simp -dsimp only [s1, ea, toIN (show ot < 4611686018427387904 by omega), B.ze, zy.k2, geqN]
 have fin : ∀ k : Nat, k < n → zy.k1 C E C0 fL f1 f2 Q Y x (.int .i64 (a : Int)) (.int .i64 (n : Int)) (.ptr id 0 0) (.int .u64 (m : Int)) (.int .i64 (i : Int)) (.int .i64 (k : Int)) h3 := fun k hk => by
  have la : a + k < G1.length := by omega
  have li : i < G1.length := by omega
  have op := Owns.perm o4 (List.Perm.swap _ _ [])
  have oq := Owns.out (l1 := [.box (.ptr id 0 0) [.int .u64 z']]) (l2 := [.sl E.es x (G1.map cs) R]) op
  have orw : Rw E cs _ h3 x G1 R := oq.2
  simp -dsimp only [zy.k1, zse (show a + k < 4611686018427387904 by omega), orw.idx la, orw.idx li, B.ze]
  refine orw.ld S (List.getElem?_eq_getElem la) ?_
  refine orw.ld S (List.getElem?_eq_getElem li) ?_
  refine orw.swap S li la fun h5 o5 => ?_
  simp -dsimp only [add1 (show i < 4611686018427387904 by omega), B.ze]
  have o6 := oq.1.join o5
  exact hY (a + n / 4 * 2 + 2 - (i + 1)) _ _ (by omega) ⟨i + 1, _, z', by omega, rfl, by omega, W1.trans (ze6 li la (by omega) (by omega) (by omega) (by omega)), o6.perm (List.Perm.swap _ _ [])⟩
 refine B.zk (fun hf => ?_) (fun hf => ?_)
 ·rw [decide_eq_true_eq] at hf
  simp -dsimp only [zi9 hf (show ot < 4611686018427387904 by omega), B.ze]
  exact fin (ot - n) (by omega)
 ·rw [decide_eq_false_iff_not] at hf
  exact fin ot (by omega)
end
section
variable {X : Type} {c : X → X → Int} {a b m A0 Z0 : Nat} {G G' : List X}
end
structure PdqI (C : CSem) (E : zx) (C0 : CSem) (fL : Nat) (f1 f2 f3 f4 f5 f6 f7 f8 f9 g1 g2 g3 g4 g5 g6 : Nat) : Prop where
 eq : I5 (zt.cps C E C0 fL) C f1
 part : I5 (zh.cps C E C0 fL) C f2
 pdq : I5 (z8.cps C E C0 fL f1 f2 f3 f4 f5 f6 f7 f8 f9) C f3
 pis : I4 (zf.cps C E C0 fL) C f4
 rev : I4 (zdu.cps C E C0 fL) C f5
 piv : I4 (z9.cps C E C0 fL g2 g3) C f6
 brk : I4 (zy.cps C E C0 fL g5 g6) C f7
 heap : I4 (zcu.cps C E C0 fL g4) C f8
 ins : I4 (zcf.cps C E C0 fL) C f9
 ord : O2I C E C0 fL g1
 med : MedI C E C0 fL g1 g2
 adj : AdjI C E C0 fL g2 g3
 sift : SiftI C E C0 fL g4
 next : NextI C0 g5
 pow : PowI C0 g6
section
variable {E : zx} {X : Type} {cs : X → List AVal} {v : X → AVal} {h0 h : za} {x f : AVal} {G : List X} {R : List (List AVal)} {c : X → X → Int} {Q : AVal → za → Prop} {Y : List AVal → za → Prop} {f1 f2 f3 f4 f5 f6 f7 f8 f9 g1 g2 g3 g4 g5 g6 : Nat}
theorem pdq_k1 (J : PdqI C E C0 fL f1 f2 f3 f4 f5 f6 f7 f8 f9 g1 g2 g3 g4 g5 g6) (S : zc6 E cs v) (W : Weak (zch c)) (hc : zed C0 v c fL h0) {A0 Z0 a b : Nat} {G0 : List X} {lim : Int} {w1 w2 : Bool} {pv : Nat} (p : PS E cs h0 x R c A0 Z0 G0 a b G h) (hl : G.length ≤ 100000000) (hBl : Z0 ≤ G.length)
  (h1 : a ≤ pv) (h2 : pv < b)
  (rcs : ∀ (a' b' : Nat) (lim : Int) (h : za) (G : List X) (Q : AVal → za → Prop), b' - a' < b - a → a' ≤ b' → b' ≤ G.length → G.length ≤ 100000000 → Pre c a' b' G → Rw E cs h0 h x G R → (∀ h' G', zc8 a' b' G G' → Srt c a' b' G' → Rw E cs h0 h' x G' R → Q (.tup []) h') →
   C f3 [x, .int .i64 (a' : Int), .int .i64 (b' : Int), .int .i64 lim, f] h Q)
  (hY : Go1 E cs h0 x R c A0 Z0 G0 (b - a) Y) :
  z8.k1 C E C0 fL f1 f2 f3 f4 f5 f6 f7 f8 f9 Q Y x (.int .i64 (a : Int)) (.int .i64 (b : Int)) (.int .i64 lim) f (.bool w1) (.bool w2) (.int .i64 ((b - a : Nat) : Int)) (.int .i64 (pv : Int)) h := by
 have hA := p.hA; have hB := p.hB; have o := p.o
 have lp : pv < G.length := by omega
 have part : z8.k1 C E C0 fL f1 f2 f3 f4 f5 f6 f7 f8 f9 Q Y x (.int .i64 (a : Int)) (.int .i64 (b : Int)) (.int .i64 lim) f (.bool w1) (.bool w2) (.int .i64 ((b - a : Nat) : Int)) (.int .i64 (pv : Int)) h =
  z8.k1 C E C0 fL f1 f2 f3 f4 f5 f6 f7 f8 f9 Q Y x (.int .i64 (a : Int)) (.int .i64 (b : Int)) (.int .i64 lim) f (.bool w1) (.bool w2) (.int .i64 ((b - a : Nat) : Int)) (.int .i64 (pv : Int)) h := rfl
 clear part
 have part : C f2 [x, .int .i64 (a : Int), .int .i64 (b : Int), .int .i64 (pv : Int), f] h (fun v111 h =>
  B.pv (V.ext 0 v111) fun v112 =>
  B.pv (V.ext 1 v111) fun v113 =>
  B.pv (V.bin .sub v112 (.int .i64 (a : Int))) fun v117 =>
  B.pv (V.bin .sub (.int .i64 (b : Int)) v112) fun v120 =>
  B.pv (V.bin .quo (.int .i64 ((b - a : Nat) : Int)) (.int .i64 8)) fun v122 =>
  B.pv (V.bin .lss v117 v120) fun v125 =>
  B.cond v125
  (B.pv (V.bin .geq v117 v122) fun v128 =>
  B.call C f3 [x, .int .i64 (a : Int), v112, .int .i64 lim, f] h fun v134 h =>
  B.pv (V.bin .add v112 (.int .i64 1)) fun v136 =>
  Y [v136, .int .i64 (b : Int), .int .i64 lim, v128, v113] h)
  (B.pv (V.bin .geq v120 v122) fun v139 =>
  B.pv (V.bin .add v112 (.int .i64 1)) fun v142 =>
  B.call C f3 [x, v142, .int .i64 (b : Int), .int .i64 lim, f] h fun v146 h =>
  Y [.int .i64 (a : Int), v112, .int .i64 lim, v139, v113] h)) := by
  refine J.part _ _ _ _ _ _ _ (zsl S hc o (by omega) h1 h2 (by omega) fun h3 m G3 t pt W3 o3 => zba ?_)
  have p3 := p.turn W3 o3
  have l3 := W3.len
  have m1 := pt.ge; have m2 := pt.lt
  have q8 : V.bin .quo (.int .i64 ((b - a : Nat) : Int)) (.int .i64 8) = some (.int .i64 (((b - a) / 8 : Nat) : Int)) := by
   rw [V.bin_quo _ _ _ (by omega), show ((b - a : Nat) : Int).tdiv 8 = (((b - a) / 8 : Nat) : Int) from rfl, wrap_i64 (by omega) (by omega)]
  simp -dsimp only [V.zjy, List.getElem?_cons_zero, List.getElem?_cons_succ, B.ze, zi9 m1 (show m < 4611686018427387904 by omega), zi9 (show m ≤ b by omega) (show b < 4611686018427387904 by omega), q8, lssN, geqN, add1 (show m < 4611686018427387904 by omega)]
  refine B.zk (fun hd => ?_) (fun hd => ?_)
  ·simp -dsimp only [geqN, add1 (show m < 4611686018427387904 by omega), B.ze]
   refine rcs a m lim _ G3 _ (by omega) m1 (by omega) (by omega) (p3.pre.sub (by omega)) o3 fun h4 G4 W4 s4 o4 => ?_
   have pt4 := pt.left W W4
   have cut4 := (p3.cut.within (W4.mono (Nat.le_refl _) (by omega)) hA hB).left W pt4 s4
   simp -dsimp only [add1 (show m < 4611686018427387904 by omega), B.ze]
   exact hY (m + 1) b lim _ _ G4 h4 (by omega) ⟨by omega, by omega, hB, p3.W.trans (W4.mono hA (by omega)), cut4, cut4.pre (by omega) hB, o4⟩
  ·have c3 : Pre c (m + 1) b G3 := fun h0 i k1 k2 k3 k4 => pt.pair W (p := m + 1 - 1) (q := i) (by omega) (by omega) k2 (by omega) (by omega) k4 k3
   simp -dsimp only [geqN, add1 (show m < 4611686018427387904 by omega), B.ze]
   refine rcs (m + 1) b lim _ G3 _ (by omega) (by omega) (by omega) (by omega) c3 o3 fun h4 G4 W4 s4 o4 => ?_
   have pt4 := pt.right W W4
   have W4' : zc8 a b G3 G4 := W4.mono (by omega) (Nat.le_refl _)
   have cut4 := (p3.cut.within W4' hA hB).right W pt4 s4
   exact hY a m lim _ _ G4 h4 (by omega) ⟨hA, m1, by omega, p3.W.trans (W4.mono (by omega) hB), cut4, (p3.pre.within W4').sub (by omega), o4⟩
 simp -dsimp only [z8.k1]
 have g0 : V.bin .gtr (.int .i64 (a : Int)) (.int .i64 0) = some (.bool (decide (0 < a))) := gtrN (b := 0)
 simp -dsimp only [g0, B.ze]
 by_cases ha : 0 < a
 ·have la : a - 1 < G.length := by omega
  simp -dsimp only [ha, decide_true, B.gd_t, B.zeg, sub1 (show 1 ≤ a by omega) (show a < 4611686018427387904 by omega), o.idx la, o.idx lp, B.ze]
  refine o.ld S (List.getElem?_eq_getElem la) ?_
  refine o.ld S (List.getElem?_eq_getElem lp) ?_
  refine hc.call _ _ _ _ o.le ?_
  simp -dsimp only [ha, decide_true, B.gd_t, B.zeg, V.zfx, V.zf7, B.zif, B.ze]
  refine B.zk (fun he => ?_) (fun he => part)
  have hd : ¬ c G[a - 1] G[pv] < 0 := by simpa using he
  refine J.eq _ _ _ _ _ _ _ (zm6 S hc o (by omega) h1 h2 (by omega) fun h3 i j G3 pe hji W3 e3 o3 => zba ?_)
  have p3 := p.turn W3 o3
  have l3 := W3.len
  have k1 := pe.hi; have k2 := pe.hij; have k3 := pe.hj
  have cut4 := p3.cut.equal W pe hji ha p3.pre (by omega) fun q1 q2 => by
   rw [e3 q2 lp, W3.same (.inl (by omega)) q1 la]; exact hd
  exact hY i b lim _ _ G3 h3 (by omega) ⟨by omega, by omega, hB, p3.W, cut4, cut4.pre (by omega) hB, o3⟩
 ·simp -dsimp only [ha, decide_false, B.gd_t, B.zfo, B.zje, B.cond_false]
  exact part
theorem pdq_spec (J : PdqI C E C0 fL f1 f2 f3 f4 f5 f6 f7 f8 f9 g1 g2 g3 g4 g5 g6) (S : zc6 E cs v) (W : Weak (zch c)) (hc : zed C0 v c fL h0) : ∀ (n : Nat) (A0 Z0 : Nat) (lim : Int) (h : za) (G : List X) (Q : AVal → za → Prop), Z0 - A0 = n → A0 ≤ Z0 → Z0 ≤ G.length → G.length ≤ 100000000 → Pre c A0 Z0 G → Rw E cs h0 h x G R →
  (∀ h' G', zc8 A0 Z0 G G' → Srt c A0 Z0 G' → Rw E cs h0 h' x G' R → Q (.tup []) h') → z8.cps C E C0 fL f1 f2 f3 f4 f5 f6 f7 f8 f9 x (.int .i64 (A0 : Int)) (.int .i64 (Z0 : Int)) (.int .i64 lim) f h Q := by
 intro n
 induction n using Nat.strongRecOn with
 | ind n ih =>
 intro A0 Z0 lim h G0 Q hn hAB hBl hl hpre ho hq
 simp -dsimp only [z8.cps]
 refine zm.intro (fun t vs hh => ∃ (a b : Nat) (lim : Int) (w1 w2 : Bool) (G : List X), t = b - a ∧ vs = [.int .i64 (a : Int), .int .i64 (b : Int), .int .i64 lim, .bool w1, .bool w2] ∧ PS E cs h0 x R c A0 Z0 G0 a b G hh) (Z0 - A0) ?_
  ⟨A0, Z0, lim, true, true, G0, rfl, rfl, ⟨Nat.le_refl _, hAB, Nat.le_refl _, zc8.refl _ _ _, fun p q _ _ _ k => by omega, hpre, ho⟩⟩
 rintro Y t vs hh ⟨a, b, lim, w1, w2, G, rfl, rfl, p⟩ hY'
 have hY : Go1 E cs h0 x R c A0 Z0 G0 (b - a) Y := fun a' b' lim' w1' w2' G' h' hlt p' => hY' (b' - a') _ _ hlt ⟨a', b', lim', w1', w2', G', rfl, rfl, p'⟩
 clear hY'
 have hA := p.hA; have hab := p.hab; have hB := p.hB
 have lG := p.W.len
 have rcs : ∀ (a' b' : Nat) (lim : Int) (h : za) (G : List X) (Q : AVal → za → Prop), b' - a' < b - a → a' ≤ b' → b' ≤ G.length → G.length ≤ 100000000 → Pre c a' b' G → Rw E cs h0 h x G R → (∀ h' G', zc8 a' b' G G' → Srt c a' b' G' → Rw E cs h0 h' x G' R → Q (.tup []) h') →
   C f3 [x, .int .i64 (a' : Int), .int .i64 (b' : Int), .int .i64 lim, f] h Q := fun a' b' lim h G Q k1 k2 k3 k4 k5 k6 k7 =>
  J.pdq _ _ _ _ _ _ _ (ih (b' - a') (by omega) a' b' lim h G _ rfl k2 k3 k4 k5 k6 fun h' G' w s o => zba (k7 h' G' w s o))
 have fin : ∀ {hh G G2}, PS E cs h0 x R c A0 Z0 G0 a b G hh → ∀ h', zc8 a b G G2 → Srt c a b G2 → Rw E cs h0 h' x G2 R → Q (.tup []) h' := fun p h' w s o => by
  have p2 := p.turn w o
  exact hq h' _ p2.W (p2.cut.join s) o
 have e12 : V.bin .leq (.int .i64 ((b - a : Nat) : Int)) (.int .i64 12) = some (.bool (decide (b - a ≤ 12))) := leqN (b := 12)
 simp -dsimp only [z8.l8, zi9 hab (show b < 4611686018427387904 by omega), B.ze, z8.k7, e12]
 refine B.zk (fun hd => ?_) (fun hd => ?_)
 ·exact J.ins _ _ _ _ _ _ (insertion_srt S W hc p.o (by omega) hab (by omega) fun h' G' w s o => zba (fin p h' w s o))
 rw [decide_eq_false_iff_not] at hd
 simp -dsimp only [z8.k6, V.zh0, B.ze]
 refine B.zk (fun _ => ?_) (fun _ => ?_)
 ·exact J.heap _ _ _ _ _ _ (heapSort_spec J.sift S W hc p.o (by omega) (by omega) (by omega) fun h' G' w s o => zba (fin p h' w s o))
 have k4 : ∀ {hh G} (lim : Int), PS E cs h0 x R c A0 Z0 G0 a b G hh → z8.k4 C E C0 fL f1 f2 f3 f4 f5 f6 f7 f8 f9 Q Y x (.int .i64 (a : Int)) (.int .i64 (b : Int)) (.int .i64 lim) f (.bool w1) (.bool w2) (.int .i64 ((b - a : Nat) : Int)) hh := fun {hh G} lim p => by
  have lG := p.W.len
  simp -dsimp only [z8.k4]
  refine J.piv _ _ _ _ _ _ (zqq J.ord J.med J.adj S (Owns.slAt p.o 0 rfl) p.o.le hc (by omega) (by omega) (by omega) fun m hint h2 m1 m2 hle => zba ?_)
  have p2 : PS E cs h0 x R c A0 Z0 G0 a b G h2 := ⟨p.hA, p.hab, p.hB, p.W, p.cut, p.pre, Owns.grow p.o hle⟩
  simp -dsimp only [V.zjy, List.getElem?_cons_zero, List.getElem?_cons_succ, B.ze, z8.k3, V.zh0]
  have k2 : ∀ {hh G} (pv : Nat) (hint : Int), a ≤ pv → pv < b → PS E cs h0 x R c A0 Z0 G0 a b G hh → z8.k2 C E C0 fL f1 f2 f3 f4 f5 f6 f7 f8 f9 Q Y x (.int .i64 (a : Int)) (.int .i64 (b : Int)) (.int .i64 lim) f (.bool w1) (.bool w2) (.int .i64 ((b - a : Nat) : Int)) (.int .i64 (pv : Int)) (.int .i64 hint) hh := fun {hh G} pv hint q1 q2 p => by
   have lG := p.W.len
   have go := pdq_k1 (Q := Q) (lim := lim) (w1 := w1) (w2 := w2) J S W hc p (by omega) (by omega) q1 q2 rcs hY
   simp -dsimp only [z8.k2]
   have two : B.cond (.bool true) (B.call C f4 [x, .int .i64 (a : Int), .int .i64 (b : Int), f] hh fun v80 h =>
     B.cond v80 (Q (.tup []) h) (z8.k1 C E C0 fL f1 f2 f3 f4 f5 f6 f7 f8 f9 Q Y x (.int .i64 (a : Int)) (.int .i64 (b : Int)) (.int .i64 lim) f (.bool w1) (.bool w2) (.int .i64 ((b - a : Nat) : Int)) (.int .i64 (pv : Int)) h))
     (z8.k1 C E C0 fL f1 f2 f3 f4 f5 f6 f7 f8 f9 Q Y x (.int .i64 (a : Int)) (.int .i64 (b : Int)) (.int .i64 lim) f (.bool w1) (.bool w2) (.int .i64 ((b - a : Nat) : Int)) (.int .i64 (pv : Int)) hh) := by
    rw [B.cond_true]
    refine J.pis _ _ _ _ _ _ (zju S W hc p.o (by omega) (by omega) (by omega) p.pre fun h' G' t w s o => zba ?_)
    have p' := p.turn w o
    have lG' := p'.W.len
    refine B.zk (fun ht => fin p h' w (s ht) o) (fun _ => ?_)
    exact pdq_k1 (Q := Q) (lim := lim) (w1 := w1) (w2 := w2) J S W hc p' (by omega) (by omega) q1 q2 rcs hY
   cases w1 <;> cases w2
   ·simp -dsimp only [B.gd_t, B.zfo, B.zje, B.cond_false]; exact go
   ·simp -dsimp only [B.gd_t, B.zfo, B.zje, B.cond_false]; exact go
   ·simp -dsimp only [B.gd_t, B.zeg, B.zfo, B.zif, B.zje, B.cond_false]; exact go
   ·by_cases hh1 : hint = 1
    ·simp -dsimp only [B.gd_t, B.zeg, V.zh0, hh1, decide_true, B.ze, B.zif]; exact two
    ·simp -dsimp only [B.gd_t, B.zeg, V.zh0, hh1, decide_false, B.ze, B.zif, B.cond_false]; exact go
  refine B.zk (fun _ => ?_) (fun _ => k2 m hint m1 m2 p2)
  refine J.rev _ _ _ _ _ _ (zo3 S (by omega) p2.o (by omega) (by omega) fun h3 G3 w3 o3 => zba ?_)
  simp -dsimp only [sub1 (show 1 ≤ b by omega) (show b < 4611686018427387904 by omega), zi9 m1 (show m < 4611686018427387904 by omega), zi9 (show m - a ≤ b - 1 by omega) (show b - 1 < 4611686018427387904 by omega), B.ze]
  exact k2 (b - 1 - (m - a)) 1 (by omega) (by omega) (p2.turn w3 o3)
 simp -dsimp only [z8.k5, V.zf7, B.ze]
 refine B.zk (fun _ => ?_) (fun _ => k4 lim p)
 refine J.brk _ _ _ _ _ _ (zov J.next J.pow S p.o (by omega) hab (by omega) fun h' G' w o => zba ?_)
 simp -dsimp only [V.zf3, B.ze]
 exact k4 _ (p.turn w o)
end
end Go.Ab.Ord
set_option maxRecDepth 100000
namespace Go.Ab
def Cst (C : CSem) : CSem := fun f args h Q => C f args.dropLast h Q
abbrev J4 (F : AVal → AVal → AVal → AVal → za → (AVal → za → Prop) → Prop) (C : CSem) (n : Nat) : Prop := ∀ (v0 v1 v2 v3 : AVal) (h : za) (Q : AVal → za → Prop), F v0 v1 v2 v3 h (dn Q) → C n [v0, v1, v2, v3] h Q
abbrev J3 (F : AVal → AVal → AVal → za → (AVal → za → Prop) → Prop) (C : CSem) (n : Nat) : Prop := ∀ (v0 v1 v2 : AVal) (h : za) (Q : AVal → za → Prop), F v0 v1 v2 h (dn Q) → C n [v0, v1, v2] h Q
structure OrdI (C : CSem) (E : zx) (fL e p q s r v b k n ad md o2 sd nx pw : Nat) : Prop where
 eq : J4 (zl.cps C E fL) C e
 part : J4 (zg.cps C E fL) C p
 pdq : J4 (zr.cps C E fL e p q s r v b k n) C q
 pis : J3 (zd.cps C E fL) C s
 rev : J3 (zcq.cps C E) C r
 piv : J3 (z3.cps C E ad md) C v
 brk : J3 (zj.cps C E nx pw) C b
 heap : J3 (zbf.cps C E sd) C k
 ins : J3 (zbn.cps C E fL) C n
 adj : J3 (ze9.cps C E md) C ad
 med : ∀ (v0 v1 v2 v3 v4 : AVal) (h : za) (Q : AVal → za → Prop), ze5.cps C E o2 v0 v1 v2 v3 v4 h (dn Q) → C md [v0, v1, v2, v3, v4] h Q
 ord : J4 (ze4.cps C E fL) C o2
 sift : J4 (zbt.cps C E fL) C sd
 next : NextI C nx
 pow : PowI C pw
theorem e4 {F : AVal → AVal → AVal → AVal → AVal → za → (AVal → za → Prop) → Prop} {G : AVal → AVal → AVal → AVal → za → (AVal → za → Prop) → Prop} {C : CSem} {f : Nat} (i : J4 G C f) (e : ∀ v0 v1 v2 v3 v4 h Q, F v0 v1 v2 v3 v4 h Q = G v0 v1 v2 v3 h Q) : I5 F (Cst C) f :=
 fun v0 v1 v2 v3 v4 h Q x => i v0 v1 v2 v3 h Q (by rw [← e v0 v1 v2 v3 v4]; exact x)
theorem e3 {F : AVal → AVal → AVal → AVal → za → (AVal → za → Prop) → Prop} {G : AVal → AVal → AVal → za → (AVal → za → Prop) → Prop} {C : CSem} {f : Nat} (i : J3 G C f) (e : ∀ v0 v1 v2 v3 h Q, F v0 v1 v2 v3 h Q = G v0 v1 v2 h Q) : I4 F (Cst C) f :=
 fun v0 v1 v2 v3 h Q x => i v0 v1 v2 h Q (by rw [← e v0 v1 v2 v3]; exact x)
section
variable {C : CSem} {E : zx} {fL e p q s r v b k n ad md o2 sd nx pw : Nat}
theorem t_eq : ∀ v0 v1 v2 v3 v4 h Q, zt.cps (Cst C) E C fL v0 v1 v2 v3 v4 h Q = zl.cps C E fL v0 v1 v2 v3 h Q := by intros; kernel_rfl
theorem t_part : ∀ v0 v1 v2 v3 v4 h Q, zh.cps (Cst C) E C fL v0 v1 v2 v3 v4 h Q = zg.cps C E fL v0 v1 v2 v3 h Q := by intros; kernel_rfl
theorem t_pdq : ∀ v0 v1 v2 v3 v4 h Q, z8.cps (Cst C) E C fL e p q s r v b k n v0 v1 v2 v3 v4 h Q = zr.cps C E fL e p q s r v b k n v0 v1 v2 v3 h Q := by intros; kernel_rfl
theorem t_pis : ∀ v0 v1 v2 v3 h Q, zf.cps (Cst C) E C fL v0 v1 v2 v3 h Q = zd.cps C E fL v0 v1 v2 h Q := by intros; kernel_rfl
theorem t_rev : ∀ v0 v1 v2 v3 h Q, zdu.cps (Cst C) E C fL v0 v1 v2 v3 h Q = zcq.cps C E v0 v1 v2 h Q := by intros; kernel_rfl
theorem t_piv : ∀ v0 v1 v2 v3 h Q, z9.cps (Cst C) E C fL md ad v0 v1 v2 v3 h Q = z3.cps C E ad md v0 v1 v2 h Q := by intros; kernel_rfl
theorem t_brk : ∀ v0 v1 v2 v3 h Q, zy.cps (Cst C) E C fL nx pw v0 v1 v2 v3 h Q = zj.cps C E nx pw v0 v1 v2 h Q := by intros; kernel_rfl
theorem t_heap : ∀ v0 v1 v2 v3 h Q, zcu.cps (Cst C) E C fL sd v0 v1 v2 v3 h Q = zbf.cps C E sd v0 v1 v2 h Q := by intros; kernel_rfl
theorem t_ins : ∀ v0 v1 v2 v3 h Q, zcf.cps (Cst C) E C fL v0 v1 v2 v3 h Q = zbn.cps C E fL v0 v1 v2 h Q := by intros; kernel_rfl
theorem t_adj : ∀ v0 v1 v2 v3 h Q, zef.cps (Cst C) E C fL md v0 v1 v2 v3 h Q = ze9.cps C E md v0 v1 v2 h Q := by intros; kernel_rfl
theorem t_med : ∀ v0 v1 v2 v3 v4 v5 h Q, zfr.cps (Cst C) E C fL o2 v0 v1 v2 v3 v4 v5 h Q = ze5.cps C E o2 v0 v1 v2 v3 v4 h Q := by intros; kernel_rfl
theorem t_ord : ∀ v0 v1 v2 v3 v4 h Q, zfq.cps (Cst C) E C fL v0 v1 v2 v3 v4 h Q = ze4.cps C E fL v0 v1 v2 v3 h Q := by intros; kernel_rfl
theorem t_sift : ∀ v0 v1 v2 v3 v4 h Q, zct.cps (Cst C) E C fL v0 v1 v2 v3 v4 h Q = zbt.cps C E fL v0 v1 v2 v3 h Q := by intros; kernel_rfl
theorem OrdI.toT (J : OrdI C E fL e p q s r v b k n ad md o2 sd nx pw) : Ord.PdqI (Cst C) E C fL e p q s r v b k n o2 md ad sd nx pw where
 eq := e4 J.eq t_eq
 part := e4 J.part t_part
 pdq := e4 J.pdq t_pdq
 pis := e3 J.pis t_pis
 rev := e3 J.rev t_rev
 piv := e3 J.piv t_piv
 brk := e3 J.brk t_brk
 heap := e3 J.heap t_heap
 ins := e3 J.ins t_ins
 ord := e4 J.ord t_ord
 med := fun v0 v1 v2 v3 v4 v5 h Q x => J.med v0 v1 v2 v3 v4 h Q (by rw [← t_med (C := C) (fL := fL) v0 v1 v2 v3 v4 v5]; exact x)
 adj := e3 J.adj t_adj
 sift := e4 J.sift t_sift
 next := J.next
 pow := J.pow
theorem Sort_spec {X : Type} {cs : X → List AVal} {v' : X → AVal} {h0 h : za} {x : AVal} {G : List X} {R : List (List AVal)} {c : X → X → Int} {Q : AVal → za → Prop} {fl : Nat} (J : OrdI C E fL e p q s r v b k n ad md o2 sd nx pw) (hlen : LenI C fl) (S : zc6 E cs v') (W : Weak (zch c))
  (hc : Ord.zed C v' c fL h0) (hl : G.length ≤ 100000000) (ho : Rw E cs h0 h x G R) (hq : ∀ h' G', G'.Perm G → G'.Pairwise (fun s t => ¬ c t s < 0) → Rw E cs h0 h' x G' R → Q (.tup []) h') : zhb.cps C E fl q x h Q := by
 simp -dsimp only [zhb.cps, zhb.k1, ho.lenE, toUN (show G.length < 18446744073709551616 by omega), B.ze]
 refine hlen _ _ _ hl fun r hr _ => ?_
 refine J.pdq _ _ _ _ _ _ ?_
 rw [← t_pdq (C := C) _ _ _ _ .nilf]
 refine Ord.pdq_spec J.toT S W hc _ 0 G.length r h G _ rfl (by omega) (Nat.le_refl _) hl (fun h => by omega) ho fun h' G' w s o => zba ?_
 refine hq h' G' w.perm ?_ o
 rw [List.pairwise_iff_getElem]
 intro i j hi hj hij
 have := w.len
 exact s i j (by omega) hij (by omega) hi hj
end
end Go.Ab
namespace Go.Ab
theorem zr0 {α : Type} {n : Nat} : ∀ {css : List (List α)}, (∀ cs ∈ css, cs.length = n) → ∀ k : Nat, (css.take k).flatten = css.flatten.take (k * n)
 | [], _, k => by simp
 | c :: css, hl, 0 => by simp
 | c :: css, hl, k + 1 => by
  have hc : c.length = n := hl c (by simp)
  rw [List.take_succ_cons, List.flatten_cons, List.flatten_cons, zr0 (fun p hp => hl p (by simp [hp])) k, Nat.add_mul, Nat.one_mul, show k * n + n = c.length + k * n by omega, List.take_length_add_append]
theorem flat_drop {α : Type} {n : Nat} : ∀ {css : List (List α)}, (∀ cs ∈ css, cs.length = n) → ∀ k : Nat, (css.drop k).flatten = css.flatten.drop (k * n)
 | [], _, k => by simp
 | c :: css, hl, 0 => by simp
 | c :: css, hl, k + 1 => by
  have hc : c.length = n := hl c (by simp)
  rw [List.drop_succ_cons, List.flatten_cons, flat_drop (fun p hp => hl p (by simp [hp])) k, Nat.add_mul, Nat.one_mul, show k * n + n = c.length + k * n by omega, List.drop_length_add_append]
theorem lay_read {cells Z F : List AVal} {off lo T : Nat} (h5 : (cells.drop off).take T = F) (hF : F.length = T) (hh : off + T ≤ cells.length) (hz : lo + Z.length ≤ T) :
  ((cells.take (off + lo) ++ Z ++ cells.drop (off + lo + Z.length)).drop off).take T = F.take lo ++ Z ++ F.drop (lo + Z.length) := by
 subst h5
 apply List.ext_getElem?
 intro k
 by_cases hk : k < T
 ·rw [List.getElem?_take_of_lt hk, List.getElem?_drop, List.append_assoc, List.append_assoc]
  have l1 : (cells.take (off + lo)).length = off + lo := by simp; omega
  have l2 : (((cells.drop off).take T).take lo).length = lo := by simp; omega
  rw [zlz _ _ _ l1, zlz _ _ _ l2, show off + k - (off + lo) = k - lo by omega]
  by_cases k1 : k < lo
  ·rw [if_pos (by omega), if_pos k1, List.getElem?_take_of_lt (by omega), List.getElem?_take_of_lt (by omega), List.getElem?_take_of_lt (by omega), List.getElem?_drop]
  ·rw [if_neg (by omega), if_neg k1]
   split
   ·rfl
   ·rw [List.getElem?_drop, List.getElem?_drop, List.getElem?_take_of_lt (by omega), List.getElem?_drop]
    congr 1
    omega
 ·rw [List.getElem?_take_eq_none (by omega), List.getElem?_eq_none]
  simp
  omega
section
variable {h h0 : za} {es : Nat} {x : AVal} {L R : List (List AVal)} {l : List Ob}
theorem SlX.clrTail {lo : Nat} {z : List AVal} {K : AVal → za → Prop} (ho : SlX h es x L R) (hown : ∀ id b, foot x = some id → h id = some b → b.own = true) (hz : z.length = es) (hlo : lo ≤ L.length)
  (hk : ∀ h', SlX h' es x (L.take lo ++ List.replicate (L.length - lo) z) R → (∀ id b, foot x = some id → h' id = some b → b.own = true) → But x h h' → K (.tup []) h') :
  ∃ y, V.zhe es x (some (.int .i64 (lo : Int))) none = some y ∧ A.clr h (some z) y K := by
 rcases ho.at_ with ⟨e, e', e''⟩ | ⟨id, g, off, cp, b, hi, h1, h1', h2, h3, h4, hh, h5⟩
 ·subst e e'
  have : lo = 0 := by simpa using hlo
  subst this
  refine ⟨x, ?_, ?_⟩
  ·rcases e'' with rfl | rfl <;> rfl
  ·have := hk h (by simpa using ho) hown (fun _ _ h _ => h)
   rcases e'' with rfl | rfl <;> exact this
 ·subst h1
  refine ⟨.sl id g (off + lo * es) (L.length - lo) es (max L.length cp - lo), ?_, ?_⟩
  ·simp only [V.zhe, endsC_eq (.inr ⟨_, rfl⟩) (.inl ⟨rfl, rfl⟩)]
   rw [if_pos ⟨hlo, by omega⟩]
   simp
  ·simp only [A.clr]
   split
   ·rename_i h0
    refine hk h ?_ hown (fun _ _ h _ => h)
    rw [h0, List.take_of_length_le (by omega)]
    simpa using ho
   ·rename_i hne
    have hown' := hown id b rfl h2
    generalize hZ : (List.replicate (L.length - lo) z).flatten = Z
    have hzl : Z.length = (L.length - lo) * es := by rw [← hZ]; simp [hz]
    have hTl : (L ++ R).length = L.length + R.length := by simp
    have hmul : lo * es + (L.length - lo) * es = L.length * es := by rw [← Nat.add_mul]; congr 1; omega
    have hmul2 : L.length * es + R.length * es = (L.length + R.length) * es := by rw [← Nat.add_mul]
    have hbl : Nat.ble (0 + (off + lo * es) + (L.length - lo) * es) hi = true := by rw [Nat.ble_eq]; omega
    have hput : V.putN (off + lo * es) ((L.length - lo) * es) (.agg Z) b.cells = some (b.cells.take (off + lo * es) ++ Z ++ b.cells.drop (off + lo * es + (L.length - lo) * es)) := by
     simp only [V.putN]; rw [if_pos ⟨hzl, by omega⟩]
    simp only [A.stv, h2, h3, hown', hbl, Bool.true_and, cond_true, hput, A.ph]
    have rd := lay_read (cells := b.cells) (Z := Z) (off := off) (lo := lo * es) h5 (by rw [zkn ho.len, hTl]) (by omega) (by rw [hzl]; omega)
    have hnew : (L.take lo ++ List.replicate (L.length - lo) z ++ R).flatten = (L ++ R).flatten.take (lo * es) ++ Z ++ (L ++ R).flatten.drop (lo * es + Z.length) := by
     rw [List.flatten_append, List.flatten_append, hZ, hzl, hmul, ← zr0 ho.len, ← flat_drop ho.len, List.take_append_of_le_length hlo, List.drop_left]
    rw [← hnew, hzl] at rd
    have hll : (L.take lo ++ List.replicate (L.length - lo) z).length = L.length := by simp; omega
    have hlen' : ∀ p ∈ L.take lo ++ List.replicate (L.length - lo) z ++ R, p.length = es := fun p hp => by
     rcases List.mem_append.1 hp with hp | hp
     ·rcases List.mem_append.1 hp with hp | hp
      ·exact ho.len p (List.mem_append_left _ (List.mem_of_mem_take hp))
      ·rw [(List.mem_replicate.1 hp).2]; exact hz
     ·exact ho.len p (List.mem_append_right _ hp)
    refine hk _ ⟨hlen', .inr ⟨id, g, off, cp, _, hi, by rw [hll], by rw [hll]; exact h1', zbh .., zhz .., by rw [hll]; exact h4, ?_, by simp only; rw [hll]; exact rd⟩⟩ (fun j b1 hj hb1 => ?_) (fun j b1 e1 e2 => ?_)
    ·simp; omega
    ·cases hj
     rw [zbh] at hb1; cases hb1; rfl
    ·rw [zq]
     ·exact e1
     ·intro e; subst e; exact e2 rfl
theorem Owns.clrTail {lo : Nat} {z : List AVal} {K : AVal → za → Prop} (ho : Owns h0 h l) (k : Nat) (hk : l[k]? = some (.sl es x L R)) (hz : z.length = es) (hlo : lo ≤ L.length)
  (hK : ∀ h', Owns h0 h' (l.set k (.sl es x (L.take lo ++ List.replicate (L.length - lo) z) R)) → But x h h' → K (.tup []) h') :
  ∃ y, V.zhe es x (some (.int .i64 (lo : Int))) none = some y ∧ A.clr h (some z) y K :=
 (ho.slAt k hk).clrTail (ho.ownAt k hk) hz hlo fun h' h1 h2 h3 => hK h' (ho.turn k hk h1 h2 h3 (.inl rfl)) h3
def Exact (x : AVal) : Prop := x = .nils ∨ x = .sz ∨ ∃ id g off len es, x = .sl id g off len es 0
theorem SlX.cut3x (hs : SlX h es x L R) {k : Nat} {j1 j2 j3 : IntKind} (hk : k ≤ L.length) :
  ∃ x', V.cut3 es x (.int j1 0) (.int j2 (k : Int)) (.int j3 (k : Int)) = some x' ∧ SlX h es x' (L.take k) [] ∧ (foot x' = foot x ∨ foot x' = none ∧ k = 0) ∧ Exact x' ∧ (k = 0 → x' = .nils ∨ x' = .sz) := by
 rcases hs.at_ with ⟨e, e', e''⟩ | ⟨id, g, off, cp, bk, hh, k1, k1', k2, k3, k4, k5, k6⟩
 ·subst e e'
  simp only [List.length_nil, Nat.le_zero_eq] at hk
  subst hk
  rcases e'' with rfl | rfl
  ·exact ⟨.nils, rfl, ⟨by simp, .inl ⟨rfl, rfl, .inl rfl⟩⟩, .inl rfl, .inl rfl, fun _ => .inl rfl⟩
  ·exact ⟨.sz, rfl, ⟨by simp, .inl ⟨rfl, rfl, .inr rfl⟩⟩, .inl rfl, .inr (.inl rfl), fun _ => .inr rfl⟩
 ·subst k1
  have h1 : (0 : Int) ≤ (k : Int) := by omega
  by_cases k0 : k = 0
  ·subst k0
   refine ⟨.sz, ?_, SlX.sz h es, .inr ⟨rfl, rfl⟩, .inr (.inl rfl), fun _ => .inr rfl⟩
   simp only [V.cut3, V.asNat, Int.le_refl, if_true, Int.toNat_natCast, show ((0 : Nat) : Int) = 0 from rfl, show (0 : Int).toNat = 0 from rfl]
   rw [if_pos ⟨Nat.le_refl _, Nat.le_refl _, by omega, trivial⟩]
  refine ⟨.sl id g off k es 0, ?_, ⟨fun p hp => hs.len p (List.mem_append_left _ (List.mem_of_mem_take (by simpa using hp))), .inr ⟨id, g, off, 0, bk, hh, ?_, ?_, k2, k3, ?_, k5, ?_⟩⟩, .inl rfl, .inr (.inr ⟨_, _, _, _, _, rfl⟩), fun h => absurd h k0⟩
  ·simp only [V.cut3, V.asNat, Int.le_refl, if_true, h1, Int.toNat_natCast, show (0 : Int).toNat = 0 from rfl]
   rw [if_pos ⟨by omega, Nat.le_refl _, by omega, trivial⟩, if_neg k0]
   simp
  ·simp; omega
  ·simp only [List.length_take, List.length_nil]; omega
  ·have : k * es ≤ (L.length + R.length) * es := Nat.mul_le_mul_right _ (by omega)
   simp only [List.length_take, List.length_nil, Nat.min_eq_left hk, Nat.add_zero]
   omega
  ·have : k * es ≤ (L.length + R.length) * es := Nat.mul_le_mul_right _ (by omega)
   simp only [List.length_take, List.length_nil, Nat.min_eq_left hk, Nat.add_zero, List.append_nil]
   have e1 : (L.take k).flatten = (L ++ R).flatten.take (k * es) := by
    rw [← zr0 hs.len, List.take_append_of_le_length hk]
   rw [e1, ← k6, List.take_take, Nat.min_eq_left this]
end
end Go.Ab
namespace Go.Ab
variable {C : CSem}
theorem Owns.frame (hC : zsg C) {h0 h : za} {l : List Ob} (ho : Owns h0 h l) {f : Nat} {args : List AVal} {K K' : AVal → za → Prop} (x : C f args h0 K) (hk : ∀ v h1 h', K v h1 → Owns h1 h' l → K' v h') : C f args h K' :=
 hC.mono _ _ _ _ _ (fun v h' ⟨h1, k1, k2, k3⟩ => hk v h1 h' k1 ⟨k2, fun o hm => (ho.is o hm).keep fun i b hf hb => (k3 i (ho.own o hm i hf).1 b hb).1,
  fun o hm i hf => by
   obtain ⟨b, hb⟩ := (ho.is o hm).known hf
   obtain ⟨m1, m2⟩ := k3 i (ho.own o hm i hf).1 b hb
   exact ⟨m2, fun c hc => by rw [m1] at hc; cases hc; exact (ho.own o hm i hf).2 b hb⟩, ho.apart⟩) (hC.frame _ _ _ _ _ ho.le x)
def Iter (C : CSem) (g : Nat) (first caps : List AVal) (D : za → Prop) (xs : List (List AVal)) : Prop :=
 ∀ (id : Nat) (I : Nat → za → Prop) (Z : za → Prop) (h : za) (Q : AVal → za → Prop), (∀ k h, I k h → D h) →
  (∀ k x h, xs[k]? = some x → I k h → C zmh (mkY id :: x) h fun v h' => (v = .bool true ∧ I (k + 1) h') ∨ (v = .bool false ∧ Z h')) →
  I 0 h → (∀ h, I xs.length h → Q (.tup []) h) → (∀ h, Z h → Q (.tup []) h) → C g (first ++ [.yld id] ++ caps) h Q
theorem zo6 {g : Nat} {first caps : List AVal} {D : za → Prop} {xs : List (List AVal)} {W : List AVal → za → (Nat → za → Prop) → Prop} {h : za} {K : Nat → za → Prop} (hi : Iter C g first caps D xs) (hD : ∀ h h', h.le h' → D h → D h')
  (J X : Nat → za → Prop) (hJ : ∀ k h, J k h → D h) (round : ∀ k x h E, xs[k]? = some x → J k h → (∀ h', J (k + 1) h' → E 0 h') → (∀ j h', X j h' → E (j + 1) h') → W x h E)
  (h0 : J 0 h) (hend : ∀ h, J xs.length h → K 0 h) (hX : ∀ j h, X j h → K (j + 1) h) : zow C (.fn g first caps) W h K := by
 intro mk _ id hid hround
 refine hi id (fun k h2 => ∃ h1 : za, h1 id = none ∧ h2 = upd h1 id (mk 0) ∧ J k h1) (fun h2 => ∃ (j : Nat) (h1 : za), h1 id = none ∧ h2 = upd h1 id (mk (j + 1)) ∧ X j h1) _ _ ?_ ?_ ⟨h, hid, rfl, h0⟩ ?_ ?_
 ·rintro k _ ⟨h1, e, rfl, hj⟩
  exact hD _ _ (zgo _ e) (hJ k h1 hj)
 ·rintro k x _ hx ⟨h1, e, rfl, hj⟩
  exact hround x h1 _ e (round k x h1 _ hx hj (fun h' hj' => ⟨h', za.le_refl h', fun e' => .inl ⟨rfl, h', e', rfl, hj'⟩⟩) fun j h' hx' => ⟨h', za.le_refl h', fun e' => .inr ⟨rfl, j, h', e', rfl, hx'⟩⟩)
 ·rintro _ ⟨h1, e, rfl, hj⟩
  exact ⟨0, h1, e, za.le_refl _, hend h1 hj⟩
 ·rintro _ ⟨j, h1, e, rfl, hx⟩
  exact ⟨j + 1, h1, e, za.le_refl _, hX j h1 hx⟩
theorem RK.here {k : Nat} {p : za → Prop} {r : List (Nat × (za → Prop))} {h : za} (x : p h) : RK ((k, p) :: r) k h := .inl ⟨rfl, x⟩
theorem RK.there {k j : Nat} {p : za → Prop} {r : List (Nat × (za → Prop))} {h : za} (x : RK r j h) : RK ((k, p) :: r) j h := .inr x
theorem B.callv_yld {id : Nat} {args : List AVal} {h : za} {K : AVal → za → Prop} : B.zjc h C (.yld id) args K = C zmh (mkY id :: args) h K := rfl
def disown (h : za) (ids : List Nat) : za := ⟨fun i => bif memB ids i then (h i).map fun b => { b with own := false } else h i, by
 obtain ⟨N, k⟩ := h.2
 refine ⟨N, fun i hi => ?_⟩
 have e : h i = none := k i hi
 show (bif memB ids i then (h i).map _ else h i) = none
 rw [e]; cases memB ids i <;> rfl⟩
theorem zit {h : za} {ids : List Nat} {i : Nat} (hi : memB ids i = false) : disown h ids i = h i := by
 show (bif memB ids i then _ else h i) = h i
 rw [hi]; rfl
theorem zop {h : za} {ids : List Nat} {i : Nat} (hi : memB ids i = true) : disown h ids i = (h i).map fun b => { b with own := false } := by
 show (bif memB ids i then _ else h i) = _
 rw [hi]; rfl
theorem ziu {h : za} {ids : List Nat} {i : Nat} {b : Blk} (hb : disown h ids i = some b) : ∃ c, h i = some c ∧ b.cells = c.cells ∧ b.gens = c.gens ∧ b.next = c.next ∧ b.obj = c.obj ∧ (b.own = true → c.own = true) := by
 cases hm : memB ids i with
 | false => rw [zit hm] at hb; exact ⟨b, hb, rfl, rfl, rfl, rfl, id⟩
 | true =>
  rw [zop hm] at hb
  cases hc : h i with
  | none => rw [hc] at hb; cases hb
  | some c => rw [hc] at hb; cases hb; exact ⟨c, rfl, rfl, rfl, rfl, rfl, fun h => by cases h⟩
theorem R.disown {w0 : World} {ρ : Locs} {H : za} {w : World} (h : R w0 ρ H w) (ids : List Nat) : R w0 ρ (Ab.disown H ids) w where
 below := h.below
 fin := by
  obtain ⟨N, k⟩ := h.fin
  refine ⟨N, fun i hi => ⟨?_, (k i hi).2⟩⟩
  cases e : Ab.disown H ids i with
  | none => rfl
  | some b => obtain ⟨c, hc, _⟩ := ziu e; rw [(k i hi).1] at hc; cases hc
 blk := fun id b hb => by
  obtain ⟨c, hc, e1, e2, e3, e4, e5⟩ := ziu hb
  have k := h.blk id c hc
  refine ⟨by rw [e3]; exact k.nxt, fun g hi hm => ?_, fun g hi g' hi' hm hm' => k.align g hi g' hi' (by rw [← e2]; exact hm) (by rw [← e2]; exact hm'), fun o ho => by rw [e2]; exact k.obj o (by rw [← e4]; exact ho)⟩
  obtain ⟨q1, L, arr, e, fr, q2, q3, q4, q5, q6, q7⟩ := k.gen g hi (by rw [← e2]; exact hm)
  exact ⟨by rw [e1]; exact q1, L, arr, e, fr, q2, q3, q4, q5, fun ho => q6 (e5 ho), by rw [e1]; exact q7⟩
 sep := fun i j bi bj hne hi hj ho gi hgi gj hgj => by
  obtain ⟨ci, hci, _, e2, _, _, e5⟩ := ziu hi
  obtain ⟨cj, hcj, _, e2', _, _, _⟩ := ziu hj
  exact h.sep i j ci cj hne hci hcj (e5 ho) gi (by rw [← e2]; exact hgi) gj (by rw [← e2']; exact hgj)
 osep := fun i j bi bj hne hi hj ho ho' => by
  obtain ⟨ci, hci, _, _, _, e4, _⟩ := ziu hi
  obtain ⟨cj, hcj, _, _, _, e4', _⟩ := ziu hj
  exact h.osep i j ci cj hne hci hcj (by rw [← e4]; exact ho) (by rw [← e4']; exact ho')
def CDis (C : CSem) : Prop := ∀ f args (h : za) (ids : List Nat) (K : AVal → za → Prop), (∀ i, memB ids i = true → ∃ b, h i = some b) → C f args (disown h ids) K → C f args h K
theorem AC_dis (P : Program) : CDis (AC P) := by
 intro f args h ids K hk x w0 ρ H w va h1 h2 h3
 have hle : (disown h ids).le (disown H ids) := fun i b hb => by
  cases hm : memB ids i with
  | false => rw [zit hm] at hb ⊢; exact h1 i b hb
  | true =>
   rw [zop hm] at hb ⊢
   cases hc : h i with
   | none => rw [hc] at hb; cases hb
   | some c => rw [hc] at hb; rw [h1 i c hc]; exact hb
 refine (x w0 ρ _ w va hle (h2.disown ids) h3).mono fun e w' ⟨v, e1, e2⟩ => ⟨v, e1, ?_⟩
 obtain ⟨a, ρ', h', H', k1, k2, k3, k4, k5, k6⟩ := e2.ex
 refine ⟨⟨a, ρ', h', H', k1, k2, k3, k4, fun i hi b hb => ?_, k6⟩⟩
 have hm : memB ids i = false := by
  cases hm : memB ids i with
  | false => rfl
  | true => obtain ⟨c, hc⟩ := hk i hm; rw [hi] at hc; cases hc
 exact k5 i (by rw [zit hm]; exact hi) b (by rw [zit hm]; exact hb)
theorem SlX.disown {h : za} {es : Nat} {x : AVal} {L R : List (List AVal)} (hs : SlX h es x L R) (ids : List Nat) : SlX (Ab.disown h ids) es x L R := by
 refine ⟨hs.len, ?_⟩
 rcases hs.at_ with e | ⟨id, g, off, cp, b, hi, h1, h1', h2, h3, h4, hh, h5⟩
 ·exact .inl e
 ·refine .inr ⟨id, g, off, cp, (bif memB ids id then { b with own := false } else b), hi, h1, h1', ?_, ?_, h4, ?_, ?_⟩
  ·cases hm : memB ids id with
   | false => rw [zit hm]; exact h2
   | true => rw [zop hm, h2]; rfl
  all_goals cases memB ids id <;> assumption
theorem SlX.appE {h : za} {es bytes : Nat} {x y : AVal} {L R M R' : List (List AVal)} {K : AVal → za → Prop} (ho : SlX h es x L R) (he : Exact x) (hx0 : L = [] → x = .nils ∨ x = .sz) (hno : ∀ id b, foot x = some id → h id = some b → b.own = false) (hs : SlX h es y M R') (hes : 0 < es) (hM : M ≠ []) (hb : (L.length + M.length) * bytes ≤ 140737488355328) (hm : L.length + M.length ≤ maxLen)
  (hk : ∀ x' h', Owns h h' [.sl es x' (L ++ M) []] → K x' h') : A.appW h es bytes x y K := by
 unfold A.appW
 rw [hs.zgn]
 simp only
 rw [hs.rdv]
 have hMl : ∀ p ∈ M, p.length = es := fun p hp => hs.len p (List.mem_append_left _ hp)
 have hl := zkn hMl
 have hd : M.flatten.length / es = M.length := by rw [hl, Nat.mul_div_cancel _ hes]
 have hM0 : 0 < M.length := List.length_pos_iff.2 hM
 have hfl : M.flatten.length ≠ 0 := by
  rw [hl]
  have := Nat.mul_pos hM0 hes
  omega
 have hall : ∀ p ∈ (L ++ M) ++ [], p.length = es := fun p hp => by
  rw [List.append_nil] at hp
  rcases List.mem_append.1 hp with hp | hp
  ·exact ho.len p (List.mem_append_left _ hp)
  ·exact hMl p hp
 have h0 := ho.cut
 rcases h0.at_ with ⟨e, _, e'⟩ | ⟨id, g, off, cp, b, hi, h1, h1', h2, h3, h4, hh, h5⟩
 ·subst e
  simp only [List.length_nil, Nat.zero_add] at hb hm
  rcases e' with rfl | rfl <;> simp only [A.app, hfl, if_false, hd] <;> exact ⟨hb, hm, fun id hid => hk _ _ (by
   have := (Owns.start h).newSl (es := es) (L := M) (R := []) (cp := M.length) (n := M.length) hid (by simpa using hall) rfl (by simp) (cs := M.flatten) (by simp)
   simpa using this)⟩
 ·have hno' := hno id b (by rw [h1]; rfl) h2
  subst h1
  have hcp : cp = 0 := by
   rcases he with e | e | ⟨_, _, _, _, _, e⟩ <;> cases e
   rfl
  simp only [List.length_nil, Nat.add_zero, List.append_nil] at h4 h5
  by_cases hL : L = []
  ·rcases hx0 hL with e | e <;> cases e
  ·have hL0 : 0 < L.length := List.length_pos_iff.2 hL
   simp only [A.app, h2, h3, hd, hno', cond_false]
   refine ⟨⟨trivial, hcp, hL0, hM0, h4, hh, hb, hm⟩, fun id' hid => hk _ _ ?_⟩
   rw [h5]
   have := (Owns.start h).newSl (es := es) (L := L ++ M) (R := []) (cp := L.length + M.length) (n := L.length + M.length) hid hall (by simp) (by simp) (cs := L.flatten ++ M.flatten) (by simp)
   simpa using this
end Go.Ab
namespace Go.Ab
variable {C : CSem} {N : Nat → Nat}
def zbz.has (a : zbz) (day : Int) : Bool := a.right && decide (a.From ≤ day) && decide (day < a.zel)
def zec.Spec (C : CSem) (N : Nat → Nat) : Prop := ∀ (a b day : Int) (h : za) (Q : AVal → za → Prop), Q (.bool (zbz.has ⟨a, b⟩ day)) h → C (N 7) [.agg [.int .i64 a, .int .i64 b], .int .i64 day] h Q
theorem zec.spec (i : zec.Imp C N) (s1 : zdc.Spec C N) : zec.Spec C N := by
 intro a b day h Q hq
 apply i
 simp +contextual -dsimp
 refine s1 _ _ _ _ ?_
 simp +contextual -dsimp
 exact zba hq
def tick (L : List zbz) (j : Nat) : Int := ((L.countP fun w => decide (w.From = (j : Int)) : Nat) : Int) - ((L.countP fun w => decide (w.zel = (j : Int)) : Nat) : Int)
def opn (L : List zbz) : Nat → Int
 | 0 => 0
 | d + 1 => opn L d + tick L d
def zjs (L : List zbz) (out : List zbz) (d : Nat) : List zbz :=
 if opn L d = 0 ∧ 0 < opn L (d + 1) then out ++ [⟨d, 0⟩]
 else if 0 < opn L d ∧ opn L (d + 1) = 0 then out.dropLast ++ [⟨(out.getLast?.getD .zero).From, d⟩]
 else out
def ze1 (L : List zbz) : Nat → List zbz
 | 0 => []
 | d + 1 => zjs L (ze1 L d) d
def rows (L : List zbz) : List zbz := if L.all zbz.right then ze1 L 4002 else []
theorem zsz (L : List zbz) : ∀ d, (ze1 L d).length ≤ d
 | 0 => Nat.le_refl _
 | d + 1 => by
  have := zsz L d
  unfold ze1 zjs
  split
  ·simp; omega
  ·split
   ·simp; omega
   ·omega
theorem tick_le (L : List zbz) (j : Nat) : -(L.length : Int) ≤ tick L j ∧ tick L j ≤ L.length := by
 have h1 := List.countP_le_length (l := L) (p := fun w => decide (w.From = (j : Int)))
 have h2 := List.countP_le_length (l := L) (p := fun w => decide (w.zel = (j : Int)))
 unfold tick
 omega
theorem opn_eq (L : List zbz) (hL : ∀ w ∈ L, w.right = true) : ∀ d : Nat, opn L d = ((L.countP fun w => decide (w.From < (d : Int)) : Nat) : Int) - ((L.countP fun w => decide (w.zel < (d : Int)) : Nat) : Int)
 | 0 => by
  have h1 : L.countP (fun w => decide (w.From < 0)) = 0 := by
   rw [List.countP_eq_zero]; intro w hw; have := hL w hw; simp [zbz.right] at this; simp; omega
  have h2 : L.countP (fun w => decide (w.zel < 0)) = 0 := by
   rw [List.countP_eq_zero]; intro w hw; have := hL w hw; simp [zbz.right] at this; simp; omega
  simp [opn, h1, h2]
 | d + 1 => by
  rw [opn, opn_eq L hL d, tick]
  have key : ∀ f : zbz → Int, (L.countP fun w => decide (f w < ((d + 1 : Nat) : Int))) = (L.countP fun w => decide (f w < ((d : Nat) : Int))) + L.countP fun w => decide (f w = (d : Int)) := fun f => by
   clear hL
   induction L with
   | nil => rfl
   | cons w r ih =>
    simp only [List.countP_cons, decide_eq_true_eq]
    rw [ih]
    split <;> split <;> split <;> omega
  have k1 := key zbz.From
  have k2 := key zbz.zel
  omega
theorem zs6 (L : List zbz) (hL : ∀ w ∈ L, w.right = true) (d : Nat) : 0 ≤ opn L d ∧ opn L d ≤ L.length := by
 rw [opn_eq L hL]
 have h1 := List.countP_le_length (l := L) (p := fun w => decide (w.From < (d : Int)))
 have h2 : L.countP (fun w => decide (w.zel < (d : Int))) ≤ L.countP (fun w => decide (w.From < (d : Int))) := List.countP_mono_left fun w hw h => by
  have := hL w hw; simp [zbz.right] at this; simp at h ⊢; omega
 omega
theorem zra (L : List zbz) (hL : ∀ w ∈ L, w.right = true) : ∀ d, 0 < opn L d → (ze1 L d) ≠ []
 | 0 => fun h => by simp [opn] at h
 | d + 1 => fun h => by
  have h0 := zs6 L hL d
  unfold ze1 zjs
  split
  ·simp
  ·split
   ·simp
   ·rename_i h1 h2
    exact zra L hL d (by omega)
abbrev tks (f : Nat → Int) : List AVal := fill 4002 fun j => .int .i64 (f j)
def zb6.Spec (C : CSem) (N : Nat → Nat) : Prop := ∀ (x : AVal) (L : List zbz) (R : List (List AVal)) (h : za) (Q : AVal → za → Prop), SlX h 2 x (L.map zbz.cs) R → L.length < 4611686018427387904 →
 (∀ x' h', Owns h h' [.sl 2 x' ((rows L).map zbz.cs) []] → Q x' h') → C (N 10) [x] h Q
theorem zb6.loop1 (L : List zbz) (hL : ∀ w ∈ L, w.right = true) (hlen : L.length < 4611686018427387904) {h h1 : za} {p : AVal} {Q : AVal → za → Prop} (ho : Owns h h1 [.box p (tks (tick L))])
  (hq : ∀ x' h', Owns h h' [.sl 2 x' ((ze1 L 4002).map zbz.cs) []] → Q x' h') : zm (zb6.l2 C N (dn Q) p) [.nils, .int .i64 0, .int .i64 0] h1 := by
 refine zm.intro (fun n vs hh => ∃ d x, d + n = 4002 ∧ vs = [x, .int .i64 (opn L d), .int .i64 d] ∧ Owns h hh [.box p (tks (tick L)), .sl 2 x ((ze1 L d).map zbz.cs) []]) 4002 ?_ ⟨0, .nils, by simp, by simp [opn], ho.nils 2⟩
 rintro Y n vs hh ⟨d, x, hn, rfl, ho⟩ hY
 have hle := zsz L d
 have hop := zs6 L hL d
 have hop1 := zs6 L hL (d + 1)
 have hod : opn L (d + 1) = opn L d + tick L d := rfl
 simp +contextual -dsimp
 refine B.zk (fun hb => ?_) (fun hb => ?_) <;> simp +contextual -dsimp at hb ⊢
 ·have hd : d < 4002 := by omega
  obtain ⟨id, rfl, hbx⟩ := ho.zhu 0 rfl
  have ht := tick_le L d
  have e1 : A.ldv hh (.ptr id 0 d) = some (.int .i64 (tick L d)) := by rw [zfs hbx, zl4 _ hd]
  have e2 : V.idxA 4002 1 (.ptr id 0 0) (.int .i64 d) = some (.ptr id 0 d) := by simp [V.idxA]; omega
  have e3 : IntKind.i64.wrap (opn L d + tick L d) = opn L (d + 1) := by rw [wrap_i64 (by omega) (by omega)]; rfl
  have e4 : IntKind.i64.wrap ((d : Int) + 1) = ((d + 1 : Nat) : Int) := by rw [wrap_i64 (by omega) (by omega)]; omega
  simp +contextual -dsimp [e1, e2, e3]
  refine B.zk (fun hc => ?_) (fun hc => ?_) <;> simp +contextual -dsimp at hc ⊢
  ·refine ho.push 1 rfl rfl (by omega) (by simp; omega) (by simp [maxLen]; omega) fun x' h' ho' _ => ?_
   simp [e4]
   refine hY (4001 - d) _ _ (by omega) ⟨d + 1, x', by omega, by simp, ?_⟩
   have hr : ze1 L (d + 1) = ze1 L d ++ [⟨d, 0⟩] := by simp only [ze1, zjs]; rw [if_pos hc]
   rw [hr, List.map_append]
   exact ho'
  ·refine B.zk (fun hd2 => ?_) (fun hd2 => ?_) <;> simp +contextual -dsimp at hd2 ⊢
   ·have hne := zra L hL d (by omega)
    have hln : 0 < (ze1 L d).length := List.length_pos_iff.2 hne
    have hx := ho.slAt 1 rfl
    have e5 : IntKind.i64.wrap (((ze1 L d).length : Int) - 1) = (((ze1 L d).length - 1 : Nat) : Int) := by rw [wrap_i64 (by omega) (by omega)]; omega
    have e6 := hx.zcj
    simp only [List.length_map] at e6
    have hl2 : (ze1 L d).length - 1 < ((ze1 L d).map zbz.cs).length := by simp; omega
    simp [e6, e5, hx.idxN hl2, hx.zom hl2]
    have hlast : (ze1 L d)[(ze1 L d).length - 1]? = some ((ze1 L d).getLast hne) := by rw [List.getLast_eq_getElem]; simp
    refine ho.st 1 rfl (c := zbz.cs ((ze1 L d).getLast hne)) (by simp [hlast]) (by omega) (by simp) fun h' ho' _ => ?_
    simp [e4]
    refine hY (4001 - d) _ _ (by omega) ⟨d + 1, x, by omega, by simp, ?_⟩
    have hr : ze1 L (d + 1) = (ze1 L d).set ((ze1 L d).length - 1) ⟨((ze1 L d).getLast hne).From, d⟩ := by
     simp only [ze1, zjs]
     rw [if_neg (by omega), if_pos (by omega), List.getLast?_eq_some_getLast hne]
     exact zqa hne _
    rw [hr]
    simpa using ho'
   ·simp [e4]
    refine hY (4001 - d) _ _ (by omega) ⟨d + 1, x, by omega, by simp, ?_⟩
    have hr : ze1 L (d + 1) = ze1 L d := by
     simp only [ze1, zjs]
     rw [if_neg (by omega), if_neg (by omega)]
    rw [hr]; exact ho
 ·have : d = 4002 := by omega
  subst this
  exact zba (hq _ _ (ho.sub (by simp)))
end Go.Ab
namespace Go.Ab
variable {C : CSem} {N : Nat → Nat}
def zkx (a b : Int) : Int := if a < b then -1 else if b < a then 1 else 0
def zsn (a b : Int) : Int := if a = 0 then b else a
def zdj.Spec (C : CSem) (N : Nat → Nat) : Prop := ∀ (a : Int) (h : za) (Q : AVal → za → Prop), Q (.bool false) h → C (N 171) [.int .i64 a] h Q
theorem zdj.spec (i : zdj.Imp C N) : zdj.Spec C N := by
 intro a h Q hq
 apply i
 simp -dsimp
 exact zba hq
def zcy.Spec (C : CSem) (N : Nat → Nat) : Prop := ∀ (a b : Int) (h : za) (Q : AVal → za → Prop), Q (.int .i64 (zkx a b)) h → C (N 157) [.int .i64 a, .int .i64 b] h Q
theorem zcy.spec (i : zcy.Imp C N) (s1 : zdj.Spec C N) : zcy.Spec C N := by
 intro a b h Q hq
 apply i
 simp -dsimp
 refine s1 _ _ _ ?_
 refine s1 _ _ _ ?_
 simp -dsimp
 refine B.zk (fun hb => ?_) (fun hb => ?_) <;> simp -dsimp at hb ⊢
 ·rw [zkx, if_pos hb] at hq; exact zba hq
 ·refine B.zk (fun hc => ?_) (fun hc => ?_) <;> simp -dsimp at hc ⊢
  ·rw [zkx, if_neg (by omega), if_pos hc] at hq; exact zba hq
  ·rw [zkx, if_neg (by omega), if_neg (by omega)] at hq; exact zba hq
def zdr.Spec (C : CSem) (N : Nat → Nat) : Prop := ∀ (x : AVal) (a b : Int) (R : List (List AVal)) (h : za) (Q : AVal → za → Prop), SlX h 1 x [[.int .i64 a], [.int .i64 b]] R → Q (.int .i64 (zsn a b)) h → C (N 158) [x] h Q
theorem zdr.spec (i : zdr.Imp C N) : zdr.Spec C N := by
 intro x a b R h Q hx hq
 apply i
 have e1 := hx.zcj
 have e2 : V.idxS 1 x (.int .i64 0) = some (elp 1 x 0 0) := hx.idxN (i := 0) (by simp)
 have e3 : V.idxS 1 x (.int .i64 1) = some (elp 1 x 1 0) := hx.idxN (i := 1) (by simp)
 have e4 := hx.cell (i := 0) (c := .int .i64 a) rfl
 have e5 := hx.cell (i := 1) (c := .int .i64 b) rfl
 have w1 : IntKind.i64.wrap 1 = 1 := wrap_i64 (by omega) (by omega)
 have w2 : IntKind.i64.wrap 2 = 2 := wrap_i64 (by omega) (by omega)
 simp -dsimp [e1]
 intro Y hY
 refine hY _ _ ?_
 simp -dsimp [e2, e4, w1]
 refine B.zk (fun hb => ?_) (fun hb => ?_) <;> simp -dsimp at hb ⊢
 ·rw [zsn, if_neg hb] at hq; exact zba hq
 ·rw [zsn, if_pos hb] at hq
  refine hY _ _ ?_
  simp -dsimp [e3, e5, w1, w2]
  refine B.zk (fun hc => ?_) (fun hc => ?_) <;> simp -dsimp at hc ⊢
  ·exact zba hq
  ·refine hY _ _ ?_
   simp -dsimp [w1, w2]
   rw [hc] at hq; exact zba hq
def zge (a b : Lot) : Int := zsn (zkx a.zel b.zel) (zkx a.Id b.Id)
theorem zhy (a b : Lot) : zge a b < 0 ↔ a.zel < b.zel ∨ (a.zel = b.zel ∧ a.Id < b.Id) := by
 unfold zge zsn zkx
 repeat' split
 all_goals omega
theorem lotW : Weak (zch zge) where
 asym {a b} h := by
  simp only [zch, decide_eq_true_eq, decide_eq_false_iff_not, zhy] at *
  omega
 zmm {a b c} h k := by
  simp only [zch, decide_eq_false_iff_not, zhy] at *
  omega
def zd8.Spec (C : CSem) (N : Nat → Nat) : Prop := ∀ (a b : Lot) (h : za) (Q : AVal → za → Prop), Q (.int .i64 (zge a b)) h → C (N 144) [.agg a.cs, .agg b.cs] h Q
theorem zd8.spec (i : zd8.Imp C N) (s1 : zcy.Spec C N) (s2 : zdr.Spec C N) : zd8.Spec C N := by
 intro a b h Q hq
 apply i
 simp -dsimp
 refine s1 _ _ _ _ ?_
 refine s1 _ _ _ _ ?_
 simp -dsimp [repL]
 intro id hid
 refine s2 _ _ _ [] _ _ (SlX.lit (zbh ..) (by simp) rfl (by simp) rfl) ?_
 exact zk5 (zgo _ hid) hq
def lotE : zx := opsF 6 56 [.int .i64 0, .str [], .int .i64 0, .int .i64 0, .int .i64 0, .bool false] 0 []
theorem lotS : zc6 lotE Lot.cs (fun l => .agg l.cs) := seqF (by omega) (by omega) rfl fun _ => rfl
theorem clone_spec {E : zx} {X : Type} {cs : X → List AVal} {v : X → AVal} (S : zc6 E cs v) {x : AVal} {L : List X} {R : List (List AVal)} {h : za} {Q : AVal → za → Prop} (hx : SlX h E.es x (L.map cs) R) (hlen : L.length ≤ 100000000)
  (hq : ∀ x' h', Rw E cs h h' x' L [] → Q x' h') : znz.cps C E x h Q := by
 have cp : B.appW h E.es E.bytes .sz x (fun v7 h => Q v7 h) := by
  have hm := Nat.mul_le_mul hlen S.small
  refine Owns.appW ((Owns.start h).sz E.es) 0 rfl hx S.pos (by simp; omega) (by simp [maxLen]; omega) fun x' h' h1 _ => hq x' h' ?_
  simpa [Rw] using h1
 rcases hx.2 with ⟨e1, e2, rfl | rfl⟩ | ⟨id, g, off, cp', b, hi, rfl, h3⟩
 ·simp -dsimp [V.eqSl]
  refine hq _ _ ?_
  unfold Rw
  rw [e1]
  exact (Owns.start h).nils E.es
 ·simp -dsimp [V.eqSl]
  exact cp
 ·simp -dsimp [V.eqSl]
  rw [List.length_map] at cp
  exact cp
def z7.Spec (C : CSem) (N : Nat → Nat) : Prop := ∀ (x : AVal) (L : List Lot) (R : List (List AVal)) (h : za) (Q : AVal → za → Prop), SlX h 6 x (L.map Lot.cs) R → L.length ≤ 100000000 →
 (∀ x' h', Owns h h' [.sl 6 x' (L.map Lot.cs) []] → Q x' h') → C (N 160) [x] h Q
theorem z7.spec (i : z7.Imp C N) : z7.Spec C N := by
 intro x L R h Q hx hlen hq
 exact i _ _ _ (clone_spec lotS hx hlen fun x' h' ho => zba (hq x' h' ho))
def zo.Spec (C : CSem) (N : Nat → Nat) : Prop := ∀ (h0 h : za) (x f : AVal) (c : Lot → Lot → Int) (L : List Lot) (R : List (List AVal)) (Q : AVal → za → Prop), Weak (zch c) → zed C (fun l : Lot => .agg l.cs) c f h0 → L.length ≤ 100000000 →
 Owns h0 h [.sl 6 x (L.map Lot.cs) R] → (∀ h', Owns h0 h' [.sl 6 x ((sortB c L).map Lot.cs) R] → Q (.tup []) h') → C (N 161) [x, f] h Q
theorem zo.spec (i : zo.Imp C N) (i1 : zbv.Imp C N) (i2 : zb1.Imp C N) (i3 : zbp.Imp C N) (i4 : zbg.Imp C N) (i5 : zb0.Imp C N) :
  zo.Spec C N := by
 intro h0 h x f c L R Q W hc hlen ho hq
 refine i _ _ _ _ (zlb lotS W (f1 := N 167) (f2 := N 169) (f3 := N 170) (f4 := N 168) ⟨i1, i2, i3, i4, i5⟩ hc hlen ho fun h' L' st o => zba (hq h' ?_))
 rw [← zpv W st]; exact o
def zh2 (L : List Lot) : List Lot := sortB zge L
def zfj.Spec (C : CSem) (N : Nat → Nat) : Prop := ∀ (x : AVal) (L : List Lot) (R : List (List AVal)) (h : za) (Q : AVal → za → Prop), SlX h 6 x (L.map Lot.cs) R → L.length ≤ 100000000 →
 (∀ x' h', Owns h h' [.sl 6 x' ((zh2 L).map Lot.cs) []] → Q x' h') → C (N 149) [x] h Q
theorem zfj.spec (i : zfj.Imp C N) (s1 : z7.Spec C N) (s2 : zo.Spec C N) (s3 : zd8.Spec C N) : zfj.Spec C N := by
 intro x L R h Q hx hlen hq
 apply i
 simp -dsimp
 refine s1 _ _ _ _ _ hx hlen fun x' h' ho => ?_
 refine s2 _ _ _ _ _ _ _ _ lotW ⟨fun h a b K _ hk => ?_⟩ hlen ho fun h2 o2 => zba (hq x' h2 o2)
 simp -dsimp
 exact s3 _ _ _ _ hk
end Go.Ab
namespace Go.Ab
variable {C : CSem} {N : Nat → Nat}
def zc5.Spec (C : CSem) (N : Nat → Nat) : Prop := ∀ (a b : Lot) (h : za) (Q : AVal → za → Prop), Q (.int .i64 (zge a b)) h → C (N 145) [.agg a.cs, .agg b.cs] h Q
theorem zc5.spec (i : zc5.Imp C N) : zc5.Spec C N := by
 intro a b h Q hq
 apply i
 simp -dsimp
 have e : ∀ n : Int, zge a b = n → dn Q (.int .i64 n) h := fun n hn => by rw [← hn]; exact zba hq
 refine B.zk (fun h1 => ?_) (fun h1 => ?_) <;> simp -dsimp at h1 ⊢
 ·exact e _ (by unfold zge zsn zkx; repeat' split; all_goals omega)
 ·refine B.zk (fun h2 => ?_) (fun h2 => ?_) <;> simp -dsimp at h2 ⊢
  ·exact e _ (by unfold zge zsn zkx; repeat' split; all_goals omega)
  ·refine B.zk (fun h3 => ?_) (fun h3 => ?_) <;> simp -dsimp at h3 ⊢
   ·exact e _ (by unfold zge zsn zkx; repeat' split; all_goals omega)
   ·refine B.zk (fun h4 => ?_) (fun h4 => ?_) <;> simp -dsimp at h4 ⊢
    ·exact e _ (by unfold zge zsn zkx; repeat' split; all_goals omega)
    ·exact e _ (by unfold zge zsn zkx; repeat' split; all_goals omega)
end Go.Ab
namespace Go.Ab
variable {C : CSem} {N : Nat → Nat}
theorem take_one {X : Type} {L : List X} {k : Nat} (hb : k < L.length) : L.take (k + 1) = L.take k ++ [L[k]] := by rw [List.take_add_one, List.getElem?_eq_getElem hb]; rfl
end Go.Ab
set_option maxRecDepth 100000
namespace Go.Ab
variable {C : CSem} {N : Nat → Nat}
@[irreducible] def mark (k i : Int) : Int := IntKind.i64.wrap (IntKind.i64.wrap (1000003 * IntKind.i64.wrap (k + 7)) + i)
def ze8.Spec (C : CSem) (N : Nat → Nat) : Prop := ∀ (k i : Int) (h : za) (Q : AVal → za → Prop), Q (.int .i64 (mark k i)) h → C (N 20) [.int .i64 k, .int .i64 i] h Q
theorem ze8.spec (i : ze8.Imp C N) : ze8.Spec C N := by
 intro k j h Q hq
 apply i
 simp +contextual -dsimp
 unfold mark at hq
 exact zba hq
def zcs.Spec (C : CSem) (N : Nat → Nat) : Prop := ∀ (x y : AVal) (L M : List zbz) (R S : List (List AVal)) (h : za) (Q : AVal → za → Prop), SlX h 2 x (L.map zbz.cs) R → SlX h 2 y (M.map zbz.cs) S → L.length < 4611686018427387904 →
 Q (.bool (decide (L = M))) h → C (N 12) [x, y] h Q
theorem zcs.spec (i : zcs.Imp C N) : zcs.Spec C N := fun x y L M R S h Q hx hy hlen hq =>
 i x y h Q (sameG_spec wF hx hy hlen (zba hq))
def markLot (k i : Int) : Lot := ⟨mark k i, [], 0, 0, 0, false⟩
def zd2.Spec (C : CSem) (N : Nat → Nat) : Prop := ∀ (k i : Int) (h : za) (Q : AVal → za → Prop), Q (.agg (markLot k i).cs) h → C (N 77) [.int .i64 k, .int .i64 i] h Q
theorem zd2.spec (i : zd2.Imp C N) (s1 : ze8.Spec C N) : zd2.Spec C N := by
 intro k j h Q hq
 apply i
 simp +contextual -dsimp
 refine s1 _ _ _ _ ?_
 simp +contextual -dsimp
 exact zba hq
abbrev marksLot : List (List AVal) := marks lotF (markLot 1) 12
def zdn.Spec (C : CSem) (N : Nat → Nat) : Prop := ∀ (x : AVal) (L : List Lot) (R : List (List AVal)) (h : za) (Q : AVal → za → Prop), SlX h 6 x (L.map Lot.cs) R → L.length ≤ 100000000 →
 (∀ x' h', Owns h h' [.sl 6 x' (L.map Lot.cs) marksLot] → Q x' h') → C (N 48) [x] h Q
theorem zdn.spec (i : zdn.Imp C N) (s1 : zd2.Spec C N) : zdn.Spec C N := fun x L R h Q hx hlen hq =>
 i x h Q (zpg lotF (z := [.int .i64 0, .str [], .int .i64 0, .int .i64 0, .int .i64 0, .bool false]) (m := 1) (mk := markLot 1) rfl (by omega) (s1 1) hx hlen fun x' h' ho => zba (hq x' h' ho))
def zc7.Spec (C : CSem) (N : Nat → Nat) : Prop := ∀ (x y : AVal) (L M : List Lot) (R : List (List AVal)) (h : za) (Q : AVal → za → Prop), SlX h 6 x (L.map Lot.cs) marksLot → SlX h 6 y (M.map Lot.cs) R → L.length ≤ 100000000 →
 Q (.bool (decide (L = M))) h → C (N 54) [x, y] h Q
theorem zc7.spec (i : zc7.Imp C N) (s1 : zd2.Spec C N) : zc7.Spec C N := fun x y L M R h Q hx hy hlen hq =>
 i x y h Q (zph lotF (m := 1) (mk := markLot 1) (s1 1) hx hy hlen (zba hq))
def zqx (k i : Int) : Want := ⟨[], mark k i, 0⟩
def zdl.Spec (C : CSem) (N : Nat → Nat) : Prop := ∀ (k i : Int) (h : za) (Q : AVal → za → Prop), Q (.agg (zqx k i).cs) h → C (N 107) [.int .i64 k, .int .i64 i] h Q
theorem zdl.spec (i : zdl.Imp C N) (s1 : ze8.Spec C N) : zdl.Spec C N := by
 intro k j h Q hq
 apply i
 simp +contextual -dsimp
 refine s1 _ _ _ _ ?_
 simp +contextual -dsimp
 exact zba hq
abbrev marksWant : List (List AVal) := marks wantF (zqx 1) 12
def zc9.Spec (C : CSem) (N : Nat → Nat) : Prop := ∀ (x : AVal) (L : List Want) (R : List (List AVal)) (h : za) (Q : AVal → za → Prop), SlX h 3 x (L.map Want.cs) R → L.length ≤ 100000000 →
 (∀ x' h', Owns h h' [.sl 3 x' (L.map Want.cs) marksWant] → Q x' h') → C (N 218) [x] h Q
theorem zc9.spec (i : zc9.Imp C N) (s1 : zdl.Spec C N) : zc9.Spec C N := fun x L R h Q hx hlen hq =>
 i x h Q (zpg wantF (z := [.str [], .int .i64 0, .int .i64 0]) (m := 1) (mk := zqx 1) rfl (by omega) (s1 1) hx hlen fun x' h' ho => zba (hq x' h' ho))
def zcz.Spec (C : CSem) (N : Nat → Nat) : Prop := ∀ (x y : AVal) (L M : List Want) (R : List (List AVal)) (h : za) (Q : AVal → za → Prop), SlX h 3 x (L.map Want.cs) marksWant → SlX h 3 y (M.map Want.cs) R → L.length ≤ 100000000 →
 Q (.bool (decide (L = M))) h → C (N 223) [x, y] h Q
theorem zcz.spec (i : zcz.Imp C N) (s1 : zdl.Spec C N) : zcz.Spec C N := fun x y L M R h Q hx hy hlen hq =>
 i x y h Q (zph wantF (m := 1) (mk := zqx 1) (s1 1) hx hy hlen (zba hq))
def markUse (k i : Int) : Use := ⟨0, mark k i, 0⟩
abbrev marksUse : List (List AVal) := marks useF (markUse 1) 12
def zqy (k i : Int) : Part := ⟨[], mark k i⟩
def zdm.Spec (C : CSem) (N : Nat → Nat) : Prop := ∀ (k i : Int) (h : za) (Q : AVal → za → Prop), Q (.agg (zqy k i).cs) h → C (N 108) [.int .i64 k, .int .i64 i] h Q
theorem zdm.spec (i : zdm.Imp C N) (s1 : ze8.Spec C N) : zdm.Spec C N := by
 intro k j h Q hq
 apply i
 simp +contextual -dsimp
 refine s1 _ _ _ _ ?_
 simp +contextual -dsimp
 exact zba hq
abbrev marksPart : List (List AVal) := marks partF (zqy 1) 12
def zda.Spec (C : CSem) (N : Nat → Nat) : Prop := ∀ (x : AVal) (L : List Part) (R : List (List AVal)) (h : za) (Q : AVal → za → Prop), SlX h 2 x (L.map Part.cs) R → L.length ≤ 100000000 →
 (∀ x' h', Owns h h' [.sl 2 x' (L.map Part.cs) marksPart] → Q x' h') → C (N 319) [x] h Q
theorem zda.spec (i : zda.Imp C N) (s1 : zdm.Spec C N) : zda.Spec C N := fun x L R h Q hx hlen hq =>
 i x h Q (zpg partF (z := [.str [], .int .i64 0]) (m := 1) (mk := zqy 1) rfl (by omega) (s1 1) hx hlen fun x' h' ho => zba (hq x' h' ho))
def zc0.Spec (C : CSem) (N : Nat → Nat) : Prop := ∀ (x y : AVal) (L M : List Part) (R : List (List AVal)) (h : za) (Q : AVal → za → Prop), SlX h 2 x (L.map Part.cs) marksPart → SlX h 2 y (M.map Part.cs) R → L.length ≤ 100000000 →
 Q (.bool (decide (L = M))) h → C (N 324) [x, y] h Q
theorem zc0.spec (i : zc0.Imp C N) (s1 : zdm.Spec C N) : zc0.Spec C N := fun x y L M R h Q hx hy hlen hq =>
 i x y h Q (zph partF (m := 1) (mk := zqy 1) (s1 1) hx hy hlen (zba hq))
end Go.Ab
namespace Go.Ab
variable {C : CSem} {N : Nat → Nat}
theorem zhj (L : List Lot) : (zh2 L).Perm L := (zh5 lotW L).perm
theorem zpw (L : List Lot) : (zh2 L).length = L.length := (zhj L).length_eq
theorem sortLots_up (L : List Lot) : (zh2 L).Pairwise fun a b => zch zge b a = false := (zh5 lotW L).sorted lotW
end Go.Ab
namespace Go.Ab
variable {C : CSem} {N : Nat → Nat}
theorem Owns.cutTo {h0 h : za} {es : Nat} {x : AVal} {L R : List (List AVal)} (ho : Owns h0 h [.sl es x L R]) (hes : 0 < es) {k : Nat} (hk : k ≤ L.length) : ∃ y, V.zhe es x none (some (.int .i64 (k : Int))) = some y ∧ Owns h0 h [.sl es y (L.take k) (L.drop k ++ R)] := by
 obtain ⟨y, h1, h2, h3⟩ := (ho.slAt 0 rfl).slice hes (a := none) (b := some (.int .i64 (k : Int))) (lo := 0) (hi := k) (.inl ⟨rfl, rfl⟩) (.inr ⟨_, rfl⟩) (by omega) (by omega)
 rw [List.drop_zero, List.take_append_of_le_length hk, List.drop_append_of_le_length hk] at h2
 refine ⟨y, h1, ?_⟩
 have := ho.turn (h' := h) 0 rfl (o' := .sl es y (L.take k) (L.drop k ++ R)) h2 (fun id b hf hb => ho.ownAt 0 rfl id b (by rw [show Ob.foot (.sl es x L R) = foot x from rfl, ← h3]; exact hf) hb) (fun _ _ h _ => h) (.inl (by rw [show Ob.foot (.sl es y _ _) = foot y from rfl, h3]; rfl))
 simpa using this
end Go.Ab
namespace Go.Ab
variable {C : CSem} {N : Nat → Nat}
abbrev icl (a : Int) : List AVal := [.int .i64 a]
def cmpI (a b : Int) : Int := if a < b then -1 else 1
theorem cmpI_lt {a b : Int} : cmpI a b < 0 ↔ a < b := by unfold cmpI; split <;> simp_all
theorem weakI : Weak (zch cmpI) := by
 constructor <;> simp only [zch, decide_eq_true_eq, decide_eq_false_iff_not, cmpI_lt] <;> omega
def zds.Spec (C : CSem) (N : Nat → Nat) : Prop := ∀ (a b : Int) (h : za) (Q : AVal → za → Prop), Q (.bool (decide (a < b))) h → C (N 340) [.int .i64 a, .int .i64 b] h Q
theorem zds.spec (i : zds.Imp C N) (s1 : zdj.Spec C N) : zds.Spec C N := by
 intro a b h Q hq
 apply i
 simp -dsimp
 refine s1 _ _ _ ?_
 simp -dsimp
 exact zba hq
def zb9.Spec (C : CSem) (N : Nat → Nat) : Prop := ∀ (h0 h : za) (x : AVal) (L : List Int) (R : List (List AVal)) (Q : AVal → za → Prop), Owns h0 h [.sl 1 x (L.map icl) R] → L.length ≤ 100000000 →
 (∀ h' (L' : List Int), L'.Perm L → L'.Pairwise (fun s t => s ≤ t) → Owns h0 h' [.sl 1 x (L'.map icl) R] → Q (.tup []) h') → C (N 335) [x] h Q
theorem seqI : zc6 (opsS 8 (.int .i64 0) 0) icl (fun a : Int => AVal.int .i64 a) := seqS (by omega) fun _ => rfl
theorem zb9.spec (i : zb9.Imp C N) (j1 : zbl.Imp C N) (j2 : zb8.Imp C N) (j3 : zcg.Imp C N) (j4 : zbc.Imp C N)
  (j5 : zbw.Imp C N) (j6 : zby.Imp C N) (j7 : zbs.Imp C N) (j8 : zcd.Imp C N) (j9 : zbq.Imp C N) (k1 : zbm.Imp C N)
  (k2 : zco.Imp C N) (k3 : zcn.Imp C N) (k4 : zcc.Imp C N) (k5 : NextI C (N 298)) (k6 : PowI C (N 299)) (hl : LenI C (N 287)) (s1 : zds.Spec C N) : zb9.Spec C N := by
 intro h0 h x L R Q ho hlen hq
 have J : OrdI C (opsS 8 (.int .i64 0) 0) (N 340) (N 341) (N 342) (N 339) (N 343) (N 344) (N 345) (N 346) (N 347) (N 348) (N 350) (N 351) (N 352) (N 349) (N 298) (N 299) := ⟨j1, j2, j3, j4, j5, j6, j7, j8, j9, k1, k2, k3, k4, k5, k6⟩
 have hc : Ord.zed C (fun a : Int => AVal.int .i64 a) cmpI (N 340) h0 := ⟨fun h' a b K _ hk => s1 _ _ _ _ (by rw [show decide (a < b) = decide (cmpI a b < 0) from decide_eq_decide.2 cmpI_lt.symm]; exact hk)⟩
 refine i _ _ _ (Sort_spec J hl seqI weakI hc hlen (show Rw _ _ _ _ _ _ _ from ho) fun h' G' hp hs o' => zba (hq h' G' hp (hs.imp fun {a b} hab => ?_) o'))
 rw [cmpI_lt] at hab
 omega
def zev : List Int → List Int
 | [] => []
 | [a] => [a]
 | a :: b :: r => if a = b then zev (b :: r) else a :: zev (b :: r)
theorem zou (a b : Int) : ∀ P : List Int, zev (P ++ [a, b]) = if a = b then zev (P ++ [a]) else zev (P ++ [a]) ++ [b]
 | [] => by simp only [List.nil_append, zev]; split <;> simp_all
 | [p] => by
  simp only [List.cons_append, List.nil_append, zev]
  split <;> split <;> simp_all
 | p :: q :: P => by
  have ih := zou a b (q :: P)
  simp only [List.cons_append] at ih ⊢
  simp only [zev]
  rw [ih]
  split <;> split <;> simp_all
theorem zot {L : List Int} {k : Nat} (h1 : 0 < k) (h2 : k < L.length) : zev (L.take (k + 1)) = if L[k] = L[k - 1] then zev (L.take k) else zev (L.take k) ++ [L[k]] := by
 have e1 : L.take (k + 1) = L.take k ++ [L[k]] := by rw [List.take_add_one, List.getElem?_eq_getElem h2]; rfl
 have e2 : L.take k = L.take (k - 1) ++ [L[k - 1]] := by
  conv => lhs; rw [show k = (k - 1) + 1 by omega]
  rw [List.take_add_one, List.getElem?_eq_getElem (by omega)]; rfl
 have := zou L[k - 1] L[k] (L.take (k - 1))
 rw [e1, e2, List.append_assoc]
 simp only [List.cons_append, List.nil_append]
 rw [this]
 simp only [eq_comm]
theorem zlm : ∀ L : List Int, (zev L).length ≤ L.length
 | [] => Nat.le_refl _
 | [a] => Nat.le_refl _
 | a :: b :: r => by
  have := zlm (b :: r)
  simp only [zev]
  split <;> simp_all <;> omega
def zbj.Spec (C : CSem) (N : Nat → Nat) : Prop := ∀ (h0 h : za) (x : AVal) (L : List Int) (R : List (List AVal)) (Q : AVal → za → Prop), Owns h0 h [.sl 1 x (L.map icl) R] → L.length ≤ 100000000 →
 (∀ y h' R', Owns h0 h' [.sl 1 y ((zev L).map icl) R'] → Q y h') → C (N 336) [x] h Q
theorem zbj.spec (i : zbj.Imp C N) : zbj.Spec C N := by
 intro h0 h x L R Q ho hlen hq
 have S := seqI
 have o : Rw (opsS 8 (.int .i64 0) 0) icl h0 h x L R := ho
 apply i
 have l2 : V.bin .lss (.int .i64 (L.length : Int)) (.int .i64 2) = some (.bool (decide (L.length < 2))) := lssN (b := 2)
 simp -dsimp only [zbj.cps, zb2.cps, zb2.k5, o.lenE, l2, B.ze]
 refine B.zk (fun hd => ?_) (fun hd => ?_)
 ·rw [decide_eq_true_eq] at hd
  have : zev L = L := by
   match L, hd with
   | [], _ => rfl
   | [a], _ => rfl
  exact zba (hq x h R (by rw [this]; exact ho))
 rw [decide_eq_false_iff_not] at hd
 refine zm.intro (fun t vs hh => hh = h ∧ ∃ k : Nat, k + t = L.length ∧ vs = [.int .i64 (k : Int)] ∧ 0 < k ∧ zev (L.take k) = L.take k) (L.length - 1) ?_ ⟨rfl, 1, by omega, rfl, by omega, ?_⟩
 rotate_left
 ·cases L with
  | nil => rfl
  | cons a r => rfl
 rintro Y t vs hh ⟨rfl, k, hkt, rfl, hk0, hck⟩ hY
 simp -dsimp only [zb2.l4, o.lenE, lssN, B.ze]
 refine B.zk (fun hk => ?_) (fun hk => ?_)
 rotate_left
 ·rw [decide_eq_false_iff_not] at hk
  have : k = L.length := by omega
  rw [this, List.take_length] at hck
  exact zba (hq x hh R (by rw [hck]; exact ho))
 rw [decide_eq_true_eq] at hk
 have e1 : V.bin .sub (.int .i64 (k : Int)) (.int .i64 1) = some (.int .i64 ((k - 1 : Nat) : Int)) := zi9 (b := 1) (by omega) (by omega)
 have ik := o.idx hk
 have ik1 := o.idx (show k - 1 < L.length by omega)
 simp -dsimp only [zb2.k3, ik, B.ze]
 refine o.ld S (List.getElem?_eq_getElem hk) ?_
 simp -dsimp only [e1, ik1, B.ze]
 refine o.ld S (List.getElem?_eq_getElem (show k - 1 < L.length by omega)) ?_
 simp -dsimp only [V.zh0, B.ze]
 have hct := zot hk0 hk
 refine B.zk (fun he => ?_) (fun he => ?_)
 rotate_left
 ·rw [decide_eq_false_iff_not] at he
  rw [if_neg he, hck] at hct
  simp -dsimp only [add1 (show k < 4611686018427387904 by omega), B.ze]
  refine hY (t - 1) _ _ (by omega) ⟨rfl, k + 1, by omega, rfl, by omega, ?_⟩
  rw [hct, List.take_add_one, List.getElem?_eq_getElem hk]; rfl
 rw [decide_eq_true_eq] at he
 rw [if_pos he, hck] at hct
 have cut : ∀ {h' : za} {G : List Int} {R' : List (List AVal)}, Rw (opsS 8 (.int .i64 0) 0) icl h0 h' x G R' → G.length = L.length → ∃ y R2, V.zhe 1 x (some (.int .i64 (k : Int))) none = some y ∧ SlX h' 1 y ((G.drop k).map icl) R2 := fun {h' G R'} o' hG => by
  obtain ⟨y, R2, h1, h2, _⟩ := (Owns.slAt o' 0 rfl).sliceIn (Nat.one_pos) (a := some (.int .i64 (k : Int))) (b := none) (lo := k) (hi := G.length) (.inr ⟨_, rfl⟩) (.inl ⟨rfl, rfl⟩) (by omega) (Nat.le_refl _)
  rw [List.take_length] at h2
  exact ⟨y, R2, h1, h2⟩
 obtain ⟨s2, _, hs2, _⟩ := cut o rfl
 have cut2 : ∀ {h' : za} {G : List Int}, Rw (opsS 8 (.int .i64 0) 0) icl h0 h' x G R → G.length = L.length → ∃ R2, SlX h' 1 s2 ((G.drop k).map icl) R2 := fun {h' G} o' hG => by
  obtain ⟨y, R2, e1, e2⟩ := cut o' hG
  rw [hs2] at e1
  cases e1
  exact ⟨R2, e2⟩
 have hs2' : V.zhe (opsS 8 (.int .i64 0) 0).es x (some (.int .i64 (k : Int))) none = some s2 := hs2
 simp -dsimp only [hs2', B.ze]
 refine zm.intro (fun t vs h2 => ∃ (i j : Nat) (G : List Int), k + j + t = L.length ∧ vs = [.int .i64 (i : Int), .int .i64 (j : Int)] ∧ k ≤ i ∧ i + 1 ≤ k + j ∧ 0 < j ∧ G.length = L.length ∧ G.take i = zev (L.take (k + j)) ∧ (∀ q, k + j ≤ q + 1 → G[q]? = L[q]?) ∧ Rw (opsS 8 (.int .i64 0) 0) icl h0 h2 x G R) (L.length - (k + 1)) ?_
  ⟨k, 1, L, by omega, rfl, Nat.le_refl _, Nat.le_refl _, Nat.one_pos, rfl, hct.symm, fun _ _ => rfl, o⟩
 rintro Z t2 vs h2 ⟨i, j, G, hjt, rfl, hki, hij, hj0, hGl, hGt, hGq, o2⟩ hZ
 obtain ⟨R2, x2⟩ := cut2 o2 hGl
 have ln2 : V.zcj s2 = some (.int .i64 ((L.length - k : Nat) : Int)) := by have := x2.zcj; simpa [hGl] using this
 simp -dsimp only [zb2.l2, zb2.k1, ln2, lssN, B.ze]
 refine B.zk (fun hlt => ?_) (fun hlt => ?_)
 ·rw [decide_eq_true_eq] at hlt
  have dl : ∀ q, q < L.length - k → (G.drop k)[q]? = G[k + q]? := fun q _ => by rw [List.getElem?_drop]
  have lj : j < ((G.drop k).map icl).length := by simp; omega
  have lj1 : j - 1 < ((G.drop k).map icl).length := by simp; omega
  have gj : ((G.drop k).map icl)[j]? = some (icl L[k + j]) := by
   rw [List.getElem?_map, dl j hlt, hGq (k + j) (by omega), List.getElem?_eq_getElem (by omega)]; rfl
  have gj1 : ((G.drop k).map icl)[j - 1]? = some (icl L[k + j - 1]) := by
   rw [List.getElem?_map, dl (j - 1) (by omega), show k + (j - 1) = k + j - 1 by omega, hGq (k + j - 1) (by omega), List.getElem?_eq_getElem (by omega)]; rfl
  have ij : V.idxS (opsS 8 (.int .i64 0) 0).es s2 (.int .i64 (j : Int)) = some (elp 1 s2 j 0) := x2.idxN lj
  have ij1 : V.idxS (opsS 8 (.int .i64 0) 0).es s2 (.int .i64 ((j - 1 : Nat) : Int)) = some (elp 1 s2 (j - 1) 0) := x2.idxN lj1
  have e2 : V.bin .sub (.int .i64 (j : Int)) (.int .i64 1) = some (.int .i64 ((j - 1 : Nat) : Int)) := zi9 (b := 1) (by omega) (by omega)
  simp -dsimp only [ij, B.ze]
  refine S.ld x2 gj ?_
  simp -dsimp only [e2, ij1, B.ze]
  refine S.ld x2 gj1 ?_
  simp -dsimp only [V.bin_neq, B.ze]
  have hst := zot (L := L) (k := k + j) (by omega) (by omega)
  refine B.zk (fun hne => ?_) (fun hne => ?_)
  ·have hne : L[k + j] ≠ L[k + j - 1] := by simpa using hne
   rw [if_neg hne] at hst
   simp -dsimp only [ij, B.ze]
   refine S.ld x2 gj ?_
   simp -dsimp only [o2.idx (show i < G.length by omega), B.ze]
   refine o2.st S (t := L[k + j]) (by omega) fun h3 o3 => ?_
   simp -dsimp only [add1 (show i < 4611686018427387904 by omega), add1 (show j < 4611686018427387904 by omega), B.ze]
   refine hZ (t2 - 1) _ _ (by omega) ⟨i + 1, j + 1, _, by omega, rfl, by omega, by omega, by omega, by simpa using hGl, ?_, fun q hq' => ?_, o3⟩
   ·rw [← Nat.add_assoc, hst, ← hGt, List.take_add_one]
    rw [List.getElem?_set_self (by omega), List.take_set_of_le (Nat.le_refl _)]; rfl
   ·rw [List.getElem?_set_ne (by omega)]; exact hGq q (by omega)
  ·have hne : L[k + j] = L[k + j - 1] := by simpa using hne
   rw [if_pos hne] at hst
   simp -dsimp only [add1 (show j < 4611686018427387904 by omega), B.ze]
   exact hZ (t2 - 1) _ _ (by omega) ⟨i, j + 1, G, by omega, rfl, hki, by omega, by omega, hGl, by rw [← Nat.add_assoc, hst]; exact hGt, fun q hq' => hGq q (by omega), o2⟩
 ·rw [decide_eq_false_iff_not] at hlt
  have : k + j = L.length := by omega
  rw [this, List.take_length] at hGt
  obtain ⟨y, y1, y2⟩ := Owns.clrTail (z := [.int .i64 0]) (lo := i) (K := fun v h => B.pv (V.zhe 1 x none (some (.int .i64 (i : Int)))) fun v59 => dn Q v59 h) o2 0 rfl rfl (by simp; omega) fun h3 o3 _ => by
   have o3 : Owns h0 h3 [.sl 1 x ((G.map icl).take i ++ List.replicate ((G.map icl).length - i) [.int .i64 0]) R] := o3
   obtain ⟨z, z1, z2⟩ := o3.cutTo Nat.one_pos (k := i) (by simp; omega)
   simp -dsimp only [z1, B.ze]
   have e3 : ((G.map icl).take i ++ List.replicate ((G.map icl).length - i) [AVal.int .i64 0]).take i = (zev L).map icl := by
    rw [List.take_append_of_le_length (by simp; omega), List.take_take, Nat.min_self, ← List.map_take, hGt]
   rw [e3] at z2
   exact zba (hq z h3 _ z2)
  have y1' : V.zhe (opsS 8 (.int .i64 0) 0).es x (some (.int .i64 (i : Int))) none = some y := y1
  simp -dsimp only [y1', B.ze]
  exact y2
end Go.Ab
namespace Go.Ab
abbrev Ents (K T : Type) := List (K × T × Nat)
section
variable {K T : Type} [DecidableEq K]
def getP : Ents K T → K → Option T
 | [], _ => none
 | p :: r, k => if p.1 = k then some p.2.1 else getP r k
def putP : Ents K T → K → T → Nat → Ents K T
 | [], k, t, c => [(k, t, c)]
 | p :: r, k, t, c => if p.1 = k then (k, t, p.2.2) :: r else p :: putP r k t c
def clkP (ps : Ents K T) (k : K) (c : Nat) : Nat := if (getP ps k).isSome then c else c + 1
def idxP : Ents K T → K → Option (Nat × T × Nat)
 | [], _ => none
 | p :: r, k => if p.1 = k then some (0, p.2.1, p.2.2) else (idxP r k).map fun (i, q) => (i + 1, q)
theorem zl0 (k k' : K) (t : T) (c : Nat) : ∀ ps : Ents K T, getP (putP ps k t c) k' = if k' = k then some t else getP ps k'
 | [] => by
  simp only [putP, getP]
  by_cases h : k' = k
  ·rw [if_pos h.symm, if_pos h]
  ·rw [if_neg (Ne.symm h), if_neg h]
 | p :: r => by
  have ih := zl0 k k' t c r
  simp only [putP]
  by_cases hp : p.1 = k
  ·rw [if_pos hp]
   simp only [getP]
   by_cases h : k' = k
   ·rw [if_pos h.symm, if_pos h]
   ·rw [if_neg (Ne.symm h), if_neg h, if_neg (by rw [hp]; exact Ne.symm h)]
  ·rw [if_neg hp]
   simp only [getP, ih]
   by_cases h : k' = k
   ·subst h; rw [if_neg hp, if_pos rfl, if_pos rfl]
   ·rw [if_neg h, if_neg h]
theorem idxP_get (k : K) : ∀ ps : Ents K T, getP ps k = (idxP ps k).map (·.2.1)
 | [] => rfl
 | p :: r => by
  simp only [getP, idxP]
  split
  ·rfl
  ·rw [idxP_get k r]; cases idxP r k <;> rfl
theorem idxP_put {k : K} {t : T} {c i : Nat} {q : T × Nat} : ∀ {ps : Ents K T}, idxP ps k = some (i, q) → putP ps k t c = ps.set i (k, t, q.2) ∧ i < ps.length
 | [], h => by simp [idxP] at h
 | p :: r, h => by
  simp only [idxP] at h
  by_cases hp : p.1 = k
  ·rw [if_pos hp] at h
   simp only [Option.some.injEq, Prod.mk.injEq] at h
   obtain ⟨rfl, rfl⟩ := h
   simp [putP, hp]
  ·rw [if_neg hp] at h
   cases hr : idxP r k with
   | none => simp [hr] at h
   | some x =>
    obtain ⟨j, q'⟩ := x
    simp [hr] at h
    obtain ⟨rfl, rfl⟩ := h
    have := idxP_put (t := t) (c := c) hr
    simp [putP, hp, this.1, this.2]
theorem zoh {k : K} {t : T} {c : Nat} : ∀ {ps : Ents K T}, idxP ps k = none → putP ps k t c = ps ++ [(k, t, c)]
 | [], _ => rfl
 | p :: r, h => by
  simp only [idxP] at h
  by_cases hp : p.1 = k
  ·rw [if_pos hp] at h; cases h
  ·rw [if_neg hp] at h
   cases hr : idxP r k with
   | none => simp [putP, hp, zoh hr]
   | some x => simp [hr] at h
end
structure KeyE (kd : KD) {K : Type} [DecidableEq K] (κ : K → AVal) : Prop where
 same : ∀ a b, V.sameK kd (κ a) (κ b) = some (decide (a = b))
theorem keyI : KeyE .i (fun n : Int => .int .i64 n) := ⟨fun a b => by
 simp only [V.sameK, if_true]; congr 1⟩
theorem keyS : KeyE .s (fun s : List UInt8 => .str s) := ⟨fun a b => by
 simp only [V.sameK]; congr 1; rw [Bool.eq_iff_iff, beq_iff_eq, decide_eq_true_eq]⟩
def encM {K T : Type} (κ : K → AVal) (v : T → AVal) (ps : Ents K T) : List (AVal × AVal × Nat) := ps.map fun p => (κ p.1, v p.2.1, p.2.2)
section
variable {kd : KD} {K T : Type} [DecidableEq K] {κ : K → AVal} {v : T → AVal}
theorem zr3 (hκ : KeyE kd κ) (k : K) : ∀ (ps : Ents K T) (i : Nat), V.findK kd (κ k) (encM κ v ps) i = some ((idxP ps k).map fun (j, q) => (i + j, v q.1, q.2))
 | [], i => rfl
 | p :: r, i => by
  simp only [encM, List.map_cons, V.findK, hκ.same, idxP]
  by_cases hp : k = p.1
  ·rw [if_pos hp.symm]; simp [hp]
  ·rw [if_neg (Ne.symm hp)]
   have ih := zr3 hκ k r (i + 1)
   simp only [encM] at ih
   simp only [hp, decide_false, ih]
   cases idxP r k with
   | none => rfl
   | some x => obtain ⟨j, q⟩ := x; simp only [Option.map_some]; congr 3; omega
theorem fset_enc (hκ : KeyE kd κ) (k : K) (t : T) (ps : Ents K T) (c : Nat) : A.fset (some kd) (κ k) (v t) (encM κ v ps) c = some (encM κ v (putP ps k t c), clkP ps k c, .undef) := by
 simp only [A.fset, zr3 hκ, clkP, idxP_get]
 cases h : idxP ps k with
 | none => simp [zoh h, encM]
 | some x =>
  obtain ⟨j, q⟩ := x
  have := idxP_put (t := t) (c := c) h
  simp only [Option.map_some, Option.isSome_some, if_true, Nat.zero_add, this.1, encM, List.map_set]
end
def zeq (es : List (AVal × AVal × Nat)) (c : Nat) : Blk := zht (.map es c)
theorem Owns.newBlk {h0 h : za} {l : List Ob} (ho : Owns h0 h l) {id : Nat} (hid : h id = none) {b : Blk} (hb : b.own = true) : Owns h0 (upd h id b) (l ++ [.blk id b]) :=
 ho.join ⟨zgo _ hid, fun o hm => by rw [List.mem_singleton.1 hm]; exact zbh .., fun o hm j hj => by rw [List.mem_singleton.1 hm] at hj; cases hj; exact ⟨hid, fun b hb' => by rw [zbh] at hb'; cases hb'; exact hb⟩, List.pairwise_singleton _ _⟩
theorem Owns.zmn {h0 h : za} {l : List Ob} {K T : Type} (ho : Owns h0 h l) (κ : K → AVal) (v : T → AVal) {Q : AVal → za → Prop} (hq : ∀ id h', h id = none → Owns h0 h' (l ++ [.blk id (zeq (encM κ v []) 0)]) → h.le h' → Q (.mp id) h') : B.zmn h Q :=
 fun id hid => hq id _ hid (ho.newBlk hid rfl) (zgo _ hid)
section
variable {h0 h : za} {l : List Ob} {kd : KD} {K T : Type} [DecidableEq K] {κ : K → AVal} {v : T → AVal}
theorem Owns.setBlk (ho : Owns h0 h l) (k : Nat) {id : Nat} {b b' : Blk} (hk : l[k]? = some (.blk id b)) (hb : b'.own = true) : Owns h0 (upd h id b') (l.set k (.blk id b')) :=
 ho.turn k hk (zbh ..) (fun j c hj hc => by cases hj; rw [zbh] at hc; cases hc; exact hb) (fun j c e1 e2 => by rw [zq]; exact e1; intro e; subst e; exact e2 rfl) (.inl rfl)
theorem mapAt_blk {id : Nat} {es : List (AVal × AVal × Nat)} {c : Nat} (hb : h id = some (zeq es c)) : A.zmg h (.mp id) = some (es, c) := by simp [A.zmg, hb, zeq, zht]
theorem objT_blk {id : Nat} {es es' : List (AVal × AVal × Nat)} {c c' : Nat} {u : AVal} {f : List (AVal × AVal × Nat) → Nat → Option (List (AVal × AVal × Nat) × Nat × AVal)} {Q : AVal → za → Prop} (hb : h id = some (zeq es c)) (hf : f es c = some (es', c', u))
  (hq : Q u (upd h id (zeq es' c'))) : A.objT h (.mp id) f Q := by
 unfold zeq zht at *
 simp only [A.objT, hb, hf]
 exact hq
theorem lkp_blk {id : Nat} {c : Nat} {ps : Ents K T} (hκ : KeyE kd κ) (hb : h id = some (zeq (encM κ v ps) c)) (z : T) (k : K) (ok : Bool) :
  A.lkp h (some kd) (some (v z)) ok (.mp id) (κ k) = some (bif ok then .tup [v ((getP ps k).getD z), .bool (getP ps k).isSome] else v ((getP ps k).getD z)) := by
 simp only [A.lkp, A.entries, mapAt_blk hb, zr3 hκ, idxP_get]
 cases idxP ps k with
 | none => rfl
 | some x => rfl
theorem Owns.lkp (ho : Owns h0 h l) (i : Nat) {id c : Nat} {ps : Ents K T} (hi : l[i]? = some (.blk id (zeq (encM κ v ps) c))) (hκ : KeyE kd κ) (z : T) (k : K) : A.lkp h (some kd) (some (v z)) false (.mp id) (κ k) = some (v ((getP ps k).getD z)) :=
 lkp_blk hκ (ho.at i hi) z k false
theorem Owns.mset (ho : Owns h0 h l) (i : Nat) {id c : Nat} {ps : Ents K T} (hi : l[i]? = some (.blk id (zeq (encM κ v ps) c))) (hκ : KeyE kd κ) (k : K) (t : T) {Q : za → Prop}
  (hq : ∀ h', Owns h0 h' (l.set i (.blk id (zeq (encM κ v (putP ps k t c)) (clkP ps k c)))) → But (.mp id) h h' → (∀ j, j ≠ id → h' j = h j) → Q h') : B.mset h kd (.mp id) (κ k) (v t) Q :=
 objT_blk (ho.at i hi) (fset_enc hκ k t ps c) (hq _ (ho.setBlk i hi rfl) (fun j b e1 e2 => by rw [zq]; exact e1; intro e; subst e; exact e2 rfl) fun j hj => zq _ _ hj)
end
end Go.Ab
namespace Go.Ab
variable {C : CSem} {N : Nat → Nat}
theorem zb6.spec (i : zb6.Imp C N) (s1 : zdc.Spec C N) : zb6.Spec C N := by
 intro x L R h Q hx hlen hq
 apply i
 simp +contextual -dsimp
 intro id hid
 simp -dsimp only [hx.zcj, List.length_map, B.ze]
 have hz : zrep 4002 (AVal.int .i64 0) = tks (tick []) := by rw [zrep_fill]; exact ztf fun j _ => by simp [tick]
 have ho := (Owns.start h).zj9 hid (tks (tick []))
 rw [← hz] at ho
 refine zm.intro (fun n vs hh => ∃ k, k + n = L.length ∧ vs = [.int .i64 k] ∧ Owns h hh [.box (.ptr id 0 0) (tks (tick (L.take k)))] ∧ ∀ w ∈ L.take k, w.right = true) L.length ?_ ⟨0, by simp, by simp, by simpa [← hz] using ho, by simp⟩
 rintro Y n vs hh ⟨k, hn, rfl, ho, hr⟩ hY
 simp +contextual -dsimp
 refine B.zk (fun hb => ?_) (fun hb => ?_) <;> simp +contextual -dsimp at hb ⊢
 ·have ew := zry (L := L) hb
  obtain ⟨w, hw⟩ := ew
  have hx1 := hx.mono ho.le
  have hk : k < (L.map zbz.cs).length := by simpa using hb
  simp +contextual -dsimp [hx1.idxN hk, hx1.elem (get_map hw)]
  refine s1 _ _ _ _ ?_
  simp +contextual -dsimp
  refine B.zk (fun hc => ?_) (fun hc => ?_) <;> simp +contextual -dsimp at hc ⊢
  ·refine zk5 ho.le (hq _ _ ?_)
   have : rows L = [] := by
    unfold rows
    rw [if_neg]
    intro ha
    rw [List.all_eq_true] at ha
    rw [ha w (List.mem_of_getElem? hw)] at hc; cases hc
   rw [this]
   exact (Owns.start h).nils 2
  ·obtain ⟨f, u⟩ := w
   simp only [zbz.right, Bool.and_eq_true, decide_eq_true_eq] at hc
   obtain ⟨id', e, hbx⟩ := ho.zhu 0 rfl
   cases e
   have hl := List.length_take_le k L
   have t1 := tick_le (L.take k) f.toNat
   have t2 := tick_le (L.take k) u.toNat
   have e1 : V.idxA 4002 1 (.ptr id 0 0) (.int .i64 f) = some (.ptr id 0 f.toNat) := by simp [V.idxA]; omega
   have e2 : V.idxA 4002 1 (.ptr id 0 0) (.int .i64 u) = some (.ptr id 0 u.toNat) := by simp [V.idxA]; omega
   have e3 : A.ldv hh (.ptr id 0 f.toNat) = some (.int .i64 (tick (L.take k) f.toNat)) := by rw [zfs hbx, zl4 _ (by omega)]
   simp +contextual -dsimp [e1, e2, e3]
   refine ho.znt 0 rfl (by simp) (by simp; omega) fun h2 ho2 _ => ?_
   obtain ⟨id', e, hbx2⟩ := ho2.zhu 0 rfl
   cases e
   rw [fill_set] at hbx2
   have e5 : ∀ (c : Prop) [Decidable c] (a b : Int), (if c then AVal.int .i64 a else .int .i64 b) = .int .i64 (if c then a else b) := fun c _ a b => by split <;> rfl
   have e4 : A.ldv h2 (.ptr id 0 u.toNat) = some (.int .i64 (if u.toNat = f.toNat then IntKind.i64.wrap (tick (L.take k) f.toNat + 1) else tick (L.take k) u.toNat)) := by rw [zfs hbx2, zl4 _ (by omega), e5]
   simp +contextual -dsimp [e1, e2, e4]
   refine ho2.znt 0 rfl (by simp) (by simp; omega) fun h3 ho3 _ => ?_
   simp [inc64 (n := k) (by omega)]
   refine hY (L.length - (k + 1)) _ _ (by omega) ⟨k + 1, by omega, by simp, ?_, ?_⟩
   ·rw [fill_set, fill_set] at ho3
    simp only [e5] at ho3
    rw [take_succ hw]
    have : (fill 4002 fun j => AVal.int .i64 (if j = u.toNat then IntKind.i64.wrap ((if u.toNat = f.toNat then IntKind.i64.wrap (tick (L.take k) f.toNat + 1) else tick (L.take k) u.toNat) - 1) else if j = f.toNat then IntKind.i64.wrap (tick (L.take k) f.toNat + 1) else tick (L.take k) j)) = tks (tick (L.take k ++ [⟨f, u⟩])) := by
     refine ztf fun j hj => ?_
     have w1 : IntKind.i64.wrap (tick (L.take k) f.toNat + 1) = tick (L.take k) f.toNat + 1 := wrap_i64 (by omega) (by omega)
     congr 1
     rw [w1, wrap_i64 (by split <;> omega) (by split <;> omega)]
     have ht : tick (L.take k ++ [⟨f, u⟩]) j = tick (L.take k) j + (if f = (j : Int) then 1 else 0) - (if u = (j : Int) then 1 else 0) := by
      simp only [tick, List.countP_append, List.countP_cons, List.countP_nil, decide_eq_true_eq]
      by_cases c1 : f = (j : Int) <;> by_cases c2 : u = (j : Int) <;> simp only [c1, c2, if_true, if_false] <;> omega
     rw [ht]
     by_cases c1 : j = u.toNat
     ·subst c1
      rw [if_pos rfl]
      by_cases c2 : u.toNat = f.toNat
      ·rw [if_pos c2, if_pos (by omega), if_pos (by omega), c2]
      ·rw [if_neg c2, if_neg (by omega), if_pos (by omega)]; omega
     ·rw [if_neg c1]
      by_cases c2 : j = f.toNat
      ·subst c2; rw [if_pos rfl, if_pos (by omega), if_neg (by omega)]; omega
      ·rw [if_neg c2, if_neg (by omega), if_neg (by omega)]; omega
    rw [← this]
    exact ho3
   ·rw [take_succ hw]
    intro w' hw'
    rcases List.mem_append.1 hw' with hw' | hw'
    ·exact hr w' hw'
    ·rw [List.mem_singleton.1 hw']; simpa [zbz.right] using hc
 ·have hk : k = L.length := by omega
  subst hk
  rw [List.take_length] at ho hr
  refine zb6.loop1 L hr hlen ho fun x' h' ho' => hq x' h' ?_
  unfold rows
  rw [if_pos (List.all_eq_true.2 hr)]
  exact ho'
end Go.Ab
namespace Go.Ab
variable {C : CSem} {N : Nat → Nat}
def zji (p : Nat → Bool) (out : List zbz) (d : Nat) : List zbz :=
 if p d then (if out ≠ [] ∧ (out.getLast?.getD .zero).zel = d then out.dropLast ++ [⟨(out.getLast?.getD .zero).From, d + 1⟩] else out ++ [⟨d, d + 1⟩]) else out
def ofTo (p : Nat → Bool) : Nat → List zbz
 | 0 => []
 | d + 1 => zji p (ofTo p d) d
theorem ofTo_len (p : Nat → Bool) : ∀ d, (ofTo p d).length ≤ d
 | 0 => Nat.le_refl _
 | d + 1 => by
  have := ofTo_len p d
  unfold ofTo zji
  split
  ·split
   ·simp; omega
   ·simp; omega
  ·omega
theorem zpe {p q : Nat → Bool} : ∀ {n : Nat}, (∀ d, d < n → p d = q d) → ofTo p n = ofTo q n
 | 0, _ => rfl
 | n + 1, h => by
  unfold ofTo zji
  rw [zpe (n := n) fun d hd => h d (by omega), h n (by omega)]
abbrev bools (n : Nat) (p : Nat → Bool) : List (List AVal) := zg9 n fun d => [.bool (p d)]
def zem.Spec (C : CSem) (N : Nat → Nat) : Prop := ∀ (x : AVal) (n : Nat) (p : Nat → Bool) (R : List (List AVal)) (h : za) (Q : AVal → za → Prop), SlX h 1 x (bools n p) R → n ≤ 4001 →
 (∀ x' h', Owns h h' [.sl 2 x' ((ofTo p n).map zbz.cs) []] → Q x' h') → C (N 19) [x] h Q
theorem zem.spec (i : zem.Imp C N) : zem.Spec C N := by
 intro x n p R h Q hx hlen hq
 apply i
 simp +contextual -dsimp
 refine zm.intro (fun m vs hh => ∃ d y, d + m = n ∧ vs = [y, .int .i64 d] ∧ Owns h hh [.sl 2 y ((ofTo p d).map zbz.cs) []]) n ?_ ⟨0, .nils, by simp, by simp, (Owns.start h).nils 2⟩
 rintro Y m vs hh ⟨d, y, hn, rfl, ho⟩ hY
 have hx1 := hx.mono ho.le
 have hy := ho.slAt 0 rfl
 have hl := ofTo_len p d
 have hls := hx1.zcj
 have hly := hy.zcj
 simp only [zr4, List.length_map] at hls hly
 simp +contextual -dsimp [hls]
 refine B.zk (fun hb => ?_) (fun hb => ?_) <;> simp +contextual -dsimp at hb ⊢
 ·have e4 : IntKind.i64.wrap ((d : Int) + 1) = ((d + 1 : Nat) : Int) := inc64 (by omega)
  simp +contextual -dsimp [hx1.idxN (i := d) (by simpa using hb), hx1.ldv (zgy _ hb) (f := 0) (by omega)]
  refine B.zk (fun hc => ?_) (fun hc => ?_) <;> simp +contextual -dsimp at hc ⊢
  ·simp [e4]
   refine hY (n - (d + 1)) _ _ (by omega) ⟨d + 1, y, by omega, by simp, ?_⟩
   have : ofTo p (d + 1) = ofTo p d := by simp [ofTo, zji, hc]
   rw [this]; exact ho
  ·simp +contextual -dsimp [hly]
   by_cases hne : ofTo p d = []
   ·have e : ofTo p (d + 1) = ofTo p d ++ [⟨d, d + 1⟩] := by simp [ofTo, zji, hc, hne]
    simp -dsimp [hne, e4, inc64 (n := d) (by omega)]
    rw [hne] at ho hl
    refine ho.push 0 rfl rfl (by omega) (by simp) (by simp [maxLen]) fun x' h' ho' _ => ?_
    try simp [e4]
    refine hY (n - (d + 1)) _ _ (by omega) ⟨d + 1, x', by omega, by simp, ?_⟩
    rw [e, hne]
    exact ho'
   ·have hpos : 0 < (ofTo p d).length := List.length_pos_iff.2 hne
    have e5 : IntKind.i64.wrap (((ofTo p d).length : Int) - 1) = (((ofTo p d).length - 1 : Nat) : Int) := by rw [wrap_i64 (by omega) (by omega)]; omega
    have hl2 : (ofTo p d).length - 1 < ((ofTo p d).map zbz.cs).length := by simp; omega
    have hlast : (ofTo p d)[(ofTo p d).length - 1]? = some ((ofTo p d).getLast hne) := by rw [List.getLast_eq_getElem]; simp
    simp +contextual -dsimp [hpos, hly, e5, hy.idxN hl2, hy.zom hl2, hy.ldv (get_map hlast) (f := 1) (by omega)]
    refine B.zk (fun hd => ?_) (fun hd => ?_) <;> simp +contextual -dsimp at hd ⊢
    ·simp +contextual -dsimp [hly, e5, hy.idxN hl2, hy.zom hl2, e4]
     refine ho.st 0 rfl (c := zbz.cs ((ofTo p d).getLast hne)) (by simp [hlast]) (by omega) (by simp) fun h' ho' _ => ?_
     try simp [e4]
     refine hY (n - (d + 1)) _ _ (by omega) ⟨d + 1, y, by omega, by simp, ?_⟩
     have e : ofTo p (d + 1) = (ofTo p d).set ((ofTo p d).length - 1) ⟨((ofTo p d).getLast hne).From, d + 1⟩ := by
      simp only [ofTo, zji, hc, if_true]
      rw [List.getLast?_eq_some_getLast hne, if_pos ⟨hne, by simpa using hd⟩]
      exact zqa hne _
     rw [e]
     simpa using ho'
    ·try simp [e4]
     refine ho.push 0 rfl rfl (by omega) (by simp; omega) (by simp [maxLen]; omega) fun x' h' ho' _ => ?_
     try simp [e4]
     refine hY (n - (d + 1)) _ _ (by omega) ⟨d + 1, x', by omega, by simp, ?_⟩
     have e : ofTo p (d + 1) = ofTo p d ++ [⟨d, d + 1⟩] := by
      simp only [ofTo, zji, hc, if_true]
      rw [List.getLast?_eq_some_getLast hne, if_neg (by simpa [hne] using hd)]
     rw [e, List.map_append]
     exact ho'
 ·have : d = n := by omega
  subst this
  exact zba (hq _ _ ho)
def zd7.Spec (C : CSem) (N : Nat → Nat) : Prop := ∀ (a b : Int) (h : za) (Q : AVal → za → Prop), Q (.bool (zbz.right ⟨a, b⟩)) h → C (N 6) [.agg [.int .i64 a, .int .i64 b]] h Q
theorem zd7.spec (i : zd7.Imp C N) : zd7.Spec C N := by
 intro a b h Q hq
 apply i
 simp +contextual -dsimp
 exact zba hq
def zes.Spec (C : CSem) (N : Nat → Nat) : Prop := ∀ (a b day : Int) (h : za) (Q : AVal → za → Prop), Q (.bool (zbz.has ⟨a, b⟩ day)) h → C (N 8) [.agg [.int .i64 a, .int .i64 b], .int .i64 day] h Q
theorem zes.spec (i : zes.Imp C N) (s1 : zd7.Spec C N) : zes.Spec C N := by
 intro a b day h Q hq
 apply i
 simp +contextual -dsimp
 refine s1 _ _ _ _ ?_
 simp +contextual -dsimp
 exact zba hq
end Go.Ab
namespace Go.Ab
variable {C : CSem} {N : Nat → Nat}
def wantE : zx := opsF 3 32 [.str [], .int .i64 0, .int .i64 0] 0 []
theorem wantS : zc6 wantE Want.cs (fun w => .agg w.cs) := seqF (by omega) (by omega) rfl fun _ => rfl
def zdt.Spec (C : CSem) (N : Nat → Nat) : Prop := ∀ (n : Int) (h : za) (Q : AVal → za → Prop), Q (.bool (decide (0 ≤ n) && decide (n ≤ 1125899906842624))) h → C (N 247) [.int .i64 n] h Q
theorem zdt.spec (i : zdt.Imp C N) : zdt.Spec C N := by
 intro n h Q hq
 apply i
 simp +contextual -dsimp
 exact zba hq
def zw.Spec (C : CSem) (N : Nat → Nat) : Prop := ∀ (x f : AVal) (p : Want → Bool) (L : List Want) (R : List (List AVal)) (h : za) (Q : AVal → za → Prop), SlX h 3 x (L.map Want.cs) R → L.length < 4611686018427387904 → AskSpec C (fun w : Want => .agg w.cs) f p h →
 Q (.int .i64 (idxI p L)) h → C (N 244) [x, f] h Q
theorem zw.spec (i : zw.Imp C N) : zw.Spec C N := by
 intro x f p L R h Q hx hlen hf hq
 exact i _ _ _ _ (zsp wantS hx hlen hf (zba hq))
def zp.Spec (C : CSem) (N : Nat → Nat) : Prop := ∀ (x f : AVal) (p : Want → Bool) (L : List Want) (R : List (List AVal)) (h : za) (Q : AVal → za → Prop), SlX h 3 x (L.map Want.cs) R → L.length < 4611686018427387904 → AskSpec C (fun w : Want => .agg w.cs) f p h →
 Q (.bool (L.any p)) h → C (N 237) [x, f] h Q
theorem zp.spec (i : zp.Imp C N) (s1 : zw.Spec C N) : zp.Spec C N := by
 intro x f p L R h Q hx hlen hf hq
 exact i _ _ _ _ (zpn (fun Q' hq' => s1 _ _ _ _ _ _ _ hx hlen hf hq') (zba hq))
def zep (w : Want) : Bool := zeu w.Item && decide (0 ≤ w.Day) && decide (w.Day ≤ 4000) && decide (1 ≤ w.Qty) && decide (w.Qty ≤ 1125899906842624)
def zcx.Spec (C : CSem) (N : Nat → Nat) : Prop := ∀ (w : Want) (h : za) (Q : AVal → za → Prop), Q (.bool !zep w) h → C (N 243) [.agg w.cs] h Q
theorem zcx.spec (i : zcx.Imp C N) (s1 : zc4.Spec C N) (s2 : zdt.Spec C N) : zcx.Spec C N := by
 intro w h Q hq
 apply i
 have e : ∀ b, (!zep w) = b → dn Q (.bool b) h := fun b hb => by rw [← hb]; exact zba hq
 simp +contextual -dsimp
 refine s1 _ _ _ ?_
 simp +contextual -dsimp
 refine B.zjm (fun _ _ hq => s2 _ _ _ hq) ?_
 simp +contextual -dsimp
 refine e _ ?_
 unfold zep
 cases zeu w.Item
 ·simp
 ·rw [Bool.eq_iff_iff]; simp; omega
def zd5.Spec (C : CSem) (N : Nat → Nat) : Prop := ∀ (w : Want) (h : za) (Q : AVal → za → Prop), Q (.bool (zep w)) h → C (N 241) [.agg w.cs] h Q
theorem zd5.spec (i : zd5.Imp C N) (s1 : zc1.Spec C N) : zd5.Spec C N := by
 intro w h Q hq
 apply i
 have e : ∀ b, (zep w) = b → dn Q (.bool b) h := fun b hb => by rw [← hb]; exact zba hq
 simp +contextual -dsimp
 refine s1 _ _ _ ?_
 simp +contextual -dsimp
 refine e _ ?_
 unfold zep
 cases zeu w.Item
 ·simp
 ·rw [Bool.eq_iff_iff]
def zfm (l : Lot) (w : Want) : Bool := decide (l.Item = w.Item) && zbz.has ⟨l.From, l.zel⟩ w.Day
def zde.Spec (C : CSem) (N : Nat → Nat) : Prop := ∀ (l : Lot) (w : Want) (h : za) (Q : AVal → za → Prop), Q (.bool (zfm l w)) h → C (N 235) [.agg l.cs, .agg w.cs] h Q
theorem zde.spec (i : zde.Imp C N) (s1 : zes.Spec C N) : zde.Spec C N := by
 intro l w h Q hq
 apply i
 simp +contextual -dsimp
 refine B.zjm (fun _ _ hq => s1 _ _ _ _ _ hq) ?_
 simp +contextual -dsimp
 exact zba hq
def zgs (L : List Lot) (W : List Want) : Bool := decide (L.length ≤ 300) && decide (W.length ≤ 20000) && L.all ze7 && decide ((L.map Lot.Id).Nodup) && W.all zep
def zb4.Spec (C : CSem) (N : Nat → Nat) : Prop := ∀ (x y : AVal) (L : List Lot) (W : List Want) (R S : List (List AVal)) (h : za) (Q : AVal → za → Prop), SlX h 6 x (L.map Lot.cs) R → SlX h 3 y (W.map Want.cs) S → L.length < 4611686018427387904 → W.length < 4611686018427387904 →
 Q (.bool (zgs L W)) h → C (N 239) [x, y] h Q
theorem setLot6 (l : Lot) : V.setN 0 6 (.agg l.cs) (.agg [.int .i64 0, .str [], .int .i64 0, .int .i64 0, .int .i64 0, .bool false]) = some (.agg l.cs) := by simp
theorem getLot6 (l : Lot) : V.zen 0 6 (.agg l.cs) = some (.agg l.cs) := by simp
theorem lotId (l : Lot) : V.zbu 0 (.agg l.cs) = some (.int .i64 l.Id) := by simp
theorem zb4.spec (i : zb4.Imp C N) (s1 : zet.Spec C N) (s2 : zp.Spec C N) (s3 : zcx.Spec C N) : zb4.Spec C N := by
 intro x y L W R S h Q hx hy hlen hlen2 hq
 apply i
 have e1 := hx.zcj
 have e2 := hy.zcj
 rw [List.length_map] at e1 e2
 have e : ∀ b h', zgs L W = b → h.le h' → dn Q (.bool b) h' := fun b h' hb hle => by rw [← hb]; exact zk5 hle hq
 simp +contextual -dsimp [e1, e2]
 refine B.zk (fun hb => ?_) (fun hb => ?_)
 ·refine e _ _ ?_ (za.le_refl h)
  simp at hb
  unfold zgs
  rcases hb with hb | hb
  ·have : decide (L.length ≤ 300) = false := by rw [decide_eq_false_iff_not]; omega
   rw [this]; rfl
  ·have : decide (W.length ≤ 20000) = false := by rw [decide_eq_false_iff_not]; omega
   rw [this]; simp
 have hl1 : L.length ≤ 300 ∧ W.length ≤ 20000 := by simp at hb; omega
 refine (Owns.start h).zmn (K := Int) (T := Bool) (fun n => .int .i64 n) (fun b => .bool b) fun id h1 _ o1 _ => ?_
 simp only [List.nil_append] at o1
 simp -dsimp only [e1, B.ze]
 refine zm.intro (fun t vs hh => ∃ (k : Nat) (ps : Ents Int Bool) (c : Nat), k + t = L.length ∧ vs = [.int .i64 (k : Int)] ∧ Owns h hh [.blk id (zeq (encM (fun n => .int .i64 n) (fun b => .bool b) ps) c)] ∧
  (∀ n, getP ps n = if n ∈ (L.take k).map Lot.Id then some true else none) ∧ (L.take k).all ze7 = true ∧ ((L.take k).map Lot.Id).Nodup) L.length ?_ ⟨0, [], 0, by omega, rfl, o1, fun n => by simp [getP], by simp, by simp⟩
 rintro Y t vs hh ⟨k, ps, c, ht, rfl, o, hp, hr, hn⟩ hY
 simp -dsimp only [zb4.l2, zb4.k1, lssN, B.ze]
 have hxx := hx.mono o.le
 refine B.zk (fun hb => ?_) (fun hb => ?_) <;> simp only [decide_eq_true_eq, decide_eq_false_iff_not] at hb
 ·have hg : (L.map Lot.cs)[k]? = some (L[k]).cs := by rw [List.getElem?_map, List.getElem?_eq_getElem hb]; rfl
  have hidx : V.idxS 6 x (.int .i64 (k : Int)) = some (elp 6 x k 0) := hxx.idxN (by simpa using hb)
  have hlk := o.lkp 0 rfl keyI false L[k].Id
  simp -dsimp only [hidx, B.zod, hxx.elem hg, setLot6, getLot6, B.ze]
  refine s1 _ _ _ ?_
  simp -dsimp only [V.zf7, B.ze, B.gd_f, B.zok, lotId, B.zlt]
  have nodupk : ∀ (hc : L[k].Id ∉ (L.take k).map Lot.Id), ((L.take (k + 1)).map Lot.Id).Nodup := fun hc => by
   rw [take_one hb, List.map_append, List.nodup_append]
   exact ⟨hn, List.pairwise_singleton _ _, fun a ha b hb' e => hc (by simp at hb'; rw [← hb', ← e]; exact ha)⟩
  cases hrt : ze7 L[k] with
  | false =>
   simp -dsimp
   refine e _ _ ?_ o.le
   have : L.all ze7 = false := by
    rw [List.all_eq_false]
    exact ⟨_, List.getElem_mem hb, by simp [hrt]⟩
   unfold zgs
   rw [this]; simp
  | true =>
   by_cases hc : L[k].Id ∈ (L.take k).map Lot.Id
   ·have hcc : ∃ a, a ∈ L.take k ∧ a.Id = L[k].Id := by obtain ⟨a, h1, h2⟩ := List.mem_map.1 hc; exact ⟨a, h1, h2⟩
    have hg2 : getP ps L[k].Id = some true := by rw [hp, if_pos hc]
    simp -dsimp [hlk, hg2]
    refine e _ _ ?_ o.le
    have : decide ((L.map Lot.Id).Nodup) = false := by
     rw [decide_eq_false_iff_not]
     intro hnd
     have h2 := zi4 hnd (i := k) (j := k)
     obtain ⟨a, ha, hae⟩ := hcc
     obtain ⟨j, hj, rfl⟩ := List.getElem_of_mem ha
     rw [List.length_take] at hj
     rw [List.getElem_take] at hae
     have := zi4 hnd (i := j) (j := k) (by simp; omega) (by simpa using hb) (by simpa using hae)
     omega
    unfold zgs
    rw [this]; simp
   ·have hg2 : getP ps L[k].Id = none := by rw [hp, if_neg hc]
    simp -dsimp [hlk, hg2]
    refine o.mset 0 rfl keyI L[k].Id true fun h2 o2 _ _ => ?_
    simp -dsimp [inc64 (n := k) (by omega)]
    refine hY (L.length - (k + 1)) _ _ (by omega) ⟨k + 1, _, _, by omega, by simp, o2, fun n => ?_, ?_, nodupk hc⟩
    ·rw [zl0, hp, take_one hb, List.map_append]
     by_cases hnk : n = L[k].Id
     ·subst hnk; rw [if_pos rfl, if_pos (by simp)]
     ·rw [if_neg hnk]
      simp [hnk]
    ·rw [take_one hb, List.all_append, hr]; simp [hrt]
 ·rw [List.take_of_length_le (by omega)] at hr hn
  refine s2 _ _ (fun w => !zep w) _ _ _ _ (hy.mono o.le) hlen2 (fun w h' K hh hk => ?_) ?_
  ·simp -dsimp
   exact s3 _ _ _ hk
  simp -dsimp only [V.zf7, B.ze]
  refine e _ _ ?_ o.le
  unfold zgs
  rw [hr, decide_eq_true hl1.1, decide_eq_true hl1.2, decide_eq_true hn]
  simp [List.any_eq_not_all_not]
def zb5.Spec (C : CSem) (N : Nat → Nat) : Prop := ∀ (x y : AVal) (L : List Lot) (W : List Want) (R S : List (List AVal)) (h : za) (Q : AVal → za → Prop), SlX h 6 x (L.map Lot.cs) R → SlX h 3 y (W.map Want.cs) S → L.length < 4611686018427387904 → W.length < 4611686018427387904 →
 Q (.bool (zgs L W)) h → C (N 234) [x, y] h Q
theorem zb5.spec (i : zb5.Imp C N) (s1 : zd6.Spec C N) (s2 : zd5.Spec C N) : zb5.Spec C N := by
 intro x y L W R S h Q hx hy hlen hlen2 hq
 apply i
 have e1 := hx.zcj
 have e2 := hy.zcj
 rw [List.length_map] at e1 e2
 have e : ∀ b, zgs L W = b → dn Q (.bool b) h := fun b hb => by rw [← hb]; exact zba hq
 simp +contextual -dsimp [e1, e2]
 refine B.zk (fun hb => ?_) (fun hb => ?_)
 ·refine e _ ?_
  simp at hb
  unfold zgs
  rcases hb with hb | hb
  ·have : decide (L.length ≤ 300) = false := by rw [decide_eq_false_iff_not]; omega
   rw [this]; rfl
  ·have : decide (W.length ≤ 20000) = false := by rw [decide_eq_false_iff_not]; omega
   rw [this]; simp
 have hl1 : L.length ≤ 300 ∧ W.length ≤ 20000 := by simp at hb; omega
 have gx : ∀ {k : Nat} (hk : k < L.length), (L.map Lot.cs)[k]? = some (L[k]).cs := fun hk => by rw [List.getElem?_map, List.getElem?_eq_getElem hk]; rfl
 have ix : ∀ {k : Nat} (hk : k < L.length), V.idxS 6 x (.int .i64 (k : Int)) = some (elp 6 x k 0) := fun hk => hx.idxN (by simpa using hk)
 have fx : ∀ {k : Nat} (hk : k < L.length), V.fieldAddr 0 (elp 6 x k 0) = some (elp 6 x k 0) := fun {k} hk => by have := hx.zom (i := k) (by simpa using hk) 0 0; simpa using this
 have lx : ∀ {k : Nat} (hk : k < L.length), A.ldv h (elp 6 x k 0) = some (.int .i64 L[k].Id) := fun {k} hk => by have := hx.ldv (i := k) (f := 0) (gx hk) (by omega); simpa using this
 refine zm.intro (fun t vs hh => hh = h ∧ ∃ k : Nat, k + t = L.length ∧ vs = [.int .i64 (k : Int)] ∧ (L.take k).all ze7 = true ∧ ((L.take k).map Lot.Id).Nodup) L.length ?_ ⟨rfl, 0, by omega, rfl, by simp, by simp⟩
 rintro Y t vs hh ⟨rfl, k, ht, rfl, hr, hn⟩ hY
 simp -dsimp only [zb5.l7, zb5.k6, e1, lssN, B.ze]
 refine B.zk (fun hb => ?_) (fun hb => ?_) <;> simp only [decide_eq_true_eq, decide_eq_false_iff_not] at hb
 ·simp -dsimp only [zb5.k5, ix hb, B.zod, hx.elem (gx hb), B.ze]
  refine s1 _ _ _ ?_
  cases hrt : ze7 L[k] with
  | false =>
   simp -dsimp
   refine e _ ?_
   have : L.all ze7 = false := by
    rw [List.all_eq_false]
    exact ⟨_, List.getElem_mem hb, by simp [hrt]⟩
   unfold zgs
   rw [this]; simp
  | true =>
   simp -dsimp only [V.zf7, Bool.not_true, B.cond_false, B.ze]
   refine zm.intro (fun t vs h2 => h2 = hh ∧ ∃ j : Nat, j + t = k ∧ vs = [.int .i64 (j : Int)] ∧ ∀ i (hi : i < L.length), i < j → L[i].Id ≠ L[k].Id) k ?_ ⟨rfl, 0, by omega, rfl, fun i hi h => by omega⟩
   rintro Z t vs h2 ⟨rfl, j, hj, rfl, hv⟩ hZ
   simp -dsimp only [zb5.l4, zb5.k3, lssN, B.ze]
   refine B.zk (fun hc => ?_) (fun hc => ?_) <;> simp only [decide_eq_true_eq, decide_eq_false_iff_not] at hc
   ·have hjL : j < L.length := by omega
    simp -dsimp only [ix hb, fx hb, lx hb, ix hjL, fx hjL, lx hjL, B.zic, V.zh0, B.ze]
    refine B.zk (fun hd => ?_) (fun hd => ?_) <;> simp only [decide_eq_true_eq, decide_eq_false_iff_not] at hd
    ·refine e _ ?_
     have : decide ((L.map Lot.Id).Nodup) = false := by
      rw [decide_eq_false_iff_not]
      intro hnd
      have := zi4 hnd (i := j) (j := k) (by simpa using hjL) (by simpa using hb) (by simpa using hd)
      omega
     unfold zgs
     rw [this]; simp
    simp -dsimp only [add1 (show j < 4611686018427387904 by omega), B.ze]
    refine hZ (k - (j + 1)) _ _ (by omega) ⟨rfl, j + 1, by omega, rfl, fun i hi hij => ?_⟩
    by_cases e : i = j
    ·subst e; exact hd
    ·exact hv i hi (by omega)
   ·simp -dsimp only [add1 (show k < 4611686018427387904 by omega), B.ze]
    refine hY (L.length - (k + 1)) _ _ (by omega) ⟨rfl, k + 1, by omega, rfl, ?_, ?_⟩
    ·rw [take_one hb, List.all_append, hr]; simp [hrt]
    ·rw [take_one hb, List.map_append, List.nodup_append]
     refine ⟨hn, List.pairwise_singleton _ _, fun a ha b hb' e => ?_⟩
     simp at hb'
     obtain ⟨q, hq1, hq2⟩ := List.mem_map.1 ha
     obtain ⟨i, hi, rfl⟩ := List.getElem_of_mem hq1
     rw [List.length_take] at hi
     rw [List.getElem_take] at hq2
     exact hv i (by omega) (by omega) (by rw [hq2, e, hb'])
 ·rw [List.take_of_length_le (by omega)] at hr hn
  clear hY ht hb k t Y
  refine zm.intro (fun t vs h2 => h2 = hh ∧ ∃ k : Nat, k + t = W.length ∧ vs = [.int .i64 (k : Int)] ∧ (W.take k).all zep = true) W.length ?_ ⟨rfl, 0, by omega, rfl, by simp⟩
  rintro Y t vs h2 ⟨rfl, k, ht, rfl, hw⟩ hY
  simp -dsimp only [zb5.l2, zb5.k1, e2, lssN, B.ze]
  refine B.zk (fun hb => ?_) (fun hb => ?_) <;> simp only [decide_eq_true_eq, decide_eq_false_iff_not] at hb
  ·have hg : (W.map Want.cs)[k]? = some (W[k]).cs := by rw [List.getElem?_map, List.getElem?_eq_getElem hb]; rfl
   have hidx : V.idxS 3 y (.int .i64 (k : Int)) = some (elp 3 y k 0) := hy.idxN (by simpa using hb)
   simp -dsimp only [hidx, B.zod, hy.elem hg, B.ze]
   refine s2 _ _ _ ?_
   cases hrt : zep W[k] with
   | false =>
    simp -dsimp
    refine e _ ?_
    have : W.all zep = false := by
     rw [List.all_eq_false]
     exact ⟨_, List.getElem_mem hb, by simp [hrt]⟩
    unfold zgs
    rw [this]; simp
   | true =>
    simp -dsimp only [V.zf7, Bool.not_true, B.cond_false, B.ze, add1 (show k < 4611686018427387904 by omega)]
    refine hY (W.length - (k + 1)) _ _ (by omega) ⟨rfl, k + 1, by omega, rfl, ?_⟩
    rw [take_one hb, List.all_append, hw]; simp [hrt]
  ·rw [List.take_of_length_le (by omega)] at hw
   refine e _ ?_
   unfold zgs
   rw [hr, hw, decide_eq_true hl1.1, decide_eq_true hl1.2, decide_eq_true hn]; rfl
end Go.Ab
namespace Go.Ab
abbrev Lf := Int → Int
structure FS5 where
 left : Lf
 need : Int
 out : List Use
def zej (s : FS5) (l : Lot) : Int := min s.need (s.left l.Id)
def zea (i : Int) (w : Want) (s : FS5) (l : Lot) : FS5 :=
 if zej s l = 0 ∨ zbz.has ⟨l.From, l.zel⟩ w.Day = false then s
 else ⟨fun n => if n = l.Id then s.left l.Id - zej s l else s.left n, s.need - zej s l, s.out ++ [⟨i, l.Id, zej s l⟩]⟩
def rowOf (L : List Lot) (w : Want) : List Lot := (zh2 L).filter fun l => decide (l.Item = w.Item)
def zfg (L : List Lot) (i : Int) (w : Want) (left : Lf) (out : List Use) : FS5 := (rowOf L w).foldl (zea i w) ⟨left, w.Qty, out⟩
def zgt (L : List Lot) (W : List Want) : List (Fin W.length) → Lf → List Use → Option (List Use × Lf)
 | [], left, out => some (out, left)
 | p :: ps, left, out => if 0 < (zfg L (p.val : Int) W[p] left out).need then none else zgt L W ps (zfg L (p.val : Int) W[p] left out).left (zfg L (p.val : Int) W[p] left out).out
def dayC (W : List Want) (a b : Fin W.length) : Int := W[a].Day - W[b].Day
def zbd (W : List Want) : List (Fin W.length) := sortB (dayC W) (List.finRange W.length)
def znj (L : List Lot) : Lf := fun i => match L.find? (fun l => decide (l.Id = i)) with | some l => l.Qty | none => 0
def zff (L : List Lot) (W : List Want) : Option (List Use × Lf) := bif zgs L W then zgt L W (zbd W) (znj L) [] else none
theorem dayC_neg (W : List Want) (a b : Fin W.length) : zch (dayC W) a b = true ↔ W[a].Day < W[b].Day := by
 unfold zch dayC
 rw [decide_eq_true_eq]
 omega
theorem dayC_nn (W : List Want) (a b : Fin W.length) : zch (dayC W) a b = false ↔ W[b].Day ≤ W[a].Day := by
 unfold zch dayC
 rw [decide_eq_false_iff_not]
 omega
theorem dayW (W : List Want) : Weak (zch (dayC W)) where
 asym {a b} h := by rw [dayC_neg] at h; rw [dayC_nn]; omega
 zmm {a b c} h k := by rw [dayC_nn] at *; omega
def before (W : List Want) (a b : Fin W.length) : Prop := W[a].Day < W[b].Day ∨ (W[a].Day = W[b].Day ∧ a.val < b.val)
theorem zlh (n : Nat) : ∀ p ∈ (List.finRange n).zipIdx, p.1.val = p.2 := fun p hp => by
 obtain ⟨i, hi, e⟩ := List.getElem_of_mem hp
 rw [List.getElem_zipIdx] at e
 rw [← e]
 simp
theorem zko (W : List Want) : (zbd W).Pairwise (before W) := by
 obtain ⟨G, h1, h2, h3⟩ := zh5 (dayW W) (List.finRange W.length)
 unfold zbd
 rw [← h1, List.pairwise_map]
 refine h3.imp_of_mem fun {a b} ha hb h => ?_
 have ea := zlh _ a (h2.mem_iff.1 ha)
 have eb := zlh _ b (h2.mem_iff.1 hb)
 simp only [lt', dayC_neg, dayC_nn] at h
 unfold before
 omega
theorem zoq (W : List Want) : (zbd W).Perm (List.finRange W.length) := (zh5 (dayW W) _).perm
theorem zqb (W : List Want) (i : Fin W.length) : i ∈ zbd W := (zoq W).mem_iff.2 (List.mem_finRange i)
theorem zfp (W : List Want) : (zbd W).length = W.length := by rw [(zoq W).length_eq, List.length_finRange]
theorem zl8 (W : List Want) (a : Fin W.length) : ¬ before W a a := by unfold before; omega
theorem zss (W : List Want) : (zbd W).Nodup := (zko W).imp fun {a b} h e => by subst e; exact zl8 W _ h
def LfOk (left : Lf) : Prop := ∀ i, 0 ≤ left i
structure FSOk (s : FS5) : Prop where
 left : LfOk s.left
 need : 0 ≤ s.need
theorem zh4 {s : FS5} (h : FSOk s) (l : Lot) : 0 ≤ zej s l ∧ zej s l ≤ s.need ∧ zej s l ≤ s.left l.Id := by
 have := h.left l.Id; have := h.need
 unfold zej; omega
theorem znx {s : FS5} (h : FSOk s) (i : Int) (w : Want) (l : Lot) : FSOk (zea i w s l) := by
 unfold zea
 have := zh4 h l
 split
 ·exact h
 ·refine ⟨fun n => ?_, by simp only; omega⟩
  simp only
  split
  ·omega
  ·exact h.left n
theorem foldU_ok {i : Int} {w : Want} : ∀ (S : List Lot) {s : FS5}, FSOk s → FSOk (S.foldl (zea i w) s)
 | [], _, h => h
 | l :: S, _, h => foldU_ok S (znx h i w l)
def avail (w : Want) (s : FS5) (l : Lot) : Prop := 0 < s.left l.Id ∧ zbz.has ⟨l.From, l.zel⟩ w.Day = true
theorem stepU_no {s : FS5} (h : FSOk s) {i : Int} {w : Want} {l : Lot} (hn : s.need = 0 ∨ ¬ avail w s l) : zea i w s l = s := by
 unfold zea
 rw [if_pos]
 have := zh4 h l
 rcases hn with hn | hn
 ·left; omega
 ·unfold avail at hn
  by_cases h0 : 0 < s.left l.Id
  ·right
   cases hh : zbz.has ⟨l.From, l.zel⟩ w.Day
   ·rfl
   ·exact absurd ⟨h0, hh⟩ hn
  ·left; omega
theorem zol {i : Int} {w : Want} : ∀ (S : List Lot) {s : FS5}, FSOk s → (s.need = 0 ∨ ∀ l ∈ S, ¬ avail w s l) → S.foldl (zea i w) s = s
 | [], _, _, _ => rfl
 | l :: S, s, h, hn => by
  have e : zea i w s l = s := stepU_no h (hn.imp id fun k => k l (by simp))
  rw [List.foldl_cons, e]
  exact zol S h (hn.imp id fun k l' hl => k l' (by simp [hl]))
theorem foldU_pick {i : Int} {w : Want} {A B : List Lot} {l : Lot} {s : FS5} (h : FSOk s) (ha : ∀ a ∈ A, ¬ avail w s a) (hl : avail w s l) (hneed : 0 < s.need) (hid : ∀ a ∈ A, a.Id ≠ l.Id) :
  (A ++ l :: B).foldl (zea i w) s = (A ++ l :: B).foldl (zea i w) (zea i w s l) := by
 have h1 : A.foldl (zea i w) s = s := zol A h (.inr ha)
 have hok := znx h i w l
 have tk := zh4 h l
 have tpos : 0 < zej s l := by have := hl.1; unfold zej; omega
 have est : zea i w s l = ⟨fun n => if n = l.Id then s.left l.Id - zej s l else s.left n, s.need - zej s l, s.out ++ [⟨i, l.Id, zej s l⟩]⟩ := by
  unfold zea; rw [if_neg]; intro hc
  rcases hc with hc | hc
  ·omega
  ·rw [hl.2] at hc; cases hc
 have h2 : A.foldl (zea i w) (zea i w s l) = zea i w s l := by
  refine zol A hok (.inr fun a hA hav => ha a hA ⟨?_, hav.2⟩)
  have := hav.1
  rw [est] at this
  simp only [if_neg (hid a hA)] at this
  exact this
 have h3 : zea i w (zea i w s l) l = zea i w s l := by
  refine stepU_no hok ?_
  rw [est]
  by_cases hz : s.need - zej s l = 0
  ·left; exact hz
  ·right; intro hav
   have := hav.1
   simp only [if_true] at this
   unfold zej at this hz; omega
 rw [List.foldl_append, List.foldl_append, h1, h2, List.foldl_cons, List.foldl_cons, h3]
theorem zg7 {L : List Lot} {W : List Want} (h : zgs L W = true) : L.length ≤ 300 ∧ W.length ≤ 20000 ∧ (∀ l ∈ L, ze7 l = true) ∧ (L.map Lot.Id).Nodup ∧ ∀ w ∈ W, zep w = true := by
 simp only [zgs, Bool.and_eq_true, decide_eq_true_eq, List.all_eq_true] at h
 exact ⟨h.1.1.1.1, h.1.1.1.2, h.1.1.2, h.1.2, h.2⟩
theorem zmq {L : List Lot} (h : (L.map Lot.Id).Nodup) {a b : Lot} (ha : a ∈ L) (hb : b ∈ L) (e : a.Id = b.Id) : a = b := by
 obtain ⟨i, hi, rfl⟩ := List.getElem_of_mem ha
 obtain ⟨j, hj, rfl⟩ := List.getElem_of_mem hb
 have := zi4 h (i := i) (j := j) (by simpa using hi) (by simpa using hj) (by simpa using e)
 subst this; rfl
theorem left0_of {L : List Lot} (h : (L.map Lot.Id).Nodup) {l : Lot} (hl : l ∈ L) : znj L l.Id = l.Qty := by
 unfold znj
 cases hf : L.find? (fun a => decide (a.Id = l.Id)) with
 | none => rw [List.find?_eq_none] at hf; have := hf l hl; simp at this
 | some a =>
  have h1 := List.find?_some hf
  have h2 := List.mem_of_find?_eq_some hf
  simp only [decide_eq_true_eq] at h1
  rw [zmq h h2 hl h1]
theorem zjv {l : Lot} (h : ze7 l = true) : 0 < l.Id ∧ 0 < l.Qty ∧ l.Qty ≤ 1073741824 ∧ zeu l.Item = true ∧ zbz.right ⟨l.From, l.zel⟩ = true ∧ l.From < l.zel := by
 simp [ze7] at h
 exact ⟨h.1.1.1.1.1, h.1.2, h.2, h.1.1.1.1.2, h.1.1.1.2, h.1.1.2⟩
theorem zgc {w : Want} (h : zep w = true) : zeu w.Item = true ∧ 0 ≤ w.Day ∧ w.Day ≤ 4000 ∧ 1 ≤ w.Qty ∧ w.Qty ≤ 1125899906842624 := by
 simp [zep] at h
 exact ⟨h.1.1.1.1, h.1.1.1.2, h.1.1.2, h.1.2, h.2⟩
theorem left0_ok {L : List Lot} (h : ∀ l ∈ L, ze7 l = true) : LfOk (znj L) := fun i => by
 unfold znj
 cases hf : L.find? (fun a => decide (a.Id = i)) with
 | none => exact Int.le_refl _
 | some a => have := zjv (h a (List.mem_of_find?_eq_some hf)); simp only; omega
end Go.Ab
namespace Go.Ab
variable {C : CSem} {N : Nat → Nat}
abbrev fc {n : Nat} (i : Fin n) : List AVal := [.int .i64 (i.val : Int)]
def z5.Spec (C : CSem) (N : Nat → Nat) : Prop := ∀ (n : Nat) (h0 h : za) (x f : AVal) (c : Fin n → Fin n → Int) (L : List (Fin n)) (R : List (List AVal)) (Q : AVal → za → Prop), Weak (zch c) → zed C (fun i : Fin n => .int .i64 (i.val : Int)) c f h0 → L.length ≤ 100000000 →
 Owns h0 h [.sl 1 x (L.map fc) R] → (∀ h', Owns h0 h' [.sl 1 x ((sortB c L).map fc) R] → Q (.tup []) h') → C (N 246) [x, f] h Q
theorem z5.spec (i : z5.Imp C N) (i1 : zcb.Imp C N) (i2 : zcm.Imp C N) (i3 : zb7.Imp C N) (i4 : zbr.Imp C N) (i5 : zcl.Imp C N) :
  z5.Spec C N := by
 intro n h0 h x f c L R Q W hc hlen ho hq
 have S : zc6 (opsS 8 (.int .i64 0) 0) (fun i : Fin n => [AVal.int .i64 (i.val : Int)]) (fun i => .int .i64 (i.val : Int)) := seqS (by omega) fun _ => rfl
 refine i _ _ _ _ (zlb S W (f1 := N 249) (f2 := N 251) (f3 := N 252) (f4 := N 250) ⟨i1, i2, i3, i4, i5⟩ hc hlen ho fun h' L' st o => zba (hq h' ?_))
 rw [← zpv W st]; exact o
def zdy.Spec (C : CSem) (N : Nat → Nat) : Prop := ∀ (q y : AVal) (W : List Want) (S : List (List AVal)) (a b : Fin W.length) (h : za) (Q : AVal → za → Prop), A.ldv h q = some y → SlX h 3 y (W.map Want.cs) S → (∀ w ∈ W, zep w = true) →
 Q (.int .i64 (dayC W a b)) h → C (N 245) [.int .i64 (a.val : Int), .int .i64 (b.val : Int), q] h Q
theorem zdy.spec (i : zdy.Imp C N) : zdy.Spec C N := by
 intro q y W S a b h Q hl hy hw hq
 apply i
 have gx : ∀ i : Fin W.length, (W.map Want.cs)[i.val]? = some (W[i]).cs := fun i => by rw [List.getElem?_map, List.getElem?_eq_getElem i.2]; rfl
 have ix : ∀ i : Fin W.length, V.idxS 3 y (.int .i64 (i.val : Int)) = some (elp 3 y i.val 0) := fun i => hy.idxN (by simp)
 have fx : ∀ i : Fin W.length, V.fieldAddr 1 (elp 3 y i.val 0) = some (elp 3 y i.val 1) := fun i => by have := hy.zom (i := i.val) (by simp) 0 1; simpa using this
 have lx : ∀ i : Fin W.length, A.ldv h (elp 3 y i.val 1) = some (.int .i64 W[i].Day) := fun i => by have := hy.ldv (i := i.val) (f := 1) (gx i) (by omega); simpa using this
 have ra := zgc (hw W[a] (List.getElem_mem a.2))
 have rb := zgc (hw W[b] (List.getElem_mem b.2))
 simp -dsimp only [zdy.cps, zdy.k1, B.zic, hl, ix, fx, lx, V.zf3, B.ze]
 rw [wrap_i64 (by omega) (by omega)]
 exact zba hq
def zdo.Spec (C : CSem) (N : Nat → Nat) : Prop := ∀ (y : AVal) (W : List Want) (S : List (List AVal)) (h : za) (Q : AVal → za → Prop), SlX h 3 y (W.map Want.cs) S → W.length ≤ 20000 → (∀ w ∈ W, zep w = true) →
 (∀ z h', Owns h h' [.sl 1 z ((zbd W).map fc) []] → Q z h') → C (N 240) [y] h Q
theorem fills_fin (n : Nat) : (zg9 n fun j => [AVal.int .i64 (j : Int)]) = (List.finRange n).map fc := by
 apply List.ext_getElem?
 intro i
 by_cases hi : i < n
 ·rw [zgy _ hi, List.getElem?_map, List.getElem?_eq_getElem (by simpa using hi)]; simp [fc]
 ·rw [List.getElem?_eq_none (by simp; omega), List.getElem?_eq_none (by simp; omega)]
theorem zdo.spec (i : zdo.Imp C N) (s1 : z5.Spec C N) (s2 : zdy.Spec C N) : zdo.Spec C N := by
 intro y W S h Q hy hlen hw hq
 apply i
 have hc := hy.zd1
 have e1 := hy.zcj
 rw [List.length_map] at e1
 simp -dsimp only [zdo.cps, cells1_eq, hc, cond_true]
 intro id hid
 have hle := zgo (zex [y]) hid
 have ld : A.ldv (upd h id (zex [y])) (.ptr id 0 0) = some y := by rw [zfs (zbh ..)]; rfl
 simp -dsimp only [zdo.k3, B.zic, ld, e1, B.ze]
 refine ⟨by omega, ?_⟩
 refine (Owns.start _).mks (bytes := 8) (es := 1) rfl (by omega) (by omega) (by omega) (by omega) fun z h1 o1 => ?_
 have e2 := (o1.slAt 0 rfl).zcj
 rw [zr4] at e2
 have e3 : (W.length : Int).toNat = W.length := by omega
 rw [e3] at e2
 simp only [List.nil_append, e3] at o1
 simp -dsimp only [e2, B.ze]
 refine zm.intro (fun t vs hh => ∃ k : Nat, k + t = W.length ∧ vs = [.int .i64 (k : Int)] ∧ Owns (upd h id (zex [y])) hh [.sl 1 z (zg9 W.length fun j => [.int .i64 (if j < k then (j : Int) else 0)]) []]) W.length ?_ ⟨0, by omega, rfl, by simpa using o1⟩
 rintro Y t vs hh ⟨k, ht, rfl, o⟩ hY
 simp -dsimp only [zdo.l2, zdo.k1, lssN, B.ze]
 refine B.zk (fun hb => ?_) (fun hb => ?_) <;> simp only [decide_eq_true_eq, decide_eq_false_iff_not] at hb
 ·have hz := o.slAt 0 rfl
  have hidx : V.idxS 1 z (.int .i64 (k : Int)) = some (elp 1 z k 0) := hz.idxN (by simpa using hb)
  simp -dsimp only [hidx, B.ze]
  refine o.st 0 rfl (zgy _ hb) (by omega) rfl fun h2 o2 _ => ?_
  simp -dsimp only [add1 (show k < 4611686018427387904 by omega), B.ze]
  refine hY (W.length - (k + 1)) _ _ (by omega) ⟨k + 1, by omega, rfl, ?_⟩
  simp only [List.set_cons_zero, zli] at o2
  have e : (zg9 W.length fun j => if j = k then [AVal.int .i64 (k : Int)] else [.int .i64 (if j < k then (j : Int) else 0)]) = zg9 W.length fun j => [.int .i64 (if j < k + 1 then (j : Int) else 0)] := zf2 fun j hj => by
   by_cases e : j = k
   ·subst e; simp
   ·rw [if_neg e]
    by_cases h2 : j < k
    ·rw [if_pos h2, if_pos (by omega)]
    ·rw [if_neg h2, if_neg (by omega)]
  rw [e] at o2; exact o2
 ·have e : (zg9 W.length fun j => [AVal.int .i64 (if j < k then (j : Int) else 0)]) = (List.finRange W.length).map fc := by
   rw [← fills_fin]
   exact zf2 fun j hj => by rw [if_pos (by omega)]
  rw [e] at o
  refine s1 W.length _ _ _ _ (dayC W) _ _ _ (dayW W) ⟨fun h' a b K hh hk => ?_⟩ (by simp; omega) o fun h3 o3 => zba (hq z h3 (o3.back hle))
  simp -dsimp
  refine s2 _ y W S a b _ _ ?_ ((hy.mono hle).mono hh) hw hk
  rw [zfs (hh _ _ (zbh ..))]; rfl
end Go.Ab
