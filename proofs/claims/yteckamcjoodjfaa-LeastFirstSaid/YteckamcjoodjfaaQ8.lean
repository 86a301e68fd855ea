/- What is proved: a part of the way to the statement: SrtP, SrtP2, SrtP3, SrtP4, SrtP5, SrtP6, SrtP7, SrtP8, Ccode, C01, Rtell, Rref14, Rref13, Ctell, Ctell2, Ctell3, SrtP9, SrtP10, SrtO, SrtQ, AcP, AcV, C01b, Clot, Clot2, Clot3, Clot4, Ckit, Rlaw04, Claw04, Claw04b, Rrank, Rref09, Crank, Crank2, Csort, AcQ, C01c, C01d, Cflow, Pflow, Cflow2. No conditions. -/
import Derived.Test.YteckamcjoodjfaaQ7
import Derived.Test.YteckamcjoodjfaaQ6
import Derived.Test.YteckamcjoodjfaaQ3
import Derived.KernelRfl
set_option linter.unusedVariables false
set_option linter.unusedSimpArgs false
namespace Go.Ab
variable {C : CSem}
structure Within {X : Type} (a b : Nat) (G G' : List X) : Prop where
 perm : G'.Perm G
 out : ∀ i, i < a ∨ b ≤ i → G'[i]? = G[i]?
theorem Within.refl {X : Type} (a b : Nat) (G : List X) : Within a b G G := ⟨.refl _, fun _ _ => rfl⟩
theorem Within.trans {X : Type} {a b : Nat} {G G' G'' : List X} (x : Within a b G G') (y : Within a b G' G'') : Within a b G G'' := ⟨y.perm.trans x.perm, fun i hi => (y.out i hi).trans (x.out i hi)⟩
theorem Within.mono {X : Type} {a b a' b' : Nat} {G G' : List X} (x : Within a b G G') (ha : a' ≤ a) (hb : b ≤ b') : Within a' b' G G' := ⟨x.perm, fun i hi => x.out i (by omega)⟩
theorem Within.len {X : Type} {a b : Nat} {G G' : List X} (x : Within a b G G') : G'.length = G.length := x.perm.length_eq
theorem Within.same {X : Type} {a b : Nat} {G G' : List X} (w : Within a b G G') {k : Nat} (hk : k < a ∨ b ≤ k) (h1 : k < G'.length) (h2 : k < G.length) : G'[k] = G[k] := by
 have := w.out k hk
 rw [List.getElem?_eq_getElem h1, List.getElem?_eq_getElem h2] at this
 exact Option.some.inj this
def swp {X : Type} (G : List X) (i j : Nat) (hi : i < G.length) (hj : j < G.length) : List X := (G.set i G[j]).set j G[i]
theorem swp_perm {X : Type} {G : List X} {i j : Nat} (hi : i < G.length) (hj : j < G.length) : (swp G i j hi hj).Perm G := by
 unfold swp
 exact List.set_set_perm hi hj
theorem swp_get {X : Type} {G : List X} {i j : Nat} (hi : i < G.length) (hj : j < G.length) (k : Nat) : (swp G i j hi hj)[k]? = if k = j then some G[i] else if k = i then some G[j] else G[k]? := by
 unfold swp
 rw [List.getElem?_set]
 by_cases e : j = k
 ·subst e; simp [hj]
 ·rw [if_neg e, if_neg (Ne.symm e), List.getElem?_set]
  by_cases e2 : i = k
  ·subst e2; simp [hi]
  ·rw [if_neg e2, if_neg (Ne.symm e2)]
theorem swp_within {X : Type} {G : List X} {i j a b : Nat} (hi : i < G.length) (hj : j < G.length) (h1 : a ≤ i) (h2 : i < b) (h3 : a ≤ j) (h4 : j < b) : Within a b G (swp G i j hi hj) := ⟨swp_perm hi hj, fun k hk => by
 rw [swp_get, if_neg (by omega), if_neg (by omega)]⟩
section
variable {E : ElOps} {X : Type} {cs : X → List AVal} {v : X → AVal} {h0 h : AHeap} {x f : AVal} {G : List X} {R : List (List AVal)} {c : X → X → Int}
theorem Rw.swap (ho : Rw E cs h0 h x G R) (S : SeqSpec E cs v) {i j : Nat} (hi : i < G.length) (hj : j < G.length) {K : AHeap → Prop} (hk : ∀ h', Rw E cs h0 h' x (swp G i j hi hj) R → K h') :
  E.st h (elp E.es x i 0) (v G[j]) fun h => E.st h (elp E.es x j 0) (v G[i]) K := by
 refine ho.st S (t := G[j]) hi fun h1 o1 => ?_
 exact o1.st S (t := G[i]) (by simpa using hj) fun h2 o2 => hk h2 o2
theorem quo4 {a : Nat} (h : a < 4611686018427387904) : V.bin .quo (.int .i64 (a : Int)) (.int .i64 4) = some (.int .i64 ((a / 4 : Nat) : Int)) := by
 rw [V.bin_quo _ _ _ (by omega), show (a : Int).tdiv 4 = ((a / 4 : Nat) : Int) from rfl, wrap_i64 (by omega) (by omega)]
theorem mulN {a b : Nat} (h : a * b < 4611686018427387904) : V.bin .mul (.int .i64 (a : Int)) (.int .i64 (b : Int)) = some (.int .i64 ((a * b : Nat) : Int)) := by
 rw [V.bin_mul, show (a : Int) * (b : Int) = ((a * b : Nat) : Int) by simp, wrap_i64 (by omega) (by omega)]
theorem addNN {a b : Nat} (h : a + b < 4611686018427387904) : V.bin .add (.int .i64 (a : Int)) (.int .i64 (b : Int)) = some (.int .i64 ((a + b : Nat) : Int)) := by
 rw [V.bin_add, show (a : Int) + (b : Int) = ((a + b : Nat) : Int) by simp, wrap_i64 (by omega) (by omega)]
theorem subNN {a b : Nat} (h : b ≤ a) (h2 : a < 4611686018427387904) : V.bin .sub (.int .i64 (a : Int)) (.int .i64 (b : Int)) = some (.int .i64 ((a - b : Nat) : Int)) := by
 rw [V.bin_sub, show (a : Int) - (b : Int) = ((a - b : Nat) : Int) by omega, wrap_i64 (by omega) (by omega)]
theorem geqN {a b : Nat} : V.bin .geq (.int .i64 (a : Int)) (.int .i64 (b : Int)) = some (.bool (decide (b ≤ a))) := by rw [V.bin_geq]; congr 3; exact propext (by omega)
end
end Go.Ab
namespace Go.Ab
variable {C : CSem}
structure PInv {X : Type} (c : X → X → Int) (a b : Nat) (G : List X) (i j : Nat) : Prop where
 hb : b ≤ G.length
 hi : a < i
 hj : j < b
 hij : i ≤ j + 1
 lo : ∀ k (h : k < G.length) (ha : a < G.length), a < k → k < i → c G[k] G[a] < 0
 hi2 : ∀ k (h : k < G.length) (ha : a < G.length), j < k → k < b → ¬ c G[k] G[a] < 0
structure Parted {X : Type} (c : X → X → Int) (a b m : Nat) (G : List X) : Prop where
 ge : a ≤ m
 lt : m < b
 hb : b ≤ G.length
 lo : ∀ k (h : k < G.length) (hm : m < G.length), a ≤ k → k < m → c G[k] G[m] < 0
 hi : ∀ k (h : k < G.length) (hm : m < G.length), m < k → k < b → ¬ c G[k] G[m] < 0
section
variable {E : ElOps} {X : Type} {cs : X → List AVal} {v : X → AVal} {h0 h : AHeap} {x f : AVal} {G : List X} {R : List (List AVal)} {c : X → X → Int} {Q : AVal → AHeap → Prop} {Y1 : List AVal → AHeap → Prop} {a b i j : Nat}
theorem swp_at {X : Type} {G : List X} {i j : Nat} (hi : i < G.length) (hj : j < G.length) {k : Nat} (hk : k < (swp G i j hi hj).length) (hk' : k < G.length) : (swp G i j hi hj)[k] = if k = j then G[i] else if k = i then G[j] else G[k] := by
 have := swp_get hi hj k
 rw [List.getElem?_eq_getElem hk] at this
 split at this
 ·rename_i e; rw [if_pos e]; exact Option.some.inj this
 ·rename_i e; rw [if_neg e]
  split at this
  ·rename_i e2; rw [if_pos e2]; exact Option.some.inj this
  ·rename_i e2; rw [if_neg e2, List.getElem?_eq_getElem hk'] at *; exact Option.some.inj this
theorem swp_len {X : Type} {G : List X} {i j : Nat} (hi : i < G.length) (hj : j < G.length) : (swp G i j hi hj).length = G.length := by simp [swp]
theorem PInv.done (p : PInv c a b G i j) (hab : a < b) (hc : j < i) (hj : j < G.length) (ha : a < G.length) : Parted c a b j (swp G j a hj ha) := by
 have h1 := p.hi; have h2 := p.hij; have h3 := p.hj; have h4 := p.hb
 have hl := swp_len hj ha
 have pj : ∀ (hm : j < (swp G j a hj ha).length), (swp G j a hj ha)[j] = G[a] := fun hm => by
  rw [swp_at hj ha hm hj]
  by_cases e : j = a
  ·subst e; simp
  ·rw [if_neg e, if_pos rfl]
 refine ⟨by omega, h3, by omega, fun k hk hm k1 k2 => ?_, fun k hk hm k1 k2 => ?_⟩
 ·rw [pj, swp_at hj ha hk (by omega)]
  by_cases e : k = a
  ·rw [if_pos e]; exact p.lo j hj ha (by omega) (by omega)
  ·rw [if_neg e, if_neg (by omega)]; exact p.lo k (by omega) ha (by omega) (by omega)
 ·rw [pj, swp_at hj ha hk (by omega), if_neg (by omega), if_neg (by omega)]
  exact p.hi2 k (by omega) ha k1 k2
theorem PInv.swap (p : PInv c a b G i j) (hc : i ≤ j) (hi : i < G.length) (hj : j < G.length) (ha : a < G.length) (h1 : ¬ c G[i] G[a] < 0) (h2 : c G[j] G[a] < 0) : PInv c a b (swp G i j hi hj) (i + 1) (j - 1) := by
 have k1 := p.hi; have k2 := p.hij; have k3 := p.hj; have k4 := p.hb
 have hne : i ≠ j := fun e => by subst e; exact h1 h2
 have hl := swp_len hi hj
 have pa : ∀ (hm : a < (swp G i j hi hj).length), (swp G i j hi hj)[a] = G[a] := fun hm => by rw [swp_at hi hj hm ha, if_neg (by omega), if_neg (by omega)]
 refine ⟨by omega, by omega, by omega, by omega, fun k hk hm q1 q2 => ?_, fun k hk hm q1 q2 => ?_⟩
 ·rw [pa, swp_at hi hj hk (by omega), if_neg (by omega)]
  by_cases e : k = i
  ·rw [if_pos e]; exact h2
  ·rw [if_neg e]; exact p.lo k (by omega) ha q1 (by omega)
 ·rw [pa, swp_at hi hj hk (by omega)]
  by_cases e : k = j
  ·rw [if_pos e]; exact h1
  ·rw [if_neg e, if_neg (by omega)]; exact p.hi2 k (by omega) ha (by omega) q2
end
end Go.Ab
namespace Go.Ab
variable {C : CSem}
section
variable {E : ElOps} {X : Type} {cs : X → List AVal} {v : X → AVal} {h0 h : AHeap} {x f : AVal} {G : List X} {R : List (List AVal)} {c : X → X → Int} {Q : AVal → AHeap → Prop} {a b i j : Nat}
abbrev PartQ (E : ElOps) {X : Type} (cs : X → List AVal) (h0 : AHeap) (x : AVal) (c : X → X → Int) (a b : Nat) (R : List (List AVal)) (G : List X) (Q : AVal → AHeap → Prop) : Prop := ∀ h' m G' t, Parted c a b m G' → Within a b G G' → Rw E cs h0 h' x G' R → Q (.tup [.int .i64 (m : Int), .bool t]) h'
end
end Go.Ab
namespace Go.Ab
variable {C : CSem}
structure EInv {X : Type} (c : X → X → Int) (a b : Nat) (G : List X) (i j : Nat) : Prop where
 hb : b ≤ G.length
 hi : a < i
 hj : j < b
 hij : i ≤ j + 1
 lo : ∀ k (h : k < G.length) (ha : a < G.length), a < k → k < i → ¬ c G[a] G[k] < 0
 hi2 : ∀ k (h : k < G.length) (ha : a < G.length), j < k → k < b → c G[a] G[k] < 0
theorem EInv.swap {X : Type} {c : X → X → Int} {a b i j : Nat} {G : List X} (p : EInv c a b G i j) (hc : i ≤ j) (hi : i < G.length) (hj : j < G.length) (ha : a < G.length) (h1 : c G[a] G[i] < 0) (h2 : ¬ c G[a] G[j] < 0) : EInv c a b (swp G i j hi hj) (i + 1) (j - 1) := by
 have k1 := p.hi; have k2 := p.hij; have k3 := p.hj; have k4 := p.hb
 have hne : i ≠ j := fun e => by subst e; exact h2 h1
 have hl := swp_len hi hj
 have pa : ∀ (hm : a < (swp G i j hi hj).length), (swp G i j hi hj)[a] = G[a] := fun hm => by rw [swp_at hi hj hm ha, if_neg (by omega), if_neg (by omega)]
 refine ⟨by omega, by omega, by omega, by omega, fun k hk hm q1 q2 => ?_, fun k hk hm q1 q2 => ?_⟩
 ·rw [pa, swp_at hi hj hk (by omega), if_neg (by omega)]
  by_cases e : k = i
  ·rw [if_pos e]; exact h2
  ·rw [if_neg e]; exact p.lo k (by omega) ha q1 (by omega)
 ·rw [pa, swp_at hi hj hk (by omega)]
  by_cases e : k = j
  ·rw [if_pos e]; exact h1
  ·rw [if_neg e, if_neg (by omega)]; exact p.hi2 k (by omega) ha (by omega) q2
section
variable {E : ElOps} {X : Type} {cs : X → List AVal} {v : X → AVal} {h0 h : AHeap} {x f : AVal} {G : List X} {R : List (List AVal)} {c : X → X → Int} {Q : AVal → AHeap → Prop} {Y1 : List AVal → AHeap → Prop} {a b i j : Nat}
end
end Go.Ab
namespace Go.Ab
structure SInv {X : Type} (c : X → X → Int) (a n lo r : Nat) (G : List X) : Prop where
 len : a + n ≤ G.length
 heap : ∀ k, 0 < k → (hk : k < n) → lo ≤ (k - 1) / 2 → (k - 1) / 2 ≠ r → (h1 : a + (k - 1) / 2 < G.length) → (h2 : a + k < G.length) → ¬ c G[a + (k - 1) / 2] G[a + k] < 0
 grand : lo ≤ (r - 1) / 2 → 0 < r → ∀ k, 0 < k → (hk : k < n) → (k - 1) / 2 = r → (h1 : a + (r - 1) / 2 < G.length) → (h2 : a + k < G.length) → ¬ c G[a + (r - 1) / 2] G[a + k] < 0
def Heap {X : Type} (c : X → X → Int) (a n lo : Nat) (G : List X) : Prop := ∀ k, 0 < k → (hk : k < n) → lo ≤ (k - 1) / 2 → (h1 : a + (k - 1) / 2 < G.length) → (h2 : a + k < G.length) → ¬ c G[a + (k - 1) / 2] G[a + k] < 0
section
variable {X : Type} {c : X → X → Int} {a n lo r ch : Nat} {G : List X}
theorem SInv.done (p : SInv c a n lo r G) (hr : ∀ k, 0 < k → k < n → (k - 1) / 2 = r → (h1 : a + r < G.length) → (h2 : a + k < G.length) → ¬ c G[a + r] G[a + k] < 0) : Heap c a n lo G := fun k h0 hk hl h1 h2 => by
 by_cases e : (k - 1) / 2 = r
 ·have := hr k h0 hk e (by rw [← e]; exact h1) h2
  simp only [e]; exact this
 ·exact p.heap k h0 hk hl e h1 h2
theorem SInv.step (W : Weak (lessC c)) (p : SInv c a n lo r G) (hlo : lo ≤ r) (hch : ch < n) (hp : (ch - 1) / 2 = r) (h0 : 0 < ch) (hr : a + r < G.length) (hc : a + ch < G.length) (hlt : c G[a + r] G[a + ch] < 0)
  (hmax : ∀ k, 0 < k → k < n → (k - 1) / 2 = r → (h2 : a + k < G.length) → ¬ c G[a + ch] G[a + k] < 0) : SInv c a n lo ch (swp G (a + r) (a + ch) hr hc) := by
 have hl := swp_len hr hc
 have hrc : r < ch := by omega
 have asym : ¬ c G[a + ch] G[a + r] < 0 := by
  have := W.asym (a := G[a + r]) (b := G[a + ch]) (by unfold lessC; exact decide_eq_true hlt)
  unfold lessC at this; exact of_decide_eq_false this
 refine ⟨by rw [hl]; exact p.len, fun k k0 hk hlk hne h1 h2 => ?_, fun _ _ k k0 hk hkp h1 h2 => ?_⟩
 ·have g1 : a + (k - 1) / 2 < G.length := by omega
  have g2 : a + k < G.length := by omega
  rw [swp_at hr hc h1 g1, swp_at hr hc h2 g2, if_neg (by omega : ¬ a + (k - 1) / 2 = a + ch)]
  by_cases e1 : (k - 1) / 2 = r
  ·rw [if_pos (by omega)]
   by_cases e2 : k = ch
   ·rw [if_pos (by omega)]; exact asym
   ·rw [if_neg (by omega), if_neg (by omega)]; exact hmax k k0 hk e1 g2
  ·rw [if_neg (by omega)]
   by_cases e2 : k = r
   ·rw [if_neg (by omega), if_pos (by omega)]
    subst e2
    exact p.grand hlk k0 ch h0 hch hp g1 hc
   ·rw [if_neg (by omega), if_neg (by omega)]; exact p.heap k k0 hk hlk e1 g1 g2
 ·have g1 : a + (ch - 1) / 2 < G.length := by omega
  have g2 : a + k < G.length := by omega
  rw [swp_at hr hc h1 g1, swp_at hr hc h2 g2, if_neg (by omega), if_pos (by omega), if_neg (by omega), if_neg (by omega)]
  have := p.heap k k0 hk (by omega) (by omega) (by omega) g2
  simp only [hkp] at this
  exact this
end
end Go.Ab
namespace Go.Ab
section
variable {X : Type} {c : X → X → Int} {a b n lo : Nat} {G G' : List X}
theorem Heap.sinv {X : Type} {c : X → X → Int} {a n lo : Nat} {G : List X} (p : Heap c a n (lo + 1) G) (hl : a + n ≤ G.length) : SInv c a n lo lo G :=
 ⟨hl, fun k k0 hk h1 hne h2 h3 => p k k0 hk (by omega) h2 h3, fun h1 h0 => by omega⟩
theorem Heap.none_ {X : Type} {c : X → X → Int} {a n lo : Nat} {G : List X} (h : n ≤ 2 * lo + 1) : Heap c a n lo G := fun k k0 hk h1 _ _ => by omega
theorem Heap.root (W : Weak (lessC c)) (p : Heap c a n 0 G) (hl : a + n ≤ G.length) : ∀ (k : Nat) (hk : k < n), ¬ c (G[a]'(by omega)) (G[a + k]'(by omega)) < 0 := by
 intro k
 induction k using Nat.strongRecOn with
 | ind k ih =>
  intro hk
  by_cases e : k = 0
  ·subst e
   have := W.irr (G[a]'(by omega)); unfold lessC at this; simpa using this
  ·have h1 := ih ((k - 1) / 2) (by omega) (by omega)
   have h2 := p k (by omega) hk (by omega) (by omega) (by omega)
   have := W.ntrans (a := G[a]'(by omega)) (b := G[a + (k - 1) / 2]'(by omega)) (c := G[a + k]'(by omega)) (by unfold lessC; exact decide_eq_false h1) (by unfold lessC; exact decide_eq_false h2)
   unfold lessC at this; exact of_decide_eq_false this
theorem Within.take (w : Within a b G G') : G'.take a = G.take a := List.ext_getElem? fun i => by
 rw [List.getElem?_take, List.getElem?_take]
 split
 ·rename_i h; exact w.out i (.inl h)
 ·rfl
theorem Within.drop (w : Within a b G G') : G'.drop b = G.drop b := List.ext_getElem? fun i => by
 rw [List.getElem?_drop, List.getElem?_drop]; exact w.out (b + i) (.inr (by omega))
theorem split3 (hab : a ≤ b) (G : List X) : G = G.take a ++ ((G.take b).drop a ++ G.drop b) := by
 have h1 : G.take a = (G.take b).take a := by rw [List.take_take, Nat.min_eq_left hab]
 rw [h1, ← List.append_assoc, List.take_append_drop, List.take_append_drop]
theorem Within.mid (w : Within a b G G') (hab : a ≤ b) : ((G'.take b).drop a).Perm ((G.take b).drop a) := by
 have h := w.perm
 rw [split3 hab G, split3 hab G', w.take, w.drop] at h
 exact (List.perm_append_right_iff _).1 ((List.perm_append_left_iff _).1 h)
theorem Within.mem (w : Within a b G G') {k : Nat} (h1 : a ≤ k) (h2 : k < b) (hk : k < G'.length) : ∃ k', a ≤ k' ∧ k' < b ∧ ∃ h' : k' < G.length, G'[k] = G[k'] := by
 have hm : G'[k] ∈ (G'.take b).drop a := by
  rw [List.mem_iff_getElem?]
  refine ⟨k - a, ?_⟩
  rw [List.getElem?_drop, List.getElem?_take, if_pos (by omega), Nat.add_sub_cancel' h1, List.getElem?_eq_getElem hk]
 have := (w.mid (by omega)).mem_iff.1 hm
 rw [List.mem_iff_getElem?] at this
 obtain ⟨i, hi⟩ := this
 rw [List.getElem?_drop, List.getElem?_take] at hi
 split at hi
 ·rename_i hlt
  obtain ⟨hb, e⟩ := List.getElem?_eq_some_iff.1 hi
  exact ⟨a + i, by omega, hlt, hb, e.symm⟩
 ·cases hi
def Cut {X : Type} (c : X → X → Int) (A B a b : Nat) (G : List X) : Prop := ∀ p q, A ≤ p → p < q → q < B → p < a ∨ b ≤ q → ∀ (h1 : p < G.length) (h2 : q < G.length), ¬ c G[q] G[p] < 0
def Srt {X : Type} (c : X → X → Int) (A B : Nat) (G : List X) : Prop := ∀ p q, A ≤ p → p < q → q < B → ∀ (h1 : p < G.length) (h2 : q < G.length), ¬ c G[q] G[p] < 0
theorem Cut.within {A B : Nat} (x : Cut c A B a b G) (w : Within a b G G') (ha : A ≤ a) (hb : b ≤ B) : Cut c A B a b G' := fun p q hp hpq hq h h1 h2 => by
 have hl := w.len
 rcases h with h | h
 ·rw [w.same (.inl h) h1 (by omega)]
  by_cases hq2 : a ≤ q ∧ q < b
  ·obtain ⟨q', h3, h4, h5, e⟩ := w.mem hq2.1 hq2.2 h2
   rw [e]; exact x p q' hp (by omega) (by omega) (.inl h) (by omega) h5
  ·rw [w.same (by omega) h2 (by omega)]; exact x p q hp hpq hq (.inl h) _ _
 ·rw [w.same (k := q) (.inr h) h2 (by omega)]
  by_cases hp2 : a ≤ p ∧ p < b
  ·obtain ⟨p', h3, h4, h5, e⟩ := w.mem hp2.1 hp2.2 h1
   rw [e]; exact x p' q (by omega) (by omega) hq (.inr h) h5 (by omega)
  ·rw [w.same (k := p) (by omega) h1 (by omega)]; exact x p q hp hpq hq (.inr h) _ _
theorem Cut.join {A B : Nat} (x : Cut c A B a b G) (s : Srt c a b G) : Srt c A B G := fun p q hp hpq hq h1 h2 => by
 by_cases h : p < a ∨ b ≤ q
 ·exact x p q hp hpq hq h h1 h2
 ·exact s p q (by omega) hpq (by omega) h1 h2
theorem Cut.small {A B : Nat} (x : Cut c A B a b G) (s : b ≤ a + 1) : Srt c A B G := x.join fun p q _ _ _ _ _ => by omega
theorem within_mid {M : List X} (hab : a ≤ b) (hb : b ≤ G.length) (hp : M.Perm ((G.take b).drop a)) : Within a b G (G.take a ++ (M ++ G.drop b)) := by
 have hl := hp.length_eq
 simp only [List.length_drop, List.length_take] at hl
 refine ⟨?_, fun i hi => ?_⟩
 ·have := (hp.append_right (G.drop b)).append_left (G.take a)
  rw [← split3 hab G] at this; exact this
 ·rcases hi with hi | hi
  ·rw [List.getElem?_append_left (by rw [List.length_take]; omega), List.getElem?_take, if_pos hi]
  ·rw [List.getElem?_append_right (by rw [List.length_take]; omega), List.getElem?_append_right (by rw [List.length_take]; omega), List.getElem?_drop, List.length_take]
   congr 1; omega
theorem srt_mid {M : List X} (hab : a ≤ b) (hb : b ≤ G.length) (hl : M.length = b - a) (hp : M.Pairwise fun x y => ¬ c y x < 0) : Srt c a b (G.take a ++ (M ++ G.drop b)) := fun p q hp1 hpq hq h1 h2 => by
 have e : ∀ k (h1 : a ≤ k) (h2 : k < b) (hk : k < (G.take a ++ (M ++ G.drop b)).length), (G.take a ++ (M ++ G.drop b))[k] = M[k - a]'(by omega) := fun k h1 h2 hk => by
  rw [List.getElem_append_right (by rw [List.length_take]; omega), List.getElem_append_left (by rw [List.length_take]; omega)]
  congr 1; rw [List.length_take]; omega
 rw [e p hp1 (by omega), e q (by omega) hq]
 exact List.pairwise_iff_getElem.1 hp _ _ _ _ (by omega)
end
variable {C : CSem}
section
variable {E : ElOps} {X : Type} {cs : X → List AVal} {v : X → AVal} {h0 h : AHeap} {x f : AVal} {G : List X} {R : List (List AVal)} {c : X → X → Int} {Q : AVal → AHeap → Prop} {a b : Nat}
end
end Go.Ab
namespace Go.Ab
variable {C : CSem}
def Pre {X : Type} (c : X → X → Int) (a b : Nat) (G : List X) : Prop := 0 < a → ∀ i, a ≤ i → i < b → ∀ (h1 : i < G.length) (h2 : a - 1 < G.length), ¬ c G[i] G[a - 1] < 0
theorem Pre.within {X : Type} {c : X → X → Int} {a b : Nat} {G G' : List X} (p : Pre c a b G) (w : Within a b G G') : Pre c a b G' := fun h0 i h1 h2 h3 h4 => by
 have hl := w.len
 obtain ⟨k, k1, k2, k3, e⟩ := w.mem h1 h2 h3
 rw [e, w.same (k := a - 1) (.inl (by omega)) h4 (by omega)]
 exact p h0 k k1 k2 _ _
def But1 {X : Type} (c : X → X → Int) (A B j : Nat) (G : List X) : Prop := ∀ p q, A ≤ p → p < q → q < B → q ≠ j → ∀ (h1 : p < G.length) (h2 : q < G.length), ¬ c G[q] G[p] < 0
section
variable {X : Type} {c : X → X → Int} {A B j : Nat} {G : List X}
theorem But1.done (W : Weak (lessC c)) (x : But1 c A B j G) (hj : j < G.length) (h : j ≤ A ∨ ∀ (h1 : j - 1 < G.length), ¬ c G[j] G[j - 1] < 0) : Srt c A B G := fun p q h1 h2 h3 h4 h5 => by
 by_cases e : q = j
 ·subst e
  have h := h.resolve_left (by omega)
  by_cases e2 : p = q - 1
  ·subst e2; exact h _
  ·have k1 := x p (q - 1) h1 (by omega) (by omega) (by omega) h4 (by omega)
   have := W.ntrans (a := G[q]) (b := G[q - 1]'(by omega)) (c := G[p]) (by unfold lessC; exact decide_eq_false (h _)) (by unfold lessC; exact decide_eq_false k1)
   unfold lessC at this; exact of_decide_eq_false this
 ·exact x p q h1 h2 h3 e h4 h5
theorem But1.step (W : Weak (lessC c)) (x : But1 c A B j G) (hA : A < j) (hj : j < G.length) (hj1 : j - 1 < G.length) (hlt : c G[j] G[j - 1] < 0) : But1 c A B (j - 1) (swp G j (j - 1) hj hj1) := fun p q h1 h2 h3 h4 h5 h6 => by
 have hl := swp_len hj hj1
 rw [swp_at hj hj1 h6 (by omega), if_neg h4, swp_at hj hj1 h5 (by omega)]
 by_cases e : q = j
 ·rw [if_pos e]
  split
  ·have := W.asym (a := G[j]) (b := G[j - 1]) (by unfold lessC; exact decide_eq_true hlt)
   unfold lessC at this; exact of_decide_eq_false this
  ·rw [if_neg (by omega)]; exact x p (j - 1) h1 (by omega) (by omega) (by omega) (by omega) hj1
 ·rw [if_neg e]
  split
  ·exact x j q (by omega) (by omega) h3 e hj (by omega)
  ·split
   ·exact x (j - 1) q (by omega) (by omega) h3 e hj1 (by omega)
   ·exact x p q h1 h2 h3 e (by omega) (by omega)
end
section
variable {E : ElOps} {X : Type} {cs : X → List AVal} {v : X → AVal} {h0 h : AHeap} {x f : AVal} {G : List X} {R : List (List AVal)} {c : X → X → Int} {Q : AVal → AHeap → Prop} {Y1 : List AVal → AHeap → Prop} {a b i s : Nat}
end
end Go.Ab
namespace Go.Ab
variable {C : CSem} {N : Nat → Nat}
theorem nextStr_at {h : AHeap} {id : Nat} {b : Blk} {s : List UInt8} {pos : Nat} {K : AVal → AHeap → Prop} (hb : h id = some b) (ho : b.obj = some (.iter s pos)) :
  (B.nextStr h (.ptr id 0 0) K : Prop) = if pos < s.length then K (.tup [.bool true, .int .i64 pos, .int .i32 (A.rune s pos).1]) (upd h id { b with obj := some (.iter s (pos + (A.rune s pos).2)) }) else K (.tup [.bool false]) h := by
 simp only [B.nextStr, A.nextStr, hb, ho]
theorem get_bang {s : List UInt8} {pos : Nat} {b : UInt8} (hb : s[pos]? = some b) : ((⟨s.toArray⟩ : ByteArray).get! pos) = b := by
 simp [ByteArray.get!, hb]
theorem rune_ascii {s : List UInt8} {pos : Nat} {b : UInt8} (hb : s[pos]? = some b) (h : b.toNat < 128) : A.rune s pos = (b.toNat, 1) := by
 unfold A.rune Utf8.decode
 simp only [Nat.add_zero, get_bang hb]
 rw [if_pos h]
theorem rune_high {s : List UInt8} {pos : Nat} {b : UInt8} (hb : s[pos]? = some b) (h : 128 ≤ b.toNat) : 128 ≤ (A.rune s pos).1 := by
 unfold A.rune Utf8.decode
 simp only [Nat.add_zero, get_bang hb]
 rw [if_neg (by omega)]
 split
 ·split <;> simp_all [Utf8.runeError]
 ·split
  ·split <;> simp_all [Utf8.runeError]; omega
  ·split
   ·split <;> simp_all [Utf8.runeError]; omega
   ·simp [Utf8.runeError]
def codeCh (i : Nat) (b : UInt8) : Bool := (decide (65 ≤ b.toNat) && decide (b.toNat ≤ 90)) || (decide (0 < i) && ((decide (48 ≤ b.toNat) && decide (b.toNat ≤ 57)) || decide (b.toNat = 45)))
def codeTo (s : List UInt8) : Nat → Bool
 | 0 => true
 | n + 1 => codeTo s n && codeCh n (s.getD n 0)
def codeRight (s : List UInt8) : Bool := !s.isEmpty && decide (s.length ≤ 12) && codeTo s s.length
theorem codeTo_bad {s : List UInt8} {k : Nat} (h : codeTo s k = true) {b : UInt8} (hb : s[k]? = some b) (hc : codeCh k b = false) : ∀ n, k < n → codeTo s n = false
 | 0, h => by omega
 | n + 1, hn => by
  by_cases e : n = k
  ·subst e; simp [codeTo, List.getD, hb, hc]
  ·rw [codeTo, codeTo_bad h hb hc n (by omega)]; rfl
theorem codeTo_step {s : List UInt8} {k : Nat} (h : codeTo s k = true) {b : UInt8} (hb : s[k]? = some b) (hc : codeCh k b = true) : codeTo s (k + 1) = true := by
 simp [codeTo, List.getD, hb, hc, h]
theorem codeRight_bad {s : List UInt8} {k : Nat} (h : codeTo s k = true) {b : UInt8} (hb : s[k]? = some b) (hc : codeCh k b = false) : codeRight s = false := by
 have := codeTo_bad h hb hc s.length (List.getElem?_eq_some_iff.1 hb).1
 simp [codeRight, this]
def code_Right.Spec (C : CSem) (N : Nat → Nat) : Prop := ∀ (s : List UInt8) (h : AHeap) (Q : AVal → AHeap → Prop), Q (.bool (codeRight s)) h → C (N 53) [.str s] h Q
def itB (s : List UInt8) (k : Nat) : Blk := { cells := [], gens := [], next := 1, own := true, obj := some (.iter s k) }
theorem code_Right.spec (i : code_Right.Imp C N) : code_Right.Spec C N := by
 intro s h Q hq
 apply i
 simp only [code_Right.cps]
 intro id hid
 refine LoopR.intro (fun n vs hh => ∃ k, k + n = s.length ∧ vs = [] ∧ hh = upd h id (itB s k) ∧ codeTo s k = true) s.length ?_ ⟨0, by simp, rfl, rfl, rfl⟩
 rintro Y n vs hh ⟨k, hn, rfl, rfl, hc⟩ hY
 simp only [code_Right.l3, code_Right.k2]
 rw [nextStr_at (upd_same ..) rfl]
 have hle : h.le (upd h id (itB s k)) := le_upd _ hid
 split
 ·rename_i hk
  obtain ⟨b, hb⟩ := get_lt hk
  by_cases hlt : b.toNat < 128
  ·rw [rune_ascii hb hlt, upd_upd]
   have next : codeCh k b = true → Y [] (upd h id { cells := (itB s k).cells, gens := (itB s k).gens, next := (itB s k).next, own := (itB s k).own, obj := some (.iter s (k + 1)) }) := fun hcc =>
    hY (n - 1) _ _ (by omega) ⟨k + 1, by omega, rfl, rfl, codeTo_step hc hb hcc⟩
   simp +contextual -dsimp
   refine B.cond_bool (fun h1 => ?_) (fun h1 => ?_)
   ·exact next (by simp at h1; simp [codeCh]; omega)
   ·simp +contextual -dsimp
    refine B.cond_bool (fun h2 => ?_) (fun h2 => ?_)
    ·exact next (by simp at h2; simp [codeCh]; omega)
    ·have := codeRight_bad hc hb (by simp at h1 h2; simp [codeCh]; omega)
     rw [this] at hq
     exact dn_le (le_upd _ hid) hq
  ·have hr := rune_high hb (by omega)
   have := codeRight_bad hc hb (by simp [codeCh]; omega)
   rw [this] at hq
   simp +contextual -dsimp
   refine B.cond_bool (fun h1 => ?_) (fun h1 => ?_)
   ·simp at h1; omega
   ·simp +contextual -dsimp
    refine B.cond_bool (fun h2 => ?_) (fun h2 => ?_)
    ·simp at h2; omega
    ·exact dn_le (le_upd _ hid) hq
 ·have hk : k = s.length := by omega
  subst hk
  have : codeRight s = (!decide (s = []) && decide ((s.length : Int) ≤ 12)) := by
   unfold codeRight
   rw [hc, Bool.and_true]
   cases s with
   | nil => rfl
   | cons a r => simp; omega
  rw [this] at hq
  simp +contextual -dsimp
  exact dn_le hle hq
theorem SlX.sliceIn {T : Type} {h : AHeap} {es : Nat} {x : AVal} {f : T → List AVal} {L : List T} {R : List (List AVal)} (hs : SlX h es x (L.map f) R) (hes : 0 < es) {lo hi : Nat} {a b : Option AVal} (ha : a = none ∧ lo = 0 ∨ ∃ k, a = some (.int k lo)) (hb : b = none ∧ hi = L.length ∨ ∃ k, b = some (.int k hi)) (h1 : lo ≤ hi) (h2 : hi ≤ L.length) :
  ∃ x' R', V.cutSl es x a b = some x' ∧ SlX h es x' (((L.take hi).drop lo).map f) R' ∧ foot x' = foot x := by
 obtain ⟨x', e1, e2, e3⟩ := hs.slice hes ha (by simpa using hb) h1 (by simp; omega)
 refine ⟨x', (L.map f ++ R).drop hi, e1, ?_, e3⟩
 rwa [List.take_append_of_le_length (by simpa using h2), ← List.map_take, ← List.map_drop] at e2
def codeGet : List UInt8 → List UInt8 × Nat × Bool
 | [] => ([], 0, false)
 | c :: r => if r.length < c.toNat ∨ (r.take c.toNat ≠ [] ∧ codeRight (r.take c.toNat) = false) then ([], 0, false) else (r.take c.toNat, 1 + c.toNat, true)
theorem codeGet_cons (c : UInt8) (r : List UInt8) : codeGet (c :: r) = if r.length < c.toNat ∨ (r.take c.toNat ≠ [] ∧ codeRight (r.take c.toNat) = false) then ([], 0, false) else (r.take c.toNat, 1 + c.toNat, true) := rfl
end Go.Ab
namespace Go.Ab
variable {C : CSem} {N : Nat → Nat}
def Window.right (w : Window) : Bool := decide (0 ≤ w.From) && decide (w.From ≤ w.Until) && decide (w.Until ≤ 4001)
def window_Right.Spec (C : CSem) (N : Nat → Nat) : Prop := ∀ (a b : Int) (h : AHeap) (Q : AVal → AHeap → Prop), Q (.bool (Window.right ⟨a, b⟩)) h → C (N 5) [.agg [.int .i64 a, .int .i64 b]] h Q
theorem window_Right.spec (i : window_Right.Imp C N) : window_Right.Spec C N := by
 intro a b h Q hq
 apply i
 simp +contextual -dsimp
 exact dn_same hq
def Window.zero : Window := ⟨0, 0⟩
def within (a b : Int) : Window × Bool := if b ≤ a then (.zero, false) else (⟨a, b⟩, true)
@[simp] def wb (x : Window × Bool) : AVal := .tup [.agg x.1.cs, .bool x.2]
def window_within.Spec (C : CSem) (N : Nat → Nat) : Prop := ∀ (a b : Int) (h : AHeap) (Q : AVal → AHeap → Prop), Q (wb (within a b)) h → C (N 16) [.int .i64 a, .int .i64 b] h Q
theorem window_within.spec (i : window_within.Imp C N) : window_within.Spec C N := by
 intro a b h Q hq
 apply i
 simp +contextual -dsimp
 refine B.cond_bool (fun hb => ?_) (fun hb => ?_) <;> simp at hb ⊢
 ·rw [show within a b = (.zero, false) by simp [within, hb]] at hq
  exact dn_same hq
 ·rw [show within a b = (⟨a, b⟩, true) by simp [within]; omega] at hq
  exact dn_same hq
def meet (a b : Window) : Window × Bool := if a.right && b.right then within (max a.From b.From) (min a.Until b.Until) else (.zero, false)
def window_Meet.Spec (C : CSem) (N : Nat → Nat) : Prop := ∀ (a b c d : Int) (h : AHeap) (Q : AVal → AHeap → Prop), Q (wb (meet ⟨a, b⟩ ⟨c, d⟩)) h → C (N 1) [.agg [.int .i64 a, .int .i64 b], .agg [.int .i64 c, .int .i64 d]] h Q
theorem window_Meet.spec (i : window_Meet.Imp C N) (s1 : window_Right.Spec C N) (s2 : window_within.Spec C N) : window_Meet.Spec C N := by
 intro a b c d h Q hq
 apply i
 simp +contextual -dsimp
 refine s1 _ _ _ _ ?_
 simp +contextual -dsimp
 refine B.gdb_call (fun _ _ hq => s1 _ _ _ _ hq) ?_
 simp +contextual -dsimp
 refine B.cond_bool (fun hb => ?_) (fun hb => ?_) <;> simp at hb ⊢
 ·rw [show meet ⟨a, b⟩ ⟨c, d⟩ = (.zero, false) by simp [meet, Bool.and_eq_true]; intro h1 h2; rcases hb with hb | hb <;> simp_all] at hq
  exact dn_same hq
 ·refine s2 _ _ _ _ ?_
  simp
  rw [show meet ⟨a, b⟩ ⟨c, d⟩ = within (max a c) (min b d) by simp [meet, hb]] at hq
  exact dn_same hq
end Go.Ab
namespace Go.Ab
@[simp] def tell_Get.k1 (C : CSem) (N : Nat → Nat) (Q : AVal → AHeap → Prop) (v2 v5 c6 : AVal) (h : AHeap) : Prop :=
 B.nilCheck v5 fun v41 =>
  B.pv (V.fieldAddr 2 v41) fun v42 =>
  B.ld h v42 fun v43 =>
  B.gd h v43 false (fun K => B.pv (V.fieldN 0 7 c6) fun v => K v h) fun v45 h =>
  B.gd h v43 false (fun K => B.call C (N 29) [v45] h K) fun v46 h =>
  B.gd h v43 false (fun K => B.pv (V.un .not v46) fun v => K v h) fun v47 h =>
  B.pick v43 (.bool true) v47 fun v48 =>
  B.cond v48
  (B.pv (A.bld [] [.int .i64 0, .int .i64 0, .int .i64 0, .str [], .int .u8 0, .nils, .nils]) fun v49 =>
  B.stn h v2 7 v49 fun h =>
  B.pv (oneOf (joinV (A.ldnv h v2 7) (joinV (some (.int .i64 0)) (joinV (some (.int .i64 4)) (some []))))) fun v => Q v h)
  (B.pv (V.fieldN 0 7 c6) fun v50 =>
  B.nilCheck v5 fun v52 =>
  B.pv (V.fieldAddr 1 v52) fun v53 =>
  B.ld h v53 fun v54 =>
  (fun K => B.stn h v2 7 v50 fun h => K .undef h) (B.keepS h [(v53, none)] (fun _ h => B.pv (oneOf (joinV (A.ldnv h v2 7) (joinV (some v54) (joinV (some (.int .i64 0)) (some []))))) fun v => Q v h)))
end Go.Ab
namespace Go.Ab
@[simp] def ref14_Put.k1 (C : CSem) (N : Nat → Nat) (Q : AVal → AHeap → Prop) (Y1 : List AVal → AHeap → Prop) (v4 v8 c1 : AVal) (h : AHeap) : Prop :=
 B.al c1 (B.pv (V.field1 6 c1) fun v99 =>
  B.pv (V.lenSl v99) fun v100 =>
  B.pv (V.bin .lss v8 v100) fun v101 =>
  B.cond v101
  (B.al c1 (B.pv (V.field1 6 c1) fun v106 =>
  B.pv (V.idxS 3 v106 v8) fun v108 =>
  B.pv (V.fieldAddr 0 v108) fun v109 =>
  B.ld h v109 fun v110 =>
  B.call C (N 58) [v110, (.int .i64 8)] h fun v111 h =>
  B.appW h 1 1 v4 v111 fun v112 h =>
  B.al c1 (B.pv (V.field1 6 c1) fun v115 =>
  B.pv (V.idxS 3 v115 v8) fun v117 =>
  B.pv (V.fieldAddr 1 v117) fun v118 =>
  B.ld h v118 fun v119 =>
  B.call C (N 58) [v119, (.int .i64 8)] h fun v120 h =>
  B.appW h 1 1 v112 v120 fun v121 h =>
  B.al c1 (B.pv (V.field1 6 c1) fun v124 =>
  B.pv (V.idxS 3 v124 v8) fun v126 =>
  B.pv (V.fieldAddr 2 v126) fun v127 =>
  B.ld h v127 fun v128 =>
  B.call C (N 58) [v128, (.int .i64 8)] h fun v129 h =>
  B.appW h 1 1 v121 v129 fun v130 h =>
  B.pv (V.bin .add v8 (.int .i64 1)) fun v103 =>
  Y1 [v130, v103] h))))
  (Q (.tup [v4, (.int .i64 0)]) h))
@[simp] def ref14_Put.l2 (C : CSem) (N : Nat → Nat) (Q : AVal → AHeap → Prop) (c1 : AVal) : List AVal → AHeap → (List AVal → AHeap → Prop) → Prop
 | [v4, v8], h, Y1 => ref14_Put.k1 C N Q Y1 v4 v8 c1 h
 | _, _, _ => False
@[simp] def ref14_Get.k1 (C : CSem) (N : Nat → Nat) (Q : AVal → AHeap → Prop) (v2 v5 c6 : AVal) (h : AHeap) : Prop :=
 B.nilCheck v5 fun v82 =>
  B.pv (V.fieldAddr 2 v82) fun v83 =>
  B.ld h v83 fun v84 =>
  B.gd h v84 false (fun K => B.pv (V.fieldN 0 7 c6) fun v => K v h) fun v86 h =>
  B.gd h v84 false (fun K => B.call C (N 33) [v86] h K) fun v87 h =>
  B.gd h v84 false (fun K => B.pv (V.un .not v87) fun v => K v h) fun v88 h =>
  B.pick v84 (.bool true) v88 fun v89 =>
  B.cond v89
  (B.pv (A.bld [] [.int .i64 0, .int .i64 0, .int .i64 0, .str [], .int .u8 0, .nils, .nils]) fun v90 =>
  B.stn h v2 7 v90 fun h =>
  B.pv (oneOf (joinV (A.ldnv h v2 7) (joinV (some (.int .i64 0)) (joinV (some (.int .i64 4)) (some []))))) fun v => Q v h)
  (B.pv (V.fieldN 0 7 c6) fun v91 =>
  B.nilCheck v5 fun v93 =>
  B.pv (V.fieldAddr 1 v93) fun v94 =>
  B.ld h v94 fun v95 =>
  (fun K => B.stn h v2 7 v91 fun h => K .undef h) (B.keepS h [(v94, none)] (fun _ h => B.pv (oneOf (joinV (A.ldnv h v2 7) (joinV (some v95) (joinV (some (.int .i64 0)) (some []))))) fun v => Q v h)))
@[simp] def ref14_Get.k2 (C : CSem) (N : Nat → Nat) (Q : AVal → AHeap → Prop) (Y1 : List AVal → AHeap → Prop) (v2 v5 v8 c6 : AVal) (h : AHeap) : Prop :=
 B.pv (V.bin .gtr v8 (.int .i64 0)) fun v56 =>
  B.gd h v56 true (fun K => K v5 h) fun v58 h =>
  B.gd h v56 true (fun K => B.nilCheck v58 fun v => K v h) fun v59 h =>
  B.gd h v56 true (fun K => B.pv (V.fieldAddr 2 v59) fun v => K v h) fun v60 h =>
  B.gd h v56 true (fun K => B.ld h v60 fun v => K v h) fun v61 h =>
  B.gd h v56 true (fun K => B.pv (V.un .not v61) fun v => K v h) fun v62 h =>
  B.pick v56 v62 (.bool false) fun v63 =>
  B.cond v63
  (B.call C (N 71) [v5, (.int .i64 8)] h fun v67 h =>
  B.pv (A.bld [(0, none, v67)] [.int .i64 0, .int .i64 0, .int .i64 0]) fun v68 =>
  B.pv (V.setN 0 3 v68 (.agg [.int .i64 0, .int .i64 0, .int .i64 0])) fun c9 =>
  B.call C (N 71) [v5, (.int .i64 8)] h fun v70 h =>
  B.al c9 (B.pv (V.setF 1 v70 c9) fun c9 =>
  B.call C (N 71) [v5, (.int .i64 8)] h fun v73 h =>
  B.al c9 (B.pv (V.setF 2 v73 c9) fun c9 =>
  B.al c6 (B.pv (V.field1 6 c6) fun v76 =>
  B.pv (V.fieldN 0 3 c9) fun v77 =>
  B.newO h (fillL [(0, some 3, v77)] (repL 1 [.int .i64 0, .int .i64 0, .int .i64 0])) fun i78 h =>
  B.appW h 3 24 v76 (.sl i78 0 0 1 3 1) fun v79 h =>
  B.al c6 (B.pv (V.setF 6 v79 c6) fun c6 =>
  B.pv (V.bin .sub v8 (.int .i64 1)) fun v65 =>
  Y1 [v65, c6] h)))))
  (ref14_Get.k1 C N Q v2 v5 c6 h)
@[simp] def ref14_Get.l3 (C : CSem) (N : Nat → Nat) (Q : AVal → AHeap → Prop) (v2 v5 : AVal) : List AVal → AHeap → (List AVal → AHeap → Prop) → Prop
 | [v8, c6], h, Y1 => ref14_Get.k2 C N Q Y1 v2 v5 v8 c6 h
 | _, _, _ => False
@[simp] def ref14_Get.k4 (C : CSem) (N : Nat → Nat) (Q : AVal → AHeap → Prop) (Y2 : List AVal → AHeap → Prop) (v2 v5 v7 c6 : AVal) (h : AHeap) : Prop :=
 B.pv (V.bin .gtr v7 (.int .i64 0)) fun v36 =>
  B.gd h v36 true (fun K => K v5 h) fun v38 h =>
  B.gd h v36 true (fun K => B.nilCheck v38 fun v => K v h) fun v39 h =>
  B.gd h v36 true (fun K => B.pv (V.fieldAddr 2 v39) fun v => K v h) fun v40 h =>
  B.gd h v36 true (fun K => B.ld h v40 fun v => K v h) fun v41 h =>
  B.gd h v36 true (fun K => B.pv (V.un .not v41) fun v => K v h) fun v42 h =>
  B.pick v36 v42 (.bool false) fun v43 =>
  B.cond v43
  (B.al c6 (B.pv (V.field1 5 c6) fun v47 =>
  B.call C (N 72) [v5] h fun v49 h =>
  B.newO h (fillL [(0, some 6, v49)] (repL 1 [.int .i64 0, .str [], .int .i64 0, .int .i64 0, .int .i64 0, .bool false])) fun i50 h =>
  B.appW h 6 56 v47 (.sl i50 0 0 1 6 1) fun v51 h =>
  B.al c6 (B.pv (V.setF 5 v51 c6) fun c6 =>
  B.pv (V.bin .sub v7 (.int .i64 1)) fun v45 =>
  Y2 [v45, c6] h)))
  (B.call C (N 71) [v5, (.int .i64 2)] h fun v54 h =>
  LoopR (ref14_Get.l3 C N Q v2 v5) [v54, c6] h)
@[simp] def ref14_Get.l5 (C : CSem) (N : Nat → Nat) (Q : AVal → AHeap → Prop) (v2 v5 : AVal) : List AVal → AHeap → (List AVal → AHeap → Prop) → Prop
 | [v7, c6], h, Y2 => ref14_Get.k4 C N Q Y2 v2 v5 v7 c6 h
 | _, _, _ => False
end Go.Ab
namespace Go.Ab
variable {C : CSem} {N : Nat → Nat}
def lotRight (l : Lot) : Bool := decide (0 < l.Id) && codeRight l.Item && Window.right ⟨l.From, l.Until⟩ && decide (l.From < l.Until) && decide (0 < l.Qty) && decide (l.Qty ≤ 1073741824)
def useRight (u : Use) : Bool := decide (0 ≤ u.Want) && decide (1 ≤ u.Lot) && decide (1 ≤ u.Qty)
def lot_Right.Spec (C : CSem) (N : Nat → Nat) : Prop := ∀ (l : Lot) (h : AHeap) (Q : AVal → AHeap → Prop), Q (.bool (lotRight l)) h → C (N 52) [.agg l.cs] h Q
theorem lot_Right.spec (i : lot_Right.Imp C N) (s1 : code_Right.Spec C N) (s2 : window_Right.Spec C N) : lot_Right.Spec C N := by
 intro l h Q hq
 apply i
 simp +contextual -dsimp
 refine B.gdb_call (fun _ _ hq => s1 _ _ _ hq) ?_
 simp +contextual -dsimp
 refine B.gdb_call (fun _ _ hq => s2 _ _ _ _ hq) ?_
 simp +contextual -dsimp
 simp only [lotRight, Bool.and_assoc] at hq
 simp only [Bool.and_assoc]
 exact dn_same hq
def be (n : Int) : Nat → List UInt8
 | 0 => []
 | k + 1 => byt (n.fdiv (2 ^ (8 * k))) :: be n k
@[simp] theorem be_len (n : Int) : ∀ k, (be n k).length = k
 | 0 => rfl
 | k + 1 => by simp [be, be_len n k]
def TellP.bare (t : TellP) : Bool := decide (t.Id = 0) && decide (t.Day = 0) && decide (t.Code = []) && decide (t.State = 0) && decide (t.Lots = []) && decide (t.Uses = [])
def TellP.head (t : TellP) : Bool := !(decide (t.Id < 0) || decide (t.Day < -1) || decide (4000 < t.Day) || !decide (t.Code = []) && !codeRight t.Code || decide (3 < (t.State.toNat : Int)) || decide (300 < (t.Lots.length : Int)) || decide (2000 < (t.Uses.length : Int)))
def TellP.full (t : TellP) : Bool := t.head && t.Lots.all lotRight && t.Uses.all useRight
def tellRight (t : TellP) : Bool := decide (0 ≤ t.Err) && decide (t.Err ≤ 999) && if 0 < t.Err then t.bare else t.full
def tell_Right.Spec (C : CSem) (N : Nat → Nat) : Prop := ∀ (t : TellP) (x y : AVal) (h : AHeap) (Q : AVal → AHeap → Prop), TellAt h t x y → t.Lots.length ≤ 100000000 → t.Uses.length ≤ 100000000 → Q (.bool (tellRight t)) h → C (N 29) [.agg (t.cs x y)] h Q
def ref14_Right.Spec (C : CSem) (N : Nat → Nat) : Prop := ∀ (t : TellP) (x y : AVal) (h : AHeap) (Q : AVal → AHeap → Prop), TellAt h t x y → t.Lots.length ≤ 100000000 → t.Uses.length ≤ 100000000 → Q (.bool (tellRight t)) h → C (N 33) [.agg (t.cs x y)] h Q
end Go.Ab
namespace Go.Ab
variable {C : CSem} {N : Nat → Nat}
structure Rdr where
 at_ : Nat
 bad : Bool
def beVal (l : List UInt8) : Nat := l.foldl (fun n c => 256 * n + c.toNat) 0
def rNum (b : List UInt8) (k : Nat) (r : Rdr) : Int × Rdr := if r.bad = true ∨ b.length - r.at_ < k then (0, ⟨r.at_, true⟩) else (IntKind.i64.wrap (beVal ((b.drop r.at_).take k)), ⟨r.at_ + k, false⟩)
def rCode (b : List UInt8) (r : Rdr) : List UInt8 × Rdr := if r.bad then ([], r) else ((codeGet (b.drop r.at_)).1, ⟨r.at_ + (codeGet (b.drop r.at_)).2.1, !(codeGet (b.drop r.at_)).2.2⟩)
theorem rNum_le {b : List UInt8} {k : Nat} {r : Rdr} (h : r.at_ ≤ b.length) : (rNum b k r).2.at_ ≤ b.length := by
 unfold rNum; split
 ·exact h
 ·rename_i hh; simp only [not_or] at hh; simp only; omega
theorem codeGet_le : ∀ b : List UInt8, (codeGet b).2.1 ≤ b.length
 | [] => by simp [codeGet]
 | c :: r => by rw [codeGet_cons]; split <;> simp; rename_i hh; simp only [not_or] at hh; omega
theorem rCode_le {b : List UInt8} {r : Rdr} (h : r.at_ ≤ b.length) : (rCode b r).2.at_ ≤ b.length := by
 unfold rCode; split
 ·exact h
 ·have := codeGet_le (b.drop r.at_); simp at this ⊢; omega
abbrev RdAt (h0 h : AHeap) (p x : AVal) (r : Rdr) : Prop := Owns h0 h [.box p [x, .int .i64 (r.at_ : Int), .bool r.bad]]
theorem bin_shl {k j : IntKind} {a b : Int} (h0 : 0 ≤ b) (h1 : b < k.bits) : V.bin .shl (.int k a) (.int j b) = some (.int k (k.wrap (a * 2 ^ b.toNat))) := by
 simp only [V.bin, V.shift]
 rw [if_neg (by omega), Nat.min_eq_left (by omega)]
def ref13_Reader_Number.Spec (C : CSem) (N : Nat → Nat) : Prop := ∀ (h0 h : AHeap) (p x : AVal) (b : List UInt8) (R : List (List AVal)) (r : Rdr) (k : Nat) (Q : AVal → AHeap → Prop), SlX h0 1 x (b.map bc) R → b.length < 4611686018427387904 → r.at_ ≤ b.length → k ≤ 8 → RdAt h0 h p x r →
 (∀ h', RdAt h0 h' p x (rNum b k r).2 → Q (.int .i64 (rNum b k r).1) h') → C (N 71) [p, .int .i64 (k : Int)] h Q
def rLot (b : List UInt8) (r : Rdr) : Lot × Rdr :=
 let a := rNum b 8 r
 let c := rCode b a.2
 let f := rNum b 2 c.2
 let u := rNum b 2 f.2
 let q := rNum b 8 u.2
 let e := rNum b 1 q.2
 (⟨a.1, c.1, f.1, u.1, q.1, decide (e.1 = 1)⟩, ⟨e.2.at_, e.2.bad || decide (1 < e.1)⟩)
theorem rLot_le {b : List UInt8} {r : Rdr} (h : r.at_ ≤ b.length) : (rLot b r).2.at_ ≤ b.length :=
 rNum_le (rNum_le (rNum_le (rNum_le (rCode_le (rNum_le h)))))
def rUse (b : List UInt8) (r : Rdr) : Use × Rdr :=
 let a := rNum b 8 r
 let c := rNum b 8 a.2
 let f := rNum b 8 c.2
 (⟨a.1, c.1, f.1⟩, f.2)
theorem rUse_le {b : List UInt8} {r : Rdr} (h : r.at_ ≤ b.length) : (rUse b r).2.at_ ≤ b.length := rNum_le (rNum_le (rNum_le h))
def ref14_lot.Spec (C : CSem) (N : Nat → Nat) : Prop := ∀ (h0 h : AHeap) (p x : AVal) (b : List UInt8) (R : List (List AVal)) (r : Rdr) (Q : AVal → AHeap → Prop), SlX h0 1 x (b.map bc) R → b.length < 4611686018427387904 → r.at_ ≤ b.length → RdAt h0 h p x r →
 (∀ h', RdAt h0 h' p x (rLot b r).2 → Q (.agg (rLot b r).1.cs) h') → C (N 72) [p] h Q
end Go.Ab
namespace Go.Ab
variable {C : CSem} {N : Nat → Nat}
theorem V.bin_xor (k : IntKind) (a b : Int) : V.bin .xor (.int k a) (.int k b) = some (.int k (k.wrap (BitVec.ofInt k.bits a ^^^ BitVec.ofInt k.bits b).toNat)) := by simp [V.bin, V.arith]
theorem V.bin_and (k : IntKind) (a b : Int) : V.bin .and (.int k a) (.int k b) = some (.int k (k.wrap (BitVec.ofInt k.bits a &&& BitVec.ofInt k.bits b).toNat)) := by simp [V.bin, V.arith]
theorem wrapU {n : Nat} (h : n < 18446744073709551616) : IntKind.u64.wrap (n : Int) = n := by rw [wrap_u64]; omega
theorem toUN {n : Nat} (h : n < 18446744073709551616) : V.toInt .u64 (.int .i64 (n : Int)) = some (.int .u64 (n : Int)) := by rw [V.toInt_int, wrapU h]
theorem toIN {k : IntKind} {n : Nat} (h : n < 4611686018427387904) : V.toInt .i64 (.int k (n : Int)) = some (.int .i64 (n : Int)) := by rw [V.toInt_int, wrap_i64 (by omega) (by omega)]
theorem and_le {z : Int} {m : Nat} (h : m < 4611686018427387904) : ∃ o : Nat, o ≤ m ∧ V.bin .and (.int .u64 z) (.int .u64 (m : Int)) = some (.int .u64 (o : Int)) := by
 refine ⟨(BitVec.ofInt 64 z &&& BitVec.ofInt 64 (m : Int)).toNat, ?_, ?_⟩
 ·rw [BitVec.toNat_and]
  refine Nat.le_trans Nat.and_le_right ?_
  rw [BitVec.toNat_ofInt]; omega
 ·rw [V.bin_and]
  show some (AVal.int .u64 (IntKind.u64.wrap ((BitVec.ofInt 64 z &&& BitVec.ofInt 64 (m : Int)).toNat : Int))) = _
  rw [wrapU (BitVec.isLt _)]
def lenT : List UInt8 := [0, 1, 2, 2, 3, 3, 3, 3, 4, 4, 4, 4, 4, 4, 4, 4, 5, 5, 5, 5, 5, 5, 5, 5, 5, 5, 5, 5, 5, 5, 5, 5, 6, 6, 6, 6, 6, 6, 6, 6, 6, 6, 6, 6, 6, 6, 6, 6, 6, 6, 6, 6, 6, 6, 6, 6, 6, 6, 6, 6, 6, 6, 6, 6, 7, 7, 7, 7, 7, 7, 7, 7, 7, 7, 7, 7, 7, 7, 7, 7, 7, 7, 7, 7, 7, 7, 7, 7, 7, 7, 7, 7, 7, 7, 7, 7, 7, 7, 7, 7, 7, 7, 7, 7, 7, 7, 7, 7, 7, 7, 7, 7, 7, 7, 7, 7, 7, 7, 7, 7, 7, 7, 7, 7, 7, 7, 7, 7, 8, 8, 8, 8, 8, 8, 8, 8, 8, 8, 8, 8, 8, 8, 8, 8, 8, 8, 8, 8, 8, 8, 8, 8, 8, 8, 8, 8, 8, 8, 8, 8, 8, 8, 8, 8, 8, 8, 8, 8, 8, 8, 8, 8, 8, 8, 8, 8, 8, 8, 8, 8, 8, 8, 8, 8, 8, 8, 8, 8, 8, 8, 8, 8, 8, 8, 8, 8, 8, 8, 8, 8, 8, 8, 8, 8, 8, 8, 8, 8, 8, 8, 8, 8, 8, 8, 8, 8, 8, 8, 8, 8, 8, 8, 8, 8, 8, 8, 8, 8, 8, 8, 8, 8, 8, 8, 8, 8, 8, 8, 8, 8, 8, 8, 8, 8, 8, 8, 8, 8, 8, 8, 8, 8, 8, 8, 8, 8]
theorem idxStr_u8 {s : List UInt8} {k : Nat} {b : UInt8} (hb : s[k]? = some b) : V.idxStr (.str s) (.int .u8 (k : Int)) = some (.int .u8 b.toNat) := by
 simp [V.idxStr, hb]
theorem lenT_all : ∀ k : Fin 256, ∃ b : Fin 9, lenT[k.val]? = some (UInt8.ofNat b.val) ∧ (0 < k.val → 2 ^ b.val ≤ 2 * k.val) := by decide +kernel
theorem lenTab {k : Nat} (h : k < 256) : ∃ b : Nat, V.idxStr (.str lenT) (.int .u8 (k : Int)) = some (.int .u8 (b : Int)) ∧ b ≤ 8 ∧ (0 < k → 2 ^ b ≤ 2 * k) := by
 obtain ⟨b, e, hb⟩ := lenT_all ⟨k, h⟩
 have hb9 := b.isLt
 refine ⟨b.val, ?_, by omega, hb⟩
 rw [idxStr_u8 e]
 congr 2
 rw [UInt8.toNat_ofNat', Nat.mod_eq_of_lt (by omega)]
theorem Len64_k1 {Q : AVal → AHeap → Prop} {v0 v2 : AVal} {h : AHeap} : math_bits_Len64.k1 C N Q v0 v2 h = (B.pv (V.toInt .u8 v0) fun v21 =>
  B.pv (V.idxStr (.str lenT) v21) fun v22 =>
  B.pv (V.toInt .i64 v22) fun v23 =>
  B.pv (V.bin .add v2 v23) fun v24 =>
  Q v24 h) := rfl
theorem Len64_spec {x : Nat} (hx : x ≤ 100000000) {h : AHeap} {Q : AVal → AHeap → Prop} (hq : ∀ r : Nat, r ≤ 32 → (0 < x → 2 ^ r ≤ 2 * x) → Q (.int .i64 (r : Int)) h) : math_bits_Len64.cps C N (.int .u64 (x : Int)) h Q := by
 have fin : ∀ (y s : Nat), y < 256 → s ≤ 24 → (0 < x → 0 < y) → 2 ^ s * y ≤ x → math_bits_Len64.k1 C N Q (.int .u64 (y : Int)) (.int .i64 (s : Int)) h := fun y s hy hs h0 hle => by
  obtain ⟨b, e, hb, hp⟩ := lenTab hy
  have e1 : V.toInt .u8 (.int .u64 (y : Int)) = some (.int .u8 (y : Int)) := by rw [V.toInt_int, wrap_u8]; congr 2; omega
  rw [Len64_k1]
  simp -dsimp only [e1, B.pv_some, e, toIN (show b < 4611686018427387904 by omega), addNN (show s + b < 4611686018427387904 by omega)]
  refine hq (s + b) (by omega) fun hx0 => ?_
  have h1 := hp (h0 hx0)
  have h2 : 2 ^ s * 2 ^ b ≤ 2 ^ s * (2 * y) := Nat.mul_le_mul_left _ h1
  rw [Nat.pow_add]
  have h3 : 2 ^ s * (2 * y) = 2 * (2 ^ s * y) := by rw [Nat.mul_left_comm]
  omega
 have sh : ∀ (y j : Nat), j < 64 → V.bin .shr (.int .u64 (y : Int)) (.int .u64 (j : Int)) = some (.int .u64 ((y / 2 ^ j : Nat) : Int)) := fun y j hj => by
  rw [bin_shr (by omega) (by simp [IntKind.bits]; omega), Int.toNat_natCast]
  congr 2
  rw [Int.fdiv_eq_ediv_of_nonneg _ (by exact_mod_cast Nat.zero_le (2 ^ j))]
  simp
 have g3 : V.bin .geq (.int .u64 (x : Int)) (.int .u64 4294967296) = some (.bool false) := by rw [V.bin_geq]; simp; omega
 have gk : ∀ y m : Nat, V.bin .geq (.int .u64 (y : Int)) (.int .u64 (m : Int)) = some (.bool (decide (m ≤ y))) := fun y m => by rw [V.bin_geq]; congr 3; exact propext (by omega)
 have low : ∀ (y s : Nat), y < 65536 → s ≤ 16 → (0 < x → 0 < y) → 2 ^ s * y ≤ x → math_bits_Len64.k2 C N Q (.int .u64 (y : Int)) (.int .i64 (s : Int)) h := fun y s hy hs h0 hle => by
  have g1 : V.bin .geq (.int .u64 (y : Int)) (.int .u64 256) = some (.bool (decide (256 ≤ y))) := gk y 256
  have s1 : V.bin .shr (.int .u64 (y : Int)) (.int .u64 8) = some (.int .u64 ((y / 2 ^ 8 : Nat) : Int)) := sh y 8 (by omega)
  have a1 : V.bin .add (.int .i64 (s : Int)) (.int .i64 8) = some (.int .i64 ((s + 8 : Nat) : Int)) := addNN (a := s) (b := 8) (by omega)
  simp -dsimp only [math_bits_Len64.k2, g1, B.pv_some]
  refine B.cond_bool (fun hd => ?_) (fun hd => ?_)
  ·rw [decide_eq_true_eq] at hd
   simp -dsimp only [s1, a1, B.pv_some]
   refine fin (y / 2 ^ 8) (s + 8) (by omega) (by omega) (fun _ => by omega) ?_
   rw [Nat.pow_add, Nat.mul_assoc]
   refine Nat.le_trans (Nat.mul_le_mul_left _ ?_) hle
   omega
  ·rw [decide_eq_false_iff_not] at hd
   exact fin y s (by omega) (by omega) h0 hle
 have g2 : V.bin .geq (.int .u64 (x : Int)) (.int .u64 65536) = some (.bool (decide (65536 ≤ x))) := gk x 65536
 have s2 : V.bin .shr (.int .u64 (x : Int)) (.int .u64 16) = some (.int .u64 ((x / 2 ^ 16 : Nat) : Int)) := sh x 16 (by omega)
 simp -dsimp only [math_bits_Len64.cps, math_bits_Len64.k4, math_bits_Len64.k3, g3, g2, s2, B.pv_some, B.cond_false]
 refine B.cond_bool (fun hd => ?_) (fun hd => ?_)
 ·rw [decide_eq_true_eq] at hd
  simp -dsimp only [s2, show V.bin .add (.int .i64 0) (.int .i64 16) = some (.int .i64 ((16 : Nat) : Int)) from rfl, B.pv_some]
  exact low (x / 2 ^ 16) 16 (by omega) (by omega) (fun _ => by omega) (by omega)
 ·rw [decide_eq_false_iff_not] at hd
  exact low x 0 (by omega) (by omega) id (by simp)
theorem Len_spec (i : math_bits_Len64.Imp C N) {x : Nat} (hx : x ≤ 100000000) {h : AHeap} {Q : AVal → AHeap → Prop} (hq : ∀ r : Nat, r ≤ 32 → (0 < x → 2 ^ r ≤ 2 * x) → Q (.int .i64 (r : Int)) h) : math_bits_Len.cps C N (.int .u64 (x : Int)) h Q := by
 simp -dsimp only [math_bits_Len.cps, math_bits_Len.k1, B.cond_false]
 exact i _ _ _ (Len64_spec hx fun r h1 h2 => dn_same (hq r h1 h2))
def LenI (C : CSem) (f : Nat) : Prop := ∀ (x : Nat) (h : AHeap) (Q : AVal → AHeap → Prop), x ≤ 100000000 → (∀ r : Nat, r ≤ 32 → (0 < x → 2 ^ r ≤ 2 * x) → Q (.int .i64 (r : Int)) h) → C f [.int .u64 (x : Int)] h Q
theorem math_bits_Len.spec (i : math_bits_Len.Imp C N) (i2 : math_bits_Len64.Imp C N) : LenI C (N 287) := fun x h Q hx hq => i _ _ _ (Len_spec i2 hx fun r h1 h2 => dn_same (hq r h1 h2))
def PowI (C : CSem) (f : Nat) : Prop := ∀ (n : Nat) (h : AHeap) (Q : AVal → AHeap → Prop), 0 < n → n ≤ 100000000 → (∀ m : Nat, 0 < m → m ≤ 2 * n → Q (.int .u64 (m : Int)) h) → C f [.int .i64 (n : Int)] h Q
theorem slices_nextPowerOfTwo.spec (i : slices_nextPowerOfTwo.Imp C N) (hl : LenI C (N 287)) : PowI C (N 299) := fun n h Q h0 hn hq => by
 apply i
 simp -dsimp only [slices_nextPowerOfTwo.cps, toUN (show n < 18446744073709551616 by omega), B.pv_some]
 refine hl n h _ hn fun r hr hp => ?_
 have e : V.bin .shl (.int .u64 1) (.int .i64 (r : Int)) = some (.int .u64 ((2 ^ r : Nat) : Int)) := by
  rw [bin_shl (by omega) (by simp [IntKind.bits]; omega), Int.toNat_natCast]
  have : (1 : Int) * 2 ^ r = ((2 ^ r : Nat) : Int) := by simp
  rw [this, wrapU]
  have := hp h0
  omega
 simp -dsimp only [e, B.pv_some]
 exact dn_same (hq (2 ^ r) (Nat.pos_of_ne_zero (by simp)) (hp h0))
def NextI (C : CSem) (f : Nat) : Prop := ∀ (h0 h : AHeap) (p : AVal) (n : Int) (Q : AVal → AHeap → Prop), Owns h0 h [.box p [.int .u64 n]] → (∀ m m' h', Owns h0 h' [.box p [.int .u64 m']] → Q (.int .u64 m) h') → C f [p] h Q
theorem slices_xorshift_Next.spec (i : slices_xorshift_Next.Imp C N) : NextI C (N 298) := fun h0 h p n Q ho hq => by
 have key : ∀ {h : AHeap} {n : Int}, Owns h0 h [.box p [.int .u64 n]] → ∃ id, p = .ptr id 0 0 ∧ A.ldv h (.ptr id 0 0) = some (.int .u64 n) := fun {h n} ho => by
  obtain ⟨id, rfl, hb⟩ := ho.boxAt 0 rfl
  exact ⟨id, rfl, by rw [ldv_at hb]; rfl⟩
 apply i
 obtain ⟨id, rfl, ld⟩ := key ho
 simp -dsimp only [slices_xorshift_Next.cps, slices_xorshift_Next.k1, B.nilCheck_ptr, B.ld_eq, ld, B.pv_some, bin_shl (k := .u64) (j := .u64) (b := 13) (by omega) (by simp [IntKind.bits]), V.bin_xor]
 refine ho.boxSt 0 (off := 0) rfl rfl (by simp) fun h1 o1 _ => ?_
 simp only [List.set_cons_zero] at o1
 obtain ⟨id1, e, ld1⟩ := key o1
 cases e
 simp -dsimp only [B.nilCheck_ptr, B.ld_eq, ld1, B.pv_some, bin_shr (k := .u64) (j := .u64) (b := 7) (by omega) (by simp [IntKind.bits]), V.bin_xor]
 refine o1.boxSt 0 (off := 0) rfl rfl (by simp) fun h2 o2 _ => ?_
 simp only [List.set_cons_zero] at o2
 obtain ⟨id2, e, ld2⟩ := key o2
 cases e
 simp -dsimp only [B.nilCheck_ptr, B.ld_eq, ld2, B.pv_some, bin_shl (k := .u64) (j := .u64) (b := 17) (by omega) (by simp [IntKind.bits]), V.bin_xor]
 refine o2.boxSt 0 (off := 0) rfl rfl (by simp) fun h3 o3 _ => ?_
 simp only [List.set_cons_zero] at o3
 obtain ⟨id3, e, ld3⟩ := key o3
 cases e
 simp -dsimp only [B.nilCheck_ptr, B.ld_eq, ld3, B.pv_some]
 exact dn_same (hq _ _ _ o3)
section
variable {E : ElOps} {X : Type} {cs : X → List AVal} {v : X → AVal} {h0 h : AHeap} {x f : AVal} {G : List X} {R : List (List AVal)} {Q : AVal → AHeap → Prop} {a b : Nat}
end
end Go.Ab
namespace Go.Ab
variable {C : CSem}
section
variable {X : Type} {c : X → X → Int} {a b m A0 Z0 : Nat} {G G' : List X}
theorem le_of (W : Weak (lessC c)) {x y z : X} (h1 : ¬ c x y < 0) (h2 : ¬ c y z < 0) : ¬ c x z < 0 := by
 have := W.ntrans (a := x) (b := y) (c := z) (by unfold lessC; exact decide_eq_false h1) (by unfold lessC; exact decide_eq_false h2)
 unfold lessC at this; exact of_decide_eq_false this
theorem nlt_of (W : Weak (lessC c)) {x y : X} (h : c x y < 0) : ¬ c y x < 0 := by
 have := W.asym (a := x) (b := y) (by unfold lessC; exact decide_eq_true h)
 unfold lessC at this; exact of_decide_eq_false this
theorem le_self (W : Weak (lessC c)) (x : X) : ¬ c x x < 0 := by
 have := W.irr x; unfold lessC at this; exact of_decide_eq_false this
theorem Parted.pair (W : Weak (lessC c)) (x : Parted c a b m G) {p q : Nat} (h1 : a ≤ p) (h2 : p < q) (h3 : q < b) (h4 : p ≤ m) (h5 : m ≤ q) (hp : p < G.length) (hq : q < G.length) : ¬ c G[q] G[p] < 0 := by
 have hm : m < G.length := by omega
 have e1 : p < m → ¬ c G[m] G[p] < 0 := fun k => nlt_of W (x.lo p hp hm h1 k)
 have e2 : m < q → ¬ c G[q] G[m] < 0 := fun k => x.hi q hq hm k h3
 by_cases k1 : p = m
 ·subst k1; exact e2 (by omega)
 ·by_cases k2 : q = m
  ·subst k2; exact e1 (by omega)
  ·exact le_of W (e2 (by omega)) (e1 (by omega))
theorem Parted.left (W : Weak (lessC c)) (x : Parted c a b m G) (w : Within a m G G') : Parted c a b m G' := by
 have hl := w.len
 refine ⟨x.ge, x.lt, by have := x.hb; omega, fun k h hm h1 h2 => ?_, fun k h hm h1 h2 => ?_⟩
 ·obtain ⟨k', k1, k2, k3, e⟩ := w.mem h1 h2 h
  rw [e, w.same (k := m) (.inr (by omega)) hm (by omega)]
  exact x.lo k' k3 _ k1 k2
 ·rw [w.same (k := m) (.inr (by omega)) hm (by omega), w.same (k := k) (.inr (by omega)) h (by omega)]
  exact x.hi k _ _ h1 h2
theorem Parted.right (W : Weak (lessC c)) (x : Parted c a b m G) (w : Within (m + 1) b G G') : Parted c a b m G' := by
 have hl := w.len
 refine ⟨x.ge, x.lt, by have := x.hb; omega, fun k h hm h1 h2 => ?_, fun k h hm h1 h2 => ?_⟩
 ·rw [w.same (k := m) (.inl (by omega)) hm (by omega), w.same (k := k) (.inl (by omega)) h (by omega)]
  exact x.lo k _ _ h1 h2
 ·obtain ⟨k', k1, k2, k3, e⟩ := w.mem (k := k) (by omega) h2 h
  rw [e, w.same (k := m) (.inl (by omega)) hm (by omega)]
  exact x.hi k' k3 _ (by omega) k2
theorem Cut.left (W : Weak (lessC c)) (x : Cut c A0 Z0 a b G) (p : Parted c a b m G) (s : Srt c a m G) : Cut c A0 Z0 (m + 1) b G := fun i j h1 h2 h3 h4 h5 h6 => by
 by_cases k : i < a ∨ b ≤ j
 ·exact x i j h1 h2 h3 k h5 h6
 ·by_cases k2 : j < m
  ·exact s i j (by omega) h2 k2 h5 h6
  ·exact p.pair W (by omega) h2 (by omega) (by omega) (by omega) h5 h6
theorem Cut.right (W : Weak (lessC c)) (x : Cut c A0 Z0 a b G) (p : Parted c a b m G) (s : Srt c (m + 1) b G) : Cut c A0 Z0 a m G := fun i j h1 h2 h3 h4 h5 h6 => by
 by_cases k : i < a ∨ b ≤ j
 ·exact x i j h1 h2 h3 k h5 h6
 ·by_cases k2 : m < i
  ·exact s i j (by omega) h2 (by omega) h5 h6
  ·exact p.pair W (by omega) h2 (by omega) (by omega) (by omega) h5 h6
theorem Cut.pre (x : Cut c A0 Z0 a b G) (h : A0 < a) (hb : b ≤ Z0) : Pre c a b G := fun h0 i h1 h2 h3 h4 => x (a - 1) i (by omega) (by omega) (by omega) (.inl (by omega)) h4 h3
theorem Pre.sub (x : Pre c a b G) (h : m ≤ b) : Pre c a m G := fun h0 i h1 h2 h3 h4 => x h0 i h1 (by omega) h3 h4
theorem Cut.equal (W : Weak (lessC c)) {i j : Nat} (x : Cut c A0 Z0 a b G) (p : EInv c a b G i j) (hji : j < i) (ha : 0 < a) (hp : Pre c a b G) (hlt : a < b) (hd : ∀ (h1 : a - 1 < G.length) (h2 : a < G.length), ¬ c G[a - 1] G[a] < 0) : Cut c A0 Z0 i b G := fun s t h1 h2 h3 h4 h5 h6 => by
 have e := p.hij
 have e3 := p.hi
 by_cases k : s < a ∨ b ≤ t
 ·exact x s t h1 h2 h3 k h5 h6
 ·have la : a < G.length := by omega
  have sp : ¬ c G[a] G[s] < 0 := by
   by_cases k3 : s = a
   ·subst k3; exact le_self W _
   ·exact p.lo s h5 la (by omega) (by omega)
  by_cases k2 : t < i
  ·have t1 := hp ha t (by omega) (by omega) h6 (by omega)
   exact le_of W (le_of W t1 (hd (by omega) la)) sp
  ·exact le_of W (nlt_of W (p.hi2 t h6 la (by omega) (by omega))) sp
end
abbrev I5 (F : AVal → AVal → AVal → AVal → AVal → AHeap → (AVal → AHeap → Prop) → Prop) (C : CSem) (n : Nat) : Prop := ∀ (v0 v1 v2 v3 v4 : AVal) (h : AHeap) (Q : AVal → AHeap → Prop), F v0 v1 v2 v3 v4 h (dn Q) → C n [v0, v1, v2, v3, v4] h Q
abbrev I4 (F : AVal → AVal → AVal → AVal → AHeap → (AVal → AHeap → Prop) → Prop) (C : CSem) (n : Nat) : Prop := ∀ (v0 v1 v2 v3 : AVal) (h : AHeap) (Q : AVal → AHeap → Prop), F v0 v1 v2 v3 h (dn Q) → C n [v0, v1, v2, v3] h Q
section
variable {E : ElOps} {X : Type} {cs : X → List AVal} {v : X → AVal} {h0 h : AHeap} {x f : AVal} {G : List X} {R : List (List AVal)} {c : X → X → Int} {Q : AVal → AHeap → Prop} {Y : List AVal → AHeap → Prop} {f1 f2 f3 f4 f5 f6 f7 f8 f9 g1 g2 g3 g4 g5 g6 : Nat}
structure PS (E : ElOps) {X : Type} (cs : X → List AVal) (h0 : AHeap) (x : AVal) (R : List (List AVal)) (c : X → X → Int) (A0 Z0 : Nat) (G0 : List X) (a b : Nat) (G : List X) (h : AHeap) : Prop where
 hA : A0 ≤ a
 hab : a ≤ b
 hB : b ≤ Z0
 W : Within A0 Z0 G0 G
 cut : Cut c A0 Z0 a b G
 pre : Pre c a b G
 o : Rw E cs h0 h x G R
theorem PS.turn {A0 Z0 a b : Nat} {G0 G' : List X} {h' : AHeap} (p : PS E cs h0 x R c A0 Z0 G0 a b G h) (w : Within a b G G') (o : Rw E cs h0 h' x G' R) : PS E cs h0 x R c A0 Z0 G0 a b G' h' :=
 ⟨p.hA, p.hab, p.hB, p.W.trans (w.mono p.hA p.hB), p.cut.within w p.hA p.hB, p.pre.within w, o⟩
abbrev Go1 (E : ElOps) {X : Type} (cs : X → List AVal) (h0 : AHeap) (x : AVal) (R : List (List AVal)) (c : X → X → Int) (A0 Z0 : Nat) (G0 : List X) (n : Nat) (Y : List AVal → AHeap → Prop) : Prop :=
 ∀ a b (lim : Int) w1 w2 G h, b - a < n → PS E cs h0 x R c A0 Z0 G0 a b G h → Y [.int .i64 (a : Int), .int .i64 (b : Int), .int .i64 lim, .bool w1, .bool w2] h
end
end Go.Ab
namespace Go.Ab.Ord
open Go.Ab
structure CmpSpec (C : CSem) {X : Type} (v : X → AVal) (c : X → X → Int) (fL : Nat) (h0 : AHeap) : Prop where
 call : ∀ (h : AHeap) (a b : X) (K : AVal → AHeap → Prop), h0.le h → K (.bool (decide (c a b < 0))) h → B.call C fL [v a, v b] h K
variable {C C0 : CSem} {fL : Nat}
variable {C C0 : CSem} {fL : Nat} {N : Nat → Nat}
section
variable {E : ElOps} {X : Type} {cs : X → List AVal} {v : X → AVal} {h0 h : AHeap} {x : AVal} {G : List X} {R : List (List AVal)}
end
section
variable {E : ElOps} {T : Type} {cs : T → List AVal} {v : T → AVal} {c : T → T → Int} {h0 h : AHeap} {x f : AVal} {R : List (List AVal)} {Q : AVal → AHeap → Prop}
theorem insertionSort_spec (S : SeqSpec E cs v) (W : Weak (lessC c)) {P M U : List (T × Nat)} (hlen : (P ++ (M ++ U)).length ≤ 100000000) (ht : M.Pairwise fun a b => a.2 < b.2)
  (hc : CmpSpec C0 v c fL h0) {a b : Nat} (ha : a = P.length) (hb : b = P.length + M.length) (ho : Rw E (fun p : T × Nat => cs p.1) h0 h x (P ++ (M ++ U)) R)
  (hq : ∀ h' M', M'.Perm M → M'.Pairwise (lt' (lessC c)) → Rw E (fun p : T × Nat => cs p.1) h0 h' x (P ++ (M' ++ U)) R → Q (.tup []) h') :
  slices_insertionSortT.cps C E C0 fL x (.int .i64 (a : Int)) (.int .i64 (b : Int)) f h Q := by
 have S' := S.comp (fun p : T × Nat => p.1)
 subst ha
 have hlen' : P.length + M.length + U.length ≤ 100000000 := by simpa [Nat.add_assoc] using hlen
 simp -dsimp only [slices_insertionSortT.cps, add1 (show P.length < 4611686018427387904 by omega), B.pv_some]
 cases M with
 | nil =>
  intro Y hY
  refine hY _ _ ?_
  simp -dsimp only [slices_insertionSortT.l3, lssN, B.pv_some]
  rw [show decide (P.length + 1 < b) = false by simp at hb ⊢; omega, B.cond_false]
  exact hq h [] (List.Perm.refl _) .nil ho
 | cons m M1 =>
 simp only [List.length_cons] at hlen' hb
 rw [List.pairwise_cons] at ht
 refine LoopR.intro (fun t vs hh => ∃ (i : Nat) (L M2 : List (T × Nat)), t = M2.length ∧ vs = [.int .i64 i] ∧ i = P.length + L.length ∧ i + M2.length = b ∧ Rw E (fun p : T × Nat => cs p.1) h0 hh x (P ++ (L ++ (M2 ++ U))) R ∧
  (L ++ M2).Perm (m :: M1) ∧ L.Pairwise (lt' (lessC c)) ∧ M2.Pairwise (fun a b => a.2 < b.2) ∧ ∀ p ∈ L, ∀ q ∈ M2, p.2 < q.2) M1.length ?_
  ⟨P.length + 1, [m], M1, rfl, rfl, by simp, by omega, by simpa using ho, List.Perm.refl _, List.pairwise_singleton .., ht.2, by simpa using ht.1⟩
 rintro Y t vs hh ⟨i, L, M2, rfl, rfl, hi, hib, o, hp, hs, ht2, htt⟩ hY
 simp -dsimp only [slices_insertionSortT.l3, lssN, B.pv_some]
 cases M2 with
 | nil =>
  rw [show decide (i < b) = false by simp at hib ⊢; omega, B.cond_false]
  rw [List.append_nil] at hp
  exact hq hh L hp hs o
 | cons x0 M2 =>
  simp only [List.length_cons] at hib
  rw [show decide (i < b) = true by simp; omega, B.cond_true]
  rw [List.pairwise_cons] at ht2
  have hll : P.length + (L.length + (M2.length + 1)) = b := by omega
  refine LoopR.intro (fun t vs h2 => ∃ (L1 L2 : List (T × Nat)), t = L1.length ∧ vs = [.int .i64 ((P.length + L1.length : Nat) : Int)] ∧ L = L1 ++ L2 ∧ Rw E (fun p : T × Nat => cs p.1) h0 h2 x (P ++ (L1 ++ x0 :: (L2 ++ (M2 ++ U)))) R ∧
   ∀ q ∈ L2, lt' (lessC c) x0 q) L.length ?_ ⟨L, [], rfl, by rw [hi], by simp, by simpa using o, by simp⟩
  rintro Z t vs h2 ⟨L1, L2, rfl, rfl, rfl, o2, hx⟩ hZ
  rw [List.pairwise_append] at hs
  have fin : (L1 = [] ∨ ∃ L0 y, L1 = L0 ++ [y] ∧ lt' (lessC c) y x0) → Y [.int .i64 ((i + 1 : Nat) : Int)] h2 := fun hz => by
   have hlow : ∀ p ∈ L1, lt' (lessC c) p x0 := by
    rcases hz with rfl | ⟨L0, y, rfl, hy⟩
    ·simp
    ·intro p hpm
     rcases List.mem_append.1 hpm with h1 | h1
     ·exact lt'_trans W ((List.pairwise_append.1 hs.1).2.2 p h1 y (by simp)) hy
     ·rw [List.mem_singleton.1 h1]; exact hy
   refine hY M2.length _ _ (by simp) ⟨i + 1, L1 ++ x0 :: L2, M2, rfl, rfl, by simp at hi ⊢; omega, by omega, by simpa using o2, ?_, ?_, ht2.2, ?_⟩
   ·refine List.Perm.trans ?_ hp
    simp only [List.append_assoc, List.cons_append]
    refine List.Perm.append_left _ ?_
    exact (List.perm_middle (l₁ := L2) (l₂ := M2) (a := x0)).symm
   ·rw [List.pairwise_append, List.pairwise_cons]
    refine ⟨hs.1, ⟨hx, hs.2.1⟩, fun p h1 q h2 => ?_⟩
    rcases List.mem_cons.1 h2 with rfl | h2
    ·exact hlow p h1
    ·exact hs.2.2 p h1 q h2
   ·intro p h1 q h2
    rcases List.mem_append.1 h1 with h1 | h1
    ·exact htt p (List.mem_append_left _ h1) q (List.mem_cons_of_mem _ h2)
    ·rcases List.mem_cons.1 h1 with rfl | h1
     ·exact ht2.1 q h2
     ·exact htt p (List.mem_append_right _ h1) q (List.mem_cons_of_mem _ h2)
  have hll2 : i = P.length + (L1.length + L2.length) := by simpa using hi
  simp -dsimp only [slices_insertionSortT.l2, slices_insertionSortT.k1, gtrN, B.pv_some]
  obtain rfl | ⟨L0, y, rfl⟩ := nil_or_snoc L1
  ·simp -dsimp [add1 (show i < 4611686018427387904 by omega)]
   exact fin (.inl rfl)
  ·have hyx : y.2 < x0.2 := htt y (by simp) x0 (by simp)
   have o2' := o2
   simp only [List.append_assoc, List.cons_append, List.nil_append] at o2'
   simp only [List.length_append, List.length_singleton] at hll2 hlen' hll
   have hj : P.length + (L0 ++ [y]).length = P.length + L0.length + 1 := by simp [Nat.add_assoc]
   rw [show decide (P.length < P.length + (L0 ++ [y]).length) = true by simp]
   rw [hj]
   simp -dsimp only [B.gd_t, B.gdb_pure, B.gdb_true, gv_true, sub1 (show 1 ≤ P.length + L0.length + 1 by omega) (by omega), Nat.add_sub_cancel, o2.idx (i := P.length + L0.length + 1) (by simp; omega), o2.idx (i := P.length + L0.length) (by simp), B.pv_some]
   have o3 : Rw E (fun p : T × Nat => cs p.1) h0 h2 x ((P ++ L0) ++ y :: ([] ++ x0 :: (L2 ++ (M2 ++ U)))) R := by simpa using o2
   have gy : ((P ++ L0) ++ y :: ([] ++ x0 :: (L2 ++ (M2 ++ U))))[P.length + L0.length]? = some y := get_mid (by simp)
   have gx : ((P ++ L0) ++ y :: ([] ++ x0 :: (L2 ++ (M2 ++ U))))[P.length + L0.length + 1]? = some x0 := get_mid2 (by simp)
   refine o3.ld S' gx ?_
   refine o3.ld S' gy ?_
   refine hc.call _ _ _ _ o2.le ?_
   simp -dsimp only [B.gd_t, B.gdb_pure, B.gdb_true, gv_true, V.bin_lss, B.pv_some, B.pick_t]
   refine B.cond_bool (fun hb2 => ?_) (fun hb2 => ?_)
   ·simp -dsimp only [sub1 (show 1 ≤ P.length + L0.length + 1 by omega) (by omega), Nat.add_sub_cancel, o2.idx (i := P.length + L0.length + 1) (by simp; omega), o2.idx (i := P.length + L0.length) (by simp), B.pv_some]
    refine o3.ld S' gy ?_
    refine o3.ld S' gx ?_
    refine o3.swapDn S' (by simp) (by simp) fun h4 o4 => ?_
    refine hZ L0.length _ _ (by simp) ⟨L0, y :: L2, rfl, rfl, by simp, by simpa using o4, ?_⟩
    intro q hq2
    rcases List.mem_cons.1 hq2 with rfl | hq2
    ·exact (lt'_gt hyx).2 hb2
    ·exact hx q hq2
   ·simp -dsimp only [add1 (show i < 4611686018427387904 by omega), B.pv_some]
    exact fin (.inr ⟨L0, y, rfl, (lt'_le W hyx).2 hb2⟩)
end
section
variable {E : ElOps} {X : Type} {cs : X → List AVal} {v : X → AVal} {h0 h : AHeap} {x f : AVal} {G : List X} {R : List (List AVal)} {c : X → X → Int}
theorem order2_spec (S : SeqSpec E cs v) (hx : SlX h0 E.es x (G.map cs) R) (hc : CmpSpec C0 v c fL h0) {p : AVal} {n : Int} (ho : Owns h0 h [.box p [.int .i64 n]]) {i j : Nat} (hi : i < G.length) (hj : j < G.length) {Q : AVal → AHeap → Prop}
  (hq : ∀ (i' j' : Nat) (n' : Int) h', (i' = i ∨ i' = j) → (j' = i ∨ j' = j) → Owns h0 h' [.box p [.int .i64 n']] → Q (.tup [.int .i64 (i' : Int), .int .i64 (j' : Int)]) h') : slices_order2T.cps C E C0 fL x (.int .i64 (i : Int)) (.int .i64 (j : Int)) p f h Q := by
 have hxx := hx.mono ho.le
 have ii : V.idxS E.es x (.int .i64 (i : Int)) = some (elp E.es x i 0) := hxx.idxN (by simpa using hi)
 have ij : V.idxS E.es x (.int .i64 (j : Int)) = some (elp E.es x j 0) := hxx.idxN (by simpa using hj)
 have gi : (G.map cs)[i]? = some (cs G[i]) := by rw [List.getElem?_map, List.getElem?_eq_getElem hi]; rfl
 have gj : (G.map cs)[j]? = some (cs G[j]) := by rw [List.getElem?_map, List.getElem?_eq_getElem hj]; rfl
 obtain ⟨id, rfl, hb⟩ := ho.boxAt 0 rfl
 have ld : A.ldv h (.ptr id 0 0) = some (.int .i64 n) := by rw [ldv_at hb]; rfl
 simp -dsimp only [slices_order2T.cps, slices_order2T.k1, ij, B.pv_some]
 refine S.ld hxx gj ?_
 simp -dsimp only [ii, B.pv_some]
 refine S.ld hxx gi ?_
 refine hc.call _ _ _ _ ho.le ?_
 refine B.cond_bool (fun hd => ?_) (fun hd => ?_)
 ·simp -dsimp only [B.nilCheck_ptr, B.ld_eq, ld, V.bin_add, B.pv_some]
  refine ho.boxSt 0 (off := 0) rfl rfl (by simp) fun h2 o2 _ => ?_
  exact hq j i _ h2 (.inr rfl) (.inl rfl) (by simpa using o2)
 ·exact hq i j n h (.inl rfl) (.inr rfl) ho
abbrev O2I (C : CSem) (E : ElOps) (C0 : CSem) (fL : Nat) (f1 : Nat) : Prop := ∀ (v0 v1 v2 v3 v4 : AVal) (h : AHeap) (Q : AVal → AHeap → Prop), slices_order2T.cps C E C0 fL v0 v1 v2 v3 v4 h (dn Q) → C f1 [v0, v1, v2, v3, v4] h Q
abbrev MedI (C : CSem) (E : ElOps) (C0 : CSem) (fL : Nat) (f1 f2 : Nat) : Prop := ∀ (v0 v1 v2 v3 v4 v5 : AVal) (h : AHeap) (Q : AVal → AHeap → Prop), slices_medianT.cps C E C0 fL f1 v0 v1 v2 v3 v4 v5 h (dn Q) → C f2 [v0, v1, v2, v3, v4, v5] h Q
abbrev AdjI (C : CSem) (E : ElOps) (C0 : CSem) (fL : Nat) (f2 f3 : Nat) : Prop := ∀ (v0 v1 v2 v3 : AVal) (h : AHeap) (Q : AVal → AHeap → Prop), slices_medianAdjacentT.cps C E C0 fL f2 v0 v1 v2 v3 h (dn Q) → C f3 [v0, v1, v2, v3] h Q
theorem median_spec {f1 : Nat} (io : O2I C E C0 fL f1) (S : SeqSpec E cs v) (hx : SlX h0 E.es x (G.map cs) R) (hc : CmpSpec C0 v c fL h0) {p : AVal} {n : Int} (ho : Owns h0 h [.box p [.int .i64 n]]) {i j k : Nat} (hi : i < G.length) (hj : j < G.length) (hk : k < G.length) {Q : AVal → AHeap → Prop}
  (hq : ∀ (m : Nat) (n' : Int) h', (m = i ∨ m = j ∨ m = k) → Owns h0 h' [.box p [.int .i64 n']] → Q (.int .i64 (m : Int)) h') : slices_medianT.cps C E C0 fL f1 x (.int .i64 (i : Int)) (.int .i64 (j : Int)) (.int .i64 (k : Int)) p f h Q := by
 simp -dsimp only [slices_medianT.cps, slices_medianT.k1]
 refine io _ _ _ _ _ _ _ (order2_spec S hx hc ho hi hj fun a b n1 h1 ha hb o1 => dn_same ?_)
 simp -dsimp only [V.ext_tup, List.getElem?_cons_zero, List.getElem?_cons_succ, B.pv_some]
 have la : a < G.length := by rcases ha with rfl | rfl <;> assumption
 have lb : b < G.length := by rcases hb with rfl | rfl <;> assumption
 refine io _ _ _ _ _ _ _ (order2_spec S hx hc o1 lb hk fun a2 b2 n2 h2 ha2 hb2 o2 => dn_same ?_)
 simp -dsimp only [V.ext_tup, List.getElem?_cons_zero, List.getElem?_cons_succ, B.pv_some]
 have la2 : a2 < G.length := by rcases ha2 with rfl | rfl <;> assumption
 refine io _ _ _ _ _ _ _ (order2_spec S hx hc o2 la la2 fun a3 b3 n3 h3 ha3 hb3 o3 => dn_same ?_)
 simp -dsimp only [V.ext_tup, List.getElem?_cons_zero, List.getElem?_cons_succ, B.pv_some]
 refine hq b3 n3 h3 ?_ o3
 omega
theorem medianAdjacent_spec {f1 f2 : Nat} (io : O2I C E C0 fL f1) (im : MedI C E C0 fL f1 f2) (S : SeqSpec E cs v) (hx : SlX h0 E.es x (G.map cs) R) (hc : CmpSpec C0 v c fL h0) {p : AVal} {n : Int} (ho : Owns h0 h [.box p [.int .i64 n]]) {i : Nat} (hi : 0 < i) (hi2 : i + 1 < G.length) (hl : G.length < 4611686018427387904) {Q : AVal → AHeap → Prop}
  (hq : ∀ (m : Nat) (n' : Int) h', i - 1 ≤ m → m ≤ i + 1 → Owns h0 h' [.box p [.int .i64 n']] → Q (.int .i64 (m : Int)) h') : slices_medianAdjacentT.cps C E C0 fL f2 x (.int .i64 (i : Int)) p f h Q := by
 have e1 : V.bin .sub (.int .i64 (i : Int)) (.int .i64 1) = some (.int .i64 ((i - 1 : Nat) : Int)) := by
  rw [V.bin_sub, wrap_i64 (by omega) (by omega)]; congr 2; omega
 simp -dsimp only [slices_medianAdjacentT.cps, slices_medianAdjacentT.k1, e1, add1 (show i < 4611686018427387904 by omega), B.pv_some]
 exact im _ _ _ _ _ _ _ _ (median_spec io S hx hc ho (by omega) (by omega) hi2 fun m n' h' hm o' => dn_same (hq m n' h' (by omega) (by omega) o'))
theorem reverseRange_spec (S : SeqSpec E cs v) (hl : G.length < 4611686018427387904) (ho : Rw E cs h0 h x G R) {a b : Nat} (hab : a < b) (hb : b ≤ G.length) {Q : AVal → AHeap → Prop} (hq : ∀ h' G', Within a b G G' → Rw E cs h0 h' x G' R → Q (.tup []) h') :
  slices_reverseRangeT.cps C E C0 fL x (.int .i64 (a : Int)) (.int .i64 (b : Int)) f h Q := by
 have e1 : V.bin .sub (.int .i64 (b : Int)) (.int .i64 1) = some (.int .i64 ((b - 1 : Nat) : Int)) := by
  rw [V.bin_sub, wrap_i64 (by omega) (by omega)]; congr 2; omega
 simp -dsimp only [slices_reverseRangeT.cps, e1, B.pv_some]
 refine LoopR.intro (fun t vs hh => ∃ (i j : Nat) (G' : List X), t = j ∧ vs = [.int .i64 (i : Int), .int .i64 (j : Int)] ∧ a ≤ i ∧ j < b ∧ Within a b G G' ∧ Rw E cs h0 hh x G' R) (b - 1) ?_ ⟨a, b - 1, G, rfl, rfl, Nat.le_refl _, by omega, Within.refl _ _ _, ho⟩
 rintro Y j vs hh ⟨i, _, G', rfl, rfl, hi, hj, W, o⟩ hY
 simp -dsimp only [slices_reverseRangeT.l2, slices_reverseRangeT.k1, lssN, B.pv_some]
 have hlen := W.len
 refine B.cond_bool (fun hc => ?_) (fun hc => hq hh G' W o)
 rw [decide_eq_true_eq] at hc
 have li : i < G'.length := by omega
 have lj : j < G'.length := by omega
 simp -dsimp only [o.idx lj, B.pv_some]
 refine o.ld S (List.getElem?_eq_getElem lj) ?_
 simp -dsimp only [o.idx li, B.pv_some]
 refine o.ld S (List.getElem?_eq_getElem li) ?_
 have ij := o.idx lj
 refine o.st S (t := G'[j]) li fun h1 o1 => ?_
 simp -dsimp only [ij, B.pv_some]
 refine o1.st S (t := G'[i]) (by simpa using lj) fun h2 o2 => ?_
 have e2 : V.bin .sub (.int .i64 (j : Int)) (.int .i64 1) = some (.int .i64 ((j - 1 : Nat) : Int)) := by
  rw [V.bin_sub, wrap_i64 (by omega) (by omega)]; congr 2; omega
 simp -dsimp only [add1 (show i < 4611686018427387904 by omega), e2, B.pv_some]
 exact hY (j - 1) _ _ (by omega) ⟨i + 1, j - 1, _, rfl, rfl, by omega, by omega, W.trans (swp_within li lj hi (by omega) (by omega) hj), o2⟩
theorem choosePivot_spec {f1 f2 f3 : Nat} (io : O2I C E C0 fL f1) (im : MedI C E C0 fL f1 f2) (ia : AdjI C E C0 fL f2 f3) (S : SeqSpec E cs v) (hx : SlX h E.es x (G.map cs) R) (h0le : h0.le h) (hc : CmpSpec C0 v c fL h0) (hl : G.length ≤ 100000000) {a b : Nat} (hab : a + 8 ≤ b) (hb : b ≤ G.length) {Q : AVal → AHeap → Prop}
  (hq : ∀ (m : Nat) (hint : Int) h', a ≤ m → m < b → h.le h' → Q (.tup [.int .i64 (m : Int), .int .i64 hint]) h') : slices_choosePivotT.cps C E C0 fL f2 f3 x (.int .i64 (a : Int)) (.int .i64 (b : Int)) f h Q := by
 have e1 := subNN (a := b) (b := a) (by omega) (by omega)
 simp -dsimp only [slices_choosePivotT.cps, e1, B.pv_some]
 intro id hid
 have o := (Owns.start h).newBox hid [.int .i64 0]
 simp only [List.nil_append] at o
 have q4 := quo4 (a := b - a) (by omega)
 have m1 := mulN (a := (b - a) / 4) (b := 1) (by omega)
 have m2 := mulN (a := (b - a) / 4) (b := 2) (by omega)
 have m3 := mulN (a := (b - a) / 4) (b := 3) (by omega)
 have a1 := addNN (a := a) (b := (b - a) / 4 * 1) (by omega)
 have a2 := addNN (a := a) (b := (b - a) / 4 * 2) (by omega)
 have a3 := addNN (a := a) (b := (b - a) / 4 * 3) (by omega)
 have g8 : V.bin .geq (.int .i64 ((b - a : Nat) : Int)) (.int .i64 8) = some (.bool true) := by rw [V.bin_geq, decide_eq_true (by omega)]
 have hc' : CmpSpec C0 v c fL h := ⟨fun h2 s t K hle hk => hc.call h2 s t K (AHeap.le_trans h0le hle) hk⟩
 simp -dsimp only [slices_choosePivotT.k6, slices_choosePivotT.k5, slices_choosePivotT.k4, slices_choosePivotT.k3, q4, B.pv_some]
 have m1' : V.bin .mul (.int .i64 (((b - a) / 4 : Nat) : Int)) (.int .i64 1) = some (.int .i64 (((b - a) / 4 * 1 : Nat) : Int)) := m1
 have m2' : V.bin .mul (.int .i64 (((b - a) / 4 : Nat) : Int)) (.int .i64 2) = some (.int .i64 (((b - a) / 4 * 2 : Nat) : Int)) := m2
 have m3' : V.bin .mul (.int .i64 (((b - a) / 4 : Nat) : Int)) (.int .i64 3) = some (.int .i64 (((b - a) / 4 * 3 : Nat) : Int)) := m3
 simp -dsimp only [q4, m1', m2', m3', a1, a2, a3, g8, B.cond_true, slices_choosePivotT.k5, slices_choosePivotT.k4, slices_choosePivotT.k3, slices_choosePivotT.k2, B.pv_some]
 have fin : ∀ (m : Nat) (n' : Int) h', a ≤ m → m < b → Owns h h' [.box (.ptr id 0 0) [.int .i64 n']] → slices_choosePivotT.k1 C E C0 fL f2 f3 Q (.ptr id 0 0) (.int .i64 (m : Int)) h' := fun m n' h' k1 k2 o' => by
  obtain ⟨id', e, hb'⟩ := o'.boxAt 0 rfl
  cases e
  have ld : A.ldv h' (.ptr id 0 0) = some (.int .i64 n') := by rw [ldv_at hb']; rfl
  simp -dsimp only [slices_choosePivotT.k1, B.ld_eq, ld, V.bin_eql, B.pv_some]
  refine B.cond_bool (fun _ => hq m _ h' k1 k2 o'.le) (fun _ => ?_)
  refine B.cond_bool (fun _ => hq m _ h' k1 k2 o'.le) (fun _ => hq m _ h' k1 k2 o'.le)
 have g50 : V.bin .geq (.int .i64 ((b - a : Nat) : Int)) (.int .i64 50) = some (.bool (decide (50 ≤ b - a))) := geqN (b := 50)
 simp -dsimp only [g50, B.pv_some]
 refine B.cond_bool (fun hd => ?_) (fun hd => ?_)
 ·rw [decide_eq_true_eq] at hd
  refine ia _ _ _ _ _ _ (medianAdjacent_spec io im S hx hc' o (by omega) (by omega) (by omega) fun i n1 h1 i1 i2 o1 => dn_same ?_)
  refine ia _ _ _ _ _ _ (medianAdjacent_spec io im S hx hc' o1 (by omega) (by omega) (by omega) fun j n2 h2 j1 j2 o2 => dn_same ?_)
  refine ia _ _ _ _ _ _ (medianAdjacent_spec io im S hx hc' o2 (by omega) (by omega) (by omega) fun k n3 h3 k1 k2 o3 => dn_same ?_)
  refine im _ _ _ _ _ _ _ _ (median_spec io S hx hc' o3 (by omega) (by omega) (by omega) fun m n4 h4 hm o4 => dn_same ?_)
  exact fin m n4 h4 (by omega) (by omega) o4
 ·refine im _ _ _ _ _ _ _ _ (median_spec io S hx hc' o (by omega) (by omega) (by omega) fun m n4 h4 hm o4 => dn_same ?_)
  exact fin m n4 h4 (by omega) (by omega) o4
end
section
variable {E : ElOps} {X : Type} {cs : X → List AVal} {v : X → AVal} {h0 h : AHeap} {x f : AVal} {G : List X} {R : List (List AVal)} {c : X → X → Int} {Q : AVal → AHeap → Prop} {Y1 : List AVal → AHeap → Prop} {a b i j : Nat}
theorem part_j (S : SeqSpec E cs v) (hc : CmpSpec C0 v c fL h0) (ho : Rw E cs h0 h x G R) (hl : G.length < 4611686018427387904) (hab : a < b) (p : PInv c a b G i j) (hi0 : j < i ∨ ∀ (h1 : i < G.length) (h2 : a < G.length), ¬ c G[i] G[a] < 0)
  (done : ∀ h' j', PInv c a b G i j' → j' < i → Rw E cs h0 h' x G R → slices_partitionT.k1 C E C0 fL Q x (.int .i64 (a : Int)) (.int .i64 (j' : Int)) h')
  (next : ∀ h' j' (hi : i < G.length) (hj : j' < G.length) , PInv c a b (swp G i j' hi hj) (i + 1) (j' - 1) → i < j' → j' < b → Rw E cs h0 h' x (swp G i j' hi hj) R → Y1 [.int .i64 ((i + 1 : Nat) : Int), .int .i64 ((j' - 1 : Nat) : Int)] h') :
  LoopR (slices_partitionT.l4 C E C0 fL Q Y1 x (.int .i64 (a : Int)) f (.int .i64 (i : Int))) [.int .i64 (j : Int)] h := by
 refine LoopR.intro (fun t vs hh => hh = h ∧ ∃ j' : Nat, t = j' ∧ vs = [.int .i64 (j' : Int)] ∧ PInv c a b G i j' ∧ (j' < i ∨ ∀ (h1 : i < G.length) (h2 : a < G.length), ¬ c G[i] G[a] < 0)) j ?_ ⟨rfl, j, rfl, rfl, p, hi0⟩
 rintro Y j' vs hh ⟨rfl, _, rfl, rfl, p, hi0⟩ hY
 have k1 := p.hi; have k2 := p.hij; have k3 := p.hj; have k4 := p.hb
 have la : a < G.length := by omega
 have lj : j' < G.length := by omega
 simp -dsimp only [slices_partitionT.l4, slices_partitionT.k3, leqN, B.pv_some]
 by_cases hle : i ≤ j'
 ·have li : i < G.length := by omega
  simp -dsimp only [hle, decide_true, B.gd_t, B.gdb_true, ho.idx lj, ho.idx la, B.pv_some]
  refine ho.ld S (List.getElem?_eq_getElem lj) ?_
  refine ho.ld S (List.getElem?_eq_getElem la) ?_
  refine hc.call _ _ _ _ ho.le ?_
  simp -dsimp only [hle, decide_true, B.gd_t, B.gdb_true, V.bin_lss, V.un_not, B.pick_t, B.pv_some]
  refine B.cond_bool (fun hd => ?_) (fun hd => ?_)
  ·have hd' : ¬ c G[j'] G[a] < 0 := by simpa using hd
   have e1 := subNN (a := j') (b := 1) (by omega) (by omega)
   have e1' : V.bin .sub (.int .i64 (j' : Int)) (.int .i64 1) = some (.int .i64 ((j' - 1 : Nat) : Int)) := e1
   simp -dsimp only [e1', B.pv_some]
   refine hY (j' - 1) _ _ (by omega) ⟨rfl, j' - 1, rfl, rfl, ⟨k4, k1, by omega, by omega, p.lo, fun k hk ha q1 q2 => ?_⟩, ?_⟩
   ·by_cases e : k = j'
    ·subst e; exact hd'
    ·exact p.hi2 k hk ha (by omega) q2
   ·rcases hi0 with h | h
    ·omega
    ·exact .inr h
  ·have hd' : c G[j'] G[a] < 0 := by simpa using hd
   have hni : ¬ c G[i] G[a] < 0 := by
    rcases hi0 with h | h
    ·omega
    ·exact h li la
   simp -dsimp only [slices_partitionT.k2, gtrN, show ¬ j' < i by omega, decide_false, B.cond_false, ho.idx lj, ho.idx li, B.pv_some]
   refine ho.ld S (List.getElem?_eq_getElem lj) ?_
   refine ho.ld S (List.getElem?_eq_getElem li) ?_
   refine ho.st S (t := G[j']) li fun h1 o1 => ?_
   refine o1.st S (t := G[i]) (by simpa using lj) fun h2 o2 => ?_
   have e1' : V.bin .sub (.int .i64 (j' : Int)) (.int .i64 1) = some (.int .i64 ((j' - 1 : Nat) : Int)) := subNN (a := j') (b := 1) (by omega) (by omega)
   simp -dsimp only [add1 (show i < 4611686018427387904 by omega), e1', B.pv_some]
   have hne : i ≠ j' := fun e => by subst e; exact hni hd'
   exact next h2 j' li lj (p.swap hle li lj la hni hd') (by omega) k3 o2
 ·simp -dsimp only [hle, decide_false, B.gd_t, B.gdb_false, B.pick_f, B.cond_false, slices_partitionT.k2, gtrN, show j' < i by omega, decide_true, B.cond_true, B.pv_some]
  exact done hh j' p (by omega) ho
theorem part_i (S : SeqSpec E cs v) (hc : CmpSpec C0 v c fL h0) (ho : Rw E cs h0 h x G R) (hl : G.length < 4611686018427387904) (hab : a < b) (p : PInv c a b G i j)
  (done : ∀ h' i' j', PInv c a b G i' j' → j' < i' → Rw E cs h0 h' x G R → slices_partitionT.k1 C E C0 fL Q x (.int .i64 (a : Int)) (.int .i64 (j' : Int)) h')
  (next : ∀ h' i' j' (hi : i' < G.length) (hj : j' < G.length), PInv c a b (swp G i' j' hi hj) (i' + 1) (j' - 1) → a < i' → i ≤ i' → i' < j' → j' < b → Rw E cs h0 h' x (swp G i' j' hi hj) R → Y1 [.int .i64 ((i' + 1 : Nat) : Int), .int .i64 ((j' - 1 : Nat) : Int)] h') :
  LoopR (slices_partitionT.l6 C E C0 fL Q Y1 x (.int .i64 (a : Int)) f (.int .i64 (j : Int))) [.int .i64 (i : Int)] h := by
 refine LoopR.intro (fun t vs hh => hh = h ∧ ∃ i' : Nat, i' + t = b ∧ i ≤ i' ∧ vs = [.int .i64 (i' : Int)] ∧ PInv c a b G i' j) (b - i) ?_ ⟨rfl, i, by have := p.hij; have := p.hj; omega, Nat.le_refl _, rfl, p⟩
 rintro Y t vs hh ⟨rfl, i', hit, hii, rfl, p⟩ hY
 have k1 := p.hi; have k2 := p.hij; have k3 := p.hj; have k4 := p.hb
 have la : a < G.length := by omega
 simp -dsimp only [slices_partitionT.l6, slices_partitionT.k5, leqN, B.pv_some]
 by_cases hle : i' ≤ j
 ·have li : i' < G.length := by omega
  simp -dsimp only [hle, decide_true, B.gd_t, B.gdb_true, ho.idx li, ho.idx la, B.pv_some]
  refine ho.ld S (List.getElem?_eq_getElem li) ?_
  refine ho.ld S (List.getElem?_eq_getElem la) ?_
  refine hc.call _ _ _ _ ho.le ?_
  simp -dsimp only [hle, decide_true, B.gd_t, B.gdb_true, V.bin_lss, B.pick_t, B.pv_some]
  refine B.cond_bool (fun hd => ?_) (fun hd => ?_)
  ·have hd' : c G[i'] G[a] < 0 := by simpa using hd
   simp -dsimp only [add1 (show i' < 4611686018427387904 by omega), B.pv_some]
   refine hY (b - (i' + 1)) _ _ (by omega) ⟨rfl, i' + 1, by omega, by omega, rfl, ⟨k4, by omega, k3, by omega, fun k hk ha q1 q2 => ?_, p.hi2⟩⟩
   by_cases e : k = i'
   ·subst e; exact hd'
   ·exact p.lo k hk ha q1 (by omega)
  ·have hd' : ¬ c G[i'] G[a] < 0 := by simpa using hd
   exact part_j S hc ho hl hab p (.inr fun _ _ => hd') (fun h' j' p' hlt o' => done h' i' j' p' hlt o') fun h' j' hi hj p' h1 h2 o' => next h' i' j' hi hj p' k1 hii h1 h2 o'
 ·simp -dsimp only [hle, decide_false, B.gd_t, B.gdb_false, B.pick_f, B.cond_false]
  exact part_j S hc ho hl hab p (.inl (by omega)) (fun h' j' p' hlt o' => done h' i' j' p' hlt o') fun h' j' hi hj p' h1 h2 o' => next h' i' j' hi hj p' k1 hii h1 h2 o'
theorem part_end (S : SeqSpec E cs v) (ho : Rw E cs h0 h x G R) (hab : a < b) (p : PInv c a b G i j) (hlt : j < i) (hq : ∀ h' m G', Parted c a b m G' → Within a b G G' → Rw E cs h0 h' x G' R → Q (.tup [.int .i64 (m : Int), .bool false]) h') :
  slices_partitionT.k1 C E C0 fL Q x (.int .i64 (a : Int)) (.int .i64 (j : Int)) h := by
 have k1 := p.hi; have k2 := p.hij; have k3 := p.hj; have k4 := p.hb
 have la : a < G.length := by omega
 have lj : j < G.length := by omega
 simp -dsimp only [slices_partitionT.k1, ho.idx lj, ho.idx la, B.pv_some]
 refine ho.ld S (List.getElem?_eq_getElem la) ?_
 refine ho.ld S (List.getElem?_eq_getElem lj) ?_
 refine ho.st S (t := G[a]) lj fun h1 o1 => ?_
 refine o1.st S (t := G[j]) (by simpa using la) fun h2 o2 => ?_
 exact hq h2 j _ (p.done hab hlt lj la) (swp_within lj la (by omega) k3 (Nat.le_refl _) hab) o2
theorem part_main (S : SeqSpec E cs v) (hc : CmpSpec C0 v c fL h0) (ho : Rw E cs h0 h x G R) (hl : G.length < 4611686018427387904) (hab : a < b) (p : PInv c a b G i j)
  (hq : ∀ h' m G', Parted c a b m G' → Within a b G G' → Rw E cs h0 h' x G' R → Q (.tup [.int .i64 (m : Int), .bool false]) h') :
  LoopR (slices_partitionT.l7 C E C0 fL Q x (.int .i64 (a : Int)) f) [.int .i64 (i : Int), .int .i64 (j : Int)] h := by
 refine LoopR.intro (fun t vs hh => ∃ (i' j' : Nat) (G' : List X), i' + t = b ∧ vs = [.int .i64 (i' : Int), .int .i64 (j' : Int)] ∧ Within a b G G' ∧ PInv c a b G' i' j' ∧ Rw E cs h0 hh x G' R) (b - i) ?_ ⟨i, j, G, by have := p.hij; have := p.hj; omega, rfl, Within.refl _ _ _, p, ho⟩
 rintro Y t vs hh ⟨i', j', G', hit, rfl, W, p, o⟩ hY
 have hlen := W.len
 simp -dsimp only [slices_partitionT.l7]
 refine part_i S hc o (by omega) hab p (fun h' i2 j2 p2 hlt o2 => part_end S o2 hab p2 hlt fun h3 m G3 P3 W3 o3 => hq h3 m G3 P3 (W.trans W3) o3) fun h' i2 j2 hi hj p2 h1 h2 h3 h4 o2 => ?_
 exact hY (b - (i2 + 1)) _ _ (by omega) ⟨i2 + 1, j2 - 1, _, by omega, rfl, W.trans (swp_within hi hj (by omega) (by omega) (by omega) h4), p2, o2⟩
end
section
variable {E : ElOps} {X : Type} {cs : X → List AVal} {v : X → AVal} {h0 h : AHeap} {x f : AVal} {G : List X} {R : List (List AVal)} {c : X → X → Int} {Q : AVal → AHeap → Prop} {a b i j : Nat}
theorem part_k10 (S : SeqSpec E cs v) (hc : CmpSpec C0 v c fL h0) (ho : Rw E cs h0 h x G R) (hl : G.length < 4611686018427387904) (hab : a < b) (p : PInv c a b G i j)
  (hd : j < i ∨ ∃ (h1 : i < G.length) (h2 : a < G.length) (h3 : j < G.length), i ≤ j ∧ ¬ c G[i] G[a] < 0 ∧ c G[j] G[a] < 0) (hq : PartQ E cs h0 x c a b R G Q) :
  slices_partitionT.k10 C E C0 fL Q x (.int .i64 (a : Int)) f (.int .i64 (i : Int)) (.int .i64 (j : Int)) h := by
 have k1 := p.hi; have k2 := p.hij; have k3 := p.hj; have k4 := p.hb
 have la : a < G.length := by omega
 have lj : j < G.length := by omega
 rcases hd with hlt | ⟨li, _, _, hle, n1, n2⟩
 ·simp -dsimp only [slices_partitionT.k10, gtrN, hlt, decide_true, B.cond_true, ho.idx lj, ho.idx la, B.pv_some]
  refine ho.ld S (List.getElem?_eq_getElem la) ?_
  refine ho.ld S (List.getElem?_eq_getElem lj) ?_
  refine ho.st S (t := G[a]) lj fun h1 o1 => ?_
  refine o1.st S (t := G[j]) (by simpa using la) fun h2 o2 => ?_
  exact hq h2 j _ true (p.done hab hlt lj la) (swp_within lj la (by omega) k3 (Nat.le_refl _) hab) o2
 ·simp -dsimp only [slices_partitionT.k10, slices_partitionT.k9, gtrN, show ¬ j < i by omega, decide_false, B.cond_false, ho.idx lj, ho.idx li, B.pv_some]
  refine ho.ld S (List.getElem?_eq_getElem lj) ?_
  refine ho.ld S (List.getElem?_eq_getElem li) ?_
  refine ho.st S (t := G[j]) li fun h1 o1 => ?_
  refine o1.st S (t := G[i]) (by simpa using lj) fun h2 o2 => ?_
  have hne : i ≠ j := fun e => by subst e; exact n1 n2
  have e1' : V.bin .sub (.int .i64 (j : Int)) (.int .i64 1) = some (.int .i64 ((j - 1 : Nat) : Int)) := subNN (a := j) (b := 1) (by omega) (by omega)
  simp -dsimp only [slices_partitionT.k8, add1 (show i < 4611686018427387904 by omega), e1', B.pv_some]
  have W := swp_within li lj (by omega) (by omega) (by omega : a ≤ j) k3
  exact part_main S hc (G := swp G i j li lj) o2 (by rw [swp_len li lj]; omega) hab (p.swap hle li lj la n1 n2) fun h' m G' P' W' o' => hq h' m G' false P' (W.trans W') o'
theorem part_j1 (S : SeqSpec E cs v) (hc : CmpSpec C0 v c fL h0) (ho : Rw E cs h0 h x G R) (hl : G.length < 4611686018427387904) (hab : a < b) (p : PInv c a b G i j) (hi0 : j < i ∨ ∀ (h1 : i < G.length) (h2 : a < G.length), ¬ c G[i] G[a] < 0) (hq : PartQ E cs h0 x c a b R G Q) :
  LoopR (slices_partitionT.l12 C E C0 fL Q x (.int .i64 (a : Int)) f (.int .i64 (i : Int))) [.int .i64 (j : Int)] h := by
 refine LoopR.intro (fun t vs hh => hh = h ∧ ∃ j' : Nat, t = j' ∧ vs = [.int .i64 (j' : Int)] ∧ PInv c a b G i j' ∧ (j' < i ∨ ∀ (h1 : i < G.length) (h2 : a < G.length), ¬ c G[i] G[a] < 0)) j ?_ ⟨rfl, j, rfl, rfl, p, hi0⟩
 rintro Y j' vs hh ⟨rfl, _, rfl, rfl, p, hi0⟩ hY
 have k1 := p.hi; have k2 := p.hij; have k3 := p.hj; have k4 := p.hb
 have la : a < G.length := by omega
 have lj : j' < G.length := by omega
 simp -dsimp only [slices_partitionT.l12, slices_partitionT.k11, leqN, B.pv_some]
 by_cases hle : i ≤ j'
 ·have li : i < G.length := by omega
  simp -dsimp only [hle, decide_true, B.gd_t, B.gdb_true, ho.idx lj, ho.idx la, B.pv_some]
  refine ho.ld S (List.getElem?_eq_getElem lj) ?_
  refine ho.ld S (List.getElem?_eq_getElem la) ?_
  refine hc.call _ _ _ _ ho.le ?_
  simp -dsimp only [hle, decide_true, B.gd_t, B.gdb_true, V.bin_lss, V.un_not, B.pick_t, B.pv_some]
  refine B.cond_bool (fun hd => ?_) (fun hd => ?_)
  ·have hd' : ¬ c G[j'] G[a] < 0 := by simpa using hd
   have e1' : V.bin .sub (.int .i64 (j' : Int)) (.int .i64 1) = some (.int .i64 ((j' - 1 : Nat) : Int)) := subNN (a := j') (b := 1) (by omega) (by omega)
   simp -dsimp only [e1', B.pv_some]
   refine hY (j' - 1) _ _ (by omega) ⟨rfl, j' - 1, rfl, rfl, ⟨k4, k1, by omega, by omega, p.lo, fun k hk ha q1 q2 => ?_⟩, ?_⟩
   ·by_cases e : k = j'
    ·subst e; exact hd'
    ·exact p.hi2 k hk ha (by omega) q2
   ·rcases hi0 with h | h
    ·omega
    ·exact .inr h
  ·have hd' : c G[j'] G[a] < 0 := by simpa using hd
   have hni : ¬ c G[i] G[a] < 0 := by
    rcases hi0 with h | h
    ·omega
    ·exact h li la
   exact part_k10 S hc ho hl hab p (.inr ⟨li, la, lj, hle, hni, hd'⟩) hq
 ·simp -dsimp only [hle, decide_false, B.gd_t, B.gdb_false, B.pick_f, B.cond_false]
  exact part_k10 S hc ho hl hab p (.inl (by omega)) hq
theorem part_i1 (S : SeqSpec E cs v) (hc : CmpSpec C0 v c fL h0) (ho : Rw E cs h0 h x G R) (hl : G.length < 4611686018427387904) (hab : a < b) (p : PInv c a b G i j) (hq : PartQ E cs h0 x c a b R G Q) :
  LoopR (slices_partitionT.l14 C E C0 fL Q x (.int .i64 (a : Int)) f (.int .i64 (j : Int))) [.int .i64 (i : Int)] h := by
 refine LoopR.intro (fun t vs hh => hh = h ∧ ∃ i' : Nat, i' + t = b ∧ vs = [.int .i64 (i' : Int)] ∧ PInv c a b G i' j) (b - i) ?_ ⟨rfl, i, by have := p.hij; have := p.hj; omega, rfl, p⟩
 rintro Y t vs hh ⟨rfl, i', hit, rfl, p⟩ hY
 have k1 := p.hi; have k2 := p.hij; have k3 := p.hj; have k4 := p.hb
 have la : a < G.length := by omega
 simp -dsimp only [slices_partitionT.l14, slices_partitionT.k13, leqN, B.pv_some]
 by_cases hle : i' ≤ j
 ·have li : i' < G.length := by omega
  simp -dsimp only [hle, decide_true, B.gd_t, B.gdb_true, ho.idx li, ho.idx la, B.pv_some]
  refine ho.ld S (List.getElem?_eq_getElem li) ?_
  refine ho.ld S (List.getElem?_eq_getElem la) ?_
  refine hc.call _ _ _ _ ho.le ?_
  simp -dsimp only [hle, decide_true, B.gd_t, B.gdb_true, V.bin_lss, B.pick_t, B.pv_some]
  refine B.cond_bool (fun hd => ?_) (fun hd => ?_)
  ·have hd' : c G[i'] G[a] < 0 := by simpa using hd
   simp -dsimp only [add1 (show i' < 4611686018427387904 by omega), B.pv_some]
   refine hY (b - (i' + 1)) _ _ (by omega) ⟨rfl, i' + 1, by omega, rfl, ⟨k4, by omega, k3, by omega, fun k hk ha q1 q2 => ?_, p.hi2⟩⟩
   by_cases e : k = i'
   ·subst e; exact hd'
   ·exact p.lo k hk ha q1 (by omega)
  ·have hd' : ¬ c G[i'] G[a] < 0 := by simpa using hd
   exact part_j1 S hc ho hl hab p (.inr fun _ _ => hd') hq
 ·simp -dsimp only [hle, decide_false, B.gd_t, B.gdb_false, B.pick_f, B.cond_false]
  exact part_j1 S hc ho hl hab p (.inl (by omega)) hq
theorem partition_spec (S : SeqSpec E cs v) (hc : CmpSpec C0 v c fL h0) (ho : Rw E cs h0 h x G R) (hl : G.length < 4611686018427387904) {pv : Nat} (hp1 : a ≤ pv) (hp2 : pv < b) (hb : b ≤ G.length) (hq : PartQ E cs h0 x c a b R G Q) :
  slices_partitionT.cps C E C0 fL x (.int .i64 (a : Int)) (.int .i64 (b : Int)) (.int .i64 (pv : Int)) f h Q := by
 have la : a < G.length := by omega
 have lp : pv < G.length := by omega
 simp -dsimp only [slices_partitionT.cps, slices_partitionT.k16, ho.idx lp, ho.idx la, B.pv_some]
 refine ho.ld S (List.getElem?_eq_getElem lp) ?_
 refine ho.ld S (List.getElem?_eq_getElem la) ?_
 refine ho.st S (t := G[pv]) la fun h1 o1 => ?_
 refine o1.st S (t := G[a]) (by simpa using lp) fun h2 o2 => ?_
 have e1' : V.bin .sub (.int .i64 (b : Int)) (.int .i64 1) = some (.int .i64 ((b - 1 : Nat) : Int)) := subNN (a := b) (b := 1) (by omega) (by omega)
 simp -dsimp only [slices_partitionT.k15, add1 (show a < 4611686018427387904 by omega), e1', B.pv_some]
 have W := swp_within la lp (Nat.le_refl _) (by omega) hp1 hp2
 have hsl := swp_len la lp
 refine part_i1 S hc (G := swp G a pv la lp) o2 (by omega) (by omega) ⟨by omega, by omega, by omega, by omega, fun k _ _ q1 q2 => by omega, fun k _ _ q1 q2 => by omega⟩ fun h' m G' t P' W' o' => hq h' m G' t P' (W.trans W') o'
end
section
variable {E : ElOps} {X : Type} {cs : X → List AVal} {v : X → AVal} {h0 h : AHeap} {x f : AVal} {G : List X} {R : List (List AVal)} {c : X → X → Int} {Q : AVal → AHeap → Prop} {Y1 : List AVal → AHeap → Prop} {a b i j : Nat}
theorem eq_j (S : SeqSpec E cs v) (hc : CmpSpec C0 v c fL h0) (ho : Rw E cs h0 h x G R) (hl : G.length < 4611686018427387904) (hab : a < b) (p : EInv c a b G i j) (hi0 : j < i ∨ ∀ (h1 : i < G.length) (h2 : a < G.length), c G[a] G[i] < 0)
  (done : ∀ h' j', EInv c a b G i j' → j' < i → Rw E cs h0 h' x G R → Q (.int .i64 (i : Int)) h')
  (next : ∀ h' j' (hi : i < G.length) (hj : j' < G.length), EInv c a b (swp G i j' hi hj) (i + 1) (j' - 1) → i < j' → j' < b → Rw E cs h0 h' x (swp G i j' hi hj) R → Y1 [.int .i64 ((i + 1 : Nat) : Int), .int .i64 ((j' - 1 : Nat) : Int)] h') :
  LoopR (slices_partitionEqualT.l3 C E C0 fL Q Y1 x (.int .i64 (a : Int)) f (.int .i64 (i : Int))) [.int .i64 (j : Int)] h := by
 refine LoopR.intro (fun t vs hh => hh = h ∧ ∃ j' : Nat, t = j' ∧ vs = [.int .i64 (j' : Int)] ∧ EInv c a b G i j' ∧ (j' < i ∨ ∀ (h1 : i < G.length) (h2 : a < G.length), c G[a] G[i] < 0)) j ?_ ⟨rfl, j, rfl, rfl, p, hi0⟩
 rintro Y j' vs hh ⟨rfl, _, rfl, rfl, p, hi0⟩ hY
 have k1 := p.hi; have k2 := p.hij; have k3 := p.hj; have k4 := p.hb
 have la : a < G.length := by omega
 have lj : j' < G.length := by omega
 simp -dsimp only [slices_partitionEqualT.l3, slices_partitionEqualT.k2, leqN, B.pv_some]
 by_cases hle : i ≤ j'
 ·have li : i < G.length := by omega
  simp -dsimp only [hle, decide_true, B.gd_t, B.gdb_true, ho.idx lj, ho.idx la, B.pv_some]
  refine ho.ld S (List.getElem?_eq_getElem la) ?_
  refine ho.ld S (List.getElem?_eq_getElem lj) ?_
  refine hc.call _ _ _ _ ho.le ?_
  simp -dsimp only [hle, decide_true, B.gd_t, B.gdb_true, V.bin_lss, B.pick_t, B.pv_some]
  refine B.cond_bool (fun hd => ?_) (fun hd => ?_)
  ·have hd' : c G[a] G[j'] < 0 := by simpa using hd
   have e1' : V.bin .sub (.int .i64 (j' : Int)) (.int .i64 1) = some (.int .i64 ((j' - 1 : Nat) : Int)) := subNN (a := j') (b := 1) (by omega) (by omega)
   simp -dsimp only [e1', B.pv_some]
   refine hY (j' - 1) _ _ (by omega) ⟨rfl, j' - 1, rfl, rfl, ⟨k4, k1, by omega, by omega, p.lo, fun k hk ha q1 q2 => ?_⟩, ?_⟩
   ·by_cases e : k = j'
    ·subst e; exact hd'
    ·exact p.hi2 k hk ha (by omega) q2
   ·rcases hi0 with h | h
    ·omega
    ·exact .inr h
  ·have hd' : ¬ c G[a] G[j'] < 0 := by simpa using hd
   have hni : c G[a] G[i] < 0 := by
    rcases hi0 with h | h
    ·omega
    ·exact h li la
   simp -dsimp only [slices_partitionEqualT.k1, gtrN, show ¬ j' < i by omega, decide_false, B.cond_false, ho.idx lj, ho.idx li, B.pv_some]
   refine ho.ld S (List.getElem?_eq_getElem lj) ?_
   refine ho.ld S (List.getElem?_eq_getElem li) ?_
   refine ho.st S (t := G[j']) li fun h1 o1 => ?_
   refine o1.st S (t := G[i]) (by simpa using lj) fun h2 o2 => ?_
   have e1' : V.bin .sub (.int .i64 (j' : Int)) (.int .i64 1) = some (.int .i64 ((j' - 1 : Nat) : Int)) := subNN (a := j') (b := 1) (by omega) (by omega)
   simp -dsimp only [add1 (show i < 4611686018427387904 by omega), e1', B.pv_some]
   have hne : i ≠ j' := fun e => by subst e; exact hd' hni
   exact next h2 j' li lj (p.swap hle li lj la hni hd') (by omega) k3 o2
 ·simp -dsimp only [hle, decide_false, B.gd_t, B.gdb_false, B.pick_f, B.cond_false, slices_partitionEqualT.k1, gtrN, show j' < i by omega, decide_true, B.cond_true, B.pv_some]
  exact done hh j' p (by omega) ho
theorem eq_i (S : SeqSpec E cs v) (hc : CmpSpec C0 v c fL h0) (ho : Rw E cs h0 h x G R) (hl : G.length < 4611686018427387904) (hab : a < b) (p : EInv c a b G i j)
  (done : ∀ h' i' j', EInv c a b G i' j' → j' < i' → Rw E cs h0 h' x G R → Q (.int .i64 (i' : Int)) h')
  (next : ∀ h' i' j' (hi : i' < G.length) (hj : j' < G.length), EInv c a b (swp G i' j' hi hj) (i' + 1) (j' - 1) → a < i' → i ≤ i' → i' < j' → j' < b → Rw E cs h0 h' x (swp G i' j' hi hj) R → Y1 [.int .i64 ((i' + 1 : Nat) : Int), .int .i64 ((j' - 1 : Nat) : Int)] h') :
  LoopR (slices_partitionEqualT.l5 C E C0 fL Q Y1 x (.int .i64 (a : Int)) f (.int .i64 (j : Int))) [.int .i64 (i : Int)] h := by
 refine LoopR.intro (fun t vs hh => hh = h ∧ ∃ i' : Nat, i' + t = b ∧ i ≤ i' ∧ vs = [.int .i64 (i' : Int)] ∧ EInv c a b G i' j) (b - i) ?_ ⟨rfl, i, by have := p.hij; have := p.hj; omega, Nat.le_refl _, rfl, p⟩
 rintro Y t vs hh ⟨rfl, i', hit, hii, rfl, p⟩ hY
 have k1 := p.hi; have k2 := p.hij; have k3 := p.hj; have k4 := p.hb
 have la : a < G.length := by omega
 simp -dsimp only [slices_partitionEqualT.l5, slices_partitionEqualT.k4, leqN, B.pv_some]
 by_cases hle : i' ≤ j
 ·have li : i' < G.length := by omega
  simp -dsimp only [hle, decide_true, B.gd_t, B.gdb_true, ho.idx li, ho.idx la, B.pv_some]
  refine ho.ld S (List.getElem?_eq_getElem la) ?_
  refine ho.ld S (List.getElem?_eq_getElem li) ?_
  refine hc.call _ _ _ _ ho.le ?_
  simp -dsimp only [hle, decide_true, B.gd_t, B.gdb_true, V.bin_lss, V.un_not, B.pick_t, B.pv_some]
  refine B.cond_bool (fun hd => ?_) (fun hd => ?_)
  ·have hd' : ¬ c G[a] G[i'] < 0 := by simpa using hd
   simp -dsimp only [add1 (show i' < 4611686018427387904 by omega), B.pv_some]
   refine hY (b - (i' + 1)) _ _ (by omega) ⟨rfl, i' + 1, by omega, by omega, rfl, ⟨k4, by omega, k3, by omega, fun k hk ha q1 q2 => ?_, p.hi2⟩⟩
   by_cases e : k = i'
   ·subst e; exact hd'
   ·exact p.lo k hk ha q1 (by omega)
  ·have hd' : c G[a] G[i'] < 0 := by simpa using hd
   exact eq_j S hc ho hl hab p (.inr fun _ _ => hd') (fun h' j' p' hlt o' => done h' i' j' p' hlt o') fun h' j' hi hj p' h1 h2 o' => next h' i' j' hi hj p' k1 hii h1 h2 o'
 ·simp -dsimp only [hle, decide_false, B.gd_t, B.gdb_false, B.pick_f, B.cond_false]
  exact eq_j S hc ho hl hab p (.inl (by omega)) (fun h' j' p' hlt o' => done h' i' j' p' hlt o') fun h' j' hi hj p' h1 h2 o' => next h' i' j' hi hj p' k1 hii h1 h2 o'
theorem eq_main (S : SeqSpec E cs v) (hc : CmpSpec C0 v c fL h0) (ho : Rw E cs h0 h x G R) (hl : G.length < 4611686018427387904) (hab : a < b) (p : EInv c a b G i j)
  (hq : ∀ h' i' j' G', EInv c a b G' i' j' → j' < i' → Within (a + 1) b G G' → Rw E cs h0 h' x G' R → Q (.int .i64 (i' : Int)) h') :
  LoopR (slices_partitionEqualT.l6 C E C0 fL Q x (.int .i64 (a : Int)) f) [.int .i64 (i : Int), .int .i64 (j : Int)] h := by
 refine LoopR.intro (fun t vs hh => ∃ (i' j' : Nat) (G' : List X), i' + t = b ∧ vs = [.int .i64 (i' : Int), .int .i64 (j' : Int)] ∧ Within (a + 1) b G G' ∧ EInv c a b G' i' j' ∧ Rw E cs h0 hh x G' R) (b - i) ?_ ⟨i, j, G, by have := p.hij; have := p.hj; omega, rfl, Within.refl _ _ _, p, ho⟩
 rintro Y t vs hh ⟨i', j', G', hit, rfl, W, p, o⟩ hY
 have hlen := W.len
 simp -dsimp only [slices_partitionEqualT.l6]
 refine eq_i S hc o (by omega) hab p (fun h' i2 j2 p2 hlt o2 => hq h' i2 j2 G' p2 hlt W o2) fun h' i2 j2 hi hj p2 h1 h2 h3 h4 o2 => ?_
 exact hY (b - (i2 + 1)) _ _ (by omega) ⟨i2 + 1, j2 - 1, _, by omega, rfl, W.trans (swp_within hi hj (by omega) (by omega) (by omega) h4), p2, o2⟩
theorem partitionEqual_spec (S : SeqSpec E cs v) (hc : CmpSpec C0 v c fL h0) (ho : Rw E cs h0 h x G R) (hl : G.length < 4611686018427387904) {pv : Nat} (hp1 : a ≤ pv) (hp2 : pv < b) (hb : b ≤ G.length)
  (hq : ∀ h' i' j' G', EInv c a b G' i' j' → j' < i' → Within a b G G' → (∀ (h1 : a < G'.length) (h2 : pv < G.length), G'[a] = G[pv]) → Rw E cs h0 h' x G' R → Q (.int .i64 (i' : Int)) h') :
  slices_partitionEqualT.cps C E C0 fL x (.int .i64 (a : Int)) (.int .i64 (b : Int)) (.int .i64 (pv : Int)) f h Q := by
 have la : a < G.length := by omega
 have lp : pv < G.length := by omega
 simp -dsimp only [slices_partitionEqualT.cps, slices_partitionEqualT.k8, ho.idx lp, ho.idx la, B.pv_some]
 refine ho.ld S (List.getElem?_eq_getElem lp) ?_
 refine ho.ld S (List.getElem?_eq_getElem la) ?_
 refine ho.st S (t := G[pv]) la fun h1 o1 => ?_
 refine o1.st S (t := G[a]) (by simpa using lp) fun h2 o2 => ?_
 have e1' : V.bin .sub (.int .i64 (b : Int)) (.int .i64 1) = some (.int .i64 ((b - 1 : Nat) : Int)) := subNN (a := b) (b := 1) (by omega) (by omega)
 simp -dsimp only [slices_partitionEqualT.k7, add1 (show a < 4611686018427387904 by omega), e1', B.pv_some]
 have W := swp_within la lp (Nat.le_refl _) (by omega) hp1 hp2
 have hsl := swp_len la lp
 refine eq_main S hc (G := swp G a pv la lp) o2 (by omega) (by omega) ⟨by omega, by omega, by omega, by omega, fun k _ _ q1 q2 => by omega, fun k _ _ q1 q2 => by omega⟩ fun h' i' j' G' p' hlt W' o' => hq h' i' j' G' p' hlt (W.trans (W'.mono (by omega) (Nat.le_refl _))) (fun h1 h2 => ?_) o'
 rw [W'.same (.inl (by omega)) h1 (by omega), swp_at la lp (by omega) la]
 split
 ·rename_i e; simp only [e]
 ·rw [if_pos rfl]
end
section
variable {X : Type} {c : X → X → Int} {a n lo r ch : Nat} {G : List X}
end
section
variable {E : ElOps} {X : Type} {cs : X → List AVal} {v : X → AVal} {h0 h : AHeap} {x f : AVal} {G : List X} {R : List (List AVal)} {c : X → X → Int} {Q : AVal → AHeap → Prop} {Y1 : List AVal → AHeap → Prop} {a n lo r ch : Nat}
theorem sift_k1 (S : SeqSpec E cs v) (W : Weak (lessC c)) (hc : CmpSpec C0 v c fL h0) (ho : Rw E cs h0 h x G R) (hl : G.length < 1000000000) (p : SInv c a n lo r G) (hlo : lo ≤ r) (hch : ch < n) (hp : (ch - 1) / 2 = r) (hc0 : 0 < ch)
  (hmax : ∀ k, 0 < k → k < n → (k - 1) / 2 = r → (h1 : a + ch < G.length) → (h2 : a + k < G.length) → ¬ c G[a + ch] G[a + k] < 0)
  (done : ∀ h', Heap c a n lo G → Rw E cs h0 h' x G R → Q (.tup []) h')
  (next : ∀ h' (hr : a + r < G.length) (hcl : a + ch < G.length), SInv c a n lo ch (swp G (a + r) (a + ch) hr hcl) → Rw E cs h0 h' x (swp G (a + r) (a + ch) hr hcl) R → Y1 [.int .i64 (ch : Int)] h') :
  slices_siftDownT.k1 C E C0 fL Q Y1 x (.int .i64 (n : Int)) (.int .i64 (a : Int)) f (.int .i64 (r : Int)) (.int .i64 (ch : Int)) h := by
 have hlen := p.len
 have lr : a + r < G.length := by omega
 have lc : a + ch < G.length := by omega
 have ar := addNN (a := a) (b := r) (by omega)
 have ac := addNN (a := a) (b := ch) (by omega)
 simp -dsimp only [slices_siftDownT.k1, ar, ac, ho.idx lr, ho.idx lc, B.pv_some]
 refine ho.ld S (List.getElem?_eq_getElem lr) ?_
 refine ho.ld S (List.getElem?_eq_getElem lc) ?_
 refine hc.call _ _ _ _ ho.le ?_
 simp -dsimp only [V.bin_lss, V.un_not, B.pv_some]
 refine B.cond_bool (fun hd => ?_) (fun hd => ?_)
 ·have hd' : ¬ c G[a + r] G[a + ch] < 0 := by simpa using hd
  refine done h (p.done fun k k0 hk hkp h1 h2 => ?_) ho
  have := W.ntrans (a := G[a + r]) (b := G[a + ch]) (c := G[a + k]) (by unfold lessC; exact decide_eq_false hd') (by unfold lessC; exact decide_eq_false (hmax k k0 hk hkp lc h2))
  unfold lessC at this; exact of_decide_eq_false this
 ·have hd' : c G[a + r] G[a + ch] < 0 := by simpa using hd
  simp -dsimp only [ar, ac, ho.idx lr, ho.idx lc, B.pv_some]
  refine ho.ld S (List.getElem?_eq_getElem lc) ?_
  refine ho.ld S (List.getElem?_eq_getElem lr) ?_
  refine ho.st S (t := G[a + ch]) lr fun h1 o1 => ?_
  refine o1.st S (t := G[a + r]) (by simpa using lc) fun h2 o2 => ?_
  exact next h2 lr lc (p.step W hlo hch hp hc0 lr lc hd' fun k k0 hk hkp h2 => hmax k k0 hk hkp lc h2) o2
theorem siftDown_spec (S : SeqSpec E cs v) (W : Weak (lessC c)) (hc : CmpSpec C0 v c fL h0) (ho : Rw E cs h0 h x G R) (hl : G.length < 1000000000) (p : SInv c a n lo r G) (hlo : lo ≤ r) (hrn : r ≤ n) {b : Nat} (hb : a + n ≤ b)
  (hq : ∀ h' G', Heap c a n lo G' → Within a b G G' → Rw E cs h0 h' x G' R → Q (.tup []) h') :
  slices_siftDownT.cps C E C0 fL x (.int .i64 (r : Int)) (.int .i64 (n : Int)) (.int .i64 (a : Int)) f h Q := by
 simp -dsimp only [slices_siftDownT.cps]
 refine LoopR.intro (fun t vs hh => ∃ (r' : Nat) (G' : List X), r' + t = n ∧ vs = [.int .i64 (r' : Int)] ∧ lo ≤ r' ∧ SInv c a n lo r' G' ∧ Within a b G G' ∧ Rw E cs h0 hh x G' R) (n - r) ?_ ⟨r, G, by omega, rfl, hlo, p, Within.refl _ _ _, ho⟩
 rintro Y t vs hh ⟨r', G', hrt, rfl, hlo', p', W', o⟩ hY
 have hlen := W'.len
 have pl := p'.len
 have e1 : V.bin .mul (.int .i64 2) (.int .i64 (r' : Int)) = some (.int .i64 ((2 * r' : Nat) : Int)) := mulN (a := 2) (b := r') (by omega)
 simp -dsimp only [slices_siftDownT.l4, slices_siftDownT.k3, e1, add1 (show 2 * r' < 4611686018427387904 by omega), geqN, B.pv_some]
 refine B.cond_bool (fun hd => ?_) (fun hd => ?_)
 ·rw [decide_eq_true_eq] at hd
  exact hq hh G' (p'.done fun k k0 hk hkp _ _ => by omega) W' o
 ·rw [decide_eq_false_iff_not] at hd
  have fin : ∀ ch, ch < n → (ch - 1) / 2 = r' → 0 < ch → (∀ k, 0 < k → k < n → (k - 1) / 2 = r' → (h1 : a + ch < G'.length) → (h2 : a + k < G'.length) → ¬ c G'[a + ch] G'[a + k] < 0) → slices_siftDownT.k1 C E C0 fL Q Y x (.int .i64 (n : Int)) (.int .i64 (a : Int)) f (.int .i64 (r' : Int)) (.int .i64 (ch : Int)) hh := fun ch c1 c2 c3 c4 =>
   sift_k1 S W hc o (by omega) p' hlo' c1 c2 c3 c4 (fun h' hp o' => hq h' G' hp W' o') fun h' hr hcl p2 o2 => hY (n - ch) _ _ (by omega) ⟨ch, _, by omega, rfl, by omega, p2, W'.trans (swp_within hr hcl (by omega) (by omega) (by omega) (by omega)), o2⟩
  have irr : ∀ t : X, ¬ c t t < 0 := fun t => by
   have := W.irr t; unfold lessC at this; exact of_decide_eq_false this
  have a1 := addNN (a := a) (b := 2 * r' + 1) (by omega)
  simp -dsimp only [slices_siftDownT.k2, add1 (show 2 * r' + 1 < 4611686018427387904 by omega), lssN, B.pv_some]
  by_cases h2 : 2 * r' + 1 + 1 < n
  ·have l1 : a + (2 * r' + 1) < G'.length := by omega
   have l2 : a + (2 * r' + 1) + 1 < G'.length := by omega
   simp -dsimp only [h2, decide_true, B.gd_t, B.gdb_true, a1, add1 (show a + (2 * r' + 1) < 4611686018427387904 by omega), o.idx l1, o.idx l2, B.pv_some]
   refine o.ld S (List.getElem?_eq_getElem l1) ?_
   refine o.ld S (List.getElem?_eq_getElem l2) ?_
   refine hc.call _ _ _ _ o.le ?_
   simp -dsimp only [h2, decide_true, B.gd_t, B.gdb_true, V.bin_lss, B.pick_t, B.pv_some]
   refine B.cond_bool (fun hf => ?_) (fun hf => ?_)
   ·have hf' : c G'[a + (2 * r' + 1)] G'[a + (2 * r' + 1) + 1] < 0 := by simpa using hf
    simp -dsimp only [add1 (show 2 * r' + 1 < 4611686018427387904 by omega), B.pv_some]
    refine fin (2 * r' + 1 + 1) h2 (by omega) (by omega) fun k k0 hk hkp h1 h3 => ?_
    rcases (show k = 2 * r' + 1 ∨ k = 2 * r' + 1 + 1 by omega) with rfl | rfl
    ·have := W.asym (a := G'[a + (2 * r' + 1)]) (b := G'[a + (2 * r' + 1) + 1]) (by unfold lessC; exact decide_eq_true hf')
     unfold lessC at this; exact of_decide_eq_false this
    ·exact irr _
   ·have hf' : ¬ c G'[a + (2 * r' + 1)] G'[a + (2 * r' + 1) + 1] < 0 := by simpa using hf
    refine fin (2 * r' + 1) (by omega) (by omega) (by omega) fun k k0 hk hkp h1 h3 => ?_
    rcases (show k = 2 * r' + 1 ∨ k = 2 * r' + 1 + 1 by omega) with rfl | rfl
    ·exact irr _
    ·exact hf'
  ·simp -dsimp only [h2, decide_false, B.gd_t, B.gdb_false, B.pick_f, B.cond_false]
   refine fin (2 * r' + 1) (by omega) (by omega) (by omega) fun k k0 hk hkp h1 h3 => ?_
   have : k = 2 * r' + 1 := by omega
   subst this; exact irr _
end
section
variable {X : Type} {c : X → X → Int} {a b n lo : Nat} {G G' : List X}
end
abbrev SiftI (C : CSem) (E : ElOps) (C0 : CSem) (fL : Nat) (f1 : Nat) : Prop := ∀ (v0 v1 v2 v3 v4 : AVal) (h : AHeap) (Q : AVal → AHeap → Prop), slices_siftDownT.cps C E C0 fL v0 v1 v2 v3 v4 h (dn Q) → C f1 [v0, v1, v2, v3, v4] h Q
section
variable {E : ElOps} {X : Type} {cs : X → List AVal} {v : X → AVal} {h0 h : AHeap} {x f : AVal} {G : List X} {R : List (List AVal)} {c : X → X → Int} {Q : AVal → AHeap → Prop} {a b : Nat}
theorem insertion_srt (S : SeqSpec E cs v) (W : Weak (lessC c)) (hc : CmpSpec C0 v c fL h0) (ho : Rw E cs h0 h x G R) (hl : G.length ≤ 100000000) (hab : a ≤ b) (hb : b ≤ G.length)
  (hq : ∀ h' G', Within a b G G' → Srt c a b G' → Rw E cs h0 h' x G' R → Q (.tup []) h') : slices_insertionSortT.cps C E C0 fL x (.int .i64 (a : Int)) (.int .i64 (b : Int)) f h Q := by
 have e0 : ∀ (L : List X), (L.map (fun y => (y, 0))).map (fun p : X × Nat => cs p.1) = L.map cs := fun L => by rw [List.map_map]; rfl
 have e1 : ∀ (L : List (X × Nat)), L.map (fun p : X × Nat => cs p.1) = (L.map (·.1)).map cs := fun L => by rw [List.map_map]; rfl
 have lt : (G.take a).length = a := by rw [List.length_take]; omega
 have lm : ((G.take b).drop a).length = b - a := by rw [List.length_drop, List.length_take]; omega
 refine insertionSort_spec (P := (G.take a).map (fun y => (y, 0))) (M := ((G.take b).drop a).zipIdx) (U := (G.drop b).map (fun y => (y, 0))) S W ?_ ?_ hc ?_ ?_ ?_ ?_ (R := R) (h0 := h0)
 ·simp only [List.length_append, List.length_map, List.length_zipIdx, lt, lm, List.length_drop]; omega
 ·have : (((G.take b).drop a).zipIdx.map (·.2)).Pairwise (· < ·) := by
   rw [List.zipIdx_map_snd]; exact List.pairwise_lt_range'
  rwa [List.pairwise_map] at this
 ·rw [List.length_map, lt]
 ·rw [List.length_map, List.length_zipIdx, lt, lm]; omega
 ·unfold Rw
  rw [List.map_append, List.map_append, e0, e0, e1, List.zipIdx_map_fst, ← List.map_append, ← List.map_append, ← split3 hab G]
  exact ho
 ·intro h' M' hp hs ho'
  have hp' : (M'.map (·.1)).Perm ((G.take b).drop a) := by
   have := hp.map (·.1); rwa [List.zipIdx_map_fst] at this
  refine hq h' (G.take a ++ (M'.map (·.1) ++ G.drop b)) (within_mid hab hb hp') (srt_mid hab hb (by rw [hp'.length_eq, lm]) ?_) ?_
  ·rw [List.pairwise_map]
   refine hs.imp fun {x y} hxy => ?_
   have hx : lessC c y.1 x.1 = false := hxy.elim (fun h => W.asym h) fun ⟨h, _⟩ => h
   unfold lessC at hx; exact of_decide_eq_false hx
  ·unfold Rw at ho' ⊢
   rw [List.map_append, List.map_append, e0, e0, e1] at ho'
   rwa [List.map_append, List.map_append]
theorem heapSort_spec {f1 : Nat} (is : SiftI C E C0 fL f1) (S : SeqSpec E cs v) (W : Weak (lessC c)) (hc : CmpSpec C0 v c fL h0) (ho : Rw E cs h0 h x G R) (hl : G.length ≤ 100000000) (hab : a < b) (hb : b ≤ G.length)
  (hq : ∀ h' G', Within a b G G' → Srt c a b G' → Rw E cs h0 h' x G' R → Q (.tup []) h') : slices_heapSortT.cps C E C0 fL f1 x (.int .i64 (a : Int)) (.int .i64 (b : Int)) f h Q := by
 have e1 := subNN (a := b) (b := a) (by omega) (by omega)
 obtain ⟨n, hn⟩ : ∃ n, n = b - a := ⟨_, rfl⟩
 have e2 : V.bin .quo (.int .i64 ((n - 1 : Nat) : Int)) (.int .i64 2) = some (.int .i64 (((n - 1) / 2 : Nat) : Int)) := by
  rw [V.bin_quo _ _ _ (by omega), show ((n - 1 : Nat) : Int).tdiv 2 = (((n - 1) / 2 : Nat) : Int) from rfl, wrap_i64 (by omega) (by omega)]
 have m1 : ∀ k : Nat, k ≤ 100000000 → V.bin .sub (.int .i64 (k : Int)) (.int .i64 1) = some (.int .i64 ((k : Int) - 1)) := fun k hk => by
  rw [V.bin_sub, wrap_i64 (by omega) (by omega)]
 have m2 : ∀ k : Nat, k ≤ 100000000 → V.bin .sub (.int .i64 ((k + 1 : Nat) - 1 : Int)) (.int .i64 1) = some (.int .i64 ((k : Int) - 1)) := fun k hk => by
  rw [V.bin_sub, wrap_i64 (by omega) (by omega)]; congr 2; omega
 simp -dsimp only [slices_heapSortT.cps, slices_heapSortT.k5, e1, B.pv_some]
 rw [← hn]
 simp -dsimp only [sub1 (show 1 ≤ n by omega) (by omega), e2, B.pv_some]
 refine LoopR.intro (fun t vs hh => ∃ (G' : List X), vs = [.int .i64 ((t : Int) - 1)] ∧ t ≤ n ∧ Heap c a n t G' ∧ Within a b G G' ∧ Rw E cs h0 hh x G' R) ((n - 1) / 2 + 1) ?_ ⟨G, by congr 2; omega, by omega, Heap.none_ (by omega), Within.refl _ _ _, ho⟩
 rintro Y t vs hh ⟨G1, rfl, htn, p1, W1, o1⟩ hY
 have l1 := W1.len
 simp -dsimp only [slices_heapSortT.l4, slices_heapSortT.k3, V.bin_geq, B.pv_some]
 cases t with
 | succ k =>
  rw [show decide ((0 : Int) ≤ ((k + 1 : Nat) : Int) - 1) = true by simp, B.cond_true, show (((k + 1 : Nat) : Int) - 1) = (k : Int) by omega]
  refine is _ _ _ _ _ _ _ (siftDown_spec (b := b) S W hc o1 (by omega) (p1.sinv (by omega)) (Nat.le_refl _) (by omega) (by omega) fun h2 G2 p2 w2 o2 => dn_same ?_)
  simp -dsimp only [m1 k (by omega), B.pv_some]
  exact hY k _ _ (by omega) ⟨G2, rfl, by omega, p2, W1.trans w2, o2⟩
 | zero =>
  rw [show decide ((0 : Int) ≤ ((0 : Nat) : Int) - 1) = false by simp, B.cond_false]
  simp -dsimp only [m1 n (by omega), B.pv_some]
  refine LoopR.intro (fun t vs hh => ∃ (G' : List X), vs = [.int .i64 ((t : Int) - 1)] ∧ t ≤ n ∧ Heap c a t 0 G' ∧ Cut c a b a (a + t) G' ∧ Within a b G G' ∧ Rw E cs h0 hh x G' R) n ?_ ⟨G1, rfl, Nat.le_refl _, p1, fun p q _ _ h3 h4 => by omega, W1, o1⟩
  rintro Z t vs hh ⟨G2, rfl, htn, p2, c2, W2, o2⟩ hZ
  have l2 := W2.len
  simp -dsimp only [slices_heapSortT.l2, slices_heapSortT.k1, V.bin_geq, B.pv_some]
  cases t with
  | zero =>
   rw [show decide ((0 : Int) ≤ ((0 : Nat) : Int) - 1) = false by simp, B.cond_false]
   exact hq hh G2 W2 (c2.small (by omega)) o2
  | succ k =>
   rw [show decide ((0 : Int) ≤ ((k + 1 : Nat) : Int) - 1) = true by simp, B.cond_true, show (((k + 1 : Nat) : Int) - 1) = (k : Int) by omega]
   have ac := addNN (a := a) (b := k) (by omega)
   have la : a < G2.length := by omega
   have lk : a + k < G2.length := by omega
   simp -dsimp only [ac, o2.idx la, o2.idx lk, B.pv_some]
   refine o2.ld S (List.getElem?_eq_getElem lk) ?_
   refine o2.ld S (List.getElem?_eq_getElem la) ?_
   refine o2.swap S la lk fun h3 o3 => ?_
   have hsl := swp_len la lk
   have w3 : Within a (a + (k + 1)) G2 (swp G2 a (a + k) la lk) := swp_within la lk (by omega) (by omega) (by omega) (by omega)
   have c3 := c2.within w3 (Nat.le_refl _) (by omega)
   have c4 : Cut c a b a (a + k) (swp G2 a (a + k) la lk) := fun p q h1 h2 h3 h4 h5 h6 => by
    by_cases e : a + (k + 1) ≤ q
    ·exact c3 p q h1 h2 h3 (.inr e) h5 h6
    ·have : q = a + k := by omega
     subst this
     rw [swp_at la lk h6 (by omega), if_pos rfl, swp_at la lk h5 (by omega), if_neg (by omega)]
     split
     ·exact p2.root W (by omega) k (by omega)
     ·have := p2.root W (by omega) (p - a) (by omega)
      simpa only [show a + (p - a) = p by omega] using this
   have s3 : SInv c a k 0 0 (swp G2 a (a + k) la lk) := ⟨by omega, fun j j0 hj _ hne h1 h2 => by
    rw [swp_at la lk h1 (by omega), if_neg (by omega), if_neg (by omega), swp_at la lk h2 (by omega), if_neg (by omega), if_neg (by omega)]
    exact p2 j j0 (by omega) (by omega) (by omega) (by omega), fun _ h => by omega⟩
   refine is _ _ _ _ _ _ _ (siftDown_spec (r := 0) (b := a + k) S W hc o3 (by omega) s3 (Nat.le_refl _) (by omega) (by omega) fun h4 G4 p4 w4 o4 => dn_same ?_)
   simp -dsimp only [m1 k (by omega), B.pv_some]
   exact hZ k _ _ (by omega) ⟨G4, rfl, by omega, p4, c4.within w4 (Nat.le_refl _) (by omega), (W2.trans (w3.mono (Nat.le_refl _) (by omega))).trans (w4.mono (Nat.le_refl _) (by omega)), o4⟩
end
section
variable {X : Type} {c : X → X → Int} {A B j : Nat} {G : List X}
end
section
variable {E : ElOps} {X : Type} {cs : X → List AVal} {v : X → AVal} {h0 h : AHeap} {x f : AVal} {G : List X} {R : List (List AVal)} {c : X → X → Int} {Q : AVal → AHeap → Prop} {Y1 : List AVal → AHeap → Prop} {a b i s : Nat}
theorem pis_k3 (S : SeqSpec E cs v) (hc : CmpSpec C0 v c fL h0) (ho : Rw E cs h0 h x G R) (hl : G.length ≤ 100000000) (hi0 : 0 < i) (hi : i < b) (hb : b ≤ G.length) (hs : s ≤ 5)
  (hY : ∀ h' G', Within i b G G' → Rw E cs h0 h' x G' R → Y1 [.int .i64 (i : Int), .int .i64 ((s + 1 : Nat) : Int)] h') :
  slices_partialInsertionSortT.k3 C E C0 fL Q Y1 x (.int .i64 (a : Int)) (.int .i64 (b : Int)) f (.int .i64 (i : Int)) (.int .i64 (s : Int)) h := by
 have hge : V.bin .geq (.int .i64 ((b - i : Nat) : Int)) (.int .i64 2) = some (.bool (decide (2 ≤ b - i))) := geqN (b := 2)
 simp -dsimp only [slices_partialInsertionSortT.k3, subNN (show i ≤ b by omega) (by omega), hge, add1 (show s < 4611686018427387904 by omega), add1 (show i < 4611686018427387904 by omega), B.pv_some]
 refine B.cond_bool (fun hd => ?_) (fun hd => ?_)
 rotate_left
 ·simp -dsimp only [add1 (show s < 4611686018427387904 by omega), B.pv_some]
  exact hY h G (Within.refl _ _ _) ho
 rw [decide_eq_true_eq] at hd
 simp -dsimp only [add1 (show i < 4611686018427387904 by omega), B.pv_some]
 refine LoopR.intro (fun t vs hh => ∃ (j : Nat) (G' : List X), j + t = b ∧ vs = [.int .i64 (j : Int)] ∧ i < j ∧ Within i b G G' ∧ Rw E cs h0 hh x G' R) (b - (i + 1)) ?_ ⟨i + 1, G, by omega, rfl, by omega, Within.refl _ _ _, ho⟩
 rintro Y t vs hh ⟨j, G1, hjt, rfl, hij, W1, o⟩ hY2
 have hlen := W1.len
 simp -dsimp only [slices_partialInsertionSortT.l2, slices_partialInsertionSortT.k1, lssN, B.pv_some]
 refine B.cond_bool (fun he => ?_) (fun he => ?_)
 ·rw [decide_eq_true_eq] at he
  have lj : j < G1.length := by omega
  have lj1 : j - 1 < G1.length := by omega
  have sj := sub1 (a := j) (by omega) (by omega)
  simp -dsimp only [sj, o.idx lj, o.idx lj1, B.pv_some]
  refine o.ld S (List.getElem?_eq_getElem lj) ?_
  refine o.ld S (List.getElem?_eq_getElem lj1) ?_
  refine hc.call _ _ _ _ o.le ?_
  simp -dsimp only [V.bin_lss, V.un_not, B.pv_some]
  refine B.cond_bool (fun hd => ?_) (fun hd => ?_)
  ·simp -dsimp only [add1 (show s < 4611686018427387904 by omega), B.pv_some]
   exact hY hh G1 W1 o
  ·simp -dsimp only [sj, o.idx lj, o.idx lj1, B.pv_some]
   refine o.ld S (List.getElem?_eq_getElem lj1) ?_
   refine o.ld S (List.getElem?_eq_getElem lj) ?_
   refine o.swap S lj lj1 fun h2 o2 => ?_
   simp -dsimp only [add1 (show j < 4611686018427387904 by omega), B.pv_some]
   exact hY2 (b - (j + 1)) _ _ (by omega) ⟨j + 1, _, by omega, rfl, by omega, W1.trans (swp_within lj lj1 (by omega) (by omega) (by omega) (by omega)), o2⟩
 ·simp -dsimp only [add1 (show s < 4611686018427387904 by omega), B.pv_some]
  exact hY hh G1 W1 o
theorem pis_k6 (S : SeqSpec E cs v) (W : Weak (lessC c)) (hc : CmpSpec C0 v c fL h0) (ho : Rw E cs h0 h x G R) (hl : G.length ≤ 100000000) (hai : a < i) (hi : i < b) (hb : b ≤ G.length) (hs : s ≤ 5) (hp : Pre c a b G) (h1 : But1 c a i (i - 1) G)
  (hY : ∀ h' G', Within a b G G' → Srt c a i G' → Rw E cs h0 h' x G' R → Y1 [.int .i64 (i : Int), .int .i64 ((s + 1 : Nat) : Int)] h') :
  slices_partialInsertionSortT.k6 C E C0 fL Q Y1 x (.int .i64 (a : Int)) (.int .i64 (b : Int)) f (.int .i64 (i : Int)) (.int .i64 (s : Int)) h := by
 have fin : ∀ {hh G1}, Rw E cs h0 hh x G1 R → Within a b G G1 → Srt c a i G1 → slices_partialInsertionSortT.k3 C E C0 fL Q Y1 x (.int .i64 (a : Int)) (.int .i64 (b : Int)) f (.int .i64 (i : Int)) (.int .i64 (s : Int)) hh := fun {hh G1} o W1 s1 => by
  have l1 := W1.len
  refine pis_k3 S hc o (by omega) (by omega) hi (by omega) hs fun h2 G2 W2 o2 => hY h2 G2 (W1.trans (W2.mono (by omega) (Nat.le_refl _))) (fun p q h1 h2 h3 h4 h5 => ?_) o2
  have l2 := W2.len
  rw [W2.same (k := p) (.inl (by omega)) h4 (by omega), W2.same (k := q) (.inl (by omega)) h5 (by omega)]
  exact s1 p q h1 h2 h3 _ _
 have hge : V.bin .geq (.int .i64 ((i - a : Nat) : Int)) (.int .i64 2) = some (.bool (decide (2 ≤ i - a))) := geqN (b := 2)
 simp -dsimp only [slices_partialInsertionSortT.k6, subNN (show a ≤ i by omega) (by omega), hge, sub1 (show 1 ≤ i by omega) (by omega), B.pv_some]
 refine B.cond_bool (fun hd => ?_) (fun hd => ?_)
 ·simp -dsimp only [sub1 (show 1 ≤ i by omega) (show i < 4611686018427387904 by omega), B.pv_some]
  refine LoopR.intro (fun t vs hh => ∃ (G' : List X), vs = [.int .i64 (t : Int)] ∧ a ≤ t ∧ t < i ∧ But1 c a i t G' ∧ Within a b G G' ∧ Rw E cs h0 hh x G' R) (i - 1) ?_ ⟨G, rfl, by omega, by omega, h1, Within.refl _ _ _, ho⟩
  rintro Y j vs hh ⟨G1, rfl, haj, hji, b1, W1, o⟩ hY2
  have hlen := W1.len
  have lj : j < G1.length := by omega
  have hg1 : V.bin .geq (.int .i64 (j : Int)) (.int .i64 1) = some (.bool (decide (1 ≤ j))) := geqN (b := 1)
  simp -dsimp only [slices_partialInsertionSortT.l5, slices_partialInsertionSortT.k4, hg1, B.pv_some]
  refine B.cond_bool (fun he => ?_) (fun he => ?_)
  ·rw [decide_eq_true_eq] at he
   have lj1 : j - 1 < G1.length := by omega
   have sj := sub1 (a := j) (by omega) (by omega)
   simp -dsimp only [sj, o.idx lj, o.idx lj1, B.pv_some]
   refine o.ld S (List.getElem?_eq_getElem lj) ?_
   refine o.ld S (List.getElem?_eq_getElem lj1) ?_
   refine hc.call _ _ _ _ o.le ?_
   simp -dsimp only [V.bin_lss, V.un_not, B.pv_some]
   refine B.cond_bool (fun hd => ?_) (fun hd => ?_)
   ·exact fin o W1 (b1.done W lj (.inr fun _ => by simpa using hd))
   ·have hlt : c G1[j] G1[j - 1] < 0 := by simpa using hd
    have haj2 : a < j := by
     rcases Nat.lt_or_ge a j with k | k
     ·exact k
     ·have : j = a := by omega
      subst this
      exact absurd hlt ((hp.within W1) (by omega) j (Nat.le_refl _) (by omega) _ _)
    simp -dsimp only [sj, o.idx lj, o.idx lj1, B.pv_some]
    refine o.ld S (List.getElem?_eq_getElem lj1) ?_
    refine o.ld S (List.getElem?_eq_getElem lj) ?_
    refine o.swap S lj lj1 fun h2 o2 => ?_
    exact hY2 (j - 1) _ _ (by omega) ⟨_, rfl, by omega, by omega, b1.step W haj2 lj lj1 hlt, W1.trans (swp_within lj lj1 (by omega) (by omega) (by omega) (by omega)), o2⟩
  ·rw [decide_eq_false_iff_not] at he
   exact fin o W1 (b1.done W lj (.inl (by omega)))
 ·rw [decide_eq_false_iff_not] at hd
  exact fin ho (Within.refl _ _ _) fun p q _ _ _ _ _ => by omega
theorem partialInsertionSort_spec (S : SeqSpec E cs v) (W : Weak (lessC c)) (hc : CmpSpec C0 v c fL h0) (ho : Rw E cs h0 h x G R) (hl : G.length ≤ 100000000) (hab : a < b) (hb : b ≤ G.length) (hp : Pre c a b G)
  (hq : ∀ h' G' t, Within a b G G' → (t = true → Srt c a b G') → Rw E cs h0 h' x G' R → Q (.bool t) h') :
  slices_partialInsertionSortT.cps C E C0 fL x (.int .i64 (a : Int)) (.int .i64 (b : Int)) f h Q := by
 simp -dsimp only [slices_partialInsertionSortT.cps, add1 (show a < 4611686018427387904 by omega), B.pv_some]
 refine LoopR.intro (fun t vs hh => ∃ (s i : Nat) (G' : List X), s + t = 5 ∧ vs = [.int .i64 (i : Int), .int .i64 (s : Int)] ∧ a < i ∧ i ≤ b ∧ Srt c a i G' ∧ Within a b G G' ∧ Rw E cs h0 hh x G' R) 5 ?_ ⟨0, a + 1, G, rfl, rfl, by omega, by omega, fun p q _ _ _ _ _ => by omega, Within.refl _ _ _, ho⟩
 rintro Y t vs hh ⟨s, i, G1, hst, rfl, hai, hib, s1, W1, o⟩ hY
 have hl1 := W1.len
 have h5 : V.bin .lss (.int .i64 (s : Int)) (.int .i64 5) = some (.bool (decide (s < 5))) := lssN (b := 5)
 simp -dsimp only [slices_partialInsertionSortT.l12, slices_partialInsertionSortT.k11, h5, B.pv_some]
 refine B.cond_bool (fun hd => ?_) (fun hd => hq hh G1 false W1 (fun h => by cases h) o)
 rw [decide_eq_true_eq] at hd
 refine LoopR.intro (fun t vs hh => ∃ (i : Nat), i + t = b ∧ vs = [.int .i64 (i : Int)] ∧ a < i ∧ Srt c a i G1 ∧ Rw E cs h0 hh x G1 R) (b - i) ?_ ⟨i, by omega, rfl, hai, s1, o⟩
 rintro Z t vs hh ⟨i, hit, rfl, hai, s2, o2⟩ hZ
 simp -dsimp only [slices_partialInsertionSortT.l10, slices_partialInsertionSortT.k9, lssN, B.pv_some]
 by_cases hd2 : i < b
 ·have li : i < G1.length := by omega
  have li1 : i - 1 < G1.length := by omega
  have si := sub1 (a := i) (by omega) (by omega)
  simp -dsimp only [hd2, decide_true, B.gd_t, B.gdb_true, si, o2.idx li, o2.idx li1, B.pv_some]
  refine o2.ld S (List.getElem?_eq_getElem li) ?_
  refine o2.ld S (List.getElem?_eq_getElem li1) ?_
  refine hc.call _ _ _ _ o2.le ?_
  simp -dsimp only [hd2, decide_true, B.gd_t, B.gdb_true, V.bin_lss, V.un_not, B.pick_t, B.pv_some]
  refine B.cond_bool (fun he => ?_) (fun he => ?_)
  ·have hnl : ¬ c G1[i] G1[i - 1] < 0 := by simpa using he
   simp -dsimp only [add1 (show i < 4611686018427387904 by omega), B.pv_some]
   refine hZ (t - 1) _ _ (by omega) ⟨i + 1, by omega, rfl, by omega, ?_, o2⟩
   exact But1.done W (j := i) (fun p q h1 h2 h3 h4 h5 h6 => s2 p q h1 h2 (by omega) h5 h6) li (.inr fun _ => hnl)
  ·have hlt : c G1[i] G1[i - 1] < 0 := by simpa using he
   have hne : V.bin .eql (.int .i64 (i : Int)) (.int .i64 (b : Int)) = some (.bool false) := by rw [V.bin_eql]; simp; omega
   simp -dsimp only [hne, B.pv_some, B.cond_false, slices_partialInsertionSortT.k8, slices_partialInsertionSortT.k7, subNN (show a ≤ b by omega) (show b < 4611686018427387904 by omega)]
   rw [show V.bin .lss (.int .i64 ((b - a : Nat) : Int)) (.int .i64 50) = some (.bool (decide (b - a < 50))) from lssN (b := 50)]
   simp -dsimp only [B.pv_some]
   refine B.cond_bool (fun hf => hq hh G1 false W1 (fun h => by cases h) o2) (fun hf => ?_)
   simp -dsimp only [slices_partialInsertionSortT.k7, si, o2.idx li, o2.idx li1, B.pv_some]
   refine o2.ld S (List.getElem?_eq_getElem li1) ?_
   refine o2.ld S (List.getElem?_eq_getElem li) ?_
   refine o2.swap S li li1 fun h3 o3 => ?_
   have hsl := swp_len li li1
   have w3 : Within a b G1 (swp G1 i (i - 1) li li1) := swp_within li li1 (by omega) (by omega) (by omega) (by omega)
   have W3 := W1.trans w3
   refine pis_k6 S W hc o3 (by omega) hai hd2 (by omega) (by omega) (hp.within W3) (fun p q h1 h2 h3 h4 h5 h6 => ?_) fun h4 G4 W4 s4 o4 => hY (5 - (s + 1)) _ _ (by omega) ⟨s + 1, i, G4, by omega, rfl, hai, by omega, s4, W3.trans W4, o4⟩
   rw [swp_at li li1 h6 (by omega), if_neg h4, if_neg (by omega), swp_at li li1 h5 (by omega), if_neg (by omega), if_neg (by omega)]
   exact s2 p q h1 h2 h3 _ _
 ·have e : i = b := by omega
  subst e
  have heq : V.bin .eql (.int .i64 (i : Int)) (.int .i64 (i : Int)) = some (.bool true) := by rw [V.bin_eql]; simp
  simp -dsimp only [hd2, decide_false, B.gd_t, B.gdb_false, B.pick_f, B.cond_false, heq, B.cond_true, B.pv_some]
  exact hq hh G1 true W1 (fun _ => s2) o2
end
variable {C C0 : CSem} {fL : Nat} {N : Nat → Nat}
section
variable {E : ElOps} {X : Type} {cs : X → List AVal} {v : X → AVal} {h0 h : AHeap} {x f : AVal} {G : List X} {R : List (List AVal)} {Q : AVal → AHeap → Prop} {a b : Nat}
theorem breakPatterns_spec {f1 f2 : Nat} (hn : NextI C0 f1) (hp : PowI C0 f2) (S : SeqSpec E cs v) (ho : Rw E cs h0 h x G R) (hl : G.length ≤ 100000000) (hab : a ≤ b) (hb : b ≤ G.length)
  (hq : ∀ h' G', Within a b G G' → Rw E cs h0 h' x G' R → Q (.tup []) h') : slices_breakPatternsT.cps C E C0 fL f1 f2 x (.int .i64 (a : Int)) (.int .i64 (b : Int)) f h Q := by
 obtain ⟨n, en⟩ : ∃ n, n = b - a := ⟨_, rfl⟩
 have e1 := subNN hab (show b < 4611686018427387904 by omega)
 rw [← en] at e1
 have g8 : V.bin .geq (.int .i64 (n : Int)) (.int .i64 8) = some (.bool (decide (8 ≤ n))) := geqN (b := 8)
 simp -dsimp only [slices_breakPatternsT.cps, slices_breakPatternsT.k8, e1, g8, B.pv_some]
 refine B.cond_bool (fun hd => ?_) (fun hd => hq h G (Within.refl _ _ _) ho)
 rw [decide_eq_true_eq] at hd
 simp -dsimp only [slices_breakPatternsT.k7, toUN (show n < 18446744073709551616 by omega), B.pv_some]
 intro id hid
 have o := Owns.newBox ho hid [.int .u64 0]
 simp only [List.cons_append, List.nil_append] at o
 refine o.boxSt 1 (off := 0) rfl rfl (by simp) fun h1 o1 _ => ?_
 simp only [List.set_cons_succ, List.set_cons_zero] at o1
 refine hp n _ _ (by omega) (by omega) fun m hm0 hm => ?_
 have m4 : V.bin .quo (.int .i64 (n : Int)) (.int .i64 4) = some (.int .i64 ((n / 4 : Nat) : Int)) := quo4 (by omega)
 have m2 : V.bin .mul (.int .i64 ((n / 4 : Nat) : Int)) (.int .i64 2) = some (.int .i64 ((n / 4 * 2 : Nat) : Int)) := mulN (a := n / 4) (b := 2) (by omega)
 have m5 : V.bin .add (.int .i64 (a : Int)) (.int .i64 ((n / 4 * 2 : Nat) : Int)) = some (.int .i64 ((a + n / 4 * 2 : Nat) : Int)) := addNN (by omega)
 simp -dsimp only [slices_breakPatternsT.k6, m4, m2, m5, sub1 (show 1 ≤ a + n / 4 * 2 by omega) (by omega), B.pv_some]
 refine LoopR.intro (fun t vs hh => ∃ (i : Nat) (G' : List X) (z : Int), i + t = a + n / 4 * 2 + 2 ∧ vs = [.int .i64 (i : Int)] ∧ a ≤ i ∧ Within a b G G' ∧ Owns h0 hh [.sl E.es x (G'.map cs) R, .box (.ptr id 0 0) [.int .u64 z]]) 3 ?_ ⟨a + n / 4 * 2 - 1, G, _, by omega, rfl, by omega, Within.refl _ _ _, o1⟩
 rintro Y t vs hh ⟨i, G1, z, hit, rfl, hai, W1, o2⟩ hY
 have l1 := W1.len
 simp -dsimp only [slices_breakPatternsT.l5, slices_breakPatternsT.k4, m4, m2, m5, add1 (show a + n / 4 * 2 < 4611686018427387904 by omega), leqN, B.pv_some]
 refine B.cond_bool (fun he => ?_) (fun he => hq hh G1 W1 (o2.sub (by simp)))
 rw [decide_eq_true_eq] at he
 have oo := Owns.out (l1 := [.sl E.es x (G1.map cs) R]) (l2 := [.box (.ptr id 0 0) [.int .u64 z]]) o2
 simp -dsimp only [slices_breakPatternsT.k3]
 refine hn _ _ _ _ _ oo.2 fun w z' h3 o3 => ?_
 have o4 := oo.1.join o3
 have s1 : V.bin .sub (.int .u64 (m : Int)) (.int .u64 1) = some (.int .u64 ((m - 1 : Nat) : Int)) := by
  rw [V.bin_sub, show (m : Int) - 1 = ((m - 1 : Nat) : Int) by omega, wrapU (by omega)]
 obtain ⟨ot, hot, ea⟩ := and_le (z := w) (m := m - 1) (by omega)
 simp -dsimp only [s1, ea, toIN (show ot < 4611686018427387904 by omega), B.pv_some, slices_breakPatternsT.k2, geqN]
 have fin : ∀ k : Nat, k < n → slices_breakPatternsT.k1 C E C0 fL f1 f2 Q Y x (.int .i64 (a : Int)) (.int .i64 (n : Int)) (.ptr id 0 0) (.int .u64 (m : Int)) (.int .i64 (i : Int)) (.int .i64 (k : Int)) h3 := fun k hk => by
  have la : a + k < G1.length := by omega
  have li : i < G1.length := by omega
  have op := Owns.perm o4 (List.Perm.swap _ _ [])
  have oq := Owns.out (l1 := [.box (.ptr id 0 0) [.int .u64 z']]) (l2 := [.sl E.es x (G1.map cs) R]) op
  have orw : Rw E cs _ h3 x G1 R := oq.2
  simp -dsimp only [slices_breakPatternsT.k1, addNN (show a + k < 4611686018427387904 by omega), orw.idx la, orw.idx li, B.pv_some]
  refine orw.ld S (List.getElem?_eq_getElem la) ?_
  refine orw.ld S (List.getElem?_eq_getElem li) ?_
  refine orw.swap S li la fun h5 o5 => ?_
  simp -dsimp only [add1 (show i < 4611686018427387904 by omega), B.pv_some]
  have o6 := oq.1.join o5
  exact hY (a + n / 4 * 2 + 2 - (i + 1)) _ _ (by omega) ⟨i + 1, _, z', by omega, rfl, by omega, W1.trans (swp_within li la (by omega) (by omega) (by omega) (by omega)), o6.perm (List.Perm.swap _ _ [])⟩
 refine B.cond_bool (fun hf => ?_) (fun hf => ?_)
 ·rw [decide_eq_true_eq] at hf
  simp -dsimp only [subNN hf (show ot < 4611686018427387904 by omega), B.pv_some]
  exact fin (ot - n) (by omega)
 ·rw [decide_eq_false_iff_not] at hf
  exact fin ot (by omega)
end
section
variable {X : Type} {c : X → X → Int} {a b m A0 Z0 : Nat} {G G' : List X}
end
structure PdqI (C : CSem) (E : ElOps) (C0 : CSem) (fL : Nat) (f1 f2 f3 f4 f5 f6 f7 f8 f9 g1 g2 g3 g4 g5 g6 : Nat) : Prop where
 eq : I5 (slices_partitionEqualT.cps C E C0 fL) C f1
 part : I5 (slices_partitionT.cps C E C0 fL) C f2
 pdq : I5 (slices_pdqsortT.cps C E C0 fL f1 f2 f3 f4 f5 f6 f7 f8 f9) C f3
 pis : I4 (slices_partialInsertionSortT.cps C E C0 fL) C f4
 rev : I4 (slices_reverseRangeT.cps C E C0 fL) C f5
 piv : I4 (slices_choosePivotT.cps C E C0 fL g2 g3) C f6
 brk : I4 (slices_breakPatternsT.cps C E C0 fL g5 g6) C f7
 heap : I4 (slices_heapSortT.cps C E C0 fL g4) C f8
 ins : I4 (slices_insertionSortT.cps C E C0 fL) C f9
 ord : O2I C E C0 fL g1
 med : MedI C E C0 fL g1 g2
 adj : AdjI C E C0 fL g2 g3
 sift : SiftI C E C0 fL g4
 next : NextI C0 g5
 pow : PowI C0 g6
section
variable {E : ElOps} {X : Type} {cs : X → List AVal} {v : X → AVal} {h0 h : AHeap} {x f : AVal} {G : List X} {R : List (List AVal)} {c : X → X → Int} {Q : AVal → AHeap → Prop} {Y : List AVal → AHeap → Prop} {f1 f2 f3 f4 f5 f6 f7 f8 f9 g1 g2 g3 g4 g5 g6 : Nat}
theorem pdq_k1 (J : PdqI C E C0 fL f1 f2 f3 f4 f5 f6 f7 f8 f9 g1 g2 g3 g4 g5 g6) (S : SeqSpec E cs v) (W : Weak (lessC c)) (hc : CmpSpec C0 v c fL h0) {A0 Z0 a b : Nat} {G0 : List X} {lim : Int} {w1 w2 : Bool} {pv : Nat} (p : PS E cs h0 x R c A0 Z0 G0 a b G h) (hl : G.length ≤ 100000000) (hBl : Z0 ≤ G.length)
  (h1 : a ≤ pv) (h2 : pv < b)
  (rcs : ∀ (a' b' : Nat) (lim : Int) (h : AHeap) (G : List X) (Q : AVal → AHeap → Prop), b' - a' < b - a → a' ≤ b' → b' ≤ G.length → G.length ≤ 100000000 → Pre c a' b' G → Rw E cs h0 h x G R → (∀ h' G', Within a' b' G G' → Srt c a' b' G' → Rw E cs h0 h' x G' R → Q (.tup []) h') →
   C f3 [x, .int .i64 (a' : Int), .int .i64 (b' : Int), .int .i64 lim, f] h Q)
  (hY : Go1 E cs h0 x R c A0 Z0 G0 (b - a) Y) :
  slices_pdqsortT.k1 C E C0 fL f1 f2 f3 f4 f5 f6 f7 f8 f9 Q Y x (.int .i64 (a : Int)) (.int .i64 (b : Int)) (.int .i64 lim) f (.bool w1) (.bool w2) (.int .i64 ((b - a : Nat) : Int)) (.int .i64 (pv : Int)) h := by
 have hA := p.hA; have hB := p.hB; have o := p.o
 have lp : pv < G.length := by omega
 have part : slices_pdqsortT.k1 C E C0 fL f1 f2 f3 f4 f5 f6 f7 f8 f9 Q Y x (.int .i64 (a : Int)) (.int .i64 (b : Int)) (.int .i64 lim) f (.bool w1) (.bool w2) (.int .i64 ((b - a : Nat) : Int)) (.int .i64 (pv : Int)) h =
  slices_pdqsortT.k1 C E C0 fL f1 f2 f3 f4 f5 f6 f7 f8 f9 Q Y x (.int .i64 (a : Int)) (.int .i64 (b : Int)) (.int .i64 lim) f (.bool w1) (.bool w2) (.int .i64 ((b - a : Nat) : Int)) (.int .i64 (pv : Int)) h := rfl
 clear part
 have part : C f2 [x, .int .i64 (a : Int), .int .i64 (b : Int), .int .i64 (pv : Int), f] h (fun v111 h =>
  B.pv (V.ext 0 v111) fun v112 =>
  B.pv (V.ext 1 v111) fun v113 =>
  B.pv (V.bin .sub v112 (.int .i64 (a : Int))) fun v117 =>
  B.pv (V.bin .sub (.int .i64 (b : Int)) v112) fun v120 =>
  B.pv (V.bin .quo (.int .i64 ((b - a : Nat) : Int)) (.int .i64 8)) fun v122 =>
  B.pv (V.bin .lss v117 v120) fun v125 =>
  B.cond v125
  (B.pv (V.bin .geq v117 v122) fun v128 =>
  B.call C f3 [x, .int .i64 (a : Int), v112, .int .i64 lim, f] h fun v134 h =>
  B.pv (V.bin .add v112 (.int .i64 1)) fun v136 =>
  Y [v136, .int .i64 (b : Int), .int .i64 lim, v128, v113] h)
  (B.pv (V.bin .geq v120 v122) fun v139 =>
  B.pv (V.bin .add v112 (.int .i64 1)) fun v142 =>
  B.call C f3 [x, v142, .int .i64 (b : Int), .int .i64 lim, f] h fun v146 h =>
  Y [.int .i64 (a : Int), v112, .int .i64 lim, v139, v113] h)) := by
  refine J.part _ _ _ _ _ _ _ (partition_spec S hc o (by omega) h1 h2 (by omega) fun h3 m G3 t pt W3 o3 => dn_same ?_)
  have p3 := p.turn W3 o3
  have l3 := W3.len
  have m1 := pt.ge; have m2 := pt.lt
  have q8 : V.bin .quo (.int .i64 ((b - a : Nat) : Int)) (.int .i64 8) = some (.int .i64 (((b - a) / 8 : Nat) : Int)) := by
   rw [V.bin_quo _ _ _ (by omega), show ((b - a : Nat) : Int).tdiv 8 = (((b - a) / 8 : Nat) : Int) from rfl, wrap_i64 (by omega) (by omega)]
  simp -dsimp only [V.ext_tup, List.getElem?_cons_zero, List.getElem?_cons_succ, B.pv_some, subNN m1 (show m < 4611686018427387904 by omega), subNN (show m ≤ b by omega) (show b < 4611686018427387904 by omega), q8, lssN, geqN, add1 (show m < 4611686018427387904 by omega)]
  refine B.cond_bool (fun hd => ?_) (fun hd => ?_)
  ·simp -dsimp only [geqN, add1 (show m < 4611686018427387904 by omega), B.pv_some]
   refine rcs a m lim _ G3 _ (by omega) m1 (by omega) (by omega) (p3.pre.sub (by omega)) o3 fun h4 G4 W4 s4 o4 => ?_
   have pt4 := pt.left W W4
   have cut4 := (p3.cut.within (W4.mono (Nat.le_refl _) (by omega)) hA hB).left W pt4 s4
   simp -dsimp only [add1 (show m < 4611686018427387904 by omega), B.pv_some]
   exact hY (m + 1) b lim _ _ G4 h4 (by omega) ⟨by omega, by omega, hB, p3.W.trans (W4.mono hA (by omega)), cut4, cut4.pre (by omega) hB, o4⟩
  ·have c3 : Pre c (m + 1) b G3 := fun h0 i k1 k2 k3 k4 => pt.pair W (p := m + 1 - 1) (q := i) (by omega) (by omega) k2 (by omega) (by omega) k4 k3
   simp -dsimp only [geqN, add1 (show m < 4611686018427387904 by omega), B.pv_some]
   refine rcs (m + 1) b lim _ G3 _ (by omega) (by omega) (by omega) (by omega) c3 o3 fun h4 G4 W4 s4 o4 => ?_
   have pt4 := pt.right W W4
   have W4' : Within a b G3 G4 := W4.mono (by omega) (Nat.le_refl _)
   have cut4 := (p3.cut.within W4' hA hB).right W pt4 s4
   exact hY a m lim _ _ G4 h4 (by omega) ⟨hA, m1, by omega, p3.W.trans (W4.mono (by omega) hB), cut4, (p3.pre.within W4').sub (by omega), o4⟩
 simp -dsimp only [slices_pdqsortT.k1]
 have g0 : V.bin .gtr (.int .i64 (a : Int)) (.int .i64 0) = some (.bool (decide (0 < a))) := gtrN (b := 0)
 simp -dsimp only [g0, B.pv_some]
 by_cases ha : 0 < a
 ·have la : a - 1 < G.length := by omega
  simp -dsimp only [ha, decide_true, B.gd_t, B.gdb_true, sub1 (show 1 ≤ a by omega) (show a < 4611686018427387904 by omega), o.idx la, o.idx lp, B.pv_some]
  refine o.ld S (List.getElem?_eq_getElem la) ?_
  refine o.ld S (List.getElem?_eq_getElem lp) ?_
  refine hc.call _ _ _ _ o.le ?_
  simp -dsimp only [ha, decide_true, B.gd_t, B.gdb_true, V.bin_lss, V.un_not, B.pick_t, B.pv_some]
  refine B.cond_bool (fun he => ?_) (fun he => part)
  have hd : ¬ c G[a - 1] G[pv] < 0 := by simpa using he
  refine J.eq _ _ _ _ _ _ _ (partitionEqual_spec S hc o (by omega) h1 h2 (by omega) fun h3 i j G3 pe hji W3 e3 o3 => dn_same ?_)
  have p3 := p.turn W3 o3
  have l3 := W3.len
  have k1 := pe.hi; have k2 := pe.hij; have k3 := pe.hj
  have cut4 := p3.cut.equal W pe hji ha p3.pre (by omega) fun q1 q2 => by
   rw [e3 q2 lp, W3.same (.inl (by omega)) q1 la]; exact hd
  exact hY i b lim _ _ G3 h3 (by omega) ⟨by omega, by omega, hB, p3.W, cut4, cut4.pre (by omega) hB, o3⟩
 ·simp -dsimp only [ha, decide_false, B.gd_t, B.gdb_false, B.pick_f, B.cond_false]
  exact part
theorem pdq_spec (J : PdqI C E C0 fL f1 f2 f3 f4 f5 f6 f7 f8 f9 g1 g2 g3 g4 g5 g6) (S : SeqSpec E cs v) (W : Weak (lessC c)) (hc : CmpSpec C0 v c fL h0) : ∀ (n : Nat) (A0 Z0 : Nat) (lim : Int) (h : AHeap) (G : List X) (Q : AVal → AHeap → Prop), Z0 - A0 = n → A0 ≤ Z0 → Z0 ≤ G.length → G.length ≤ 100000000 → Pre c A0 Z0 G → Rw E cs h0 h x G R →
  (∀ h' G', Within A0 Z0 G G' → Srt c A0 Z0 G' → Rw E cs h0 h' x G' R → Q (.tup []) h') → slices_pdqsortT.cps C E C0 fL f1 f2 f3 f4 f5 f6 f7 f8 f9 x (.int .i64 (A0 : Int)) (.int .i64 (Z0 : Int)) (.int .i64 lim) f h Q := by
 intro n
 induction n using Nat.strongRecOn with
 | ind n ih =>
 intro A0 Z0 lim h G0 Q hn hAB hBl hl hpre ho hq
 simp -dsimp only [slices_pdqsortT.cps]
 refine LoopR.intro (fun t vs hh => ∃ (a b : Nat) (lim : Int) (w1 w2 : Bool) (G : List X), t = b - a ∧ vs = [.int .i64 (a : Int), .int .i64 (b : Int), .int .i64 lim, .bool w1, .bool w2] ∧ PS E cs h0 x R c A0 Z0 G0 a b G hh) (Z0 - A0) ?_
  ⟨A0, Z0, lim, true, true, G0, rfl, rfl, ⟨Nat.le_refl _, hAB, Nat.le_refl _, Within.refl _ _ _, fun p q _ _ _ k => by omega, hpre, ho⟩⟩
 rintro Y t vs hh ⟨a, b, lim, w1, w2, G, rfl, rfl, p⟩ hY'
 have hY : Go1 E cs h0 x R c A0 Z0 G0 (b - a) Y := fun a' b' lim' w1' w2' G' h' hlt p' => hY' (b' - a') _ _ hlt ⟨a', b', lim', w1', w2', G', rfl, rfl, p'⟩
 clear hY'
 have hA := p.hA; have hab := p.hab; have hB := p.hB
 have lG := p.W.len
 have rcs : ∀ (a' b' : Nat) (lim : Int) (h : AHeap) (G : List X) (Q : AVal → AHeap → Prop), b' - a' < b - a → a' ≤ b' → b' ≤ G.length → G.length ≤ 100000000 → Pre c a' b' G → Rw E cs h0 h x G R → (∀ h' G', Within a' b' G G' → Srt c a' b' G' → Rw E cs h0 h' x G' R → Q (.tup []) h') →
   C f3 [x, .int .i64 (a' : Int), .int .i64 (b' : Int), .int .i64 lim, f] h Q := fun a' b' lim h G Q k1 k2 k3 k4 k5 k6 k7 =>
  J.pdq _ _ _ _ _ _ _ (ih (b' - a') (by omega) a' b' lim h G _ rfl k2 k3 k4 k5 k6 fun h' G' w s o => dn_same (k7 h' G' w s o))
 have fin : ∀ {hh G G2}, PS E cs h0 x R c A0 Z0 G0 a b G hh → ∀ h', Within a b G G2 → Srt c a b G2 → Rw E cs h0 h' x G2 R → Q (.tup []) h' := fun p h' w s o => by
  have p2 := p.turn w o
  exact hq h' _ p2.W (p2.cut.join s) o
 have e12 : V.bin .leq (.int .i64 ((b - a : Nat) : Int)) (.int .i64 12) = some (.bool (decide (b - a ≤ 12))) := leqN (b := 12)
 simp -dsimp only [slices_pdqsortT.l8, subNN hab (show b < 4611686018427387904 by omega), B.pv_some, slices_pdqsortT.k7, e12]
 refine B.cond_bool (fun hd => ?_) (fun hd => ?_)
 ·exact J.ins _ _ _ _ _ _ (insertion_srt S W hc p.o (by omega) hab (by omega) fun h' G' w s o => dn_same (fin p h' w s o))
 rw [decide_eq_false_iff_not] at hd
 simp -dsimp only [slices_pdqsortT.k6, V.bin_eql, B.pv_some]
 refine B.cond_bool (fun _ => ?_) (fun _ => ?_)
 ·exact J.heap _ _ _ _ _ _ (heapSort_spec J.sift S W hc p.o (by omega) (by omega) (by omega) fun h' G' w s o => dn_same (fin p h' w s o))
 have k4 : ∀ {hh G} (lim : Int), PS E cs h0 x R c A0 Z0 G0 a b G hh → slices_pdqsortT.k4 C E C0 fL f1 f2 f3 f4 f5 f6 f7 f8 f9 Q Y x (.int .i64 (a : Int)) (.int .i64 (b : Int)) (.int .i64 lim) f (.bool w1) (.bool w2) (.int .i64 ((b - a : Nat) : Int)) hh := fun {hh G} lim p => by
  have lG := p.W.len
  simp -dsimp only [slices_pdqsortT.k4]
  refine J.piv _ _ _ _ _ _ (choosePivot_spec J.ord J.med J.adj S (Owns.slAt p.o 0 rfl) p.o.le hc (by omega) (by omega) (by omega) fun m hint h2 m1 m2 hle => dn_same ?_)
  have p2 : PS E cs h0 x R c A0 Z0 G0 a b G h2 := ⟨p.hA, p.hab, p.hB, p.W, p.cut, p.pre, Owns.grow p.o hle⟩
  simp -dsimp only [V.ext_tup, List.getElem?_cons_zero, List.getElem?_cons_succ, B.pv_some, slices_pdqsortT.k3, V.bin_eql]
  have k2 : ∀ {hh G} (pv : Nat) (hint : Int), a ≤ pv → pv < b → PS E cs h0 x R c A0 Z0 G0 a b G hh → slices_pdqsortT.k2 C E C0 fL f1 f2 f3 f4 f5 f6 f7 f8 f9 Q Y x (.int .i64 (a : Int)) (.int .i64 (b : Int)) (.int .i64 lim) f (.bool w1) (.bool w2) (.int .i64 ((b - a : Nat) : Int)) (.int .i64 (pv : Int)) (.int .i64 hint) hh := fun {hh G} pv hint q1 q2 p => by
   have lG := p.W.len
   have go := pdq_k1 (Q := Q) (lim := lim) (w1 := w1) (w2 := w2) J S W hc p (by omega) (by omega) q1 q2 rcs hY
   simp -dsimp only [slices_pdqsortT.k2]
   have two : B.cond (.bool true) (B.call C f4 [x, .int .i64 (a : Int), .int .i64 (b : Int), f] hh fun v80 h =>
     B.cond v80 (Q (.tup []) h) (slices_pdqsortT.k1 C E C0 fL f1 f2 f3 f4 f5 f6 f7 f8 f9 Q Y x (.int .i64 (a : Int)) (.int .i64 (b : Int)) (.int .i64 lim) f (.bool w1) (.bool w2) (.int .i64 ((b - a : Nat) : Int)) (.int .i64 (pv : Int)) h))
     (slices_pdqsortT.k1 C E C0 fL f1 f2 f3 f4 f5 f6 f7 f8 f9 Q Y x (.int .i64 (a : Int)) (.int .i64 (b : Int)) (.int .i64 lim) f (.bool w1) (.bool w2) (.int .i64 ((b - a : Nat) : Int)) (.int .i64 (pv : Int)) hh) := by
    rw [B.cond_true]
    refine J.pis _ _ _ _ _ _ (partialInsertionSort_spec S W hc p.o (by omega) (by omega) (by omega) p.pre fun h' G' t w s o => dn_same ?_)
    have p' := p.turn w o
    have lG' := p'.W.len
    refine B.cond_bool (fun ht => fin p h' w (s ht) o) (fun _ => ?_)
    exact pdq_k1 (Q := Q) (lim := lim) (w1 := w1) (w2 := w2) J S W hc p' (by omega) (by omega) q1 q2 rcs hY
   cases w1 <;> cases w2
   ·simp -dsimp only [B.gd_t, B.gdb_false, B.pick_f, B.cond_false]; exact go
   ·simp -dsimp only [B.gd_t, B.gdb_false, B.pick_f, B.cond_false]; exact go
   ·simp -dsimp only [B.gd_t, B.gdb_true, B.gdb_false, B.pick_t, B.pick_f, B.cond_false]; exact go
   ·by_cases hh1 : hint = 1
    ·simp -dsimp only [B.gd_t, B.gdb_true, V.bin_eql, hh1, decide_true, B.pv_some, B.pick_t]; exact two
    ·simp -dsimp only [B.gd_t, B.gdb_true, V.bin_eql, hh1, decide_false, B.pv_some, B.pick_t, B.cond_false]; exact go
  refine B.cond_bool (fun _ => ?_) (fun _ => k2 m hint m1 m2 p2)
  refine J.rev _ _ _ _ _ _ (reverseRange_spec S (by omega) p2.o (by omega) (by omega) fun h3 G3 w3 o3 => dn_same ?_)
  simp -dsimp only [sub1 (show 1 ≤ b by omega) (show b < 4611686018427387904 by omega), subNN m1 (show m < 4611686018427387904 by omega), subNN (show m - a ≤ b - 1 by omega) (show b - 1 < 4611686018427387904 by omega), B.pv_some]
  exact k2 (b - 1 - (m - a)) 1 (by omega) (by omega) (p2.turn w3 o3)
 simp -dsimp only [slices_pdqsortT.k5, V.un_not, B.pv_some]
 refine B.cond_bool (fun _ => ?_) (fun _ => k4 lim p)
 refine J.brk _ _ _ _ _ _ (breakPatterns_spec J.next J.pow S p.o (by omega) hab (by omega) fun h' G' w o => dn_same ?_)
 simp -dsimp only [V.bin_sub, B.pv_some]
 exact k4 _ (p.turn w o)
end
end Go.Ab.Ord
set_option maxRecDepth 100000
namespace Go.Ab
def Cst (C : CSem) : CSem := fun f args h Q => C f args.dropLast h Q
abbrev J4 (F : AVal → AVal → AVal → AVal → AHeap → (AVal → AHeap → Prop) → Prop) (C : CSem) (n : Nat) : Prop := ∀ (v0 v1 v2 v3 : AVal) (h : AHeap) (Q : AVal → AHeap → Prop), F v0 v1 v2 v3 h (dn Q) → C n [v0, v1, v2, v3] h Q
abbrev J3 (F : AVal → AVal → AVal → AHeap → (AVal → AHeap → Prop) → Prop) (C : CSem) (n : Nat) : Prop := ∀ (v0 v1 v2 : AVal) (h : AHeap) (Q : AVal → AHeap → Prop), F v0 v1 v2 h (dn Q) → C n [v0, v1, v2] h Q
structure OrdI (C : CSem) (E : ElOps) (fL e p q s r v b k n ad md o2 sd nx pw : Nat) : Prop where
 eq : J4 (slices_partitionEqualOrderedG.cps C E fL) C e
 part : J4 (slices_partitionOrderedG.cps C E fL) C p
 pdq : J4 (slices_pdqsortOrderedG.cps C E fL e p q s r v b k n) C q
 pis : J3 (slices_partialInsertionSortOrderedG.cps C E fL) C s
 rev : J3 (slices_reverseRangeOrderedG.cps C E) C r
 piv : J3 (slices_choosePivotOrderedG.cps C E ad md) C v
 brk : J3 (slices_breakPatternsOrderedG.cps C E nx pw) C b
 heap : J3 (slices_heapSortOrderedG.cps C E sd) C k
 ins : J3 (slices_insertionSortOrderedG.cps C E fL) C n
 adj : J3 (slices_medianAdjacentOrderedG.cps C E md) C ad
 med : ∀ (v0 v1 v2 v3 v4 : AVal) (h : AHeap) (Q : AVal → AHeap → Prop), slices_medianOrderedG.cps C E o2 v0 v1 v2 v3 v4 h (dn Q) → C md [v0, v1, v2, v3, v4] h Q
 ord : J4 (slices_order2OrderedG.cps C E fL) C o2
 sift : J4 (slices_siftDownOrderedG.cps C E fL) C sd
 next : NextI C nx
 pow : PowI C pw
theorem e4 {F : AVal → AVal → AVal → AVal → AVal → AHeap → (AVal → AHeap → Prop) → Prop} {G : AVal → AVal → AVal → AVal → AHeap → (AVal → AHeap → Prop) → Prop} {C : CSem} {f : Nat} (i : J4 G C f) (e : ∀ v0 v1 v2 v3 v4 h Q, F v0 v1 v2 v3 v4 h Q = G v0 v1 v2 v3 h Q) : I5 F (Cst C) f :=
 fun v0 v1 v2 v3 v4 h Q x => i v0 v1 v2 v3 h Q (by rw [← e v0 v1 v2 v3 v4]; exact x)
theorem e3 {F : AVal → AVal → AVal → AVal → AHeap → (AVal → AHeap → Prop) → Prop} {G : AVal → AVal → AVal → AHeap → (AVal → AHeap → Prop) → Prop} {C : CSem} {f : Nat} (i : J3 G C f) (e : ∀ v0 v1 v2 v3 h Q, F v0 v1 v2 v3 h Q = G v0 v1 v2 h Q) : I4 F (Cst C) f :=
 fun v0 v1 v2 v3 h Q x => i v0 v1 v2 h Q (by rw [← e v0 v1 v2 v3]; exact x)
section
variable {C : CSem} {E : ElOps} {fL e p q s r v b k n ad md o2 sd nx pw : Nat}
theorem t_eq : ∀ v0 v1 v2 v3 v4 h Q, slices_partitionEqualT.cps (Cst C) E C fL v0 v1 v2 v3 v4 h Q = slices_partitionEqualOrderedG.cps C E fL v0 v1 v2 v3 h Q := by intros; kernel_rfl
theorem t_part : ∀ v0 v1 v2 v3 v4 h Q, slices_partitionT.cps (Cst C) E C fL v0 v1 v2 v3 v4 h Q = slices_partitionOrderedG.cps C E fL v0 v1 v2 v3 h Q := by intros; kernel_rfl
theorem t_pdq : ∀ v0 v1 v2 v3 v4 h Q, slices_pdqsortT.cps (Cst C) E C fL e p q s r v b k n v0 v1 v2 v3 v4 h Q = slices_pdqsortOrderedG.cps C E fL e p q s r v b k n v0 v1 v2 v3 h Q := by intros; kernel_rfl
theorem t_pis : ∀ v0 v1 v2 v3 h Q, slices_partialInsertionSortT.cps (Cst C) E C fL v0 v1 v2 v3 h Q = slices_partialInsertionSortOrderedG.cps C E fL v0 v1 v2 h Q := by intros; kernel_rfl
theorem t_rev : ∀ v0 v1 v2 v3 h Q, slices_reverseRangeT.cps (Cst C) E C fL v0 v1 v2 v3 h Q = slices_reverseRangeOrderedG.cps C E v0 v1 v2 h Q := by intros; kernel_rfl
theorem t_piv : ∀ v0 v1 v2 v3 h Q, slices_choosePivotT.cps (Cst C) E C fL md ad v0 v1 v2 v3 h Q = slices_choosePivotOrderedG.cps C E ad md v0 v1 v2 h Q := by intros; kernel_rfl
theorem t_brk : ∀ v0 v1 v2 v3 h Q, slices_breakPatternsT.cps (Cst C) E C fL nx pw v0 v1 v2 v3 h Q = slices_breakPatternsOrderedG.cps C E nx pw v0 v1 v2 h Q := by intros; kernel_rfl
theorem t_heap : ∀ v0 v1 v2 v3 h Q, slices_heapSortT.cps (Cst C) E C fL sd v0 v1 v2 v3 h Q = slices_heapSortOrderedG.cps C E sd v0 v1 v2 h Q := by intros; kernel_rfl
theorem t_ins : ∀ v0 v1 v2 v3 h Q, slices_insertionSortT.cps (Cst C) E C fL v0 v1 v2 v3 h Q = slices_insertionSortOrderedG.cps C E fL v0 v1 v2 h Q := by intros; kernel_rfl
theorem t_adj : ∀ v0 v1 v2 v3 h Q, slices_medianAdjacentT.cps (Cst C) E C fL md v0 v1 v2 v3 h Q = slices_medianAdjacentOrderedG.cps C E md v0 v1 v2 h Q := by intros; kernel_rfl
theorem t_med : ∀ v0 v1 v2 v3 v4 v5 h Q, slices_medianT.cps (Cst C) E C fL o2 v0 v1 v2 v3 v4 v5 h Q = slices_medianOrderedG.cps C E o2 v0 v1 v2 v3 v4 h Q := by intros; kernel_rfl
theorem t_ord : ∀ v0 v1 v2 v3 v4 h Q, slices_order2T.cps (Cst C) E C fL v0 v1 v2 v3 v4 h Q = slices_order2OrderedG.cps C E fL v0 v1 v2 v3 h Q := by intros; kernel_rfl
theorem t_sift : ∀ v0 v1 v2 v3 v4 h Q, slices_siftDownT.cps (Cst C) E C fL v0 v1 v2 v3 v4 h Q = slices_siftDownOrderedG.cps C E fL v0 v1 v2 v3 h Q := by intros; kernel_rfl
theorem OrdI.toT (J : OrdI C E fL e p q s r v b k n ad md o2 sd nx pw) : Ord.PdqI (Cst C) E C fL e p q s r v b k n o2 md ad sd nx pw where
 eq := e4 J.eq t_eq
 part := e4 J.part t_part
 pdq := e4 J.pdq t_pdq
 pis := e3 J.pis t_pis
 rev := e3 J.rev t_rev
 piv := e3 J.piv t_piv
 brk := e3 J.brk t_brk
 heap := e3 J.heap t_heap
 ins := e3 J.ins t_ins
 ord := e4 J.ord t_ord
 med := fun v0 v1 v2 v3 v4 v5 h Q x => J.med v0 v1 v2 v3 v4 h Q (by rw [← t_med (C := C) (fL := fL) v0 v1 v2 v3 v4 v5]; exact x)
 adj := e3 J.adj t_adj
 sift := e4 J.sift t_sift
 next := J.next
 pow := J.pow
theorem Sort_spec {X : Type} {cs : X → List AVal} {v' : X → AVal} {h0 h : AHeap} {x : AVal} {G : List X} {R : List (List AVal)} {c : X → X → Int} {Q : AVal → AHeap → Prop} {fl : Nat} (J : OrdI C E fL e p q s r v b k n ad md o2 sd nx pw) (hlen : LenI C fl) (S : SeqSpec E cs v') (W : Weak (lessC c))
  (hc : Ord.CmpSpec C v' c fL h0) (hl : G.length ≤ 100000000) (ho : Rw E cs h0 h x G R) (hq : ∀ h' G', G'.Perm G → G'.Pairwise (fun s t => ¬ c t s < 0) → Rw E cs h0 h' x G' R → Q (.tup []) h') : slices_SortG.cps C E fl q x h Q := by
 simp -dsimp only [slices_SortG.cps, slices_SortG.k1, ho.lenE, toUN (show G.length < 18446744073709551616 by omega), B.pv_some]
 refine hlen _ _ _ hl fun r hr _ => ?_
 refine J.pdq _ _ _ _ _ _ ?_
 rw [← t_pdq (C := C) _ _ _ _ .nilf]
 refine Ord.pdq_spec J.toT S W hc _ 0 G.length r h G _ rfl (by omega) (Nat.le_refl _) hl (fun h => by omega) ho fun h' G' w s o => dn_same ?_
 refine hq h' G' w.perm ?_ o
 rw [List.pairwise_iff_getElem]
 intro i j hi hj hij
 have := w.len
 exact s i j (by omega) hij (by omega) hi hj
end
end Go.Ab
namespace Go.Ab
theorem flat_take {α : Type} {n : Nat} : ∀ {css : List (List α)}, (∀ cs ∈ css, cs.length = n) → ∀ k : Nat, (css.take k).flatten = css.flatten.take (k * n)
 | [], _, k => by simp
 | c :: css, hl, 0 => by simp
 | c :: css, hl, k + 1 => by
  have hc : c.length = n := hl c (by simp)
  rw [List.take_succ_cons, List.flatten_cons, List.flatten_cons, flat_take (fun p hp => hl p (by simp [hp])) k, Nat.add_mul, Nat.one_mul, show k * n + n = c.length + k * n by omega, List.take_length_add_append]
theorem flat_drop {α : Type} {n : Nat} : ∀ {css : List (List α)}, (∀ cs ∈ css, cs.length = n) → ∀ k : Nat, (css.drop k).flatten = css.flatten.drop (k * n)
 | [], _, k => by simp
 | c :: css, hl, 0 => by simp
 | c :: css, hl, k + 1 => by
  have hc : c.length = n := hl c (by simp)
  rw [List.drop_succ_cons, List.flatten_cons, flat_drop (fun p hp => hl p (by simp [hp])) k, Nat.add_mul, Nat.one_mul, show k * n + n = c.length + k * n by omega, List.drop_length_add_append]
theorem lay_read {cells Z F : List AVal} {off lo T : Nat} (h5 : (cells.drop off).take T = F) (hF : F.length = T) (hh : off + T ≤ cells.length) (hz : lo + Z.length ≤ T) :
  ((cells.take (off + lo) ++ Z ++ cells.drop (off + lo + Z.length)).drop off).take T = F.take lo ++ Z ++ F.drop (lo + Z.length) := by
 subst h5
 apply List.ext_getElem?
 intro k
 by_cases hk : k < T
 ·rw [List.getElem?_take_of_lt hk, List.getElem?_drop, List.append_assoc, List.append_assoc]
  have l1 : (cells.take (off + lo)).length = off + lo := by simp; omega
  have l2 : (((cells.drop off).take T).take lo).length = lo := by simp; omega
  rw [get_splice _ _ _ l1, get_splice _ _ _ l2, show off + k - (off + lo) = k - lo by omega]
  by_cases k1 : k < lo
  ·rw [if_pos (by omega), if_pos k1, List.getElem?_take_of_lt (by omega), List.getElem?_take_of_lt (by omega), List.getElem?_take_of_lt (by omega), List.getElem?_drop]
  ·rw [if_neg (by omega), if_neg k1]
   split
   ·rfl
   ·rw [List.getElem?_drop, List.getElem?_drop, List.getElem?_take_of_lt (by omega), List.getElem?_drop]
    congr 1
    omega
 ·rw [List.getElem?_take_eq_none (by omega), List.getElem?_eq_none]
  simp
  omega
section
variable {h h0 : AHeap} {es : Nat} {x : AVal} {L R : List (List AVal)} {l : List Ob}
theorem SlX.clrTail {lo : Nat} {z : List AVal} {K : AVal → AHeap → Prop} (ho : SlX h es x L R) (hown : ∀ id b, foot x = some id → h id = some b → b.own = true) (hz : z.length = es) (hlo : lo ≤ L.length)
  (hk : ∀ h', SlX h' es x (L.take lo ++ List.replicate (L.length - lo) z) R → (∀ id b, foot x = some id → h' id = some b → b.own = true) → But x h h' → K (.tup []) h') :
  ∃ y, V.cutSl es x (some (.int .i64 (lo : Int))) none = some y ∧ A.clr h (some z) y K := by
 rcases ho.at_ with ⟨e, e', e''⟩ | ⟨id, g, off, cp, b, hi, h1, h1', h2, h3, h4, hh, h5⟩
 ·subst e e'
  have : lo = 0 := by simpa using hlo
  subst this
  refine ⟨x, ?_, ?_⟩
  ·rcases e'' with rfl | rfl <;> rfl
  ·have := hk h (by simpa using ho) hown (fun _ _ h _ => h)
   rcases e'' with rfl | rfl <;> exact this
 ·subst h1
  refine ⟨.sl id g (off + lo * es) (L.length - lo) es (max L.length cp - lo), ?_, ?_⟩
  ·simp only [V.cutSl, endsC_eq (.inr ⟨_, rfl⟩) (.inl ⟨rfl, rfl⟩)]
   rw [if_pos ⟨hlo, by omega⟩]
   simp
  ·simp only [A.clr]
   split
   ·rename_i h0
    refine hk h ?_ hown (fun _ _ h _ => h)
    rw [h0, List.take_of_length_le (by omega)]
    simpa using ho
   ·rename_i hne
    have hown' := hown id b rfl h2
    generalize hZ : (List.replicate (L.length - lo) z).flatten = Z
    have hzl : Z.length = (L.length - lo) * es := by rw [← hZ]; simp [hz]
    have hTl : (L ++ R).length = L.length + R.length := by simp
    have hmul : lo * es + (L.length - lo) * es = L.length * es := by rw [← Nat.add_mul]; congr 1; omega
    have hmul2 : L.length * es + R.length * es = (L.length + R.length) * es := by rw [← Nat.add_mul]
    have hbl : Nat.ble (0 + (off + lo * es) + (L.length - lo) * es) hi = true := by rw [Nat.ble_eq]; omega
    have hput : V.putN (off + lo * es) ((L.length - lo) * es) (.agg Z) b.cells = some (b.cells.take (off + lo * es) ++ Z ++ b.cells.drop (off + lo * es + (L.length - lo) * es)) := by
     simp only [V.putN]; rw [if_pos ⟨hzl, by omega⟩]
    simp only [A.stv, h2, h3, hown', hbl, Bool.true_and, cond_true, hput, A.ph]
    have rd := lay_read (cells := b.cells) (Z := Z) (off := off) (lo := lo * es) h5 (by rw [flat_len ho.len, hTl]) (by omega) (by rw [hzl]; omega)
    have hnew : (L.take lo ++ List.replicate (L.length - lo) z ++ R).flatten = (L ++ R).flatten.take (lo * es) ++ Z ++ (L ++ R).flatten.drop (lo * es + Z.length) := by
     rw [List.flatten_append, List.flatten_append, hZ, hzl, hmul, ← flat_take ho.len, ← flat_drop ho.len, List.take_append_of_le_length hlo, List.drop_left]
    rw [← hnew, hzl] at rd
    have hll : (L.take lo ++ List.replicate (L.length - lo) z).length = L.length := by simp; omega
    have hlen' : ∀ p ∈ L.take lo ++ List.replicate (L.length - lo) z ++ R, p.length = es := fun p hp => by
     rcases List.mem_append.1 hp with hp | hp
     ·rcases List.mem_append.1 hp with hp | hp
      ·exact ho.len p (List.mem_append_left _ (List.mem_of_mem_take hp))
      ·rw [(List.mem_replicate.1 hp).2]; exact hz
     ·exact ho.len p (List.mem_append_right _ hp)
    refine hk _ ⟨hlen', .inr ⟨id, g, off, cp, _, hi, by rw [hll], by rw [hll]; exact h1', upd_same .., lookup_self .., by rw [hll]; exact h4, ?_, by simp only; rw [hll]; exact rd⟩⟩ (fun j b1 hj hb1 => ?_) (fun j b1 e1 e2 => ?_)
    ·simp; omega
    ·cases hj
     rw [upd_same] at hb1; cases hb1; rfl
    ·rw [upd_other]
     ·exact e1
     ·intro e; subst e; exact e2 rfl
theorem Owns.clrTail {lo : Nat} {z : List AVal} {K : AVal → AHeap → Prop} (ho : Owns h0 h l) (k : Nat) (hk : l[k]? = some (.sl es x L R)) (hz : z.length = es) (hlo : lo ≤ L.length)
  (hK : ∀ h', Owns h0 h' (l.set k (.sl es x (L.take lo ++ List.replicate (L.length - lo) z) R)) → But x h h' → K (.tup []) h') :
  ∃ y, V.cutSl es x (some (.int .i64 (lo : Int))) none = some y ∧ A.clr h (some z) y K :=
 (ho.slAt k hk).clrTail (ho.ownAt k hk) hz hlo fun h' h1 h2 h3 => hK h' (ho.turn k hk h1 h2 h3 (.inl rfl)) h3
def Exact (x : AVal) : Prop := x = .nils ∨ x = .sz ∨ ∃ id g off len es, x = .sl id g off len es 0
theorem SlX.cut3x (hs : SlX h es x L R) {k : Nat} {j1 j2 j3 : IntKind} (hk : k ≤ L.length) :
  ∃ x', V.cut3 es x (.int j1 0) (.int j2 (k : Int)) (.int j3 (k : Int)) = some x' ∧ SlX h es x' (L.take k) [] ∧ (foot x' = foot x ∨ foot x' = none ∧ k = 0) ∧ Exact x' ∧ (k = 0 → x' = .nils ∨ x' = .sz) := by
 rcases hs.at_ with ⟨e, e', e''⟩ | ⟨id, g, off, cp, bk, hh, k1, k1', k2, k3, k4, k5, k6⟩
 ·subst e e'
  simp only [List.length_nil, Nat.le_zero_eq] at hk
  subst hk
  rcases e'' with rfl | rfl
  ·exact ⟨.nils, rfl, ⟨by simp, .inl ⟨rfl, rfl, .inl rfl⟩⟩, .inl rfl, .inl rfl, fun _ => .inl rfl⟩
  ·exact ⟨.sz, rfl, ⟨by simp, .inl ⟨rfl, rfl, .inr rfl⟩⟩, .inl rfl, .inr (.inl rfl), fun _ => .inr rfl⟩
 ·subst k1
  have h1 : (0 : Int) ≤ (k : Int) := by omega
  by_cases k0 : k = 0
  ·subst k0
   refine ⟨.sz, ?_, SlX.sz h es, .inr ⟨rfl, rfl⟩, .inr (.inl rfl), fun _ => .inr rfl⟩
   simp only [V.cut3, V.asNat, Int.le_refl, if_true, Int.toNat_natCast, show ((0 : Nat) : Int) = 0 from rfl, show (0 : Int).toNat = 0 from rfl]
   rw [if_pos ⟨Nat.le_refl _, Nat.le_refl _, by omega, trivial⟩]
  refine ⟨.sl id g off k es 0, ?_, ⟨fun p hp => hs.len p (List.mem_append_left _ (List.mem_of_mem_take (by simpa using hp))), .inr ⟨id, g, off, 0, bk, hh, ?_, ?_, k2, k3, ?_, k5, ?_⟩⟩, .inl rfl, .inr (.inr ⟨_, _, _, _, _, rfl⟩), fun h => absurd h k0⟩
  ·simp only [V.cut3, V.asNat, Int.le_refl, if_true, h1, Int.toNat_natCast, show (0 : Int).toNat = 0 from rfl]
   rw [if_pos ⟨by omega, Nat.le_refl _, by omega, trivial⟩, if_neg k0]
   simp
  ·simp; omega
  ·simp only [List.length_take, List.length_nil]; omega
  ·have : k * es ≤ (L.length + R.length) * es := Nat.mul_le_mul_right _ (by omega)
   simp only [List.length_take, List.length_nil, Nat.min_eq_left hk, Nat.add_zero]
   omega
  ·have : k * es ≤ (L.length + R.length) * es := Nat.mul_le_mul_right _ (by omega)
   simp only [List.length_take, List.length_nil, Nat.min_eq_left hk, Nat.add_zero, List.append_nil]
   have e1 : (L.take k).flatten = (L ++ R).flatten.take (k * es) := by
    rw [← flat_take hs.len, List.take_append_of_le_length hk]
   rw [e1, ← k6, List.take_take, Nat.min_eq_left this]
end
end Go.Ab
namespace Go.Ab
variable {C : CSem}
theorem Owns.frame (hC : CGood C) {h0 h : AHeap} {l : List Ob} (ho : Owns h0 h l) {f : Nat} {args : List AVal} {K K' : AVal → AHeap → Prop} (x : C f args h0 K) (hk : ∀ v h1 h', K v h1 → Owns h1 h' l → K' v h') : C f args h K' :=
 hC.mono _ _ _ _ _ (fun v h' ⟨h1, k1, k2, k3⟩ => hk v h1 h' k1 ⟨k2, fun o hm => (ho.is o hm).keep fun i b hf hb => (k3 i (ho.own o hm i hf).1 b hb).1,
  fun o hm i hf => by
   obtain ⟨b, hb⟩ := (ho.is o hm).known hf
   obtain ⟨m1, m2⟩ := k3 i (ho.own o hm i hf).1 b hb
   exact ⟨m2, fun c hc => by rw [m1] at hc; cases hc; exact (ho.own o hm i hf).2 b hb⟩, ho.apart⟩) (hC.frame _ _ _ _ _ ho.le x)
def Iter (C : CSem) (g : Nat) (first caps : List AVal) (D : AHeap → Prop) (xs : List (List AVal)) : Prop :=
 ∀ (id : Nat) (I : Nat → AHeap → Prop) (Z : AHeap → Prop) (h : AHeap) (Q : AVal → AHeap → Prop), (∀ k h, I k h → D h) →
  (∀ k x h, xs[k]? = some x → I k h → C yieldF (mkY id :: x) h fun v h' => (v = .bool true ∧ I (k + 1) h') ∨ (v = .bool false ∧ Z h')) →
  I 0 h → (∀ h, I xs.length h → Q (.tup []) h) → (∀ h, Z h → Q (.tup []) h) → C g (first ++ [.yld id] ++ caps) h Q
theorem range_iter {g : Nat} {first caps : List AVal} {D : AHeap → Prop} {xs : List (List AVal)} {W : List AVal → AHeap → (Nat → AHeap → Prop) → Prop} {h : AHeap} {K : Nat → AHeap → Prop} (hi : Iter C g first caps D xs) (hD : ∀ h h', h.le h' → D h → D h')
  (J X : Nat → AHeap → Prop) (hJ : ∀ k h, J k h → D h) (round : ∀ k x h E, xs[k]? = some x → J k h → (∀ h', J (k + 1) h' → E 0 h') → (∀ j h', X j h' → E (j + 1) h') → W x h E)
  (h0 : J 0 h) (hend : ∀ h, J xs.length h → K 0 h) (hX : ∀ j h, X j h → K (j + 1) h) : RangeG C (.fn g first caps) W h K := by
 intro mk _ id hid hround
 refine hi id (fun k h2 => ∃ h1 : AHeap, h1 id = none ∧ h2 = upd h1 id (mk 0) ∧ J k h1) (fun h2 => ∃ (j : Nat) (h1 : AHeap), h1 id = none ∧ h2 = upd h1 id (mk (j + 1)) ∧ X j h1) _ _ ?_ ?_ ⟨h, hid, rfl, h0⟩ ?_ ?_
 ·rintro k _ ⟨h1, e, rfl, hj⟩
  exact hD _ _ (le_upd _ e) (hJ k h1 hj)
 ·rintro k x _ hx ⟨h1, e, rfl, hj⟩
  exact hround x h1 _ e (round k x h1 _ hx hj (fun h' hj' => ⟨h', AHeap.le_refl h', fun e' => .inl ⟨rfl, h', e', rfl, hj'⟩⟩) fun j h' hx' => ⟨h', AHeap.le_refl h', fun e' => .inr ⟨rfl, j, h', e', rfl, hx'⟩⟩)
 ·rintro _ ⟨h1, e, rfl, hj⟩
  exact ⟨0, h1, e, AHeap.le_refl _, hend h1 hj⟩
 ·rintro _ ⟨j, h1, e, rfl, hx⟩
  exact ⟨j + 1, h1, e, AHeap.le_refl _, hX j h1 hx⟩
theorem RK.here {k : Nat} {p : AHeap → Prop} {r : List (Nat × (AHeap → Prop))} {h : AHeap} (x : p h) : RK ((k, p) :: r) k h := .inl ⟨rfl, x⟩
theorem RK.there {k j : Nat} {p : AHeap → Prop} {r : List (Nat × (AHeap → Prop))} {h : AHeap} (x : RK r j h) : RK ((k, p) :: r) j h := .inr x
theorem B.callv_yld {id : Nat} {args : List AVal} {h : AHeap} {K : AVal → AHeap → Prop} : B.callv h C (.yld id) args K = C yieldF (mkY id :: args) h K := rfl
def disown (h : AHeap) (ids : List Nat) : AHeap := ⟨fun i => bif memB ids i then (h i).map fun b => { b with own := false } else h i, by
 obtain ⟨N, k⟩ := h.2
 refine ⟨N, fun i hi => ?_⟩
 have e : h i = none := k i hi
 show (bif memB ids i then (h i).map _ else h i) = none
 rw [e]; cases memB ids i <;> rfl⟩
theorem disown_off {h : AHeap} {ids : List Nat} {i : Nat} (hi : memB ids i = false) : disown h ids i = h i := by
 show (bif memB ids i then _ else h i) = h i
 rw [hi]; rfl
theorem disown_on {h : AHeap} {ids : List Nat} {i : Nat} (hi : memB ids i = true) : disown h ids i = (h i).map fun b => { b with own := false } := by
 show (bif memB ids i then _ else h i) = _
 rw [hi]; rfl
theorem disown_blk {h : AHeap} {ids : List Nat} {i : Nat} {b : Blk} (hb : disown h ids i = some b) : ∃ c, h i = some c ∧ b.cells = c.cells ∧ b.gens = c.gens ∧ b.next = c.next ∧ b.obj = c.obj ∧ (b.own = true → c.own = true) := by
 cases hm : memB ids i with
 | false => rw [disown_off hm] at hb; exact ⟨b, hb, rfl, rfl, rfl, rfl, id⟩
 | true =>
  rw [disown_on hm] at hb
  cases hc : h i with
  | none => rw [hc] at hb; cases hb
  | some c => rw [hc] at hb; cases hb; exact ⟨c, rfl, rfl, rfl, rfl, rfl, fun h => by cases h⟩
theorem R.disown {w0 : World} {ρ : Locs} {H : AHeap} {w : World} (h : R w0 ρ H w) (ids : List Nat) : R w0 ρ (Ab.disown H ids) w where
 below := h.below
 fin := by
  obtain ⟨N, k⟩ := h.fin
  refine ⟨N, fun i hi => ⟨?_, (k i hi).2⟩⟩
  cases e : Ab.disown H ids i with
  | none => rfl
  | some b => obtain ⟨c, hc, _⟩ := disown_blk e; rw [(k i hi).1] at hc; cases hc
 blk := fun id b hb => by
  obtain ⟨c, hc, e1, e2, e3, e4, e5⟩ := disown_blk hb
  have k := h.blk id c hc
  refine ⟨by rw [e3]; exact k.nxt, fun g hi hm => ?_, fun g hi g' hi' hm hm' => k.align g hi g' hi' (by rw [← e2]; exact hm) (by rw [← e2]; exact hm'), fun o ho => by rw [e2]; exact k.obj o (by rw [← e4]; exact ho)⟩
  obtain ⟨q1, L, arr, e, fr, q2, q3, q4, q5, q6, q7⟩ := k.gen g hi (by rw [← e2]; exact hm)
  exact ⟨by rw [e1]; exact q1, L, arr, e, fr, q2, q3, q4, q5, fun ho => q6 (e5 ho), by rw [e1]; exact q7⟩
 sep := fun i j bi bj hne hi hj ho gi hgi gj hgj => by
  obtain ⟨ci, hci, _, e2, _, _, e5⟩ := disown_blk hi
  obtain ⟨cj, hcj, _, e2', _, _, _⟩ := disown_blk hj
  exact h.sep i j ci cj hne hci hcj (e5 ho) gi (by rw [← e2]; exact hgi) gj (by rw [← e2']; exact hgj)
 osep := fun i j bi bj hne hi hj ho ho' => by
  obtain ⟨ci, hci, _, _, _, e4, _⟩ := disown_blk hi
  obtain ⟨cj, hcj, _, _, _, e4', _⟩ := disown_blk hj
  exact h.osep i j ci cj hne hci hcj (by rw [← e4]; exact ho) (by rw [← e4']; exact ho')
def CDis (C : CSem) : Prop := ∀ f args (h : AHeap) (ids : List Nat) (K : AVal → AHeap → Prop), (∀ i, memB ids i = true → ∃ b, h i = some b) → C f args (disown h ids) K → C f args h K
theorem AC_dis (P : Program) : CDis (AC P) := by
 intro f args h ids K hk x w0 ρ H w va h1 h2 h3
 have hle : (disown h ids).le (disown H ids) := fun i b hb => by
  cases hm : memB ids i with
  | false => rw [disown_off hm] at hb ⊢; exact h1 i b hb
  | true =>
   rw [disown_on hm] at hb ⊢
   cases hc : h i with
   | none => rw [hc] at hb; cases hb
   | some c => rw [hc] at hb; rw [h1 i c hc]; exact hb
 refine (x w0 ρ _ w va hle (h2.disown ids) h3).mono fun e w' ⟨v, e1, e2⟩ => ⟨v, e1, ?_⟩
 obtain ⟨a, ρ', h', H', k1, k2, k3, k4, k5, k6⟩ := e2.ex
 refine ⟨⟨a, ρ', h', H', k1, k2, k3, k4, fun i hi b hb => ?_, k6⟩⟩
 have hm : memB ids i = false := by
  cases hm : memB ids i with
  | false => rfl
  | true => obtain ⟨c, hc⟩ := hk i hm; rw [hi] at hc; cases hc
 exact k5 i (by rw [disown_off hm]; exact hi) b (by rw [disown_off hm]; exact hb)
theorem SlX.disown {h : AHeap} {es : Nat} {x : AVal} {L R : List (List AVal)} (hs : SlX h es x L R) (ids : List Nat) : SlX (Ab.disown h ids) es x L R := by
 refine ⟨hs.len, ?_⟩
 rcases hs.at_ with e | ⟨id, g, off, cp, b, hi, h1, h1', h2, h3, h4, hh, h5⟩
 ·exact .inl e
 ·refine .inr ⟨id, g, off, cp, (bif memB ids id then { b with own := false } else b), hi, h1, h1', ?_, ?_, h4, ?_, ?_⟩
  ·cases hm : memB ids id with
   | false => rw [disown_off hm]; exact h2
   | true => rw [disown_on hm, h2]; rfl
  all_goals cases memB ids id <;> assumption
theorem SlX.appE {h : AHeap} {es bytes : Nat} {x y : AVal} {L R M R' : List (List AVal)} {K : AVal → AHeap → Prop} (ho : SlX h es x L R) (he : Exact x) (hx0 : L = [] → x = .nils ∨ x = .sz) (hno : ∀ id b, foot x = some id → h id = some b → b.own = false) (hs : SlX h es y M R') (hes : 0 < es) (hM : M ≠ []) (hb : (L.length + M.length) * bytes ≤ 140737488355328) (hm : L.length + M.length ≤ maxLen)
  (hk : ∀ x' h', Owns h h' [.sl es x' (L ++ M) []] → K x' h') : A.appW h es bytes x y K := by
 unfold A.appW
 rw [hs.srcLen]
 simp only
 rw [hs.rdv]
 have hMl : ∀ p ∈ M, p.length = es := fun p hp => hs.len p (List.mem_append_left _ hp)
 have hl := flat_len hMl
 have hd : M.flatten.length / es = M.length := by rw [hl, Nat.mul_div_cancel _ hes]
 have hM0 : 0 < M.length := List.length_pos_iff.2 hM
 have hfl : M.flatten.length ≠ 0 := by
  rw [hl]
  have := Nat.mul_pos hM0 hes
  omega
 have hall : ∀ p ∈ (L ++ M) ++ [], p.length = es := fun p hp => by
  rw [List.append_nil] at hp
  rcases List.mem_append.1 hp with hp | hp
  ·exact ho.len p (List.mem_append_left _ hp)
  ·exact hMl p hp
 have h0 := ho.cut
 rcases h0.at_ with ⟨e, _, e'⟩ | ⟨id, g, off, cp, b, hi, h1, h1', h2, h3, h4, hh, h5⟩
 ·subst e
  simp only [List.length_nil, Nat.zero_add] at hb hm
  rcases e' with rfl | rfl <;> simp only [A.app, hfl, if_false, hd] <;> exact ⟨hb, hm, fun id hid => hk _ _ (by
   have := (Owns.start h).newSl (es := es) (L := M) (R := []) (cp := M.length) (n := M.length) hid (by simpa using hall) rfl (by simp) (cs := M.flatten) (by simp)
   simpa using this)⟩
 ·have hno' := hno id b (by rw [h1]; rfl) h2
  subst h1
  have hcp : cp = 0 := by
   rcases he with e | e | ⟨_, _, _, _, _, e⟩ <;> cases e
   rfl
  simp only [List.length_nil, Nat.add_zero, List.append_nil] at h4 h5
  by_cases hL : L = []
  ·rcases hx0 hL with e | e <;> cases e
  ·have hL0 : 0 < L.length := List.length_pos_iff.2 hL
   simp only [A.app, h2, h3, hd, hno', cond_false]
   refine ⟨⟨trivial, hcp, hL0, hM0, h4, hh, hb, hm⟩, fun id' hid => hk _ _ ?_⟩
   rw [h5]
   have := (Owns.start h).newSl (es := es) (L := L ++ M) (R := []) (cp := L.length + M.length) (n := L.length + M.length) hid hall (by simp) (by simp) (cs := L.flatten ++ M.flatten) (by simp)
   simpa using this
end Go.Ab
namespace Go.Ab
variable {C : CSem} {N : Nat → Nat}
def Window.has (a : Window) (day : Int) : Bool := a.right && decide (a.From ≤ day) && decide (day < a.Until)
def window_Has.Spec (C : CSem) (N : Nat → Nat) : Prop := ∀ (a b day : Int) (h : AHeap) (Q : AVal → AHeap → Prop), Q (.bool (Window.has ⟨a, b⟩ day)) h → C (N 7) [.agg [.int .i64 a, .int .i64 b], .int .i64 day] h Q
theorem window_Has.spec (i : window_Has.Imp C N) (s1 : window_Right.Spec C N) : window_Has.Spec C N := by
 intro a b day h Q hq
 apply i
 simp +contextual -dsimp
 refine s1 _ _ _ _ ?_
 simp +contextual -dsimp
 exact dn_same hq
def tick (L : List Window) (j : Nat) : Int := ((L.countP fun w => decide (w.From = (j : Int)) : Nat) : Int) - ((L.countP fun w => decide (w.Until = (j : Int)) : Nat) : Int)
def opn (L : List Window) : Nat → Int
 | 0 => 0
 | d + 1 => opn L d + tick L d
def rowStep (L : List Window) (out : List Window) (d : Nat) : List Window :=
 if opn L d = 0 ∧ 0 < opn L (d + 1) then out ++ [⟨d, 0⟩]
 else if 0 < opn L d ∧ opn L (d + 1) = 0 then out.dropLast ++ [⟨(out.getLast?.getD .zero).From, d⟩]
 else out
def rowsTo (L : List Window) : Nat → List Window
 | 0 => []
 | d + 1 => rowStep L (rowsTo L d) d
def rows (L : List Window) : List Window := if L.all Window.right then rowsTo L 4002 else []
theorem rowsTo_len (L : List Window) : ∀ d, (rowsTo L d).length ≤ d
 | 0 => Nat.le_refl _
 | d + 1 => by
  have := rowsTo_len L d
  unfold rowsTo rowStep
  split
  ·simp; omega
  ·split
   ·simp; omega
   ·omega
theorem tick_le (L : List Window) (j : Nat) : -(L.length : Int) ≤ tick L j ∧ tick L j ≤ L.length := by
 have h1 := List.countP_le_length (l := L) (p := fun w => decide (w.From = (j : Int)))
 have h2 := List.countP_le_length (l := L) (p := fun w => decide (w.Until = (j : Int)))
 unfold tick
 omega
theorem opn_eq (L : List Window) (hL : ∀ w ∈ L, w.right = true) : ∀ d : Nat, opn L d = ((L.countP fun w => decide (w.From < (d : Int)) : Nat) : Int) - ((L.countP fun w => decide (w.Until < (d : Int)) : Nat) : Int)
 | 0 => by
  have h1 : L.countP (fun w => decide (w.From < 0)) = 0 := by
   rw [List.countP_eq_zero]; intro w hw; have := hL w hw; simp [Window.right] at this; simp; omega
  have h2 : L.countP (fun w => decide (w.Until < 0)) = 0 := by
   rw [List.countP_eq_zero]; intro w hw; have := hL w hw; simp [Window.right] at this; simp; omega
  simp [opn, h1, h2]
 | d + 1 => by
  rw [opn, opn_eq L hL d, tick]
  have key : ∀ f : Window → Int, (L.countP fun w => decide (f w < ((d + 1 : Nat) : Int))) = (L.countP fun w => decide (f w < ((d : Nat) : Int))) + L.countP fun w => decide (f w = (d : Int)) := fun f => by
   clear hL
   induction L with
   | nil => rfl
   | cons w r ih =>
    simp only [List.countP_cons, decide_eq_true_eq]
    rw [ih]
    split <;> split <;> split <;> omega
  have k1 := key Window.From
  have k2 := key Window.Until
  omega
theorem opn_le (L : List Window) (hL : ∀ w ∈ L, w.right = true) (d : Nat) : 0 ≤ opn L d ∧ opn L d ≤ L.length := by
 rw [opn_eq L hL]
 have h1 := List.countP_le_length (l := L) (p := fun w => decide (w.From < (d : Int)))
 have h2 : L.countP (fun w => decide (w.Until < (d : Int))) ≤ L.countP (fun w => decide (w.From < (d : Int))) := List.countP_mono_left fun w hw h => by
  have := hL w hw; simp [Window.right] at this; simp at h ⊢; omega
 omega
theorem rowsTo_open (L : List Window) (hL : ∀ w ∈ L, w.right = true) : ∀ d, 0 < opn L d → (rowsTo L d) ≠ []
 | 0 => fun h => by simp [opn] at h
 | d + 1 => fun h => by
  have h0 := opn_le L hL d
  unfold rowsTo rowStep
  split
  ·simp
  ·split
   ·simp
   ·rename_i h1 h2
    exact rowsTo_open L hL d (by omega)
abbrev tks (f : Nat → Int) : List AVal := fill 4002 fun j => .int .i64 (f j)
def window_Rows.Spec (C : CSem) (N : Nat → Nat) : Prop := ∀ (x : AVal) (L : List Window) (R : List (List AVal)) (h : AHeap) (Q : AVal → AHeap → Prop), SlX h 2 x (L.map Window.cs) R → L.length < 4611686018427387904 →
 (∀ x' h', Owns h h' [.sl 2 x' ((rows L).map Window.cs) []] → Q x' h') → C (N 10) [x] h Q
theorem window_Rows.loop1 (L : List Window) (hL : ∀ w ∈ L, w.right = true) (hlen : L.length < 4611686018427387904) {h h1 : AHeap} {p : AVal} {Q : AVal → AHeap → Prop} (ho : Owns h h1 [.box p (tks (tick L))])
  (hq : ∀ x' h', Owns h h' [.sl 2 x' ((rowsTo L 4002).map Window.cs) []] → Q x' h') : LoopR (window_Rows.l2 C N (dn Q) p) [.nils, .int .i64 0, .int .i64 0] h1 := by
 refine LoopR.intro (fun n vs hh => ∃ d x, d + n = 4002 ∧ vs = [x, .int .i64 (opn L d), .int .i64 d] ∧ Owns h hh [.box p (tks (tick L)), .sl 2 x ((rowsTo L d).map Window.cs) []]) 4002 ?_ ⟨0, .nils, by simp, by simp [opn], ho.nils 2⟩
 rintro Y n vs hh ⟨d, x, hn, rfl, ho⟩ hY
 have hle := rowsTo_len L d
 have hop := opn_le L hL d
 have hop1 := opn_le L hL (d + 1)
 have hod : opn L (d + 1) = opn L d + tick L d := rfl
 simp +contextual -dsimp
 refine B.cond_bool (fun hb => ?_) (fun hb => ?_) <;> simp +contextual -dsimp at hb ⊢
 ·have hd : d < 4002 := by omega
  obtain ⟨id, rfl, hbx⟩ := ho.boxAt 0 rfl
  have ht := tick_le L d
  have e1 : A.ldv hh (.ptr id 0 d) = some (.int .i64 (tick L d)) := by rw [ldv_at hbx, fill_get _ hd]
  have e2 : V.idxA 4002 1 (.ptr id 0 0) (.int .i64 d) = some (.ptr id 0 d) := by simp [V.idxA]; omega
  have e3 : IntKind.i64.wrap (opn L d + tick L d) = opn L (d + 1) := by rw [wrap_i64 (by omega) (by omega)]; rfl
  have e4 : IntKind.i64.wrap ((d : Int) + 1) = ((d + 1 : Nat) : Int) := by rw [wrap_i64 (by omega) (by omega)]; omega
  simp +contextual -dsimp [e1, e2, e3]
  refine B.cond_bool (fun hc => ?_) (fun hc => ?_) <;> simp +contextual -dsimp at hc ⊢
  ·refine ho.push 1 rfl rfl (by omega) (by simp; omega) (by simp [maxLen]; omega) fun x' h' ho' _ => ?_
   simp [e4]
   refine hY (4001 - d) _ _ (by omega) ⟨d + 1, x', by omega, by simp, ?_⟩
   have hr : rowsTo L (d + 1) = rowsTo L d ++ [⟨d, 0⟩] := by simp only [rowsTo, rowStep]; rw [if_pos hc]
   rw [hr, List.map_append]
   exact ho'
  ·refine B.cond_bool (fun hd2 => ?_) (fun hd2 => ?_) <;> simp +contextual -dsimp at hd2 ⊢
   ·have hne := rowsTo_open L hL d (by omega)
    have hln : 0 < (rowsTo L d).length := List.length_pos_iff.2 hne
    have hx := ho.slAt 1 rfl
    have e5 : IntKind.i64.wrap (((rowsTo L d).length : Int) - 1) = (((rowsTo L d).length - 1 : Nat) : Int) := by rw [wrap_i64 (by omega) (by omega)]; omega
    have e6 := hx.lenSl
    simp only [List.length_map] at e6
    have hl2 : (rowsTo L d).length - 1 < ((rowsTo L d).map Window.cs).length := by simp; omega
    simp [e6, e5, hx.idxN hl2, hx.fieldA hl2]
    have hlast : (rowsTo L d)[(rowsTo L d).length - 1]? = some ((rowsTo L d).getLast hne) := by rw [List.getLast_eq_getElem]; simp
    refine ho.st 1 rfl (c := Window.cs ((rowsTo L d).getLast hne)) (by simp [hlast]) (by omega) (by simp) fun h' ho' _ => ?_
    simp [e4]
    refine hY (4001 - d) _ _ (by omega) ⟨d + 1, x, by omega, by simp, ?_⟩
    have hr : rowsTo L (d + 1) = (rowsTo L d).set ((rowsTo L d).length - 1) ⟨((rowsTo L d).getLast hne).From, d⟩ := by
     simp only [rowsTo, rowStep]
     rw [if_neg (by omega), if_pos (by omega), List.getLast?_eq_some_getLast hne]
     exact dropLast_set hne _
    rw [hr]
    simpa using ho'
   ·simp [e4]
    refine hY (4001 - d) _ _ (by omega) ⟨d + 1, x, by omega, by simp, ?_⟩
    have hr : rowsTo L (d + 1) = rowsTo L d := by
     simp only [rowsTo, rowStep]
     rw [if_neg (by omega), if_neg (by omega)]
    rw [hr]; exact ho
 ·have : d = 4002 := by omega
  subst this
  exact dn_same (hq _ _ (ho.sub (by simp)))
end Go.Ab
namespace Go.Ab
variable {C : CSem} {N : Nat → Nat}
def cmpInt (a b : Int) : Int := if a < b then -1 else if b < a then 1 else 0
def orInt (a b : Int) : Int := if a = 0 then b else a
def cmp_isNaN_int.Spec (C : CSem) (N : Nat → Nat) : Prop := ∀ (a : Int) (h : AHeap) (Q : AVal → AHeap → Prop), Q (.bool false) h → C (N 171) [.int .i64 a] h Q
theorem cmp_isNaN_int.spec (i : cmp_isNaN_int.Imp C N) : cmp_isNaN_int.Spec C N := by
 intro a h Q hq
 apply i
 simp -dsimp
 exact dn_same hq
def cmp_Compare_int.Spec (C : CSem) (N : Nat → Nat) : Prop := ∀ (a b : Int) (h : AHeap) (Q : AVal → AHeap → Prop), Q (.int .i64 (cmpInt a b)) h → C (N 157) [.int .i64 a, .int .i64 b] h Q
theorem cmp_Compare_int.spec (i : cmp_Compare_int.Imp C N) (s1 : cmp_isNaN_int.Spec C N) : cmp_Compare_int.Spec C N := by
 intro a b h Q hq
 apply i
 simp -dsimp
 refine s1 _ _ _ ?_
 refine s1 _ _ _ ?_
 simp -dsimp
 refine B.cond_bool (fun hb => ?_) (fun hb => ?_) <;> simp -dsimp at hb ⊢
 ·rw [cmpInt, if_pos hb] at hq; exact dn_same hq
 ·refine B.cond_bool (fun hc => ?_) (fun hc => ?_) <;> simp -dsimp at hc ⊢
  ·rw [cmpInt, if_neg (by omega), if_pos hc] at hq; exact dn_same hq
  ·rw [cmpInt, if_neg (by omega), if_neg (by omega)] at hq; exact dn_same hq
def cmp_Or_int.Spec (C : CSem) (N : Nat → Nat) : Prop := ∀ (x : AVal) (a b : Int) (R : List (List AVal)) (h : AHeap) (Q : AVal → AHeap → Prop), SlX h 1 x [[.int .i64 a], [.int .i64 b]] R → Q (.int .i64 (orInt a b)) h → C (N 158) [x] h Q
theorem cmp_Or_int.spec (i : cmp_Or_int.Imp C N) : cmp_Or_int.Spec C N := by
 intro x a b R h Q hx hq
 apply i
 have e1 := hx.lenSl
 have e2 : V.idxS 1 x (.int .i64 0) = some (elp 1 x 0 0) := hx.idxN (i := 0) (by simp)
 have e3 : V.idxS 1 x (.int .i64 1) = some (elp 1 x 1 0) := hx.idxN (i := 1) (by simp)
 have e4 := hx.cell (i := 0) (c := .int .i64 a) rfl
 have e5 := hx.cell (i := 1) (c := .int .i64 b) rfl
 have w1 : IntKind.i64.wrap 1 = 1 := wrap_i64 (by omega) (by omega)
 have w2 : IntKind.i64.wrap 2 = 2 := wrap_i64 (by omega) (by omega)
 simp -dsimp [e1]
 intro Y hY
 refine hY _ _ ?_
 simp -dsimp [e2, e4, w1]
 refine B.cond_bool (fun hb => ?_) (fun hb => ?_) <;> simp -dsimp at hb ⊢
 ·rw [orInt, if_neg hb] at hq; exact dn_same hq
 ·rw [orInt, if_pos hb] at hq
  refine hY _ _ ?_
  simp -dsimp [e3, e5, w1, w2]
  refine B.cond_bool (fun hc => ?_) (fun hc => ?_) <;> simp -dsimp at hc ⊢
  ·exact dn_same hq
  ·refine hY _ _ ?_
   simp -dsimp [w1, w2]
   rw [hc] at hq; exact dn_same hq
def lotCmp (a b : Lot) : Int := orInt (cmpInt a.Until b.Until) (cmpInt a.Id b.Id)
theorem lotCmp_neg (a b : Lot) : lotCmp a b < 0 ↔ a.Until < b.Until ∨ (a.Until = b.Until ∧ a.Id < b.Id) := by
 unfold lotCmp orInt cmpInt
 repeat' split
 all_goals omega
theorem lotW : Weak (lessC lotCmp) where
 asym {a b} h := by
  simp only [lessC, decide_eq_true_eq, decide_eq_false_iff_not, lotCmp_neg] at *
  omega
 ntrans {a b c} h k := by
  simp only [lessC, decide_eq_false_iff_not, lotCmp_neg] at *
  omega
def lot_Compare.Spec (C : CSem) (N : Nat → Nat) : Prop := ∀ (a b : Lot) (h : AHeap) (Q : AVal → AHeap → Prop), Q (.int .i64 (lotCmp a b)) h → C (N 144) [.agg a.cs, .agg b.cs] h Q
theorem lot_Compare.spec (i : lot_Compare.Imp C N) (s1 : cmp_Compare_int.Spec C N) (s2 : cmp_Or_int.Spec C N) : lot_Compare.Spec C N := by
 intro a b h Q hq
 apply i
 simp -dsimp
 refine s1 _ _ _ _ ?_
 refine s1 _ _ _ _ ?_
 simp -dsimp [repL]
 intro id hid
 refine s2 _ _ _ [] _ _ (SlX.lit (upd_same ..) (by simp) rfl (by simp) rfl) ?_
 exact dn_le (le_upd _ hid) hq
def lotE : ElOps := opsF 6 56 [.int .i64 0, .str [], .int .i64 0, .int .i64 0, .int .i64 0, .bool false] 0 []
theorem lotS : SeqSpec lotE Lot.cs (fun l => .agg l.cs) := seqF (by omega) (by omega) rfl fun _ => rfl
theorem clone_spec {E : ElOps} {X : Type} {cs : X → List AVal} {v : X → AVal} (S : SeqSpec E cs v) {x : AVal} {L : List X} {R : List (List AVal)} {h : AHeap} {Q : AVal → AHeap → Prop} (hx : SlX h E.es x (L.map cs) R) (hlen : L.length ≤ 100000000)
  (hq : ∀ x' h', Rw E cs h h' x' L [] → Q x' h') : slices_CloneG.cps C E x h Q := by
 have cp : B.appW h E.es E.bytes .sz x (fun v7 h => Q v7 h) := by
  have hm := Nat.mul_le_mul hlen S.small
  refine Owns.appW ((Owns.start h).sz E.es) 0 rfl hx S.pos (by simp; omega) (by simp [maxLen]; omega) fun x' h' h1 _ => hq x' h' ?_
  simpa [Rw] using h1
 rcases hx.2 with ⟨e1, e2, rfl | rfl⟩ | ⟨id, g, off, cp', b, hi, rfl, h3⟩
 ·simp -dsimp [V.eqSl]
  refine hq _ _ ?_
  unfold Rw
  rw [e1]
  exact (Owns.start h).nils E.es
 ·simp -dsimp [V.eqSl]
  exact cp
 ·simp -dsimp [V.eqSl]
  rw [List.length_map] at cp
  exact cp
def slices_Clone_api_Lot_api_Lot.Spec (C : CSem) (N : Nat → Nat) : Prop := ∀ (x : AVal) (L : List Lot) (R : List (List AVal)) (h : AHeap) (Q : AVal → AHeap → Prop), SlX h 6 x (L.map Lot.cs) R → L.length ≤ 100000000 →
 (∀ x' h', Owns h h' [.sl 6 x' (L.map Lot.cs) []] → Q x' h') → C (N 160) [x] h Q
theorem slices_Clone_api_Lot_api_Lot.spec (i : slices_Clone_api_Lot_api_Lot.Imp C N) : slices_Clone_api_Lot_api_Lot.Spec C N := by
 intro x L R h Q hx hlen hq
 exact i _ _ _ (clone_spec lotS hx hlen fun x' h' ho => dn_same (hq x' h' ho))
def slices_SortStableFunc_api_Lot_api_Lot.Spec (C : CSem) (N : Nat → Nat) : Prop := ∀ (h0 h : AHeap) (x f : AVal) (c : Lot → Lot → Int) (L : List Lot) (R : List (List AVal)) (Q : AVal → AHeap → Prop), Weak (lessC c) → CmpSpec C (fun l : Lot => .agg l.cs) c f h0 → L.length ≤ 100000000 →
 Owns h0 h [.sl 6 x (L.map Lot.cs) R] → (∀ h', Owns h0 h' [.sl 6 x ((sortB c L).map Lot.cs) R] → Q (.tup []) h') → C (N 161) [x, f] h Q
theorem slices_SortStableFunc_api_Lot_api_Lot.spec (i : slices_SortStableFunc_api_Lot_api_Lot.Imp C N) (i1 : slices_symMergeCmpFunc_api_Lot.Imp C N) (i2 : slices_rotateCmpFunc_api_Lot.Imp C N) (i3 : slices_swapRangeCmpFunc_api_Lot.Imp C N) (i4 : slices_insertionSortCmpFunc_api_Lot.Imp C N) (i5 : slices_stableCmpFunc_api_Lot.Imp C N) :
  slices_SortStableFunc_api_Lot_api_Lot.Spec C N := by
 intro h0 h x f c L R Q W hc hlen ho hq
 refine i _ _ _ _ (sortStable_spec lotS W (f1 := N 167) (f2 := N 169) (f3 := N 170) (f4 := N 168) ⟨i1, i2, i3, i4, i5⟩ hc hlen ho fun h' L' st o => dn_same (hq h' ?_))
 rw [← stable_sortB W st]; exact o
def sortLots (L : List Lot) : List Lot := sortB lotCmp L
def lot_Sort.Spec (C : CSem) (N : Nat → Nat) : Prop := ∀ (x : AVal) (L : List Lot) (R : List (List AVal)) (h : AHeap) (Q : AVal → AHeap → Prop), SlX h 6 x (L.map Lot.cs) R → L.length ≤ 100000000 →
 (∀ x' h', Owns h h' [.sl 6 x' ((sortLots L).map Lot.cs) []] → Q x' h') → C (N 149) [x] h Q
theorem lot_Sort.spec (i : lot_Sort.Imp C N) (s1 : slices_Clone_api_Lot_api_Lot.Spec C N) (s2 : slices_SortStableFunc_api_Lot_api_Lot.Spec C N) (s3 : lot_Compare.Spec C N) : lot_Sort.Spec C N := by
 intro x L R h Q hx hlen hq
 apply i
 simp -dsimp
 refine s1 _ _ _ _ _ hx hlen fun x' h' ho => ?_
 refine s2 _ _ _ _ _ _ _ _ lotW ⟨fun h a b K _ hk => ?_⟩ hlen ho fun h2 o2 => dn_same (hq x' h2 o2)
 simp -dsimp
 exact s3 _ _ _ _ hk
end Go.Ab
namespace Go.Ab
variable {C : CSem} {N : Nat → Nat}
theorem take_one {X : Type} {L : List X} {k : Nat} (hb : k < L.length) : L.take (k + 1) = L.take k ++ [L[k]] := by rw [List.take_add_one, List.getElem?_eq_getElem hb]; rfl
end Go.Ab
set_option maxRecDepth 100000
namespace Go.Ab
variable {C : CSem} {N : Nat → Nat}
@[irreducible] def mark (k i : Int) : Int := IntKind.i64.wrap (IntKind.i64.wrap (1000003 * IntKind.i64.wrap (k + 7)) + i)
def markLot (k i : Int) : Lot := ⟨mark k i, [], 0, 0, 0, false⟩
abbrev marksLot : List (List AVal) := marks lotF (markLot 1) 12
def markUse (k i : Int) : Use := ⟨0, mark k i, 0⟩
abbrev marksUse : List (List AVal) := marks useF (markUse 1) 12
end Go.Ab
namespace Go.Ab
variable {C : CSem} {N : Nat → Nat}
theorem sortLots_perm (L : List Lot) : (sortLots L).Perm L := (sortB_stable lotW L).perm
theorem sortLots_len (L : List Lot) : (sortLots L).length = L.length := (sortLots_perm L).length_eq
theorem sortLots_up (L : List Lot) : (sortLots L).Pairwise fun a b => lessC lotCmp b a = false := (sortB_stable lotW L).sorted lotW
end Go.Ab
namespace Go.Ab
variable {C : CSem} {N : Nat → Nat}
theorem Owns.cutTo {h0 h : AHeap} {es : Nat} {x : AVal} {L R : List (List AVal)} (ho : Owns h0 h [.sl es x L R]) (hes : 0 < es) {k : Nat} (hk : k ≤ L.length) : ∃ y, V.cutSl es x none (some (.int .i64 (k : Int))) = some y ∧ Owns h0 h [.sl es y (L.take k) (L.drop k ++ R)] := by
 obtain ⟨y, h1, h2, h3⟩ := (ho.slAt 0 rfl).slice hes (a := none) (b := some (.int .i64 (k : Int))) (lo := 0) (hi := k) (.inl ⟨rfl, rfl⟩) (.inr ⟨_, rfl⟩) (by omega) (by omega)
 rw [List.drop_zero, List.take_append_of_le_length hk, List.drop_append_of_le_length hk] at h2
 refine ⟨y, h1, ?_⟩
 have := ho.turn (h' := h) 0 rfl (o' := .sl es y (L.take k) (L.drop k ++ R)) h2 (fun id b hf hb => ho.ownAt 0 rfl id b (by rw [show Ob.foot (.sl es x L R) = foot x from rfl, ← h3]; exact hf) hb) (fun _ _ h _ => h) (.inl (by rw [show Ob.foot (.sl es y _ _) = foot y from rfl, h3]; rfl))
 simpa using this
end Go.Ab
namespace Go.Ab
variable {C : CSem} {N : Nat → Nat}
abbrev icl (a : Int) : List AVal := [.int .i64 a]
def cmpI (a b : Int) : Int := if a < b then -1 else 1
theorem cmpI_lt {a b : Int} : cmpI a b < 0 ↔ a < b := by unfold cmpI; split <;> simp_all
theorem weakI : Weak (lessC cmpI) := by
 constructor <;> simp only [lessC, decide_eq_true_eq, decide_eq_false_iff_not, cmpI_lt] <;> omega
def cmp_Less_int.Spec (C : CSem) (N : Nat → Nat) : Prop := ∀ (a b : Int) (h : AHeap) (Q : AVal → AHeap → Prop), Q (.bool (decide (a < b))) h → C (N 340) [.int .i64 a, .int .i64 b] h Q
theorem cmp_Less_int.spec (i : cmp_Less_int.Imp C N) (s1 : cmp_isNaN_int.Spec C N) : cmp_Less_int.Spec C N := by
 intro a b h Q hq
 apply i
 simp -dsimp
 refine s1 _ _ _ ?_
 simp -dsimp
 exact dn_same hq
def slices_Sort_int_int.Spec (C : CSem) (N : Nat → Nat) : Prop := ∀ (h0 h : AHeap) (x : AVal) (L : List Int) (R : List (List AVal)) (Q : AVal → AHeap → Prop), Owns h0 h [.sl 1 x (L.map icl) R] → L.length ≤ 100000000 →
 (∀ h' (L' : List Int), L'.Perm L → L'.Pairwise (fun s t => s ≤ t) → Owns h0 h' [.sl 1 x (L'.map icl) R] → Q (.tup []) h') → C (N 335) [x] h Q
theorem seqI : SeqSpec (opsS 8 (.int .i64 0) 0) icl (fun a : Int => AVal.int .i64 a) := seqS (by omega) fun _ => rfl
theorem slices_Sort_int_int.spec (i : slices_Sort_int_int.Imp C N) (j1 : slices_partitionEqualOrdered_int.Imp C N) (j2 : slices_partitionOrdered_int.Imp C N) (j3 : slices_pdqsortOrdered_int.Imp C N) (j4 : slices_partialInsertionSortOrdered_int.Imp C N)
  (j5 : slices_reverseRangeOrdered_int.Imp C N) (j6 : slices_choosePivotOrdered_int.Imp C N) (j7 : slices_breakPatternsOrdered_int.Imp C N) (j8 : slices_heapSortOrdered_int.Imp C N) (j9 : slices_insertionSortOrdered_int.Imp C N) (k1 : slices_medianAdjacentOrdered_int.Imp C N)
  (k2 : slices_medianOrdered_int.Imp C N) (k3 : slices_order2Ordered_int.Imp C N) (k4 : slices_siftDownOrdered_int.Imp C N) (k5 : NextI C (N 298)) (k6 : PowI C (N 299)) (hl : LenI C (N 287)) (s1 : cmp_Less_int.Spec C N) : slices_Sort_int_int.Spec C N := by
 intro h0 h x L R Q ho hlen hq
 have J : OrdI C (opsS 8 (.int .i64 0) 0) (N 340) (N 341) (N 342) (N 339) (N 343) (N 344) (N 345) (N 346) (N 347) (N 348) (N 350) (N 351) (N 352) (N 349) (N 298) (N 299) := ⟨j1, j2, j3, j4, j5, j6, j7, j8, j9, k1, k2, k3, k4, k5, k6⟩
 have hc : Ord.CmpSpec C (fun a : Int => AVal.int .i64 a) cmpI (N 340) h0 := ⟨fun h' a b K _ hk => s1 _ _ _ _ (by rw [show decide (a < b) = decide (cmpI a b < 0) from decide_eq_decide.2 cmpI_lt.symm]; exact hk)⟩
 refine i _ _ _ (Sort_spec J hl seqI weakI hc hlen (show Rw _ _ _ _ _ _ _ from ho) fun h' G' hp hs o' => dn_same (hq h' G' hp (hs.imp fun {a b} hab => ?_) o'))
 rw [cmpI_lt] at hab
 omega
def compactI : List Int → List Int
 | [] => []
 | [a] => [a]
 | a :: b :: r => if a = b then compactI (b :: r) else a :: compactI (b :: r)
theorem compactI_snoc (a b : Int) : ∀ P : List Int, compactI (P ++ [a, b]) = if a = b then compactI (P ++ [a]) else compactI (P ++ [a]) ++ [b]
 | [] => by simp only [List.nil_append, compactI]; split <;> simp_all
 | [p] => by
  simp only [List.cons_append, List.nil_append, compactI]
  split <;> split <;> simp_all
 | p :: q :: P => by
  have ih := compactI_snoc a b (q :: P)
  simp only [List.cons_append] at ih ⊢
  simp only [compactI]
  rw [ih]
  split <;> split <;> simp_all
theorem compactI_take {L : List Int} {k : Nat} (h1 : 0 < k) (h2 : k < L.length) : compactI (L.take (k + 1)) = if L[k] = L[k - 1] then compactI (L.take k) else compactI (L.take k) ++ [L[k]] := by
 have e1 : L.take (k + 1) = L.take k ++ [L[k]] := by rw [List.take_add_one, List.getElem?_eq_getElem h2]; rfl
 have e2 : L.take k = L.take (k - 1) ++ [L[k - 1]] := by
  conv => lhs; rw [show k = (k - 1) + 1 by omega]
  rw [List.take_add_one, List.getElem?_eq_getElem (by omega)]; rfl
 have := compactI_snoc L[k - 1] L[k] (L.take (k - 1))
 rw [e1, e2, List.append_assoc]
 simp only [List.cons_append, List.nil_append]
 rw [this]
 simp only [eq_comm]
theorem compactI_len : ∀ L : List Int, (compactI L).length ≤ L.length
 | [] => Nat.le_refl _
 | [a] => Nat.le_refl _
 | a :: b :: r => by
  have := compactI_len (b :: r)
  simp only [compactI]
  split <;> simp_all <;> omega
def slices_Compact_int_int.Spec (C : CSem) (N : Nat → Nat) : Prop := ∀ (h0 h : AHeap) (x : AVal) (L : List Int) (R : List (List AVal)) (Q : AVal → AHeap → Prop), Owns h0 h [.sl 1 x (L.map icl) R] → L.length ≤ 100000000 →
 (∀ y h' R', Owns h0 h' [.sl 1 y ((compactI L).map icl) R'] → Q y h') → C (N 336) [x] h Q
theorem slices_Compact_int_int.spec (i : slices_Compact_int_int.Imp C N) : slices_Compact_int_int.Spec C N := by
 intro h0 h x L R Q ho hlen hq
 have S := seqI
 have o : Rw (opsS 8 (.int .i64 0) 0) icl h0 h x L R := ho
 apply i
 have l2 : V.bin .lss (.int .i64 (L.length : Int)) (.int .i64 2) = some (.bool (decide (L.length < 2))) := lssN (b := 2)
 simp -dsimp only [slices_Compact_int_int.cps, slices_CompactG.cps, slices_CompactG.k5, o.lenE, l2, B.pv_some]
 refine B.cond_bool (fun hd => ?_) (fun hd => ?_)
 ·rw [decide_eq_true_eq] at hd
  have : compactI L = L := by
   match L, hd with
   | [], _ => rfl
   | [a], _ => rfl
  exact dn_same (hq x h R (by rw [this]; exact ho))
 rw [decide_eq_false_iff_not] at hd
 refine LoopR.intro (fun t vs hh => hh = h ∧ ∃ k : Nat, k + t = L.length ∧ vs = [.int .i64 (k : Int)] ∧ 0 < k ∧ compactI (L.take k) = L.take k) (L.length - 1) ?_ ⟨rfl, 1, by omega, rfl, by omega, ?_⟩
 rotate_left
 ·cases L with
  | nil => rfl
  | cons a r => rfl
 rintro Y t vs hh ⟨rfl, k, hkt, rfl, hk0, hck⟩ hY
 simp -dsimp only [slices_CompactG.l4, o.lenE, lssN, B.pv_some]
 refine B.cond_bool (fun hk => ?_) (fun hk => ?_)
 rotate_left
 ·rw [decide_eq_false_iff_not] at hk
  have : k = L.length := by omega
  rw [this, List.take_length] at hck
  exact dn_same (hq x hh R (by rw [hck]; exact ho))
 rw [decide_eq_true_eq] at hk
 have e1 : V.bin .sub (.int .i64 (k : Int)) (.int .i64 1) = some (.int .i64 ((k - 1 : Nat) : Int)) := subNN (b := 1) (by omega) (by omega)
 have ik := o.idx hk
 have ik1 := o.idx (show k - 1 < L.length by omega)
 simp -dsimp only [slices_CompactG.k3, ik, B.pv_some]
 refine o.ld S (List.getElem?_eq_getElem hk) ?_
 simp -dsimp only [e1, ik1, B.pv_some]
 refine o.ld S (List.getElem?_eq_getElem (show k - 1 < L.length by omega)) ?_
 simp -dsimp only [V.bin_eql, B.pv_some]
 have hct := compactI_take hk0 hk
 refine B.cond_bool (fun he => ?_) (fun he => ?_)
 rotate_left
 ·rw [decide_eq_false_iff_not] at he
  rw [if_neg he, hck] at hct
  simp -dsimp only [add1 (show k < 4611686018427387904 by omega), B.pv_some]
  refine hY (t - 1) _ _ (by omega) ⟨rfl, k + 1, by omega, rfl, by omega, ?_⟩
  rw [hct, List.take_add_one, List.getElem?_eq_getElem hk]; rfl
 rw [decide_eq_true_eq] at he
 rw [if_pos he, hck] at hct
 have cut : ∀ {h' : AHeap} {G : List Int} {R' : List (List AVal)}, Rw (opsS 8 (.int .i64 0) 0) icl h0 h' x G R' → G.length = L.length → ∃ y R2, V.cutSl 1 x (some (.int .i64 (k : Int))) none = some y ∧ SlX h' 1 y ((G.drop k).map icl) R2 := fun {h' G R'} o' hG => by
  obtain ⟨y, R2, h1, h2, _⟩ := (Owns.slAt o' 0 rfl).sliceIn (Nat.one_pos) (a := some (.int .i64 (k : Int))) (b := none) (lo := k) (hi := G.length) (.inr ⟨_, rfl⟩) (.inl ⟨rfl, rfl⟩) (by omega) (Nat.le_refl _)
  rw [List.take_length] at h2
  exact ⟨y, R2, h1, h2⟩
 obtain ⟨s2, _, hs2, _⟩ := cut o rfl
 have cut2 : ∀ {h' : AHeap} {G : List Int}, Rw (opsS 8 (.int .i64 0) 0) icl h0 h' x G R → G.length = L.length → ∃ R2, SlX h' 1 s2 ((G.drop k).map icl) R2 := fun {h' G} o' hG => by
  obtain ⟨y, R2, e1, e2⟩ := cut o' hG
  rw [hs2] at e1
  cases e1
  exact ⟨R2, e2⟩
 have hs2' : V.cutSl (opsS 8 (.int .i64 0) 0).es x (some (.int .i64 (k : Int))) none = some s2 := hs2
 simp -dsimp only [hs2', B.pv_some]
 refine LoopR.intro (fun t vs h2 => ∃ (i j : Nat) (G : List Int), k + j + t = L.length ∧ vs = [.int .i64 (i : Int), .int .i64 (j : Int)] ∧ k ≤ i ∧ i + 1 ≤ k + j ∧ 0 < j ∧ G.length = L.length ∧ G.take i = compactI (L.take (k + j)) ∧ (∀ q, k + j ≤ q + 1 → G[q]? = L[q]?) ∧ Rw (opsS 8 (.int .i64 0) 0) icl h0 h2 x G R) (L.length - (k + 1)) ?_
  ⟨k, 1, L, by omega, rfl, Nat.le_refl _, Nat.le_refl _, Nat.one_pos, rfl, hct.symm, fun _ _ => rfl, o⟩
 rintro Z t2 vs h2 ⟨i, j, G, hjt, rfl, hki, hij, hj0, hGl, hGt, hGq, o2⟩ hZ
 obtain ⟨R2, x2⟩ := cut2 o2 hGl
 have ln2 : V.lenSl s2 = some (.int .i64 ((L.length - k : Nat) : Int)) := by have := x2.lenSl; simpa [hGl] using this
 simp -dsimp only [slices_CompactG.l2, slices_CompactG.k1, ln2, lssN, B.pv_some]
 refine B.cond_bool (fun hlt => ?_) (fun hlt => ?_)
 ·rw [decide_eq_true_eq] at hlt
  have dl : ∀ q, q < L.length - k → (G.drop k)[q]? = G[k + q]? := fun q _ => by rw [List.getElem?_drop]
  have lj : j < ((G.drop k).map icl).length := by simp; omega
  have lj1 : j - 1 < ((G.drop k).map icl).length := by simp; omega
  have gj : ((G.drop k).map icl)[j]? = some (icl L[k + j]) := by
   rw [List.getElem?_map, dl j hlt, hGq (k + j) (by omega), List.getElem?_eq_getElem (by omega)]; rfl
  have gj1 : ((G.drop k).map icl)[j - 1]? = some (icl L[k + j - 1]) := by
   rw [List.getElem?_map, dl (j - 1) (by omega), show k + (j - 1) = k + j - 1 by omega, hGq (k + j - 1) (by omega), List.getElem?_eq_getElem (by omega)]; rfl
  have ij : V.idxS (opsS 8 (.int .i64 0) 0).es s2 (.int .i64 (j : Int)) = some (elp 1 s2 j 0) := x2.idxN lj
  have ij1 : V.idxS (opsS 8 (.int .i64 0) 0).es s2 (.int .i64 ((j - 1 : Nat) : Int)) = some (elp 1 s2 (j - 1) 0) := x2.idxN lj1
  have e2 : V.bin .sub (.int .i64 (j : Int)) (.int .i64 1) = some (.int .i64 ((j - 1 : Nat) : Int)) := subNN (b := 1) (by omega) (by omega)
  simp -dsimp only [ij, B.pv_some]
  refine S.ld x2 gj ?_
  simp -dsimp only [e2, ij1, B.pv_some]
  refine S.ld x2 gj1 ?_
  simp -dsimp only [V.bin_neq, B.pv_some]
  have hst := compactI_take (L := L) (k := k + j) (by omega) (by omega)
  refine B.cond_bool (fun hne => ?_) (fun hne => ?_)
  ·have hne : L[k + j] ≠ L[k + j - 1] := by simpa using hne
   rw [if_neg hne] at hst
   simp -dsimp only [ij, B.pv_some]
   refine S.ld x2 gj ?_
   simp -dsimp only [o2.idx (show i < G.length by omega), B.pv_some]
   refine o2.st S (t := L[k + j]) (by omega) fun h3 o3 => ?_
   simp -dsimp only [add1 (show i < 4611686018427387904 by omega), add1 (show j < 4611686018427387904 by omega), B.pv_some]
   refine hZ (t2 - 1) _ _ (by omega) ⟨i + 1, j + 1, _, by omega, rfl, by omega, by omega, by omega, by simpa using hGl, ?_, fun q hq' => ?_, o3⟩
   ·rw [← Nat.add_assoc, hst, ← hGt, List.take_add_one]
    rw [List.getElem?_set_self (by omega), List.take_set_of_le (Nat.le_refl _)]; rfl
   ·rw [List.getElem?_set_ne (by omega)]; exact hGq q (by omega)
  ·have hne : L[k + j] = L[k + j - 1] := by simpa using hne
   rw [if_pos hne] at hst
   simp -dsimp only [add1 (show j < 4611686018427387904 by omega), B.pv_some]
   exact hZ (t2 - 1) _ _ (by omega) ⟨i, j + 1, G, by omega, rfl, hki, by omega, by omega, hGl, by rw [← Nat.add_assoc, hst]; exact hGt, fun q hq' => hGq q (by omega), o2⟩
 ·rw [decide_eq_false_iff_not] at hlt
  have : k + j = L.length := by omega
  rw [this, List.take_length] at hGt
  obtain ⟨y, y1, y2⟩ := Owns.clrTail (z := [.int .i64 0]) (lo := i) (K := fun v h => B.pv (V.cutSl 1 x none (some (.int .i64 (i : Int)))) fun v59 => dn Q v59 h) o2 0 rfl rfl (by simp; omega) fun h3 o3 _ => by
   have o3 : Owns h0 h3 [.sl 1 x ((G.map icl).take i ++ List.replicate ((G.map icl).length - i) [.int .i64 0]) R] := o3
   obtain ⟨z, z1, z2⟩ := o3.cutTo Nat.one_pos (k := i) (by simp; omega)
   simp -dsimp only [z1, B.pv_some]
   have e3 : ((G.map icl).take i ++ List.replicate ((G.map icl).length - i) [AVal.int .i64 0]).take i = (compactI L).map icl := by
    rw [List.take_append_of_le_length (by simp; omega), List.take_take, Nat.min_self, ← List.map_take, hGt]
   rw [e3] at z2
   exact dn_same (hq z h3 _ z2)
  have y1' : V.cutSl (opsS 8 (.int .i64 0) 0).es x (some (.int .i64 (i : Int))) none = some y := y1
  simp -dsimp only [y1', B.pv_some]
  exact y2
end Go.Ab
namespace Go.Ab
abbrev Ents (K T : Type) := List (K × T × Nat)
section
variable {K T : Type} [DecidableEq K]
def getP : Ents K T → K → Option T
 | [], _ => none
 | p :: r, k => if p.1 = k then some p.2.1 else getP r k
def putP : Ents K T → K → T → Nat → Ents K T
 | [], k, t, c => [(k, t, c)]
 | p :: r, k, t, c => if p.1 = k then (k, t, p.2.2) :: r else p :: putP r k t c
def clkP (ps : Ents K T) (k : K) (c : Nat) : Nat := if (getP ps k).isSome then c else c + 1
def idxP : Ents K T → K → Option (Nat × T × Nat)
 | [], _ => none
 | p :: r, k => if p.1 = k then some (0, p.2.1, p.2.2) else (idxP r k).map fun (i, q) => (i + 1, q)
theorem getP_put (k k' : K) (t : T) (c : Nat) : ∀ ps : Ents K T, getP (putP ps k t c) k' = if k' = k then some t else getP ps k'
 | [] => by
  simp only [putP, getP]
  by_cases h : k' = k
  ·rw [if_pos h.symm, if_pos h]
  ·rw [if_neg (Ne.symm h), if_neg h]
 | p :: r => by
  have ih := getP_put k k' t c r
  simp only [putP]
  by_cases hp : p.1 = k
  ·rw [if_pos hp]
   simp only [getP]
   by_cases h : k' = k
   ·rw [if_pos h.symm, if_pos h]
   ·rw [if_neg (Ne.symm h), if_neg h, if_neg (by rw [hp]; exact Ne.symm h)]
  ·rw [if_neg hp]
   simp only [getP, ih]
   by_cases h : k' = k
   ·subst h; rw [if_neg hp, if_pos rfl, if_pos rfl]
   ·rw [if_neg h, if_neg h]
theorem idxP_get (k : K) : ∀ ps : Ents K T, getP ps k = (idxP ps k).map (·.2.1)
 | [] => rfl
 | p :: r => by
  simp only [getP, idxP]
  split
  ·rfl
  ·rw [idxP_get k r]; cases idxP r k <;> rfl
theorem idxP_put {k : K} {t : T} {c i : Nat} {q : T × Nat} : ∀ {ps : Ents K T}, idxP ps k = some (i, q) → putP ps k t c = ps.set i (k, t, q.2) ∧ i < ps.length
 | [], h => by simp [idxP] at h
 | p :: r, h => by
  simp only [idxP] at h
  by_cases hp : p.1 = k
  ·rw [if_pos hp] at h
   simp only [Option.some.injEq, Prod.mk.injEq] at h
   obtain ⟨rfl, rfl⟩ := h
   simp [putP, hp]
  ·rw [if_neg hp] at h
   cases hr : idxP r k with
   | none => simp [hr] at h
   | some x =>
    obtain ⟨j, q'⟩ := x
    simp [hr] at h
    obtain ⟨rfl, rfl⟩ := h
    have := idxP_put (t := t) (c := c) hr
    simp [putP, hp, this.1, this.2]
theorem idxP_put_none {k : K} {t : T} {c : Nat} : ∀ {ps : Ents K T}, idxP ps k = none → putP ps k t c = ps ++ [(k, t, c)]
 | [], _ => rfl
 | p :: r, h => by
  simp only [idxP] at h
  by_cases hp : p.1 = k
  ·rw [if_pos hp] at h; cases h
  ·rw [if_neg hp] at h
   cases hr : idxP r k with
   | none => simp [putP, hp, idxP_put_none hr]
   | some x => simp [hr] at h
end
structure KeyE (kd : KD) {K : Type} [DecidableEq K] (κ : K → AVal) : Prop where
 same : ∀ a b, V.sameK kd (κ a) (κ b) = some (decide (a = b))
theorem keyI : KeyE .i (fun n : Int => .int .i64 n) := ⟨fun a b => by
 simp only [V.sameK, if_true]; congr 1⟩
theorem keyS : KeyE .s (fun s : List UInt8 => .str s) := ⟨fun a b => by
 simp only [V.sameK]; congr 1; rw [Bool.eq_iff_iff, beq_iff_eq, decide_eq_true_eq]⟩
def encM {K T : Type} (κ : K → AVal) (v : T → AVal) (ps : Ents K T) : List (AVal × AVal × Nat) := ps.map fun p => (κ p.1, v p.2.1, p.2.2)
section
variable {kd : KD} {K T : Type} [DecidableEq K] {κ : K → AVal} {v : T → AVal}
theorem findK_enc (hκ : KeyE kd κ) (k : K) : ∀ (ps : Ents K T) (i : Nat), V.findK kd (κ k) (encM κ v ps) i = some ((idxP ps k).map fun (j, q) => (i + j, v q.1, q.2))
 | [], i => rfl
 | p :: r, i => by
  simp only [encM, List.map_cons, V.findK, hκ.same, idxP]
  by_cases hp : k = p.1
  ·rw [if_pos hp.symm]; simp [hp]
  ·rw [if_neg (Ne.symm hp)]
   have ih := findK_enc hκ k r (i + 1)
   simp only [encM] at ih
   simp only [hp, decide_false, ih]
   cases idxP r k with
   | none => rfl
   | some x => obtain ⟨j, q⟩ := x; simp only [Option.map_some]; congr 3; omega
theorem fset_enc (hκ : KeyE kd κ) (k : K) (t : T) (ps : Ents K T) (c : Nat) : A.fset (some kd) (κ k) (v t) (encM κ v ps) c = some (encM κ v (putP ps k t c), clkP ps k c, .undef) := by
 simp only [A.fset, findK_enc hκ, clkP, idxP_get]
 cases h : idxP ps k with
 | none => simp [idxP_put_none h, encM]
 | some x =>
  obtain ⟨j, q⟩ := x
  have := idxP_put (t := t) (c := c) h
  simp only [Option.map_some, Option.isSome_some, if_true, Nat.zero_add, this.1, encM, List.map_set]
end
def mapBlk (es : List (AVal × AVal × Nat)) (c : Nat) : Blk := objOf (.map es c)
theorem Owns.newBlk {h0 h : AHeap} {l : List Ob} (ho : Owns h0 h l) {id : Nat} (hid : h id = none) {b : Blk} (hb : b.own = true) : Owns h0 (upd h id b) (l ++ [.blk id b]) :=
 ho.join ⟨le_upd _ hid, fun o hm => by rw [List.mem_singleton.1 hm]; exact upd_same .., fun o hm j hj => by rw [List.mem_singleton.1 hm] at hj; cases hj; exact ⟨hid, fun b hb' => by rw [upd_same] at hb'; cases hb'; exact hb⟩, List.pairwise_singleton _ _⟩
theorem Owns.newMap {h0 h : AHeap} {l : List Ob} {K T : Type} (ho : Owns h0 h l) (κ : K → AVal) (v : T → AVal) {Q : AVal → AHeap → Prop} (hq : ∀ id h', h id = none → Owns h0 h' (l ++ [.blk id (mapBlk (encM κ v []) 0)]) → h.le h' → Q (.mp id) h') : B.newMap h Q :=
 fun id hid => hq id _ hid (ho.newBlk hid rfl) (le_upd _ hid)
section
variable {h0 h : AHeap} {l : List Ob} {kd : KD} {K T : Type} [DecidableEq K] {κ : K → AVal} {v : T → AVal}
theorem Owns.setBlk (ho : Owns h0 h l) (k : Nat) {id : Nat} {b b' : Blk} (hk : l[k]? = some (.blk id b)) (hb : b'.own = true) : Owns h0 (upd h id b') (l.set k (.blk id b')) :=
 ho.turn k hk (upd_same ..) (fun j c hj hc => by cases hj; rw [upd_same] at hc; cases hc; exact hb) (fun j c e1 e2 => by rw [upd_other]; exact e1; intro e; subst e; exact e2 rfl) (.inl rfl)
theorem mapAt_blk {id : Nat} {es : List (AVal × AVal × Nat)} {c : Nat} (hb : h id = some (mapBlk es c)) : A.mapAt h (.mp id) = some (es, c) := by simp [A.mapAt, hb, mapBlk, objOf]
theorem objT_blk {id : Nat} {es es' : List (AVal × AVal × Nat)} {c c' : Nat} {u : AVal} {f : List (AVal × AVal × Nat) → Nat → Option (List (AVal × AVal × Nat) × Nat × AVal)} {Q : AVal → AHeap → Prop} (hb : h id = some (mapBlk es c)) (hf : f es c = some (es', c', u))
  (hq : Q u (upd h id (mapBlk es' c'))) : A.objT h (.mp id) f Q := by
 unfold mapBlk objOf at *
 simp only [A.objT, hb, hf]
 exact hq
theorem lkp_blk {id : Nat} {c : Nat} {ps : Ents K T} (hκ : KeyE kd κ) (hb : h id = some (mapBlk (encM κ v ps) c)) (z : T) (k : K) (ok : Bool) :
  A.lkp h (some kd) (some (v z)) ok (.mp id) (κ k) = some (bif ok then .tup [v ((getP ps k).getD z), .bool (getP ps k).isSome] else v ((getP ps k).getD z)) := by
 simp only [A.lkp, A.entries, mapAt_blk hb, findK_enc hκ, idxP_get]
 cases idxP ps k with
 | none => rfl
 | some x => rfl
theorem Owns.lkp (ho : Owns h0 h l) (i : Nat) {id c : Nat} {ps : Ents K T} (hi : l[i]? = some (.blk id (mapBlk (encM κ v ps) c))) (hκ : KeyE kd κ) (z : T) (k : K) : A.lkp h (some kd) (some (v z)) false (.mp id) (κ k) = some (v ((getP ps k).getD z)) :=
 lkp_blk hκ (ho.at i hi) z k false
theorem Owns.mset (ho : Owns h0 h l) (i : Nat) {id c : Nat} {ps : Ents K T} (hi : l[i]? = some (.blk id (mapBlk (encM κ v ps) c))) (hκ : KeyE kd κ) (k : K) (t : T) {Q : AHeap → Prop}
  (hq : ∀ h', Owns h0 h' (l.set i (.blk id (mapBlk (encM κ v (putP ps k t c)) (clkP ps k c)))) → But (.mp id) h h' → (∀ j, j ≠ id → h' j = h j) → Q h') : B.mset h kd (.mp id) (κ k) (v t) Q :=
 objT_blk (ho.at i hi) (fset_enc hκ k t ps c) (hq _ (ho.setBlk i hi rfl) (fun j b e1 e2 => by rw [upd_other]; exact e1; intro e; subst e; exact e2 rfl) fun j hj => upd_other _ _ hj)
end
end Go.Ab
namespace Go.Ab
variable {C : CSem} {N : Nat → Nat}
theorem window_Rows.spec (i : window_Rows.Imp C N) (s1 : window_Right.Spec C N) : window_Rows.Spec C N := by
 intro x L R h Q hx hlen hq
 apply i
 simp +contextual -dsimp
 intro id hid
 simp -dsimp only [hx.lenSl, List.length_map, B.pv_some]
 have hz : zrep 4002 (AVal.int .i64 0) = tks (tick []) := by rw [zrep_fill]; exact fill_congr fun j _ => by simp [tick]
 have ho := (Owns.start h).newBox hid (tks (tick []))
 rw [← hz] at ho
 refine LoopR.intro (fun n vs hh => ∃ k, k + n = L.length ∧ vs = [.int .i64 k] ∧ Owns h hh [.box (.ptr id 0 0) (tks (tick (L.take k)))] ∧ ∀ w ∈ L.take k, w.right = true) L.length ?_ ⟨0, by simp, by simp, by simpa [← hz] using ho, by simp⟩
 rintro Y n vs hh ⟨k, hn, rfl, ho, hr⟩ hY
 simp +contextual -dsimp
 refine B.cond_bool (fun hb => ?_) (fun hb => ?_) <;> simp +contextual -dsimp at hb ⊢
 ·have ew := get_lt (L := L) hb
  obtain ⟨w, hw⟩ := ew
  have hx1 := hx.mono ho.le
  have hk : k < (L.map Window.cs).length := by simpa using hb
  simp +contextual -dsimp [hx1.idxN hk, hx1.elem (get_map hw)]
  refine s1 _ _ _ _ ?_
  simp +contextual -dsimp
  refine B.cond_bool (fun hc => ?_) (fun hc => ?_) <;> simp +contextual -dsimp at hc ⊢
  ·refine dn_le ho.le (hq _ _ ?_)
   have : rows L = [] := by
    unfold rows
    rw [if_neg]
    intro ha
    rw [List.all_eq_true] at ha
    rw [ha w (List.mem_of_getElem? hw)] at hc; cases hc
   rw [this]
   exact (Owns.start h).nils 2
  ·obtain ⟨f, u⟩ := w
   simp only [Window.right, Bool.and_eq_true, decide_eq_true_eq] at hc
   obtain ⟨id', e, hbx⟩ := ho.boxAt 0 rfl
   cases e
   have hl := List.length_take_le k L
   have t1 := tick_le (L.take k) f.toNat
   have t2 := tick_le (L.take k) u.toNat
   have e1 : V.idxA 4002 1 (.ptr id 0 0) (.int .i64 f) = some (.ptr id 0 f.toNat) := by simp [V.idxA]; omega
   have e2 : V.idxA 4002 1 (.ptr id 0 0) (.int .i64 u) = some (.ptr id 0 u.toNat) := by simp [V.idxA]; omega
   have e3 : A.ldv hh (.ptr id 0 f.toNat) = some (.int .i64 (tick (L.take k) f.toNat)) := by rw [ldv_at hbx, fill_get _ (by omega)]
   simp +contextual -dsimp [e1, e2, e3]
   refine ho.boxSt 0 rfl (by simp) (by simp; omega) fun h2 ho2 _ => ?_
   obtain ⟨id', e, hbx2⟩ := ho2.boxAt 0 rfl
   cases e
   rw [fill_set] at hbx2
   have e5 : ∀ (c : Prop) [Decidable c] (a b : Int), (if c then AVal.int .i64 a else .int .i64 b) = .int .i64 (if c then a else b) := fun c _ a b => by split <;> rfl
   have e4 : A.ldv h2 (.ptr id 0 u.toNat) = some (.int .i64 (if u.toNat = f.toNat then IntKind.i64.wrap (tick (L.take k) f.toNat + 1) else tick (L.take k) u.toNat)) := by rw [ldv_at hbx2, fill_get _ (by omega), e5]
   simp +contextual -dsimp [e1, e2, e4]
   refine ho2.boxSt 0 rfl (by simp) (by simp; omega) fun h3 ho3 _ => ?_
   simp [inc64 (n := k) (by omega)]
   refine hY (L.length - (k + 1)) _ _ (by omega) ⟨k + 1, by omega, by simp, ?_, ?_⟩
   ·rw [fill_set, fill_set] at ho3
    simp only [e5] at ho3
    rw [take_succ hw]
    have : (fill 4002 fun j => AVal.int .i64 (if j = u.toNat then IntKind.i64.wrap ((if u.toNat = f.toNat then IntKind.i64.wrap (tick (L.take k) f.toNat + 1) else tick (L.take k) u.toNat) - 1) else if j = f.toNat then IntKind.i64.wrap (tick (L.take k) f.toNat + 1) else tick (L.take k) j)) = tks (tick (L.take k ++ [⟨f, u⟩])) := by
     refine fill_congr fun j hj => ?_
     have w1 : IntKind.i64.wrap (tick (L.take k) f.toNat + 1) = tick (L.take k) f.toNat + 1 := wrap_i64 (by omega) (by omega)
     congr 1
     rw [w1, wrap_i64 (by split <;> omega) (by split <;> omega)]
     have ht : tick (L.take k ++ [⟨f, u⟩]) j = tick (L.take k) j + (if f = (j : Int) then 1 else 0) - (if u = (j : Int) then 1 else 0) := by
      simp only [tick, List.countP_append, List.countP_cons, List.countP_nil, decide_eq_true_eq]
      by_cases c1 : f = (j : Int) <;> by_cases c2 : u = (j : Int) <;> simp only [c1, c2, if_true, if_false] <;> omega
     rw [ht]
     by_cases c1 : j = u.toNat
     ·subst c1
      rw [if_pos rfl]
      by_cases c2 : u.toNat = f.toNat
      ·rw [if_pos c2, if_pos (by omega), if_pos (by omega), c2]
      ·rw [if_neg c2, if_neg (by omega), if_pos (by omega)]; omega
     ·rw [if_neg c1]
      by_cases c2 : j = f.toNat
      ·subst c2; rw [if_pos rfl, if_pos (by omega), if_neg (by omega)]; omega
      ·rw [if_neg c2, if_neg (by omega), if_neg (by omega)]; omega
    rw [← this]
    exact ho3
   ·rw [take_succ hw]
    intro w' hw'
    rcases List.mem_append.1 hw' with hw' | hw'
    ·exact hr w' hw'
    ·rw [List.mem_singleton.1 hw']; simpa [Window.right] using hc
 ·have hk : k = L.length := by omega
  subst hk
  rw [List.take_length] at ho hr
  refine window_Rows.loop1 L hr hlen ho fun x' h' ho' => hq x' h' ?_
  unfold rows
  rw [if_pos (List.all_eq_true.2 hr)]
  exact ho'
end Go.Ab
namespace Go.Ab
variable {C : CSem} {N : Nat → Nat}
def ofStep (p : Nat → Bool) (out : List Window) (d : Nat) : List Window :=
 if p d then (if out ≠ [] ∧ (out.getLast?.getD .zero).Until = d then out.dropLast ++ [⟨(out.getLast?.getD .zero).From, d + 1⟩] else out ++ [⟨d, d + 1⟩]) else out
def ofTo (p : Nat → Bool) : Nat → List Window
 | 0 => []
 | d + 1 => ofStep p (ofTo p d) d
end Go.Ab
namespace Go.Ab
variable {C : CSem} {N : Nat → Nat}
def wantE : ElOps := opsF 3 32 [.str [], .int .i64 0, .int .i64 0] 0 []
theorem wantS : SeqSpec wantE Want.cs (fun w => .agg w.cs) := seqF (by omega) (by omega) rfl fun _ => rfl
def amount_Right.Spec (C : CSem) (N : Nat → Nat) : Prop := ∀ (n : Int) (h : AHeap) (Q : AVal → AHeap → Prop), Q (.bool (decide (0 ≤ n) && decide (n ≤ 1125899906842624))) h → C (N 247) [.int .i64 n] h Q
theorem amount_Right.spec (i : amount_Right.Imp C N) : amount_Right.Spec C N := by
 intro n h Q hq
 apply i
 simp +contextual -dsimp
 exact dn_same hq
def slices_IndexFunc_api_Want_api_Want.Spec (C : CSem) (N : Nat → Nat) : Prop := ∀ (x f : AVal) (p : Want → Bool) (L : List Want) (R : List (List AVal)) (h : AHeap) (Q : AVal → AHeap → Prop), SlX h 3 x (L.map Want.cs) R → L.length < 4611686018427387904 → AskSpec C (fun w : Want => .agg w.cs) f p h →
 Q (.int .i64 (idxI p L)) h → C (N 244) [x, f] h Q
theorem slices_IndexFunc_api_Want_api_Want.spec (i : slices_IndexFunc_api_Want_api_Want.Imp C N) : slices_IndexFunc_api_Want_api_Want.Spec C N := by
 intro x f p L R h Q hx hlen hf hq
 exact i _ _ _ _ (indexFunc_spec wantS hx hlen hf (dn_same hq))
def slices_ContainsFunc_api_Want_api_Want.Spec (C : CSem) (N : Nat → Nat) : Prop := ∀ (x f : AVal) (p : Want → Bool) (L : List Want) (R : List (List AVal)) (h : AHeap) (Q : AVal → AHeap → Prop), SlX h 3 x (L.map Want.cs) R → L.length < 4611686018427387904 → AskSpec C (fun w : Want => .agg w.cs) f p h →
 Q (.bool (L.any p)) h → C (N 237) [x, f] h Q
theorem slices_ContainsFunc_api_Want_api_Want.spec (i : slices_ContainsFunc_api_Want_api_Want.Imp C N) (s1 : slices_IndexFunc_api_Want_api_Want.Spec C N) : slices_ContainsFunc_api_Want_api_Want.Spec C N := by
 intro x f p L R h Q hx hlen hf hq
 exact i _ _ _ _ (containsFunc_spec (fun Q' hq' => s1 _ _ _ _ _ _ _ hx hlen hf hq') (dn_same hq))
def wantRight (w : Want) : Bool := codeRight w.Item && decide (0 ≤ w.Day) && decide (w.Day ≤ 4000) && decide (1 ≤ w.Qty) && decide (w.Qty ≤ 1125899906842624)
def flow_together_1.Spec (C : CSem) (N : Nat → Nat) : Prop := ∀ (w : Want) (h : AHeap) (Q : AVal → AHeap → Prop), Q (.bool !wantRight w) h → C (N 243) [.agg w.cs] h Q
theorem flow_together_1.spec (i : flow_together_1.Imp C N) (s1 : code_Right.Spec C N) (s2 : amount_Right.Spec C N) : flow_together_1.Spec C N := by
 intro w h Q hq
 apply i
 have e : ∀ b, (!wantRight w) = b → dn Q (.bool b) h := fun b hb => by rw [← hb]; exact dn_same hq
 simp +contextual -dsimp
 refine s1 _ _ _ ?_
 simp +contextual -dsimp
 refine B.gdb_call (fun _ _ hq => s2 _ _ _ hq) ?_
 simp +contextual -dsimp
 refine e _ ?_
 unfold wantRight
 cases codeRight w.Item
 ·simp
 ·rw [Bool.eq_iff_iff]; simp; omega
def serves (l : Lot) (w : Want) : Bool := decide (l.Item = w.Item) && Window.has ⟨l.From, l.Until⟩ w.Day
def mayBe (L : List Lot) (W : List Want) : Bool := decide (L.length ≤ 300) && decide (W.length ≤ 20000) && L.all lotRight && decide ((L.map Lot.Id).Nodup) && W.all wantRight
def flow_together.Spec (C : CSem) (N : Nat → Nat) : Prop := ∀ (x y : AVal) (L : List Lot) (W : List Want) (R S : List (List AVal)) (h : AHeap) (Q : AVal → AHeap → Prop), SlX h 6 x (L.map Lot.cs) R → SlX h 3 y (W.map Want.cs) S → L.length < 4611686018427387904 → W.length < 4611686018427387904 →
 Q (.bool (mayBe L W)) h → C (N 239) [x, y] h Q
theorem setLot6 (l : Lot) : V.setN 0 6 (.agg l.cs) (.agg [.int .i64 0, .str [], .int .i64 0, .int .i64 0, .int .i64 0, .bool false]) = some (.agg l.cs) := by simp
theorem getLot6 (l : Lot) : V.fieldN 0 6 (.agg l.cs) = some (.agg l.cs) := by simp
theorem lotId (l : Lot) : V.field1 0 (.agg l.cs) = some (.int .i64 l.Id) := by simp
theorem flow_together.spec (i : flow_together.Imp C N) (s1 : lot_Right.Spec C N) (s2 : slices_ContainsFunc_api_Want_api_Want.Spec C N) (s3 : flow_together_1.Spec C N) : flow_together.Spec C N := by
 intro x y L W R S h Q hx hy hlen hlen2 hq
 apply i
 have e1 := hx.lenSl
 have e2 := hy.lenSl
 rw [List.length_map] at e1 e2
 have e : ∀ b h', mayBe L W = b → h.le h' → dn Q (.bool b) h' := fun b h' hb hle => by rw [← hb]; exact dn_le hle hq
 simp +contextual -dsimp [e1, e2]
 refine B.cond_bool (fun hb => ?_) (fun hb => ?_)
 ·refine e _ _ ?_ (AHeap.le_refl h)
  simp at hb
  unfold mayBe
  rcases hb with hb | hb
  ·have : decide (L.length ≤ 300) = false := by rw [decide_eq_false_iff_not]; omega
   rw [this]; rfl
  ·have : decide (W.length ≤ 20000) = false := by rw [decide_eq_false_iff_not]; omega
   rw [this]; simp
 have hl1 : L.length ≤ 300 ∧ W.length ≤ 20000 := by simp at hb; omega
 refine (Owns.start h).newMap (K := Int) (T := Bool) (fun n => .int .i64 n) (fun b => .bool b) fun id h1 _ o1 _ => ?_
 simp only [List.nil_append] at o1
 simp -dsimp only [e1, B.pv_some]
 refine LoopR.intro (fun t vs hh => ∃ (k : Nat) (ps : Ents Int Bool) (c : Nat), k + t = L.length ∧ vs = [.int .i64 (k : Int)] ∧ Owns h hh [.blk id (mapBlk (encM (fun n => .int .i64 n) (fun b => .bool b) ps) c)] ∧
  (∀ n, getP ps n = if n ∈ (L.take k).map Lot.Id then some true else none) ∧ (L.take k).all lotRight = true ∧ ((L.take k).map Lot.Id).Nodup) L.length ?_ ⟨0, [], 0, by omega, rfl, o1, fun n => by simp [getP], by simp, by simp⟩
 rintro Y t vs hh ⟨k, ps, c, ht, rfl, o, hp, hr, hn⟩ hY
 simp -dsimp only [flow_together.l2, flow_together.k1, lssN, B.pv_some]
 have hxx := hx.mono o.le
 refine B.cond_bool (fun hb => ?_) (fun hb => ?_) <;> simp only [decide_eq_true_eq, decide_eq_false_iff_not] at hb
 ·have hg : (L.map Lot.cs)[k]? = some (L[k]).cs := by rw [List.getElem?_map, List.getElem?_eq_getElem hb]; rfl
  have hidx : V.idxS 6 x (.int .i64 (k : Int)) = some (elp 6 x k 0) := hxx.idxN (by simpa using hb)
  have hlk := o.lkp 0 rfl keyI false L[k].Id
  simp -dsimp only [hidx, B.ldn_eq, hxx.elem hg, setLot6, getLot6, B.pv_some]
  refine s1 _ _ _ ?_
  simp -dsimp only [V.un_not, B.pv_some, B.gd_f, B.gdb_pure, lotId, B.al_agg]
  have nodupk : ∀ (hc : L[k].Id ∉ (L.take k).map Lot.Id), ((L.take (k + 1)).map Lot.Id).Nodup := fun hc => by
   rw [take_one hb, List.map_append, List.nodup_append]
   exact ⟨hn, List.pairwise_singleton _ _, fun a ha b hb' e => hc (by simp at hb'; rw [← hb', ← e]; exact ha)⟩
  cases hrt : lotRight L[k] with
  | false =>
   simp -dsimp
   refine e _ _ ?_ o.le
   have : L.all lotRight = false := by
    rw [List.all_eq_false]
    exact ⟨_, List.getElem_mem hb, by simp [hrt]⟩
   unfold mayBe
   rw [this]; simp
  | true =>
   by_cases hc : L[k].Id ∈ (L.take k).map Lot.Id
   ·have hcc : ∃ a, a ∈ L.take k ∧ a.Id = L[k].Id := by obtain ⟨a, h1, h2⟩ := List.mem_map.1 hc; exact ⟨a, h1, h2⟩
    have hg2 : getP ps L[k].Id = some true := by rw [hp, if_pos hc]
    simp -dsimp [hlk, hg2]
    refine e _ _ ?_ o.le
    have : decide ((L.map Lot.Id).Nodup) = false := by
     rw [decide_eq_false_iff_not]
     intro hnd
     have h2 := nodup_inj hnd (i := k) (j := k)
     obtain ⟨a, ha, hae⟩ := hcc
     obtain ⟨j, hj, rfl⟩ := List.getElem_of_mem ha
     rw [List.length_take] at hj
     rw [List.getElem_take] at hae
     have := nodup_inj hnd (i := j) (j := k) (by simp; omega) (by simpa using hb) (by simpa using hae)
     omega
    unfold mayBe
    rw [this]; simp
   ·have hg2 : getP ps L[k].Id = none := by rw [hp, if_neg hc]
    simp -dsimp [hlk, hg2]
    refine o.mset 0 rfl keyI L[k].Id true fun h2 o2 _ _ => ?_
    simp -dsimp [inc64 (n := k) (by omega)]
    refine hY (L.length - (k + 1)) _ _ (by omega) ⟨k + 1, _, _, by omega, by simp, o2, fun n => ?_, ?_, nodupk hc⟩
    ·rw [getP_put, hp, take_one hb, List.map_append]
     by_cases hnk : n = L[k].Id
     ·subst hnk; rw [if_pos rfl, if_pos (by simp)]
     ·rw [if_neg hnk]
      simp [hnk]
    ·rw [take_one hb, List.all_append, hr]; simp [hrt]
 ·rw [List.take_of_length_le (by omega)] at hr hn
  refine s2 _ _ (fun w => !wantRight w) _ _ _ _ (hy.mono o.le) hlen2 (fun w h' K hh hk => ?_) ?_
  ·simp -dsimp
   exact s3 _ _ _ hk
  simp -dsimp only [V.un_not, B.pv_some]
  refine e _ _ ?_ o.le
  unfold mayBe
  rw [hr, decide_eq_true hl1.1, decide_eq_true hl1.2, decide_eq_true hn]
  simp [List.any_eq_not_all_not]
end Go.Ab
namespace Go.Ab
abbrev Lf := Int → Int
structure FS5 where
 left : Lf
 need : Int
 out : List Use
def takeOf (s : FS5) (l : Lot) : Int := min s.need (s.left l.Id)
def stepU (i : Int) (w : Want) (s : FS5) (l : Lot) : FS5 :=
 if takeOf s l = 0 ∨ Window.has ⟨l.From, l.Until⟩ w.Day = false then s
 else ⟨fun n => if n = l.Id then s.left l.Id - takeOf s l else s.left n, s.need - takeOf s l, s.out ++ [⟨i, l.Id, takeOf s l⟩]⟩
def rowOf (L : List Lot) (w : Want) : List Lot := (sortLots L).filter fun l => decide (l.Item = w.Item)
def fillOne (L : List Lot) (i : Int) (w : Want) (left : Lf) (out : List Use) : FS5 := (rowOf L w).foldl (stepU i w) ⟨left, w.Qty, out⟩
def fillAll (L : List Lot) (W : List Want) : List (Fin W.length) → Lf → List Use → Option (List Use × Lf)
 | [], left, out => some (out, left)
 | p :: ps, left, out => if 0 < (fillOne L (p.val : Int) W[p] left out).need then none else fillAll L W ps (fillOne L (p.val : Int) W[p] left out).left (fillOne L (p.val : Int) W[p] left out).out
def dayC (W : List Want) (a b : Fin W.length) : Int := W[a].Day - W[b].Day
def dayOrder (W : List Want) : List (Fin W.length) := sortB (dayC W) (List.finRange W.length)
def left0 (L : List Lot) : Lf := fun i => match L.find? (fun l => decide (l.Id = i)) with | some l => l.Qty | none => 0
def greedy (L : List Lot) (W : List Want) : Option (List Use × Lf) := bif mayBe L W then fillAll L W (dayOrder W) (left0 L) [] else none
theorem dayC_neg (W : List Want) (a b : Fin W.length) : lessC (dayC W) a b = true ↔ W[a].Day < W[b].Day := by
 unfold lessC dayC
 rw [decide_eq_true_eq]
 omega
theorem dayC_nn (W : List Want) (a b : Fin W.length) : lessC (dayC W) a b = false ↔ W[b].Day ≤ W[a].Day := by
 unfold lessC dayC
 rw [decide_eq_false_iff_not]
 omega
theorem dayW (W : List Want) : Weak (lessC (dayC W)) where
 asym {a b} h := by rw [dayC_neg] at h; rw [dayC_nn]; omega
 ntrans {a b c} h k := by rw [dayC_nn] at *; omega
def before (W : List Want) (a b : Fin W.length) : Prop := W[a].Day < W[b].Day ∨ (W[a].Day = W[b].Day ∧ a.val < b.val)
theorem finRange_zipIdx (n : Nat) : ∀ p ∈ (List.finRange n).zipIdx, p.1.val = p.2 := fun p hp => by
 obtain ⟨i, hi, e⟩ := List.getElem_of_mem hp
 rw [List.getElem_zipIdx] at e
 rw [← e]
 simp
theorem dayOrder_up (W : List Want) : (dayOrder W).Pairwise (before W) := by
 obtain ⟨G, h1, h2, h3⟩ := sortB_stable (dayW W) (List.finRange W.length)
 unfold dayOrder
 rw [← h1, List.pairwise_map]
 refine h3.imp_of_mem fun {a b} ha hb h => ?_
 have ea := finRange_zipIdx _ a (h2.mem_iff.1 ha)
 have eb := finRange_zipIdx _ b (h2.mem_iff.1 hb)
 simp only [lt', dayC_neg, dayC_nn] at h
 unfold before
 omega
theorem dayOrder_perm (W : List Want) : (dayOrder W).Perm (List.finRange W.length) := (sortB_stable (dayW W) _).perm
theorem dayOrder_mem (W : List Want) (i : Fin W.length) : i ∈ dayOrder W := (dayOrder_perm W).mem_iff.2 (List.mem_finRange i)
theorem dayOrder_len (W : List Want) : (dayOrder W).length = W.length := by rw [(dayOrder_perm W).length_eq, List.length_finRange]
theorem before_irr (W : List Want) (a : Fin W.length) : ¬ before W a a := by unfold before; omega
def LfOk (left : Lf) : Prop := ∀ i, 0 ≤ left i
structure FSOk (s : FS5) : Prop where
 left : LfOk s.left
 need : 0 ≤ s.need
theorem takeOf_nn {s : FS5} (h : FSOk s) (l : Lot) : 0 ≤ takeOf s l ∧ takeOf s l ≤ s.need ∧ takeOf s l ≤ s.left l.Id := by
 have := h.left l.Id; have := h.need
 unfold takeOf; omega
theorem stepU_ok {s : FS5} (h : FSOk s) (i : Int) (w : Want) (l : Lot) : FSOk (stepU i w s l) := by
 unfold stepU
 have := takeOf_nn h l
 split
 ·exact h
 ·refine ⟨fun n => ?_, by simp only; omega⟩
  simp only
  split
  ·omega
  ·exact h.left n
theorem foldU_ok {i : Int} {w : Want} : ∀ (S : List Lot) {s : FS5}, FSOk s → FSOk (S.foldl (stepU i w) s)
 | [], _, h => h
 | l :: S, _, h => foldU_ok S (stepU_ok h i w l)
theorem mayBe_facts {L : List Lot} {W : List Want} (h : mayBe L W = true) : L.length ≤ 300 ∧ W.length ≤ 20000 ∧ (∀ l ∈ L, lotRight l = true) ∧ (L.map Lot.Id).Nodup ∧ ∀ w ∈ W, wantRight w = true := by
 simp only [mayBe, Bool.and_eq_true, decide_eq_true_eq, List.all_eq_true] at h
 exact ⟨h.1.1.1.1, h.1.1.1.2, h.1.1.2, h.1.2, h.2⟩
theorem id_inj {L : List Lot} (h : (L.map Lot.Id).Nodup) {a b : Lot} (ha : a ∈ L) (hb : b ∈ L) (e : a.Id = b.Id) : a = b := by
 obtain ⟨i, hi, rfl⟩ := List.getElem_of_mem ha
 obtain ⟨j, hj, rfl⟩ := List.getElem_of_mem hb
 have := nodup_inj h (i := i) (j := j) (by simpa using hi) (by simpa using hj) (by simpa using e)
 subst this; rfl
theorem left0_of {L : List Lot} (h : (L.map Lot.Id).Nodup) {l : Lot} (hl : l ∈ L) : left0 L l.Id = l.Qty := by
 unfold left0
 cases hf : L.find? (fun a => decide (a.Id = l.Id)) with
 | none => rw [List.find?_eq_none] at hf; have := hf l hl; simp at this
 | some a =>
  have h1 := List.find?_some hf
  have h2 := List.mem_of_find?_eq_some hf
  simp only [decide_eq_true_eq] at h1
  rw [id_inj h h2 hl h1]
theorem lotRight_facts {l : Lot} (h : lotRight l = true) : 0 < l.Id ∧ 0 < l.Qty ∧ l.Qty ≤ 1073741824 ∧ codeRight l.Item = true ∧ Window.right ⟨l.From, l.Until⟩ = true ∧ l.From < l.Until := by
 simp [lotRight] at h
 exact ⟨h.1.1.1.1.1, h.1.2, h.2, h.1.1.1.1.2, h.1.1.1.2, h.1.1.2⟩
theorem wantRight_facts {w : Want} (h : wantRight w = true) : codeRight w.Item = true ∧ 0 ≤ w.Day ∧ w.Day ≤ 4000 ∧ 1 ≤ w.Qty ∧ w.Qty ≤ 1125899906842624 := by
 simp [wantRight] at h
 exact ⟨h.1.1.1.1, h.1.1.1.2, h.1.1.2, h.1.2, h.2⟩
theorem left0_ok {L : List Lot} (h : ∀ l ∈ L, lotRight l = true) : LfOk (left0 L) := fun i => by
 unfold left0
 cases hf : L.find? (fun a => decide (a.Id = i)) with
 | none => exact Int.le_refl _
 | some a => have := lotRight_facts (h a (List.mem_of_find?_eq_some hf)); simp only; omega
end Go.Ab
namespace Go.Ab
variable {C : CSem} {N : Nat → Nat}
abbrev fc {n : Nat} (i : Fin n) : List AVal := [.int .i64 (i.val : Int)]
def slices_SortStableFunc_int_int.Spec (C : CSem) (N : Nat → Nat) : Prop := ∀ (n : Nat) (h0 h : AHeap) (x f : AVal) (c : Fin n → Fin n → Int) (L : List (Fin n)) (R : List (List AVal)) (Q : AVal → AHeap → Prop), Weak (lessC c) → CmpSpec C (fun i : Fin n => .int .i64 (i.val : Int)) c f h0 → L.length ≤ 100000000 →
 Owns h0 h [.sl 1 x (L.map fc) R] → (∀ h', Owns h0 h' [.sl 1 x ((sortB c L).map fc) R] → Q (.tup []) h') → C (N 246) [x, f] h Q
theorem slices_SortStableFunc_int_int.spec (i : slices_SortStableFunc_int_int.Imp C N) (i1 : slices_symMergeCmpFunc_int.Imp C N) (i2 : slices_rotateCmpFunc_int.Imp C N) (i3 : slices_swapRangeCmpFunc_int.Imp C N) (i4 : slices_insertionSortCmpFunc_int.Imp C N) (i5 : slices_stableCmpFunc_int.Imp C N) :
  slices_SortStableFunc_int_int.Spec C N := by
 intro n h0 h x f c L R Q W hc hlen ho hq
 have S : SeqSpec (opsS 8 (.int .i64 0) 0) (fun i : Fin n => [AVal.int .i64 (i.val : Int)]) (fun i => .int .i64 (i.val : Int)) := seqS (by omega) fun _ => rfl
 refine i _ _ _ _ (sortStable_spec S W (f1 := N 249) (f2 := N 251) (f3 := N 252) (f4 := N 250) ⟨i1, i2, i3, i4, i5⟩ hc hlen ho fun h' L' st o => dn_same (hq h' ?_))
 rw [← stable_sortB W st]; exact o
def flow_days_1.Spec (C : CSem) (N : Nat → Nat) : Prop := ∀ (q y : AVal) (W : List Want) (S : List (List AVal)) (a b : Fin W.length) (h : AHeap) (Q : AVal → AHeap → Prop), A.ldv h q = some y → SlX h 3 y (W.map Want.cs) S → (∀ w ∈ W, wantRight w = true) →
 Q (.int .i64 (dayC W a b)) h → C (N 245) [.int .i64 (a.val : Int), .int .i64 (b.val : Int), q] h Q
theorem flow_days_1.spec (i : flow_days_1.Imp C N) : flow_days_1.Spec C N := by
 intro q y W S a b h Q hl hy hw hq
 apply i
 have gx : ∀ i : Fin W.length, (W.map Want.cs)[i.val]? = some (W[i]).cs := fun i => by rw [List.getElem?_map, List.getElem?_eq_getElem i.2]; rfl
 have ix : ∀ i : Fin W.length, V.idxS 3 y (.int .i64 (i.val : Int)) = some (elp 3 y i.val 0) := fun i => hy.idxN (by simp)
 have fx : ∀ i : Fin W.length, V.fieldAddr 1 (elp 3 y i.val 0) = some (elp 3 y i.val 1) := fun i => by have := hy.fieldA (i := i.val) (by simp) 0 1; simpa using this
 have lx : ∀ i : Fin W.length, A.ldv h (elp 3 y i.val 1) = some (.int .i64 W[i].Day) := fun i => by have := hy.ldv (i := i.val) (f := 1) (gx i) (by omega); simpa using this
 have ra := wantRight_facts (hw W[a] (List.getElem_mem a.2))
 have rb := wantRight_facts (hw W[b] (List.getElem_mem b.2))
 simp -dsimp only [flow_days_1.cps, flow_days_1.k1, B.ld_eq, hl, ix, fx, lx, V.bin_sub, B.pv_some]
 rw [wrap_i64 (by omega) (by omega)]
 exact dn_same hq
def flow_days.Spec (C : CSem) (N : Nat → Nat) : Prop := ∀ (y : AVal) (W : List Want) (S : List (List AVal)) (h : AHeap) (Q : AVal → AHeap → Prop), SlX h 3 y (W.map Want.cs) S → W.length ≤ 20000 → (∀ w ∈ W, wantRight w = true) →
 (∀ z h', Owns h h' [.sl 1 z ((dayOrder W).map fc) []] → Q z h') → C (N 240) [y] h Q
theorem fills_fin (n : Nat) : (fills n fun j => [AVal.int .i64 (j : Int)]) = (List.finRange n).map fc := by
 apply List.ext_getElem?
 intro i
 by_cases hi : i < n
 ·rw [fills_get _ hi, List.getElem?_map, List.getElem?_eq_getElem (by simpa using hi)]; simp [fc]
 ·rw [List.getElem?_eq_none (by simp; omega), List.getElem?_eq_none (by simp; omega)]
theorem flow_days.spec (i : flow_days.Imp C N) (s1 : slices_SortStableFunc_int_int.Spec C N) (s2 : flow_days_1.Spec C N) : flow_days.Spec C N := by
 intro y W S h Q hy hlen hw hq
 apply i
 have hc := hy.isCell
 have e1 := hy.lenSl
 rw [List.length_map] at e1
 simp -dsimp only [flow_days.cps, cells1_eq, hc, cond_true]
 intro id hid
 have hle := le_upd (blkOf [y]) hid
 have ld : A.ldv (upd h id (blkOf [y])) (.ptr id 0 0) = some y := by rw [ldv_at (upd_same ..)]; rfl
 simp -dsimp only [flow_days.k3, B.ld_eq, ld, e1, B.pv_some]
 refine ⟨by omega, ?_⟩
 refine (Owns.start _).mks (bytes := 8) (es := 1) rfl (by omega) (by omega) (by omega) (by omega) fun z h1 o1 => ?_
 have e2 := (o1.slAt 0 rfl).lenSl
 rw [fills_len] at e2
 have e3 : (W.length : Int).toNat = W.length := by omega
 rw [e3] at e2
 simp only [List.nil_append, e3] at o1
 simp -dsimp only [e2, B.pv_some]
 refine LoopR.intro (fun t vs hh => ∃ k : Nat, k + t = W.length ∧ vs = [.int .i64 (k : Int)] ∧ Owns (upd h id (blkOf [y])) hh [.sl 1 z (fills W.length fun j => [.int .i64 (if j < k then (j : Int) else 0)]) []]) W.length ?_ ⟨0, by omega, rfl, by simpa using o1⟩
 rintro Y t vs hh ⟨k, ht, rfl, o⟩ hY
 simp -dsimp only [flow_days.l2, flow_days.k1, lssN, B.pv_some]
 refine B.cond_bool (fun hb => ?_) (fun hb => ?_) <;> simp only [decide_eq_true_eq, decide_eq_false_iff_not] at hb
 ·have hz := o.slAt 0 rfl
  have hidx : V.idxS 1 z (.int .i64 (k : Int)) = some (elp 1 z k 0) := hz.idxN (by simpa using hb)
  simp -dsimp only [hidx, B.pv_some]
  refine o.st 0 rfl (fills_get _ hb) (by omega) rfl fun h2 o2 _ => ?_
  simp -dsimp only [add1 (show k < 4611686018427387904 by omega), B.pv_some]
  refine hY (W.length - (k + 1)) _ _ (by omega) ⟨k + 1, by omega, rfl, ?_⟩
  simp only [List.set_cons_zero, fills_set] at o2
  have e : (fills W.length fun j => if j = k then [AVal.int .i64 (k : Int)] else [.int .i64 (if j < k then (j : Int) else 0)]) = fills W.length fun j => [.int .i64 (if j < k + 1 then (j : Int) else 0)] := fills_congr fun j hj => by
   by_cases e : j = k
   ·subst e; simp
   ·rw [if_neg e]
    by_cases h2 : j < k
    ·rw [if_pos h2, if_pos (by omega)]
    ·rw [if_neg h2, if_neg (by omega)]
  rw [e] at o2; exact o2
 ·have e : (fills W.length fun j => [AVal.int .i64 (if j < k then (j : Int) else 0)]) = (List.finRange W.length).map fc := by
   rw [← fills_fin]
   exact fills_congr fun j hj => by rw [if_pos (by omega)]
  rw [e] at o
  refine s1 W.length _ _ _ _ (dayC W) _ _ _ (dayW W) ⟨fun h' a b K hh hk => ?_⟩ (by simp; omega) o fun h3 o3 => dn_same (hq z h3 (o3.back hle))
  simp -dsimp
  refine s2 _ y W S a b _ _ ?_ ((hy.mono hle).mono hh) hw hk
  rw [ldv_at (hh _ _ (upd_same ..))]; rfl
end Go.Ab
