/- What is proved: a part of the way to the statement; each part is headed by what it proves. No conditions. -/
import Derived.Test.YtncpfmgbjopjdaaQ6
import Derived.Test.YtncpfmgbjopjdaaQ3

/- What is proved: stable orders, by ghost numbers. No conditions. -/
namespace Go.Ab
/-! Stable orders. -/
structure Weak {T : Type} (less : T → T → Bool) : Prop where
  asym : ∀ {a b}, less a b = true → less b a = false
  ntrans : ∀ {a b c}, less a b = false → less b c = false → less a c = false
section
variable {T : Type} {less : T → T → Bool}
theorem Weak.irr (W : Weak less) (a : T) : less a a = false := by
  cases h : less a a with
  | false => rfl
  | true => have := W.asym h; rw [h] at this; cases this
theorem Weak.trans (W : Weak less) {a b c : T} (h1 : less a b = true) (h2 : less b c = true) : less a c = true := by
  cases h : less a c with
  | true => rfl
  | false => have := W.ntrans h (W.asym h2); rw [h1] at this; cases this
/-- Ahead, or alike and of a smaller number. -/
def lt' (less : T → T → Bool) (x y : T × Nat) : Prop := less x.1 y.1 = true ∨ (less y.1 x.1 = false ∧ x.2 < y.2)
theorem lt'_trans (W : Weak less) {x y z : T × Nat} (h1 : lt' less x y) (h2 : lt' less y z) : lt' less x z := by
  unfold lt' at *
  rcases h1 with h1 | ⟨h1, n1⟩ <;> rcases h2 with h2 | ⟨h2, n2⟩
  · exact .inl (W.trans h1 h2)
  · left
    cases h : less x.1 z.1 with
    | true => rfl
    | false => have := W.ntrans h h2; rw [h1] at this; cases this
  · left
    cases h : less x.1 z.1 with
    | true => rfl
    | false => have := W.ntrans h1 h; rw [h2] at this; cases this
  · exact .inr ⟨W.ntrans h2 h1, by omega⟩
theorem lt'_asym (W : Weak less) {x y : T × Nat} (h1 : lt' less x y) (h2 : lt' less y x) : False := by
  have := lt'_trans W h1 h2
  unfold lt' at this
  rcases this with h | ⟨_, h⟩
  · rw [W.irr] at h; cases h
  · omega
theorem lt'_gt {x y : T × Nat} (hn : y.2 < x.2) : lt' less x y ↔ less x.1 y.1 = true := ⟨fun h => h.elim id fun ⟨_, h⟩ => by omega, .inl⟩
theorem lt'_le (W : Weak less) {x y : T × Nat} (hn : x.2 < y.2) : lt' less x y ↔ less y.1 x.1 = false :=
  ⟨fun h => h.elim (fun h => W.asym h) fun ⟨h, _⟩ => h, fun h => .inr ⟨h, hn⟩⟩
/-- S is L in stable order. -/
def StableSort (less : T → T → Bool) (L S : List T) : Prop := ∃ G : List (T × Nat), G.map (·.1) = S ∧ G.Perm L.zipIdx ∧ G.Pairwise (lt' less)
theorem StableSort.unique (W : Weak less) {L S S' : List T} (h : StableSort less L S) (k : StableSort less L S') : S = S' := by
  obtain ⟨G, rfl, p, s⟩ := h
  obtain ⟨H, rfl, q, t⟩ := k
  have := List.Perm.eq_of_pairwise (le := lt' less) (fun a b _ _ h1 h2 => (lt'_asym W h1 h2).elim) s t (p.trans q.symm)
  rw [this]
theorem StableSort.perm {L S : List T} (h : StableSort less L S) : S.Perm L := by
  obtain ⟨G, rfl, p, _⟩ := h
  have := p.map (·.1)
  simpa using this
theorem StableSort.sorted (W : Weak less) {L S : List T} (h : StableSort less L S) : S.Pairwise fun a b => less b a = false := by
  obtain ⟨G, rfl, _, s⟩ := h
  rw [List.pairwise_map]
  exact s.imp fun h => h.elim (fun h => W.asym h) fun ⟨h, _⟩ => h
end
theorem nodup_inj {α : Type} {L : List α} (h : L.Nodup) {i j : Nat} (hi : i < L.length) (hj : j < L.length) (e : L[i] = L[j]) : i = j := by
  have hp := List.pairwise_iff_getElem.1 h
  rcases Nat.lt_trichotomy i j with k | k | k
  · exact absurd e (hp i j hi hj k)
  · exact k
  · exact absurd e.symm (hp j i hj hi k)
end Go.Ab

/- What is proved: elements of one's own list loaded, stored, exchanged; numbers. No conditions. -/
set_option linter.unusedVariables false
set_option linter.unusedSimpArgs false
namespace Go.Ab
variable {C : CSem} {N : Nat → Nat}

/-! Numbers. -/
theorem add64 {a b : Nat} (h : a + b < 4611686018427387904) : V.bin .add (.int .i64 (a : Int)) (.int .i64 (b : Int)) = some (.int .i64 ((a + b : Nat) : Int)) := by
  rw [V.bin_add, wrap_i64 (by omega) (by omega)]; simp
theorem add1 {a : Nat} (h : a < 4611686018427387904) : V.bin .add (.int .i64 (a : Int)) (.int .i64 1) = some (.int .i64 ((a + 1 : Nat) : Int)) := by
  rw [V.bin_add, wrap_i64 (by omega) (by omega)]; simp
theorem sub64 {a b : Nat} (h : b ≤ a) (ha : a < 4611686018427387904) : V.bin .sub (.int .i64 (a : Int)) (.int .i64 (b : Int)) = some (.int .i64 ((a - b : Nat) : Int)) := by
  rw [V.bin_sub, wrap_i64 (by omega) (by omega)]; congr 2; omega
theorem sub1 {a : Nat} (h : 1 ≤ a) (ha : a < 4611686018427387904) : V.bin .sub (.int .i64 (a : Int)) (.int .i64 1) = some (.int .i64 ((a - 1 : Nat) : Int)) := by
  rw [V.bin_sub, wrap_i64 (by omega) (by omega)]; congr 2; omega
theorem lssN {a b : Nat} : V.bin .lss (.int .i64 (a : Int)) (.int .i64 (b : Int)) = some (.bool (decide (a < b))) := by rw [V.bin_lss]; congr 3; exact propext (by omega)
theorem leqN {a b : Nat} : V.bin .leq (.int .i64 (a : Int)) (.int .i64 (b : Int)) = some (.bool (decide (a ≤ b))) := by rw [V.bin_leq]; congr 3; exact propext (by omega)
theorem gtrN {a b : Nat} : V.bin .gtr (.int .i64 (a : Int)) (.int .i64 (b : Int)) = some (.bool (decide (b < a))) := by rw [V.bin_gtr]; congr 3; exact propext (by omega)
theorem neqN {a b : Nat} : V.bin .neq (.int .i64 (a : Int)) (.int .i64 (b : Int)) = some (.bool (!decide (a = b))) := by rw [V.bin_neq]; congr 4; exact propext (by omega)
theorem eql1 {a : Nat} : V.bin .eql (.int .i64 (a : Int)) (.int .i64 1) = some (.bool (decide (a = 1))) := by rw [V.bin_eql]; congr 3; exact propext (by omega)

/-- What is asked of the elements of a list: their cells, how they are loaded and stored. -/
structure SeqSpec (E : ElOps) {X : Type} (cs : X → List AVal) (v : X → AVal) : Prop where
  pos : 0 < E.es
  small : E.bytes ≤ 1000
  zlen : E.z.length = E.es
  len : ∀ t, (cs t).length = E.es
  new : ∀ t, fillL [(0, E.kp, v t)] (repL 1 E.z) = some (cs t)
  ld : ∀ {h : AHeap} {x : AVal} {L R : List (List AVal)} {i : Nat} {t : X} {K : AVal → Prop}, SlX h E.es x L R → L[i]? = some (cs t) → K (v t) → E.ld h (elp E.es x i 0) K
  kpt : ∀ {h : AHeap} {x : AVal} {L R : List (List AVal)} {i : Nat} {t : X}, SlX h E.es x L R → L[i]? = some (cs t) → Kp h (elp E.es x i 0) E.kp
  st : ∀ {h0 h : AHeap} {x : AVal} {L R : List (List AVal)} {i : Nat} {c : List AVal} {t : X} {K : AHeap → Prop}, Owns h0 h [.sl E.es x L R] → L[i]? = some c →
    (∀ h', Owns h0 h' [.sl E.es x (L.set i (cs t)) R] → K h') → E.st h (elp E.es x i 0) (v t) K
theorem SeqSpec.comp {E : ElOps} {X Y : Type} {cs : X → List AVal} {v : X → AVal} (S : SeqSpec E cs v) (f : Y → X) : SeqSpec E (fun y => cs (f y)) (fun y => v (f y)) :=
  ⟨S.pos, S.small, S.zlen, fun t => S.len _, fun t => S.new _, fun h1 h2 h3 => S.ld h1 h2 h3, fun h1 h2 => S.kpt h1 h2, fun h1 h2 h3 => S.st h1 h2 h3⟩
theorem seqF {X : Type} {es bytes f : Nat} {z : List AVal} {sh : List Ck} {cs : X → List AVal} (hp : 0 < es) (hb : bytes ≤ 1000) (hz : z.length = es) (hl : ∀ t, (cs t).length = es) : SeqSpec (opsF es bytes z f sh) cs (fun t => .agg (cs t)) where
  pos := hp
  small := hb
  zlen := hz
  len := hl
  new t := by
    have hrep : repL 1 z = z := by unfold repL; split <;> simp
    have h1 := hl t
    show fillL [(0, some es, AVal.agg (cs t))] (repL 1 z) = _
    rw [hrep]
    simp [h1, hz]
  ld hs hc hk := by
    simp only [opsF, B.ldn_eq] at hs ⊢
    rw [hs.elem hc]; exact hk
  kpt hs hc := ⟨_, hs.elem hc⟩
  st ho hc hk := ho.stElem 0 rfl hc (hl _) fun h' h1 _ => hk h' h1
theorem seqS {X : Type} {bytes f : Nat} {z : AVal} {v : X → AVal} (hb : bytes ≤ 1000) (hc : ∀ t, (v t).isCell = true) : SeqSpec (opsS bytes z f) (fun t => [v t]) v where
  pos := Nat.one_pos
  small := hb
  zlen := rfl
  len _ := rfl
  new t := by simp [opsS, hc, repL]
  ld hs hcc hk := by
    simp only [opsS, B.ld_eq] at hs ⊢
    rw [hs.cell hcc]; exact hk
  kpt hs hcc := ⟨_, hs.cell hcc⟩
  st {h0 h x L R i c t K} ho hcc hk := by
    have hs : SlX h 1 x L R := ho.slAt 0 rfl
    have hcl : c.length = 1 := hs.len c (List.mem_append_left _ (List.mem_of_getElem? hcc))
    obtain ⟨u, rfl⟩ := List.length_eq_one_iff.1 hcl
    exact ho.st 0 rfl hcc (by show 0 < 1; omega) (hc _) fun h' h1 _ => hk h' h1

/-- A list of one's own, element by element. -/
def Rw (E : ElOps) {X : Type} (cs : X → List AVal) (h0 h : AHeap) (x : AVal) (G : List X) (R : List (List AVal)) : Prop := Owns h0 h [.sl E.es x (G.map cs) R]
section
variable {E : ElOps} {X : Type} {cs : X → List AVal} {v : X → AVal} {h0 h : AHeap} {x : AVal} {G : List X} {R : List (List AVal)}
theorem Rw.idx (ho : Rw E cs h0 h x G R) {i : Nat} (hi : i < G.length) : V.idxS E.es x (.int .i64 (i : Int)) = some (elp E.es x i 0) := (Owns.slAt ho 0 rfl).idxN (by simpa using hi)
theorem Rw.lenE (ho : Rw E cs h0 h x G R) : V.lenSl x = some (.int .i64 G.length) := by have := (Owns.slAt ho 0 rfl).lenSl; simpa using this
theorem Rw.le (ho : Rw E cs h0 h x G R) : h0.le h := Owns.le ho
theorem Rw.ld (ho : Rw E cs h0 h x G R) (S : SeqSpec E cs v) {i : Nat} {t : X} (hg : G[i]? = some t) {K : AVal → Prop} (hk : K (v t)) : E.ld h (elp E.es x i 0) K :=
  S.ld (Owns.slAt ho 0 rfl) (by rw [List.getElem?_map, hg]; rfl) hk
theorem Rw.st (ho : Rw E cs h0 h x G R) (S : SeqSpec E cs v) {i : Nat} {t : X} (hi : i < G.length) {K : AHeap → Prop} (hk : ∀ h', Rw E cs h0 h' x (G.set i t) R → K h') : E.st h (elp E.es x i 0) (v t) K :=
  S.st ho (c := cs G[i]) (by rw [List.getElem?_map, List.getElem?_eq_getElem hi]; rfl) fun h' h1 => hk h' (by unfold Rw; rwa [List.map_set])
theorem set_mid {P Q : List X} {a b : X} {i : Nat} (hi : i = P.length) : (P ++ a :: Q).set i b = P ++ b :: Q := by subst hi; simp
theorem get_mid {P Q : List X} {a : X} {i : Nat} (hi : i = P.length) : (P ++ a :: Q)[i]? = some a := by subst hi; simp
theorem set_mid2 {P Q T : List X} {a b c : X} {j : Nat} (hj : j = P.length + 1 + Q.length) : (P ++ a :: (Q ++ b :: T)).set j c = P ++ a :: (Q ++ c :: T) := by
  have := set_mid (P := P ++ a :: Q) (Q := T) (a := b) (b := c) (i := j) (by simp; omega)
  simpa using this
theorem get_mid2 {P Q T : List X} {a b : X} {j : Nat} (hj : j = P.length + 1 + Q.length) : (P ++ a :: (Q ++ b :: T))[j]? = some b := by
  have := get_mid (P := P ++ a :: Q) (Q := T) (a := b) (i := j) (by simp; omega)
  simpa using this
theorem Rw.swapUp {P Q T : List X} {a b : X} {i j : Nat} (ho : Rw E cs h0 h x (P ++ a :: (Q ++ b :: T)) R) (S : SeqSpec E cs v) (hi : i = P.length) (hj : j = P.length + 1 + Q.length) {K : AHeap → Prop}
    (hk : ∀ h', Rw E cs h0 h' x (P ++ b :: (Q ++ a :: T)) R → K h') : E.st h (elp E.es x i 0) (v b) fun h => E.st h (elp E.es x j 0) (v a) K := by
  refine ho.st S (by simp; omega) fun h1 o1 => ?_
  rw [set_mid hi] at o1
  refine o1.st S (by simp; omega) fun h2 o2 => hk h2 ?_
  rwa [set_mid2 hj] at o2
theorem Rw.swapDn {P Q T : List X} {a b : X} {i j : Nat} (ho : Rw E cs h0 h x (P ++ a :: (Q ++ b :: T)) R) (S : SeqSpec E cs v) (hi : i = P.length) (hj : j = P.length + 1 + Q.length) {K : AHeap → Prop}
    (hk : ∀ h', Rw E cs h0 h' x (P ++ b :: (Q ++ a :: T)) R → K h') : E.st h (elp E.es x j 0) (v a) fun h => E.st h (elp E.es x i 0) (v b) K := by
  refine ho.st S (by simp; omega) fun h1 o1 => ?_
  rw [set_mid2 hj] at o1
  refine o1.st S (by simp; omega) fun h2 o2 => hk h2 ?_
  rwa [set_mid hi] at o2
end

/-- A comparison that leaves the memory. -/
structure CmpSpec (C : CSem) {X : Type} (v : X → AVal) (c : X → X → Int) (f : AVal) (h0 : AHeap) : Prop where
  call : ∀ (h : AHeap) (a b : X) (K : AVal → AHeap → Prop), h0.le h → K (.int .i64 (c a b)) h → B.callv h C f [v a, v b] K

section
variable {E : ElOps} {T : Type} {cs : T → List AVal} {v : T → AVal} {c : T → T → Int} {h0 h : AHeap} {x f : AVal} {R : List (List AVal)} {Q : AVal → AHeap → Prop}
/-- Ahead, by a comparison's answer. -/
def lessC (c : T → T → Int) (a b : T) : Bool := decide (c a b < 0)

theorem nil_or_snoc {X : Type} (L : List X) : L = [] ∨ ∃ L0 y, L = L0 ++ [y] := by
  rcases List.eq_nil_or_concat L with h | ⟨A, b, h⟩
  · exact .inl h
  · exact .inr ⟨A, b, by rw [h, List.concat_eq_append]⟩
/-- Insertion sort, stable. -/
theorem insertionSort_spec (S : SeqSpec E cs v) (W : Weak (lessC c)) {P M U : List (T × Nat)} (hlen : (P ++ (M ++ U)).length ≤ 100000000) (ht : M.Pairwise fun a b => a.2 < b.2)
    (hc : CmpSpec C v c f h0) {a b : Nat} (ha : a = P.length) (hb : b = P.length + M.length) (ho : Rw E (fun p : T × Nat => cs p.1) h0 h x (P ++ (M ++ U)) R)
    (hq : ∀ h' M', M'.Perm M → M'.Pairwise (lt' (lessC c)) → Rw E (fun p : T × Nat => cs p.1) h0 h' x (P ++ (M' ++ U)) R → Q (.tup []) h') :
    slices_insertionSortCmpFuncG.cps C E x (.int .i64 (a : Int)) (.int .i64 (b : Int)) f h Q := by
  have S' := S.comp (fun p : T × Nat => p.1)
  subst ha
  have hlen' : P.length + M.length + U.length ≤ 100000000 := by simpa [Nat.add_assoc] using hlen
  simp -dsimp only [slices_insertionSortCmpFuncG.cps, add1 (show P.length < 4611686018427387904 by omega), B.pv_some]
  cases M with
  | nil =>
    intro Y hY
    refine hY _ _ ?_
    simp -dsimp only [slices_insertionSortCmpFuncG.l3, lssN, B.pv_some]
    rw [show decide (P.length + 1 < b) = false by simp at hb ⊢; omega, B.cond_false]
    exact hq h [] (List.Perm.refl _) .nil ho
  | cons m M1 =>
  simp only [List.length_cons] at hlen' hb
  rw [List.pairwise_cons] at ht
  refine LoopR.intro (fun t vs hh => ∃ (i : Nat) (L M2 : List (T × Nat)), t = M2.length ∧ vs = [.int .i64 i] ∧ i = P.length + L.length ∧ i + M2.length = b ∧ Rw E (fun p : T × Nat => cs p.1) h0 hh x (P ++ (L ++ (M2 ++ U))) R ∧
    (L ++ M2).Perm (m :: M1) ∧ L.Pairwise (lt' (lessC c)) ∧ M2.Pairwise (fun a b => a.2 < b.2) ∧ ∀ p ∈ L, ∀ q ∈ M2, p.2 < q.2) M1.length ?_
    ⟨P.length + 1, [m], M1, rfl, rfl, by simp, by omega, by simpa using ho, List.Perm.refl _, List.pairwise_singleton .., ht.2, by simpa using ht.1⟩
  rintro Y t vs hh ⟨i, L, M2, rfl, rfl, hi, hib, o, hp, hs, ht2, htt⟩ hY
  simp -dsimp only [slices_insertionSortCmpFuncG.l3, lssN, B.pv_some]
  cases M2 with
  | nil =>
    rw [show decide (i < b) = false by simp at hib ⊢; omega, B.cond_false]
    rw [List.append_nil] at hp
    exact hq hh L hp hs o
  | cons x0 M2 =>
    simp only [List.length_cons] at hib
    rw [show decide (i < b) = true by simp; omega, B.cond_true]
    rw [List.pairwise_cons] at ht2
    have hll : P.length + (L.length + (M2.length + 1)) = b := by omega
    refine LoopR.intro (fun t vs h2 => ∃ (L1 L2 : List (T × Nat)), t = L1.length ∧ vs = [.int .i64 ((P.length + L1.length : Nat) : Int)] ∧ L = L1 ++ L2 ∧ Rw E (fun p : T × Nat => cs p.1) h0 h2 x (P ++ (L1 ++ x0 :: (L2 ++ (M2 ++ U)))) R ∧
      ∀ q ∈ L2, lt' (lessC c) x0 q) L.length ?_ ⟨L, [], rfl, by rw [hi], by simp, by simpa using o, by simp⟩
    rintro Z t vs h2 ⟨L1, L2, rfl, rfl, rfl, o2, hx⟩ hZ
    rw [List.pairwise_append] at hs
    have fin : (L1 = [] ∨ ∃ L0 y, L1 = L0 ++ [y] ∧ lt' (lessC c) y x0) → Y [.int .i64 ((i + 1 : Nat) : Int)] h2 := fun hz => by
      have hlow : ∀ p ∈ L1, lt' (lessC c) p x0 := by
        rcases hz with rfl | ⟨L0, y, rfl, hy⟩
        · simp
        · intro p hpm
          rcases List.mem_append.1 hpm with h1 | h1
          · exact lt'_trans W ((List.pairwise_append.1 hs.1).2.2 p h1 y (by simp)) hy
          · rw [List.mem_singleton.1 h1]; exact hy
      refine hY M2.length _ _ (by simp) ⟨i + 1, L1 ++ x0 :: L2, M2, rfl, rfl, by simp at hi ⊢; omega, by omega, by simpa using o2, ?_, ?_, ht2.2, ?_⟩
      · refine List.Perm.trans ?_ hp
        simp only [List.append_assoc, List.cons_append]
        refine List.Perm.append_left _ ?_
        exact (List.perm_middle (l₁ := L2) (l₂ := M2) (a := x0)).symm
      · rw [List.pairwise_append, List.pairwise_cons]
        refine ⟨hs.1, ⟨hx, hs.2.1⟩, fun p h1 q h2 => ?_⟩
        rcases List.mem_cons.1 h2 with rfl | h2
        · exact hlow p h1
        · exact hs.2.2 p h1 q h2
      · intro p h1 q h2
        rcases List.mem_append.1 h1 with h1 | h1
        · exact htt p (List.mem_append_left _ h1) q (List.mem_cons_of_mem _ h2)
        · rcases List.mem_cons.1 h1 with rfl | h1
          · exact ht2.1 q h2
          · exact htt p (List.mem_append_right _ h1) q (List.mem_cons_of_mem _ h2)
    have hll2 : i = P.length + (L1.length + L2.length) := by simpa using hi
    simp -dsimp only [slices_insertionSortCmpFuncG.l2, slices_insertionSortCmpFuncG.k1, gtrN, B.pv_some]
    obtain rfl | ⟨L0, y, rfl⟩ := nil_or_snoc L1
    · simp -dsimp [add1 (show i < 4611686018427387904 by omega)]
      exact fin (.inl rfl)
    · have hyx : y.2 < x0.2 := htt y (by simp) x0 (by simp)
      have o2' := o2
      simp only [List.append_assoc, List.cons_append, List.nil_append] at o2'
      simp only [List.length_append, List.length_singleton] at hll2 hlen' hll
      have hj : P.length + (L0 ++ [y]).length = P.length + L0.length + 1 := by simp [Nat.add_assoc]
      rw [show decide (P.length < P.length + (L0 ++ [y]).length) = true by simp]
      rw [hj]
      simp -dsimp only [B.gd_t, B.gdb_pure, B.gdb_true, gv_true, sub1 (show 1 ≤ P.length + L0.length + 1 by omega) (by omega), Nat.add_sub_cancel, o2.idx (i := P.length + L0.length + 1) (by simp; omega), o2.idx (i := P.length + L0.length) (by simp), B.pv_some]
      have o3 : Rw E (fun p : T × Nat => cs p.1) h0 h2 x ((P ++ L0) ++ y :: ([] ++ x0 :: (L2 ++ (M2 ++ U)))) R := by simpa using o2
      have gy : ((P ++ L0) ++ y :: ([] ++ x0 :: (L2 ++ (M2 ++ U))))[P.length + L0.length]? = some y := get_mid (by simp)
      have gx : ((P ++ L0) ++ y :: ([] ++ x0 :: (L2 ++ (M2 ++ U))))[P.length + L0.length + 1]? = some x0 := get_mid2 (by simp)
      refine o3.ld S' gx ?_
      refine o3.ld S' gy ?_
      refine hc.call _ _ _ _ o2.le ?_
      simp -dsimp only [B.gd_t, B.gdb_pure, B.gdb_true, gv_true, V.bin_lss, B.pv_some, B.pick_t]
      refine B.cond_bool (fun hb2 => ?_) (fun hb2 => ?_)
      · simp -dsimp only [sub1 (show 1 ≤ P.length + L0.length + 1 by omega) (by omega), Nat.add_sub_cancel, o2.idx (i := P.length + L0.length + 1) (by simp; omega), o2.idx (i := P.length + L0.length) (by simp), B.pv_some]
        refine o3.ld S' gy ?_
        refine o3.ld S' gx ?_
        refine o3.swapDn S' (by simp) (by simp) fun h4 o4 => ?_
        refine hZ L0.length _ _ (by simp) ⟨L0, y :: L2, rfl, rfl, by simp, by simpa using o4, ?_⟩
        intro q hq2
        rcases List.mem_cons.1 hq2 with rfl | hq2
        · exact (lt'_gt hyx).2 hb2
        · exact hx q hq2
      · simp -dsimp only [add1 (show i < 4611686018427387904 by omega), B.pv_some]
        exact fin (.inr ⟨L0, y, rfl, (lt'_le W hyx).2 hb2⟩)
end
end Go.Ab

/- What is proved: two parts of one's own list exchanged; a list turned about a place. No conditions. -/
set_option linter.unusedVariables false
set_option linter.unusedSimpArgs false
namespace Go.Ab
variable {C : CSem} {N : Nat → Nat}
section
variable {E : ElOps} {X : Type} {cs : X → List AVal} {v : X → AVal} {h0 h : AHeap} {x f : AVal} {R : List (List AVal)} {Q : AVal → AHeap → Prop}

theorem swapRange_spec (S : SeqSpec E cs v) {P A M D U : List X} (hn : A.length = D.length) (hlen : (P ++ (A ++ (M ++ (D ++ U)))).length ≤ 100000000) {a b n : Nat} (ha : a = P.length) (hb : b = P.length + A.length + M.length) (hna : n = A.length)
    (ho : Rw E cs h0 h x (P ++ (A ++ (M ++ (D ++ U)))) R)
    (hq : ∀ h', Rw E cs h0 h' x (P ++ (D ++ (M ++ (A ++ U)))) R → Q (.tup []) h') :
    slices_swapRangeCmpFuncG.cps C E x (.int .i64 (a : Int)) (.int .i64 (b : Int)) (.int .i64 (n : Int)) f h Q := by
  simp only [List.length_append] at hlen
  refine LoopR.intro (fun t vs hh => ∃ (A1 A2 D1 D2 : List X), t = A2.length ∧ vs = [.int .i64 (A1.length : Int)] ∧ A = A1 ++ A2 ∧ D = D1 ++ D2 ∧ A1.length = D1.length ∧ Rw E cs h0 hh x (P ++ (D1 ++ (A2 ++ (M ++ (A1 ++ (D2 ++ U)))))) R) A.length ?_
    ⟨[], A, [], D, rfl, rfl, rfl, rfl, rfl, by simpa using ho⟩
  rintro Y t vs hh ⟨A1, A2, D1, D2, rfl, rfl, rfl, rfl, hl, o⟩ hY
  simp only [List.length_append] at hn hlen hb hna
  simp -dsimp only [slices_swapRangeCmpFuncG.l2, slices_swapRangeCmpFuncG.k1, lssN, B.pv_some]
  cases A2 with
  | nil =>
    have : D2 = [] := List.eq_nil_of_length_eq_zero (by simp at hn; omega)
    subst this
    rw [show decide (A1.length < n) = false by simp at hna ⊢; omega, B.cond_false]
    exact hq hh (by simpa using o)
  | cons p A2 =>
    cases D2 with
    | nil => simp at hn; omega
    | cons q D2 =>
      simp only [List.length_cons] at hn hlen hb hna
      rw [show decide (A1.length < n) = true by simp; omega, B.cond_true]
      have o3 : Rw E cs h0 hh x ((P ++ D1) ++ p :: ((A2 ++ (M ++ A1)) ++ q :: (D2 ++ U))) R := by simpa using o
      have i1 : a + A1.length = (P ++ D1).length := by simp; omega
      have i2 : b + A1.length = (P ++ D1).length + 1 + (A2 ++ (M ++ A1)).length := by simp; omega
      simp -dsimp only [add64 (a := a) (b := A1.length) (by omega), add64 (a := b) (b := A1.length) (by omega), o3.idx (i := a + A1.length) (by simp; omega), o3.idx (i := b + A1.length) (by simp; omega), B.pv_some]
      refine o3.ld S (get_mid2 i2) ?_
      refine o3.ld S (get_mid i1) ?_
      refine o3.swapUp S i1 i2 fun h4 o4 => ?_
      simp -dsimp only [add1 (a := A1.length) (by omega), B.pv_some]
      exact hY A2.length _ _ (by simp) ⟨A1 ++ [p], A2, D1 ++ [q], D2, rfl, by simp, by simp, by simp, by simp [hl], by simpa using o4⟩

theorem rotate_spec (S : SeqSpec E cs v) {f1 : Nat} (s1 : ∀ (x v1 v2 v3 f : AVal) (h : AHeap) (Q : AVal → AHeap → Prop), slices_swapRangeCmpFuncG.cps C E x v1 v2 v3 f h (dn Q) → C f1 [x, v1, v2, v3, f] h Q)
    {P A D U : List X} (hA : A ≠ []) (hD : D ≠ []) (hlen : (P ++ (A ++ (D ++ U))).length ≤ 100000000) {a m b : Nat} (ha : a = P.length) (hm : m = P.length + A.length) (hb : b = P.length + A.length + D.length)
    (ho : Rw E cs h0 h x (P ++ (A ++ (D ++ U))) R) (hq : ∀ h', Rw E cs h0 h' x (P ++ (D ++ (A ++ U))) R → Q (.tup []) h') :
    slices_rotateCmpFuncG.cps C E f1 x (.int .i64 (a : Int)) (.int .i64 (m : Int)) (.int .i64 (b : Int)) f h Q := by
  simp only [List.length_append] at hlen
  simp -dsimp only [slices_rotateCmpFuncG.cps, sub64 (a := m) (b := a) (by omega) (by omega), sub64 (a := b) (b := m) (by omega) (by omega), B.pv_some]
  refine LoopR.intro (fun t vs hh => ∃ (P' A' D' U' : List X), t = A'.length + D'.length ∧ vs = [.int .i64 (A'.length : Int), .int .i64 (D'.length : Int)] ∧ A' ≠ [] ∧ D' ≠ [] ∧ P'.length + A'.length = m ∧ m + D'.length + U'.length ≤ 100000000 ∧ P' ++ (D' ++ (A' ++ U')) = P ++ (D ++ (A ++ U)) ∧
    Rw E cs h0 hh x (P' ++ (A' ++ (D' ++ U'))) R) (A.length + D.length) ?_ ⟨P, A, D, U, rfl, by rw [show m - a = A.length by omega, show b - m = D.length by omega], hA, hD, hm.symm, by omega, rfl, ho⟩
  rintro Y t vs hh ⟨P', A', D', U', rfl, rfl, hA', hD', hm', hU', he, o⟩ hY
  have ka := List.length_pos_iff.2 hA'
  have kd := List.length_pos_iff.2 hD'
  simp -dsimp only [slices_rotateCmpFuncG.l2, slices_rotateCmpFuncG.k1, neqN, gtrN, B.pv_some]
  refine B.cond_bool (fun h1 => ?_) (fun h1 => ?_)
  · simp only [Bool.not_eq_true', decide_eq_false_iff_not] at h1
    simp -dsimp only [gtrN, B.pv_some]
    refine B.cond_bool (fun h2 => ?_) (fun h2 => ?_)
    · simp only [decide_eq_true_eq] at h2
      simp -dsimp only [sub64 (a := m) (b := A'.length) (by omega) (by omega), B.pv_some]
      have t1 : (A'.take D'.length).length = D'.length := by simp; omega
      have o2 : Rw E cs h0 hh x (P' ++ (A'.take D'.length ++ (A'.drop D'.length ++ (D' ++ U')))) R := by rw [← List.append_assoc (A'.take _), List.take_append_drop]; exact o
      refine s1 _ _ _ _ _ _ _ (swapRange_spec S t1 (by simp; omega) (by omega) (by simp; omega) t1.symm o2 fun h3 o3 => dn_same ?_)
      simp -dsimp only [sub64 (a := A'.length) (b := D'.length) (by omega) (by omega), B.pv_some]
      refine hY _ _ _ ?_ ⟨P' ++ D', A'.drop D'.length, A'.take D'.length, U', rfl, ?_, ?_, ?_, ?_, ?_, ?_, by simpa using o3⟩
      · simp; omega
      · rw [t1]; simp
      · intro e; simp at e; omega
      · intro e; rw [e] at t1; simp at t1; omega
      · simp; omega
      · rw [t1]; omega
      · rw [← he]; simp only [List.append_assoc]; rw [← List.append_assoc (A'.take _), List.take_append_drop]
    · simp only [decide_eq_false_iff_not] at h2
      simp -dsimp only [sub64 (a := m) (b := A'.length) (by omega) (by omega), add64 (a := m) (b := D'.length) (by omega), sub64 (a := m + D'.length) (b := A'.length) (by omega) (by omega), B.pv_some]
      have t1 : (D'.drop (D'.length - A'.length)).length = A'.length := by simp; omega
      have t2 : (D'.take (D'.length - A'.length)).length = D'.length - A'.length := by simp
      have o2 : Rw E cs h0 hh x (P' ++ (A' ++ (D'.take (D'.length - A'.length) ++ (D'.drop (D'.length - A'.length) ++ U')))) R := by rw [← List.append_assoc (D'.take _), List.take_append_drop]; exact o
      refine s1 _ _ _ _ _ _ _ (swapRange_spec S t1.symm (by simp only [List.length_append, t1, t2]; omega) (by omega) (by rw [t2]; omega) rfl o2 fun h3 o3 => dn_same ?_)
      simp -dsimp only [sub64 (a := D'.length) (b := A'.length) (by omega) (by omega), B.pv_some]
      refine hY _ _ _ ?_ ⟨P', D'.drop (D'.length - A'.length), D'.take (D'.length - A'.length), A' ++ U', rfl, ?_, ?_, ?_, ?_, ?_, ?_, o3⟩
      · rw [t1, t2]; omega
      · rw [t1, t2]
      · intro e; rw [e] at t1; simp at t1; omega
      · intro e; rw [e] at t2; simp at t2; omega
      · rw [t1]; omega
      · rw [t2]; simp; omega
      · rw [← he]; rw [← List.append_assoc (D'.take _), List.take_append_drop]
  · simp only [Bool.not_eq_false', decide_eq_true_eq] at h1
    simp -dsimp only [sub64 (a := m) (b := A'.length) (by omega) (by omega), B.pv_some]
    refine s1 _ _ _ _ _ _ _ (swapRange_spec S (P := P') (M := []) h1 (by simp only [List.length_append, List.length_nil]; omega) (by omega) (by simp; omega) rfl (U := U') (by simpa using o) fun h3 o3 => dn_same ?_)
    exact hq h3 (by rw [← he]; simpa using o3)
end
end Go.Ab

/- What is proved: two sorted parts merged in place, stable: where one of them is a single element. No conditions. -/
set_option linter.unusedVariables false
set_option linter.unusedSimpArgs false
namespace Go.Ab
variable {C : CSem} {N : Nat → Nat}
theorem toU64 {a : Nat} (h : a < 4611686018427387904) : V.toInt .u64 (.int .i64 (a : Int)) = some (.int .u64 (a : Int)) := by
  rw [V.toInt_int]; congr 2
  simp only [IntKind.wrap, IntKind.bits, IntKind.signed]; simp; omega
theorem shr1 {a : Nat} : V.bin .shr (.int .u64 (a : Int)) (.int .u64 1) = some (.int .u64 ((a / 2 : Nat) : Int)) := by
  simp only [V.bin, V.shift]
  rw [if_neg (by omega), Nat.min_eq_left (by simp [IntKind.bits])]
  congr 2
  rw [Int.fdiv_eq_ediv_of_nonneg _ (by simp)]; simp
theorem toI64 {a : Nat} (h : a < 4611686018427387904) : V.toInt .i64 (.int .u64 (a : Int)) = some (.int .i64 (a : Int)) := by
  rw [V.toInt_int, wrap_i64 (by omega) (by omega)]
section
variable {E : ElOps} {T : Type} {cs : T → List AVal} {v : T → AVal} {c : T → T → Int} {h0 h : AHeap} {x f : AVal} {R : List (List AVal)} {Q : AVal → AHeap → Prop}

/-- An element split off the middle. -/
theorem split_at {X : Type} {L : List X} {k : Nat} (h : k < L.length) : ∃ L1 z L2, L = L1 ++ z :: L2 ∧ L1.length = k :=
  ⟨L.take k, L[k], L.drop (k + 1), by rw [← List.drop_eq_getElem_cons h, List.take_append_drop], by simp; omega⟩

/-- One element on the left. -/
theorem symMergeL_spec (S : SeqSpec E cs v) (W : Weak (lessC c)) {f1 f2 : Nat} {P D U : List (T × Nat)} {y : T × Nat} (hlen : (P ++ y :: (D ++ U)).length ≤ 100000000) (hs : D.Pairwise (lt' (lessC c))) (ht : ∀ q ∈ D, y.2 < q.2)
    (hc : CmpSpec C v c f h0) {a m b : Nat} (ha : a = P.length) (hm : m = P.length + 1) (hb : b = P.length + 1 + D.length) (ho : Rw E (fun p : T × Nat => cs p.1) h0 h x (P ++ y :: (D ++ U)) R)
    (hq : ∀ h' M', M'.Perm (y :: D) → M'.Pairwise (lt' (lessC c)) → Rw E (fun p : T × Nat => cs p.1) h0 h' x (P ++ (M' ++ U)) R → Q (.tup []) h') :
    slices_symMergeCmpFuncG.cps C E f1 f2 x (.int .i64 (a : Int)) (.int .i64 (m : Int)) (.int .i64 (b : Int)) f h Q := by
  have S' := S.comp (fun p : T × Nat => p.1)
  subst ha
  have hlen' : P.length + 1 + D.length + U.length ≤ 100000000 := by simp at hlen; omega
  simp -dsimp only [slices_symMergeCmpFuncG.cps, slices_symMergeCmpFuncG.k17, sub64 (a := m) (b := P.length) (by omega) (by omega), show m - P.length = 1 by omega, eql1, B.pv_some]
  simp -dsimp only [Int.natCast_one, V.bin_eql, B.pv_some, decide_true, B.cond_true]
  refine LoopR.intro (fun t vs hh => hh = h ∧ ∃ (D1 D2 D3 : List (T × Nat)), t = D2.length ∧ vs = [.int .i64 ((m + D1.length : Nat) : Int), .int .i64 ((m + D1.length + D2.length : Nat) : Int)] ∧ D = D1 ++ (D2 ++ D3) ∧ (∀ q ∈ D1, lt' (lessC c) q y) ∧ ∀ q ∈ D3, lt' (lessC c) y q) D.length ?_
    ⟨rfl, [], D, [], rfl, by simp; omega, by simp, by simp, by simp⟩
  rintro Y t vs hh ⟨rfl, D1, D2, D3, rfl, rfl, rfl, h1, h3⟩ hY
  simp only [List.length_append] at hlen' hb
  simp -dsimp only [slices_symMergeCmpFuncG.l16, slices_symMergeCmpFuncG.k15, lssN, B.pv_some]
  refine B.cond_bool (fun hk => ?_) (fun hk => ?_)
  · simp only [decide_eq_true_eq] at hk
    have hmid : (m + D1.length + (m + D1.length + D2.length)) / 2 = m + D1.length + D2.length / 2 := by omega
    simp -dsimp only [add64 (a := m + D1.length) (b := m + D1.length + D2.length) (by omega), toU64 (a := m + D1.length + (m + D1.length + D2.length)) (by omega), shr1, hmid, toI64 (a := m + D1.length + D2.length / 2) (by omega), B.pv_some]
    obtain ⟨E1, z, E2, rfl, hE⟩ := split_at (L := D2) (k := D2.length / 2) (by omega)
    rw [← hE]
    simp only [List.length_append, List.length_cons] at hlen' hb hk
    have g1 : (P ++ y :: (D1 ++ (E1 ++ z :: E2 ++ D3) ++ U))[m + D1.length + E1.length]? = some z := by
      have := get_mid (P := P ++ y :: (D1 ++ E1)) (Q := E2 ++ D3 ++ U) (a := z) (i := m + D1.length + E1.length) (by simp; omega)
      simpa using this
    have g2 : (P ++ y :: (D1 ++ (E1 ++ z :: E2 ++ D3) ++ U))[P.length]? = some y := get_mid rfl
    simp -dsimp only [ho.idx (i := m + D1.length + E1.length) (by simp; omega), ho.idx (i := P.length) (by simp), B.pv_some]
    refine ho.ld S' g1 ?_
    refine ho.ld S' g2 ?_
    refine hc.call _ _ _ _ ho.le ?_
    simp -dsimp only [V.bin_lss, B.pv_some]
    have hzy : y.2 < z.2 := ht z (by simp)
    have hs' := hs
    simp only [List.pairwise_append, List.pairwise_cons, List.mem_append, List.mem_cons] at hs'
    refine B.cond_bool (fun hl => ?_) (fun hl => ?_)
    · have lz : lt' (lessC c) z y := (lt'_gt hzy).2 hl
      simp -dsimp only [add1 (a := m + D1.length + E1.length) (by omega), B.pv_some]
      refine hY E2.length _ _ (by simp; omega) ⟨rfl, D1 ++ E1 ++ [z], E2, D3, rfl, by simp; omega, by simp, ?_, h3⟩
      intro q hq
      simp only [List.mem_append, List.mem_singleton] at hq
      rcases hq with (hq | hq) | rfl
      · exact h1 q hq
      · exact lt'_trans W (hs'.2.1.1.2.2 q hq z (.inl rfl)) lz
      · exact lz
    · have lz : lt' (lessC c) y z := (lt'_le W hzy).2 hl
      refine hY E1.length _ _ (by simp) ⟨rfl, D1, E1, z :: E2 ++ D3, rfl, rfl, by simp, h1, ?_⟩
      intro q hq
      simp only [List.cons_append, List.mem_cons, List.mem_append] at hq
      rcases hq with rfl | hq | hq
      · exact lz
      · exact lt'_trans W lz (hs'.2.1.1.2.1.1 q hq)
      · exact h3 q hq
  · simp only [decide_eq_false_iff_not] at hk
    have e : D2 = [] := List.eq_nil_of_length_eq_zero (by omega)
    subst e
    simp only [List.length_nil, List.nil_append, Nat.add_zero] at hlen' hb hs hq ho
    refine LoopR.intro (fun t vs hh => ∃ (B1 B2 : List (T × Nat)), t = B2.length ∧ vs = [.int .i64 ((P.length + B1.length : Nat) : Int)] ∧ D1 = B1 ++ B2 ∧ Rw E (fun p : T × Nat => cs p.1) h0 hh x (P ++ (B1 ++ y :: (B2 ++ (D3 ++ U)))) R) D1.length ?_
      ⟨[], D1, rfl, by simp, rfl, by simpa using ho⟩
    rintro Z t vs h2 ⟨B1, B2, rfl, rfl, rfl, o2⟩ hZ
    simp only [List.length_append] at hlen' hb
    simp -dsimp only [slices_symMergeCmpFuncG.l14, slices_symMergeCmpFuncG.k13, List.length_append, sub1 (a := m + (B1.length + B2.length)) (by omega) (by omega), lssN, B.pv_some]
    cases B2 with
    | nil =>
      rw [show decide (P.length + B1.length < m + (B1.length + ([] : List (T × Nat)).length) - 1) = false by simp; omega, B.cond_false]
      refine hq h2 (B1 ++ y :: D3) ?_ ?_ (by simpa using o2)
      · simp
      · simp only [List.append_nil] at hs h1
        rw [List.pairwise_append] at hs ⊢
        rw [List.pairwise_cons]
        refine ⟨hs.1, ⟨h3, hs.2.1⟩, fun p hp q hq2 => ?_⟩
        rcases List.mem_cons.1 hq2 with rfl | hq2
        · exact h1 p hp
        · exact hs.2.2 p hp q hq2
    | cons z B2 =>
      simp only [List.length_cons] at hlen' hb ⊢
      rw [show decide (P.length + B1.length < m + (B1.length + (B2.length + 1)) - 1) = true by simp; omega, B.cond_true]
      have o3 : Rw E (fun p : T × Nat => cs p.1) h0 h2 x ((P ++ B1) ++ y :: ([] ++ z :: (B2 ++ (D3 ++ U)))) R := by simpa using o2
      have i1 : P.length + B1.length = (P ++ B1).length := by simp
      have i2 : P.length + B1.length + 1 = (P ++ B1).length + 1 + ([] : List (T × Nat)).length := by simp
      simp -dsimp only [add1 (a := P.length + B1.length) (by omega), o3.idx (i := P.length + B1.length + 1) (by simp; omega), o3.idx (i := P.length + B1.length) (by simp), B.pv_some]
      refine o3.ld S' (get_mid2 i2) ?_
      refine o3.ld S' (get_mid i1) ?_
      refine o3.swapUp S' i1 i2 fun h4 o4 => ?_
      refine hZ B2.length _ _ (by simp) ⟨B1 ++ [z], B2, rfl, by simp [Nat.add_assoc], by simp, by simpa using o4⟩
end
end Go.Ab

/- What is proved: two sorted parts merged in place, stable: one element on the right; the split of two long parts. No conditions. -/
set_option linter.unusedVariables false
set_option linter.unusedSimpArgs false
namespace Go.Ab
variable {C : CSem} {N : Nat → Nat}
section
variable {E : ElOps} {T : Type} {cs : T → List AVal} {v : T → AVal} {c : T → T → Int} {h0 h : AHeap} {x f : AVal} {R : List (List AVal)} {Q : AVal → AHeap → Prop}

/-- One element on the right. -/
theorem symMergeR_spec (S : SeqSpec E cs v) (W : Weak (lessC c)) {f1 f2 : Nat} {P A U : List (T × Nat)} {y : T × Nat} (hA : 2 ≤ A.length) (hlen : (P ++ (A ++ y :: U)).length ≤ 100000000) (hs : A.Pairwise (lt' (lessC c))) (ht : ∀ q ∈ A, q.2 < y.2)
    (hc : CmpSpec C v c f h0) {a m b : Nat} (ha : a = P.length) (hm : m = P.length + A.length) (hb : b = P.length + A.length + 1) (ho : Rw E (fun p : T × Nat => cs p.1) h0 h x (P ++ (A ++ y :: U)) R)
    (hq : ∀ h' M', M'.Perm (A ++ [y]) → M'.Pairwise (lt' (lessC c)) → Rw E (fun p : T × Nat => cs p.1) h0 h' x (P ++ (M' ++ U)) R → Q (.tup []) h') :
    slices_symMergeCmpFuncG.cps C E f1 f2 x (.int .i64 (a : Int)) (.int .i64 (m : Int)) (.int .i64 (b : Int)) f h Q := by
  have S' := S.comp (fun p : T × Nat => p.1)
  subst ha
  have hlen' : P.length + A.length + 1 + U.length ≤ 100000000 := by simp at hlen; omega
  simp -dsimp only [slices_symMergeCmpFuncG.cps, slices_symMergeCmpFuncG.k17, slices_symMergeCmpFuncG.k12, sub64 (a := m) (b := P.length) (by omega) (by omega), sub64 (a := b) (b := m) (by omega) (by omega), eql1, B.pv_some]
  rw [show decide (m - P.length = 1) = false by simp; omega, B.cond_false]
  simp -dsimp only [slices_symMergeCmpFuncG.k12, sub64 (a := b) (b := m) (by omega) (by omega), eql1, B.pv_some]
  rw [show decide (b - m = 1) = true by simp; omega, B.cond_true]
  refine LoopR.intro (fun t vs hh => hh = h ∧ ∃ (D1 D2 D3 : List (T × Nat)), t = D2.length ∧ vs = [.int .i64 ((P.length + D1.length : Nat) : Int), .int .i64 ((P.length + D1.length + D2.length : Nat) : Int)] ∧ A = D1 ++ (D2 ++ D3) ∧ (∀ q ∈ D1, lt' (lessC c) q y) ∧ ∀ q ∈ D3, lt' (lessC c) y q) A.length ?_
    ⟨rfl, [], A, [], rfl, by simp; omega, by simp, by simp, by simp⟩
  rintro Y t vs hh ⟨rfl, D1, D2, D3, rfl, rfl, rfl, h1, h3⟩ hY
  simp only [List.length_append] at hlen' hb hm
  simp -dsimp only [slices_symMergeCmpFuncG.l11, slices_symMergeCmpFuncG.k10, lssN, B.pv_some]
  have g0 : (P ++ (D1 ++ (D2 ++ D3) ++ y :: U))[m]? = some y := by
    have := get_mid (P := P ++ (D1 ++ (D2 ++ D3))) (Q := U) (a := y) (i := m) (by simp; omega)
    simpa using this
  refine B.cond_bool (fun hk => ?_) (fun hk => ?_)
  · simp only [decide_eq_true_eq] at hk
    have hmid : (P.length + D1.length + (P.length + D1.length + D2.length)) / 2 = P.length + D1.length + D2.length / 2 := by omega
    simp -dsimp only [add64 (a := P.length + D1.length) (b := P.length + D1.length + D2.length) (by omega), toU64 (a := P.length + D1.length + (P.length + D1.length + D2.length)) (by omega), shr1, hmid, toI64 (a := P.length + D1.length + D2.length / 2) (by omega), B.pv_some]
    obtain ⟨E1, z, E2, rfl, hE⟩ := split_at (L := D2) (k := D2.length / 2) (by omega)
    rw [← hE]
    simp only [List.length_append, List.length_cons] at hlen' hb hk hm
    have g1 : (P ++ (D1 ++ (E1 ++ z :: E2 ++ D3) ++ y :: U))[P.length + D1.length + E1.length]? = some z := by
      have := get_mid (P := P ++ (D1 ++ E1)) (Q := E2 ++ D3 ++ y :: U) (a := z) (i := P.length + D1.length + E1.length) (by simp; omega)
      simpa using this
    simp -dsimp only [ho.idx (i := P.length + D1.length + E1.length) (by simp; omega), ho.idx (i := m) (by simp; omega), B.pv_some]
    refine ho.ld S' g0 ?_
    refine ho.ld S' g1 ?_
    refine hc.call _ _ _ _ ho.le ?_
    simp -dsimp only [V.bin_lss, V.un_not, B.pv_some]
    have hzy : z.2 < y.2 := ht z (by simp)
    have hs' := hs
    simp only [List.pairwise_append, List.pairwise_cons, List.mem_append, List.mem_cons] at hs'
    refine B.cond_bool (fun hl => ?_) (fun hl => ?_)
    · simp only [Bool.not_eq_true'] at hl
      have lz : lt' (lessC c) z y := (lt'_le W hzy).2 hl
      simp -dsimp only [add1 (a := P.length + D1.length + E1.length) (by omega), B.pv_some]
      refine hY E2.length _ _ (by simp; omega) ⟨rfl, D1 ++ E1 ++ [z], E2, D3, rfl, by simp; omega, by simp, ?_, h3⟩
      intro q hq
      simp only [List.mem_append, List.mem_singleton] at hq
      rcases hq with (hq | hq) | rfl
      · exact h1 q hq
      · exact lt'_trans W (hs'.2.1.1.2.2 q hq z (.inl rfl)) lz
      · exact lz
    · simp only [Bool.not_eq_false'] at hl
      have lz : lt' (lessC c) y z := (lt'_gt hzy).2 hl
      refine hY E1.length _ _ (by simp) ⟨rfl, D1, E1, z :: E2 ++ D3, rfl, rfl, by simp, h1, ?_⟩
      intro q hq
      simp only [List.cons_append, List.mem_cons, List.mem_append] at hq
      rcases hq with rfl | hq | hq
      · exact lz
      · exact lt'_trans W lz (hs'.2.1.1.2.1.1 q hq)
      · exact h3 q hq
  · simp only [decide_eq_false_iff_not] at hk
    have e : D2 = [] := List.eq_nil_of_length_eq_zero (by omega)
    subst e
    simp only [List.length_nil, List.nil_append, Nat.add_zero, Nat.zero_add] at hlen' hb hs hq ho hm
    refine LoopR.intro (fun t vs hh => ∃ (B1 B2 : List (T × Nat)), t = B1.length ∧ vs = [.int .i64 ((P.length + D1.length + B1.length : Nat) : Int)] ∧ D3 = B1 ++ B2 ∧ Rw E (fun p : T × Nat => cs p.1) h0 hh x (P ++ (D1 ++ (B1 ++ y :: (B2 ++ U)))) R) D3.length ?_
      ⟨D3, [], rfl, by simp; omega, by simp, by simpa using ho⟩
    rintro Z t vs h2 ⟨B1, B2, rfl, rfl, rfl, o2⟩ hZ
    simp only [List.length_append] at hlen' hb hm
    simp -dsimp only [slices_symMergeCmpFuncG.l9, slices_symMergeCmpFuncG.k8, gtrN, B.pv_some]
    obtain rfl | ⟨B0, z, rfl⟩ := nil_or_snoc B1
    · rw [show decide (P.length + D1.length < P.length + D1.length + ([] : List (T × Nat)).length) = false by simp, B.cond_false]
      refine hq h2 (D1 ++ y :: B2) ?_ ?_ (by simpa using o2)
      · simp only [List.nil_append, List.append_assoc]
        exact List.Perm.append_left _ (List.perm_append_singleton y B2).symm
      · simp only [List.nil_append] at hs h3
        rw [List.pairwise_append] at hs ⊢
        rw [List.pairwise_cons]
        refine ⟨hs.1, ⟨h3, hs.2.1⟩, fun p hp q hq2 => ?_⟩
        rcases List.mem_cons.1 hq2 with rfl | hq2
        · exact h1 p hp
        · exact hs.2.2 p hp q hq2
    · have eL : (B0 ++ [z]).length = B0.length + 1 := by simp
      rw [eL] at hlen' hb hm ⊢
      rw [show decide (P.length + D1.length < P.length + D1.length + (B0.length + 1)) = true by simp, B.cond_true]
      have o3 : Rw E (fun p : T × Nat => cs p.1) h0 h2 x ((P ++ (D1 ++ B0)) ++ z :: ([] ++ y :: (B2 ++ U))) R := by simpa using o2
      have i1 : P.length + D1.length + B0.length = (P ++ (D1 ++ B0)).length := by simp; omega
      have i2 : P.length + D1.length + (B0.length + 1) = (P ++ (D1 ++ B0)).length + 1 + ([] : List (T × Nat)).length := by simp; omega
      have i3 : P.length + D1.length + (B0.length + 1) - 1 = P.length + D1.length + B0.length := by omega
      simp -dsimp only [sub1 (a := P.length + D1.length + (B0.length + 1)) (by omega) (by omega), i3, o3.idx (i := P.length + D1.length + (B0.length + 1)) (by simp; omega), o3.idx (i := P.length + D1.length + B0.length) (by simp; omega), B.pv_some]
      refine o3.ld S' (get_mid i1) ?_
      refine o3.ld S' (get_mid2 i2) ?_
      refine o3.swapDn S' i1 i2 fun h4 o4 => ?_
      refine hZ B0.length _ _ (by simp) ⟨B0, z :: B2, rfl, rfl, by simp, by simpa using o4⟩

/-- A mathematical split of two sorted parts: the places found fit. -/
theorem pw_get {X : Type} {r : X → X → Prop} {L : List X} (h : L.Pairwise r) {i j : Nat} {a b : X} (hij : i < j) (ha : L[i]? = some a) (hb : L[j]? = some b) : r a b := by
  obtain ⟨h1, rfl⟩ := List.getElem?_eq_some_iff.1 ha
  obtain ⟨h2, rfl⟩ := List.getElem?_eq_some_iff.1 hb
  exact List.pairwise_iff_getElem.1 h i j h1 h2 hij
theorem mem_take_get {X : Type} {L : List X} {n : Nat} {a : X} (h : a ∈ L.take n) : ∃ i, i < n ∧ L[i]? = some a := by
  obtain ⟨i, hi⟩ := List.getElem?_of_mem h
  have : i < n := by have := (List.getElem?_eq_some_iff.1 hi).1; simp at this; omega
  exact ⟨i, this, by rwa [List.getElem?_take_of_lt this] at hi⟩
theorem mem_drop_get {X : Type} {L : List X} {n : Nat} {a : X} (h : a ∈ L.drop n) : ∃ i, n ≤ i ∧ L[i]? = some a := by
  obtain ⟨i, hi⟩ := List.getElem?_of_mem h
  rw [List.getElem?_drop] at hi
  exact ⟨n + i, by omega, hi⟩
theorem pw_low {less : T → T → Bool} (W : Weak less) {L : List (T × Nat)} (h : L.Pairwise (lt' less)) {i j : Nat} {a b w : T × Nat} (hij : i ≤ j) (ha : L[i]? = some a) (hb : L[j]? = some b) (hw : lt' less b w) : lt' less a w := by
  rcases Nat.lt_or_eq_of_le hij with k | rfl
  · exact lt'_trans W (pw_get h k ha hb) hw
  · rw [ha] at hb; cases hb; exact hw
theorem pw_high {less : T → T → Bool} (W : Weak less) {L : List (T × Nat)} (h : L.Pairwise (lt' less)) {i j : Nat} {a b w : T × Nat} (hij : i ≤ j) (ha : L[i]? = some a) (hb : L[j]? = some b) (hw : lt' less w a) : lt' less w b := by
  rcases Nat.lt_or_eq_of_le hij with k | rfl
  · exact lt'_trans W hw (pw_get h k ha hb)
  · rw [ha] at hb; cases hb; exact hw
end
end Go.Ab

/- What is proved: two sorted parts merged in place, stable. No conditions. -/
set_option linter.unusedVariables false
set_option linter.unusedSimpArgs false
namespace Go.Ab
variable {C : CSem} {N : Nat → Nat}
theorem and_lss {h : AHeap} {a b c d : Nat} {X Y : AHeap → Prop} (hx : a < b → c < d → X h) (hy : ¬(a < b ∧ c < d) → Y h) :
    (B.pv (V.bin .lss (.int .i64 (a : Int)) (.int .i64 (b : Int))) fun v => B.gd h v true (fun K => K (.int .i64 (c : Int)) h) fun v2 h => B.gd h v true (fun K => K (.int .i64 (d : Int)) h) fun v3 h =>
      B.gd h v true (fun K => B.pv (V.bin .lss v2 v3) fun v => K v h) fun v4 h => B.pick v v4 (.bool false) fun v5 => B.cond v5 (X h) (Y h) : Prop) := by
  rw [lssN]
  simp -dsimp only [B.pv_some]
  by_cases h1 : a < b
  · rw [show decide (a < b) = true by simpa using h1]
    simp -dsimp only [B.gd_t, B.gdb_true, lssN, B.pv_some, B.pick_t]
    refine B.cond_bool (fun h2 => hx h1 (by simpa using h2)) (fun h2 => hy fun k => by simp at h2; omega)
  · rw [show decide (a < b) = false by simpa using h1]
    simp -dsimp only [B.gd_t, B.gdb_false, B.pick_f, B.cond_false]
    exact hy fun k => h1 k.1

section
variable {E : ElOps} {T : Type} {cs : T → List AVal} {v : T → AVal} {c : T → T → Int} {h0 h : AHeap} {x f : AVal} {R : List (List AVal)} {Q : AVal → AHeap → Prop}

theorem symTail (S : SeqSpec E cs v) {f1 f2 f3 : Nat} {P A1 A2 D1 D2 U : List (T × Nat)} {a m b mid st en : Nat}
    (s1 : ∀ (x v1 v2 v3 f : AVal) (h : AHeap) (Q : AVal → AHeap → Prop), slices_symMergeCmpFuncG.cps C E f1 f2 x v1 v2 v3 f h (dn Q) → C f1 [x, v1, v2, v3, f] h Q)
    (s2 : ∀ (x v1 v2 v3 f : AVal) (h : AHeap) (Q : AVal → AHeap → Prop), slices_rotateCmpFuncG.cps C E f3 x v1 v2 v3 f h (dn Q) → C f2 [x, v1, v2, v3, f] h Q)
    (s3 : ∀ (x v1 v2 v3 f : AVal) (h : AHeap) (Q : AVal → AHeap → Prop), slices_swapRangeCmpFuncG.cps C E x v1 v2 v3 f h (dn Q) → C f3 [x, v1, v2, v3, f] h Q)
    (ih1 : ∀ (U : List (T × Nat)) (h : AHeap) (Q : AVal → AHeap → Prop), A1 ≠ [] → D1 ≠ [] → (P ++ (A1 ++ (D1 ++ U))).length ≤ 100000000 → Rw E (fun p : T × Nat => cs p.1) h0 h x (P ++ (A1 ++ (D1 ++ U))) R →
      (∀ h' M', M'.Perm (A1 ++ D1) → M'.Pairwise (lt' (lessC c)) → Rw E (fun p : T × Nat => cs p.1) h0 h' x (P ++ (M' ++ U)) R → Q (.tup []) h') → slices_symMergeCmpFuncG.cps C E f1 f2 x (.int .i64 (a : Int)) (.int .i64 (st : Int)) (.int .i64 (mid : Int)) f h Q)
    (ih2 : ∀ (P : List (T × Nat)) (h : AHeap) (Q : AVal → AHeap → Prop), A2 ≠ [] → D2 ≠ [] → P.length = mid → (P ++ (A2 ++ (D2 ++ U))).length ≤ 100000000 → Rw E (fun p : T × Nat => cs p.1) h0 h x (P ++ (A2 ++ (D2 ++ U))) R →
      (∀ h' M', M'.Perm (A2 ++ D2) → M'.Pairwise (lt' (lessC c)) → Rw E (fun p : T × Nat => cs p.1) h0 h' x (P ++ (M' ++ U)) R → Q (.tup []) h') → slices_symMergeCmpFuncG.cps C E f1 f2 x (.int .i64 (mid : Int)) (.int .i64 (en : Int)) (.int .i64 (b : Int)) f h Q)
    (hlen : P.length + A1.length + A2.length + D1.length + D2.length + U.length ≤ 100000000) (ha : a = P.length) (hst : st = P.length + A1.length) (hmid : mid = P.length + A1.length + D1.length) (hm : m = P.length + A1.length + A2.length)
    (hen : en = P.length + A1.length + A2.length + D1.length) (hb : b = P.length + A1.length + A2.length + D1.length + D2.length)
    (pA : (A1 ++ A2).Pairwise (lt' (lessC c))) (pD : (D1 ++ D2).Pairwise (lt' (lessC c))) (x1 : ∀ p ∈ A1, ∀ q ∈ D2, lt' (lessC c) p q) (x2 : ∀ p ∈ D1, ∀ q ∈ A2, lt' (lessC c) p q)
    (ho : Rw E (fun p : T × Nat => cs p.1) h0 h x (P ++ (A1 ++ (A2 ++ (D1 ++ (D2 ++ U))))) R)
    (hq : ∀ h' M', M'.Perm ((A1 ++ A2) ++ (D1 ++ D2)) → M'.Pairwise (lt' (lessC c)) → Rw E (fun p : T × Nat => cs p.1) h0 h' x (P ++ (M' ++ U)) R → Q (.tup []) h') :
    slices_symMergeCmpFuncG.k3 C E f1 f2 Q x (.int .i64 (a : Int)) (.int .i64 (m : Int)) (.int .i64 (b : Int)) f (.int .i64 (mid : Int)) (.int .i64 (st : Int)) (.int .i64 (en : Int)) h := by
  have S' := S.comp (fun p : T × Nat => p.1)
  rw [List.pairwise_append] at pA pD
  have fin : ∀ h' M1 M2, M1.Perm (A1 ++ D1) → M1.Pairwise (lt' (lessC c)) → M2.Perm (A2 ++ D2) → M2.Pairwise (lt' (lessC c)) → Rw E (fun p : T × Nat => cs p.1) h0 h' x (P ++ (M1 ++ (M2 ++ U))) R → Q (.tup []) h' := by
    intro h' M1 M2 p1 w1 p2 w2 o
    refine hq h' (M1 ++ M2) ?_ ?_ (by simpa using o)
    · refine (p1.append p2).trans ?_
      simp only [List.append_assoc]
      refine List.Perm.append_left _ ?_
      rw [← List.append_assoc, ← List.append_assoc]
      exact List.Perm.append_right _ List.perm_append_comm
    · rw [List.pairwise_append]
      refine ⟨w1, w2, fun p hp q hq => ?_⟩
      rcases List.mem_append.1 (p1.mem_iff.1 hp) with h1 | h1 <;> rcases List.mem_append.1 (p2.mem_iff.1 hq) with h2 | h2
      · exact pA.2.2 p h1 q h2
      · exact x1 p h1 q h2
      · exact x2 p h1 q h2
      · exact pD.2.2 p h1 q h2
  have k1 : ∀ h' M1, M1.Perm (A1 ++ D1) → M1.Pairwise (lt' (lessC c)) → Rw E (fun p : T × Nat => cs p.1) h0 h' x (P ++ (M1 ++ (A2 ++ (D2 ++ U)))) R →
      slices_symMergeCmpFuncG.k1 C E f1 f2 Q x (.int .i64 (b : Int)) f (.int .i64 (mid : Int)) (.int .i64 (en : Int)) h' := by
    intro h' M1 p1 w1 o
    have l1 := p1.length_eq
    rw [List.length_append] at l1
    refine and_lss (fun k1 k2 => ?_) (fun k => ?_)
    · refine s1 _ _ _ _ _ _ _ (ih2 (P ++ M1) h' _ ?_ ?_ ?_ ?_ (by simpa using o) fun h2 M2 p2 w2 o2 => dn_same (fin h2 M1 M2 p1 w1 p2 w2 (by simpa using o2)))
      · rintro rfl; simp at hen; omega
      · rintro rfl; simp at hb; omega
      · simp; omega
      · simp; omega
    · have : A2 = [] ∨ D2 = [] := by
        rcases Nat.eq_zero_or_pos A2.length with e | e
        · exact .inl (List.eq_nil_of_length_eq_zero e)
        · exact .inr (List.eq_nil_of_length_eq_zero (by omega))
      refine fin h' M1 (A2 ++ D2) p1 w1 (List.Perm.refl _) ?_ (by simpa using o)
      rcases this with rfl | rfl
      · simpa using pD.2.1
      · simpa using pA.2.1
  have k2 : ∀ h', Rw E (fun p : T × Nat => cs p.1) h0 h' x (P ++ (A1 ++ (D1 ++ (A2 ++ (D2 ++ U))))) R →
      slices_symMergeCmpFuncG.k2 C E f1 f2 Q x (.int .i64 (a : Int)) (.int .i64 (b : Int)) f (.int .i64 (mid : Int)) (.int .i64 (st : Int)) (.int .i64 (en : Int)) h' := by
    intro h' o
    refine and_lss (fun k1' k2 => ?_) (fun k => ?_)
    · refine s1 _ _ _ _ _ _ _ (ih1 (A2 ++ (D2 ++ U)) h' _ ?_ ?_ ?_ o fun h2 M1 p1 w1 o2 => dn_same (k1 h2 M1 p1 w1 o2))
      · rintro rfl; simp at hst; omega
      · rintro rfl; simp at hmid; omega
      · simp; omega
    · have : A1 = [] ∨ D1 = [] := by
        rcases Nat.eq_zero_or_pos A1.length with e | e
        · exact .inl (List.eq_nil_of_length_eq_zero e)
        · exact .inr (List.eq_nil_of_length_eq_zero (by omega))
      refine k1 h' (A1 ++ D1) (List.Perm.refl _) ?_ (by simpa using o)
      rcases this with rfl | rfl
      · simpa using pD.1
      · simpa using pA.1
  refine and_lss (fun g1 g2 => ?_) (fun k => ?_)
  · refine s2 _ _ _ _ _ _ _ (rotate_spec S' s3 (P := P ++ A1) (A := A2) (D := D1) (U := D2 ++ U) ?_ ?_ (by simp; omega) (by simp; omega) (by simp; omega) (by simp; omega) (by simpa using ho) fun h2 o2 => dn_same (k2 h2 (by simpa using o2)))
    · rintro rfl; simp at hm; omega
    · rintro rfl; simp at hen; omega
  · refine k2 h ?_
    have : A2 = [] ∨ D1 = [] := by
      rcases Nat.eq_zero_or_pos A2.length with e | e
      · exact .inl (List.eq_nil_of_length_eq_zero e)
      · exact .inr (List.eq_nil_of_length_eq_zero (by omega))
    rcases this with rfl | rfl <;> simpa using ho
end
end Go.Ab

/- What is proved: stable sorting of one's own list by a comparison. No conditions. -/
set_option linter.unusedVariables false
set_option linter.unusedSimpArgs false
namespace Go.Ab
variable {C : CSem} {N : Nat → Nat}
section
variable {E : ElOps} {T : Type} {cs : T → List AVal} {v : T → AVal} {c : T → T → Int} {h0 h : AHeap} {x f : AVal} {R : List (List AVal)} {Q : AVal → AHeap → Prop}

theorem symLoop (S : SeqSpec E cs v) (W : Weak (lessC c)) {f1 f2 : Nat} {P A D U : List (T × Nat)} {a m b mid n pp μ s0 r0 : Nat} (hc : CmpSpec C v c f h0)
    (pA : A.Pairwise (lt' (lessC c))) (pD : D.Pairwise (lt' (lessC c))) (ht : ∀ p ∈ A, ∀ q ∈ D, p.2 < q.2)
    (hlen : P.length + A.length + D.length + U.length ≤ 100000000) (ha : a = P.length) (hm : m = P.length + A.length) (hb : b = P.length + A.length + D.length) (hmid : mid = P.length + μ) (hn : n = mid + m) (hpp : pp = n - 1)
    (q1 : s0 ≤ r0) (q2 : r0 ≤ A.length) (q3 : r0 ≤ μ) (q4 : μ ≤ s0 + D.length) (e1 : s0 = 0 ∨ μ = s0 + D.length) (e2 : r0 = A.length ∨ r0 = μ)
    (ho : Rw E (fun p : T × Nat => cs p.1) h0 h x (P ++ (A ++ (D ++ U))) R)
    (hq : ∀ A1 A2 D1 D2, A = A1 ++ A2 → D = D1 ++ D2 → A1.length + D1.length = μ → (∀ p ∈ A1, ∀ q ∈ D2, lt' (lessC c) p q) → (∀ p ∈ D1, ∀ q ∈ A2, lt' (lessC c) p q) →
      slices_symMergeCmpFuncG.k3 C E f1 f2 Q x (.int .i64 (a : Int)) (.int .i64 (m : Int)) (.int .i64 (b : Int)) f (.int .i64 (mid : Int)) (.int .i64 ((P.length + A1.length : Nat) : Int)) (.int .i64 ((m + D1.length : Nat) : Int)) h) :
    LoopR (slices_symMergeCmpFuncG.l5 C E f1 f2 Q x (.int .i64 (a : Int)) (.int .i64 (m : Int)) (.int .i64 (b : Int)) f (.int .i64 (mid : Int)) (.int .i64 (n : Int)) (.int .i64 (pp : Int))) [.int .i64 ((P.length + s0 : Nat) : Int), .int .i64 ((P.length + r0 : Nat) : Int)] h := by
  have S' := S.comp (fun p : T × Nat => p.1)
  refine LoopR.intro (fun t vs hh => hh = h ∧ ∃ (s r : Nat), t = r - s ∧ vs = [.int .i64 ((P.length + s : Nat) : Int), .int .i64 ((P.length + r : Nat) : Int)] ∧ s0 ≤ s ∧ s ≤ r ∧ r ≤ r0 ∧
    (s = s0 ∨ 0 < s ∧ ∃ u w, A[s - 1]? = some u ∧ D[μ - s]? = some w ∧ lt' (lessC c) u w) ∧ (r = r0 ∨ ∃ u w, A[r]? = some u ∧ D[μ - 1 - r]? = some w ∧ lt' (lessC c) w u)) (r0 - s0) ?_
    ⟨rfl, s0, r0, rfl, rfl, Nat.le_refl _, q1, Nat.le_refl _, .inl rfl, .inl rfl⟩
  rintro Y t vs hh ⟨rfl, s, r, rfl, rfl, i1, i2, i3, lo, hi⟩ hY
  simp -dsimp only [slices_symMergeCmpFuncG.l5, slices_symMergeCmpFuncG.k4, lssN, B.pv_some]
  refine B.cond_bool (fun hk => ?_) (fun hk => ?_)
  · simp only [decide_eq_true_eq] at hk
    have hk' : s < r := by omega
    have hmd : (P.length + s + (P.length + r)) / 2 = P.length + (s + r) / 2 := by omega
    have k1 : s ≤ (s + r) / 2 := by omega
    have k2 : (s + r) / 2 < r := by omega
    have hpk : pp - (P.length + (s + r) / 2) = m + (μ - 1 - (s + r) / 2) := by omega
    simp -dsimp only [add64 (a := P.length + s) (b := P.length + r) (by omega), toU64 (a := P.length + s + (P.length + r)) (by omega), shr1, hmd, toI64 (a := P.length + (s + r) / 2) (by omega), sub64 (a := pp) (b := P.length + (s + r) / 2) (by omega) (by omega), hpk, B.pv_some]
    generalize hkk : (s + r) / 2 = k at *
    have gA : A[k]? = some A[k] := List.getElem?_eq_getElem (by omega)
    have gD : D[μ - 1 - k]? = some D[μ - 1 - k] := List.getElem?_eq_getElem (by omega)
    have g1 : (P ++ (A ++ (D ++ U)))[m + (μ - 1 - k)]? = some D[μ - 1 - k] := by
      rw [List.getElem?_append_right (by omega), List.getElem?_append_right (by omega), List.getElem?_append_left (by omega), show m + (μ - 1 - k) - P.length - A.length = μ - 1 - k by omega]; exact gD
    have g2 : (P ++ (A ++ (D ++ U)))[P.length + k]? = some A[k] := by
      rw [List.getElem?_append_right (by omega), List.getElem?_append_left (by omega), show P.length + k - P.length = k by omega]; exact gA
    simp -dsimp only [ho.idx (i := m + (μ - 1 - k)) (by simp; omega), ho.idx (i := P.length + k) (by simp; omega), B.pv_some]
    refine ho.ld S' g1 ?_
    refine ho.ld S' g2 ?_
    refine hc.call _ _ _ _ ho.le ?_
    simp -dsimp only [V.bin_lss, V.un_not, B.pv_some]
    have htt : A[k].2 < D[μ - 1 - k].2 := ht _ (List.getElem_mem _) _ (List.getElem_mem _)
    refine B.cond_bool (fun hl => ?_) (fun hl => ?_)
    · simp only [Bool.not_eq_true'] at hl
      have lz : lt' (lessC c) A[k] D[μ - 1 - k] := (lt'_le W htt).2 hl
      simp -dsimp only [add1 (a := P.length + k) (by omega), B.pv_some]
      refine hY (r - (k + 1)) _ _ (by omega) ⟨rfl, k + 1, r, rfl, by rw [Nat.add_assoc], by omega, by omega, i3, .inr ⟨by omega, A[k], D[μ - 1 - k], by rw [Nat.add_sub_cancel]; exact gA, by rw [show μ - (k + 1) = μ - 1 - k by omega]; exact gD, lz⟩, hi⟩
    · simp only [Bool.not_eq_false'] at hl
      have lz : lt' (lessC c) D[μ - 1 - k] A[k] := (lt'_gt htt).2 hl
      refine hY (k - s) _ _ (by omega) ⟨rfl, s, k, rfl, rfl, i1, by omega, by omega, lo, .inr ⟨A[k], D[μ - 1 - k], gA, gD, lz⟩⟩
  · simp only [decide_eq_false_iff_not] at hk
    have e : s = r := by omega
    subst e
    simp -dsimp only [sub64 (a := n) (b := P.length + s) (by omega) (by omega), show n - (P.length + s) = m + (μ - s) by omega, B.pv_some]
    have := hq (A.take s) (A.drop s) (D.take (μ - s)) (D.drop (μ - s)) (List.take_append_drop _ _).symm (List.take_append_drop _ _).symm (by simp; omega) ?_ ?_
    · rw [show (A.take s).length = s by simp; omega, show (D.take (μ - s)).length = μ - s by simp; omega] at this
      exact this
    · intro p hp q hq2
      obtain ⟨i, k1, k2⟩ := mem_take_get hp
      obtain ⟨j, k3, k4⟩ := mem_drop_get hq2
      rcases lo with rfl | ⟨k0, u, w, hu, hw, huw⟩
      · rcases e1 with e1 | e1
        · omega
        · have := (List.getElem?_eq_some_iff.1 k4).1; omega
      · exact pw_high W pD (show μ - s ≤ j by omega) hw k4 (pw_low W pA (show i ≤ s - 1 by omega) k2 hu huw)
    · intro p hp q hq2
      obtain ⟨i, k1, k2⟩ := mem_take_get hp
      obtain ⟨j, k3, k4⟩ := mem_drop_get hq2
      rcases hi with rfl | ⟨u, w, hu, hw, huw⟩
      · rcases e2 with e2 | e2
        · have := (List.getElem?_eq_some_iff.1 k4).1; omega
        · omega
      · exact pw_high W pA (show s ≤ j by omega) hu k4 (pw_low W pD (show i ≤ μ - 1 - s by omega) k2 hw huw)

/-- Two sorted parts are merged. -/
theorem symMerge_spec (S : SeqSpec E cs v) (W : Weak (lessC c)) {f1 f2 f3 : Nat} (hc : CmpSpec C v c f h0)
    (s1 : ∀ (x v1 v2 v3 f : AVal) (h : AHeap) (Q : AVal → AHeap → Prop), slices_symMergeCmpFuncG.cps C E f1 f2 x v1 v2 v3 f h (dn Q) → C f1 [x, v1, v2, v3, f] h Q)
    (s2 : ∀ (x v1 v2 v3 f : AVal) (h : AHeap) (Q : AVal → AHeap → Prop), slices_rotateCmpFuncG.cps C E f3 x v1 v2 v3 f h (dn Q) → C f2 [x, v1, v2, v3, f] h Q)
    (s3 : ∀ (x v1 v2 v3 f : AVal) (h : AHeap) (Q : AVal → AHeap → Prop), slices_swapRangeCmpFuncG.cps C E x v1 v2 v3 f h (dn Q) → C f3 [x, v1, v2, v3, f] h Q) :
    ∀ (k : Nat) (P A D U : List (T × Nat)) (a m b : Nat) (h : AHeap) (Q : AVal → AHeap → Prop), A.length + D.length = k → A ≠ [] → D ≠ [] → (P ++ (A ++ (D ++ U))).length ≤ 100000000 → a = P.length → m = P.length + A.length → b = P.length + A.length + D.length →
      A.Pairwise (lt' (lessC c)) → D.Pairwise (lt' (lessC c)) → (∀ p ∈ A, ∀ q ∈ D, p.2 < q.2) → Rw E (fun p : T × Nat => cs p.1) h0 h x (P ++ (A ++ (D ++ U))) R →
      (∀ h' M', M'.Perm (A ++ D) → M'.Pairwise (lt' (lessC c)) → Rw E (fun p : T × Nat => cs p.1) h0 h' x (P ++ (M' ++ U)) R → Q (.tup []) h') →
      slices_symMergeCmpFuncG.cps C E f1 f2 x (.int .i64 (a : Int)) (.int .i64 (m : Int)) (.int .i64 (b : Int)) f h Q := by
  intro k
  induction k using Nat.strongRecOn with
  | ind k ih =>
  intro P A D U a m b h Q hk hA hD hlen ha hm hb pA pD ht ho hq
  have kA := List.length_pos_iff.2 hA
  have kD := List.length_pos_iff.2 hD
  by_cases hA1 : A.length = 1
  · obtain ⟨y, rfl⟩ := List.length_eq_one_iff.1 hA1
    exact symMergeL_spec S W (D := D) hlen pD (fun q hq => ht y (by simp) q hq) hc ha hm hb ho hq
  by_cases hD1 : D.length = 1
  · obtain ⟨y, rfl⟩ := List.length_eq_one_iff.1 hD1
    exact symMergeR_spec S W (by omega) hlen pA (fun q hq => ht q hq y (by simp)) hc ha hm hb ho hq
  simp only [List.length_append] at hlen
  generalize hμ : (A.length + D.length) / 2 = μ
  have hmd : (a + b) / 2 = P.length + μ := by omega
  have main : ∀ A1 A2 D1 D2, A = A1 ++ A2 → D = D1 ++ D2 → A1.length + D1.length = μ → (∀ p ∈ A1, ∀ q ∈ D2, lt' (lessC c) p q) → (∀ p ∈ D1, ∀ q ∈ A2, lt' (lessC c) p q) →
      slices_symMergeCmpFuncG.k3 C E f1 f2 Q x (.int .i64 (a : Int)) (.int .i64 (m : Int)) (.int .i64 (b : Int)) f (.int .i64 ((P.length + μ : Nat) : Int)) (.int .i64 ((P.length + A1.length : Nat) : Int)) (.int .i64 ((m + D1.length : Nat) : Int)) h := by
    rintro A1 A2 D1 D2 rfl rfl hl x1 x2
    simp only [List.length_append] at hlen hb hm hk hA1 hD1 hμ kA kD
    have pA' := List.pairwise_append.1 pA
    have pD' := List.pairwise_append.1 pD
    refine symTail S s1 s2 s3 (P := P) (A1 := A1) (A2 := A2) (D1 := D1) (D2 := D2) (U := U) ?_ ?_ (by omega) ha rfl (by omega) (by omega) (by omega) (by omega) pA pD x1 x2 (by simpa using ho) hq
    · intro U h Q n1 n2 hl2 o hq
      exact ih _ (show A1.length + D1.length < k by omega) P A1 D1 U _ _ _ h Q rfl n1 n2 hl2 ha rfl (by omega) pA'.1 pD'.1 (fun p hp q hq => ht p (List.mem_append_left _ hp) q (List.mem_append_left _ hq)) o hq
    · intro P2 h Q n1 n2 hp hl2 o hq
      exact ih _ (show A2.length + D2.length < k by omega) P2 A2 D2 U _ _ _ h Q rfl n1 n2 hl2 hp.symm (by omega) (by omega) pA'.2.1 pD'.2.1 (fun p hp q hq => ht p (List.mem_append_right _ hp) q (List.mem_append_right _ hq)) o hq
  simp -dsimp only [slices_symMergeCmpFuncG.cps, slices_symMergeCmpFuncG.k17, sub64 (a := m) (b := a) (by omega) (by omega), eql1, B.pv_some]
  rw [show decide (m - a = 1) = false by simp; omega, B.cond_false]
  simp -dsimp only [slices_symMergeCmpFuncG.k12, sub64 (a := b) (b := m) (by omega) (by omega), eql1, B.pv_some]
  rw [show decide (b - m = 1) = false by simp; omega, B.cond_false]
  simp -dsimp only [slices_symMergeCmpFuncG.k7, slices_symMergeCmpFuncG.k6, add64 (a := a) (b := b) (by omega), toU64 (a := a + b) (by omega), shr1, hmd, toI64 (a := P.length + μ) (by omega), add64 (a := P.length + μ) (b := m) (by omega), gtrN, B.pv_some]
  refine B.cond_bool (fun hg => ?_) (fun hg => ?_)
  · simp only [decide_eq_true_eq] at hg
    simp -dsimp only [sub64 (a := P.length + μ + m) (b := b) (by omega) (by omega), sub1 (a := P.length + μ + m) (by omega) (by omega), show P.length + μ + m - b = P.length + (μ - D.length) by omega, B.pv_some]
    exact symLoop S W (P := P) (A := A) (D := D) (U := U) (s0 := μ - D.length) (r0 := μ) hc pA pD ht (by omega) ha hm hb rfl rfl rfl (by omega) (by omega) (by omega) (by omega) (.inr (by omega)) (.inr rfl) ho main
  · simp only [decide_eq_false_iff_not] at hg
    simp -dsimp only [sub1 (a := P.length + μ + m) (by omega) (by omega), B.pv_some]
    have := symLoop S W (f1 := f1) (f2 := f2) (P := P) (A := A) (D := D) (U := U) (s0 := 0) (r0 := A.length) (Q := Q) hc pA pD ht (by omega) ha hm hb rfl rfl rfl (by omega) (by omega) (by omega) (by omega) (.inl rfl) (.inl rfl) ho main
    rw [show P.length + 0 = a by omega, show P.length + A.length = m by omega] at this
    exact this
end
end Go.Ab

/- What is proved: slices.SortStableFunc, whatever the elements and the comparison. No conditions. -/
set_option linter.unusedVariables false
set_option linter.unusedSimpArgs false
namespace Go.Ab
variable {C : CSem} {N : Nat → Nat}
theorem mul2l {a : Nat} (h : a < 2305843009213693952) : V.bin .mul (.int .i64 2) (.int .i64 (a : Int)) = some (.int .i64 ((2 * a : Nat) : Int)) := by
  rw [V.bin_mul, wrap_i64 (by omega) (by omega)]; simp
theorem mul2r {a : Nat} (h : a < 2305843009213693952) : V.bin .mul (.int .i64 (a : Int)) (.int .i64 2) = some (.int .i64 ((2 * a : Nat) : Int)) := by
  rw [V.bin_mul, wrap_i64 (by omega) (by omega)]; congr 2; omega
def Apt {T : Type} (A D : List (T × Nat)) : Prop := ∀ p ∈ A, ∀ q ∈ D, p.2 < q.2
theorem Apt.perm {T : Type} {A A' D D' : List (T × Nat)} (h : Apt A D) (h1 : ∀ p ∈ A', p ∈ A) (h2 : ∀ p ∈ D', p ∈ D) : Apt A' D' := fun p hp q hq => h p (h1 p hp) q (h2 q hq)
theorem flat_full {X : Type} {bs : Nat} : ∀ {Bs : List (List X)}, (∀ B ∈ Bs, B.length = bs) → Bs.flatten.length = Bs.length * bs
  | [], _ => by simp
  | B :: Bs, h => by
    simp only [List.flatten_cons, List.length_append, List.length_cons, Nat.add_mul, Nat.one_mul]
    rw [h B (by simp), flat_full fun B hB => h B (by simp [hB])]; omega

section
variable {E : ElOps} {T : Type} {cs : T → List AVal} {v : T → AVal} {c : T → T → Int} {h0 h : AHeap} {x f : AVal} {R : List (List AVal)} {Q : AVal → AHeap → Prop}

/-- The merging of blocks of a length, until one is left. -/
theorem mergeAll_spec (S : SeqSpec E cs v) (W : Weak (lessC c)) {f1 f2 f3 f4 : Nat} (hc : CmpSpec C v c f h0)
    (s1 : ∀ (x v1 v2 v3 f : AVal) (h : AHeap) (Q : AVal → AHeap → Prop), slices_symMergeCmpFuncG.cps C E f1 f2 x v1 v2 v3 f h (dn Q) → C f1 [x, v1, v2, v3, f] h Q)
    (s2 : ∀ (x v1 v2 v3 f : AVal) (h : AHeap) (Q : AVal → AHeap → Prop), slices_rotateCmpFuncG.cps C E f3 x v1 v2 v3 f h (dn Q) → C f2 [x, v1, v2, v3, f] h Q)
    (s3 : ∀ (x v1 v2 v3 f : AVal) (h : AHeap) (Q : AVal → AHeap → Prop), slices_swapRangeCmpFuncG.cps C E x v1 v2 v3 f h (dn Q) → C f3 [x, v1, v2, v3, f] h Q)
    {G0 M0 : List (T × Nat)} {Bs0 : List (List (T × Nat))} {bs0 n : Nat} (hbs : 0 < bs0) (hb1 : bs0 ≤ 200000000) (hn : n = G0.length) (hlen : G0.length ≤ 100000000)
    (hf : ∀ B ∈ Bs0, B.length = bs0 ∧ B.Pairwise (lt' (lessC c))) (hM : M0.length < bs0) (hMs : M0.Pairwise (lt' (lessC c))) (hap : (Bs0 ++ [M0]).Pairwise Apt) (hp : (Bs0.flatten ++ M0).Perm G0)
    (ho : Rw E (fun p : T × Nat => cs p.1) h0 h x (Bs0.flatten ++ M0) R)
    (hq : ∀ h' M', M'.Perm G0 → M'.Pairwise (lt' (lessC c)) → Rw E (fun p : T × Nat => cs p.1) h0 h' x M' R → Q (.tup []) h') :
    LoopR (slices_stableCmpFuncG.l5 C E f1 f4 Q x (.int .i64 (n : Int)) f) [.int .i64 (bs0 : Int)] h := by
  have sm := symMerge_spec (R := R) (h0 := h0) (x := x) S W hc s1 s2 s3
  refine LoopR.intro (fun t vs hh => ∃ (bs : Nat) (Bs : List (List (T × Nat))) (M : List (T × Nat)), t = n - bs ∧ vs = [.int .i64 (bs : Int)] ∧ 0 < bs ∧ bs ≤ 200000000 ∧ (∀ B ∈ Bs, B.length = bs ∧ B.Pairwise (lt' (lessC c))) ∧ M.length < bs ∧ M.Pairwise (lt' (lessC c)) ∧
    (Bs ++ [M]).Pairwise Apt ∧ (Bs.flatten ++ M).Perm G0 ∧ Rw E (fun p : T × Nat => cs p.1) h0 hh x (Bs.flatten ++ M) R) (n - bs0) ?_ ⟨bs0, Bs0, M0, rfl, rfl, hbs, hb1, hf, hM, hMs, hap, hp, ho⟩
  rintro Y t vs hh ⟨bs, Bs, M, rfl, rfl, hbs, hb1, hf, hM, hMs, hap, hp, o⟩ hY
  simp -dsimp only [slices_stableCmpFuncG.l5, slices_stableCmpFuncG.k4, lssN, B.pv_some]
  have hl := hp.length_eq
  rw [List.length_append, flat_full fun B hB => (hf B hB).1] at hl
  refine B.cond_bool (fun hk => ?_) (fun hk => ?_)
  · simp only [decide_eq_true_eq] at hk
    simp -dsimp only [mul2l (a := bs) (by omega), B.pv_some]
    refine LoopR.intro (fun t vs h2 => ∃ (Cs Bs : List (List (T × Nat))), t = Bs.length ∧ vs = [.int .i64 ((Cs.flatten.length : Nat) : Int), .int .i64 ((Cs.flatten.length + 2 * bs : Nat) : Int)] ∧ (∀ B ∈ Cs, B.length = 2 * bs ∧ B.Pairwise (lt' (lessC c))) ∧ (∀ B ∈ Bs, B.length = bs ∧ B.Pairwise (lt' (lessC c))) ∧
      (Cs ++ (Bs ++ [M])).Pairwise Apt ∧ (Cs.flatten ++ (Bs.flatten ++ M)).Perm G0 ∧ Rw E (fun p : T × Nat => cs p.1) h0 h2 x (Cs.flatten ++ (Bs.flatten ++ M)) R) Bs.length ?_ ⟨[], Bs, rfl, by simp, by simp, hf, by simpa using hap, by simpa using hp, by simpa using o⟩
    clear hf hap hp o hl
    rintro Z t vs h2 ⟨Cs, Bs, rfl, rfl, hC, hf, hap, hp, o⟩ hZ
    have hl := hp.length_eq
    have hlB := flat_full fun B hB => (hf B hB).1
    simp only [List.length_append] at hl
    simp -dsimp only [slices_stableCmpFuncG.l3, slices_stableCmpFuncG.k2, leqN, B.pv_some]
    rw [List.pairwise_append, List.pairwise_append] at hap
    match Bs, hf, hap, hp, o, hZ, hlB, hl with
    | [], hf, hap, hp, o, hZ, hlB, hl =>
      simp only [List.length_nil, Nat.zero_mul, List.flatten_nil, List.nil_append] at hlB hl hap hp o
      rw [show decide (Cs.flatten.length + 2 * bs ≤ n) = false by simp only [decide_eq_false_iff_not]; omega, B.cond_false]
      simp -dsimp only [slices_stableCmpFuncG.k1, add64 (a := Cs.flatten.length) (b := bs) (by omega), lssN, mul2r (a := bs) (by omega), B.pv_some]
      rw [show decide (Cs.flatten.length + bs < n) = false by simp only [decide_eq_false_iff_not]; omega, B.cond_false]
      simp -dsimp only [mul2r (a := bs) (by omega), B.pv_some]
      refine hY (n - 2 * bs) _ _ (by omega) ⟨2 * bs, Cs, M, rfl, rfl, by omega, by omega, hC, by omega, hMs, ?_, hp, o⟩
      rw [List.pairwise_append]; exact ⟨hap.1, List.pairwise_singleton .., hap.2.2⟩
    | [B1], hf, hap, hp, o, hZ, hlB, hl =>
      simp only [List.length_singleton, Nat.one_mul, List.flatten_cons, List.flatten_nil, List.append_nil] at hlB hl hp o
      have hB1 := hf B1 (by simp)
      have hB1l := hB1.1
      rw [show decide (Cs.flatten.length + 2 * bs ≤ n) = false by simp only [decide_eq_false_iff_not]; omega, B.cond_false]
      simp -dsimp only [slices_stableCmpFuncG.k1, add64 (a := Cs.flatten.length) (b := bs) (by omega), lssN, B.pv_some]
      have hBM : Apt B1 M := by
        have := hap.2.1.2.2 B1 (by simp) M (by simp); exact this
      have hCB : ∀ A ∈ Cs, Apt A B1 := fun A hA => hap.2.2 A hA B1 (by simp)
      have hCM : ∀ A ∈ Cs, Apt A M := fun A hA => hap.2.2 A hA M (by simp)
      refine B.cond_bool (fun hg => ?_) (fun hg => ?_)
      · simp only [decide_eq_true_eq] at hg
        refine s1 _ _ _ _ _ _ _ (sm _ Cs.flatten B1 M [] _ _ _ h2 _ rfl (by rintro rfl; simp at hB1; omega) (by rintro rfl; simp only [List.length_nil] at hl; omega) (by simp only [List.length_append, List.length_nil]; omega) rfl (by rw [hB1.1]) (by omega) hB1.2 hMs hBM (by simpa using o) fun h3 M' p3 w3 o3 => dn_same ?_)
        simp -dsimp only [mul2r (a := bs) (by omega), B.pv_some]
        have l3 := p3.length_eq
        rw [List.length_append] at l3
        refine hY (n - 2 * bs) _ _ (by omega) ⟨2 * bs, Cs, M', rfl, rfl, by omega, by omega, hC, by omega, w3, ?_, ?_, by simpa using o3⟩
        · rw [List.pairwise_append]
          refine ⟨hap.1, List.pairwise_singleton .., fun A hA D hD => ?_⟩
          rw [List.mem_singleton.1 hD]
          intro p hpA q hq
          rcases List.mem_append.1 (p3.mem_iff.1 hq) with k | k
          · exact hCB A hA p hpA q k
          · exact hCM A hA p hpA q k
        · exact (List.Perm.append_left _ p3).trans hp
      · simp only [decide_eq_false_iff_not] at hg
        have : M = [] := List.eq_nil_of_length_eq_zero (by omega)
        subst this
        simp -dsimp only [mul2r (a := bs) (by omega), B.pv_some]
        refine hY (n - 2 * bs) _ _ (by omega) ⟨2 * bs, Cs, B1, rfl, rfl, by omega, by omega, hC, by omega, hB1.2, ?_, by simpa using hp, by simpa using o⟩
        rw [List.pairwise_append]
        refine ⟨hap.1, List.pairwise_singleton .., fun A hA D hD => ?_⟩
        rw [List.mem_singleton.1 hD]
        exact hCB A hA
    | B1 :: B2 :: Bs, hf, hap, hp, o, hZ, hlB, hl =>
      simp only [List.length_cons, List.flatten_cons, List.length_append] at hlB hl
      have hB1 := hf B1 (by simp)
      have hB2 := hf B2 (by simp)
      simp only [List.flatten_cons, List.append_assoc] at hp o
      rw [show decide (Cs.flatten.length + 2 * bs ≤ n) = true by simp only [decide_eq_true_eq]; omega, B.cond_true]
      simp -dsimp only [add64 (a := Cs.flatten.length) (b := bs) (by omega), B.pv_some]
      have h12 : Apt B1 B2 := by
        have := hap.2.1.1; rw [List.pairwise_cons] at this; exact this.1 B2 (by simp)
      refine s1 _ _ _ _ _ _ _ (sm _ Cs.flatten B1 B2 (Bs.flatten ++ M) _ _ _ h2 _ rfl (by rintro rfl; simp at hB1; omega) (by rintro rfl; simp at hB2; omega) (by simp only [List.length_append]; omega) rfl (by rw [hB1.1]) (by omega) hB1.2 hB2.2 h12 o fun h3 M' p3 w3 o3 => dn_same ?_)
      simp -dsimp only [mul2l (a := bs) (by omega), add64 (a := Cs.flatten.length + 2 * bs) (b := 2 * bs) (by omega), B.pv_some]
      have l3 := p3.length_eq
      rw [List.length_append] at l3
      have e3 : (Cs ++ [M']).flatten = Cs.flatten ++ M' := by simp
      refine hZ Bs.length _ _ (by simp; omega) ⟨Cs ++ [M'], Bs, rfl, ?_, ?_, fun B hB => hf B (by simp [hB]), ?_, ?_, ?_⟩
      · rw [e3, List.length_append]; rw [show Cs.flatten.length + M'.length = Cs.flatten.length + 2 * bs by omega]
      · intro B hB
        rcases List.mem_append.1 hB with k | k
        · exact hC B k
        · rw [List.mem_singleton.1 k]; exact ⟨by omega, w3⟩
      · have a1 := hap.2.1.1
        rw [List.pairwise_cons, List.pairwise_cons] at a1
        rw [List.append_assoc, List.pairwise_append]
        refine ⟨hap.1, ?_, ?_⟩
        · rw [List.singleton_append, List.pairwise_cons]
          refine ⟨fun D hD p hpM q hq => ?_, ?_⟩
          · rcases List.mem_append.1 (p3.mem_iff.1 hpM) with k | k
            · rcases List.mem_append.1 hD with kk | kk
              · exact a1.1 D (by simp [kk]) p k q hq
              · exact hap.2.1.2.2 B1 (by simp) D kk p k q hq
            · rcases List.mem_append.1 hD with kk | kk
              · exact a1.2.1 D kk p k q hq
              · exact hap.2.1.2.2 B2 (by simp) D kk p k q hq
          · rw [List.pairwise_append]
            exact ⟨a1.2.2, List.pairwise_singleton .., fun A hA D hD => hap.2.1.2.2 A (by simp [hA]) D hD⟩
        · intro A hA D hD
          rcases List.mem_append.1 hD with k | k
          · rw [List.mem_singleton.1 k]
            intro p hpA q hq
            rcases List.mem_append.1 (p3.mem_iff.1 hq) with kk | kk
            · exact hap.2.2 A hA B1 (by simp) p hpA q kk
            · exact hap.2.2 A hA B2 (by simp) p hpA q kk
          · refine hap.2.2 A hA D ?_
            rcases List.mem_append.1 k with kk | kk
            · simp [kk]
            · simp at kk; simp [kk]
      · rw [e3, List.append_assoc]
        refine List.Perm.trans (List.Perm.append_left _ ?_) hp
        rw [← List.append_assoc B1]
        exact List.Perm.append_right _ p3
      · rw [e3, List.append_assoc]; exact o3
  · simp only [decide_eq_false_iff_not] at hk
    refine hq hh (Bs.flatten ++ M) hp ?_ o
    match Bs, hf, hl with
    | [], _, _ => simpa using hMs
    | [B1], hf, hl =>
      have hB1 := hf B1 (by simp)
      simp at hl
      have : M = [] := List.eq_nil_of_length_eq_zero (by omega)
      subst this
      simpa using hB1.2
    | B1 :: B2 :: Bs, hf, hl =>
      simp only [List.length_cons, Nat.add_mul, Nat.one_mul] at hl
      omega
end
end Go.Ab

/- What is proved: slices.SortStableFunc gives the stable order, whatever the elements and the comparison. No conditions. -/
set_option linter.unusedVariables false
set_option linter.unusedSimpArgs false
namespace Go.Ab
variable {C : CSem} {N : Nat → Nat}
section
variable {E : ElOps} {T : Type} {cs : T → List AVal} {v : T → AVal} {c : T → T → Int} {h0 h : AHeap} {x f : AVal} {R : List (List AVal)} {Q : AVal → AHeap → Prop}

/-- The five functions of the library, by their numbers. -/
structure SortFns (C : CSem) (E : ElOps) (f1 f2 f3 f4 f5 : Nat) : Prop where
  s1 : ∀ (x v1 v2 v3 f : AVal) (h : AHeap) (Q : AVal → AHeap → Prop), slices_symMergeCmpFuncG.cps C E f1 f2 x v1 v2 v3 f h (dn Q) → C f1 [x, v1, v2, v3, f] h Q
  s2 : ∀ (x v1 v2 v3 f : AVal) (h : AHeap) (Q : AVal → AHeap → Prop), slices_rotateCmpFuncG.cps C E f3 x v1 v2 v3 f h (dn Q) → C f2 [x, v1, v2, v3, f] h Q
  s3 : ∀ (x v1 v2 v3 f : AVal) (h : AHeap) (Q : AVal → AHeap → Prop), slices_swapRangeCmpFuncG.cps C E x v1 v2 v3 f h (dn Q) → C f3 [x, v1, v2, v3, f] h Q
  s4 : ∀ (x v1 v2 f : AVal) (h : AHeap) (Q : AVal → AHeap → Prop), slices_insertionSortCmpFuncG.cps C E x v1 v2 f h (dn Q) → C f4 [x, v1, v2, f] h Q
  s5 : ∀ (x v1 f : AVal) (h : AHeap) (Q : AVal → AHeap → Prop), slices_stableCmpFuncG.cps C E f1 f4 x v1 f h (dn Q) → C f5 [x, v1, f] h Q

theorem stable_spec (S : SeqSpec E cs v) (W : Weak (lessC c)) {f1 f2 f3 f4 f5 : Nat} (F : SortFns C E f1 f2 f3 f4 f5) (hc : CmpSpec C v c f h0)
    {G0 : List (T × Nat)} {n : Nat} (hn : n = G0.length) (hlen : G0.length ≤ 100000000) (ht : G0.Pairwise fun a b => a.2 < b.2) (ho : Rw E (fun p : T × Nat => cs p.1) h0 h x G0 R)
    (hq : ∀ h' M', M'.Perm G0 → M'.Pairwise (lt' (lessC c)) → Rw E (fun p : T × Nat => cs p.1) h0 h' x M' R → Q (.tup []) h') :
    slices_stableCmpFuncG.cps C E f1 f4 x (.int .i64 (n : Int)) f h Q := by
  show LoopR (slices_stableCmpFuncG.l7 C E f1 f4 Q x (.int .i64 (n : Int)) f (.int .i64 ((20 : Nat) : Int))) [.int .i64 ((0 : Nat) : Int), .int .i64 ((20 : Nat) : Int)] h
  refine LoopR.intro (fun t vs hh => ∃ (Bs : List (List (T × Nat))) (M : List (T × Nat)), t = M.length ∧ vs = [.int .i64 ((Bs.flatten.length : Nat) : Int), .int .i64 ((Bs.flatten.length + 20 : Nat) : Int)] ∧ (∀ B ∈ Bs, B.length = 20 ∧ B.Pairwise (lt' (lessC c))) ∧
    M.Pairwise (fun a b => a.2 < b.2) ∧ (Bs ++ [M]).Pairwise Apt ∧ (Bs.flatten ++ M).Perm G0 ∧ Rw E (fun p : T × Nat => cs p.1) h0 hh x (Bs.flatten ++ M) R) G0.length ?_
    ⟨[], G0, rfl, by simp, by simp, ht, List.pairwise_singleton .., by simp, by simpa using ho⟩
  rintro Y t vs hh ⟨Bs, M, rfl, rfl, hf, hM, hap, hp, o⟩ hY
  have hl := hp.length_eq
  rw [List.length_append] at hl
  simp -dsimp only [slices_stableCmpFuncG.l7, slices_stableCmpFuncG.k6, leqN, B.pv_some]
  refine B.cond_bool (fun hk => ?_) (fun hk => ?_)
  · simp only [decide_eq_true_eq] at hk
    have t1 : (M.take 20).length = 20 := by simp; omega
    have eM := (List.take_append_drop 20 M).symm
    have o2 : Rw E (fun p : T × Nat => cs p.1) h0 hh x (Bs.flatten ++ (M.take 20 ++ M.drop 20)) R := by rw [← eM]; exact o
    have hM2 := hM
    rw [eM, List.pairwise_append] at hM2
    refine F.s4 _ _ _ _ _ _ (insertionSort_spec S W (P := Bs.flatten) (M := M.take 20) (U := M.drop 20) (by rw [← eM, List.length_append]; omega) hM2.1 hc rfl (by rw [t1]) o2 fun h2 M' p2 w2 o3 => dn_same ?_)
    have l2 := p2.length_eq
    rw [t1] at l2
    simp -dsimp only [add64 (a := Bs.flatten.length + 20) (b := 20) (by omega), B.pv_some]
    have e3 : (Bs ++ [M']).flatten = Bs.flatten ++ M' := by simp
    rw [List.pairwise_append] at hap
    refine hY (M.drop 20).length _ _ (by simp; omega) ⟨Bs ++ [M'], M.drop 20, rfl, ?_, ?_, hM2.2.1, ?_, ?_, ?_⟩
    · rw [e3, List.length_append, l2]
    · intro B hB
      rcases List.mem_append.1 hB with k | k
      · exact hf B k
      · rw [List.mem_singleton.1 k]; exact ⟨l2, w2⟩
    · rw [List.append_assoc, List.pairwise_append, List.singleton_append, List.pairwise_cons]
      refine ⟨hap.1, ⟨fun D hD p hp q hq => ?_, List.pairwise_singleton ..⟩, fun A hA D hD p hp q hq => ?_⟩
      · rw [List.mem_singleton.1 hD] at hq
        exact hM2.2.2 p (p2.mem_iff.1 hp) q hq
      · rcases List.mem_cons.1 hD with rfl | hD
        · exact hap.2.2 A hA M (by simp) p hp q (List.mem_of_mem_take (p2.mem_iff.1 hq))
        · rw [List.mem_singleton.1 hD] at hq
          exact hap.2.2 A hA M (by simp) p hp q (List.mem_of_mem_drop hq)
    · rw [e3, List.append_assoc]
      refine List.Perm.trans (List.Perm.append_left _ ?_) hp
      conv => rhs; rw [eM]
      exact List.Perm.append_right _ p2
    · rw [e3, List.append_assoc]; exact o3
  · simp only [decide_eq_false_iff_not] at hk
    refine F.s4 _ _ _ _ _ _ (insertionSort_spec S W (P := Bs.flatten) (M := M) (U := []) (by rw [List.append_nil, List.length_append]; omega) hM hc rfl (by omega) (by simpa using o) fun h2 M' p2 w2 o3 => dn_same ?_)
    have l2 := p2.length_eq
    rw [List.append_nil] at o3
    rw [List.pairwise_append] at hap
    refine mergeAll_spec S W hc F.s1 F.s2 F.s3 (by omega) (by omega) hn hlen hf (by omega) w2 ?_ ((List.Perm.append_left _ p2).trans hp) o3 hq
    rw [List.pairwise_append]
    refine ⟨hap.1, List.pairwise_singleton .., fun A hA D hD p hp q hq => ?_⟩
    rw [List.mem_singleton.1 hD] at hq
    exact hap.2.2 A hA M (by simp) p hp q (p2.mem_iff.1 hq)

theorem zipIdx_up {X : Type} (L : List X) : L.zipIdx.Pairwise fun a b => a.2 < b.2 := by
  rw [List.pairwise_iff_getElem]
  intro i j h1 h2 hij
  simp [List.getElem_zipIdx]
  omega

/-- slices.SortStableFunc. -/
theorem sortStable_spec (S : SeqSpec E cs v) (W : Weak (lessC c)) {f1 f2 f3 f4 f5 : Nat} (F : SortFns C E f1 f2 f3 f4 f5) (hc : CmpSpec C v c f h0)
    {L : List T} (hlen : L.length ≤ 100000000) (ho : Rw E cs h0 h x L R)
    (hq : ∀ h' L', StableSort (lessC c) L L' → Rw E cs h0 h' x L' R → Q (.tup []) h') :
    slices_SortStableFuncG.cps C E f5 x f h Q := by
  simp -dsimp only [slices_SortStableFuncG.cps, ho.lenE, B.pv_some]
  have e : (L.zipIdx.map fun p : T × Nat => cs p.1) = L.map cs := by
    have := congrArg (List.map cs) (List.zipIdx_map_fst 0 L)
    rw [List.map_map] at this
    exact this
  refine F.s5 _ _ _ _ _ (stable_spec (G0 := L.zipIdx) S W F hc (by simp) (by simpa using hlen) (zipIdx_up L) (by unfold Rw; rw [e]; exact ho) fun h' M' p w o => dn_same ?_)
  refine hq h' (M'.map (·.1)) ⟨M', rfl, p, w⟩ ?_
  unfold Rw at o ⊢
  rw [List.map_map]; exact o
end
end Go.Ab

/- What is proved: a list sorted one by one, each behind all that are not above it, stands in the stable order. No conditions. -/
set_option linter.unusedVariables false
set_option linter.unusedSimpArgs false
namespace Go.Ab
section
variable {T : Type} {c : T → T → Int}
/-- Where x goes, among the first n. -/
def posB (c : T → T → Int) (x : T) (out : List T) : Nat → Nat
  | 0 => 0
  | n + 1 => match out[n]? with
    | some o => if c x o < 0 then posB c x out n else n + 1
    | none => n + 1
def insB (c : T → T → Int) (out : List T) (x : T) : List T := out.take (posB c x out out.length) ++ x :: out.drop (posB c x out out.length)
def sortB (c : T → T → Int) (L : List T) : List T := L.foldl (insB c) []
theorem posB_le (x : T) (out : List T) : ∀ n, posB c x out n ≤ n
  | 0 => Nat.le_refl _
  | n + 1 => by
    unfold posB
    have := posB_le x out n
    split
    · split <;> omega
    · omega
theorem posB_above (x : T) (out : List T) : ∀ n, n ≤ out.length → ∀ i o, posB c x out n ≤ i → i < n → out[i]? = some o → c x o < 0
  | 0, _, i, o, _, h, _ => by omega
  | n + 1, hn, i, o, h1, h2, h3 => by
    unfold posB at h1
    rw [List.getElem?_eq_getElem (show n < out.length by omega)] at h1
    simp only at h1
    split at h1
    · rename_i hc
      by_cases e : i = n
      · subst e
        rw [List.getElem?_eq_getElem (show i < out.length by omega)] at h3
        cases h3; exact hc
      · exact posB_above x out n (by omega) i o h1 (by omega) h3
    · omega
theorem posB_last (x : T) (out : List T) : ∀ n, n ≤ out.length → posB c x out n = 0 ∨ ∃ o, out[posB c x out n - 1]? = some o ∧ ¬ c x o < 0
  | 0, _ => .inl rfl
  | n + 1, hn => by
    have hg := List.getElem?_eq_getElem (show n < out.length by omega)
    by_cases hc : c x out[n] < 0
    · have e : posB c x out (n + 1) = posB c x out n := by
        rw [posB, hg]; simp [hc]
      rw [e]; exact posB_last x out n (by omega)
    · have e : posB c x out (n + 1) = n + 1 := by
        rw [posB, hg]; simp [hc]
      rw [e]; exact .inr ⟨out[n], by rw [Nat.add_sub_cancel]; exact hg, hc⟩

theorem insB_step (W : Weak (lessC c)) {G : List (T × Nat)} {x : T} {n : Nat} (hs : G.Pairwise (lt' (lessC c))) (ht : ∀ p ∈ G, p.2 < n) :
    ∃ G' : List (T × Nat), G'.map (·.1) = insB c (G.map (·.1)) x ∧ G'.Perm (G ++ [(x, n)]) ∧ G'.Pairwise (lt' (lessC c)) := by
  generalize hk : posB c x (G.map (·.1)) (G.map (·.1)).length = k
  have hkl : k ≤ G.length := by have := posB_le (c := c) x (G.map (·.1)) (G.map (·.1)).length; rw [hk] at this; simpa using this
  refine ⟨G.take k ++ (x, n) :: G.drop k, ?_, ?_, ?_⟩
  · unfold insB; rw [hk]; simp
  · have h1 : (G.take k ++ (x, n) :: G.drop k).Perm ((x, n) :: (G.take k ++ G.drop k)) := List.perm_middle
    rw [List.take_append_drop] at h1
    exact h1.trans (List.perm_append_singleton _ _).symm
  · have hG := hs
    rw [← List.take_append_drop k G, List.pairwise_append] at hs
    rw [List.pairwise_append, List.pairwise_cons]
    have up : ∀ p ∈ G.drop k, lt' (lessC c) (x, n) p := fun p hp => by
      obtain ⟨i, h1, h2⟩ := mem_drop_get hp
      have hi := (List.getElem?_eq_some_iff.1 h2).1
      have := posB_above (c := c) x (G.map (·.1)) _ (Nat.le_refl _) i p.1 (by rw [hk]; exact h1) (by simpa using hi) (by rw [List.getElem?_map, h2]; rfl)
      exact .inl (by simpa [lessC] using this)
    have lo : ∀ p ∈ G.take k, lt' (lessC c) p (x, n) := fun p hp => by
      obtain ⟨i, h1, h2⟩ := mem_take_get hp
      rcases posB_last (c := c) x (G.map (·.1)) _ (Nat.le_refl _) with h0 | ⟨o, ho, hc⟩
      · rw [hk] at h0; omega
      · rw [hk, List.getElem?_map] at ho
        cases hq : G[k - 1]? with
        | none => rw [hq] at ho; cases ho
        | some q =>
          rw [hq] at ho; cases ho
          refine pw_low W hG (show i ≤ k - 1 by omega) h2 hq ?_
          exact (lt'_le (x := q) (y := (x, n)) W (ht q (List.mem_of_getElem? hq))).2 (by simpa [lessC] using hc)
    refine ⟨hs.1, ⟨up, hs.2.1⟩, fun p hp q hq => ?_⟩
    rcases List.mem_cons.1 hq with rfl | hq
    · exact lo p hp
    · exact hs.2.2 p hp q hq
theorem sortB_stable (W : Weak (lessC c)) (L : List T) : StableSort (lessC c) L (sortB c L) := by
  suffices h : ∀ k, k ≤ L.length → ∃ G : List (T × Nat), G.map (·.1) = (L.take k).foldl (insB c) [] ∧ G.Perm (L.zipIdx.take k) ∧ G.Pairwise (lt' (lessC c)) by
    have := h L.length (Nat.le_refl _)
    rw [List.take_length, List.take_of_length_le (by simp)] at this
    exact this
  intro k
  induction k with
  | zero => exact fun _ => ⟨[], rfl, by simp, .nil⟩
  | succ k ih =>
    intro hk
    obtain ⟨G, h1, h2, h3⟩ := ih (by omega)
    have hg : L.zipIdx.take (k + 1) = L.zipIdx.take k ++ [(L[k], k)] := by
      rw [List.take_add_one, List.getElem?_eq_getElem (by rw [List.length_zipIdx]; omega)]
      simp [List.getElem_zipIdx]
    have hl : L.take (k + 1) = L.take k ++ [L[k]] := by
      rw [List.take_add_one, List.getElem?_eq_getElem (show k < L.length by omega)]; rfl
    have ht : ∀ p ∈ G, p.2 < k := fun p hp => by
      obtain ⟨i, i1, i2⟩ := mem_take_get (h2.mem_iff.1 hp)
      obtain ⟨j1, j2⟩ := List.getElem?_eq_some_iff.1 i2
      rw [List.getElem_zipIdx] at j2
      rw [← j2]; simpa using i1
    obtain ⟨G', g1, g2, g3⟩ := insB_step W (x := L[k]) h3 ht
    refine ⟨G', ?_, ?_, g3⟩
    · rw [g1, hl, List.foldl_append, h1]; rfl
    · rw [hg]; exact g2.trans (List.Perm.append_right _ h2)
theorem stable_sortB (W : Weak (lessC c)) {L S : List T} (h : StableSort (lessC c) L S) : S = sortB c L := h.unique W (sortB_stable W L)
end
end Go.Ab

/- What is proved: slices.IndexFunc and slices.ContainsFunc, whatever the elements and the function asked. No conditions. -/
set_option linter.unusedVariables false
set_option linter.unusedSimpArgs false
namespace Go.Ab
variable {C : CSem} {N : Nat → Nat}
section
variable {E : ElOps} {T : Type} {cs : T → List AVal} {v : T → AVal}
/-- A function's answers on elements: it leaves the memory. -/
def AskSpec (C : CSem) (v : T → AVal) (f : AVal) (p : T → Bool) (h : AHeap) : Prop := ∀ (t : T) (h' : AHeap) (K : AVal → AHeap → Prop), h.le h' → K (.bool (p t)) h' → B.callv h' C f [v t] K
theorem AskSpec.mono {f : AVal} {p : T → Bool} {h H : AHeap} (s : AskSpec C v f p h) (hle : h.le H) : AskSpec C v f p H := fun l h' K hh hk => s l h' K (AHeap.le_trans hle hh) hk
def idxI (p : T → Bool) (L : List T) : Int := match L.findIdx? p with | some i => (i : Int) | none => -1
theorem findIdx_first {α : Type} {p : α → Bool} {L : List α} {k : Nat} (hk : k < L.length) (h : ∀ i, i < k → ∀ a, L[i]? = some a → p a = false) (hp : p L[k] = true) : L.findIdx? p = some k := by
  rw [List.findIdx?_eq_some_iff_getElem]
  exact ⟨hk, hp, fun j hj => by simp [h j hj _ (List.getElem?_eq_getElem (by omega))]⟩
theorem indexFunc_spec (S : SeqSpec E cs v) {x f : AVal} {p : T → Bool} {L : List T} {R : List (List AVal)} {h : AHeap} {Q : AVal → AHeap → Prop} (hx : SlX h E.es x (L.map cs) R) (hlen : L.length < 4611686018427387904) (hf : AskSpec C v f p h)
    (hq : Q (.int .i64 (idxI p L)) h) : slices_IndexFuncG.cps C E x f h Q := by
  have e1 := hx.lenSl
  rw [List.length_map] at e1
  simp -dsimp only [slices_IndexFuncG.cps, e1, B.pv_some]
  refine LoopR.intro (fun t vs hh => hh = h ∧ ∃ k : Nat, k + t = L.length ∧ vs = [.int .i64 (k : Int)] ∧ ∀ i, i < k → ∀ a, L[i]? = some a → p a = false) L.length ?_ ⟨rfl, 0, by omega, rfl, fun i hi => by omega⟩
  rintro Y t vs h ⟨rfl, k, ht, rfl, hno⟩ hY
  simp -dsimp only [slices_IndexFuncG.l2, slices_IndexFuncG.k1, lssN, B.pv_some]
  refine B.cond_bool (fun hb => ?_) (fun hb => ?_) <;> simp only [decide_eq_true_eq, decide_eq_false_iff_not] at hb
  · have hg : (L.map cs)[k]? = some (cs L[k]) := by rw [List.getElem?_map, List.getElem?_eq_getElem hb]; rfl
    have hidx : V.idxS E.es x (.int .i64 (k : Int)) = some (elp E.es x k 0) := hx.idxN (by simpa using hb)
    simp -dsimp only [hidx, B.pv_some]
    refine S.ld hx hg ?_
    refine hf _ _ _ (AHeap.le_refl _) ?_
    refine B.cond_bool (fun hc => ?_) (fun hc => ?_)
    · have : idxI p L = (k : Int) := by rw [idxI, findIdx_first hb hno hc]
      rw [this] at hq; exact hq
    · simp -dsimp only [add1 (show k < 4611686018427387904 by omega), B.pv_some]
      refine hY (L.length - (k + 1)) _ _ (by omega) ⟨rfl, k + 1, by omega, rfl, fun i hi a ha => ?_⟩
      by_cases e : i = k
      · subst e; rw [List.getElem?_eq_getElem hb] at ha; cases ha; exact hc
      · exact hno i (by omega) a ha
  · have : idxI p L = -1 := by
      have : L.findIdx? p = none := by
        rw [List.findIdx?_eq_none_iff]
        intro a ha
        obtain ⟨j, hj, rfl⟩ := List.getElem_of_mem ha
        exact hno j (by omega) _ (List.getElem?_eq_getElem hj)
      rw [idxI, this]
    rw [this] at hq; exact hq
theorem idxI_any (p : T → Bool) (L : List T) : decide (0 ≤ idxI p L) = L.any p := by
  unfold idxI
  cases h : L.findIdx? p with
  | none =>
    rw [List.findIdx?_eq_none_iff] at h
    have : L.any p = false := by
      rw [List.any_eq_false]; intro a ha; simp [h a ha]
    rw [this]; rfl
  | some i =>
    obtain ⟨hi, hp, _⟩ := List.findIdx?_eq_some_iff_getElem.1 h
    have : L.any p = true := List.any_eq_true.2 ⟨_, List.getElem_mem hi, hp⟩
    rw [this, decide_eq_true_eq]; show (0 : Int) ≤ (i : Int); omega
theorem containsFunc_spec {f1 : Nat} {x f : AVal} {p : T → Bool} {L : List T} {h : AHeap} {Q : AVal → AHeap → Prop} (s1 : ∀ Q' : AVal → AHeap → Prop, Q' (.int .i64 (idxI p L)) h → C f1 [x, f] h Q')
    (hq : Q (.bool (L.any p)) h) : slices_ContainsFuncG.cps C E f1 x f h Q := by
  simp -dsimp only [slices_ContainsFuncG.cps]
  refine s1 _ ?_
  simp -dsimp only [V.bin_geq, B.pv_some, idxI_any]
  exact hq
end
end Go.Ab

/- What is proved: clear of a slice's end. No conditions. -/
set_option linter.unusedVariables false
namespace Go.Ab
theorem flat_take {α : Type} {n : Nat} : ∀ {css : List (List α)}, (∀ cs ∈ css, cs.length = n) → ∀ k : Nat, (css.take k).flatten = css.flatten.take (k * n)
  | [], _, k => by simp
  | c :: css, hl, 0 => by simp
  | c :: css, hl, k + 1 => by
    have hc : c.length = n := hl c (by simp)
    rw [List.take_succ_cons, List.flatten_cons, List.flatten_cons, flat_take (fun p hp => hl p (by simp [hp])) k, Nat.add_mul, Nat.one_mul, show k * n + n = c.length + k * n by omega, List.take_length_add_append]
section
variable {h h0 : AHeap} {es : Nat} {x : AVal} {L R : List (List AVal)} {l : List Ob}
/-- x[:k:k]. -/
theorem SlX.cut3 (hs : SlX h es x L R) {k : Nat} {j1 j2 j3 : IntKind} (hk : k ≤ L.length) :
    ∃ x', V.cut3 es x (.int j1 0) (.int j2 (k : Int)) (.int j3 (k : Int)) = some x' ∧ SlX h es x' (L.take k) [] ∧ foot x' = foot x := by
  rcases hs.at_ with ⟨e, e', e''⟩ | ⟨id, g, off, cp, bk, hh, k1, k1', k2, k3, k4, k5, k6⟩
  · subst e e'
    simp only [List.length_nil, Nat.le_zero_eq] at hk
    subst hk
    rcases e'' with rfl | rfl
    · exact ⟨.nils, rfl, ⟨by simp, .inl ⟨rfl, rfl, .inl rfl⟩⟩, rfl⟩
    · exact ⟨.sz, rfl, ⟨by simp, .inl ⟨rfl, rfl, .inr rfl⟩⟩, rfl⟩
  · subst k1
    refine ⟨.sl id g off k es k, ?_, ⟨fun p hp => hs.len p (List.mem_append_left _ (List.mem_of_mem_take (by simpa using hp))), .inr ⟨id, g, off, k, bk, hh, ?_, ?_, k2, k3, ?_, k5, ?_⟩⟩, rfl⟩
    · have h1 : (0 : Int) ≤ (k : Int) := by omega
      simp only [V.cut3, V.asNat, Int.le_refl, if_true, h1, Int.toNat_natCast, show (0 : Int).toNat = 0 from rfl]
      rw [if_pos ⟨by omega, Nat.le_refl _, by omega, trivial⟩]
      simp
    · simp; omega
    · simp; omega
    · have : k * es ≤ (L.length + R.length) * es := Nat.mul_le_mul_right _ (by omega)
      simp only [List.length_take, List.length_nil, Nat.min_eq_left hk, Nat.add_zero]
      omega
    · have : k * es ≤ (L.length + R.length) * es := Nat.mul_le_mul_right _ (by omega)
      simp only [List.length_take, List.length_nil, Nat.min_eq_left hk, Nat.add_zero, List.append_nil]
      have e1 : (L.take k).flatten = (L ++ R).flatten.take (k * es) := by
        rw [← flat_take hs.len, List.take_append_of_le_length hk]
      rw [e1, ← k6, List.take_take, Nat.min_eq_left this]
end
end Go.Ab

/- What is proved: maps of one's own, by typed entries: what is looked up, put, taken out. No conditions. -/
set_option linter.unusedVariables false
set_option linter.unusedSimpArgs false
namespace Go.Ab
/-! Entries by their keys. -/
abbrev Ents (K T : Type) := List (K × T × Nat)
section
variable {K T : Type} [DecidableEq K]
def getP : Ents K T → K → Option T
  | [], _ => none
  | p :: r, k => if p.1 = k then some p.2.1 else getP r k
def putP : Ents K T → K → T → Nat → Ents K T
  | [], k, t, c => [(k, t, c)]
  | p :: r, k, t, c => if p.1 = k then (k, t, p.2.2) :: r else p :: putP r k t c
def clkP (ps : Ents K T) (k : K) (c : Nat) : Nat := if (getP ps k).isSome then c else c + 1
/-- Where a key stands. -/
def idxP : Ents K T → K → Option (Nat × T × Nat)
  | [], _ => none
  | p :: r, k => if p.1 = k then some (0, p.2.1, p.2.2) else (idxP r k).map fun (i, q) => (i + 1, q)
theorem getP_put (k k' : K) (t : T) (c : Nat) : ∀ ps : Ents K T, getP (putP ps k t c) k' = if k' = k then some t else getP ps k'
  | [] => by
    simp only [putP, getP]
    by_cases h : k' = k
    · rw [if_pos h.symm, if_pos h]
    · rw [if_neg (Ne.symm h), if_neg h]
  | p :: r => by
    have ih := getP_put k k' t c r
    simp only [putP]
    by_cases hp : p.1 = k
    · rw [if_pos hp]
      simp only [getP]
      by_cases h : k' = k
      · rw [if_pos h.symm, if_pos h]
      · rw [if_neg (Ne.symm h), if_neg h, if_neg (by rw [hp]; exact Ne.symm h)]
    · rw [if_neg hp]
      simp only [getP, ih]
      by_cases h : k' = k
      · subst h; rw [if_neg hp, if_pos rfl, if_pos rfl]
      · rw [if_neg h, if_neg h]
theorem idxP_get (k : K) : ∀ ps : Ents K T, getP ps k = (idxP ps k).map (·.2.1)
  | [] => rfl
  | p :: r => by
    simp only [getP, idxP]
    split
    · rfl
    · rw [idxP_get k r]; cases idxP r k <;> rfl
theorem idxP_put {k : K} {t : T} {c i : Nat} {q : T × Nat} : ∀ {ps : Ents K T}, idxP ps k = some (i, q) → putP ps k t c = ps.set i (k, t, q.2) ∧ i < ps.length
  | [], h => by simp [idxP] at h
  | p :: r, h => by
    simp only [idxP] at h
    by_cases hp : p.1 = k
    · rw [if_pos hp] at h
      simp only [Option.some.injEq, Prod.mk.injEq] at h
      obtain ⟨rfl, rfl⟩ := h
      simp [putP, hp]
    · rw [if_neg hp] at h
      cases hr : idxP r k with
      | none => simp [hr] at h
      | some x =>
        obtain ⟨j, q'⟩ := x
        simp [hr] at h
        obtain ⟨rfl, rfl⟩ := h
        have := idxP_put (t := t) (c := c) hr
        simp [putP, hp, this.1, this.2]
theorem idxP_put_none {k : K} {t : T} {c : Nat} : ∀ {ps : Ents K T}, idxP ps k = none → putP ps k t c = ps ++ [(k, t, c)]
  | [], _ => rfl
  | p :: r, h => by
    simp only [idxP] at h
    by_cases hp : p.1 = k
    · rw [if_pos hp] at h; cases h
    · rw [if_neg hp] at h
      cases hr : idxP r k with
      | none => simp [putP, hp, idxP_put_none hr]
      | some x => simp [hr] at h
end

/-- How keys stand in the memory. -/
structure KeyE (kd : KD) {K : Type} [DecidableEq K] (κ : K → AVal) : Prop where
  same : ∀ a b, V.sameK kd (κ a) (κ b) = some (decide (a = b))
theorem keyI : KeyE .i (fun n : Int => .int .i64 n) := ⟨fun a b => by
  simp only [V.sameK, if_true]; congr 1⟩
theorem keyS : KeyE .s (fun s : List UInt8 => .str s) := ⟨fun a b => by
  simp only [V.sameK]; congr 1; rw [Bool.eq_iff_iff, beq_iff_eq, decide_eq_true_eq]⟩
/-- Entries in the memory. -/
def encM {K T : Type} (κ : K → AVal) (v : T → AVal) (ps : Ents K T) : List (AVal × AVal × Nat) := ps.map fun p => (κ p.1, v p.2.1, p.2.2)
section
variable {kd : KD} {K T : Type} [DecidableEq K] {κ : K → AVal} {v : T → AVal}
theorem findK_enc (hκ : KeyE kd κ) (k : K) : ∀ (ps : Ents K T) (i : Nat), V.findK kd (κ k) (encM κ v ps) i = some ((idxP ps k).map fun (j, q) => (i + j, v q.1, q.2))
  | [], i => rfl
  | p :: r, i => by
    simp only [encM, List.map_cons, V.findK, hκ.same, idxP]
    by_cases hp : k = p.1
    · rw [if_pos hp.symm]; simp [hp]
    · rw [if_neg (Ne.symm hp)]
      have ih := findK_enc hκ k r (i + 1)
      simp only [encM] at ih
      simp only [hp, decide_false, ih]
      cases idxP r k with
      | none => rfl
      | some x => obtain ⟨j, q⟩ := x; simp only [Option.map_some]; congr 3; omega
theorem fset_enc (hκ : KeyE kd κ) (k : K) (t : T) (ps : Ents K T) (c : Nat) : A.fset (some kd) (κ k) (v t) (encM κ v ps) c = some (encM κ v (putP ps k t c), clkP ps k c, .undef) := by
  simp only [A.fset, findK_enc hκ, clkP, idxP_get]
  cases h : idxP ps k with
  | none => simp [idxP_put_none h, encM]
  | some x =>
    obtain ⟨j, q⟩ := x
    have := idxP_put (t := t) (c := c) h
    simp only [Option.map_some, Option.isSome_some, if_true, Nat.zero_add, this.1, encM, List.map_set]
end

/-- A map of one's own. -/
def mapBlk (es : List (AVal × AVal × Nat)) (c : Nat) : Blk := objOf (.map es c)
theorem Owns.newBlk {h0 h : AHeap} {l : List Ob} (ho : Owns h0 h l) {id : Nat} (hid : h id = none) {b : Blk} (hb : b.own = true) : Owns h0 (upd h id b) (l ++ [.blk id b]) :=
  ho.join ⟨le_upd _ hid, fun o hm => by rw [List.mem_singleton.1 hm]; exact upd_same .., fun o hm j hj => by rw [List.mem_singleton.1 hm] at hj; cases hj; exact ⟨hid, fun b hb' => by rw [upd_same] at hb'; cases hb'; exact hb⟩, List.pairwise_singleton _ _⟩
theorem Owns.newMap {h0 h : AHeap} {l : List Ob} {K T : Type} (ho : Owns h0 h l) (κ : K → AVal) (v : T → AVal) {Q : AVal → AHeap → Prop} (hq : ∀ id h', h id = none → Owns h0 h' (l ++ [.blk id (mapBlk (encM κ v []) 0)]) → h.le h' → Q (.mp id) h') : B.newMap h Q :=
  fun id hid => hq id _ hid (ho.newBlk hid rfl) (le_upd _ hid)
section
variable {h0 h : AHeap} {l : List Ob} {kd : KD} {K T : Type} [DecidableEq K] {κ : K → AVal} {v : T → AVal}
theorem Owns.setBlk (ho : Owns h0 h l) (k : Nat) {id : Nat} {b b' : Blk} (hk : l[k]? = some (.blk id b)) (hb : b'.own = true) : Owns h0 (upd h id b') (l.set k (.blk id b')) :=
  ho.turn k hk (upd_same ..) (fun j c hj hc => by cases hj; rw [upd_same] at hc; cases hc; exact hb) (fun j c e1 e2 => by rw [upd_other]; exact e1; intro e; subst e; exact e2 rfl) (.inl rfl)
theorem mapAt_blk {id : Nat} {es : List (AVal × AVal × Nat)} {c : Nat} (hb : h id = some (mapBlk es c)) : A.mapAt h (.mp id) = some (es, c) := by simp [A.mapAt, hb, mapBlk, objOf]
theorem objT_blk {id : Nat} {es es' : List (AVal × AVal × Nat)} {c c' : Nat} {u : AVal} {f : List (AVal × AVal × Nat) → Nat → Option (List (AVal × AVal × Nat) × Nat × AVal)} {Q : AVal → AHeap → Prop} (hb : h id = some (mapBlk es c)) (hf : f es c = some (es', c', u))
    (hq : Q u (upd h id (mapBlk es' c'))) : A.objT h (.mp id) f Q := by
  unfold mapBlk objOf at *
  simp only [A.objT, hb, hf]
  exact hq
theorem lkp_blk {id : Nat} {c : Nat} {ps : Ents K T} (hκ : KeyE kd κ) (hb : h id = some (mapBlk (encM κ v ps) c)) (z : T) (k : K) (ok : Bool) :
    A.lkp h (some kd) (some (v z)) ok (.mp id) (κ k) = some (bif ok then .tup [v ((getP ps k).getD z), .bool (getP ps k).isSome] else v ((getP ps k).getD z)) := by
  simp only [A.lkp, A.entries, mapAt_blk hb, findK_enc hκ, idxP_get]
  cases idxP ps k with
  | none => rfl
  | some x => rfl
theorem Owns.lkp (ho : Owns h0 h l) (i : Nat) {id c : Nat} {ps : Ents K T} (hi : l[i]? = some (.blk id (mapBlk (encM κ v ps) c))) (hκ : KeyE kd κ) (z : T) (k : K) : A.lkp h (some kd) (some (v z)) false (.mp id) (κ k) = some (v ((getP ps k).getD z)) :=
  lkp_blk hκ (ho.at i hi) z k false
theorem Owns.mset (ho : Owns h0 h l) (i : Nat) {id c : Nat} {ps : Ents K T} (hi : l[i]? = some (.blk id (mapBlk (encM κ v ps) c))) (hκ : KeyE kd κ) (k : K) (t : T) {Q : AHeap → Prop}
    (hq : ∀ h', Owns h0 h' (l.set i (.blk id (mapBlk (encM κ v (putP ps k t c)) (clkP ps k c)))) → But (.mp id) h h' → (∀ j, j ≠ id → h' j = h j) → Q h') : B.mset h kd (.mp id) (κ k) (v t) Q :=
  objT_blk (ho.at i hi) (fset_enc hκ k t ps c) (hq _ (ho.setBlk i hi rfl) (fun j b e1 e2 => by rw [upd_other]; exact e1; intro e; subst e; exact e2 rfl) fun j hj => upd_other _ _ hj)
end
end Go.Ab

/- What is proved: contracts of codes' functions, the program's and the document's. No conditions. -/
set_option linter.unusedVariables false
set_option linter.unusedSimpArgs false
namespace Go.Ab
variable {C : CSem} {N : Nat → Nat}

/-! Bytes. -/
theorem nextStr_at {h : AHeap} {id : Nat} {b : Blk} {s : List UInt8} {pos : Nat} {K : AVal → AHeap → Prop} (hb : h id = some b) (ho : b.obj = some (.iter s pos)) :
    (B.nextStr h (.ptr id 0 0) K : Prop) = if pos < s.length then K (.tup [.bool true, .int .i64 pos, .int .i32 (A.rune s pos).1]) (upd h id { b with obj := some (.iter s (pos + (A.rune s pos).2)) }) else K (.tup [.bool false]) h := by
  simp only [B.nextStr, A.nextStr, hb, ho]
theorem get_bang {s : List UInt8} {pos : Nat} {b : UInt8} (hb : s[pos]? = some b) : ((⟨s.toArray⟩ : ByteArray).get! pos) = b := by
  simp [ByteArray.get!, hb]
theorem rune_ascii {s : List UInt8} {pos : Nat} {b : UInt8} (hb : s[pos]? = some b) (h : b.toNat < 128) : A.rune s pos = (b.toNat, 1) := by
  unfold A.rune Utf8.decode
  simp only [Nat.add_zero, get_bang hb]
  rw [if_pos h]
theorem rune_high {s : List UInt8} {pos : Nat} {b : UInt8} (hb : s[pos]? = some b) (h : 128 ≤ b.toNat) : 128 ≤ (A.rune s pos).1 := by
  unfold A.rune Utf8.decode
  simp only [Nat.add_zero, get_bang hb]
  rw [if_neg (by omega)]
  split
  · split <;> simp_all [Utf8.runeError]
  · split
    · split <;> simp_all [Utf8.runeError]; omega
    · split
      · split <;> simp_all [Utf8.runeError]; omega
      · simp [Utf8.runeError]

/-! Codes. -/
def codeCh (i : Nat) (b : UInt8) : Bool := (decide (65 ≤ b.toNat) && decide (b.toNat ≤ 90)) || (decide (0 < i) && ((decide (48 ≤ b.toNat) && decide (b.toNat ≤ 57)) || decide (b.toNat = 45)))
def codeTo (s : List UInt8) : Nat → Bool
  | 0 => true
  | n + 1 => codeTo s n && codeCh n (s.getD n 0)
def codeRight (s : List UInt8) : Bool := !s.isEmpty && decide (s.length ≤ 12) && codeTo s s.length
theorem codeTo_bad {s : List UInt8} {k : Nat} (h : codeTo s k = true) {b : UInt8} (hb : s[k]? = some b) (hc : codeCh k b = false) : ∀ n, k < n → codeTo s n = false
  | 0, h => by omega
  | n + 1, hn => by
    by_cases e : n = k
    · subst e; simp [codeTo, List.getD, hb, hc]
    · rw [codeTo, codeTo_bad h hb hc n (by omega)]; rfl
theorem codeTo_step {s : List UInt8} {k : Nat} (h : codeTo s k = true) {b : UInt8} (hb : s[k]? = some b) (hc : codeCh k b = true) : codeTo s (k + 1) = true := by
  simp [codeTo, List.getD, hb, hc, h]
theorem codeRight_bad {s : List UInt8} {k : Nat} (h : codeTo s k = true) {b : UInt8} (hb : s[k]? = some b) (hc : codeCh k b = false) : codeRight s = false := by
  have := codeTo_bad h hb hc s.length (List.getElem?_eq_some_iff.1 hb).1
  simp [codeRight, this]

def code_Right.Spec (C : CSem) (N : Nat → Nat) : Prop := ∀ (s : List UInt8) (h : AHeap) (Q : AVal → AHeap → Prop), Q (.bool (codeRight s)) h → C (N 53) [.str s] h Q
def itB (s : List UInt8) (k : Nat) : Blk := { cells := [], gens := [], next := 1, own := true, obj := some (.iter s k) }
theorem code_Right.spec (i : code_Right.Imp C N) : code_Right.Spec C N := by
  intro s h Q hq
  apply i
  simp only [code_Right.cps]
  intro id hid
  refine LoopR.intro (fun n vs hh => ∃ k, k + n = s.length ∧ vs = [] ∧ hh = upd h id (itB s k) ∧ codeTo s k = true) s.length ?_ ⟨0, by simp, rfl, rfl, rfl⟩
  rintro Y n vs hh ⟨k, hn, rfl, rfl, hc⟩ hY
  simp only [code_Right.l3, code_Right.k2]
  rw [nextStr_at (upd_same ..) rfl]
  have hle : h.le (upd h id (itB s k)) := le_upd _ hid
  split
  · rename_i hk
    obtain ⟨b, hb⟩ := get_lt hk
    by_cases hlt : b.toNat < 128
    · rw [rune_ascii hb hlt, upd_upd]
      have next : codeCh k b = true → Y [] (upd h id { cells := (itB s k).cells, gens := (itB s k).gens, next := (itB s k).next, own := (itB s k).own, obj := some (.iter s (k + 1)) }) := fun hcc =>
        hY (n - 1) _ _ (by omega) ⟨k + 1, by omega, rfl, rfl, codeTo_step hc hb hcc⟩
      simp +contextual -dsimp
      refine B.cond_bool (fun h1 => ?_) (fun h1 => ?_)
      · exact next (by simp at h1; simp [codeCh]; omega)
      · simp +contextual -dsimp
        refine B.cond_bool (fun h2 => ?_) (fun h2 => ?_)
        · exact next (by simp at h2; simp [codeCh]; omega)
        · have := codeRight_bad hc hb (by simp at h1 h2; simp [codeCh]; omega)
          rw [this] at hq
          exact dn_le (le_upd _ hid) hq
    · have hr := rune_high hb (by omega)
      have := codeRight_bad hc hb (by simp [codeCh]; omega)
      rw [this] at hq
      simp +contextual -dsimp
      refine B.cond_bool (fun h1 => ?_) (fun h1 => ?_)
      · simp at h1; omega
      · simp +contextual -dsimp
        refine B.cond_bool (fun h2 => ?_) (fun h2 => ?_)
        · simp at h2; omega
        · exact dn_le (le_upd _ hid) hq
  · have hk : k = s.length := by omega
    subst hk
    have : codeRight s = (!decide (s = []) && decide ((s.length : Int) ≤ 12)) := by
      unfold codeRight
      rw [hc, Bool.and_true]
      cases s with
      | nil => rfl
      | cons a r => simp; omega
    rw [this] at hq
    simp +contextual -dsimp
    exact dn_le hle hq

def ref03_Right.Spec (C : CSem) (N : Nat → Nat) : Prop := ∀ (s : List UInt8) (h : AHeap) (Q : AVal → AHeap → Prop), Q (.bool (codeRight s)) h → C (N 61) [.str s] h Q
theorem idxStr_at {s : List UInt8} {k : Nat} {b : UInt8} (hb : s[k]? = some b) : V.idxStr (.str s) (.int .i64 (k : Int)) = some (.int .u8 b.toNat) := by
  simp [V.idxStr, hb]
theorem ref03_Right.spec (i : ref03_Right.Imp C N) : ref03_Right.Spec C N := by
  intro s h Q hq
  apply i
  simp +contextual -dsimp
  refine B.cond_bool (fun h1 => ?_) (fun h1 => ?_)
  · have : codeRight s = false := by
      simp at h1
      cases s with
      | nil => rfl
      | cons a r => simp [codeRight]; simp at h1; omega
    rw [this] at hq
    exact dn_same hq
  · simp at h1
    refine LoopR.intro (fun n vs hh => ∃ k : Nat, k + n = s.length ∧ vs = [.int .i64 k] ∧ hh = h ∧ codeTo s k = true) s.length ?_ ⟨0, by simp, by simp, rfl, rfl⟩
    rintro Y n vs hh ⟨k, hn, rfl, rfl, hc⟩ hY
    simp +contextual -dsimp
    refine B.cond_bool (fun h2 => ?_) (fun h2 => ?_)
    · simp at h2
      obtain ⟨b, hb⟩ := get_lt h2
      simp +contextual -dsimp [idxStr_at hb]
      refine B.cond_bool (fun h3 => ?_) (fun h3 => ?_)
      · have := codeRight_bad hc hb (by simp at h3; simp [codeCh]; omega)
        rw [this] at hq
        exact dn_same hq
      · simp +contextual -dsimp [inc64 (n := k) (by omega)]
        exact hY (n - 1) _ _ (by omega) ⟨k + 1, by omega, by simp, rfl, codeTo_step hc hb (by simp at h3; simp [codeCh]; omega)⟩
    · have hk : k = s.length := by simp at h2; omega
      subst hk
      have : codeRight s = true := by
        unfold codeRight
        rw [hc]
        cases s with
        | nil => simp at h1
        | cons a r => simp; simp at h1; omega
      rw [this] at hq
      exact dn_same hq

/-! Bytes put together. -/
/-- The code that bytes begin with, how many go by, whether there is one. -/
def codeGet : List UInt8 → List UInt8 × Nat × Bool
  | [] => ([], 0, false)
  | c :: r => if r.length < c.toNat ∨ (r.take c.toNat ≠ [] ∧ codeRight (r.take c.toNat) = false) then ([], 0, false) else (r.take c.toNat, 1 + c.toNat, true)
theorem codeGet_cons (c : UInt8) (r : List UInt8) : codeGet (c :: r) = if r.length < c.toNat ∨ (r.take c.toNat ≠ [] ∧ codeRight (r.take c.toNat) = false) then ([], 0, false) else (r.take c.toNat, 1 + c.toNat, true) := rfl
end Go.Ab

/- What is proved: contracts of windows' functions. No conditions. -/
set_option linter.unusedVariables false
namespace Go.Ab
variable {C : CSem} {N : Nat → Nat}

def Window.right (w : Window) : Bool := decide (0 ≤ w.From) && decide (w.From ≤ w.Until) && decide (w.Until ≤ 4001)

def window_Right.Spec (C : CSem) (N : Nat → Nat) : Prop := ∀ (a b : Int) (h : AHeap) (Q : AVal → AHeap → Prop), Q (.bool (Window.right ⟨a, b⟩)) h → C (N 5) [.agg [.int .i64 a, .int .i64 b]] h Q
theorem window_Right.spec (i : window_Right.Imp C N) : window_Right.Spec C N := by
  intro a b h Q hq
  apply i
  simp +contextual -dsimp
  exact dn_same hq

def Window.zero : Window := ⟨0, 0⟩
end Go.Ab

/- What is told: residuals: what each function does in the abstract memory, printed by a program of mine. Definitions alone. -/
set_option linter.unusedVariables false
namespace Go.Ab
@[simp] def tell_Get.k1 (C : CSem) (N : Nat → Nat) (Q : AVal → AHeap → Prop) (v2 v5 c6 : AVal) (h : AHeap) : Prop :=
  B.nilCheck v5 fun v41 =>
    B.pv (V.fieldAddr 2 v41) fun v42 =>
    B.ld h v42 fun v43 =>
    B.gd h v43 false (fun K => B.pv (V.fieldN 0 7 c6) fun v => K v h) fun v45 h =>
    B.gd h v43 false (fun K => B.call C (N 29) [v45] h K) fun v46 h =>
    B.gd h v43 false (fun K => B.pv (V.un .not v46) fun v => K v h) fun v47 h =>
    B.pick v43 (.bool true) v47 fun v48 =>
    B.cond v48
    (B.pv (A.bld [] [.int .i64 0, .int .i64 0, .int .i64 0, .str [], .int .u8 0, .nils, .nils]) fun v49 =>
    B.stn h v2 7 v49 fun h =>
    B.pv (oneOf (joinV (A.ldnv h v2 7) (joinV (some (.int .i64 0)) (joinV (some (.int .i64 4)) (some []))))) fun v => Q v h)
    (B.pv (V.fieldN 0 7 c6) fun v50 =>
    B.nilCheck v5 fun v52 =>
    B.pv (V.fieldAddr 1 v52) fun v53 =>
    B.ld h v53 fun v54 =>
    (fun K => B.stn h v2 7 v50 fun h => K .undef h) (B.keepS h [(v53, none)] (fun _ h => B.pv (oneOf (joinV (A.ldnv h v2 7) (joinV (some v54) (joinV (some (.int .i64 0)) (some []))))) fun v => Q v h)))
end Go.Ab

/- What is told: residuals: what each function does in the abstract memory, printed by a program of mine. Definitions alone. -/
set_option linter.unusedVariables false
namespace Go.Ab
@[simp] def ref14_Get.k1 (C : CSem) (N : Nat → Nat) (Q : AVal → AHeap → Prop) (v2 v5 c6 : AVal) (h : AHeap) : Prop :=
  B.nilCheck v5 fun v82 =>
    B.pv (V.fieldAddr 2 v82) fun v83 =>
    B.ld h v83 fun v84 =>
    B.gd h v84 false (fun K => B.pv (V.fieldN 0 7 c6) fun v => K v h) fun v86 h =>
    B.gd h v84 false (fun K => B.call C (N 33) [v86] h K) fun v87 h =>
    B.gd h v84 false (fun K => B.pv (V.un .not v87) fun v => K v h) fun v88 h =>
    B.pick v84 (.bool true) v88 fun v89 =>
    B.cond v89
    (B.pv (A.bld [] [.int .i64 0, .int .i64 0, .int .i64 0, .str [], .int .u8 0, .nils, .nils]) fun v90 =>
    B.stn h v2 7 v90 fun h =>
    B.pv (oneOf (joinV (A.ldnv h v2 7) (joinV (some (.int .i64 0)) (joinV (some (.int .i64 4)) (some []))))) fun v => Q v h)
    (B.pv (V.fieldN 0 7 c6) fun v91 =>
    B.nilCheck v5 fun v93 =>
    B.pv (V.fieldAddr 1 v93) fun v94 =>
    B.ld h v94 fun v95 =>
    (fun K => B.stn h v2 7 v91 fun h => K .undef h) (B.keepS h [(v94, none)] (fun _ h => B.pv (oneOf (joinV (A.ldnv h v2 7) (joinV (some v95) (joinV (some (.int .i64 0)) (some []))))) fun v => Q v h)))
@[simp] def ref14_Get.k2 (C : CSem) (N : Nat → Nat) (Q : AVal → AHeap → Prop) (Y1 : List AVal → AHeap → Prop) (v2 v5 v8 c6 : AVal) (h : AHeap) : Prop :=
  B.pv (V.bin .gtr v8 (.int .i64 0)) fun v56 =>
    B.gd h v56 true (fun K => K v5 h) fun v58 h =>
    B.gd h v56 true (fun K => B.nilCheck v58 fun v => K v h) fun v59 h =>
    B.gd h v56 true (fun K => B.pv (V.fieldAddr 2 v59) fun v => K v h) fun v60 h =>
    B.gd h v56 true (fun K => B.ld h v60 fun v => K v h) fun v61 h =>
    B.gd h v56 true (fun K => B.pv (V.un .not v61) fun v => K v h) fun v62 h =>
    B.pick v56 v62 (.bool false) fun v63 =>
    B.cond v63
    (B.call C (N 71) [v5, (.int .i64 8)] h fun v67 h =>
    B.pv (A.bld [(0, none, v67)] [.int .i64 0, .int .i64 0, .int .i64 0]) fun v68 =>
    B.pv (V.setN 0 3 v68 (.agg [.int .i64 0, .int .i64 0, .int .i64 0])) fun c9 =>
    B.call C (N 71) [v5, (.int .i64 8)] h fun v70 h =>
    B.al c9 (B.pv (V.setF 1 v70 c9) fun c9 =>
    B.call C (N 71) [v5, (.int .i64 8)] h fun v73 h =>
    B.al c9 (B.pv (V.setF 2 v73 c9) fun c9 =>
    B.al c6 (B.pv (V.field1 6 c6) fun v76 =>
    B.pv (V.fieldN 0 3 c9) fun v77 =>
    B.newO h (fillL [(0, some 3, v77)] (repL 1 [.int .i64 0, .int .i64 0, .int .i64 0])) fun i78 h =>
    B.appW h 3 24 v76 (.sl i78 0 0 1 3 1) fun v79 h =>
    B.al c6 (B.pv (V.setF 6 v79 c6) fun c6 =>
    B.pv (V.bin .sub v8 (.int .i64 1)) fun v65 =>
    Y1 [v65, c6] h)))))
    (ref14_Get.k1 C N Q v2 v5 c6 h)
@[simp] def ref14_Get.l3 (C : CSem) (N : Nat → Nat) (Q : AVal → AHeap → Prop) (v2 v5 : AVal) : List AVal → AHeap → (List AVal → AHeap → Prop) → Prop
  | [v8, c6], h, Y1 => ref14_Get.k2 C N Q Y1 v2 v5 v8 c6 h
  | _, _, _ => False
@[simp] def ref14_Get.k4 (C : CSem) (N : Nat → Nat) (Q : AVal → AHeap → Prop) (Y2 : List AVal → AHeap → Prop) (v2 v5 v7 c6 : AVal) (h : AHeap) : Prop :=
  B.pv (V.bin .gtr v7 (.int .i64 0)) fun v36 =>
    B.gd h v36 true (fun K => K v5 h) fun v38 h =>
    B.gd h v36 true (fun K => B.nilCheck v38 fun v => K v h) fun v39 h =>
    B.gd h v36 true (fun K => B.pv (V.fieldAddr 2 v39) fun v => K v h) fun v40 h =>
    B.gd h v36 true (fun K => B.ld h v40 fun v => K v h) fun v41 h =>
    B.gd h v36 true (fun K => B.pv (V.un .not v41) fun v => K v h) fun v42 h =>
    B.pick v36 v42 (.bool false) fun v43 =>
    B.cond v43
    (B.al c6 (B.pv (V.field1 5 c6) fun v47 =>
    B.call C (N 72) [v5] h fun v49 h =>
    B.newO h (fillL [(0, some 6, v49)] (repL 1 [.int .i64 0, .str [], .int .i64 0, .int .i64 0, .int .i64 0, .bool false])) fun i50 h =>
    B.appW h 6 56 v47 (.sl i50 0 0 1 6 1) fun v51 h =>
    B.al c6 (B.pv (V.setF 5 v51 c6) fun c6 =>
    B.pv (V.bin .sub v7 (.int .i64 1)) fun v45 =>
    Y2 [v45, c6] h)))
    (B.call C (N 71) [v5, (.int .i64 2)] h fun v54 h =>
    LoopR (ref14_Get.l3 C N Q v2 v5) [v54, c6] h)
@[simp] def ref14_Get.l5 (C : CSem) (N : Nat → Nat) (Q : AVal → AHeap → Prop) (v2 v5 : AVal) : List AVal → AHeap → (List AVal → AHeap → Prop) → Prop
  | [v7, c6], h, Y2 => ref14_Get.k4 C N Q Y2 v2 v5 v7 c6 h
  | _, _, _ => False
end Go.Ab

/- What is told: residuals: what each function does in the abstract memory, printed by a program of mine. Definitions alone. -/
set_option linter.unusedVariables false
namespace Go.Ab
end Go.Ab

/- What is proved: contracts of answers' functions, the program's and the document's: are they right, their bytes. No conditions. -/
set_option linter.unusedVariables false
set_option linter.unusedSimpArgs false
namespace Go.Ab
variable {C : CSem} {N : Nat → Nat}

def lotRight (l : Lot) : Bool := decide (0 < l.Id) && codeRight l.Item && Window.right ⟨l.From, l.Until⟩ && decide (l.From < l.Until) && decide (0 < l.Qty) && decide (l.Qty ≤ 1073741824)
def useRight (u : Use) : Bool := decide (0 ≤ u.Want) && decide (1 ≤ u.Lot) && decide (1 ≤ u.Qty)
def lot_Right.Spec (C : CSem) (N : Nat → Nat) : Prop := ∀ (l : Lot) (h : AHeap) (Q : AVal → AHeap → Prop), Q (.bool (lotRight l)) h → C (N 52) [.agg l.cs] h Q
theorem lot_Right.spec (i : lot_Right.Imp C N) (s1 : code_Right.Spec C N) (s2 : window_Right.Spec C N) : lot_Right.Spec C N := by
  intro l h Q hq
  apply i
  simp +contextual -dsimp
  refine B.gdb_call (fun _ _ hq => s1 _ _ _ hq) ?_
  simp +contextual -dsimp
  refine B.gdb_call (fun _ _ hq => s2 _ _ _ _ hq) ?_
  simp +contextual -dsimp
  simp only [lotRight, Bool.and_assoc] at hq
  simp only [Bool.and_assoc]
  exact dn_same hq
def ref04_Right.Spec (C : CSem) (N : Nat → Nat) : Prop := ∀ (l : Lot) (h : AHeap) (Q : AVal → AHeap → Prop), Q (.bool (lotRight l)) h → C (N 60) [.agg l.cs] h Q
theorem ref04_Right.spec (i : ref04_Right.Imp C N) (s1 : ref03_Right.Spec C N) : ref04_Right.Spec C N := by
  intro l h Q hq
  apply i
  simp +contextual -dsimp
  refine B.gdb_call (fun _ _ hq => s1 _ _ _ hq) ?_
  simp +contextual -dsimp
  refine dn_same ?_
  have : ∀ a b : Bool, a = b → Q (.bool b) h → Q (.bool a) h := fun a b e => by rw [e]; exact id
  refine this _ _ ?_ hq
  rw [Bool.eq_iff_iff]
  cases hc : codeRight l.Item <;> simp [lotRight, Window.right, hc]
  omega

/-! Numbers as bytes. -/
/-- n in so many bytes, the highest first. -/
def be (n : Int) : Nat → List UInt8
  | 0 => []
  | k + 1 => byt (n.fdiv (2 ^ (8 * k))) :: be n k
@[simp] theorem be_len (n : Int) : ∀ k, (be n k).length = k
  | 0 => rfl
  | k + 1 => by simp [be, be_len n k]
/-! Answers. -/
def TellP.bare (t : TellP) : Bool := decide (t.Id = 0) && decide (t.Day = 0) && decide (t.Code = []) && decide (t.State = 0) && decide (t.Lots = []) && decide (t.Uses = [])
def TellP.head (t : TellP) : Bool := !(decide (t.Id < 0) || decide (t.Day < -1) || decide (4000 < t.Day) || !decide (t.Code = []) && !codeRight t.Code || decide (3 < (t.State.toNat : Int)) || decide (300 < (t.Lots.length : Int)) || decide (2000 < (t.Uses.length : Int)))
def TellP.full (t : TellP) : Bool := t.head && t.Lots.all lotRight && t.Uses.all useRight
def tellRight (t : TellP) : Bool := decide (0 ≤ t.Err) && decide (t.Err ≤ 999) && if 0 < t.Err then t.bare else t.full
def tell_Right.Spec (C : CSem) (N : Nat → Nat) : Prop := ∀ (t : TellP) (x y : AVal) (h : AHeap) (Q : AVal → AHeap → Prop), TellAt h t x y → t.Lots.length ≤ 100000000 → t.Uses.length ≤ 100000000 → Q (.bool (tellRight t)) h → C (N 29) [.agg (t.cs x y)] h Q
def ref14_Right.Spec (C : CSem) (N : Nat → Nat) : Prop := ∀ (t : TellP) (x y : AVal) (h : AHeap) (Q : AVal → AHeap → Prop), TellAt h t x y → t.Lots.length ≤ 100000000 → t.Uses.length ≤ 100000000 → Q (.bool (tellRight t)) h → C (N 33) [.agg (t.cs x y)] h Q
end Go.Ab

/- What is proved: contracts of windows' functions. No conditions. -/
set_option linter.unusedVariables false
namespace Go.Ab
variable {C : CSem} {N : Nat → Nat}

def Window.has (a : Window) (day : Int) : Bool := a.right && decide (a.From ≤ day) && decide (day < a.Until)
def window_Has.Spec (C : CSem) (N : Nat → Nat) : Prop := ∀ (a b day : Int) (h : AHeap) (Q : AVal → AHeap → Prop), Q (.bool (Window.has ⟨a, b⟩ day)) h → C (N 7) [.agg [.int .i64 a, .int .i64 b], .int .i64 day] h Q
theorem window_Has.spec (i : window_Has.Imp C N) (s1 : window_Right.Spec C N) : window_Has.Spec C N := by
  intro a b day h Q hq
  apply i
  simp +contextual -dsimp
  refine s1 _ _ _ _ ?_
  simp +contextual -dsimp
  exact dn_same hq

/-! Rows. -/
def tick (L : List Window) (j : Nat) : Int := ((L.countP fun w => decide (w.From = (j : Int)) : Nat) : Int) - ((L.countP fun w => decide (w.Until = (j : Int)) : Nat) : Int)
def opn (L : List Window) : Nat → Int
  | 0 => 0
  | d + 1 => opn L d + tick L d
def rowStep (L : List Window) (out : List Window) (d : Nat) : List Window :=
  if opn L d = 0 ∧ 0 < opn L (d + 1) then out ++ [⟨d, 0⟩]
  else if 0 < opn L d ∧ opn L (d + 1) = 0 then out.dropLast ++ [⟨(out.getLast?.getD .zero).From, d⟩]
  else out
def rowsTo (L : List Window) : Nat → List Window
  | 0 => []
  | d + 1 => rowStep L (rowsTo L d) d
def rows (L : List Window) : List Window := if L.all Window.right then rowsTo L 4002 else []
end Go.Ab

/- What is proved: contracts of lots' functions, the program's. No conditions. -/
set_option linter.unusedVariables false
set_option linter.unusedSimpArgs false
namespace Go.Ab
variable {C : CSem} {N : Nat → Nat}

def cmpInt (a b : Int) : Int := if a < b then -1 else if b < a then 1 else 0
def orInt (a b : Int) : Int := if a = 0 then b else a
def cmp_isNaN_int.Spec (C : CSem) (N : Nat → Nat) : Prop := ∀ (a : Int) (h : AHeap) (Q : AVal → AHeap → Prop), Q (.bool false) h → C (N 171) [.int .i64 a] h Q
theorem cmp_isNaN_int.spec (i : cmp_isNaN_int.Imp C N) : cmp_isNaN_int.Spec C N := by
  intro a h Q hq
  apply i
  simp -dsimp
  exact dn_same hq
def cmp_Compare_int.Spec (C : CSem) (N : Nat → Nat) : Prop := ∀ (a b : Int) (h : AHeap) (Q : AVal → AHeap → Prop), Q (.int .i64 (cmpInt a b)) h → C (N 157) [.int .i64 a, .int .i64 b] h Q
theorem cmp_Compare_int.spec (i : cmp_Compare_int.Imp C N) (s1 : cmp_isNaN_int.Spec C N) : cmp_Compare_int.Spec C N := by
  intro a b h Q hq
  apply i
  simp -dsimp
  refine s1 _ _ _ ?_
  refine s1 _ _ _ ?_
  simp -dsimp
  refine B.cond_bool (fun hb => ?_) (fun hb => ?_) <;> simp -dsimp at hb ⊢
  · rw [cmpInt, if_pos hb] at hq; exact dn_same hq
  · refine B.cond_bool (fun hc => ?_) (fun hc => ?_) <;> simp -dsimp at hc ⊢
    · rw [cmpInt, if_neg (by omega), if_pos hc] at hq; exact dn_same hq
    · rw [cmpInt, if_neg (by omega), if_neg (by omega)] at hq; exact dn_same hq
def cmp_Or_int.Spec (C : CSem) (N : Nat → Nat) : Prop := ∀ (x : AVal) (a b : Int) (R : List (List AVal)) (h : AHeap) (Q : AVal → AHeap → Prop), SlX h 1 x [[.int .i64 a], [.int .i64 b]] R → Q (.int .i64 (orInt a b)) h → C (N 158) [x] h Q
theorem cmp_Or_int.spec (i : cmp_Or_int.Imp C N) : cmp_Or_int.Spec C N := by
  intro x a b R h Q hx hq
  apply i
  have e1 := hx.lenSl
  have e2 : V.idxS 1 x (.int .i64 0) = some (elp 1 x 0 0) := hx.idxN (i := 0) (by simp)
  have e3 : V.idxS 1 x (.int .i64 1) = some (elp 1 x 1 0) := hx.idxN (i := 1) (by simp)
  have e4 := hx.cell (i := 0) (c := .int .i64 a) rfl
  have e5 := hx.cell (i := 1) (c := .int .i64 b) rfl
  have w1 : IntKind.i64.wrap 1 = 1 := wrap_i64 (by omega) (by omega)
  have w2 : IntKind.i64.wrap 2 = 2 := wrap_i64 (by omega) (by omega)
  simp -dsimp [e1]
  intro Y hY
  refine hY _ _ ?_
  simp -dsimp [e2, e4, w1]
  refine B.cond_bool (fun hb => ?_) (fun hb => ?_) <;> simp -dsimp at hb ⊢
  · rw [orInt, if_neg hb] at hq; exact dn_same hq
  · rw [orInt, if_pos hb] at hq
    refine hY _ _ ?_
    simp -dsimp [e3, e5, w1, w2]
    refine B.cond_bool (fun hc => ?_) (fun hc => ?_) <;> simp -dsimp at hc ⊢
    · exact dn_same hq
    · refine hY _ _ ?_
      simp -dsimp [w1, w2]
      rw [hc] at hq; exact dn_same hq

def lotCmp (a b : Lot) : Int := orInt (cmpInt a.Until b.Until) (cmpInt a.Id b.Id)
theorem lotCmp_neg (a b : Lot) : lotCmp a b < 0 ↔ a.Until < b.Until ∨ (a.Until = b.Until ∧ a.Id < b.Id) := by
  unfold lotCmp orInt cmpInt
  repeat' split
  all_goals omega
theorem lotW : Weak (lessC lotCmp) where
  asym {a b} h := by
    simp only [lessC, decide_eq_true_eq, decide_eq_false_iff_not, lotCmp_neg] at *
    omega
  ntrans {a b c} h k := by
    simp only [lessC, decide_eq_false_iff_not, lotCmp_neg] at *
    omega
def lot_Compare.Spec (C : CSem) (N : Nat → Nat) : Prop := ∀ (a b : Lot) (h : AHeap) (Q : AVal → AHeap → Prop), Q (.int .i64 (lotCmp a b)) h → C (N 144) [.agg a.cs, .agg b.cs] h Q
theorem lot_Compare.spec (i : lot_Compare.Imp C N) (s1 : cmp_Compare_int.Spec C N) (s2 : cmp_Or_int.Spec C N) : lot_Compare.Spec C N := by
  intro a b h Q hq
  apply i
  simp -dsimp
  refine s1 _ _ _ _ ?_
  refine s1 _ _ _ _ ?_
  simp -dsimp [repL]
  intro id hid
  refine s2 _ _ _ [] _ _ (SlX.lit (upd_same ..) (by simp) rfl (by simp) rfl) ?_
  exact dn_le (le_upd _ hid) hq
def lotE : ElOps := opsF 6 56 [.int .i64 0, .str [], .int .i64 0, .int .i64 0, .int .i64 0, .bool false] 0 []
theorem lotS : SeqSpec lotE Lot.cs (fun l => .agg l.cs) := seqF (by omega) (by omega) rfl fun _ => rfl

/-- A list of one's own out of another. -/
theorem clone_spec {E : ElOps} {X : Type} {cs : X → List AVal} {v : X → AVal} (S : SeqSpec E cs v) {x : AVal} {L : List X} {R : List (List AVal)} {h : AHeap} {Q : AVal → AHeap → Prop} (hx : SlX h E.es x (L.map cs) R) (hlen : L.length ≤ 100000000)
    (hq : ∀ x' h', Rw E cs h h' x' L [] → Q x' h') : slices_CloneG.cps C E x h Q := by
  have cp : B.appW h E.es E.bytes .sz x (fun v7 h => Q v7 h) := by
    have hm := Nat.mul_le_mul hlen S.small
    refine Owns.appW ((Owns.start h).sz E.es) 0 rfl hx S.pos (by simp; omega) (by simp [maxLen]; omega) fun x' h' h1 _ => hq x' h' ?_
    simpa [Rw] using h1
  rcases hx.2 with ⟨e1, e2, rfl | rfl⟩ | ⟨id, g, off, cp', b, hi, rfl, h3⟩
  · simp -dsimp [V.eqSl]
    refine hq _ _ ?_
    unfold Rw
    rw [e1]
    exact (Owns.start h).nils E.es
  · simp -dsimp [V.eqSl]
    exact cp
  · simp -dsimp [V.eqSl]
    rw [List.length_map] at cp
    exact cp
def slices_Clone_api_Lot_api_Lot.Spec (C : CSem) (N : Nat → Nat) : Prop := ∀ (x : AVal) (L : List Lot) (R : List (List AVal)) (h : AHeap) (Q : AVal → AHeap → Prop), SlX h 6 x (L.map Lot.cs) R → L.length ≤ 100000000 →
  (∀ x' h', Owns h h' [.sl 6 x' (L.map Lot.cs) []] → Q x' h') → C (N 160) [x] h Q
theorem slices_Clone_api_Lot_api_Lot.spec (i : slices_Clone_api_Lot_api_Lot.Imp C N) : slices_Clone_api_Lot_api_Lot.Spec C N := by
  intro x L R h Q hx hlen hq
  exact i _ _ _ (clone_spec lotS hx hlen fun x' h' ho => dn_same (hq x' h' ho))
def slices_SortStableFunc_api_Lot_api_Lot.Spec (C : CSem) (N : Nat → Nat) : Prop := ∀ (h0 h : AHeap) (x f : AVal) (c : Lot → Lot → Int) (L : List Lot) (R : List (List AVal)) (Q : AVal → AHeap → Prop), Weak (lessC c) → CmpSpec C (fun l : Lot => .agg l.cs) c f h0 → L.length ≤ 100000000 →
  Owns h0 h [.sl 6 x (L.map Lot.cs) R] → (∀ h', Owns h0 h' [.sl 6 x ((sortB c L).map Lot.cs) R] → Q (.tup []) h') → C (N 161) [x, f] h Q
theorem slices_SortStableFunc_api_Lot_api_Lot.spec (i : slices_SortStableFunc_api_Lot_api_Lot.Imp C N) (i1 : slices_symMergeCmpFunc_api_Lot.Imp C N) (i2 : slices_rotateCmpFunc_api_Lot.Imp C N) (i3 : slices_swapRangeCmpFunc_api_Lot.Imp C N) (i4 : slices_insertionSortCmpFunc_api_Lot.Imp C N) (i5 : slices_stableCmpFunc_api_Lot.Imp C N) :
    slices_SortStableFunc_api_Lot_api_Lot.Spec C N := by
  intro h0 h x f c L R Q W hc hlen ho hq
  refine i _ _ _ _ (sortStable_spec lotS W (f1 := N 167) (f2 := N 169) (f3 := N 170) (f4 := N 168) ⟨i1, i2, i3, i4, i5⟩ hc hlen ho fun h' L' st o => dn_same (hq h' ?_))
  rw [← stable_sortB W st]; exact o

def sortLots (L : List Lot) : List Lot := sortB lotCmp L
def lot_Sort.Spec (C : CSem) (N : Nat → Nat) : Prop := ∀ (x : AVal) (L : List Lot) (R : List (List AVal)) (h : AHeap) (Q : AVal → AHeap → Prop), SlX h 6 x (L.map Lot.cs) R → L.length ≤ 100000000 →
  (∀ x' h', Owns h h' [.sl 6 x' ((sortLots L).map Lot.cs) []] → Q x' h') → C (N 149) [x] h Q
theorem lot_Sort.spec (i : lot_Sort.Imp C N) (s1 : slices_Clone_api_Lot_api_Lot.Spec C N) (s2 : slices_SortStableFunc_api_Lot_api_Lot.Spec C N) (s3 : lot_Compare.Spec C N) : lot_Sort.Spec C N := by
  intro x L R h Q hx hlen hq
  apply i
  simp -dsimp
  refine s1 _ _ _ _ _ hx hlen fun x' h' ho => ?_
  refine s2 _ _ _ _ _ _ _ _ lotW ⟨fun h a b K _ hk => ?_⟩ hlen ho fun h2 o2 => dn_same (hq x' h2 o2)
  simp -dsimp
  exact s3 _ _ _ _ hk

/-! What of a list a function keeps. -/
end Go.Ab

/- What is proved: contracts of lots' functions: what is over, what is an item's, what can be used; the document's order. No conditions. -/
set_option linter.unusedVariables false
set_option linter.unusedSimpArgs false
namespace Go.Ab
variable {C : CSem} {N : Nat → Nat}
/-! The document's order. -/
def ref04_Compare.Spec (C : CSem) (N : Nat → Nat) : Prop := ∀ (a b : Lot) (h : AHeap) (Q : AVal → AHeap → Prop), Q (.int .i64 (lotCmp a b)) h → C (N 145) [.agg a.cs, .agg b.cs] h Q
theorem ref04_Compare.spec (i : ref04_Compare.Imp C N) : ref04_Compare.Spec C N := by
  intro a b h Q hq
  apply i
  simp -dsimp
  have e : ∀ n : Int, lotCmp a b = n → dn Q (.int .i64 n) h := fun n hn => by rw [← hn]; exact dn_same hq
  refine B.cond_bool (fun h1 => ?_) (fun h1 => ?_) <;> simp -dsimp at h1 ⊢
  · exact e _ (by unfold lotCmp orInt cmpInt; repeat' split; all_goals omega)
  · refine B.cond_bool (fun h2 => ?_) (fun h2 => ?_) <;> simp -dsimp at h2 ⊢
    · exact e _ (by unfold lotCmp orInt cmpInt; repeat' split; all_goals omega)
    · refine B.cond_bool (fun h3 => ?_) (fun h3 => ?_) <;> simp -dsimp at h3 ⊢
      · exact e _ (by unfold lotCmp orInt cmpInt; repeat' split; all_goals omega)
      · refine B.cond_bool (fun h4 => ?_) (fun h4 => ?_) <;> simp -dsimp at h4 ⊢
        · exact e _ (by unfold lotCmp orInt cmpInt; repeat' split; all_goals omega)
        · exact e _ (by unfold lotCmp orInt cmpInt; repeat' split; all_goals omega)
end Go.Ab

/- What is proved: contracts of the document's functions on lots. No conditions. -/
set_option linter.unusedVariables false
set_option linter.unusedSimpArgs false
namespace Go.Ab
variable {C : CSem} {N : Nat → Nat}
theorem take_one {X : Type} {L : List X} {k : Nat} (hb : k < L.length) : L.take (k + 1) = L.take k ++ [L[k]] := by rw [List.take_add_one, List.getElem?_eq_getElem hb]; rfl
end Go.Ab

/- What is proved: contract of the document's sort of lots. No conditions. -/
set_option linter.unusedVariables false
set_option linter.unusedSimpArgs false
namespace Go.Ab
variable {C : CSem} {N : Nat → Nat}
end Go.Ab

/- What is proved: contracts of windows' functions. No conditions. -/
set_option linter.unusedVariables false
namespace Go.Ab
variable {C : CSem} {N : Nat → Nat}

end Go.Ab

/- What is proved: contracts of windows' functions. No conditions. -/
set_option linter.unusedVariables false
namespace Go.Ab
variable {C : CSem} {N : Nat → Nat}

/-! The document's functions. -/
def ref01_Right.Spec (C : CSem) (N : Nat → Nat) : Prop := ∀ (a b : Int) (h : AHeap) (Q : AVal → AHeap → Prop), Q (.bool (Window.right ⟨a, b⟩)) h → C (N 6) [.agg [.int .i64 a, .int .i64 b]] h Q
theorem ref01_Right.spec (i : ref01_Right.Imp C N) : ref01_Right.Spec C N := by
  intro a b h Q hq
  apply i
  simp +contextual -dsimp
  exact dn_same hq
def ref01_Has.Spec (C : CSem) (N : Nat → Nat) : Prop := ∀ (a b day : Int) (h : AHeap) (Q : AVal → AHeap → Prop), Q (.bool (Window.has ⟨a, b⟩ day)) h → C (N 8) [.agg [.int .i64 a, .int .i64 b], .int .i64 day] h Q
theorem ref01_Has.spec (i : ref01_Has.Imp C N) (s1 : ref01_Right.Spec C N) : ref01_Has.Spec C N := by
  intro a b day h Q hq
  apply i
  simp +contextual -dsimp
  refine s1 _ _ _ _ ?_
  simp +contextual -dsimp
  exact dn_same hq
end Go.Ab

/- What is proved: contracts: may lots and wants be together? No conditions. -/
set_option linter.unusedVariables false
set_option linter.unusedSimpArgs false
namespace Go.Ab
variable {C : CSem} {N : Nat → Nat}
def wantE : ElOps := opsF 3 32 [.str [], .int .i64 0, .int .i64 0] 0 []
theorem wantS : SeqSpec wantE Want.cs (fun w => .agg w.cs) := seqF (by omega) (by omega) rfl fun _ => rfl
def amount_Right.Spec (C : CSem) (N : Nat → Nat) : Prop := ∀ (n : Int) (h : AHeap) (Q : AVal → AHeap → Prop), Q (.bool (decide (0 ≤ n) && decide (n ≤ 1125899906842624))) h → C (N 247) [.int .i64 n] h Q
theorem amount_Right.spec (i : amount_Right.Imp C N) : amount_Right.Spec C N := by
  intro n h Q hq
  apply i
  simp +contextual -dsimp
  exact dn_same hq
def slices_IndexFunc_api_Want_api_Want.Spec (C : CSem) (N : Nat → Nat) : Prop := ∀ (x f : AVal) (p : Want → Bool) (L : List Want) (R : List (List AVal)) (h : AHeap) (Q : AVal → AHeap → Prop), SlX h 3 x (L.map Want.cs) R → L.length < 4611686018427387904 → AskSpec C (fun w : Want => .agg w.cs) f p h →
  Q (.int .i64 (idxI p L)) h → C (N 244) [x, f] h Q
theorem slices_IndexFunc_api_Want_api_Want.spec (i : slices_IndexFunc_api_Want_api_Want.Imp C N) : slices_IndexFunc_api_Want_api_Want.Spec C N := by
  intro x f p L R h Q hx hlen hf hq
  exact i _ _ _ _ (indexFunc_spec wantS hx hlen hf (dn_same hq))
def slices_ContainsFunc_api_Want_api_Want.Spec (C : CSem) (N : Nat → Nat) : Prop := ∀ (x f : AVal) (p : Want → Bool) (L : List Want) (R : List (List AVal)) (h : AHeap) (Q : AVal → AHeap → Prop), SlX h 3 x (L.map Want.cs) R → L.length < 4611686018427387904 → AskSpec C (fun w : Want => .agg w.cs) f p h →
  Q (.bool (L.any p)) h → C (N 237) [x, f] h Q
theorem slices_ContainsFunc_api_Want_api_Want.spec (i : slices_ContainsFunc_api_Want_api_Want.Imp C N) (s1 : slices_IndexFunc_api_Want_api_Want.Spec C N) : slices_ContainsFunc_api_Want_api_Want.Spec C N := by
  intro x f p L R h Q hx hlen hf hq
  exact i _ _ _ _ (containsFunc_spec (fun Q' hq' => s1 _ _ _ _ _ _ _ hx hlen hf hq') (dn_same hq))
def wantRight (w : Want) : Bool := codeRight w.Item && decide (0 ≤ w.Day) && decide (w.Day ≤ 4000) && decide (1 ≤ w.Qty) && decide (w.Qty ≤ 1125899906842624)
def flow_together_1.Spec (C : CSem) (N : Nat → Nat) : Prop := ∀ (w : Want) (h : AHeap) (Q : AVal → AHeap → Prop), Q (.bool !wantRight w) h → C (N 243) [.agg w.cs] h Q
theorem flow_together_1.spec (i : flow_together_1.Imp C N) (s1 : code_Right.Spec C N) (s2 : amount_Right.Spec C N) : flow_together_1.Spec C N := by
  intro w h Q hq
  apply i
  have e : ∀ b, (!wantRight w) = b → dn Q (.bool b) h := fun b hb => by rw [← hb]; exact dn_same hq
  simp +contextual -dsimp
  refine s1 _ _ _ ?_
  simp +contextual -dsimp
  refine B.gdb_call (fun _ _ hq => s2 _ _ _ hq) ?_
  simp +contextual -dsimp
  refine e _ ?_
  unfold wantRight
  cases codeRight w.Item
  · simp
  · rw [Bool.eq_iff_iff]; simp; omega
def ref05_Right.Spec (C : CSem) (N : Nat → Nat) : Prop := ∀ (w : Want) (h : AHeap) (Q : AVal → AHeap → Prop), Q (.bool (wantRight w)) h → C (N 241) [.agg w.cs] h Q
theorem ref05_Right.spec (i : ref05_Right.Imp C N) (s1 : ref03_Right.Spec C N) : ref05_Right.Spec C N := by
  intro w h Q hq
  apply i
  have e : ∀ b, (wantRight w) = b → dn Q (.bool b) h := fun b hb => by rw [← hb]; exact dn_same hq
  simp +contextual -dsimp
  refine s1 _ _ _ ?_
  simp +contextual -dsimp
  refine e _ ?_
  unfold wantRight
  cases codeRight w.Item
  · simp
  · rw [Bool.eq_iff_iff]
def serves (l : Lot) (w : Want) : Bool := decide (l.Item = w.Item) && Window.has ⟨l.From, l.Until⟩ w.Day
def ref05_Serves.Spec (C : CSem) (N : Nat → Nat) : Prop := ∀ (l : Lot) (w : Want) (h : AHeap) (Q : AVal → AHeap → Prop), Q (.bool (serves l w)) h → C (N 235) [.agg l.cs, .agg w.cs] h Q
theorem ref05_Serves.spec (i : ref05_Serves.Imp C N) (s1 : ref01_Has.Spec C N) : ref05_Serves.Spec C N := by
  intro l w h Q hq
  apply i
  simp +contextual -dsimp
  refine B.gdb_call (fun _ _ hq => s1 _ _ _ _ _ hq) ?_
  simp +contextual -dsimp
  exact dn_same hq
def mayBe (L : List Lot) (W : List Want) : Bool := decide (L.length ≤ 300) && decide (W.length ≤ 20000) && L.all lotRight && decide ((L.map Lot.Id).Nodup) && W.all wantRight
def flow_together.Spec (C : CSem) (N : Nat → Nat) : Prop := ∀ (x y : AVal) (L : List Lot) (W : List Want) (R S : List (List AVal)) (h : AHeap) (Q : AVal → AHeap → Prop), SlX h 6 x (L.map Lot.cs) R → SlX h 3 y (W.map Want.cs) S → L.length < 4611686018427387904 → W.length < 4611686018427387904 →
  Q (.bool (mayBe L W)) h → C (N 239) [x, y] h Q
theorem setLot6 (l : Lot) : V.setN 0 6 (.agg l.cs) (.agg [.int .i64 0, .str [], .int .i64 0, .int .i64 0, .int .i64 0, .bool false]) = some (.agg l.cs) := by simp
theorem getLot6 (l : Lot) : V.fieldN 0 6 (.agg l.cs) = some (.agg l.cs) := by simp
theorem lotId (l : Lot) : V.field1 0 (.agg l.cs) = some (.int .i64 l.Id) := by simp
theorem flow_together.spec (i : flow_together.Imp C N) (s1 : lot_Right.Spec C N) (s2 : slices_ContainsFunc_api_Want_api_Want.Spec C N) (s3 : flow_together_1.Spec C N) : flow_together.Spec C N := by
  intro x y L W R S h Q hx hy hlen hlen2 hq
  apply i
  have e1 := hx.lenSl
  have e2 := hy.lenSl
  rw [List.length_map] at e1 e2
  have e : ∀ b h', mayBe L W = b → h.le h' → dn Q (.bool b) h' := fun b h' hb hle => by rw [← hb]; exact dn_le hle hq
  simp +contextual -dsimp [e1, e2]
  refine B.cond_bool (fun hb => ?_) (fun hb => ?_)
  · refine e _ _ ?_ (AHeap.le_refl h)
    simp at hb
    unfold mayBe
    rcases hb with hb | hb
    · have : decide (L.length ≤ 300) = false := by rw [decide_eq_false_iff_not]; omega
      rw [this]; rfl
    · have : decide (W.length ≤ 20000) = false := by rw [decide_eq_false_iff_not]; omega
      rw [this]; simp
  have hl1 : L.length ≤ 300 ∧ W.length ≤ 20000 := by simp at hb; omega
  refine (Owns.start h).newMap (K := Int) (T := Bool) (fun n => .int .i64 n) (fun b => .bool b) fun id h1 _ o1 _ => ?_
  simp only [List.nil_append] at o1
  simp -dsimp only [e1, B.pv_some]
  refine LoopR.intro (fun t vs hh => ∃ (k : Nat) (ps : Ents Int Bool) (c : Nat), k + t = L.length ∧ vs = [.int .i64 (k : Int)] ∧ Owns h hh [.blk id (mapBlk (encM (fun n => .int .i64 n) (fun b => .bool b) ps) c)] ∧
    (∀ n, getP ps n = if n ∈ (L.take k).map Lot.Id then some true else none) ∧ (L.take k).all lotRight = true ∧ ((L.take k).map Lot.Id).Nodup) L.length ?_ ⟨0, [], 0, by omega, rfl, o1, fun n => by simp [getP], by simp, by simp⟩
  rintro Y t vs hh ⟨k, ps, c, ht, rfl, o, hp, hr, hn⟩ hY
  simp -dsimp only [flow_together.l2, flow_together.k1, lssN, B.pv_some]
  have hxx := hx.mono o.le
  refine B.cond_bool (fun hb => ?_) (fun hb => ?_) <;> simp only [decide_eq_true_eq, decide_eq_false_iff_not] at hb
  · have hg : (L.map Lot.cs)[k]? = some (L[k]).cs := by rw [List.getElem?_map, List.getElem?_eq_getElem hb]; rfl
    have hidx : V.idxS 6 x (.int .i64 (k : Int)) = some (elp 6 x k 0) := hxx.idxN (by simpa using hb)
    have hlk := o.lkp 0 rfl keyI false L[k].Id
    simp -dsimp only [hidx, B.ldn_eq, hxx.elem hg, setLot6, getLot6, B.pv_some]
    refine s1 _ _ _ ?_
    simp -dsimp only [V.un_not, B.pv_some, B.gd_f, B.gdb_pure, lotId, B.al_agg]
    have nodupk : ∀ (hc : L[k].Id ∉ (L.take k).map Lot.Id), ((L.take (k + 1)).map Lot.Id).Nodup := fun hc => by
      rw [take_one hb, List.map_append, List.nodup_append]
      exact ⟨hn, List.pairwise_singleton _ _, fun a ha b hb' e => hc (by simp at hb'; rw [← hb', ← e]; exact ha)⟩
    cases hrt : lotRight L[k] with
    | false =>
      simp -dsimp
      refine e _ _ ?_ o.le
      have : L.all lotRight = false := by
        rw [List.all_eq_false]
        exact ⟨_, List.getElem_mem hb, by simp [hrt]⟩
      unfold mayBe
      rw [this]; simp
    | true =>
      by_cases hc : L[k].Id ∈ (L.take k).map Lot.Id
      · have hcc : ∃ a, a ∈ L.take k ∧ a.Id = L[k].Id := by obtain ⟨a, h1, h2⟩ := List.mem_map.1 hc; exact ⟨a, h1, h2⟩
        have hg2 : getP ps L[k].Id = some true := by rw [hp, if_pos hc]
        simp -dsimp [hlk, hg2]
        refine e _ _ ?_ o.le
        have : decide ((L.map Lot.Id).Nodup) = false := by
          rw [decide_eq_false_iff_not]
          intro hnd
          have h2 := nodup_inj hnd (i := k) (j := k)
          obtain ⟨a, ha, hae⟩ := hcc
          obtain ⟨j, hj, rfl⟩ := List.getElem_of_mem ha
          rw [List.length_take] at hj
          rw [List.getElem_take] at hae
          have := nodup_inj hnd (i := j) (j := k) (by simp; omega) (by simpa using hb) (by simpa using hae)
          omega
        unfold mayBe
        rw [this]; simp
      · have hg2 : getP ps L[k].Id = none := by rw [hp, if_neg hc]
        simp -dsimp [hlk, hg2]
        refine o.mset 0 rfl keyI L[k].Id true fun h2 o2 _ _ => ?_
        simp -dsimp [inc64 (n := k) (by omega)]
        refine hY (L.length - (k + 1)) _ _ (by omega) ⟨k + 1, _, _, by omega, by simp, o2, fun n => ?_, ?_, nodupk hc⟩
        · rw [getP_put, hp, take_one hb, List.map_append]
          by_cases hnk : n = L[k].Id
          · subst hnk; rw [if_pos rfl, if_pos (by simp)]
          · rw [if_neg hnk]
            simp [hnk]
        · rw [take_one hb, List.all_append, hr]; simp [hrt]
  · rw [List.take_of_length_le (by omega)] at hr hn
    refine s2 _ _ (fun w => !wantRight w) _ _ _ _ (hy.mono o.le) hlen2 (fun w h' K hh hk => ?_) ?_
    · simp -dsimp
      exact s3 _ _ _ hk
    simp -dsimp only [V.un_not, B.pv_some]
    refine e _ _ ?_ o.le
    unfold mayBe
    rw [hr, decide_eq_true hl1.1, decide_eq_true hl1.2, decide_eq_true hn]
    simp [List.any_eq_not_all_not]
def ref05_May.Spec (C : CSem) (N : Nat → Nat) : Prop := ∀ (x y : AVal) (L : List Lot) (W : List Want) (R S : List (List AVal)) (h : AHeap) (Q : AVal → AHeap → Prop), SlX h 6 x (L.map Lot.cs) R → SlX h 3 y (W.map Want.cs) S → L.length < 4611686018427387904 → W.length < 4611686018427387904 →
  Q (.bool (mayBe L W)) h → C (N 234) [x, y] h Q
theorem ref05_May.spec (i : ref05_May.Imp C N) (s1 : ref04_Right.Spec C N) (s2 : ref05_Right.Spec C N) : ref05_May.Spec C N := by
  intro x y L W R S h Q hx hy hlen hlen2 hq
  apply i
  have e1 := hx.lenSl
  have e2 := hy.lenSl
  rw [List.length_map] at e1 e2
  have e : ∀ b, mayBe L W = b → dn Q (.bool b) h := fun b hb => by rw [← hb]; exact dn_same hq
  simp +contextual -dsimp [e1, e2]
  refine B.cond_bool (fun hb => ?_) (fun hb => ?_)
  · refine e _ ?_
    simp at hb
    unfold mayBe
    rcases hb with hb | hb
    · have : decide (L.length ≤ 300) = false := by rw [decide_eq_false_iff_not]; omega
      rw [this]; rfl
    · have : decide (W.length ≤ 20000) = false := by rw [decide_eq_false_iff_not]; omega
      rw [this]; simp
  have hl1 : L.length ≤ 300 ∧ W.length ≤ 20000 := by simp at hb; omega
  have gx : ∀ {k : Nat} (hk : k < L.length), (L.map Lot.cs)[k]? = some (L[k]).cs := fun hk => by rw [List.getElem?_map, List.getElem?_eq_getElem hk]; rfl
  have ix : ∀ {k : Nat} (hk : k < L.length), V.idxS 6 x (.int .i64 (k : Int)) = some (elp 6 x k 0) := fun hk => hx.idxN (by simpa using hk)
  have fx : ∀ {k : Nat} (hk : k < L.length), V.fieldAddr 0 (elp 6 x k 0) = some (elp 6 x k 0) := fun {k} hk => by have := hx.fieldA (i := k) (by simpa using hk) 0 0; simpa using this
  have lx : ∀ {k : Nat} (hk : k < L.length), A.ldv h (elp 6 x k 0) = some (.int .i64 L[k].Id) := fun {k} hk => by have := hx.ldv (i := k) (f := 0) (gx hk) (by omega); simpa using this
  refine LoopR.intro (fun t vs hh => hh = h ∧ ∃ k : Nat, k + t = L.length ∧ vs = [.int .i64 (k : Int)] ∧ (L.take k).all lotRight = true ∧ ((L.take k).map Lot.Id).Nodup) L.length ?_ ⟨rfl, 0, by omega, rfl, by simp, by simp⟩
  rintro Y t vs hh ⟨rfl, k, ht, rfl, hr, hn⟩ hY
  simp -dsimp only [ref05_May.l7, ref05_May.k6, e1, lssN, B.pv_some]
  refine B.cond_bool (fun hb => ?_) (fun hb => ?_) <;> simp only [decide_eq_true_eq, decide_eq_false_iff_not] at hb
  · simp -dsimp only [ref05_May.k5, ix hb, B.ldn_eq, hx.elem (gx hb), B.pv_some]
    refine s1 _ _ _ ?_
    cases hrt : lotRight L[k] with
    | false =>
      simp -dsimp
      refine e _ ?_
      have : L.all lotRight = false := by
        rw [List.all_eq_false]
        exact ⟨_, List.getElem_mem hb, by simp [hrt]⟩
      unfold mayBe
      rw [this]; simp
    | true =>
      simp -dsimp only [V.un_not, Bool.not_true, B.cond_false, B.pv_some]
      refine LoopR.intro (fun t vs h2 => h2 = hh ∧ ∃ j : Nat, j + t = k ∧ vs = [.int .i64 (j : Int)] ∧ ∀ i (hi : i < L.length), i < j → L[i].Id ≠ L[k].Id) k ?_ ⟨rfl, 0, by omega, rfl, fun i hi h => by omega⟩
      rintro Z t vs h2 ⟨rfl, j, hj, rfl, hv⟩ hZ
      simp -dsimp only [ref05_May.l4, ref05_May.k3, lssN, B.pv_some]
      refine B.cond_bool (fun hc => ?_) (fun hc => ?_) <;> simp only [decide_eq_true_eq, decide_eq_false_iff_not] at hc
      · have hjL : j < L.length := by omega
        simp -dsimp only [ix hb, fx hb, lx hb, ix hjL, fx hjL, lx hjL, B.ld_eq, V.bin_eql, B.pv_some]
        refine B.cond_bool (fun hd => ?_) (fun hd => ?_) <;> simp only [decide_eq_true_eq, decide_eq_false_iff_not] at hd
        · refine e _ ?_
          have : decide ((L.map Lot.Id).Nodup) = false := by
            rw [decide_eq_false_iff_not]
            intro hnd
            have := nodup_inj hnd (i := j) (j := k) (by simpa using hjL) (by simpa using hb) (by simpa using hd)
            omega
          unfold mayBe
          rw [this]; simp
        simp -dsimp only [add1 (show j < 4611686018427387904 by omega), B.pv_some]
        refine hZ (k - (j + 1)) _ _ (by omega) ⟨rfl, j + 1, by omega, rfl, fun i hi hij => ?_⟩
        by_cases e : i = j
        · subst e; exact hd
        · exact hv i hi (by omega)
      · simp -dsimp only [add1 (show k < 4611686018427387904 by omega), B.pv_some]
        refine hY (L.length - (k + 1)) _ _ (by omega) ⟨rfl, k + 1, by omega, rfl, ?_, ?_⟩
        · rw [take_one hb, List.all_append, hr]; simp [hrt]
        · rw [take_one hb, List.map_append, List.nodup_append]
          refine ⟨hn, List.pairwise_singleton _ _, fun a ha b hb' e => ?_⟩
          simp at hb'
          obtain ⟨q, hq1, hq2⟩ := List.mem_map.1 ha
          obtain ⟨i, hi, rfl⟩ := List.getElem_of_mem hq1
          rw [List.length_take] at hi
          rw [List.getElem_take] at hq2
          exact hv i (by omega) (by omega) (by rw [hq2, e, hb'])
  · rw [List.take_of_length_le (by omega)] at hr hn
    clear hY ht hb k t Y
    refine LoopR.intro (fun t vs h2 => h2 = hh ∧ ∃ k : Nat, k + t = W.length ∧ vs = [.int .i64 (k : Int)] ∧ (W.take k).all wantRight = true) W.length ?_ ⟨rfl, 0, by omega, rfl, by simp⟩
    rintro Y t vs h2 ⟨rfl, k, ht, rfl, hw⟩ hY
    simp -dsimp only [ref05_May.l2, ref05_May.k1, e2, lssN, B.pv_some]
    refine B.cond_bool (fun hb => ?_) (fun hb => ?_) <;> simp only [decide_eq_true_eq, decide_eq_false_iff_not] at hb
    · have hg : (W.map Want.cs)[k]? = some (W[k]).cs := by rw [List.getElem?_map, List.getElem?_eq_getElem hb]; rfl
      have hidx : V.idxS 3 y (.int .i64 (k : Int)) = some (elp 3 y k 0) := hy.idxN (by simpa using hb)
      simp -dsimp only [hidx, B.ldn_eq, hy.elem hg, B.pv_some]
      refine s2 _ _ _ ?_
      cases hrt : wantRight W[k] with
      | false =>
        simp -dsimp
        refine e _ ?_
        have : W.all wantRight = false := by
          rw [List.all_eq_false]
          exact ⟨_, List.getElem_mem hb, by simp [hrt]⟩
        unfold mayBe
        rw [this]; simp
      | true =>
        simp -dsimp only [V.un_not, Bool.not_true, B.cond_false, B.pv_some, add1 (show k < 4611686018427387904 by omega)]
        refine hY (W.length - (k + 1)) _ _ (by omega) ⟨rfl, k + 1, by omega, rfl, ?_⟩
        rw [take_one hb, List.all_append, hw]; simp [hrt]
    · rw [List.take_of_length_le (by omega)] at hw
      refine e _ ?_
      unfold mayBe
      rw [hr, hw, decide_eq_true hl1.1, decide_eq_true hl1.2, decide_eq_true hn]; rfl
end Go.Ab

/- What is proved: how wants are filled, one by one: plain definitions and facts. No program in sight. No conditions. -/
set_option linter.unusedVariables false
set_option linter.unusedSimpArgs false
namespace Go.Ab
/-- What is left of lots, by their numbers. -/
abbrev Lf := Int → Int
structure FS5 where
  left : Lf
  need : Int
  out : List Use
def takeOf (s : FS5) (l : Lot) : Int := min s.need (s.left l.Id)
def stepU (i : Int) (w : Want) (s : FS5) (l : Lot) : FS5 :=
  if takeOf s l = 0 ∨ Window.has ⟨l.From, l.Until⟩ w.Day = false then s
  else ⟨fun n => if n = l.Id then s.left l.Id - takeOf s l else s.left n, s.need - takeOf s l, s.out ++ [⟨i, l.Id, takeOf s l⟩]⟩
/-- The lots of a want's item, in order. -/
def rowOf (L : List Lot) (w : Want) : List Lot := (sortLots L).filter fun l => decide (l.Item = w.Item)
def fillOne (L : List Lot) (i : Int) (w : Want) (left : Lf) (out : List Use) : FS5 := (rowOf L w).foldl (stepU i w) ⟨left, w.Qty, out⟩
def fillAll (L : List Lot) (W : List Want) : List (Fin W.length) → Lf → List Use → Option (List Use × Lf)
  | [], left, out => some (out, left)
  | p :: ps, left, out => if 0 < (fillOne L (p.val : Int) W[p] left out).need then none else fillAll L W ps (fillOne L (p.val : Int) W[p] left out).left (fillOne L (p.val : Int) W[p] left out).out
def dayC (W : List Want) (a b : Fin W.length) : Int := W[a].Day - W[b].Day
def dayOrder (W : List Want) : List (Fin W.length) := sortB (dayC W) (List.finRange W.length)
def left0 (L : List Lot) : Lf := fun i => match L.find? (fun l => decide (l.Id = i)) with | some l => l.Qty | none => 0
def greedy (L : List Lot) (W : List Want) : Option (List Use × Lf) := bif mayBe L W then fillAll L W (dayOrder W) (left0 L) [] else none
theorem dayC_neg (W : List Want) (a b : Fin W.length) : lessC (dayC W) a b = true ↔ W[a].Day < W[b].Day := by
  unfold lessC dayC
  rw [decide_eq_true_eq]
  omega
theorem dayC_nn (W : List Want) (a b : Fin W.length) : lessC (dayC W) a b = false ↔ W[b].Day ≤ W[a].Day := by
  unfold lessC dayC
  rw [decide_eq_false_iff_not]
  omega
theorem dayW (W : List Want) : Weak (lessC (dayC W)) where
  asym {a b} h := by rw [dayC_neg] at h; rw [dayC_nn]; omega
  ntrans {a b c} h k := by rw [dayC_nn] at *; omega
/-- One want stands ahead of another. -/
def before (W : List Want) (a b : Fin W.length) : Prop := W[a].Day < W[b].Day ∨ (W[a].Day = W[b].Day ∧ a.val < b.val)
theorem finRange_zipIdx (n : Nat) : ∀ p ∈ (List.finRange n).zipIdx, p.1.val = p.2 := fun p hp => by
  obtain ⟨i, hi, e⟩ := List.getElem_of_mem hp
  rw [List.getElem_zipIdx] at e
  rw [← e]
  simp
theorem dayOrder_up (W : List Want) : (dayOrder W).Pairwise (before W) := by
  obtain ⟨G, h1, h2, h3⟩ := sortB_stable (dayW W) (List.finRange W.length)
  unfold dayOrder
  rw [← h1, List.pairwise_map]
  refine h3.imp_of_mem fun {a b} ha hb h => ?_
  have ea := finRange_zipIdx _ a (h2.mem_iff.1 ha)
  have eb := finRange_zipIdx _ b (h2.mem_iff.1 hb)
  simp only [lt', dayC_neg, dayC_nn] at h
  unfold before
  omega
theorem dayOrder_perm (W : List Want) : (dayOrder W).Perm (List.finRange W.length) := (sortB_stable (dayW W) _).perm
theorem dayOrder_mem (W : List Want) (i : Fin W.length) : i ∈ dayOrder W := (dayOrder_perm W).mem_iff.2 (List.mem_finRange i)
theorem dayOrder_len (W : List Want) : (dayOrder W).length = W.length := by rw [(dayOrder_perm W).length_eq, List.length_finRange]
theorem before_irr (W : List Want) (a : Fin W.length) : ¬ before W a a := by unfold before; omega
theorem dayOrder_nodup (W : List Want) : (dayOrder W).Nodup := (dayOrder_up W).imp fun {a b} h e => by subst e; exact before_irr W _ h

/-! Nothing goes below nothing. -/
def LfOk (left : Lf) : Prop := ∀ i, 0 ≤ left i
structure FSOk (s : FS5) : Prop where
  left : LfOk s.left
  need : 0 ≤ s.need
theorem takeOf_nn {s : FS5} (h : FSOk s) (l : Lot) : 0 ≤ takeOf s l ∧ takeOf s l ≤ s.need ∧ takeOf s l ≤ s.left l.Id := by
  have := h.left l.Id; have := h.need
  unfold takeOf; omega
theorem stepU_ok {s : FS5} (h : FSOk s) (i : Int) (w : Want) (l : Lot) : FSOk (stepU i w s l) := by
  unfold stepU
  have := takeOf_nn h l
  split
  · exact h
  · refine ⟨fun n => ?_, by simp only; omega⟩
    simp only
    split
    · omega
    · exact h.left n
theorem foldU_ok {i : Int} {w : Want} : ∀ (S : List Lot) {s : FS5}, FSOk s → FSOk (S.foldl (stepU i w) s)
  | [], _, h => h
  | l :: S, _, h => foldU_ok S (stepU_ok h i w l)
/-- Has a lot something for a want? -/
def avail (w : Want) (s : FS5) (l : Lot) : Prop := 0 < s.left l.Id ∧ Window.has ⟨l.From, l.Until⟩ w.Day = true
theorem stepU_no {s : FS5} (h : FSOk s) {i : Int} {w : Want} {l : Lot} (hn : s.need = 0 ∨ ¬ avail w s l) : stepU i w s l = s := by
  unfold stepU
  rw [if_pos]
  have := takeOf_nn h l
  rcases hn with hn | hn
  · left; omega
  · unfold avail at hn
    by_cases h0 : 0 < s.left l.Id
    · right
      cases hh : Window.has ⟨l.From, l.Until⟩ w.Day
      · rfl
      · exact absurd ⟨h0, hh⟩ hn
    · left; omega
theorem foldU_no {i : Int} {w : Want} : ∀ (S : List Lot) {s : FS5}, FSOk s → (s.need = 0 ∨ ∀ l ∈ S, ¬ avail w s l) → S.foldl (stepU i w) s = s
  | [], _, _, _ => rfl
  | l :: S, s, h, hn => by
    have e : stepU i w s l = s := stepU_no h (hn.imp id fun k => k l (by simp))
    rw [List.foldl_cons, e]
    exact foldU_no S h (hn.imp id fun k l' hl => k l' (by simp [hl]))
/-- The first that has something is taken of: then it's as if one began anew. -/
theorem foldU_pick {i : Int} {w : Want} {A B : List Lot} {l : Lot} {s : FS5} (h : FSOk s) (ha : ∀ a ∈ A, ¬ avail w s a) (hl : avail w s l) (hneed : 0 < s.need) (hid : ∀ a ∈ A, a.Id ≠ l.Id) :
    (A ++ l :: B).foldl (stepU i w) s = (A ++ l :: B).foldl (stepU i w) (stepU i w s l) := by
  have h1 : A.foldl (stepU i w) s = s := foldU_no A h (.inr ha)
  have hok := stepU_ok h i w l
  have tk := takeOf_nn h l
  have tpos : 0 < takeOf s l := by have := hl.1; unfold takeOf; omega
  have est : stepU i w s l = ⟨fun n => if n = l.Id then s.left l.Id - takeOf s l else s.left n, s.need - takeOf s l, s.out ++ [⟨i, l.Id, takeOf s l⟩]⟩ := by
    unfold stepU; rw [if_neg]; intro hc
    rcases hc with hc | hc
    · omega
    · rw [hl.2] at hc; cases hc
  have h2 : A.foldl (stepU i w) (stepU i w s l) = stepU i w s l := by
    refine foldU_no A hok (.inr fun a hA hav => ha a hA ⟨?_, hav.2⟩)
    have := hav.1
    rw [est] at this
    simp only [if_neg (hid a hA)] at this
    exact this
  have h3 : stepU i w (stepU i w s l) l = stepU i w s l := by
    refine stepU_no hok ?_
    rw [est]
    by_cases hz : s.need - takeOf s l = 0
    · left; exact hz
    · right; intro hav
      have := hav.1
      simp only [if_true] at this
      unfold takeOf at this hz; omega
  rw [List.foldl_append, List.foldl_append, h1, h2, List.foldl_cons, List.foldl_cons, h3]
theorem mayBe_facts {L : List Lot} {W : List Want} (h : mayBe L W = true) : L.length ≤ 300 ∧ W.length ≤ 20000 ∧ (∀ l ∈ L, lotRight l = true) ∧ (L.map Lot.Id).Nodup ∧ ∀ w ∈ W, wantRight w = true := by
  simp only [mayBe, Bool.and_eq_true, decide_eq_true_eq, List.all_eq_true] at h
  exact ⟨h.1.1.1.1, h.1.1.1.2, h.1.1.2, h.1.2, h.2⟩
theorem id_inj {L : List Lot} (h : (L.map Lot.Id).Nodup) {a b : Lot} (ha : a ∈ L) (hb : b ∈ L) (e : a.Id = b.Id) : a = b := by
  obtain ⟨i, hi, rfl⟩ := List.getElem_of_mem ha
  obtain ⟨j, hj, rfl⟩ := List.getElem_of_mem hb
  have := nodup_inj h (i := i) (j := j) (by simpa using hi) (by simpa using hj) (by simpa using e)
  subst this; rfl
theorem left0_of {L : List Lot} (h : (L.map Lot.Id).Nodup) {l : Lot} (hl : l ∈ L) : left0 L l.Id = l.Qty := by
  unfold left0
  cases hf : L.find? (fun a => decide (a.Id = l.Id)) with
  | none => rw [List.find?_eq_none] at hf; have := hf l hl; simp at this
  | some a =>
    have h1 := List.find?_some hf
    have h2 := List.mem_of_find?_eq_some hf
    simp only [decide_eq_true_eq] at h1
    rw [id_inj h h2 hl h1]
theorem lotRight_facts {l : Lot} (h : lotRight l = true) : 0 < l.Id ∧ 0 < l.Qty ∧ l.Qty ≤ 1073741824 ∧ codeRight l.Item = true ∧ Window.right ⟨l.From, l.Until⟩ = true ∧ l.From < l.Until := by
  simp [lotRight] at h
  exact ⟨h.1.1.1.1.1, h.1.2, h.2, h.1.1.1.1.2, h.1.1.1.2, h.1.1.2⟩
theorem wantRight_facts {w : Want} (h : wantRight w = true) : codeRight w.Item = true ∧ 0 ≤ w.Day ∧ w.Day ≤ 4000 ∧ 1 ≤ w.Qty ∧ w.Qty ≤ 1125899906842624 := by
  simp [wantRight] at h
  exact ⟨h.1.1.1.1, h.1.1.1.2, h.1.1.2, h.1.2, h.2⟩
theorem left0_ok {L : List Lot} (h : ∀ l ∈ L, lotRight l = true) : LfOk (left0 L) := fun i => by
  unfold left0
  cases hf : L.find? (fun a => decide (a.Id = i)) with
  | none => exact Int.le_refl _
  | some a => have := lotRight_facts (h a (List.mem_of_find?_eq_some hf)); simp only; omega
end Go.Ab

/- What is proved: contracts: wants in the order of their days. No conditions. -/
set_option linter.unusedVariables false
set_option linter.unusedSimpArgs false
namespace Go.Ab
variable {C : CSem} {N : Nat → Nat}
abbrev fc {n : Nat} (i : Fin n) : List AVal := [.int .i64 (i.val : Int)]
def slices_SortStableFunc_int_int.Spec (C : CSem) (N : Nat → Nat) : Prop := ∀ (n : Nat) (h0 h : AHeap) (x f : AVal) (c : Fin n → Fin n → Int) (L : List (Fin n)) (R : List (List AVal)) (Q : AVal → AHeap → Prop), Weak (lessC c) → CmpSpec C (fun i : Fin n => .int .i64 (i.val : Int)) c f h0 → L.length ≤ 100000000 →
  Owns h0 h [.sl 1 x (L.map fc) R] → (∀ h', Owns h0 h' [.sl 1 x ((sortB c L).map fc) R] → Q (.tup []) h') → C (N 246) [x, f] h Q
theorem slices_SortStableFunc_int_int.spec (i : slices_SortStableFunc_int_int.Imp C N) (i1 : slices_symMergeCmpFunc_int.Imp C N) (i2 : slices_rotateCmpFunc_int.Imp C N) (i3 : slices_swapRangeCmpFunc_int.Imp C N) (i4 : slices_insertionSortCmpFunc_int.Imp C N) (i5 : slices_stableCmpFunc_int.Imp C N) :
    slices_SortStableFunc_int_int.Spec C N := by
  intro n h0 h x f c L R Q W hc hlen ho hq
  have S : SeqSpec (opsS 8 (.int .i64 0) 0) (fun i : Fin n => [AVal.int .i64 (i.val : Int)]) (fun i => .int .i64 (i.val : Int)) := seqS (by omega) fun _ => rfl
  refine i _ _ _ _ (sortStable_spec S W (f1 := N 249) (f2 := N 251) (f3 := N 252) (f4 := N 250) ⟨i1, i2, i3, i4, i5⟩ hc hlen ho fun h' L' st o => dn_same (hq h' ?_))
  rw [← stable_sortB W st]; exact o
def flow_days_1.Spec (C : CSem) (N : Nat → Nat) : Prop := ∀ (q y : AVal) (W : List Want) (S : List (List AVal)) (a b : Fin W.length) (h : AHeap) (Q : AVal → AHeap → Prop), A.ldv h q = some y → SlX h 3 y (W.map Want.cs) S → (∀ w ∈ W, wantRight w = true) →
  Q (.int .i64 (dayC W a b)) h → C (N 245) [.int .i64 (a.val : Int), .int .i64 (b.val : Int), q] h Q
theorem flow_days_1.spec (i : flow_days_1.Imp C N) : flow_days_1.Spec C N := by
  intro q y W S a b h Q hl hy hw hq
  apply i
  have gx : ∀ i : Fin W.length, (W.map Want.cs)[i.val]? = some (W[i]).cs := fun i => by rw [List.getElem?_map, List.getElem?_eq_getElem i.2]; rfl
  have ix : ∀ i : Fin W.length, V.idxS 3 y (.int .i64 (i.val : Int)) = some (elp 3 y i.val 0) := fun i => hy.idxN (by simp)
  have fx : ∀ i : Fin W.length, V.fieldAddr 1 (elp 3 y i.val 0) = some (elp 3 y i.val 1) := fun i => by have := hy.fieldA (i := i.val) (by simp) 0 1; simpa using this
  have lx : ∀ i : Fin W.length, A.ldv h (elp 3 y i.val 1) = some (.int .i64 W[i].Day) := fun i => by have := hy.ldv (i := i.val) (f := 1) (gx i) (by omega); simpa using this
  have ra := wantRight_facts (hw W[a] (List.getElem_mem a.2))
  have rb := wantRight_facts (hw W[b] (List.getElem_mem b.2))
  simp -dsimp only [flow_days_1.cps, flow_days_1.k1, B.ld_eq, hl, ix, fx, lx, V.bin_sub, B.pv_some]
  rw [wrap_i64 (by omega) (by omega)]
  exact dn_same hq
def flow_days.Spec (C : CSem) (N : Nat → Nat) : Prop := ∀ (y : AVal) (W : List Want) (S : List (List AVal)) (h : AHeap) (Q : AVal → AHeap → Prop), SlX h 3 y (W.map Want.cs) S → W.length ≤ 20000 → (∀ w ∈ W, wantRight w = true) →
  (∀ z h', Owns h h' [.sl 1 z ((dayOrder W).map fc) []] → Q z h') → C (N 240) [y] h Q
theorem fills_fin (n : Nat) : (fills n fun j => [AVal.int .i64 (j : Int)]) = (List.finRange n).map fc := by
  apply List.ext_getElem?
  intro i
  by_cases hi : i < n
  · rw [fills_get _ hi, List.getElem?_map, List.getElem?_eq_getElem (by simpa using hi)]; simp [fc]
  · rw [List.getElem?_eq_none (by simp; omega), List.getElem?_eq_none (by simp; omega)]
theorem flow_days.spec (i : flow_days.Imp C N) (s1 : slices_SortStableFunc_int_int.Spec C N) (s2 : flow_days_1.Spec C N) : flow_days.Spec C N := by
  intro y W S h Q hy hlen hw hq
  apply i
  have hc := hy.isCell
  have e1 := hy.lenSl
  rw [List.length_map] at e1
  simp -dsimp only [flow_days.cps, cells1_eq, hc, cond_true]
  intro id hid
  have hle := le_upd (blkOf [y]) hid
  have ld : A.ldv (upd h id (blkOf [y])) (.ptr id 0 0) = some y := by rw [ldv_at (upd_same ..)]; rfl
  simp -dsimp only [flow_days.k3, B.ld_eq, ld, e1, B.pv_some]
  refine ⟨by omega, ?_⟩
  refine (Owns.start _).mks (bytes := 8) (es := 1) rfl (by omega) (by omega) (by omega) (by omega) fun z h1 o1 => ?_
  have e2 := (o1.slAt 0 rfl).lenSl
  rw [fills_len] at e2
  have e3 : (W.length : Int).toNat = W.length := by omega
  rw [e3] at e2
  simp only [List.nil_append, e3] at o1
  simp -dsimp only [e2, B.pv_some]
  refine LoopR.intro (fun t vs hh => ∃ k : Nat, k + t = W.length ∧ vs = [.int .i64 (k : Int)] ∧ Owns (upd h id (blkOf [y])) hh [.sl 1 z (fills W.length fun j => [.int .i64 (if j < k then (j : Int) else 0)]) []]) W.length ?_ ⟨0, by omega, rfl, by simpa using o1⟩
  rintro Y t vs hh ⟨k, ht, rfl, o⟩ hY
  simp -dsimp only [flow_days.l2, flow_days.k1, lssN, B.pv_some]
  refine B.cond_bool (fun hb => ?_) (fun hb => ?_) <;> simp only [decide_eq_true_eq, decide_eq_false_iff_not] at hb
  · have hz := o.slAt 0 rfl
    have hidx : V.idxS 1 z (.int .i64 (k : Int)) = some (elp 1 z k 0) := hz.idxN (by simpa using hb)
    simp -dsimp only [hidx, B.pv_some]
    refine o.st 0 rfl (fills_get _ hb) (by omega) rfl fun h2 o2 _ => ?_
    simp -dsimp only [add1 (show k < 4611686018427387904 by omega), B.pv_some]
    refine hY (W.length - (k + 1)) _ _ (by omega) ⟨k + 1, by omega, rfl, ?_⟩
    simp only [List.set_cons_zero, fills_set] at o2
    have e : (fills W.length fun j => if j = k then [AVal.int .i64 (k : Int)] else [.int .i64 (if j < k then (j : Int) else 0)]) = fills W.length fun j => [.int .i64 (if j < k + 1 then (j : Int) else 0)] := fills_congr fun j hj => by
      by_cases e : j = k
      · subst e; simp
      · rw [if_neg e]
        by_cases h2 : j < k
        · rw [if_pos h2, if_pos (by omega)]
        · rw [if_neg h2, if_neg (by omega)]
    rw [e] at o2; exact o2
  · have e : (fills W.length fun j => [AVal.int .i64 (if j < k then (j : Int) else 0)]) = (List.finRange W.length).map fc := by
      rw [← fills_fin]
      exact fills_congr fun j hj => by rw [if_pos (by omega)]
    rw [e] at o
    refine s1 W.length _ _ _ _ (dayC W) _ _ _ (dayW W) ⟨fun h' a b K hh hk => ?_⟩ (by simp; omega) o fun h3 o3 => dn_same (hq z h3 (o3.back hle))
    simp -dsimp
    refine s2 _ y W S a b _ _ ?_ ((hy.mono hle).mono hh) hw hk
    rw [ldv_at (hh _ _ (upd_same ..))]; rfl
end Go.Ab

/- What is proved: contracts of what the statements share about lists of plain things: marks, the same, lent, kept, written over, copied, apart. No conditions. Printed by a program of mine. -/
set_option linter.unusedVariables false
set_option linter.unusedSimpArgs false
set_option maxRecDepth 100000
namespace Go.Ab
variable {C : CSem} {N : Nat → Nat}

@[irreducible] def mark (k i : Int) : Int := IntKind.i64.wrap (IntKind.i64.wrap (1000003 * IntKind.i64.wrap (k + 7)) + i)
def kit_mark.Spec (C : CSem) (N : Nat → Nat) : Prop := ∀ (k i : Int) (h : AHeap) (Q : AVal → AHeap → Prop), Q (.int .i64 (mark k i)) h → C (N 20) [.int .i64 k, .int .i64 i] h Q
theorem kit_mark.spec (i : kit_mark.Imp C N) : kit_mark.Spec C N := by
  intro k j h Q hq
  apply i
  simp +contextual -dsimp
  unfold mark at hq
  exact dn_same hq

/-- A list of lists: x, of n, these xs; what they hold, and behind. -/
structure LL where
  x : AVal
  n : Nat
  xs : Nat → AVal
  D : Nat → List (List AVal)
  R : Nat → List (List AVal)
  W : List (List AVal)
structure LL.ok (t : LL) (h0 : AHeap) : Prop where
  is : SlX h0 1 t.x (fills t.n fun j => [t.xs j]) t.W
  n_le : t.n ≤ 100000000
  len_le : ∀ j, j < t.n → (t.D j).length ≤ 100000000
def markLot (k i : Int) : Lot := ⟨mark k i, [], 0, 0, 0, false⟩
def kit_markLot.Spec (C : CSem) (N : Nat → Nat) : Prop := ∀ (k i : Int) (h : AHeap) (Q : AVal → AHeap → Prop), Q (.agg (markLot k i).cs) h → C (N 77) [.int .i64 k, .int .i64 i] h Q
theorem kit_markLot.spec (i : kit_markLot.Imp C N) (s1 : kit_mark.Spec C N) : kit_markLot.Spec C N := by
  intro k j h Q hq
  apply i
  simp +contextual -dsimp
  refine s1 _ _ _ _ ?_
  simp +contextual -dsimp
  exact dn_same hq
abbrev marksLot : List (List AVal) := marks lotF (markLot 1) 12

def kit_SameLots.Spec (C : CSem) (N : Nat → Nat) : Prop := ∀ (x y : AVal) (L M : List Lot) (R S : List (List AVal)) (h : AHeap) (Q : AVal → AHeap → Prop), SlX h 6 x (L.map Lot.cs) R → SlX h 6 y (M.map Lot.cs) S → L.length < 4611686018427387904 →
  Q (.bool (decide (L = M))) h → C (N 74) [x, y] h Q
theorem kit_SameLots.spec (i : kit_SameLots.Imp C N) : kit_SameLots.Spec C N := fun x y L M R S h Q hx hy hlen hq =>
  i x y h Q (sameG_spec lotF hx hy hlen (dn_same hq))

def kit_LentLots.Spec (C : CSem) (N : Nat → Nat) : Prop := ∀ (x : AVal) (L : List Lot) (R : List (List AVal)) (h : AHeap) (Q : AVal → AHeap → Prop), SlX h 6 x (L.map Lot.cs) R → L.length ≤ 100000000 →
  (∀ x' h', Owns h h' [.sl 6 x' (L.map Lot.cs) marksLot] → Q x' h') → C (N 48) [x] h Q
theorem kit_LentLots.spec (i : kit_LentLots.Imp C N) (s1 : kit_markLot.Spec C N) : kit_LentLots.Spec C N := fun x L R h Q hx hlen hq =>
  i x h Q (lentG_spec lotF (z := [.int .i64 0, .str [], .int .i64 0, .int .i64 0, .int .i64 0, .bool false]) (m := 1) (mk := markLot 1) rfl (by omega) (s1 1) hx hlen fun x' h' ho => dn_same (hq x' h' ho))

def kit_KeptLots.Spec (C : CSem) (N : Nat → Nat) : Prop := ∀ (x y : AVal) (L M : List Lot) (R : List (List AVal)) (h : AHeap) (Q : AVal → AHeap → Prop), SlX h 6 x (L.map Lot.cs) marksLot → SlX h 6 y (M.map Lot.cs) R → L.length ≤ 100000000 →
  Q (.bool (decide (L = M))) h → C (N 54) [x, y] h Q
theorem kit_KeptLots.spec (i : kit_KeptLots.Imp C N) (s1 : kit_markLot.Spec C N) : kit_KeptLots.Spec C N := fun x y L M R h Q hx hy hlen hq =>
  i x y h Q (keptG_spec lotF (m := 1) (mk := markLot 1) (s1 1) hx hy hlen (dn_same hq))

def markWant (k i : Int) : Want := ⟨[], mark k i, 0⟩
def kit_markWant.Spec (C : CSem) (N : Nat → Nat) : Prop := ∀ (k i : Int) (h : AHeap) (Q : AVal → AHeap → Prop), Q (.agg (markWant k i).cs) h → C (N 107) [.int .i64 k, .int .i64 i] h Q
theorem kit_markWant.spec (i : kit_markWant.Imp C N) (s1 : kit_mark.Spec C N) : kit_markWant.Spec C N := by
  intro k j h Q hq
  apply i
  simp +contextual -dsimp
  refine s1 _ _ _ _ ?_
  simp +contextual -dsimp
  exact dn_same hq
abbrev marksWant : List (List AVal) := marks wantF (markWant 1) 12

def kit_LentWants.Spec (C : CSem) (N : Nat → Nat) : Prop := ∀ (x : AVal) (L : List Want) (R : List (List AVal)) (h : AHeap) (Q : AVal → AHeap → Prop), SlX h 3 x (L.map Want.cs) R → L.length ≤ 100000000 →
  (∀ x' h', Owns h h' [.sl 3 x' (L.map Want.cs) marksWant] → Q x' h') → C (N 218) [x] h Q
theorem kit_LentWants.spec (i : kit_LentWants.Imp C N) (s1 : kit_markWant.Spec C N) : kit_LentWants.Spec C N := fun x L R h Q hx hlen hq =>
  i x h Q (lentG_spec wantF (z := [.str [], .int .i64 0, .int .i64 0]) (m := 1) (mk := markWant 1) rfl (by omega) (s1 1) hx hlen fun x' h' ho => dn_same (hq x' h' ho))

def kit_KeptWants.Spec (C : CSem) (N : Nat → Nat) : Prop := ∀ (x y : AVal) (L M : List Want) (R : List (List AVal)) (h : AHeap) (Q : AVal → AHeap → Prop), SlX h 3 x (L.map Want.cs) marksWant → SlX h 3 y (M.map Want.cs) R → L.length ≤ 100000000 →
  Q (.bool (decide (L = M))) h → C (N 223) [x, y] h Q
theorem kit_KeptWants.spec (i : kit_KeptWants.Imp C N) (s1 : kit_markWant.Spec C N) : kit_KeptWants.Spec C N := fun x y L M R h Q hx hy hlen hq =>
  i x y h Q (keptG_spec wantF (m := 1) (mk := markWant 1) (s1 1) hx hy hlen (dn_same hq))

def markUse (k i : Int) : Use := ⟨0, mark k i, 0⟩
abbrev marksUse : List (List AVal) := marks useF (markUse 1) 12

def kit_SameUses.Spec (C : CSem) (N : Nat → Nat) : Prop := ∀ (x y : AVal) (L M : List Use) (R S : List (List AVal)) (h : AHeap) (Q : AVal → AHeap → Prop), SlX h 3 x (L.map Use.cs) R → SlX h 3 y (M.map Use.cs) S → L.length < 4611686018427387904 →
  Q (.bool (decide (L = M))) h → C (N 75) [x, y] h Q
theorem kit_SameUses.spec (i : kit_SameUses.Imp C N) : kit_SameUses.Spec C N := fun x y L M R S h Q hx hy hlen hq =>
  i x y h Q (sameG_spec useF hx hy hlen (dn_same hq))

end Go.Ab

/- What is told: residuals: what each function does in the abstract memory, printed by a program of mine. Definitions alone. -/
set_option linter.unusedVariables false
namespace Go.Ab
end Go.Ab

/- What is proved: contracts of the fourth chapter's statements' functions. No conditions. -/
set_option linter.unusedVariables false
set_option linter.unusedSimpArgs false
namespace Go.Ab
variable {C : CSem} {N : Nat → Nat}
end Go.Ab

/- What is proved: contracts of the fourth chapter's statements' functions: what is sorted. No conditions. -/
set_option linter.unusedVariables false
set_option linter.unusedSimpArgs false
namespace Go.Ab
variable {C : CSem} {N : Nat → Nat}
theorem sortLots_perm (L : List Lot) : (sortLots L).Perm L := (sortB_stable lotW L).perm
theorem sortLots_len (L : List Lot) : (sortLots L).length = L.length := (sortLots_perm L).length_eq
theorem sortLots_up (L : List Lot) : (sortLots L).Pairwise fun a b => lessC lotCmp b a = false := (sortB_stable lotW L).sorted lotW
end Go.Ab

/- What is proved: contract of filling wants. No conditions. -/
set_option linter.unusedVariables false
set_option linter.unusedSimpArgs false
namespace Go.Ab
variable {C : CSem} {N : Nat → Nat}
/-- A group of lots of one item: the item, the slice, the lots. -/
abbrev Gp := List UInt8 × AVal × List Lot
def gOb (g : Gp) : Ob := .sl 6 g.2.1 (g.2.2.map Lot.cs) []
abbrev kI (n : Int) : AVal := .int .i64 n
abbrev kS (s : List UInt8) : AVal := .str s
abbrev vI (n : Int) : AVal := .int .i64 n
abbrev vA (x : AVal) : AVal := x
theorem lotQty (l : Lot) : V.field1 4 (.agg l.cs) = some (.int .i64 l.Qty) := by simp
theorem lotItem (l : Lot) : V.field1 1 (.agg l.cs) = some (.str l.Item) := by simp
theorem lotDays (l : Lot) : V.fieldN 2 2 (.agg l.cs) = some (.agg [.int .i64 l.From, .int .i64 l.Until]) := by simp
theorem setWant (w : Want) : V.setN 0 3 (.agg w.cs) (.agg [.str [], .int .i64 0, .int .i64 0]) = some (.agg w.cs) := by simp
theorem wantQty (w : Want) : V.field1 2 (.agg w.cs) = some (.int .i64 w.Qty) := by simp
theorem wantItem (w : Want) : V.field1 0 (.agg w.cs) = some (.str w.Item) := by simp
theorem wantDay (w : Want) : V.field1 1 (.agg w.cs) = some (.int .i64 w.Day) := by simp
theorem fillLot1 (a : Lot) : fillL [(0, some 6, .agg a.cs)] (repL 1 [.int .i64 0, .str [], .int .i64 0, .int .i64 0, .int .i64 0, .bool false]) = some a.cs := by simp [repL]
theorem fillUse1 (a : Use) : fillL [(0, some 3, .agg a.cs)] (repL 1 [.int .i64 0, .int .i64 0, .int .i64 0]) = some a.cs := by simp [repL]
theorem bldUse (a b c : Int) : A.bld [(0, none, .int .i64 a), (1, none, .int .i64 b), (2, none, .int .i64 c)] [.int .i64 0, .int .i64 0, .int .i64 0] = some (.agg (Use.cs ⟨a, b, c⟩)) := by simp [A.bld]
/-- The groups that stand for the first k lots. -/
structure Groups (S : List Lot) (k : Nat) (psI : Ents (List UInt8) AVal) (G : List Gp) : Prop where
  get : ∀ s, getP psI s = (G.find? fun g => decide (g.1 = s)).map (·.2.1)
  nd : (G.map (·.1)).Nodup
  lots : ∀ g ∈ G, g.2.2 = (S.take k).filter fun l => decide (l.Item = g.1)
  none_ : ∀ s, s ∉ G.map (·.1) → ((S.take k).filter fun l => decide (l.Item = s)) = []
theorem find_set {G : List Gp} (hn : (G.map (·.1)).Nodup) {j : Nat} {g g' : Gp} (hj : G[j]? = some g) (he : g'.1 = g.1) (s : List UInt8) : ((G.set j g').find? fun g => decide (g.1 = s)) = if s = g.1 then some g' else G.find? fun g => decide (g.1 = s) := by
  induction G generalizing j with
  | nil => simp at hj
  | cons a G ih =>
    simp only [List.map_cons, List.nodup_cons] at hn
    cases j with
    | zero =>
      simp at hj; subst hj
      simp only [List.set_cons_zero, List.find?_cons, he]
      by_cases e : s = a.1
      · subst e; simp
      · simp [e, Ne.symm e]
    | succ j =>
      simp at hj
      simp only [List.set_cons_succ, List.find?_cons]
      have hne : a.1 ≠ g.1 := fun e => hn.1 (by rw [e]; exact List.mem_map_of_mem (List.mem_of_getElem? hj))
      rw [ih hn.2 hj]
      by_cases e : a.1 = s
      · subst e; simp [hne]
      · simp [e]
theorem find_at {G : List Gp} (hn : (G.map (·.1)).Nodup) {j : Nat} {g : Gp} (hj : G[j]? = some g) : (G.find? fun x => decide (x.1 = g.1)) = some g := by
  have := find_set hn hj (g' := g) rfl g.1
  rw [if_pos rfl] at this
  rw [← this]
  congr 1
  apply List.ext_getElem?
  intro i
  rw [List.getElem?_set]
  split
  · rename_i e; subst e
    split
    · exact hj
    · rename_i h; exact absurd (List.getElem?_eq_some_iff.1 hj).1 h
  · rfl
theorem Groups.old {S : List Lot} {k : Nat} {psI : Ents (List UInt8) AVal} {G : List Gp} (gr : Groups S k psI G) (hk : k < S.length) {j : Nat} {g : Gp} (hj : G[j]? = some g) (he : g.1 = S[k].Item) (x : AVal) (c : Nat) :
    Groups S (k + 1) (putP psI S[k].Item x c) (G.set j (g.1, x, g.2.2 ++ [S[k]])) where
  get s := by
    rw [getP_put, find_set gr.nd hj (by rfl)]
    by_cases e : s = S[k].Item
    · subst e; rw [if_pos rfl, if_pos he.symm]; rfl
    · rw [if_neg e, if_neg (by rw [he]; exact e)]; exact gr.get s
  nd := by
    have : (G.set j (g.1, x, g.2.2 ++ [S[k]])).map (·.1) = G.map (·.1) := by
      rw [List.map_set]
      apply List.ext_getElem?
      intro i
      rw [List.getElem?_set]
      split
      · rename_i e; subst e
        have := (List.getElem?_eq_some_iff.1 hj).1
        rw [if_pos (by simpa using this), List.getElem?_map, hj]; rfl
      · rfl
    rw [this]; exact gr.nd
  lots q hq := by
    rw [take_one hk, List.filter_append]
    rcases List.mem_or_eq_of_mem_set hq with hq' | rfl
    · rw [← gr.lots q hq']
      by_cases e : S[k].Item = q.1
      · -- the same item: then it is the one that was set
        obtain ⟨i, hi, e2⟩ := List.getElem_of_mem hq
        rw [List.getElem_set] at e2
        split at e2
        · rename_i hji
          subst e2
          have : g ∈ G := List.mem_of_getElem? hj
          have hgl := gr.lots g this
          exfalso
          -- q would hold one more
          have := gr.lots _ hq'
          simp only at this
          rw [hgl] at this
          have hl := congrArg List.length this
          simp at hl
        · rename_i hji
          have hi' : i < G.length := by simpa using hi
          obtain ⟨hj', hjg⟩ := List.getElem?_eq_some_iff.1 hj
          have := nodup_inj gr.nd (i := j) (j := i) (by simpa using hj') (by simpa using hi') (by simp [hjg, e2, he, e])
          exact absurd this hji
      · simp [e]
    · simp only
      rw [gr.lots g (List.mem_of_getElem? hj), he]
      simp
  none_ s hs := by
    have hs' : s ∉ G.map (·.1) := fun hm => hs (by
      obtain ⟨q, hq, rfl⟩ := List.mem_map.1 hm
      obtain ⟨i, hi, rfl⟩ := List.getElem_of_mem hq
      rw [List.mem_map]
      by_cases hij : i = j
      · subst hij
        rw [List.getElem?_eq_getElem hi] at hj; cases hj
        exact ⟨(G[i].1, x, G[i].2.2 ++ [S[k]]), List.mem_iff_getElem?.2 ⟨i, List.getElem?_set_self hi⟩, rfl⟩
      · refine ⟨G[i], ?_, rfl⟩
        rw [List.mem_iff_getElem?]
        exact ⟨i, by rw [List.getElem?_set_ne (Ne.symm hij), List.getElem?_eq_getElem hi]⟩)
    rw [take_one hk, List.filter_append, gr.none_ s hs']
    have : ¬ S[k].Item = s := fun e => hs' (by rw [← e, ← he]; exact List.mem_map_of_mem (List.mem_of_getElem? hj))
    simp [this]
theorem Groups.fresh {S : List Lot} {k : Nat} {psI : Ents (List UInt8) AVal} {G : List Gp} (gr : Groups S k psI G) (hk : k < S.length) (he : S[k].Item ∉ G.map (·.1)) (x : AVal) (c : Nat) :
    Groups S (k + 1) (putP psI S[k].Item x c) (G ++ [(S[k].Item, x, [S[k]])]) where
  get s := by
    rw [getP_put, List.find?_append]
    by_cases e : s = S[k].Item
    · subst e
      have : (G.find? fun g => decide (g.1 = S[k].Item)) = none := by
        rw [List.find?_eq_none]; intro g hg; simp; intro e; exact he (by rw [← e]; exact List.mem_map_of_mem hg)
      rw [if_pos rfl, this]; simp
    · rw [if_neg e, gr.get s]
      simp [Ne.symm e]
  nd := by
    rw [List.map_append, List.nodup_append]
    exact ⟨gr.nd, List.pairwise_singleton _ _, fun a ha b hb e => he (by simp at hb; rw [← hb, ← e]; exact ha)⟩
  lots q hq := by
    rw [take_one hk, List.filter_append]
    rcases List.mem_append.1 hq with hq | hq
    · have : ¬ S[k].Item = q.1 := fun e => he (by rw [e]; exact List.mem_map_of_mem hq)
      rw [← gr.lots q hq]; simp [this]
    · rw [List.mem_singleton.1 hq]
      simp only
      rw [gr.none_ _ he]; simp
  none_ s hs := by
    rw [take_one hk, List.filter_append]
    have h1 : s ∉ G.map (·.1) := fun hm => hs (by rw [List.map_append]; exact List.mem_append_left _ hm)
    have h2 : ¬ S[k].Item = s := fun e => hs (by rw [List.map_append]; simp [e])
    rw [gr.none_ s h1]; simp [h2]

theorem sortLots_nodup {L : List Lot} (h : (L.map Lot.Id).Nodup) : ((sortLots L).map Lot.Id).Nodup := ((sortLots_perm L).map Lot.Id).nodup_iff.2 h
/-- What a map of amounts tells of lots. -/
def Tells (L : List Lot) (ps : Ents Int Int) (left : Lf) : Prop := ∀ l ∈ L, getP ps l.Id = some (left l.Id)
theorem Tells.put {L : List Lot} {ps : Ents Int Int} {left : Lf} (h : Tells L ps left) (n v : Int) (c : Nat) : Tells L (putP ps n v c) (fun i => if i = n then v else left i) := fun l hl => by
  rw [getP_put]
  by_cases e : l.Id = n
  · rw [if_pos e]; simp [e]
  · rw [if_neg e, h l hl]; simp [e]
structure Small (st : FS5) : Prop where
  left : ∀ n, st.left n ≤ 1073741824
  need : st.need ≤ 1125899906842624
theorem stepU_small {s : FS5} (h : FSOk s) (k : Small s) (i : Int) (w : Want) (l : Lot) : Small (stepU i w s l) := by
  have := takeOf_nn h l
  unfold stepU
  split
  · exact k
  · have := k.left l.Id; have := k.need
    refine ⟨fun n => ?_, by simp only; omega⟩
    simp only; split
    · omega
    · exact k.left n
section
variable {h0 h : AHeap} {id : Nat} {L : List Lot} {W : List Want} {Q : AVal → AHeap → Prop} {Y1 : List AVal → AHeap → Prop} {v1 v8 v49 v50 v51 z : AVal} {Rz : List (List AVal)}
/-- One want is filled. -/
theorem fill_in (s1 : window_Has.Spec C N) {S : List Lot} (hz : SlX h0 6 z (S.map Lot.cs) Rz) (hS : ∀ l ∈ S, l ∈ L) (hSl : S.length ≤ 300) {w : Want} {at_ : Nat} {left : Lf} {out : List Use} (hok : FSOk ⟨left, w.Qty, out⟩) (hsm : Small ⟨left, w.Qty, out⟩) {x : AVal} {ps : Ents Int Int} {c : Nat}
    (ho : Owns h0 h [.blk id (mapBlk (encM kI vI ps) c), .sl 3 x (out.map Use.cs) []]) (ht : Tells L ps left) (hout : out.length ≤ 50000000)
    (hk : ∀ h' x' ps' c', Owns h0 h' [.blk id (mapBlk (encM kI vI ps') c'), .sl 3 x' ((S.foldl (stepU at_ w) ⟨left, w.Qty, out⟩).out.map Use.cs) []] → Tells L ps' (S.foldl (stepU at_ w) ⟨left, w.Qty, out⟩).left → (S.foldl (stepU at_ w) ⟨left, w.Qty, out⟩).out.length ≤ out.length + S.length →
      flow_fill.k1 C N Q Y1 v1 (.mp id) v8 x' (.int .i64 (S.foldl (stepU at_ w) ⟨left, w.Qty, out⟩).need) v49 v50 v51 h') :
    LoopR (flow_fill.l3 C N Q Y1 v1 (.mp id) v8 (.int .i64 (at_ : Int)) v49 v50 v51 z (.int .i64 (S.length : Int)) (.agg w.cs)) [x, .int .i64 w.Qty, .int .i64 0] h := by
  refine LoopR.intro (fun t vs hh => ∃ (j : Nat) (x : AVal) (ps : Ents Int Int) (c : Nat) (st : FS5), j + t = S.length ∧ st = (S.take j).foldl (stepU at_ w) ⟨left, w.Qty, out⟩ ∧ vs = [x, .int .i64 st.need, .int .i64 (j : Int)] ∧
    Owns h0 hh [.blk id (mapBlk (encM kI vI ps) c), .sl 3 x (st.out.map Use.cs) []] ∧ Tells L ps st.left ∧ FSOk st ∧ Small st ∧ st.out.length ≤ out.length + j) S.length ?_ ⟨0, x, ps, c, _, by omega, rfl, rfl, ho, ht, hok, hsm, by simp⟩
  rintro Y t vs hh ⟨j, x, ps, c, st, htj, hst, rfl, o, hT, hok, hsm, hol⟩ hY
  simp -dsimp only [flow_fill.l3, flow_fill.k2, lssN, B.pv_some]
  refine B.cond_bool (fun hb => ?_) (fun hb => ?_) <;> simp only [decide_eq_true_eq, decide_eq_false_iff_not] at hb
  · have hzz := hz.mono o.le
    have hg : (S.map Lot.cs)[j]? = some (S[j]).cs := by rw [List.getElem?_map, List.getElem?_eq_getElem hb]; rfl
    have hidx : V.idxS 6 z (.int .i64 (j : Int)) = some (elp 6 z j 0) := hzz.idxN (by simpa using hb)
    have hlk : A.lkp hh (some .i) (some (.int .i64 0)) false (.mp id) (.int .i64 S[j].Id) = some (.int .i64 (st.left S[j].Id)) := by
      have := o.lkp 0 rfl keyI (0 : Int) S[j].Id
      rw [hT _ (hS _ (List.getElem_mem hb))] at this
      exact this
    have tk := takeOf_nn hok S[j]
    have sm1 := hsm.left S[j].Id; have sm2 := hsm.need
    have lk0 := hok.left S[j].Id
    have hnext : (S.take (j + 1)).foldl (stepU at_ w) ⟨left, w.Qty, out⟩ = stepU at_ w st S[j] := by rw [take_one hb, List.foldl_append, ← hst]; rfl
    have fin : ∀ (x' : AVal) (ps' : Ents Int Int) (c' : Nat) (h' : AHeap), Owns h0 h' [.blk id (mapBlk (encM kI vI ps') c'), .sl 3 x' ((stepU at_ w st S[j]).out.map Use.cs) []] → Tells L ps' (stepU at_ w st S[j]).left → (stepU at_ w st S[j]).out.length ≤ out.length + (j + 1) →
        Y [x', .int .i64 (stepU at_ w st S[j]).need, .int .i64 ((j + 1 : Nat) : Int)] h' := fun x' ps' c' h' o' hT' hl' =>
      hY (S.length - (j + 1)) _ _ (by omega) ⟨j + 1, x', ps', c', _, by omega, hnext.symm, rfl, o', hT', stepU_ok hok _ _ _, stepU_small hok hsm _ _ _, hl'⟩
    have hadd := add1 (show j < 4611686018427387904 by omega)
    simp -dsimp only [hidx, B.ldn_eq, hzz.elem hg, setLot6, lotId, B.al_agg, hlk, V.min2_int, V.bin_eql, B.pv_some]
    have hte : min st.need (st.left S[j].Id) = takeOf st S[j] := rfl
    rw [hte]
    by_cases h0 : takeOf st S[j] = 0
    · have hs : stepU at_ w st S[j] = st := by unfold stepU; rw [if_pos (.inl h0)]
      rw [hs] at fin
      simp -dsimp only [h0, decide_true, B.gd_f, Bool.not_true, B.gdb_false, B.pick_t, B.cond_true, hadd, B.pv_some, B.al_agg]
      exact fin x ps c hh o hT (by omega)
    · simp -dsimp only [h0, decide_false, B.gd_f, Bool.not_false, B.gdb_true, lotDays, wantDay, B.pv_some, B.al_agg]
      refine s1 _ _ _ _ _ ?_
      simp -dsimp only [h0, decide_false, V.un_not, B.pv_some, B.gd_f, Bool.not_false, B.gdb_true, B.pick_f]
      refine B.cond_bool (fun hc => ?_) (fun hc => ?_)
      · have hs : stepU at_ w st S[j] = st := by unfold stepU; rw [if_pos (.inr (by simpa using hc))]
        rw [hs] at fin
        simp -dsimp only [hadd, B.pv_some]
        exact fin x ps c hh o hT (by omega)
      · have hs : stepU at_ w st S[j] = ⟨fun n => if n = S[j].Id then st.left S[j].Id - takeOf st S[j] else st.left n, st.need - takeOf st S[j], st.out ++ [⟨at_, S[j].Id, takeOf st S[j]⟩]⟩ := by
          unfold stepU; rw [if_neg]
          intro hcc; rcases hcc with hcc | hcc
          · exact h0 hcc
          · rw [hcc] at hc; cases hc
        rw [hs] at fin
        simp -dsimp only [lotId, hlk, V.bin_sub, B.pv_some, B.al_agg]
        rw [wrap_i64 (n := st.left S[j].Id - takeOf st S[j]) (by omega) (by omega)]
        refine o.mset 0 rfl keyI S[j].Id (st.left S[j].Id - takeOf st S[j]) fun h2 o2 _ _ => ?_
        simp -dsimp only [lotId, bldUse, fillUse1, V.bin_sub, B.pv_some, B.al_agg]
        rw [wrap_i64 (n := st.need - takeOf st S[j]) (by omega) (by omega)]
        simp only [List.set_cons_zero] at o2
        refine o2.push 1 rfl (cs := Use.cs ⟨at_, S[j].Id, takeOf st S[j]⟩) rfl (by omega) (by simp; omega) (by simp [maxLen]; omega) fun x' h3 o3 _ => ?_
        simp -dsimp only [hadd, B.pv_some]
        refine fin x' _ _ h3 (by simpa using o3) (hT.put _ _ _) (by simp; omega)
  · rw [List.take_of_length_le (by omega)] at hst
    subst hst
    exact hk hh x ps c o hT (by omega)
end
end Go.Ab

/- What is proved: contract of filling wants, all together. No conditions. -/
set_option linter.unusedVariables false
set_option linter.unusedSimpArgs false
namespace Go.Ab
variable {C : CSem} {N : Nat → Nat}
theorem getPush {α : Type} {l : List α} (a : α) {n : Nat} (h : n = l.length) : (l ++ [a])[n]? = some a := by subst h; simp
theorem setPush {α : Type} {l : List α} (a b : α) {n : Nat} (h : n = l.length) : (l ++ [a]).set n b = l ++ [b] := by subst h; rw [List.set_append_right _ _ (Nat.le_refl _)]; simp
structure Bnd (left : Lf) : Prop where
  nn : LfOk left
  le : ∀ n, left n ≤ 1073741824
theorem foldU_small {i : Int} {w : Want} : ∀ (S : List Lot) {s : FS5}, FSOk s → Small s → Small (S.foldl (stepU i w) s)
  | [], _, _, h => h
  | l :: S, _, h, k => foldU_small S (stepU_ok h i w l) (stepU_small h k i w l)
theorem fillAll_cons {L : List Lot} {W : List Want} (p : Fin W.length) (ps : List (Fin W.length)) (left : Lf) (out : List Use) : fillAll L W (p :: ps) left out = if 0 < (fillOne L (p.val : Int) W[p] left out).need then none else fillAll L W ps (fillOne L (p.val : Int) W[p] left out).left (fillOne L (p.val : Int) W[p] left out).out := rfl
theorem rowOf_le (L : List Lot) (w : Want) : (rowOf L w).length ≤ L.length := by
  unfold rowOf
  exact Nat.le_trans (List.length_filter_le _ _) (by rw [sortLots_len]; exact Nat.le_refl _)
section
variable {h0 h : AHeap} {id idI : Nat} {L : List Lot} {W : List Want} {Q : AVal → AHeap → Prop} {y z : AVal} {Rw : List (List AVal)}
/-- All wants are filled, one after another. -/
theorem fill_days (s1 : window_Has.Spec C N) (hy : SlX h0 3 y (W.map Want.cs) Rw) (hz : SlX h0 1 z ((dayOrder W).map fc) []) (hL : L.length ≤ 300) (hW : W.length ≤ 20000) (hw : ∀ w ∈ W, wantRight w = true)
    (hit : ∀ s : List UInt8, ∃ x Rx, (∀ h', h0.le h' → A.lkp h' (some .s) (some .nils) false (.mp idI) (.str s) = some x) ∧ SlX h0 6 x (((sortLots L).filter fun l => decide (l.Item = s)).map Lot.cs) Rx)
    {left : Lf} (hb0 : Bnd left) {ps : Ents Int Int} {c : Nat} (ho : Owns h0 h [.blk id (mapBlk (encM kI vI ps) c)]) (ht : Tells L ps left)
    (hno : ∀ h', h0.le h' → fillAll L W (dayOrder W) left [] = none → Q (.tup [.nils, .nilm, .bool false]) h')
    (hyes : ∀ h' us lf x' ps' c', fillAll L W (dayOrder W) left [] = some (us, lf) → Owns h0 h' [.blk id (mapBlk (encM kI vI ps') c'), .sl 3 x' (us.map Use.cs) []] → Tells L ps' lf → Bnd lf → us.length ≤ 6000000 → Q (.tup [x', .mp id, .bool true]) h') :
    LoopR (flow_fill.l7 C N Q y (.mp id) (.mp idI) z (.int .i64 (W.length : Int))) [.nils, .int .i64 0] h := by
  refine LoopR.intro (fun t vs hh => ∃ (k : Nat) (x : AVal) (ps : Ents Int Int) (c : Nat) (lf : Lf) (out : List Use), k + t = W.length ∧ vs = [x, .int .i64 (k : Int)] ∧ Owns h0 hh [.blk id (mapBlk (encM kI vI ps) c), .sl 3 x (out.map Use.cs) []] ∧ Tells L ps lf ∧ Bnd lf ∧ out.length ≤ 300 * k ∧
    fillAll L W ((dayOrder W).drop k) lf out = fillAll L W (dayOrder W) left []) W.length ?_ ⟨0, .nils, ps, c, left, [], by omega, rfl, by simpa using ho.nils 3, ht, hb0, by simp, by simp⟩
  rintro Y t vs hh ⟨k, x, ps, c, lf, out, hkt, rfl, o, hT, hB, hol, hf⟩ hY
  simp -dsimp only [flow_fill.l7, flow_fill.k6, lssN, B.pv_some]
  refine B.cond_bool (fun hb => ?_) (fun hb => ?_) <;> simp only [decide_eq_true_eq, decide_eq_false_iff_not] at hb
  · have hk' : k < (dayOrder W).length := by rw [dayOrder_len]; exact hb
    have hzz := hz.mono o.le
    have hyy := hy.mono o.le
    have hidx : V.idxS 1 z (.int .i64 (k : Int)) = some (elp 1 z k 0) := hzz.idxN (by simpa using hk')
    have hg : ((dayOrder W).map fc)[k]? = some (fc (dayOrder W)[k]) := by rw [List.getElem?_map, List.getElem?_eq_getElem hk']; rfl
    have hidy : V.idxS 3 y (.int .i64 ((dayOrder W)[k].val : Int)) = some (elp 3 y (dayOrder W)[k].val 0) := hyy.idxN (by simp)
    have hgy : (W.map Want.cs)[(dayOrder W)[k].val]? = some (W[(dayOrder W)[k]]).cs := by rw [List.getElem?_map, List.getElem?_eq_getElem (dayOrder W)[k].2]; rfl
    have wr := wantRight_facts (hw W[(dayOrder W)[k]] (List.getElem_mem _))
    obtain ⟨gx, Rx, glk, gs⟩ := hit W[(dayOrder W)[k]].Item
    have gl := gs.lenSl
    rw [List.length_map] at gl
    have rl := rowOf_le L W[(dayOrder W)[k]]
    simp -dsimp only [hidx, B.ld_eq, hzz.cell hg, flow_fill.k5, hidy, B.ldn_eq, hyy.elem hgy, setWant, wantQty, flow_fill.k4, wantItem, B.al_agg, glk _ o.le, gl, B.pv_some]
    have hd : (dayOrder W).drop k = (dayOrder W)[k] :: (dayOrder W).drop (k + 1) := List.drop_eq_getElem_cons hk'
    rw [hd, fillAll_cons] at hf
    have hok : FSOk ⟨lf, W[(dayOrder W)[k]].Qty, out⟩ := ⟨hB.nn, by simp only; omega⟩
    have hsm : Small ⟨lf, W[(dayOrder W)[k]].Qty, out⟩ := ⟨hB.le, by simp only; omega⟩
    refine fill_in s1 (S := rowOf L W[(dayOrder W)[k]]) gs (fun l hl => (sortLots_perm L).mem_iff.1 (List.mem_filter.1 hl).1) (by omega) hok hsm o hT (by omega) fun h' x' ps' c' o' hT' hl' => ?_
    have e : (rowOf L W[(dayOrder W)[k]]).foldl (stepU ((dayOrder W)[k].val : Int) W[(dayOrder W)[k]]) ⟨lf, W[(dayOrder W)[k]].Qty, out⟩ = fillOne L ((dayOrder W)[k].val : Int) W[(dayOrder W)[k]] lf out := rfl
    have hok' : FSOk (fillOne L ((dayOrder W)[k].val : Int) W[(dayOrder W)[k]] lf out) := foldU_ok _ hok
    have hsm' : Small (fillOne L ((dayOrder W)[k].val : Int) W[(dayOrder W)[k]] lf out) := foldU_small _ hok hsm
    simp only [e] at o' hT' hl' ⊢
    simp -dsimp only [flow_fill.k1, V.bin_gtr, B.pv_some]
    refine B.cond_bool (fun hc => ?_) (fun hc => ?_)
    · rw [decide_eq_true_eq] at hc
      rw [if_pos (by omega)] at hf
      exact hno _ o'.le hf.symm
    · rw [decide_eq_false_iff_not] at hc
      rw [if_neg (by omega)] at hf
      simp -dsimp only [add1 (show k < 4611686018427387904 by omega), B.pv_some]
      exact hY (W.length - (k + 1)) _ _ (by omega) ⟨k + 1, x', ps', c', _, _, by omega, rfl, o', hT', ⟨hok'.left, hsm'.left⟩, by omega, hf⟩
  · rw [List.drop_eq_nil_of_le (by rw [dayOrder_len]; omega)] at hf
    exact hyes hh out lf x ps c hf.symm o hT hB (by omega)
/-- The maps are filled. -/
theorem fill_maps {S : List Lot} {v1 : AVal} {xs : AVal} (hS : S.length ≤ 300) {ci : Nat} (ho : Owns h0 h [.blk id (mapBlk (encM kI vI []) 0), .blk idI (mapBlk (encM kS vA []) ci), .sl 6 xs (S.map Lot.cs) []])
    (hn : (S.map Lot.Id).Nodup)
    (hk : ∀ h' psL cL psI cI G, Owns h0 h' ([.blk id (mapBlk (encM kI vI psL) cL), .blk idI (mapBlk (encM kS vA psI) cI), .sl 6 xs (S.map Lot.cs) []] ++ G.map gOb) → Groups S S.length psI G → (∀ l ∈ S, getP psL l.Id = some l.Qty) →
      B.call C (N 240) [v1] h' fun v49 h => B.pv (V.lenSl v49) fun v50 => LoopR (flow_fill.l7 C N Q v1 (.mp id) (.mp idI) v49 v50) [.nils, (.int .i64 0)] h) :
    LoopR (flow_fill.l9 C N Q v1 (.mp id) (.mp idI) xs (.int .i64 (S.length : Int))) [.int .i64 0] h := by
  refine LoopR.intro (fun t vs hh => ∃ (k : Nat) (psL : Ents Int Int) (cL : Nat) (psI : Ents (List UInt8) AVal) (cI : Nat) (G : List Gp), k + t = S.length ∧ vs = [.int .i64 (k : Int)] ∧
    Owns h0 hh ([.blk id (mapBlk (encM kI vI psL) cL), .blk idI (mapBlk (encM kS vA psI) cI), .sl 6 xs (S.map Lot.cs) []] ++ G.map gOb) ∧ Groups S k psI G ∧ (∀ l ∈ S.take k, getP psL l.Id = some l.Qty)) S.length ?_
    ⟨0, [], 0, [], ci, [], by omega, rfl, by simpa using ho, ⟨fun s => by simp [getP], by simp, by simp, by simp⟩, by simp⟩
  rintro Y t vs hh ⟨k, psL, cL, psI, cI, G, hkt, rfl, o, gr, hq⟩ hY
  simp -dsimp only [flow_fill.l9, flow_fill.k8, lssN, B.pv_some]
  refine B.cond_bool (fun hb => ?_) (fun hb => ?_) <;> simp only [decide_eq_true_eq, decide_eq_false_iff_not] at hb
  · have hz := o.slAt 2 rfl
    have hg : (S.map Lot.cs)[k]? = some (S[k]).cs := by rw [List.getElem?_map, List.getElem?_eq_getElem hb]; rfl
    have hidx : V.idxS 6 xs (.int .i64 (k : Int)) = some (elp 6 xs k 0) := hz.idxN (by simpa using hb)
    simp -dsimp only [hidx, B.ldn_eq, hz.elem hg, setLot6, lotId, lotQty, B.al_agg, B.pv_some]
    refine o.mset 0 rfl keyI S[k].Id S[k].Qty fun h2 o2 _ _ => ?_
    simp only [List.cons_append, List.nil_append, List.set_cons_zero] at o2
    have hlk : A.lkp h2 (some .s) (some .nils) false (.mp idI) (.str S[k].Item) = some ((getP psI S[k].Item).getD .nils) := o2.lkp 1 rfl keyS (v := vA) AVal.nils S[k].Item
    simp -dsimp only [lotItem, getLot6, B.al_agg, hlk, fillLot1, B.pv_some]
    have hq' : ∀ l ∈ S.take (k + 1), getP (putP psL S[k].Id S[k].Qty cL) l.Id = some l.Qty := fun l hl => by
      rw [getP_put]
      rw [take_one hb] at hl
      rcases List.mem_append.1 hl with hl | hl
      · rw [if_neg, hq l hl]
        intro e
        obtain ⟨j, hj, rfl⟩ := List.getElem_of_mem hl
        rw [List.length_take] at hj
        rw [List.getElem_take] at e
        have := nodup_inj hn (i := j) (j := k) (by simp; omega) (by simpa using hb) (by simpa using e)
        omega
      · rw [List.mem_singleton.1 hl, if_pos rfl]
    have hgl : ∀ g ∈ G, g.2.2.length ≤ 300 := fun g hg => by
      rw [gr.lots g hg]
      exact Nat.le_trans (List.length_filter_le _ _) (by rw [List.length_take]; omega)
    have hget := gr.get S[k].Item
    by_cases hin : S[k].Item ∈ G.map (·.1)
    · obtain ⟨j, hj, e⟩ := List.getElem_of_mem hin
      have hj' : j < G.length := by simpa using hj
      have hgj : G[j]? = some G[j] := List.getElem?_eq_getElem hj'
      have e2 : G[j].1 = S[k].Item := by simpa using e
      rw [← e2, find_at gr.nd hgj, e2] at hget
      have hl300 := hgl _ (List.getElem_mem hj')
      rw [hget]
      simp only [Option.map_some, Option.getD_some]
      have ob : ([Ob.blk id (mapBlk (encM kI vI (putP psL S[k].Id S[k].Qty cL)) (clkP psL S[k].Id cL)), .blk idI (mapBlk (encM kS vA psI) cI), .sl 6 xs (S.map Lot.cs) []] ++ G.map gOb)[3 + j]? = some (.sl 6 G[j].2.1 (G[j].2.2.map Lot.cs) []) := by
        rw [List.getElem?_append_right (by simp)]
        simp [hj', gOb]
      refine o2.push (3 + j) ob (cs := Lot.cs S[k]) rfl (by omega) (by simp; omega) (by simp [maxLen]; omega) fun x' h3 o3 _ => ?_
      have e3 : ([Ob.blk id (mapBlk (encM kI vI (putP psL S[k].Id S[k].Qty cL)) (clkP psL S[k].Id cL)), .blk idI (mapBlk (encM kS vA psI) cI), .sl 6 xs (S.map Lot.cs) []] ++ G.map gOb).set (3 + j) (.sl 6 x' (G[j].2.2.map Lot.cs ++ [Lot.cs S[k]]) []) =
          [Ob.blk id (mapBlk (encM kI vI (putP psL S[k].Id S[k].Qty cL)) (clkP psL S[k].Id cL)), .blk idI (mapBlk (encM kS vA psI) cI), .sl 6 xs (S.map Lot.cs) []] ++ (G.set j (G[j].1, x', G[j].2.2 ++ [S[k]])).map gOb := by
        rw [List.set_append_right _ _ (by simp)]
        simp [gOb]
      have o3' : Owns h0 h3 _ := o3
      rw [show (Ob.blk id (mapBlk (encM kI vI (putP psL S[k].Id S[k].Qty cL)) (clkP psL S[k].Id cL)) :: .blk idI (mapBlk (encM kS vA psI) cI) :: .sl 6 xs (S.map Lot.cs) [] :: G.map gOb).set (3 + j) (Ob.sl 6 x' (G[j].2.2.map Lot.cs ++ [Lot.cs S[k]]) []) = _ from e3] at o3'
      refine o3'.mset 1 rfl keyS S[k].Item x' fun h4 o4 _ _ => ?_
      simp -dsimp only [add1 (show k < 4611686018427387904 by omega), B.pv_some]
      exact hY (S.length - (k + 1)) _ _ (by omega) ⟨k + 1, _, _, _, _, _, by omega, rfl, o4, gr.old hb hgj e2 x' cI, hq'⟩
    · have hnone : (G.find? fun g => decide (g.1 = S[k].Item)) = none := by
        rw [List.find?_eq_none]; intro g hg; simp; intro e; exact hin (by rw [← e]; exact List.mem_map_of_mem hg)
      rw [hnone] at hget
      rw [hget]
      simp only [Option.map_none, Option.getD_none]
      have o2' := o2.nils 6
      refine o2'.push (3 + G.length) (es := 6) (x := .nils) (L := []) (R := []) ?_ (cs := Lot.cs S[k]) rfl (by omega) (by simp) (by simp [maxLen]) fun x' h3 o3 _ => ?_
      · exact getPush _ (by simp only [List.length_cons, List.length_map]; omega)
      have e3 : (Ob.blk id (mapBlk (encM kI vI (putP psL S[k].Id S[k].Qty cL)) (clkP psL S[k].Id cL)) :: .blk idI (mapBlk (encM kS vA psI) cI) :: .sl 6 xs (S.map Lot.cs) [] :: G.map gOb ++ [Ob.sl 6 .nils [] []]).set (3 + G.length) (Ob.sl 6 x' ([] ++ [Lot.cs S[k]]) []) =
          [Ob.blk id (mapBlk (encM kI vI (putP psL S[k].Id S[k].Qty cL)) (clkP psL S[k].Id cL)), .blk idI (mapBlk (encM kS vA psI) cI), .sl 6 xs (S.map Lot.cs) []] ++ (G ++ [(S[k].Item, x', [S[k]])]).map gOb := by
        rw [setPush _ _ (by simp only [List.length_cons, List.length_map]; omega)]
        simp [gOb]
      have o3' : Owns h0 h3 _ := o3
      rw [e3] at o3'
      refine o3'.mset 1 rfl keyS S[k].Item x' fun h4 o4 _ _ => ?_
      simp -dsimp only [add1 (show k < 4611686018427387904 by omega), B.pv_some]
      exact hY (S.length - (k + 1)) _ _ (by omega) ⟨k + 1, _, _, _, _, _, by omega, rfl, o4, gr.fresh hb hin x' cI, hq'⟩
  · rw [List.take_of_length_le (by omega)] at hq
    have hkS : k = S.length := by omega
    subst hkS
    exact hk hh psL cL psI cI G o gr hq
end
end Go.Ab

/- What is proved: contracts: filling wants; what is left. No conditions. -/
set_option linter.unusedVariables false
set_option linter.unusedSimpArgs false
namespace Go.Ab
variable {C : CSem} {N : Nat → Nat}
def flow_fill.Spec (C : CSem) (N : Nat → Nat) : Prop := ∀ (x y : AVal) (L : List Lot) (W : List Want) (R S : List (List AVal)) (h : AHeap) (Q : AVal → AHeap → Prop), SlX h 6 x (L.map Lot.cs) R → SlX h 3 y (W.map Want.cs) S → L.length < 4611686018427387904 → W.length < 4611686018427387904 →
  (greedy L W = none → Q (.tup [.nils, .nilm, .bool false]) h) →
  (∀ h' us lf x' id ps c, greedy L W = some (us, lf) → mayBe L W = true → Owns h h' [.blk id (mapBlk (encM kI vI ps) c), .sl 3 x' (us.map Use.cs) []] → Tells L ps lf → Bnd lf → us.length ≤ 6000000 → Q (.tup [x', .mp id, .bool true]) h') → C (N 232) [x, y] h Q
theorem left0_bnd {L : List Lot} (h : ∀ l ∈ L, lotRight l = true) : Bnd (left0 L) := ⟨left0_ok h, fun i => by
  unfold left0
  cases hf : L.find? (fun a => decide (a.Id = i)) with
  | none => simp
  | some a => have := lotRight_facts (h a (List.mem_of_find?_eq_some hf)); simp only; omega⟩
theorem flow_fill.spec (i : flow_fill.Imp C N) (s1 : flow_together.Spec C N) (s2 : lot_Sort.Spec C N) (s3 : flow_days.Spec C N) (s4 : window_Has.Spec C N) : flow_fill.Spec C N := by
  intro x y L W R S h Q hx hy hlen hlen2 hno hyes
  apply i
  simp -dsimp only [flow_fill.cps, flow_fill.k11]
  refine s1 _ _ _ _ _ _ _ _ hx hy hlen hlen2 ?_
  simp -dsimp only [V.un_not, B.pv_some]
  cases hm : mayBe L W with
  | false =>
    simp -dsimp only [Bool.not_false, B.cond_true]
    exact dn_same (hno (by unfold greedy; rw [hm]; rfl))
  | true =>
    simp -dsimp only [Bool.not_true, B.cond_false]
    have hgr : greedy L W = fillAll L W (dayOrder W) (left0 L) [] := by unfold greedy; rw [hm]; rfl
    obtain ⟨f1, f2, f3, f4, f5⟩ := mayBe_facts hm
    refine (Owns.start h).newMap (K := Int) (T := Int) kI vI fun id h1 _ o1 _ => ?_
    simp -dsimp only [flow_fill.k10]
    refine o1.newMap (K := List UInt8) (T := AVal) kS vA fun idI h2 _ o2 _ => ?_
    simp only [List.nil_append, List.cons_append] at o2
    refine s2 _ _ _ _ _ (hx.mono o2.le) (by omega) fun xs h3 os => ?_
    have o3 := o2.join os
    have e1 := os.slAt 0 rfl
    have e2 := e1.lenSl
    rw [List.length_map] at e2
    simp -dsimp only [e2, B.pv_some]
    refine fill_maps (by rw [sortLots_len]; exact f1) o3 (sortLots_nodup f4) fun h4 psL cL psI cI G o4 gr hq => ?_
    refine s3 _ _ _ _ _ (hy.mono o4.le) f2 f5 fun z h5 oz => ?_
    have o5 := o4.join oz
    have ez := (oz.slAt 0 rfl).lenSl
    rw [List.length_map, dayOrder_len] at ez
    simp -dsimp only [ez, B.pv_some]
    have o6 := o5.perm (l' := ((.blk idI (mapBlk (encM kS vA psI) cI)) :: .sl 6 xs ((sortLots L).map Lot.cs) [] :: (G.map gOb ++ [.sl 1 z ((dayOrder W).map fc) []])) ++ [.blk id (mapBlk (encM kI vI psL) cL)]) (by
      simp only [List.cons_append, List.nil_append, List.append_assoc]
      refine List.Perm.trans ?_ (List.perm_append_comm (l₁ := [Ob.blk id (mapBlk (encM kI vI psL) cL)]) (l₂ := (.blk idI (mapBlk (encM kS vA psI) cI)) :: .sl 6 xs ((sortLots L).map Lot.cs) [] :: (G.map gOb ++ [.sl 1 z ((dayOrder W).map fc) []])) |>.trans ?_)
      · exact List.Perm.refl _
      · simp)
    obtain ⟨oa, ob⟩ := o6.out
    have zz : SlX _ 1 z ((dayOrder W).map fc) [] := oa.is (.sl 1 z ((dayOrder W).map fc) []) (by simp)
    have ii : _ = some (mapBlk (encM kS vA psI) cI) := oa.is (.blk idI (mapBlk (encM kS vA psI) cI)) (by simp)
    have memL : ∀ l, l ∈ sortLots L ↔ l ∈ L := fun l => (sortLots_perm L).mem_iff
    refine fill_days s4 (L := L) (W := W) (hy.mono oa.le) zz f1 f2 f5 (fun s => ?_) (left0_bnd f3) (c := cL) (ps := psL) ob (fun l hl => ?_) (fun h' hle hn => ?_) (fun h' us lf x' ps' c' he o' hT' hB' hl' => ?_)
    · have hg := gr.get s
      have hlk : ∀ h', AHeap.le _ h' → A.lkp h' (some .s) (some .nils) false (.mp idI) (.str s) = some ((getP psI s).getD .nils) := fun h' hle => lkp_blk keyS (v := vA) (hle _ _ ii) AVal.nils s false
      refine ⟨_, [], hlk, ?_⟩
      rw [hg]
      · cases hf : G.find? fun g => decide (g.1 = s) with
        | none =>
          have : s ∉ G.map (·.1) := fun hm => by
            rw [List.find?_eq_none] at hf
            obtain ⟨g, hg1, hg2⟩ := List.mem_map.1 hm
            exact hf g hg1 (by simp [hg2])
          have e := gr.none_ s this
          rw [List.take_length] at e
          rw [e]
          exact SlX.nils _ _
        | some g =>
          have h1 := List.find?_some hf
          have h2 := List.mem_of_find?_eq_some hf
          simp only [decide_eq_true_eq] at h1
          have e := gr.lots g h2
          rw [List.take_length, h1] at e
          rw [← e]
          exact oa.is (gOb g) (by simp only [List.mem_cons, List.mem_append, List.mem_map]; exact .inr (.inr (.inl ⟨g, h2, rfl⟩)))
    · rw [hq l ((memL l).2 hl), left0_of f4 hl]
    · exact dn_le (AHeap.le_trans oa.le hle) (hno (hgr.trans hn))
    · exact dn_same (hyes h' us lf x' id ps' c' (hgr.trans he) hm (o'.back oa.le) hT' hB' hl')
def flow_Fits.Spec (C : CSem) (N : Nat → Nat) : Prop := ∀ (x y : AVal) (L : List Lot) (W : List Want) (R S : List (List AVal)) (h : AHeap) (Q : AVal → AHeap → Prop), SlX h 6 x (L.map Lot.cs) R → SlX h 3 y (W.map Want.cs) S → L.length < 4611686018427387904 → W.length < 4611686018427387904 →
  Q (.bool (greedy L W).isSome) h → C (N 215) [x, y] h Q
theorem flow_Fits.spec (i : flow_Fits.Imp C N) (s1 : flow_fill.Spec C N) : flow_Fits.Spec C N := by
  intro x y L W R S h Q hx hy hlen hlen2 hq
  apply i
  simp -dsimp only [flow_Fits.cps]
  refine s1 _ _ _ _ _ _ _ _ hx hy hlen hlen2 (fun hn => ?_) fun h' us lf x' id ps c he _ o _ _ _ => ?_
  · rw [hn] at hq
    simp -dsimp only [V.ext_tup, List.getElem?_cons_zero, List.getElem?_cons_succ, B.pv_some]
    exact dn_same hq
  · rw [he] at hq
    simp -dsimp only [V.ext_tup, List.getElem?_cons_zero, List.getElem?_cons_succ, B.pv_some]
    exact dn_le o.le hq
/-- What Fill answers. -/
def FillQ (L : List Lot) (W : List Want) (h : AHeap) (Q : AVal → AHeap → Prop) : Prop :=
  (greedy L W = none → Q (.tup [.nils, .bool false]) h) ∧ ∀ us lf, greedy L W = some (us, lf) → us.length ≤ 6000000 → ∀ h' x', Owns h h' [.sl 3 x' (us.map Use.cs) []] → Q (.tup [x', .bool true]) h'
def flow_Fill.Spec (C : CSem) (N : Nat → Nat) : Prop := ∀ (x y : AVal) (L : List Lot) (W : List Want) (R S : List (List AVal)) (h : AHeap) (Q : AVal → AHeap → Prop), SlX h 6 x (L.map Lot.cs) R → SlX h 3 y (W.map Want.cs) S → L.length < 4611686018427387904 → W.length < 4611686018427387904 →
  FillQ L W h Q → C (N 219) [x, y] h Q
theorem flow_Fill.spec (i : flow_Fill.Imp C N) (s1 : flow_fill.Spec C N) : flow_Fill.Spec C N := by
  intro x y L W R S h Q hx hy hlen hlen2 hq
  apply i
  simp -dsimp only [flow_Fill.cps, flow_Fill.k1]
  refine s1 _ _ _ _ _ _ _ _ hx hy hlen hlen2 (fun hn => ?_) fun h' us lf x' id ps c he _ o _ _ hl => ?_
  · simp -dsimp only [V.ext_tup, List.getElem?_cons_zero, List.getElem?_cons_succ, B.pv_some]
    exact dn_same (hq.1 hn)
  · simp -dsimp only [V.ext_tup, List.getElem?_cons_zero, List.getElem?_cons_succ, B.pv_some]
    exact dn_same (hq.2 us lf he hl h' x' (o.sub (by simp)))
/-- What is left of lots. -/
def leftLots (L : List Lot) (lf : Lf) : List Lot := L.filterMap fun l => if 0 < lf l.Id then some { l with Qty := lf l.Id } else none
/-- What Left answers. -/
def LeftQ (L : List Lot) (W : List Want) (h : AHeap) (Q : AVal → AHeap → Prop) : Prop :=
  (greedy L W = none → Q (.tup [.nils, .bool false]) h) ∧ ∀ us lf, greedy L W = some (us, lf) → ∀ h' x', Owns h h' [.sl 6 x' ((leftLots L lf).map Lot.cs) []] → Q (.tup [x', .bool true]) h'
def flow_Left.Spec (C : CSem) (N : Nat → Nat) : Prop := ∀ (x y : AVal) (L : List Lot) (W : List Want) (R S : List (List AVal)) (h : AHeap) (Q : AVal → AHeap → Prop), SlX h 6 x (L.map Lot.cs) R → SlX h 3 y (W.map Want.cs) S → L.length < 4611686018427387904 → W.length < 4611686018427387904 →
  LeftQ L W h Q → C (N 221) [x, y] h Q
theorem leftLots_succ {L : List Lot} {lf : Lf} {k : Nat} (hk : k < L.length) : leftLots (L.take (k + 1)) lf = leftLots (L.take k) lf ++ leftLots [L[k]] lf := by
  unfold leftLots
  rw [take_one hk, List.filterMap_append]
theorem setLotQty (l : Lot) (n : Int) : V.setF 4 (.int .i64 n) (.agg l.cs) = some (.agg (Lot.cs { l with Qty := n })) := by simp
theorem flow_Left.spec (i : flow_Left.Imp C N) (s1 : flow_fill.Spec C N) : flow_Left.Spec C N := by
  intro x y L W R S h Q hx hy hlen hlen2 hq
  apply i
  simp -dsimp only [flow_Left.cps, flow_Left.k4]
  refine s1 _ _ _ _ _ _ _ _ hx hy hlen hlen2 (fun hn => ?_) fun h' us lf x' id ps c he hm o hT hB hl => ?_
  · simp -dsimp only [V.ext_tup, List.getElem?_cons_zero, List.getElem?_cons_succ, flow_Left.k3, V.un_not, Bool.not_false, B.cond_true, B.pv_some]
    exact dn_same (hq.1 hn)
  · have hL := (mayBe_facts hm).1
    have e1 := hx.lenSl
    rw [List.length_map] at e1
    simp -dsimp only [V.ext_tup, List.getElem?_cons_zero, List.getElem?_cons_succ, flow_Left.k3, V.un_not, Bool.not_true, B.cond_false, e1, B.pv_some]
    have o0 := (o.sub (l' := [.blk id (mapBlk (encM kI vI ps) c)]) (by simp)).nils 6
    refine LoopR.intro (fun t vs hh => ∃ (k : Nat) (x' : AVal), k + t = L.length ∧ vs = [x', .int .i64 (k : Int)] ∧ Owns h hh [.blk id (mapBlk (encM kI vI ps) c), .sl 6 x' ((leftLots (L.take k) lf).map Lot.cs) []] ∧ (leftLots (L.take k) lf).length ≤ k) L.length ?_ ⟨0, .nils, by omega, rfl, by simpa [leftLots] using o0, by simp [leftLots]⟩
    rintro Y t vs hh ⟨k, x2, hkt, rfl, o2, hle⟩ hY
    simp -dsimp only [flow_Left.l2, flow_Left.k1, lssN, B.pv_some]
    refine B.cond_bool (fun hb => ?_) (fun hb => ?_) <;> simp only [decide_eq_true_eq, decide_eq_false_iff_not] at hb
    · have hxx := hx.mono o2.le
      have hg : (L.map Lot.cs)[k]? = some (L[k]).cs := by rw [List.getElem?_map, List.getElem?_eq_getElem hb]; rfl
      have hidx : V.idxS 6 x (.int .i64 (k : Int)) = some (elp 6 x k 0) := hxx.idxN (by simpa using hb)
      have hlk : A.lkp hh (some .i) (some (.int .i64 0)) false (.mp id) (.int .i64 L[k].Id) = some (.int .i64 (lf L[k].Id)) := by
        have := o2.lkp 0 rfl keyI (0 : Int) L[k].Id
        rw [hT _ (List.getElem_mem hb)] at this
        exact this
      have hs := leftLots_succ (lf := lf) hb
      simp -dsimp only [hidx, B.ldn_eq, hxx.elem hg, setLot6, lotId, hlk, setLotQty, lotQty, getLot6, V.bin_gtr, B.al_agg, B.pv_some]
      refine B.cond_bool (fun hc => ?_) (fun hc => ?_) <;> simp only [decide_eq_true_eq, decide_eq_false_iff_not] at hc
      · have e : leftLots [L[k]] lf = [{ L[k] with Qty := lf L[k].Id }] := by simp [leftLots, show 0 < lf L[k].Id by omega]
        rw [e] at hs
        simp -dsimp only [getLot6, fillLot1, B.pv_some]
        refine o2.push 1 rfl (cs := Lot.cs { L[k] with Qty := lf L[k].Id }) rfl (by omega) (by simp; omega) (by simp [maxLen]; omega) fun x3 h3 o3 _ => ?_
        simp -dsimp only [add1 (show k < 4611686018427387904 by omega), B.pv_some]
        exact hY (L.length - (k + 1)) _ _ (by omega) ⟨k + 1, x3, by omega, rfl, by rw [hs]; simpa using o3, by rw [hs]; simp; omega⟩
      · have e : leftLots [L[k]] lf = [] := by simp [leftLots, show ¬ 0 < lf L[k].Id by omega]
        rw [e, List.append_nil] at hs
        simp -dsimp only [add1 (show k < 4611686018427387904 by omega), B.pv_some]
        exact hY (L.length - (k + 1)) _ _ (by omega) ⟨k + 1, x2, by omega, rfl, by rw [hs]; exact o2, by rw [hs]; omega⟩
    · rw [List.take_of_length_le (by omega)] at o2
      exact dn_same (hq.2 us lf he hh x2 (o2.sub (by simp)))
end Go.Ab

/- What is proved: uses that are checked, and when wants can be served (Hall's condition): plain facts. No program in sight. No conditions. -/
set_option linter.unusedVariables false
set_option linter.unusedSimpArgs false
namespace Go.Ab
structure CS where
  left : Lf
  need : Nat → Int
def wAt (W : List Want) (i : Nat) : Want := W.getD i ⟨[], 0, 0⟩
theorem wAt_get {W : List Want} {i : Nat} (h : i < W.length) : wAt W i = W[i] := by simp [wAt, h]
theorem wAt_out {W : List Want} {i : Nat} (h : W.length ≤ i) : wAt W i = ⟨[], 0, 0⟩ := by
  unfold wAt
  rw [List.getD_eq_getElem?_getD, List.getElem?_eq_none h]; rfl
def lotById (L : List Lot) (i : Int) : Option Lot := L.find? fun l => decide (l.Id = i)
def chkOk (W : List Want) (s : CS) (u : Use) (l : Lot) : Bool :=
  decide (0 ≤ u.Want) && decide (u.Want < (W.length : Int)) && decide (1 ≤ u.Qty) && decide (u.Qty ≤ s.left l.Id) && decide (u.Qty ≤ s.need u.Want.toNat) && serves l (wAt W u.Want.toNat)
def chkStep (s : CS) (u : Use) : CS := ⟨fun n => if n = u.Lot then s.left n - u.Qty else s.left n, fun i => if i = u.Want.toNat then s.need i - u.Qty else s.need i⟩
def chkRun (L : List Lot) (W : List Want) : CS → List Use → Option CS
  | s, [] => some s
  | s, u :: us => match lotById L u.Lot with
    | some l => bif chkOk W s u l then chkRun L W (chkStep s u) us else none
    | none => none
def csStart (L : List Lot) (W : List Want) : CS := ⟨left0 L, fun i => (wAt W i).Qty⟩
def checks (L : List Lot) (W : List Want) (us : List Use) : Bool := mayBe L W && match chkRun L W (csStart L W) us with
  | some s => (List.range W.length).all fun i => decide (s.need i = 0)
  | none => false
theorem lotById_some {L : List Lot} {i : Int} {l : Lot} (h : lotById L i = some l) : l ∈ L ∧ l.Id = i := by
  have h1 := List.find?_some h
  exact ⟨List.mem_of_find?_eq_some h, by simpa using h1⟩
theorem lotById_of {L : List Lot} (hn : (L.map Lot.Id).Nodup) {l : Lot} (h : l ∈ L) : lotById L l.Id = some l := by
  cases e : lotById L l.Id with
  | none => unfold lotById at e; rw [List.find?_eq_none] at e; have := e l h; simp at this
  | some a => have := lotById_some e; rw [id_inj hn this.1 h this.2]
structure CSOk (s : CS) : Prop where
  left : LfOk s.left
  need : ∀ i, 0 ≤ s.need i
structure ChkF (W : List Want) (s : CS) (u : Use) (l : Lot) : Prop where
  w0 : 0 ≤ u.Want
  w1 : u.Want.toNat < W.length
  q : 1 ≤ u.Qty
  ql : u.Qty ≤ s.left l.Id
  qn : u.Qty ≤ s.need u.Want.toNat
  sv : serves l (wAt W u.Want.toNat) = true
theorem chkOk_iff {W : List Want} {s : CS} {u : Use} {l : Lot} : chkOk W s u l = true ↔ ChkF W s u l := by
  simp only [chkOk, Bool.and_eq_true, decide_eq_true_eq]
  exact ⟨fun ⟨⟨⟨⟨⟨a, b⟩, c⟩, d⟩, e⟩, f⟩ => ⟨a, by omega, c, d, e, f⟩, fun ⟨a, b, c, d, e, f⟩ => ⟨⟨⟨⟨⟨a, by omega⟩, c⟩, d⟩, e⟩, f⟩⟩
theorem chkRun_cons {L : List Lot} {W : List Want} {s s' : CS} {u : Use} {us : List Use} (h : chkRun L W s (u :: us) = some s') : ∃ l, l ∈ L ∧ l.Id = u.Lot ∧ ChkF W s u l ∧ chkRun L W (chkStep s u) us = some s' := by
  unfold chkRun at h
  cases e : lotById L u.Lot with
  | none => rw [e] at h; cases h
  | some l =>
    rw [e] at h
    simp only at h
    cases c : chkOk W s u l with
    | false => rw [c] at h; cases h
    | true => rw [c] at h; exact ⟨l, (lotById_some e).1, (lotById_some e).2, chkOk_iff.1 c, h⟩
theorem chkStep_ok {W : List Want} {s : CS} {u : Use} {l : Lot} (hs : CSOk s) (hc : ChkF W s u l) (hl : l.Id = u.Lot) : CSOk (chkStep s u) := by
  refine ⟨fun n => ?_, fun i => ?_⟩ <;> unfold chkStep <;> simp only <;> split
  · rename_i e; subst e; have := hc.ql; rw [hl] at this; omega
  · exact hs.left n
  · rename_i e; subst e; have := hc.qn; omega
  · exact hs.need i
theorem chkRun_ok {L : List Lot} {W : List Want} : ∀ {us : List Use} {s s' : CS}, chkRun L W s us = some s' → CSOk s → CSOk s'
  | [], s, s', h, hs => by cases h; exact hs
  | u :: us, s, s', h, hs => by
    obtain ⟨l, h1, h2, h3, h4⟩ := chkRun_cons h
    exact chkRun_ok h4 (chkStep_ok hs h3 h2)
theorem chkRun_app {L : List Lot} {W : List Want} {vs : List Use} : ∀ {us : List Use} {s : CS}, chkRun L W s (us ++ vs) = (chkRun L W s us).bind fun s => chkRun L W s vs
  | [], s => rfl
  | u :: us, s => by
    rw [List.cons_append]
    simp only [chkRun]
    cases lotById L u.Lot with
    | none => rfl
    | some l =>
      simp only
      cases chkOk W s u l
      · rfl
      · exact chkRun_app
theorem chkRun_one {L : List Lot} {W : List Want} {s : CS} {u : Use} {l : Lot} (hn : (L.map Lot.Id).Nodup) (hl : l ∈ L) (he : l.Id = u.Lot) (hc : ChkF W s u l) : chkRun L W s [u] = some (chkStep s u) := by
  simp only [chkRun]
  rw [← he, lotById_of hn hl]
  simp only
  rw [chkOk_iff.2 hc]; rfl
theorem chkRun_serves {L : List Lot} {W : List Want} : ∀ {us : List Use} {s s' : CS}, chkRun L W s us = some s' → ∀ u ∈ us, ∃ l, l ∈ L ∧ l.Id = u.Lot ∧ u.Want.toNat < W.length ∧ serves l (wAt W u.Want.toNat) = true
  | [], s, s', h, u, hu => by cases hu
  | a :: us, s, s', h, u, hu => by
    obtain ⟨l, h1, h2, h3, h4⟩ := chkRun_cons h
    rcases List.mem_cons.1 hu with rfl | hu
    · exact ⟨l, h1, h2, h3.w1, h3.sv⟩
    · exact chkRun_serves h4 u hu

/-! Sums. -/
def sumF {α : Type} (f : α → Int) : List α → Int
  | [] => 0
  | a :: l => f a + sumF f l
theorem sumF_congr {α : Type} {f g : α → Int} : ∀ {l : List α}, (∀ a ∈ l, f a = g a) → sumF f l = sumF g l
  | [], _ => rfl
  | a :: l, h => by simp only [sumF]; rw [h a (by simp), sumF_congr fun b hb => h b (by simp [hb])]
theorem sumF_le {α : Type} {f g : α → Int} : ∀ {l : List α}, (∀ a ∈ l, f a ≤ g a) → sumF f l ≤ sumF g l
  | [], _ => Int.le_refl _
  | a :: l, h => by
    have h1 := h a (by simp)
    have h2 := sumF_le (l := l) fun b hb => h b (by simp [hb])
    simp only [sumF]; omega
theorem sumF_zero {α : Type} {f : α → Int} : ∀ {l : List α}, (∀ a ∈ l, f a = 0) → sumF f l = 0
  | [], _ => rfl
  | a :: l, h => by simp only [sumF]; rw [h a (by simp), sumF_zero fun b hb => h b (by simp [hb])]; rfl
theorem sumF_nn {α : Type} {f : α → Int} {l : List α} (h : ∀ a ∈ l, 0 ≤ f a) : 0 ≤ sumF f l := by
  have := sumF_le (f := fun _ => 0) (g := f) (l := l) h
  rw [sumF_zero fun _ _ => rfl] at this; exact this
/-- One place alone changes. -/
theorem sumF_upd {α : Type} {f g : α → Int} {a : α} {d : Int} : ∀ {l : List α}, l.Nodup → a ∈ l → (∀ b ∈ l, b ≠ a → f b = g b) → f a = g a + d → sumF f l = sumF g l + d
  | [], _, h, _, _ => by cases h
  | b :: l, hn, ha, ho, hd => by
    simp only [List.nodup_cons] at hn
    simp only [sumF]
    by_cases e : b = a
    · subst e
      rw [hd, sumF_congr fun c hc => ho c (by simp [hc]) fun e => hn.1 (by rw [← e]; exact hc)]
      omega
    · have ha' : a ∈ l := by rcases List.mem_cons.1 ha with h | h; exact absurd h.symm e; exact h
      rw [ho b (by simp) e, sumF_upd hn.2 ha' (fun c hc => ho c (by simp [hc])) hd]
      omega
/-- Does a lot serve one of some wants? -/
def nS (W : List Want) (S : Nat → Bool) (l : Lot) : Bool := (List.range W.length).any fun i => S i && serves l (wAt W i)
def needS (W : List Want) (need : Nat → Int) (S : Nat → Bool) : Int := sumF (fun i => bif S i then need i else 0) (List.range W.length)
def leftS (L : List Lot) (W : List Want) (left : Lf) (S : Nat → Bool) : Int := sumF (fun l => bif nS W S l then left l.Id else 0) L
def Hall (L : List Lot) (W : List Want) : Prop := ∀ S : Nat → Bool, needS W (csStart L W).need S ≤ leftS L W (csStart L W).left S
theorem nS_of {W : List Want} {S : Nat → Bool} {l : Lot} {i : Nat} (hi : i < W.length) (hS : S i = true) (hs : serves l (wAt W i) = true) : nS W S l = true := by
  unfold nS
  rw [List.any_eq_true]
  exact ⟨i, List.mem_range.2 hi, by rw [hS, hs]; rfl⟩
theorem nodup_of_map {α β : Type} {f : α → β} : ∀ {l : List α}, (l.map f).Nodup → l.Nodup
  | [], _ => List.Pairwise.nil
  | a :: l, h => by
    simp only [List.map_cons, List.nodup_cons] at h
    exact List.nodup_cons.2 ⟨fun ha => h.1 (List.mem_map_of_mem ha), nodup_of_map h.2⟩
theorem step_need {W : List Want} {s : CS} {u : Use} (S : Nat → Bool) (hu : u.Want.toNat < W.length) : needS W (chkStep s u).need S = needS W s.need S + (bif S u.Want.toNat then -u.Qty else 0) := by
  unfold needS
  refine sumF_upd (a := u.Want.toNat) List.nodup_range (List.mem_range.2 hu) (fun b _ hb => ?_) ?_
  · simp [chkStep, hb]
  · cases S u.Want.toNat <;> simp [chkStep]; omega
theorem step_left {L : List Lot} {W : List Want} {s : CS} {u : Use} {l : Lot} (S : Nat → Bool) (hn : (L.map Lot.Id).Nodup) (hl : l ∈ L) (he : l.Id = u.Lot) : leftS L W (chkStep s u).left S = leftS L W s.left S + (bif nS W S l then -u.Qty else 0) := by
  unfold leftS
  refine sumF_upd (a := l) (nodup_of_map hn) hl (fun b hb hne => ?_) ?_
  · have : b.Id ≠ u.Lot := fun e => hne (id_inj hn hb hl (by rw [e, he]))
    simp [chkStep, this]
  · cases nS W S l <;> simp [chkStep, he]; omega
theorem chk_phi {L : List Lot} {W : List Want} (hn : (L.map Lot.Id).Nodup) (S : Nat → Bool) : ∀ {us : List Use} {s s' : CS}, chkRun L W s us = some s' → needS W s.need S - leftS L W s.left S ≤ needS W s'.need S - leftS L W s'.left S
  | [], s, s', h => by cases h; exact Int.le_refl _
  | u :: us, s, s', h => by
    obtain ⟨l, h1, h2, h3, h4⟩ := chkRun_cons h
    have ih := chk_phi hn S h4
    rw [step_need S h3.w1, step_left S hn h1 h2] at ih
    have := h3.q
    cases hS : S u.Want.toNat with
    | true => rw [nS_of h3.w1 hS h3.sv, hS] at ih; simp only [cond_true] at ih; omega
    | false =>
      rw [hS] at ih
      cases hm : nS W S l <;> rw [hm] at ih <;> simp only [cond_true, cond_false] at ih <;> omega
theorem chk_phi_eq {L : List Lot} {W : List Want} (hn : (L.map Lot.Id).Nodup) (S : Nat → Bool) : ∀ {us : List Use} {s s' : CS}, chkRun L W s us = some s' → (∀ u ∈ us, ∀ l ∈ L, l.Id = u.Lot → nS W S l = true → S u.Want.toNat = true) →
    needS W s.need S - leftS L W s.left S = needS W s'.need S - leftS L W s'.left S
  | [], s, s', h, _ => by cases h; rfl
  | u :: us, s, s', h, hx => by
    obtain ⟨l, h1, h2, h3, h4⟩ := chkRun_cons h
    have ih := chk_phi_eq hn S h4 fun v hv => hx v (by simp [hv])
    rw [step_need S h3.w1, step_left S hn h1 h2] at ih
    cases hS : S u.Want.toNat with
    | true => rw [nS_of h3.w1 hS h3.sv, hS] at ih; simp only [cond_true] at ih; omega
    | false =>
      have hm : nS W S l = false := by
        cases hm : nS W S l with
        | false => rfl
        | true => have := hx u (by simp) l h1 h2 hm; rw [hS] at this; cases this
      rw [hS, hm] at ih
      simp only [cond_false] at ih; omega
theorem csStart_ok {L : List Lot} {W : List Want} (h : mayBe L W = true) : CSOk (csStart L W) := by
  obtain ⟨f1, f2, f3, f4, f5⟩ := mayBe_facts h
  refine ⟨left0_ok f3, fun i => ?_⟩
  simp only [csStart]
  by_cases hi : i < W.length
  · rw [wAt_get hi]; have := wantRight_facts (f5 _ (List.getElem_mem hi)); omega
  · rw [wAt_out (by omega)]; exact Int.le_refl _
theorem checks_hall {L : List Lot} {W : List Want} {us : List Use} (h : checks L W us = true) : mayBe L W = true ∧ Hall L W := by
  unfold checks at h
  rw [Bool.and_eq_true] at h
  obtain ⟨hm, h⟩ := h
  refine ⟨hm, fun S => ?_⟩
  obtain ⟨f1, f2, f3, f4, f5⟩ := mayBe_facts hm
  cases e : chkRun L W (csStart L W) us with
  | none => rw [e] at h; cases h
  | some s =>
    rw [e] at h
    simp only [List.all_eq_true, decide_eq_true_eq] at h
    have ok := chkRun_ok e (csStart_ok hm)
    have ph := chk_phi f4 S e
    have z : needS W s.need S = 0 := sumF_zero fun i hi => by rw [h i hi]; cases S i <;> rfl
    have nn : 0 ≤ leftS L W s.left S := sumF_nn fun l _ => by
      cases nS W S l
      · exact Int.le_refl _
      · exact ok.left _
    omega
end Go.Ab
