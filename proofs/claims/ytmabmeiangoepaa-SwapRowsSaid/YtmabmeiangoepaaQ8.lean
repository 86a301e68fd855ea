/- What is proved: a part of the way to the statement: SrtO, SrtQ, AcV, C01b, Clot, Clot2, Clot3, Clot4, Rlaw04, Claw04, Claw04b, Rrank, Rref09, Crank, Crank2, SrtV, Cstr, Ckit7, Ckit8, Ckit9, Ckit10, Cswap, Cswap2, Rref07, Cref07, Cref07b, Cref07c, Rref08, Cref08, Pkit2, DbO, DiB, Ckit2, Ckit3, Ckit4, Ckit5, Crank3, Rlaw09, Claw09, Ctell4, Rlaw14, Claw14, P14, P14b, Claw14b, Claw14z, AcR3, AcR4, AcR5, Claw08, P04, Claw04c, Claw08b. No conditions. -/
import Derived.Test.YtmabmeiangoepaaQ7
import Derived.KernelRfl
import Derived.Test.YtmabmeiangoepaaQ6
import Derived.Test.YtmabmeiangoepaaQ3
set_option linter.unusedVariables false
set_option linter.unusedSimpArgs false
namespace Go.Ab.Ord
open Go.Ab
structure CmpSpec (C : CSem) {X : Type} (v : X → AVal) (c : X → X → Int) (fL : Nat) (h0 : AHeap) : Prop where
 call : ∀ (h : AHeap) (a b : X) (K : AVal → AHeap → Prop), h0.le h → K (.bool (decide (c a b < 0))) h → B.call C fL [v a, v b] h K
variable {C C0 : CSem} {fL : Nat}
variable {C C0 : CSem} {fL : Nat} {N : Nat → Nat}
section
variable {E : ElOps} {X : Type} {cs : X → List AVal} {v : X → AVal} {h0 h : AHeap} {x : AVal} {G : List X} {R : List (List AVal)}
end
section
variable {E : ElOps} {T : Type} {cs : T → List AVal} {v : T → AVal} {c : T → T → Int} {h0 h : AHeap} {x f : AVal} {R : List (List AVal)} {Q : AVal → AHeap → Prop}
theorem insertionSort_spec (S : SeqSpec E cs v) (W : Weak (lessC c)) {P M U : List (T × Nat)} (hlen : (P ++ (M ++ U)).length ≤ 100000000) (ht : M.Pairwise fun a b => a.2 < b.2)
  (hc : CmpSpec C0 v c fL h0) {a b : Nat} (ha : a = P.length) (hb : b = P.length + M.length) (ho : Rw E (fun p : T × Nat => cs p.1) h0 h x (P ++ (M ++ U)) R)
  (hq : ∀ h' M', M'.Perm M → M'.Pairwise (lt' (lessC c)) → Rw E (fun p : T × Nat => cs p.1) h0 h' x (P ++ (M' ++ U)) R → Q (.tup []) h') :
  slices_insertionSortT.cps C E C0 fL x (.int .i64 (a : Int)) (.int .i64 (b : Int)) f h Q := by
 have S' := S.comp (fun p : T × Nat => p.1)
 subst ha
 have hlen' : P.length + M.length + U.length ≤ 100000000 := by simpa [Nat.add_assoc] using hlen
 simp -dsimp only [slices_insertionSortT.cps, add1 (show P.length < 4611686018427387904 by omega), B.pv_some]
 cases M with
 | nil =>
  intro Y hY
  refine hY _ _ ?_
  simp -dsimp only [slices_insertionSortT.l3, lssN, B.pv_some]
  rw [show decide (P.length + 1 < b) = false by simp at hb ⊢; omega, B.cond_false]
  exact hq h [] (List.Perm.refl _) .nil ho
 | cons m M1 =>
 simp only [List.length_cons] at hlen' hb
 rw [List.pairwise_cons] at ht
 refine LoopR.intro (fun t vs hh => ∃ (i : Nat) (L M2 : List (T × Nat)), t = M2.length ∧ vs = [.int .i64 i] ∧ i = P.length + L.length ∧ i + M2.length = b ∧ Rw E (fun p : T × Nat => cs p.1) h0 hh x (P ++ (L ++ (M2 ++ U))) R ∧
  (L ++ M2).Perm (m :: M1) ∧ L.Pairwise (lt' (lessC c)) ∧ M2.Pairwise (fun a b => a.2 < b.2) ∧ ∀ p ∈ L, ∀ q ∈ M2, p.2 < q.2) M1.length ?_
  ⟨P.length + 1, [m], M1, rfl, rfl, by simp, by omega, by simpa using ho, List.Perm.refl _, List.pairwise_singleton .., ht.2, by simpa using ht.1⟩
 rintro Y t vs hh ⟨i, L, M2, rfl, rfl, hi, hib, o, hp, hs, ht2, htt⟩ hY
 simp -dsimp only [slices_insertionSortT.l3, lssN, B.pv_some]
 cases M2 with
 | nil =>
  rw [show decide (i < b) = false by simp at hib ⊢; omega, B.cond_false]
  rw [List.append_nil] at hp
  exact hq hh L hp hs o
 | cons x0 M2 =>
  simp only [List.length_cons] at hib
  rw [show decide (i < b) = true by simp; omega, B.cond_true]
  rw [List.pairwise_cons] at ht2
  have hll : P.length + (L.length + (M2.length + 1)) = b := by omega
  refine LoopR.intro (fun t vs h2 => ∃ (L1 L2 : List (T × Nat)), t = L1.length ∧ vs = [.int .i64 ((P.length + L1.length : Nat) : Int)] ∧ L = L1 ++ L2 ∧ Rw E (fun p : T × Nat => cs p.1) h0 h2 x (P ++ (L1 ++ x0 :: (L2 ++ (M2 ++ U)))) R ∧
   ∀ q ∈ L2, lt' (lessC c) x0 q) L.length ?_ ⟨L, [], rfl, by rw [hi], by simp, by simpa using o, by simp⟩
  rintro Z t vs h2 ⟨L1, L2, rfl, rfl, rfl, o2, hx⟩ hZ
  rw [List.pairwise_append] at hs
  have fin : (L1 = [] ∨ ∃ L0 y, L1 = L0 ++ [y] ∧ lt' (lessC c) y x0) → Y [.int .i64 ((i + 1 : Nat) : Int)] h2 := fun hz => by
   have hlow : ∀ p ∈ L1, lt' (lessC c) p x0 := by
    rcases hz with rfl | ⟨L0, y, rfl, hy⟩
    ·simp
    ·intro p hpm
     rcases List.mem_append.1 hpm with h1 | h1
     ·exact lt'_trans W ((List.pairwise_append.1 hs.1).2.2 p h1 y (by simp)) hy
     ·rw [List.mem_singleton.1 h1]; exact hy
   refine hY M2.length _ _ (by simp) ⟨i + 1, L1 ++ x0 :: L2, M2, rfl, rfl, by simp at hi ⊢; omega, by omega, by simpa using o2, ?_, ?_, ht2.2, ?_⟩
   ·refine List.Perm.trans ?_ hp
    simp only [List.append_assoc, List.cons_append]
    refine List.Perm.append_left _ ?_
    exact (List.perm_middle (l₁ := L2) (l₂ := M2) (a := x0)).symm
   ·rw [List.pairwise_append, List.pairwise_cons]
    refine ⟨hs.1, ⟨hx, hs.2.1⟩, fun p h1 q h2 => ?_⟩
    rcases List.mem_cons.1 h2 with rfl | h2
    ·exact hlow p h1
    ·exact hs.2.2 p h1 q h2
   ·intro p h1 q h2
    rcases List.mem_append.1 h1 with h1 | h1
    ·exact htt p (List.mem_append_left _ h1) q (List.mem_cons_of_mem _ h2)
    ·rcases List.mem_cons.1 h1 with rfl | h1
     ·exact ht2.1 q h2
     ·exact htt p (List.mem_append_right _ h1) q (List.mem_cons_of_mem _ h2)
  have hll2 : i = P.length + (L1.length + L2.length) := by simpa using hi
  simp -dsimp only [slices_insertionSortT.l2, slices_insertionSortT.k1, gtrN, B.pv_some]
  obtain rfl | ⟨L0, y, rfl⟩ := nil_or_snoc L1
  ·simp -dsimp [add1 (show i < 4611686018427387904 by omega)]
   exact fin (.inl rfl)
  ·have hyx : y.2 < x0.2 := htt y (by simp) x0 (by simp)
   have o2' := o2
   simp only [List.append_assoc, List.cons_append, List.nil_append] at o2'
   simp only [List.length_append, List.length_singleton] at hll2 hlen' hll
   have hj : P.length + (L0 ++ [y]).length = P.length + L0.length + 1 := by simp [Nat.add_assoc]
   rw [show decide (P.length < P.length + (L0 ++ [y]).length) = true by simp]
   rw [hj]
   simp -dsimp only [B.gd_t, B.gdb_pure, B.gdb_true, gv_true, sub1 (show 1 ≤ P.length + L0.length + 1 by omega) (by omega), Nat.add_sub_cancel, o2.idx (i := P.length + L0.length + 1) (by simp; omega), o2.idx (i := P.length + L0.length) (by simp), B.pv_some]
   have o3 : Rw E (fun p : T × Nat => cs p.1) h0 h2 x ((P ++ L0) ++ y :: ([] ++ x0 :: (L2 ++ (M2 ++ U)))) R := by simpa using o2
   have gy : ((P ++ L0) ++ y :: ([] ++ x0 :: (L2 ++ (M2 ++ U))))[P.length + L0.length]? = some y := get_mid (by simp)
   have gx : ((P ++ L0) ++ y :: ([] ++ x0 :: (L2 ++ (M2 ++ U))))[P.length + L0.length + 1]? = some x0 := get_mid2 (by simp)
   refine o3.ld S' gx ?_
   refine o3.ld S' gy ?_
   refine hc.call _ _ _ _ o2.le ?_
   simp -dsimp only [B.gd_t, B.gdb_pure, B.gdb_true, gv_true, V.bin_lss, B.pv_some, B.pick_t]
   refine B.cond_bool (fun hb2 => ?_) (fun hb2 => ?_)
   ·simp -dsimp only [sub1 (show 1 ≤ P.length + L0.length + 1 by omega) (by omega), Nat.add_sub_cancel, o2.idx (i := P.length + L0.length + 1) (by simp; omega), o2.idx (i := P.length + L0.length) (by simp), B.pv_some]
    refine o3.ld S' gy ?_
    refine o3.ld S' gx ?_
    refine o3.swapDn S' (by simp) (by simp) fun h4 o4 => ?_
    refine hZ L0.length _ _ (by simp) ⟨L0, y :: L2, rfl, rfl, by simp, by simpa using o4, ?_⟩
    intro q hq2
    rcases List.mem_cons.1 hq2 with rfl | hq2
    ·exact (lt'_gt hyx).2 hb2
    ·exact hx q hq2
   ·simp -dsimp only [add1 (show i < 4611686018427387904 by omega), B.pv_some]
    exact fin (.inr ⟨L0, y, rfl, (lt'_le W hyx).2 hb2⟩)
end
section
variable {E : ElOps} {X : Type} {cs : X → List AVal} {v : X → AVal} {h0 h : AHeap} {x f : AVal} {G : List X} {R : List (List AVal)} {c : X → X → Int}
theorem order2_spec (S : SeqSpec E cs v) (hx : SlX h0 E.es x (G.map cs) R) (hc : CmpSpec C0 v c fL h0) {p : AVal} {n : Int} (ho : Owns h0 h [.box p [.int .i64 n]]) {i j : Nat} (hi : i < G.length) (hj : j < G.length) {Q : AVal → AHeap → Prop}
  (hq : ∀ (i' j' : Nat) (n' : Int) h', (i' = i ∨ i' = j) → (j' = i ∨ j' = j) → Owns h0 h' [.box p [.int .i64 n']] → Q (.tup [.int .i64 (i' : Int), .int .i64 (j' : Int)]) h') : slices_order2T.cps C E C0 fL x (.int .i64 (i : Int)) (.int .i64 (j : Int)) p f h Q := by
 have hxx := hx.mono ho.le
 have ii : V.idxS E.es x (.int .i64 (i : Int)) = some (elp E.es x i 0) := hxx.idxN (by simpa using hi)
 have ij : V.idxS E.es x (.int .i64 (j : Int)) = some (elp E.es x j 0) := hxx.idxN (by simpa using hj)
 have gi : (G.map cs)[i]? = some (cs G[i]) := by rw [List.getElem?_map, List.getElem?_eq_getElem hi]; rfl
 have gj : (G.map cs)[j]? = some (cs G[j]) := by rw [List.getElem?_map, List.getElem?_eq_getElem hj]; rfl
 obtain ⟨id, rfl, hb⟩ := ho.boxAt 0 rfl
 have ld : A.ldv h (.ptr id 0 0) = some (.int .i64 n) := by rw [ldv_at hb]; rfl
 simp -dsimp only [slices_order2T.cps, slices_order2T.k1, ij, B.pv_some]
 refine S.ld hxx gj ?_
 simp -dsimp only [ii, B.pv_some]
 refine S.ld hxx gi ?_
 refine hc.call _ _ _ _ ho.le ?_
 refine B.cond_bool (fun hd => ?_) (fun hd => ?_)
 ·simp -dsimp only [B.nilCheck_ptr, B.ld_eq, ld, V.bin_add, B.pv_some]
  refine ho.boxSt 0 (off := 0) rfl rfl (by simp) fun h2 o2 _ => ?_
  exact hq j i _ h2 (.inr rfl) (.inl rfl) (by simpa using o2)
 ·exact hq i j n h (.inl rfl) (.inr rfl) ho
abbrev O2I (C : CSem) (E : ElOps) (C0 : CSem) (fL : Nat) (f1 : Nat) : Prop := ∀ (v0 v1 v2 v3 v4 : AVal) (h : AHeap) (Q : AVal → AHeap → Prop), slices_order2T.cps C E C0 fL v0 v1 v2 v3 v4 h (dn Q) → C f1 [v0, v1, v2, v3, v4] h Q
abbrev MedI (C : CSem) (E : ElOps) (C0 : CSem) (fL : Nat) (f1 f2 : Nat) : Prop := ∀ (v0 v1 v2 v3 v4 v5 : AVal) (h : AHeap) (Q : AVal → AHeap → Prop), slices_medianT.cps C E C0 fL f1 v0 v1 v2 v3 v4 v5 h (dn Q) → C f2 [v0, v1, v2, v3, v4, v5] h Q
abbrev AdjI (C : CSem) (E : ElOps) (C0 : CSem) (fL : Nat) (f2 f3 : Nat) : Prop := ∀ (v0 v1 v2 v3 : AVal) (h : AHeap) (Q : AVal → AHeap → Prop), slices_medianAdjacentT.cps C E C0 fL f2 v0 v1 v2 v3 h (dn Q) → C f3 [v0, v1, v2, v3] h Q
theorem median_spec {f1 : Nat} (io : O2I C E C0 fL f1) (S : SeqSpec E cs v) (hx : SlX h0 E.es x (G.map cs) R) (hc : CmpSpec C0 v c fL h0) {p : AVal} {n : Int} (ho : Owns h0 h [.box p [.int .i64 n]]) {i j k : Nat} (hi : i < G.length) (hj : j < G.length) (hk : k < G.length) {Q : AVal → AHeap → Prop}
  (hq : ∀ (m : Nat) (n' : Int) h', (m = i ∨ m = j ∨ m = k) → Owns h0 h' [.box p [.int .i64 n']] → Q (.int .i64 (m : Int)) h') : slices_medianT.cps C E C0 fL f1 x (.int .i64 (i : Int)) (.int .i64 (j : Int)) (.int .i64 (k : Int)) p f h Q := by
 simp -dsimp only [slices_medianT.cps, slices_medianT.k1]
 refine io _ _ _ _ _ _ _ (order2_spec S hx hc ho hi hj fun a b n1 h1 ha hb o1 => dn_same ?_)
 simp -dsimp only [V.ext_tup, List.getElem?_cons_zero, List.getElem?_cons_succ, B.pv_some]
 have la : a < G.length := by rcases ha with rfl | rfl <;> assumption
 have lb : b < G.length := by rcases hb with rfl | rfl <;> assumption
 refine io _ _ _ _ _ _ _ (order2_spec S hx hc o1 lb hk fun a2 b2 n2 h2 ha2 hb2 o2 => dn_same ?_)
 simp -dsimp only [V.ext_tup, List.getElem?_cons_zero, List.getElem?_cons_succ, B.pv_some]
 have la2 : a2 < G.length := by rcases ha2 with rfl | rfl <;> assumption
 refine io _ _ _ _ _ _ _ (order2_spec S hx hc o2 la la2 fun a3 b3 n3 h3 ha3 hb3 o3 => dn_same ?_)
 simp -dsimp only [V.ext_tup, List.getElem?_cons_zero, List.getElem?_cons_succ, B.pv_some]
 refine hq b3 n3 h3 ?_ o3
 omega
theorem medianAdjacent_spec {f1 f2 : Nat} (io : O2I C E C0 fL f1) (im : MedI C E C0 fL f1 f2) (S : SeqSpec E cs v) (hx : SlX h0 E.es x (G.map cs) R) (hc : CmpSpec C0 v c fL h0) {p : AVal} {n : Int} (ho : Owns h0 h [.box p [.int .i64 n]]) {i : Nat} (hi : 0 < i) (hi2 : i + 1 < G.length) (hl : G.length < 4611686018427387904) {Q : AVal → AHeap → Prop}
  (hq : ∀ (m : Nat) (n' : Int) h', i - 1 ≤ m → m ≤ i + 1 → Owns h0 h' [.box p [.int .i64 n']] → Q (.int .i64 (m : Int)) h') : slices_medianAdjacentT.cps C E C0 fL f2 x (.int .i64 (i : Int)) p f h Q := by
 have e1 : V.bin .sub (.int .i64 (i : Int)) (.int .i64 1) = some (.int .i64 ((i - 1 : Nat) : Int)) := by
  rw [V.bin_sub, wrap_i64 (by omega) (by omega)]; congr 2; omega
 simp -dsimp only [slices_medianAdjacentT.cps, slices_medianAdjacentT.k1, e1, add1 (show i < 4611686018427387904 by omega), B.pv_some]
 exact im _ _ _ _ _ _ _ _ (median_spec io S hx hc ho (by omega) (by omega) hi2 fun m n' h' hm o' => dn_same (hq m n' h' (by omega) (by omega) o'))
theorem reverseRange_spec (S : SeqSpec E cs v) (hl : G.length < 4611686018427387904) (ho : Rw E cs h0 h x G R) {a b : Nat} (hab : a < b) (hb : b ≤ G.length) {Q : AVal → AHeap → Prop} (hq : ∀ h' G', Within a b G G' → Rw E cs h0 h' x G' R → Q (.tup []) h') :
  slices_reverseRangeT.cps C E C0 fL x (.int .i64 (a : Int)) (.int .i64 (b : Int)) f h Q := by
 have e1 : V.bin .sub (.int .i64 (b : Int)) (.int .i64 1) = some (.int .i64 ((b - 1 : Nat) : Int)) := by
  rw [V.bin_sub, wrap_i64 (by omega) (by omega)]; congr 2; omega
 simp -dsimp only [slices_reverseRangeT.cps, e1, B.pv_some]
 refine LoopR.intro (fun t vs hh => ∃ (i j : Nat) (G' : List X), t = j ∧ vs = [.int .i64 (i : Int), .int .i64 (j : Int)] ∧ a ≤ i ∧ j < b ∧ Within a b G G' ∧ Rw E cs h0 hh x G' R) (b - 1) ?_ ⟨a, b - 1, G, rfl, rfl, Nat.le_refl _, by omega, Within.refl _ _ _, ho⟩
 rintro Y j vs hh ⟨i, _, G', rfl, rfl, hi, hj, W, o⟩ hY
 simp -dsimp only [slices_reverseRangeT.l2, slices_reverseRangeT.k1, lssN, B.pv_some]
 have hlen := W.len
 refine B.cond_bool (fun hc => ?_) (fun hc => hq hh G' W o)
 rw [decide_eq_true_eq] at hc
 have li : i < G'.length := by omega
 have lj : j < G'.length := by omega
 simp -dsimp only [o.idx lj, B.pv_some]
 refine o.ld S (List.getElem?_eq_getElem lj) ?_
 simp -dsimp only [o.idx li, B.pv_some]
 refine o.ld S (List.getElem?_eq_getElem li) ?_
 have ij := o.idx lj
 refine o.st S (t := G'[j]) li fun h1 o1 => ?_
 simp -dsimp only [ij, B.pv_some]
 refine o1.st S (t := G'[i]) (by simpa using lj) fun h2 o2 => ?_
 have e2 : V.bin .sub (.int .i64 (j : Int)) (.int .i64 1) = some (.int .i64 ((j - 1 : Nat) : Int)) := by
  rw [V.bin_sub, wrap_i64 (by omega) (by omega)]; congr 2; omega
 simp -dsimp only [add1 (show i < 4611686018427387904 by omega), e2, B.pv_some]
 exact hY (j - 1) _ _ (by omega) ⟨i + 1, j - 1, _, rfl, rfl, by omega, by omega, W.trans (swp_within li lj hi (by omega) (by omega) hj), o2⟩
theorem choosePivot_spec {f1 f2 f3 : Nat} (io : O2I C E C0 fL f1) (im : MedI C E C0 fL f1 f2) (ia : AdjI C E C0 fL f2 f3) (S : SeqSpec E cs v) (hx : SlX h E.es x (G.map cs) R) (h0le : h0.le h) (hc : CmpSpec C0 v c fL h0) (hl : G.length ≤ 100000000) {a b : Nat} (hab : a + 8 ≤ b) (hb : b ≤ G.length) {Q : AVal → AHeap → Prop}
  (hq : ∀ (m : Nat) (hint : Int) h', a ≤ m → m < b → h.le h' → Q (.tup [.int .i64 (m : Int), .int .i64 hint]) h') : slices_choosePivotT.cps C E C0 fL f2 f3 x (.int .i64 (a : Int)) (.int .i64 (b : Int)) f h Q := by
 have e1 := subNN (a := b) (b := a) (by omega) (by omega)
 simp -dsimp only [slices_choosePivotT.cps, e1, B.pv_some]
 intro id hid
 have o := (Owns.start h).newBox hid [.int .i64 0]
 simp only [List.nil_append] at o
 have q4 := quo4 (a := b - a) (by omega)
 have m1 := mulN (a := (b - a) / 4) (b := 1) (by omega)
 have m2 := mulN (a := (b - a) / 4) (b := 2) (by omega)
 have m3 := mulN (a := (b - a) / 4) (b := 3) (by omega)
 have a1 := addNN (a := a) (b := (b - a) / 4 * 1) (by omega)
 have a2 := addNN (a := a) (b := (b - a) / 4 * 2) (by omega)
 have a3 := addNN (a := a) (b := (b - a) / 4 * 3) (by omega)
 have g8 : V.bin .geq (.int .i64 ((b - a : Nat) : Int)) (.int .i64 8) = some (.bool true) := by rw [V.bin_geq, decide_eq_true (by omega)]
 have hc' : CmpSpec C0 v c fL h := ⟨fun h2 s t K hle hk => hc.call h2 s t K (AHeap.le_trans h0le hle) hk⟩
 simp -dsimp only [slices_choosePivotT.k6, slices_choosePivotT.k5, slices_choosePivotT.k4, slices_choosePivotT.k3, q4, B.pv_some]
 have m1' : V.bin .mul (.int .i64 (((b - a) / 4 : Nat) : Int)) (.int .i64 1) = some (.int .i64 (((b - a) / 4 * 1 : Nat) : Int)) := m1
 have m2' : V.bin .mul (.int .i64 (((b - a) / 4 : Nat) : Int)) (.int .i64 2) = some (.int .i64 (((b - a) / 4 * 2 : Nat) : Int)) := m2
 have m3' : V.bin .mul (.int .i64 (((b - a) / 4 : Nat) : Int)) (.int .i64 3) = some (.int .i64 (((b - a) / 4 * 3 : Nat) : Int)) := m3
 simp -dsimp only [q4, m1', m2', m3', a1, a2, a3, g8, B.cond_true, slices_choosePivotT.k5, slices_choosePivotT.k4, slices_choosePivotT.k3, slices_choosePivotT.k2, B.pv_some]
 have fin : ∀ (m : Nat) (n' : Int) h', a ≤ m → m < b → Owns h h' [.box (.ptr id 0 0) [.int .i64 n']] → slices_choosePivotT.k1 C E C0 fL f2 f3 Q (.ptr id 0 0) (.int .i64 (m : Int)) h' := fun m n' h' k1 k2 o' => by
  obtain ⟨id', e, hb'⟩ := o'.boxAt 0 rfl
  cases e
  have ld : A.ldv h' (.ptr id 0 0) = some (.int .i64 n') := by rw [ldv_at hb']; rfl
  simp -dsimp only [slices_choosePivotT.k1, B.ld_eq, ld, V.bin_eql, B.pv_some]
  refine B.cond_bool (fun _ => hq m _ h' k1 k2 o'.le) (fun _ => ?_)
  refine B.cond_bool (fun _ => hq m _ h' k1 k2 o'.le) (fun _ => hq m _ h' k1 k2 o'.le)
 have g50 : V.bin .geq (.int .i64 ((b - a : Nat) : Int)) (.int .i64 50) = some (.bool (decide (50 ≤ b - a))) := geqN (b := 50)
 simp -dsimp only [g50, B.pv_some]
 refine B.cond_bool (fun hd => ?_) (fun hd => ?_)
 ·rw [decide_eq_true_eq] at hd
  refine ia _ _ _ _ _ _ (medianAdjacent_spec io im S hx hc' o (by omega) (by omega) (by omega) fun i n1 h1 i1 i2 o1 => dn_same ?_)
  refine ia _ _ _ _ _ _ (medianAdjacent_spec io im S hx hc' o1 (by omega) (by omega) (by omega) fun j n2 h2 j1 j2 o2 => dn_same ?_)
  refine ia _ _ _ _ _ _ (medianAdjacent_spec io im S hx hc' o2 (by omega) (by omega) (by omega) fun k n3 h3 k1 k2 o3 => dn_same ?_)
  refine im _ _ _ _ _ _ _ _ (median_spec io S hx hc' o3 (by omega) (by omega) (by omega) fun m n4 h4 hm o4 => dn_same ?_)
  exact fin m n4 h4 (by omega) (by omega) o4
 ·refine im _ _ _ _ _ _ _ _ (median_spec io S hx hc' o (by omega) (by omega) (by omega) fun m n4 h4 hm o4 => dn_same ?_)
  exact fin m n4 h4 (by omega) (by omega) o4
end
section
variable {E : ElOps} {X : Type} {cs : X → List AVal} {v : X → AVal} {h0 h : AHeap} {x f : AVal} {G : List X} {R : List (List AVal)} {c : X → X → Int} {Q : AVal → AHeap → Prop} {Y1 : List AVal → AHeap → Prop} {a b i j : Nat}
theorem part_j (S : SeqSpec E cs v) (hc : CmpSpec C0 v c fL h0) (ho : Rw E cs h0 h x G R) (hl : G.length < 4611686018427387904) (hab : a < b) (p : PInv c a b G i j) (hi0 : j < i ∨ ∀ (h1 : i < G.length) (h2 : a < G.length), ¬ c G[i] G[a] < 0)
  (done : ∀ h' j', PInv c a b G i j' → j' < i → Rw E cs h0 h' x G R → slices_partitionT.k1 C E C0 fL Q x (.int .i64 (a : Int)) (.int .i64 (j' : Int)) h')
  (next : ∀ h' j' (hi : i < G.length) (hj : j' < G.length) , PInv c a b (swp G i j' hi hj) (i + 1) (j' - 1) → i < j' → j' < b → Rw E cs h0 h' x (swp G i j' hi hj) R → Y1 [.int .i64 ((i + 1 : Nat) : Int), .int .i64 ((j' - 1 : Nat) : Int)] h') :
  LoopR (slices_partitionT.l4 C E C0 fL Q Y1 x (.int .i64 (a : Int)) f (.int .i64 (i : Int))) [.int .i64 (j : Int)] h := by
 refine LoopR.intro (fun t vs hh => hh = h ∧ ∃ j' : Nat, t = j' ∧ vs = [.int .i64 (j' : Int)] ∧ PInv c a b G i j' ∧ (j' < i ∨ ∀ (h1 : i < G.length) (h2 : a < G.length), ¬ c G[i] G[a] < 0)) j ?_ ⟨rfl, j, rfl, rfl, p, hi0⟩
 rintro Y j' vs hh ⟨rfl, _, rfl, rfl, p, hi0⟩ hY
 have k1 := p.hi; have k2 := p.hij; have k3 := p.hj; have k4 := p.hb
 have la : a < G.length := by omega
 have lj : j' < G.length := by omega
 simp -dsimp only [slices_partitionT.l4, slices_partitionT.k3, leqN, B.pv_some]
 by_cases hle : i ≤ j'
 ·have li : i < G.length := by omega
  simp -dsimp only [hle, decide_true, B.gd_t, B.gdb_true, ho.idx lj, ho.idx la, B.pv_some]
  refine ho.ld S (List.getElem?_eq_getElem lj) ?_
  refine ho.ld S (List.getElem?_eq_getElem la) ?_
  refine hc.call _ _ _ _ ho.le ?_
  simp -dsimp only [hle, decide_true, B.gd_t, B.gdb_true, V.bin_lss, V.un_not, B.pick_t, B.pv_some]
  refine B.cond_bool (fun hd => ?_) (fun hd => ?_)
  ·have hd' : ¬ c G[j'] G[a] < 0 := by simpa using hd
   have e1 := subNN (a := j') (b := 1) (by omega) (by omega)
   have e1' : V.bin .sub (.int .i64 (j' : Int)) (.int .i64 1) = some (.int .i64 ((j' - 1 : Nat) : Int)) := e1
   simp -dsimp only [e1', B.pv_some]
   refine hY (j' - 1) _ _ (by omega) ⟨rfl, j' - 1, rfl, rfl, ⟨k4, k1, by omega, by omega, p.lo, fun k hk ha q1 q2 => ?_⟩, ?_⟩
   ·by_cases e : k = j'
    ·subst e; exact hd'
    ·exact p.hi2 k hk ha (by omega) q2
   ·rcases hi0 with h | h
    ·omega
    ·exact .inr h
  ·have hd' : c G[j'] G[a] < 0 := by simpa using hd
   have hni : ¬ c G[i] G[a] < 0 := by
    rcases hi0 with h | h
    ·omega
    ·exact h li la
   simp -dsimp only [slices_partitionT.k2, gtrN, show ¬ j' < i by omega, decide_false, B.cond_false, ho.idx lj, ho.idx li, B.pv_some]
   refine ho.ld S (List.getElem?_eq_getElem lj) ?_
   refine ho.ld S (List.getElem?_eq_getElem li) ?_
   refine ho.st S (t := G[j']) li fun h1 o1 => ?_
   refine o1.st S (t := G[i]) (by simpa using lj) fun h2 o2 => ?_
   have e1' : V.bin .sub (.int .i64 (j' : Int)) (.int .i64 1) = some (.int .i64 ((j' - 1 : Nat) : Int)) := subNN (a := j') (b := 1) (by omega) (by omega)
   simp -dsimp only [add1 (show i < 4611686018427387904 by omega), e1', B.pv_some]
   have hne : i ≠ j' := fun e => by subst e; exact hni hd'
   exact next h2 j' li lj (p.swap hle li lj la hni hd') (by omega) k3 o2
 ·simp -dsimp only [hle, decide_false, B.gd_t, B.gdb_false, B.pick_f, B.cond_false, slices_partitionT.k2, gtrN, show j' < i by omega, decide_true, B.cond_true, B.pv_some]
  exact done hh j' p (by omega) ho
theorem part_i (S : SeqSpec E cs v) (hc : CmpSpec C0 v c fL h0) (ho : Rw E cs h0 h x G R) (hl : G.length < 4611686018427387904) (hab : a < b) (p : PInv c a b G i j)
  (done : ∀ h' i' j', PInv c a b G i' j' → j' < i' → Rw E cs h0 h' x G R → slices_partitionT.k1 C E C0 fL Q x (.int .i64 (a : Int)) (.int .i64 (j' : Int)) h')
  (next : ∀ h' i' j' (hi : i' < G.length) (hj : j' < G.length), PInv c a b (swp G i' j' hi hj) (i' + 1) (j' - 1) → a < i' → i ≤ i' → i' < j' → j' < b → Rw E cs h0 h' x (swp G i' j' hi hj) R → Y1 [.int .i64 ((i' + 1 : Nat) : Int), .int .i64 ((j' - 1 : Nat) : Int)] h') :
  LoopR (slices_partitionT.l6 C E C0 fL Q Y1 x (.int .i64 (a : Int)) f (.int .i64 (j : Int))) [.int .i64 (i : Int)] h := by
 refine LoopR.intro (fun t vs hh => hh = h ∧ ∃ i' : Nat, i' + t = b ∧ i ≤ i' ∧ vs = [.int .i64 (i' : Int)] ∧ PInv c a b G i' j) (b - i) ?_ ⟨rfl, i, by have := p.hij; have := p.hj; omega, Nat.le_refl _, rfl, p⟩
 rintro Y t vs hh ⟨rfl, i', hit, hii, rfl, p⟩ hY
 have k1 := p.hi; have k2 := p.hij; have k3 := p.hj; have k4 := p.hb
 have la : a < G.length := by omega
 simp -dsimp only [slices_partitionT.l6, slices_partitionT.k5, leqN, B.pv_some]
 by_cases hle : i' ≤ j
 ·have li : i' < G.length := by omega
  simp -dsimp only [hle, decide_true, B.gd_t, B.gdb_true, ho.idx li, ho.idx la, B.pv_some]
  refine ho.ld S (List.getElem?_eq_getElem li) ?_
  refine ho.ld S (List.getElem?_eq_getElem la) ?_
  refine hc.call _ _ _ _ ho.le ?_
  simp -dsimp only [hle, decide_true, B.gd_t, B.gdb_true, V.bin_lss, B.pick_t, B.pv_some]
  refine B.cond_bool (fun hd => ?_) (fun hd => ?_)
  ·have hd' : c G[i'] G[a] < 0 := by simpa using hd
   simp -dsimp only [add1 (show i' < 4611686018427387904 by omega), B.pv_some]
   refine hY (b - (i' + 1)) _ _ (by omega) ⟨rfl, i' + 1, by omega, by omega, rfl, ⟨k4, by omega, k3, by omega, fun k hk ha q1 q2 => ?_, p.hi2⟩⟩
   by_cases e : k = i'
   ·subst e; exact hd'
   ·exact p.lo k hk ha q1 (by omega)
  ·have hd' : ¬ c G[i'] G[a] < 0 := by simpa using hd
   exact part_j S hc ho hl hab p (.inr fun _ _ => hd') (fun h' j' p' hlt o' => done h' i' j' p' hlt o') fun h' j' hi hj p' h1 h2 o' => next h' i' j' hi hj p' k1 hii h1 h2 o'
 ·simp -dsimp only [hle, decide_false, B.gd_t, B.gdb_false, B.pick_f, B.cond_false]
  exact part_j S hc ho hl hab p (.inl (by omega)) (fun h' j' p' hlt o' => done h' i' j' p' hlt o') fun h' j' hi hj p' h1 h2 o' => next h' i' j' hi hj p' k1 hii h1 h2 o'
theorem part_end (S : SeqSpec E cs v) (ho : Rw E cs h0 h x G R) (hab : a < b) (p : PInv c a b G i j) (hlt : j < i) (hq : ∀ h' m G', Parted c a b m G' → Within a b G G' → Rw E cs h0 h' x G' R → Q (.tup [.int .i64 (m : Int), .bool false]) h') :
  slices_partitionT.k1 C E C0 fL Q x (.int .i64 (a : Int)) (.int .i64 (j : Int)) h := by
 have k1 := p.hi; have k2 := p.hij; have k3 := p.hj; have k4 := p.hb
 have la : a < G.length := by omega
 have lj : j < G.length := by omega
 simp -dsimp only [slices_partitionT.k1, ho.idx lj, ho.idx la, B.pv_some]
 refine ho.ld S (List.getElem?_eq_getElem la) ?_
 refine ho.ld S (List.getElem?_eq_getElem lj) ?_
 refine ho.st S (t := G[a]) lj fun h1 o1 => ?_
 refine o1.st S (t := G[j]) (by simpa using la) fun h2 o2 => ?_
 exact hq h2 j _ (p.done hab hlt lj la) (swp_within lj la (by omega) k3 (Nat.le_refl _) hab) o2
theorem part_main (S : SeqSpec E cs v) (hc : CmpSpec C0 v c fL h0) (ho : Rw E cs h0 h x G R) (hl : G.length < 4611686018427387904) (hab : a < b) (p : PInv c a b G i j)
  (hq : ∀ h' m G', Parted c a b m G' → Within a b G G' → Rw E cs h0 h' x G' R → Q (.tup [.int .i64 (m : Int), .bool false]) h') :
  LoopR (slices_partitionT.l7 C E C0 fL Q x (.int .i64 (a : Int)) f) [.int .i64 (i : Int), .int .i64 (j : Int)] h := by
 refine LoopR.intro (fun t vs hh => ∃ (i' j' : Nat) (G' : List X), i' + t = b ∧ vs = [.int .i64 (i' : Int), .int .i64 (j' : Int)] ∧ Within a b G G' ∧ PInv c a b G' i' j' ∧ Rw E cs h0 hh x G' R) (b - i) ?_ ⟨i, j, G, by have := p.hij; have := p.hj; omega, rfl, Within.refl _ _ _, p, ho⟩
 rintro Y t vs hh ⟨i', j', G', hit, rfl, W, p, o⟩ hY
 have hlen := W.len
 simp -dsimp only [slices_partitionT.l7]
 refine part_i S hc o (by omega) hab p (fun h' i2 j2 p2 hlt o2 => part_end S o2 hab p2 hlt fun h3 m G3 P3 W3 o3 => hq h3 m G3 P3 (W.trans W3) o3) fun h' i2 j2 hi hj p2 h1 h2 h3 h4 o2 => ?_
 exact hY (b - (i2 + 1)) _ _ (by omega) ⟨i2 + 1, j2 - 1, _, by omega, rfl, W.trans (swp_within hi hj (by omega) (by omega) (by omega) h4), p2, o2⟩
end
section
variable {E : ElOps} {X : Type} {cs : X → List AVal} {v : X → AVal} {h0 h : AHeap} {x f : AVal} {G : List X} {R : List (List AVal)} {c : X → X → Int} {Q : AVal → AHeap → Prop} {a b i j : Nat}
theorem part_k10 (S : SeqSpec E cs v) (hc : CmpSpec C0 v c fL h0) (ho : Rw E cs h0 h x G R) (hl : G.length < 4611686018427387904) (hab : a < b) (p : PInv c a b G i j)
  (hd : j < i ∨ ∃ (h1 : i < G.length) (h2 : a < G.length) (h3 : j < G.length), i ≤ j ∧ ¬ c G[i] G[a] < 0 ∧ c G[j] G[a] < 0) (hq : PartQ E cs h0 x c a b R G Q) :
  slices_partitionT.k10 C E C0 fL Q x (.int .i64 (a : Int)) f (.int .i64 (i : Int)) (.int .i64 (j : Int)) h := by
 have k1 := p.hi; have k2 := p.hij; have k3 := p.hj; have k4 := p.hb
 have la : a < G.length := by omega
 have lj : j < G.length := by omega
 rcases hd with hlt | ⟨li, _, _, hle, n1, n2⟩
 ·simp -dsimp only [slices_partitionT.k10, gtrN, hlt, decide_true, B.cond_true, ho.idx lj, ho.idx la, B.pv_some]
  refine ho.ld S (List.getElem?_eq_getElem la) ?_
  refine ho.ld S (List.getElem?_eq_getElem lj) ?_
  refine ho.st S (t := G[a]) lj fun h1 o1 => ?_
  refine o1.st S (t := G[j]) (by simpa using la) fun h2 o2 => ?_
  exact hq h2 j _ true (p.done hab hlt lj la) (swp_within lj la (by omega) k3 (Nat.le_refl _) hab) o2
 ·simp -dsimp only [slices_partitionT.k10, slices_partitionT.k9, gtrN, show ¬ j < i by omega, decide_false, B.cond_false, ho.idx lj, ho.idx li, B.pv_some]
  refine ho.ld S (List.getElem?_eq_getElem lj) ?_
  refine ho.ld S (List.getElem?_eq_getElem li) ?_
  refine ho.st S (t := G[j]) li fun h1 o1 => ?_
  refine o1.st S (t := G[i]) (by simpa using lj) fun h2 o2 => ?_
  have hne : i ≠ j := fun e => by subst e; exact n1 n2
  have e1' : V.bin .sub (.int .i64 (j : Int)) (.int .i64 1) = some (.int .i64 ((j - 1 : Nat) : Int)) := subNN (a := j) (b := 1) (by omega) (by omega)
  simp -dsimp only [slices_partitionT.k8, add1 (show i < 4611686018427387904 by omega), e1', B.pv_some]
  have W := swp_within li lj (by omega) (by omega) (by omega : a ≤ j) k3
  exact part_main S hc (G := swp G i j li lj) o2 (by rw [swp_len li lj]; omega) hab (p.swap hle li lj la n1 n2) fun h' m G' P' W' o' => hq h' m G' false P' (W.trans W') o'
theorem part_j1 (S : SeqSpec E cs v) (hc : CmpSpec C0 v c fL h0) (ho : Rw E cs h0 h x G R) (hl : G.length < 4611686018427387904) (hab : a < b) (p : PInv c a b G i j) (hi0 : j < i ∨ ∀ (h1 : i < G.length) (h2 : a < G.length), ¬ c G[i] G[a] < 0) (hq : PartQ E cs h0 x c a b R G Q) :
  LoopR (slices_partitionT.l12 C E C0 fL Q x (.int .i64 (a : Int)) f (.int .i64 (i : Int))) [.int .i64 (j : Int)] h := by
 refine LoopR.intro (fun t vs hh => hh = h ∧ ∃ j' : Nat, t = j' ∧ vs = [.int .i64 (j' : Int)] ∧ PInv c a b G i j' ∧ (j' < i ∨ ∀ (h1 : i < G.length) (h2 : a < G.length), ¬ c G[i] G[a] < 0)) j ?_ ⟨rfl, j, rfl, rfl, p, hi0⟩
 rintro Y j' vs hh ⟨rfl, _, rfl, rfl, p, hi0⟩ hY
 have k1 := p.hi; have k2 := p.hij; have k3 := p.hj; have k4 := p.hb
 have la : a < G.length := by omega
 have lj : j' < G.length := by omega
 simp -dsimp only [slices_partitionT.l12, slices_partitionT.k11, leqN, B.pv_some]
 by_cases hle : i ≤ j'
 ·have li : i < G.length := by omega
  simp -dsimp only [hle, decide_true, B.gd_t, B.gdb_true, ho.idx lj, ho.idx la, B.pv_some]
  refine ho.ld S (List.getElem?_eq_getElem lj) ?_
  refine ho.ld S (List.getElem?_eq_getElem la) ?_
  refine hc.call _ _ _ _ ho.le ?_
  simp -dsimp only [hle, decide_true, B.gd_t, B.gdb_true, V.bin_lss, V.un_not, B.pick_t, B.pv_some]
  refine B.cond_bool (fun hd => ?_) (fun hd => ?_)
  ·have hd' : ¬ c G[j'] G[a] < 0 := by simpa using hd
   have e1' : V.bin .sub (.int .i64 (j' : Int)) (.int .i64 1) = some (.int .i64 ((j' - 1 : Nat) : Int)) := subNN (a := j') (b := 1) (by omega) (by omega)
   simp -dsimp only [e1', B.pv_some]
   refine hY (j' - 1) _ _ (by omega) ⟨rfl, j' - 1, rfl, rfl, ⟨k4, k1, by omega, by omega, p.lo, fun k hk ha q1 q2 => ?_⟩, ?_⟩
   ·by_cases e : k = j'
    ·subst e; exact hd'
    ·exact p.hi2 k hk ha (by omega) q2
   ·rcases hi0 with h | h
    ·omega
    ·exact .inr h
  ·have hd' : c G[j'] G[a] < 0 := by simpa using hd
   have hni : ¬ c G[i] G[a] < 0 := by
    rcases hi0 with h | h
    ·omega
    ·exact h li la
   exact part_k10 S hc ho hl hab p (.inr ⟨li, la, lj, hle, hni, hd'⟩) hq
 ·simp -dsimp only [hle, decide_false, B.gd_t, B.gdb_false, B.pick_f, B.cond_false]
  exact part_k10 S hc ho hl hab p (.inl (by omega)) hq
theorem part_i1 (S : SeqSpec E cs v) (hc : CmpSpec C0 v c fL h0) (ho : Rw E cs h0 h x G R) (hl : G.length < 4611686018427387904) (hab : a < b) (p : PInv c a b G i j) (hq : PartQ E cs h0 x c a b R G Q) :
  LoopR (slices_partitionT.l14 C E C0 fL Q x (.int .i64 (a : Int)) f (.int .i64 (j : Int))) [.int .i64 (i : Int)] h := by
 refine LoopR.intro (fun t vs hh => hh = h ∧ ∃ i' : Nat, i' + t = b ∧ vs = [.int .i64 (i' : Int)] ∧ PInv c a b G i' j) (b - i) ?_ ⟨rfl, i, by have := p.hij; have := p.hj; omega, rfl, p⟩
 rintro Y t vs hh ⟨rfl, i', hit, rfl, p⟩ hY
 have k1 := p.hi; have k2 := p.hij; have k3 := p.hj; have k4 := p.hb
 have la : a < G.length := by omega
 simp -dsimp only [slices_partitionT.l14, slices_partitionT.k13, leqN, B.pv_some]
 by_cases hle : i' ≤ j
 ·have li : i' < G.length := by omega
  simp -dsimp only [hle, decide_true, B.gd_t, B.gdb_true, ho.idx li, ho.idx la, B.pv_some]
  refine ho.ld S (List.getElem?_eq_getElem li) ?_
  refine ho.ld S (List.getElem?_eq_getElem la) ?_
  refine hc.call _ _ _ _ ho.le ?_
  simp -dsimp only [hle, decide_true, B.gd_t, B.gdb_true, V.bin_lss, B.pick_t, B.pv_some]
  refine B.cond_bool (fun hd => ?_) (fun hd => ?_)
  ·have hd' : c G[i'] G[a] < 0 := by simpa using hd
   simp -dsimp only [add1 (show i' < 4611686018427387904 by omega), B.pv_some]
   refine hY (b - (i' + 1)) _ _ (by omega) ⟨rfl, i' + 1, by omega, rfl, ⟨k4, by omega, k3, by omega, fun k hk ha q1 q2 => ?_, p.hi2⟩⟩
   by_cases e : k = i'
   ·subst e; exact hd'
   ·exact p.lo k hk ha q1 (by omega)
  ·have hd' : ¬ c G[i'] G[a] < 0 := by simpa using hd
   exact part_j1 S hc ho hl hab p (.inr fun _ _ => hd') hq
 ·simp -dsimp only [hle, decide_false, B.gd_t, B.gdb_false, B.pick_f, B.cond_false]
  exact part_j1 S hc ho hl hab p (.inl (by omega)) hq
theorem partition_spec (S : SeqSpec E cs v) (hc : CmpSpec C0 v c fL h0) (ho : Rw E cs h0 h x G R) (hl : G.length < 4611686018427387904) {pv : Nat} (hp1 : a ≤ pv) (hp2 : pv < b) (hb : b ≤ G.length) (hq : PartQ E cs h0 x c a b R G Q) :
  slices_partitionT.cps C E C0 fL x (.int .i64 (a : Int)) (.int .i64 (b : Int)) (.int .i64 (pv : Int)) f h Q := by
 have la : a < G.length := by omega
 have lp : pv < G.length := by omega
 simp -dsimp only [slices_partitionT.cps, slices_partitionT.k16, ho.idx lp, ho.idx la, B.pv_some]
 refine ho.ld S (List.getElem?_eq_getElem lp) ?_
 refine ho.ld S (List.getElem?_eq_getElem la) ?_
 refine ho.st S (t := G[pv]) la fun h1 o1 => ?_
 refine o1.st S (t := G[a]) (by simpa using lp) fun h2 o2 => ?_
 have e1' : V.bin .sub (.int .i64 (b : Int)) (.int .i64 1) = some (.int .i64 ((b - 1 : Nat) : Int)) := subNN (a := b) (b := 1) (by omega) (by omega)
 simp -dsimp only [slices_partitionT.k15, add1 (show a < 4611686018427387904 by omega), e1', B.pv_some]
 have W := swp_within la lp (Nat.le_refl _) (by omega) hp1 hp2
 have hsl := swp_len la lp
 refine part_i1 S hc (G := swp G a pv la lp) o2 (by omega) (by omega) ⟨by omega, by omega, by omega, by omega, fun k _ _ q1 q2 => by omega, fun k _ _ q1 q2 => by omega⟩ fun h' m G' t P' W' o' => hq h' m G' t P' (W.trans W') o'
end
section
variable {E : ElOps} {X : Type} {cs : X → List AVal} {v : X → AVal} {h0 h : AHeap} {x f : AVal} {G : List X} {R : List (List AVal)} {c : X → X → Int} {Q : AVal → AHeap → Prop} {Y1 : List AVal → AHeap → Prop} {a b i j : Nat}
theorem eq_j (S : SeqSpec E cs v) (hc : CmpSpec C0 v c fL h0) (ho : Rw E cs h0 h x G R) (hl : G.length < 4611686018427387904) (hab : a < b) (p : EInv c a b G i j) (hi0 : j < i ∨ ∀ (h1 : i < G.length) (h2 : a < G.length), c G[a] G[i] < 0)
  (done : ∀ h' j', EInv c a b G i j' → j' < i → Rw E cs h0 h' x G R → Q (.int .i64 (i : Int)) h')
  (next : ∀ h' j' (hi : i < G.length) (hj : j' < G.length), EInv c a b (swp G i j' hi hj) (i + 1) (j' - 1) → i < j' → j' < b → Rw E cs h0 h' x (swp G i j' hi hj) R → Y1 [.int .i64 ((i + 1 : Nat) : Int), .int .i64 ((j' - 1 : Nat) : Int)] h') :
  LoopR (slices_partitionEqualT.l3 C E C0 fL Q Y1 x (.int .i64 (a : Int)) f (.int .i64 (i : Int))) [.int .i64 (j : Int)] h := by
 refine LoopR.intro (fun t vs hh => hh = h ∧ ∃ j' : Nat, t = j' ∧ vs = [.int .i64 (j' : Int)] ∧ EInv c a b G i j' ∧ (j' < i ∨ ∀ (h1 : i < G.length) (h2 : a < G.length), c G[a] G[i] < 0)) j ?_ ⟨rfl, j, rfl, rfl, p, hi0⟩
 rintro Y j' vs hh ⟨rfl, _, rfl, rfl, p, hi0⟩ hY
 have k1 := p.hi; have k2 := p.hij; have k3 := p.hj; have k4 := p.hb
 have la : a < G.length := by omega
 have lj : j' < G.length := by omega
 simp -dsimp only [slices_partitionEqualT.l3, slices_partitionEqualT.k2, leqN, B.pv_some]
 by_cases hle : i ≤ j'
 ·have li : i < G.length := by omega
  simp -dsimp only [hle, decide_true, B.gd_t, B.gdb_true, ho.idx lj, ho.idx la, B.pv_some]
  refine ho.ld S (List.getElem?_eq_getElem la) ?_
  refine ho.ld S (List.getElem?_eq_getElem lj) ?_
  refine hc.call _ _ _ _ ho.le ?_
  simp -dsimp only [hle, decide_true, B.gd_t, B.gdb_true, V.bin_lss, B.pick_t, B.pv_some]
  refine B.cond_bool (fun hd => ?_) (fun hd => ?_)
  ·have hd' : c G[a] G[j'] < 0 := by simpa using hd
   have e1' : V.bin .sub (.int .i64 (j' : Int)) (.int .i64 1) = some (.int .i64 ((j' - 1 : Nat) : Int)) := subNN (a := j') (b := 1) (by omega) (by omega)
   simp -dsimp only [e1', B.pv_some]
   refine hY (j' - 1) _ _ (by omega) ⟨rfl, j' - 1, rfl, rfl, ⟨k4, k1, by omega, by omega, p.lo, fun k hk ha q1 q2 => ?_⟩, ?_⟩
   ·by_cases e : k = j'
    ·subst e; exact hd'
    ·exact p.hi2 k hk ha (by omega) q2
   ·rcases hi0 with h | h
    ·omega
    ·exact .inr h
  ·have hd' : ¬ c G[a] G[j'] < 0 := by simpa using hd
   have hni : c G[a] G[i] < 0 := by
    rcases hi0 with h | h
    ·omega
    ·exact h li la
   simp -dsimp only [slices_partitionEqualT.k1, gtrN, show ¬ j' < i by omega, decide_false, B.cond_false, ho.idx lj, ho.idx li, B.pv_some]
   refine ho.ld S (List.getElem?_eq_getElem lj) ?_
   refine ho.ld S (List.getElem?_eq_getElem li) ?_
   refine ho.st S (t := G[j']) li fun h1 o1 => ?_
   refine o1.st S (t := G[i]) (by simpa using lj) fun h2 o2 => ?_
   have e1' : V.bin .sub (.int .i64 (j' : Int)) (.int .i64 1) = some (.int .i64 ((j' - 1 : Nat) : Int)) := subNN (a := j') (b := 1) (by omega) (by omega)
   simp -dsimp only [add1 (show i < 4611686018427387904 by omega), e1', B.pv_some]
   have hne : i ≠ j' := fun e => by subst e; exact hd' hni
   exact next h2 j' li lj (p.swap hle li lj la hni hd') (by omega) k3 o2
 ·simp -dsimp only [hle, decide_false, B.gd_t, B.gdb_false, B.pick_f, B.cond_false, slices_partitionEqualT.k1, gtrN, show j' < i by omega, decide_true, B.cond_true, B.pv_some]
  exact done hh j' p (by omega) ho
theorem eq_i (S : SeqSpec E cs v) (hc : CmpSpec C0 v c fL h0) (ho : Rw E cs h0 h x G R) (hl : G.length < 4611686018427387904) (hab : a < b) (p : EInv c a b G i j)
  (done : ∀ h' i' j', EInv c a b G i' j' → j' < i' → Rw E cs h0 h' x G R → Q (.int .i64 (i' : Int)) h')
  (next : ∀ h' i' j' (hi : i' < G.length) (hj : j' < G.length), EInv c a b (swp G i' j' hi hj) (i' + 1) (j' - 1) → a < i' → i ≤ i' → i' < j' → j' < b → Rw E cs h0 h' x (swp G i' j' hi hj) R → Y1 [.int .i64 ((i' + 1 : Nat) : Int), .int .i64 ((j' - 1 : Nat) : Int)] h') :
  LoopR (slices_partitionEqualT.l5 C E C0 fL Q Y1 x (.int .i64 (a : Int)) f (.int .i64 (j : Int))) [.int .i64 (i : Int)] h := by
 refine LoopR.intro (fun t vs hh => hh = h ∧ ∃ i' : Nat, i' + t = b ∧ i ≤ i' ∧ vs = [.int .i64 (i' : Int)] ∧ EInv c a b G i' j) (b - i) ?_ ⟨rfl, i, by have := p.hij; have := p.hj; omega, Nat.le_refl _, rfl, p⟩
 rintro Y t vs hh ⟨rfl, i', hit, hii, rfl, p⟩ hY
 have k1 := p.hi; have k2 := p.hij; have k3 := p.hj; have k4 := p.hb
 have la : a < G.length := by omega
 simp -dsimp only [slices_partitionEqualT.l5, slices_partitionEqualT.k4, leqN, B.pv_some]
 by_cases hle : i' ≤ j
 ·have li : i' < G.length := by omega
  simp -dsimp only [hle, decide_true, B.gd_t, B.gdb_true, ho.idx li, ho.idx la, B.pv_some]
  refine ho.ld S (List.getElem?_eq_getElem la) ?_
  refine ho.ld S (List.getElem?_eq_getElem li) ?_
  refine hc.call _ _ _ _ ho.le ?_
  simp -dsimp only [hle, decide_true, B.gd_t, B.gdb_true, V.bin_lss, V.un_not, B.pick_t, B.pv_some]
  refine B.cond_bool (fun hd => ?_) (fun hd => ?_)
  ·have hd' : ¬ c G[a] G[i'] < 0 := by simpa using hd
   simp -dsimp only [add1 (show i' < 4611686018427387904 by omega), B.pv_some]
   refine hY (b - (i' + 1)) _ _ (by omega) ⟨rfl, i' + 1, by omega, by omega, rfl, ⟨k4, by omega, k3, by omega, fun k hk ha q1 q2 => ?_, p.hi2⟩⟩
   by_cases e : k = i'
   ·subst e; exact hd'
   ·exact p.lo k hk ha q1 (by omega)
  ·have hd' : c G[a] G[i'] < 0 := by simpa using hd
   exact eq_j S hc ho hl hab p (.inr fun _ _ => hd') (fun h' j' p' hlt o' => done h' i' j' p' hlt o') fun h' j' hi hj p' h1 h2 o' => next h' i' j' hi hj p' k1 hii h1 h2 o'
 ·simp -dsimp only [hle, decide_false, B.gd_t, B.gdb_false, B.pick_f, B.cond_false]
  exact eq_j S hc ho hl hab p (.inl (by omega)) (fun h' j' p' hlt o' => done h' i' j' p' hlt o') fun h' j' hi hj p' h1 h2 o' => next h' i' j' hi hj p' k1 hii h1 h2 o'
theorem eq_main (S : SeqSpec E cs v) (hc : CmpSpec C0 v c fL h0) (ho : Rw E cs h0 h x G R) (hl : G.length < 4611686018427387904) (hab : a < b) (p : EInv c a b G i j)
  (hq : ∀ h' i' j' G', EInv c a b G' i' j' → j' < i' → Within (a + 1) b G G' → Rw E cs h0 h' x G' R → Q (.int .i64 (i' : Int)) h') :
  LoopR (slices_partitionEqualT.l6 C E C0 fL Q x (.int .i64 (a : Int)) f) [.int .i64 (i : Int), .int .i64 (j : Int)] h := by
 refine LoopR.intro (fun t vs hh => ∃ (i' j' : Nat) (G' : List X), i' + t = b ∧ vs = [.int .i64 (i' : Int), .int .i64 (j' : Int)] ∧ Within (a + 1) b G G' ∧ EInv c a b G' i' j' ∧ Rw E cs h0 hh x G' R) (b - i) ?_ ⟨i, j, G, by have := p.hij; have := p.hj; omega, rfl, Within.refl _ _ _, p, ho⟩
 rintro Y t vs hh ⟨i', j', G', hit, rfl, W, p, o⟩ hY
 have hlen := W.len
 simp -dsimp only [slices_partitionEqualT.l6]
 refine eq_i S hc o (by omega) hab p (fun h' i2 j2 p2 hlt o2 => hq h' i2 j2 G' p2 hlt W o2) fun h' i2 j2 hi hj p2 h1 h2 h3 h4 o2 => ?_
 exact hY (b - (i2 + 1)) _ _ (by omega) ⟨i2 + 1, j2 - 1, _, by omega, rfl, W.trans (swp_within hi hj (by omega) (by omega) (by omega) h4), p2, o2⟩
theorem partitionEqual_spec (S : SeqSpec E cs v) (hc : CmpSpec C0 v c fL h0) (ho : Rw E cs h0 h x G R) (hl : G.length < 4611686018427387904) {pv : Nat} (hp1 : a ≤ pv) (hp2 : pv < b) (hb : b ≤ G.length)
  (hq : ∀ h' i' j' G', EInv c a b G' i' j' → j' < i' → Within a b G G' → (∀ (h1 : a < G'.length) (h2 : pv < G.length), G'[a] = G[pv]) → Rw E cs h0 h' x G' R → Q (.int .i64 (i' : Int)) h') :
  slices_partitionEqualT.cps C E C0 fL x (.int .i64 (a : Int)) (.int .i64 (b : Int)) (.int .i64 (pv : Int)) f h Q := by
 have la : a < G.length := by omega
 have lp : pv < G.length := by omega
 simp -dsimp only [slices_partitionEqualT.cps, slices_partitionEqualT.k8, ho.idx lp, ho.idx la, B.pv_some]
 refine ho.ld S (List.getElem?_eq_getElem lp) ?_
 refine ho.ld S (List.getElem?_eq_getElem la) ?_
 refine ho.st S (t := G[pv]) la fun h1 o1 => ?_
 refine o1.st S (t := G[a]) (by simpa using lp) fun h2 o2 => ?_
 have e1' : V.bin .sub (.int .i64 (b : Int)) (.int .i64 1) = some (.int .i64 ((b - 1 : Nat) : Int)) := subNN (a := b) (b := 1) (by omega) (by omega)
 simp -dsimp only [slices_partitionEqualT.k7, add1 (show a < 4611686018427387904 by omega), e1', B.pv_some]
 have W := swp_within la lp (Nat.le_refl _) (by omega) hp1 hp2
 have hsl := swp_len la lp
 refine eq_main S hc (G := swp G a pv la lp) o2 (by omega) (by omega) ⟨by omega, by omega, by omega, by omega, fun k _ _ q1 q2 => by omega, fun k _ _ q1 q2 => by omega⟩ fun h' i' j' G' p' hlt W' o' => hq h' i' j' G' p' hlt (W.trans (W'.mono (by omega) (Nat.le_refl _))) (fun h1 h2 => ?_) o'
 rw [W'.same (.inl (by omega)) h1 (by omega), swp_at la lp (by omega) la]
 split
 ·rename_i e; simp only [e]
 ·rw [if_pos rfl]
end
section
variable {X : Type} {c : X → X → Int} {a n lo r ch : Nat} {G : List X}
end
section
variable {E : ElOps} {X : Type} {cs : X → List AVal} {v : X → AVal} {h0 h : AHeap} {x f : AVal} {G : List X} {R : List (List AVal)} {c : X → X → Int} {Q : AVal → AHeap → Prop} {Y1 : List AVal → AHeap → Prop} {a n lo r ch : Nat}
theorem sift_k1 (S : SeqSpec E cs v) (W : Weak (lessC c)) (hc : CmpSpec C0 v c fL h0) (ho : Rw E cs h0 h x G R) (hl : G.length < 1000000000) (p : SInv c a n lo r G) (hlo : lo ≤ r) (hch : ch < n) (hp : (ch - 1) / 2 = r) (hc0 : 0 < ch)
  (hmax : ∀ k, 0 < k → k < n → (k - 1) / 2 = r → (h1 : a + ch < G.length) → (h2 : a + k < G.length) → ¬ c G[a + ch] G[a + k] < 0)
  (done : ∀ h', Heap c a n lo G → Rw E cs h0 h' x G R → Q (.tup []) h')
  (next : ∀ h' (hr : a + r < G.length) (hcl : a + ch < G.length), SInv c a n lo ch (swp G (a + r) (a + ch) hr hcl) → Rw E cs h0 h' x (swp G (a + r) (a + ch) hr hcl) R → Y1 [.int .i64 (ch : Int)] h') :
  slices_siftDownT.k1 C E C0 fL Q Y1 x (.int .i64 (n : Int)) (.int .i64 (a : Int)) f (.int .i64 (r : Int)) (.int .i64 (ch : Int)) h := by
 have hlen := p.len
 have lr : a + r < G.length := by omega
 have lc : a + ch < G.length := by omega
 have ar := addNN (a := a) (b := r) (by omega)
 have ac := addNN (a := a) (b := ch) (by omega)
 simp -dsimp only [slices_siftDownT.k1, ar, ac, ho.idx lr, ho.idx lc, B.pv_some]
 refine ho.ld S (List.getElem?_eq_getElem lr) ?_
 refine ho.ld S (List.getElem?_eq_getElem lc) ?_
 refine hc.call _ _ _ _ ho.le ?_
 simp -dsimp only [V.bin_lss, V.un_not, B.pv_some]
 refine B.cond_bool (fun hd => ?_) (fun hd => ?_)
 ·have hd' : ¬ c G[a + r] G[a + ch] < 0 := by simpa using hd
  refine done h (p.done fun k k0 hk hkp h1 h2 => ?_) ho
  have := W.ntrans (a := G[a + r]) (b := G[a + ch]) (c := G[a + k]) (by unfold lessC; exact decide_eq_false hd') (by unfold lessC; exact decide_eq_false (hmax k k0 hk hkp lc h2))
  unfold lessC at this; exact of_decide_eq_false this
 ·have hd' : c G[a + r] G[a + ch] < 0 := by simpa using hd
  simp -dsimp only [ar, ac, ho.idx lr, ho.idx lc, B.pv_some]
  refine ho.ld S (List.getElem?_eq_getElem lc) ?_
  refine ho.ld S (List.getElem?_eq_getElem lr) ?_
  refine ho.st S (t := G[a + ch]) lr fun h1 o1 => ?_
  refine o1.st S (t := G[a + r]) (by simpa using lc) fun h2 o2 => ?_
  exact next h2 lr lc (p.step W hlo hch hp hc0 lr lc hd' fun k k0 hk hkp h2 => hmax k k0 hk hkp lc h2) o2
theorem siftDown_spec (S : SeqSpec E cs v) (W : Weak (lessC c)) (hc : CmpSpec C0 v c fL h0) (ho : Rw E cs h0 h x G R) (hl : G.length < 1000000000) (p : SInv c a n lo r G) (hlo : lo ≤ r) (hrn : r ≤ n) {b : Nat} (hb : a + n ≤ b)
  (hq : ∀ h' G', Heap c a n lo G' → Within a b G G' → Rw E cs h0 h' x G' R → Q (.tup []) h') :
  slices_siftDownT.cps C E C0 fL x (.int .i64 (r : Int)) (.int .i64 (n : Int)) (.int .i64 (a : Int)) f h Q := by
 simp -dsimp only [slices_siftDownT.cps]
 refine LoopR.intro (fun t vs hh => ∃ (r' : Nat) (G' : List X), r' + t = n ∧ vs = [.int .i64 (r' : Int)] ∧ lo ≤ r' ∧ SInv c a n lo r' G' ∧ Within a b G G' ∧ Rw E cs h0 hh x G' R) (n - r) ?_ ⟨r, G, by omega, rfl, hlo, p, Within.refl _ _ _, ho⟩
 rintro Y t vs hh ⟨r', G', hrt, rfl, hlo', p', W', o⟩ hY
 have hlen := W'.len
 have pl := p'.len
 have e1 : V.bin .mul (.int .i64 2) (.int .i64 (r' : Int)) = some (.int .i64 ((2 * r' : Nat) : Int)) := mulN (a := 2) (b := r') (by omega)
 simp -dsimp only [slices_siftDownT.l4, slices_siftDownT.k3, e1, add1 (show 2 * r' < 4611686018427387904 by omega), geqN, B.pv_some]
 refine B.cond_bool (fun hd => ?_) (fun hd => ?_)
 ·rw [decide_eq_true_eq] at hd
  exact hq hh G' (p'.done fun k k0 hk hkp _ _ => by omega) W' o
 ·rw [decide_eq_false_iff_not] at hd
  have fin : ∀ ch, ch < n → (ch - 1) / 2 = r' → 0 < ch → (∀ k, 0 < k → k < n → (k - 1) / 2 = r' → (h1 : a + ch < G'.length) → (h2 : a + k < G'.length) → ¬ c G'[a + ch] G'[a + k] < 0) → slices_siftDownT.k1 C E C0 fL Q Y x (.int .i64 (n : Int)) (.int .i64 (a : Int)) f (.int .i64 (r' : Int)) (.int .i64 (ch : Int)) hh := fun ch c1 c2 c3 c4 =>
   sift_k1 S W hc o (by omega) p' hlo' c1 c2 c3 c4 (fun h' hp o' => hq h' G' hp W' o') fun h' hr hcl p2 o2 => hY (n - ch) _ _ (by omega) ⟨ch, _, by omega, rfl, by omega, p2, W'.trans (swp_within hr hcl (by omega) (by omega) (by omega) (by omega)), o2⟩
  have irr : ∀ t : X, ¬ c t t < 0 := fun t => by
   have := W.irr t; unfold lessC at this; exact of_decide_eq_false this
  have a1 := addNN (a := a) (b := 2 * r' + 1) (by omega)
  simp -dsimp only [slices_siftDownT.k2, add1 (show 2 * r' + 1 < 4611686018427387904 by omega), lssN, B.pv_some]
  by_cases h2 : 2 * r' + 1 + 1 < n
  ·have l1 : a + (2 * r' + 1) < G'.length := by omega
   have l2 : a + (2 * r' + 1) + 1 < G'.length := by omega
   simp -dsimp only [h2, decide_true, B.gd_t, B.gdb_true, a1, add1 (show a + (2 * r' + 1) < 4611686018427387904 by omega), o.idx l1, o.idx l2, B.pv_some]
   refine o.ld S (List.getElem?_eq_getElem l1) ?_
   refine o.ld S (List.getElem?_eq_getElem l2) ?_
   refine hc.call _ _ _ _ o.le ?_
   simp -dsimp only [h2, decide_true, B.gd_t, B.gdb_true, V.bin_lss, B.pick_t, B.pv_some]
   refine B.cond_bool (fun hf => ?_) (fun hf => ?_)
   ·have hf' : c G'[a + (2 * r' + 1)] G'[a + (2 * r' + 1) + 1] < 0 := by simpa using hf
    simp -dsimp only [add1 (show 2 * r' + 1 < 4611686018427387904 by omega), B.pv_some]
    refine fin (2 * r' + 1 + 1) h2 (by omega) (by omega) fun k k0 hk hkp h1 h3 => ?_
    rcases (show k = 2 * r' + 1 ∨ k = 2 * r' + 1 + 1 by omega) with rfl | rfl
    ·have := W.asym (a := G'[a + (2 * r' + 1)]) (b := G'[a + (2 * r' + 1) + 1]) (by unfold lessC; exact decide_eq_true hf')
     unfold lessC at this; exact of_decide_eq_false this
    ·exact irr _
   ·have hf' : ¬ c G'[a + (2 * r' + 1)] G'[a + (2 * r' + 1) + 1] < 0 := by simpa using hf
    refine fin (2 * r' + 1) (by omega) (by omega) (by omega) fun k k0 hk hkp h1 h3 => ?_
    rcases (show k = 2 * r' + 1 ∨ k = 2 * r' + 1 + 1 by omega) with rfl | rfl
    ·exact irr _
    ·exact hf'
  ·simp -dsimp only [h2, decide_false, B.gd_t, B.gdb_false, B.pick_f, B.cond_false]
   refine fin (2 * r' + 1) (by omega) (by omega) (by omega) fun k k0 hk hkp h1 h3 => ?_
   have : k = 2 * r' + 1 := by omega
   subst this; exact irr _
end
section
variable {X : Type} {c : X → X → Int} {a b n lo : Nat} {G G' : List X}
end
abbrev SiftI (C : CSem) (E : ElOps) (C0 : CSem) (fL : Nat) (f1 : Nat) : Prop := ∀ (v0 v1 v2 v3 v4 : AVal) (h : AHeap) (Q : AVal → AHeap → Prop), slices_siftDownT.cps C E C0 fL v0 v1 v2 v3 v4 h (dn Q) → C f1 [v0, v1, v2, v3, v4] h Q
section
variable {E : ElOps} {X : Type} {cs : X → List AVal} {v : X → AVal} {h0 h : AHeap} {x f : AVal} {G : List X} {R : List (List AVal)} {c : X → X → Int} {Q : AVal → AHeap → Prop} {a b : Nat}
theorem insertion_srt (S : SeqSpec E cs v) (W : Weak (lessC c)) (hc : CmpSpec C0 v c fL h0) (ho : Rw E cs h0 h x G R) (hl : G.length ≤ 100000000) (hab : a ≤ b) (hb : b ≤ G.length)
  (hq : ∀ h' G', Within a b G G' → Srt c a b G' → Rw E cs h0 h' x G' R → Q (.tup []) h') : slices_insertionSortT.cps C E C0 fL x (.int .i64 (a : Int)) (.int .i64 (b : Int)) f h Q := by
 have e0 : ∀ (L : List X), (L.map (fun y => (y, 0))).map (fun p : X × Nat => cs p.1) = L.map cs := fun L => by rw [List.map_map]; rfl
 have e1 : ∀ (L : List (X × Nat)), L.map (fun p : X × Nat => cs p.1) = (L.map (·.1)).map cs := fun L => by rw [List.map_map]; rfl
 have lt : (G.take a).length = a := by rw [List.length_take]; omega
 have lm : ((G.take b).drop a).length = b - a := by rw [List.length_drop, List.length_take]; omega
 refine insertionSort_spec (P := (G.take a).map (fun y => (y, 0))) (M := ((G.take b).drop a).zipIdx) (U := (G.drop b).map (fun y => (y, 0))) S W ?_ ?_ hc ?_ ?_ ?_ ?_ (R := R) (h0 := h0)
 ·simp only [List.length_append, List.length_map, List.length_zipIdx, lt, lm, List.length_drop]; omega
 ·have : (((G.take b).drop a).zipIdx.map (·.2)).Pairwise (· < ·) := by
   rw [List.zipIdx_map_snd]; exact List.pairwise_lt_range'
  rwa [List.pairwise_map] at this
 ·rw [List.length_map, lt]
 ·rw [List.length_map, List.length_zipIdx, lt, lm]; omega
 ·unfold Rw
  rw [List.map_append, List.map_append, e0, e0, e1, List.zipIdx_map_fst, ← List.map_append, ← List.map_append, ← split3 hab G]
  exact ho
 ·intro h' M' hp hs ho'
  have hp' : (M'.map (·.1)).Perm ((G.take b).drop a) := by
   have := hp.map (·.1); rwa [List.zipIdx_map_fst] at this
  refine hq h' (G.take a ++ (M'.map (·.1) ++ G.drop b)) (within_mid hab hb hp') (srt_mid hab hb (by rw [hp'.length_eq, lm]) ?_) ?_
  ·rw [List.pairwise_map]
   refine hs.imp fun {x y} hxy => ?_
   have hx : lessC c y.1 x.1 = false := hxy.elim (fun h => W.asym h) fun ⟨h, _⟩ => h
   unfold lessC at hx; exact of_decide_eq_false hx
  ·unfold Rw at ho' ⊢
   rw [List.map_append, List.map_append, e0, e0, e1] at ho'
   rwa [List.map_append, List.map_append]
theorem heapSort_spec {f1 : Nat} (is : SiftI C E C0 fL f1) (S : SeqSpec E cs v) (W : Weak (lessC c)) (hc : CmpSpec C0 v c fL h0) (ho : Rw E cs h0 h x G R) (hl : G.length ≤ 100000000) (hab : a < b) (hb : b ≤ G.length)
  (hq : ∀ h' G', Within a b G G' → Srt c a b G' → Rw E cs h0 h' x G' R → Q (.tup []) h') : slices_heapSortT.cps C E C0 fL f1 x (.int .i64 (a : Int)) (.int .i64 (b : Int)) f h Q := by
 have e1 := subNN (a := b) (b := a) (by omega) (by omega)
 obtain ⟨n, hn⟩ : ∃ n, n = b - a := ⟨_, rfl⟩
 have e2 : V.bin .quo (.int .i64 ((n - 1 : Nat) : Int)) (.int .i64 2) = some (.int .i64 (((n - 1) / 2 : Nat) : Int)) := by
  rw [V.bin_quo _ _ _ (by omega), show ((n - 1 : Nat) : Int).tdiv 2 = (((n - 1) / 2 : Nat) : Int) from rfl, wrap_i64 (by omega) (by omega)]
 have m1 : ∀ k : Nat, k ≤ 100000000 → V.bin .sub (.int .i64 (k : Int)) (.int .i64 1) = some (.int .i64 ((k : Int) - 1)) := fun k hk => by
  rw [V.bin_sub, wrap_i64 (by omega) (by omega)]
 have m2 : ∀ k : Nat, k ≤ 100000000 → V.bin .sub (.int .i64 ((k + 1 : Nat) - 1 : Int)) (.int .i64 1) = some (.int .i64 ((k : Int) - 1)) := fun k hk => by
  rw [V.bin_sub, wrap_i64 (by omega) (by omega)]; congr 2; omega
 simp -dsimp only [slices_heapSortT.cps, slices_heapSortT.k5, e1, B.pv_some]
 rw [← hn]
 simp -dsimp only [sub1 (show 1 ≤ n by omega) (by omega), e2, B.pv_some]
 refine LoopR.intro (fun t vs hh => ∃ (G' : List X), vs = [.int .i64 ((t : Int) - 1)] ∧ t ≤ n ∧ Heap c a n t G' ∧ Within a b G G' ∧ Rw E cs h0 hh x G' R) ((n - 1) / 2 + 1) ?_ ⟨G, by congr 2; omega, by omega, Heap.none_ (by omega), Within.refl _ _ _, ho⟩
 rintro Y t vs hh ⟨G1, rfl, htn, p1, W1, o1⟩ hY
 have l1 := W1.len
 simp -dsimp only [slices_heapSortT.l4, slices_heapSortT.k3, V.bin_geq, B.pv_some]
 cases t with
 | succ k =>
  rw [show decide ((0 : Int) ≤ ((k + 1 : Nat) : Int) - 1) = true by simp, B.cond_true, show (((k + 1 : Nat) : Int) - 1) = (k : Int) by omega]
  refine is _ _ _ _ _ _ _ (siftDown_spec (b := b) S W hc o1 (by omega) (p1.sinv (by omega)) (Nat.le_refl _) (by omega) (by omega) fun h2 G2 p2 w2 o2 => dn_same ?_)
  simp -dsimp only [m1 k (by omega), B.pv_some]
  exact hY k _ _ (by omega) ⟨G2, rfl, by omega, p2, W1.trans w2, o2⟩
 | zero =>
  rw [show decide ((0 : Int) ≤ ((0 : Nat) : Int) - 1) = false by simp, B.cond_false]
  simp -dsimp only [m1 n (by omega), B.pv_some]
  refine LoopR.intro (fun t vs hh => ∃ (G' : List X), vs = [.int .i64 ((t : Int) - 1)] ∧ t ≤ n ∧ Heap c a t 0 G' ∧ Cut c a b a (a + t) G' ∧ Within a b G G' ∧ Rw E cs h0 hh x G' R) n ?_ ⟨G1, rfl, Nat.le_refl _, p1, fun p q _ _ h3 h4 => by omega, W1, o1⟩
  rintro Z t vs hh ⟨G2, rfl, htn, p2, c2, W2, o2⟩ hZ
  have l2 := W2.len
  simp -dsimp only [slices_heapSortT.l2, slices_heapSortT.k1, V.bin_geq, B.pv_some]
  cases t with
  | zero =>
   rw [show decide ((0 : Int) ≤ ((0 : Nat) : Int) - 1) = false by simp, B.cond_false]
   exact hq hh G2 W2 (c2.small (by omega)) o2
  | succ k =>
   rw [show decide ((0 : Int) ≤ ((k + 1 : Nat) : Int) - 1) = true by simp, B.cond_true, show (((k + 1 : Nat) : Int) - 1) = (k : Int) by omega]
   have ac := addNN (a := a) (b := k) (by omega)
   have la : a < G2.length := by omega
   have lk : a + k < G2.length := by omega
   simp -dsimp only [ac, o2.idx la, o2.idx lk, B.pv_some]
   refine o2.ld S (List.getElem?_eq_getElem lk) ?_
   refine o2.ld S (List.getElem?_eq_getElem la) ?_
   refine o2.swap S la lk fun h3 o3 => ?_
   have hsl := swp_len la lk
   have w3 : Within a (a + (k + 1)) G2 (swp G2 a (a + k) la lk) := swp_within la lk (by omega) (by omega) (by omega) (by omega)
   have c3 := c2.within w3 (Nat.le_refl _) (by omega)
   have c4 : Cut c a b a (a + k) (swp G2 a (a + k) la lk) := fun p q h1 h2 h3 h4 h5 h6 => by
    by_cases e : a + (k + 1) ≤ q
    ·exact c3 p q h1 h2 h3 (.inr e) h5 h6
    ·have : q = a + k := by omega
     subst this
     rw [swp_at la lk h6 (by omega), if_pos rfl, swp_at la lk h5 (by omega), if_neg (by omega)]
     split
     ·exact p2.root W (by omega) k (by omega)
     ·have := p2.root W (by omega) (p - a) (by omega)
      simpa only [show a + (p - a) = p by omega] using this
   have s3 : SInv c a k 0 0 (swp G2 a (a + k) la lk) := ⟨by omega, fun j j0 hj _ hne h1 h2 => by
    rw [swp_at la lk h1 (by omega), if_neg (by omega), if_neg (by omega), swp_at la lk h2 (by omega), if_neg (by omega), if_neg (by omega)]
    exact p2 j j0 (by omega) (by omega) (by omega) (by omega), fun _ h => by omega⟩
   refine is _ _ _ _ _ _ _ (siftDown_spec (r := 0) (b := a + k) S W hc o3 (by omega) s3 (Nat.le_refl _) (by omega) (by omega) fun h4 G4 p4 w4 o4 => dn_same ?_)
   simp -dsimp only [m1 k (by omega), B.pv_some]
   exact hZ k _ _ (by omega) ⟨G4, rfl, by omega, p4, c4.within w4 (Nat.le_refl _) (by omega), (W2.trans (w3.mono (Nat.le_refl _) (by omega))).trans (w4.mono (Nat.le_refl _) (by omega)), o4⟩
end
section
variable {X : Type} {c : X → X → Int} {A B j : Nat} {G : List X}
end
section
variable {E : ElOps} {X : Type} {cs : X → List AVal} {v : X → AVal} {h0 h : AHeap} {x f : AVal} {G : List X} {R : List (List AVal)} {c : X → X → Int} {Q : AVal → AHeap → Prop} {Y1 : List AVal → AHeap → Prop} {a b i s : Nat}
theorem pis_k3 (S : SeqSpec E cs v) (hc : CmpSpec C0 v c fL h0) (ho : Rw E cs h0 h x G R) (hl : G.length ≤ 100000000) (hi0 : 0 < i) (hi : i < b) (hb : b ≤ G.length) (hs : s ≤ 5)
  (hY : ∀ h' G', Within i b G G' → Rw E cs h0 h' x G' R → Y1 [.int .i64 (i : Int), .int .i64 ((s + 1 : Nat) : Int)] h') :
  slices_partialInsertionSortT.k3 C E C0 fL Q Y1 x (.int .i64 (a : Int)) (.int .i64 (b : Int)) f (.int .i64 (i : Int)) (.int .i64 (s : Int)) h := by
 have hge : V.bin .geq (.int .i64 ((b - i : Nat) : Int)) (.int .i64 2) = some (.bool (decide (2 ≤ b - i))) := geqN (b := 2)
 simp -dsimp only [slices_partialInsertionSortT.k3, subNN (show i ≤ b by omega) (by omega), hge, add1 (show s < 4611686018427387904 by omega), add1 (show i < 4611686018427387904 by omega), B.pv_some]
 refine B.cond_bool (fun hd => ?_) (fun hd => ?_)
 rotate_left
 ·simp -dsimp only [add1 (show s < 4611686018427387904 by omega), B.pv_some]
  exact hY h G (Within.refl _ _ _) ho
 rw [decide_eq_true_eq] at hd
 simp -dsimp only [add1 (show i < 4611686018427387904 by omega), B.pv_some]
 refine LoopR.intro (fun t vs hh => ∃ (j : Nat) (G' : List X), j + t = b ∧ vs = [.int .i64 (j : Int)] ∧ i < j ∧ Within i b G G' ∧ Rw E cs h0 hh x G' R) (b - (i + 1)) ?_ ⟨i + 1, G, by omega, rfl, by omega, Within.refl _ _ _, ho⟩
 rintro Y t vs hh ⟨j, G1, hjt, rfl, hij, W1, o⟩ hY2
 have hlen := W1.len
 simp -dsimp only [slices_partialInsertionSortT.l2, slices_partialInsertionSortT.k1, lssN, B.pv_some]
 refine B.cond_bool (fun he => ?_) (fun he => ?_)
 ·rw [decide_eq_true_eq] at he
  have lj : j < G1.length := by omega
  have lj1 : j - 1 < G1.length := by omega
  have sj := sub1 (a := j) (by omega) (by omega)
  simp -dsimp only [sj, o.idx lj, o.idx lj1, B.pv_some]
  refine o.ld S (List.getElem?_eq_getElem lj) ?_
  refine o.ld S (List.getElem?_eq_getElem lj1) ?_
  refine hc.call _ _ _ _ o.le ?_
  simp -dsimp only [V.bin_lss, V.un_not, B.pv_some]
  refine B.cond_bool (fun hd => ?_) (fun hd => ?_)
  ·simp -dsimp only [add1 (show s < 4611686018427387904 by omega), B.pv_some]
   exact hY hh G1 W1 o
  ·simp -dsimp only [sj, o.idx lj, o.idx lj1, B.pv_some]
   refine o.ld S (List.getElem?_eq_getElem lj1) ?_
   refine o.ld S (List.getElem?_eq_getElem lj) ?_
   refine o.swap S lj lj1 fun h2 o2 => ?_
   simp -dsimp only [add1 (show j < 4611686018427387904 by omega), B.pv_some]
   exact hY2 (b - (j + 1)) _ _ (by omega) ⟨j + 1, _, by omega, rfl, by omega, W1.trans (swp_within lj lj1 (by omega) (by omega) (by omega) (by omega)), o2⟩
 ·simp -dsimp only [add1 (show s < 4611686018427387904 by omega), B.pv_some]
  exact hY hh G1 W1 o
theorem pis_k6 (S : SeqSpec E cs v) (W : Weak (lessC c)) (hc : CmpSpec C0 v c fL h0) (ho : Rw E cs h0 h x G R) (hl : G.length ≤ 100000000) (hai : a < i) (hi : i < b) (hb : b ≤ G.length) (hs : s ≤ 5) (hp : Pre c a b G) (h1 : But1 c a i (i - 1) G)
  (hY : ∀ h' G', Within a b G G' → Srt c a i G' → Rw E cs h0 h' x G' R → Y1 [.int .i64 (i : Int), .int .i64 ((s + 1 : Nat) : Int)] h') :
  slices_partialInsertionSortT.k6 C E C0 fL Q Y1 x (.int .i64 (a : Int)) (.int .i64 (b : Int)) f (.int .i64 (i : Int)) (.int .i64 (s : Int)) h := by
 have fin : ∀ {hh G1}, Rw E cs h0 hh x G1 R → Within a b G G1 → Srt c a i G1 → slices_partialInsertionSortT.k3 C E C0 fL Q Y1 x (.int .i64 (a : Int)) (.int .i64 (b : Int)) f (.int .i64 (i : Int)) (.int .i64 (s : Int)) hh := fun {hh G1} o W1 s1 => by
  have l1 := W1.len
  refine pis_k3 S hc o (by omega) (by omega) hi (by omega) hs fun h2 G2 W2 o2 => hY h2 G2 (W1.trans (W2.mono (by omega) (Nat.le_refl _))) (fun p q h1 h2 h3 h4 h5 => ?_) o2
  have l2 := W2.len
  rw [W2.same (k := p) (.inl (by omega)) h4 (by omega), W2.same (k := q) (.inl (by omega)) h5 (by omega)]
  exact s1 p q h1 h2 h3 _ _
 have hge : V.bin .geq (.int .i64 ((i - a : Nat) : Int)) (.int .i64 2) = some (.bool (decide (2 ≤ i - a))) := geqN (b := 2)
 simp -dsimp only [slices_partialInsertionSortT.k6, subNN (show a ≤ i by omega) (by omega), hge, sub1 (show 1 ≤ i by omega) (by omega), B.pv_some]
 refine B.cond_bool (fun hd => ?_) (fun hd => ?_)
 ·simp -dsimp only [sub1 (show 1 ≤ i by omega) (show i < 4611686018427387904 by omega), B.pv_some]
  refine LoopR.intro (fun t vs hh => ∃ (G' : List X), vs = [.int .i64 (t : Int)] ∧ a ≤ t ∧ t < i ∧ But1 c a i t G' ∧ Within a b G G' ∧ Rw E cs h0 hh x G' R) (i - 1) ?_ ⟨G, rfl, by omega, by omega, h1, Within.refl _ _ _, ho⟩
  rintro Y j vs hh ⟨G1, rfl, haj, hji, b1, W1, o⟩ hY2
  have hlen := W1.len
  have lj : j < G1.length := by omega
  have hg1 : V.bin .geq (.int .i64 (j : Int)) (.int .i64 1) = some (.bool (decide (1 ≤ j))) := geqN (b := 1)
  simp -dsimp only [slices_partialInsertionSortT.l5, slices_partialInsertionSortT.k4, hg1, B.pv_some]
  refine B.cond_bool (fun he => ?_) (fun he => ?_)
  ·rw [decide_eq_true_eq] at he
   have lj1 : j - 1 < G1.length := by omega
   have sj := sub1 (a := j) (by omega) (by omega)
   simp -dsimp only [sj, o.idx lj, o.idx lj1, B.pv_some]
   refine o.ld S (List.getElem?_eq_getElem lj) ?_
   refine o.ld S (List.getElem?_eq_getElem lj1) ?_
   refine hc.call _ _ _ _ o.le ?_
   simp -dsimp only [V.bin_lss, V.un_not, B.pv_some]
   refine B.cond_bool (fun hd => ?_) (fun hd => ?_)
   ·exact fin o W1 (b1.done W lj (.inr fun _ => by simpa using hd))
   ·have hlt : c G1[j] G1[j - 1] < 0 := by simpa using hd
    have haj2 : a < j := by
     rcases Nat.lt_or_ge a j with k | k
     ·exact k
     ·have : j = a := by omega
      subst this
      exact absurd hlt ((hp.within W1) (by omega) j (Nat.le_refl _) (by omega) _ _)
    simp -dsimp only [sj, o.idx lj, o.idx lj1, B.pv_some]
    refine o.ld S (List.getElem?_eq_getElem lj1) ?_
    refine o.ld S (List.getElem?_eq_getElem lj) ?_
    refine o.swap S lj lj1 fun h2 o2 => ?_
    exact hY2 (j - 1) _ _ (by omega) ⟨_, rfl, by omega, by omega, b1.step W haj2 lj lj1 hlt, W1.trans (swp_within lj lj1 (by omega) (by omega) (by omega) (by omega)), o2⟩
  ·rw [decide_eq_false_iff_not] at he
   exact fin o W1 (b1.done W lj (.inl (by omega)))
 ·rw [decide_eq_false_iff_not] at hd
  exact fin ho (Within.refl _ _ _) fun p q _ _ _ _ _ => by omega
theorem partialInsertionSort_spec (S : SeqSpec E cs v) (W : Weak (lessC c)) (hc : CmpSpec C0 v c fL h0) (ho : Rw E cs h0 h x G R) (hl : G.length ≤ 100000000) (hab : a < b) (hb : b ≤ G.length) (hp : Pre c a b G)
  (hq : ∀ h' G' t, Within a b G G' → (t = true → Srt c a b G') → Rw E cs h0 h' x G' R → Q (.bool t) h') :
  slices_partialInsertionSortT.cps C E C0 fL x (.int .i64 (a : Int)) (.int .i64 (b : Int)) f h Q := by
 simp -dsimp only [slices_partialInsertionSortT.cps, add1 (show a < 4611686018427387904 by omega), B.pv_some]
 refine LoopR.intro (fun t vs hh => ∃ (s i : Nat) (G' : List X), s + t = 5 ∧ vs = [.int .i64 (i : Int), .int .i64 (s : Int)] ∧ a < i ∧ i ≤ b ∧ Srt c a i G' ∧ Within a b G G' ∧ Rw E cs h0 hh x G' R) 5 ?_ ⟨0, a + 1, G, rfl, rfl, by omega, by omega, fun p q _ _ _ _ _ => by omega, Within.refl _ _ _, ho⟩
 rintro Y t vs hh ⟨s, i, G1, hst, rfl, hai, hib, s1, W1, o⟩ hY
 have hl1 := W1.len
 have h5 : V.bin .lss (.int .i64 (s : Int)) (.int .i64 5) = some (.bool (decide (s < 5))) := lssN (b := 5)
 simp -dsimp only [slices_partialInsertionSortT.l12, slices_partialInsertionSortT.k11, h5, B.pv_some]
 refine B.cond_bool (fun hd => ?_) (fun hd => hq hh G1 false W1 (fun h => by cases h) o)
 rw [decide_eq_true_eq] at hd
 refine LoopR.intro (fun t vs hh => ∃ (i : Nat), i + t = b ∧ vs = [.int .i64 (i : Int)] ∧ a < i ∧ Srt c a i G1 ∧ Rw E cs h0 hh x G1 R) (b - i) ?_ ⟨i, by omega, rfl, hai, s1, o⟩
 rintro Z t vs hh ⟨i, hit, rfl, hai, s2, o2⟩ hZ
 simp -dsimp only [slices_partialInsertionSortT.l10, slices_partialInsertionSortT.k9, lssN, B.pv_some]
 by_cases hd2 : i < b
 ·have li : i < G1.length := by omega
  have li1 : i - 1 < G1.length := by omega
  have si := sub1 (a := i) (by omega) (by omega)
  simp -dsimp only [hd2, decide_true, B.gd_t, B.gdb_true, si, o2.idx li, o2.idx li1, B.pv_some]
  refine o2.ld S (List.getElem?_eq_getElem li) ?_
  refine o2.ld S (List.getElem?_eq_getElem li1) ?_
  refine hc.call _ _ _ _ o2.le ?_
  simp -dsimp only [hd2, decide_true, B.gd_t, B.gdb_true, V.bin_lss, V.un_not, B.pick_t, B.pv_some]
  refine B.cond_bool (fun he => ?_) (fun he => ?_)
  ·have hnl : ¬ c G1[i] G1[i - 1] < 0 := by simpa using he
   simp -dsimp only [add1 (show i < 4611686018427387904 by omega), B.pv_some]
   refine hZ (t - 1) _ _ (by omega) ⟨i + 1, by omega, rfl, by omega, ?_, o2⟩
   exact But1.done W (j := i) (fun p q h1 h2 h3 h4 h5 h6 => s2 p q h1 h2 (by omega) h5 h6) li (.inr fun _ => hnl)
  ·have hlt : c G1[i] G1[i - 1] < 0 := by simpa using he
   have hne : V.bin .eql (.int .i64 (i : Int)) (.int .i64 (b : Int)) = some (.bool false) := by rw [V.bin_eql]; simp; omega
   simp -dsimp only [hne, B.pv_some, B.cond_false, slices_partialInsertionSortT.k8, slices_partialInsertionSortT.k7, subNN (show a ≤ b by omega) (show b < 4611686018427387904 by omega)]
   rw [show V.bin .lss (.int .i64 ((b - a : Nat) : Int)) (.int .i64 50) = some (.bool (decide (b - a < 50))) from lssN (b := 50)]
   simp -dsimp only [B.pv_some]
   refine B.cond_bool (fun hf => hq hh G1 false W1 (fun h => by cases h) o2) (fun hf => ?_)
   simp -dsimp only [slices_partialInsertionSortT.k7, si, o2.idx li, o2.idx li1, B.pv_some]
   refine o2.ld S (List.getElem?_eq_getElem li1) ?_
   refine o2.ld S (List.getElem?_eq_getElem li) ?_
   refine o2.swap S li li1 fun h3 o3 => ?_
   have hsl := swp_len li li1
   have w3 : Within a b G1 (swp G1 i (i - 1) li li1) := swp_within li li1 (by omega) (by omega) (by omega) (by omega)
   have W3 := W1.trans w3
   refine pis_k6 S W hc o3 (by omega) hai hd2 (by omega) (by omega) (hp.within W3) (fun p q h1 h2 h3 h4 h5 h6 => ?_) fun h4 G4 W4 s4 o4 => hY (5 - (s + 1)) _ _ (by omega) ⟨s + 1, i, G4, by omega, rfl, hai, by omega, s4, W3.trans W4, o4⟩
   rw [swp_at li li1 h6 (by omega), if_neg h4, if_neg (by omega), swp_at li li1 h5 (by omega), if_neg (by omega), if_neg (by omega)]
   exact s2 p q h1 h2 h3 _ _
 ·have e : i = b := by omega
  subst e
  have heq : V.bin .eql (.int .i64 (i : Int)) (.int .i64 (i : Int)) = some (.bool true) := by rw [V.bin_eql]; simp
  simp -dsimp only [hd2, decide_false, B.gd_t, B.gdb_false, B.pick_f, B.cond_false, heq, B.cond_true, B.pv_some]
  exact hq hh G1 true W1 (fun _ => s2) o2
end
variable {C C0 : CSem} {fL : Nat} {N : Nat → Nat}
section
variable {E : ElOps} {X : Type} {cs : X → List AVal} {v : X → AVal} {h0 h : AHeap} {x f : AVal} {G : List X} {R : List (List AVal)} {Q : AVal → AHeap → Prop} {a b : Nat}
theorem breakPatterns_spec {f1 f2 : Nat} (hn : NextI C0 f1) (hp : PowI C0 f2) (S : SeqSpec E cs v) (ho : Rw E cs h0 h x G R) (hl : G.length ≤ 100000000) (hab : a ≤ b) (hb : b ≤ G.length)
  (hq : ∀ h' G', Within a b G G' → Rw E cs h0 h' x G' R → Q (.tup []) h') : slices_breakPatternsT.cps C E C0 fL f1 f2 x (.int .i64 (a : Int)) (.int .i64 (b : Int)) f h Q := by
 obtain ⟨n, en⟩ : ∃ n, n = b - a := ⟨_, rfl⟩
 have e1 := subNN hab (show b < 4611686018427387904 by omega)
 rw [← en] at e1
 have g8 : V.bin .geq (.int .i64 (n : Int)) (.int .i64 8) = some (.bool (decide (8 ≤ n))) := geqN (b := 8)
 simp -dsimp only [slices_breakPatternsT.cps, slices_breakPatternsT.k8, e1, g8, B.pv_some]
 refine B.cond_bool (fun hd => ?_) (fun hd => hq h G (Within.refl _ _ _) ho)
 rw [decide_eq_true_eq] at hd
 simp -dsimp only [slices_breakPatternsT.k7, toUN (show n < 18446744073709551616 by omega), B.pv_some]
 intro id hid
 have o := Owns.newBox ho hid [.int .u64 0]
 simp only [List.cons_append, List.nil_append] at o
 refine o.boxSt 1 (off := 0) rfl rfl (by simp) fun h1 o1 _ => ?_
 simp only [List.set_cons_succ, List.set_cons_zero] at o1
 refine hp n _ _ (by omega) (by omega) fun m hm0 hm => ?_
 have m4 : V.bin .quo (.int .i64 (n : Int)) (.int .i64 4) = some (.int .i64 ((n / 4 : Nat) : Int)) := quo4 (by omega)
 have m2 : V.bin .mul (.int .i64 ((n / 4 : Nat) : Int)) (.int .i64 2) = some (.int .i64 ((n / 4 * 2 : Nat) : Int)) := mulN (a := n / 4) (b := 2) (by omega)
 have m5 : V.bin .add (.int .i64 (a : Int)) (.int .i64 ((n / 4 * 2 : Nat) : Int)) = some (.int .i64 ((a + n / 4 * 2 : Nat) : Int)) := addNN (by omega)
 simp -dsimp only [slices_breakPatternsT.k6, m4, m2, m5, sub1 (show 1 ≤ a + n / 4 * 2 by omega) (by omega), B.pv_some]
 refine LoopR.intro (fun t vs hh => ∃ (i : Nat) (G' : List X) (z : Int), i + t = a + n / 4 * 2 + 2 ∧ vs = [.int .i64 (i : Int)] ∧ a ≤ i ∧ Within a b G G' ∧ Owns h0 hh [.sl E.es x (G'.map cs) R, .box (.ptr id 0 0) [.int .u64 z]]) 3 ?_ ⟨a + n / 4 * 2 - 1, G, _, by omega, rfl, by omega, Within.refl _ _ _, o1⟩
 rintro Y t vs hh ⟨i, G1, z, hit, rfl, hai, W1, o2⟩ hY
 have l1 := W1.len
 simp -dsimp only [slices_breakPatternsT.l5, slices_breakPatternsT.k4, m4, m2, m5, add1 (show a + n / 4 * 2 < 4611686018427387904 by omega), leqN, B.pv_some]
 refine B.cond_bool (fun he => ?_) (fun he => hq hh G1 W1 (o2.sub (by simp)))
 rw [decide_eq_true_eq] at he
 have oo := Owns.out (l1 := [.sl E.es x (G1.map cs) R]) (l2 := [.box (.ptr id 0 0) [.int .u64 z]]) o2
 simp -dsimp only [slices_breakPatternsT.k3]
 refine hn _ _ _ _ _ oo.2 fun w z' h3 o3 => ?_
 have o4 := oo.1.join o3
 have s1 : V.bin .sub (.int .u64 (m : Int)) (.int .u64 1) = some (.int .u64 ((m - 1 : Nat) : Int)) := by
  rw [V.bin_sub, show (m : Int) - 1 = ((m - 1 : Nat) : Int) by omega, wrapU (by omega)]
 obtain ⟨ot, hot, ea⟩ := and_le (z := w) (m := m - 1) (by omega)
 simp -dsimp only [s1, ea, toIN (show ot < 4611686018427387904 by omega), B.pv_some, slices_breakPatternsT.k2, geqN]
 have fin : ∀ k : Nat, k < n → slices_breakPatternsT.k1 C E C0 fL f1 f2 Q Y x (.int .i64 (a : Int)) (.int .i64 (n : Int)) (.ptr id 0 0) (.int .u64 (m : Int)) (.int .i64 (i : Int)) (.int .i64 (k : Int)) h3 := fun k hk => by
  have la : a + k < G1.length := by omega
  have li : i < G1.length := by omega
  have op := Owns.perm o4 (List.Perm.swap _ _ [])
  have oq := Owns.out (l1 := [.box (.ptr id 0 0) [.int .u64 z']]) (l2 := [.sl E.es x (G1.map cs) R]) op
  have orw : Rw E cs _ h3 x G1 R := oq.2
  simp -dsimp only [slices_breakPatternsT.k1, addNN (show a + k < 4611686018427387904 by omega), orw.idx la, orw.idx li, B.pv_some]
  refine orw.ld S (List.getElem?_eq_getElem la) ?_
  refine orw.ld S (List.getElem?_eq_getElem li) ?_
  refine orw.swap S li la fun h5 o5 => ?_
  simp -dsimp only [add1 (show i < 4611686018427387904 by omega), B.pv_some]
  have o6 := oq.1.join o5
  exact hY (a + n / 4 * 2 + 2 - (i + 1)) _ _ (by omega) ⟨i + 1, _, z', by omega, rfl, by omega, W1.trans (swp_within li la (by omega) (by omega) (by omega) (by omega)), o6.perm (List.Perm.swap _ _ [])⟩
 refine B.cond_bool (fun hf => ?_) (fun hf => ?_)
 ·rw [decide_eq_true_eq] at hf
  simp -dsimp only [subNN hf (show ot < 4611686018427387904 by omega), B.pv_some]
  exact fin (ot - n) (by omega)
 ·rw [decide_eq_false_iff_not] at hf
  exact fin ot (by omega)
end
section
variable {X : Type} {c : X → X → Int} {a b m A0 Z0 : Nat} {G G' : List X}
end
structure PdqI (C : CSem) (E : ElOps) (C0 : CSem) (fL : Nat) (f1 f2 f3 f4 f5 f6 f7 f8 f9 g1 g2 g3 g4 g5 g6 : Nat) : Prop where
 eq : I5 (slices_partitionEqualT.cps C E C0 fL) C f1
 part : I5 (slices_partitionT.cps C E C0 fL) C f2
 pdq : I5 (slices_pdqsortT.cps C E C0 fL f1 f2 f3 f4 f5 f6 f7 f8 f9) C f3
 pis : I4 (slices_partialInsertionSortT.cps C E C0 fL) C f4
 rev : I4 (slices_reverseRangeT.cps C E C0 fL) C f5
 piv : I4 (slices_choosePivotT.cps C E C0 fL g2 g3) C f6
 brk : I4 (slices_breakPatternsT.cps C E C0 fL g5 g6) C f7
 heap : I4 (slices_heapSortT.cps C E C0 fL g4) C f8
 ins : I4 (slices_insertionSortT.cps C E C0 fL) C f9
 ord : O2I C E C0 fL g1
 med : MedI C E C0 fL g1 g2
 adj : AdjI C E C0 fL g2 g3
 sift : SiftI C E C0 fL g4
 next : NextI C0 g5
 pow : PowI C0 g6
section
variable {E : ElOps} {X : Type} {cs : X → List AVal} {v : X → AVal} {h0 h : AHeap} {x f : AVal} {G : List X} {R : List (List AVal)} {c : X → X → Int} {Q : AVal → AHeap → Prop} {Y : List AVal → AHeap → Prop} {f1 f2 f3 f4 f5 f6 f7 f8 f9 g1 g2 g3 g4 g5 g6 : Nat}
theorem pdq_k1 (J : PdqI C E C0 fL f1 f2 f3 f4 f5 f6 f7 f8 f9 g1 g2 g3 g4 g5 g6) (S : SeqSpec E cs v) (W : Weak (lessC c)) (hc : CmpSpec C0 v c fL h0) {A0 Z0 a b : Nat} {G0 : List X} {lim : Int} {w1 w2 : Bool} {pv : Nat} (p : PS E cs h0 x R c A0 Z0 G0 a b G h) (hl : G.length ≤ 100000000) (hBl : Z0 ≤ G.length)
  (h1 : a ≤ pv) (h2 : pv < b)
  (rcs : ∀ (a' b' : Nat) (lim : Int) (h : AHeap) (G : List X) (Q : AVal → AHeap → Prop), b' - a' < b - a → a' ≤ b' → b' ≤ G.length → G.length ≤ 100000000 → Pre c a' b' G → Rw E cs h0 h x G R → (∀ h' G', Within a' b' G G' → Srt c a' b' G' → Rw E cs h0 h' x G' R → Q (.tup []) h') →
   C f3 [x, .int .i64 (a' : Int), .int .i64 (b' : Int), .int .i64 lim, f] h Q)
  (hY : Go1 E cs h0 x R c A0 Z0 G0 (b - a) Y) :
  slices_pdqsortT.k1 C E C0 fL f1 f2 f3 f4 f5 f6 f7 f8 f9 Q Y x (.int .i64 (a : Int)) (.int .i64 (b : Int)) (.int .i64 lim) f (.bool w1) (.bool w2) (.int .i64 ((b - a : Nat) : Int)) (.int .i64 (pv : Int)) h := by
 have hA := p.hA; have hB := p.hB; have o := p.o
 have lp : pv < G.length := by omega
 have part : slices_pdqsortT.k1 C E C0 fL f1 f2 f3 f4 f5 f6 f7 f8 f9 Q Y x (.int .i64 (a : Int)) (.int .i64 (b : Int)) (.int .i64 lim) f (.bool w1) (.bool w2) (.int .i64 ((b - a : Nat) : Int)) (.int .i64 (pv : Int)) h =
  slices_pdqsortT.k1 C E C0 fL f1 f2 f3 f4 f5 f6 f7 f8 f9 Q Y x (.int .i64 (a : Int)) (.int .i64 (b : Int)) (.int .i64 lim) f (.bool w1) (.bool w2) (.int .i64 ((b - a : Nat) : Int)) (.int .i64 (pv : Int)) h := rfl
 clear part
 have part : C f2 [x, .int .i64 (a : Int), .int .i64 (b : Int), .int .i64 (pv : Int), f] h (fun v111 h =>
  B.pv (V.ext 0 v111) fun v112 =>
  B.pv (V.ext 1 v111) fun v113 =>
  B.pv (V.bin .sub v112 (.int .i64 (a : Int))) fun v117 =>
  B.pv (V.bin .sub (.int .i64 (b : Int)) v112) fun v120 =>
  B.pv (V.bin .quo (.int .i64 ((b - a : Nat) : Int)) (.int .i64 8)) fun v122 =>
  B.pv (V.bin .lss v117 v120) fun v125 =>
  B.cond v125
  (B.pv (V.bin .geq v117 v122) fun v128 =>
  B.call C f3 [x, .int .i64 (a : Int), v112, .int .i64 lim, f] h fun v134 h =>
  B.pv (V.bin .add v112 (.int .i64 1)) fun v136 =>
  Y [v136, .int .i64 (b : Int), .int .i64 lim, v128, v113] h)
  (B.pv (V.bin .geq v120 v122) fun v139 =>
  B.pv (V.bin .add v112 (.int .i64 1)) fun v142 =>
  B.call C f3 [x, v142, .int .i64 (b : Int), .int .i64 lim, f] h fun v146 h =>
  Y [.int .i64 (a : Int), v112, .int .i64 lim, v139, v113] h)) := by
  refine J.part _ _ _ _ _ _ _ (partition_spec S hc o (by omega) h1 h2 (by omega) fun h3 m G3 t pt W3 o3 => dn_same ?_)
  have p3 := p.turn W3 o3
  have l3 := W3.len
  have m1 := pt.ge; have m2 := pt.lt
  have q8 : V.bin .quo (.int .i64 ((b - a : Nat) : Int)) (.int .i64 8) = some (.int .i64 (((b - a) / 8 : Nat) : Int)) := by
   rw [V.bin_quo _ _ _ (by omega), show ((b - a : Nat) : Int).tdiv 8 = (((b - a) / 8 : Nat) : Int) from rfl, wrap_i64 (by omega) (by omega)]
  simp -dsimp only [V.ext_tup, List.getElem?_cons_zero, List.getElem?_cons_succ, B.pv_some, subNN m1 (show m < 4611686018427387904 by omega), subNN (show m ≤ b by omega) (show b < 4611686018427387904 by omega), q8, lssN, geqN, add1 (show m < 4611686018427387904 by omega)]
  refine B.cond_bool (fun hd => ?_) (fun hd => ?_)
  ·simp -dsimp only [geqN, add1 (show m < 4611686018427387904 by omega), B.pv_some]
   refine rcs a m lim _ G3 _ (by omega) m1 (by omega) (by omega) (p3.pre.sub (by omega)) o3 fun h4 G4 W4 s4 o4 => ?_
   have pt4 := pt.left W W4
   have cut4 := (p3.cut.within (W4.mono (Nat.le_refl _) (by omega)) hA hB).left W pt4 s4
   simp -dsimp only [add1 (show m < 4611686018427387904 by omega), B.pv_some]
   exact hY (m + 1) b lim _ _ G4 h4 (by omega) ⟨by omega, by omega, hB, p3.W.trans (W4.mono hA (by omega)), cut4, cut4.pre (by omega) hB, o4⟩
  ·have c3 : Pre c (m + 1) b G3 := fun h0 i k1 k2 k3 k4 => pt.pair W (p := m + 1 - 1) (q := i) (by omega) (by omega) k2 (by omega) (by omega) k4 k3
   simp -dsimp only [geqN, add1 (show m < 4611686018427387904 by omega), B.pv_some]
   refine rcs (m + 1) b lim _ G3 _ (by omega) (by omega) (by omega) (by omega) c3 o3 fun h4 G4 W4 s4 o4 => ?_
   have pt4 := pt.right W W4
   have W4' : Within a b G3 G4 := W4.mono (by omega) (Nat.le_refl _)
   have cut4 := (p3.cut.within W4' hA hB).right W pt4 s4
   exact hY a m lim _ _ G4 h4 (by omega) ⟨hA, m1, by omega, p3.W.trans (W4.mono (by omega) hB), cut4, (p3.pre.within W4').sub (by omega), o4⟩
 simp -dsimp only [slices_pdqsortT.k1]
 have g0 : V.bin .gtr (.int .i64 (a : Int)) (.int .i64 0) = some (.bool (decide (0 < a))) := gtrN (b := 0)
 simp -dsimp only [g0, B.pv_some]
 by_cases ha : 0 < a
 ·have la : a - 1 < G.length := by omega
  simp -dsimp only [ha, decide_true, B.gd_t, B.gdb_true, sub1 (show 1 ≤ a by omega) (show a < 4611686018427387904 by omega), o.idx la, o.idx lp, B.pv_some]
  refine o.ld S (List.getElem?_eq_getElem la) ?_
  refine o.ld S (List.getElem?_eq_getElem lp) ?_
  refine hc.call _ _ _ _ o.le ?_
  simp -dsimp only [ha, decide_true, B.gd_t, B.gdb_true, V.bin_lss, V.un_not, B.pick_t, B.pv_some]
  refine B.cond_bool (fun he => ?_) (fun he => part)
  have hd : ¬ c G[a - 1] G[pv] < 0 := by simpa using he
  refine J.eq _ _ _ _ _ _ _ (partitionEqual_spec S hc o (by omega) h1 h2 (by omega) fun h3 i j G3 pe hji W3 e3 o3 => dn_same ?_)
  have p3 := p.turn W3 o3
  have l3 := W3.len
  have k1 := pe.hi; have k2 := pe.hij; have k3 := pe.hj
  have cut4 := p3.cut.equal W pe hji ha p3.pre (by omega) fun q1 q2 => by
   rw [e3 q2 lp, W3.same (.inl (by omega)) q1 la]; exact hd
  exact hY i b lim _ _ G3 h3 (by omega) ⟨by omega, by omega, hB, p3.W, cut4, cut4.pre (by omega) hB, o3⟩
 ·simp -dsimp only [ha, decide_false, B.gd_t, B.gdb_false, B.pick_f, B.cond_false]
  exact part
theorem pdq_spec (J : PdqI C E C0 fL f1 f2 f3 f4 f5 f6 f7 f8 f9 g1 g2 g3 g4 g5 g6) (S : SeqSpec E cs v) (W : Weak (lessC c)) (hc : CmpSpec C0 v c fL h0) : ∀ (n : Nat) (A0 Z0 : Nat) (lim : Int) (h : AHeap) (G : List X) (Q : AVal → AHeap → Prop), Z0 - A0 = n → A0 ≤ Z0 → Z0 ≤ G.length → G.length ≤ 100000000 → Pre c A0 Z0 G → Rw E cs h0 h x G R →
  (∀ h' G', Within A0 Z0 G G' → Srt c A0 Z0 G' → Rw E cs h0 h' x G' R → Q (.tup []) h') → slices_pdqsortT.cps C E C0 fL f1 f2 f3 f4 f5 f6 f7 f8 f9 x (.int .i64 (A0 : Int)) (.int .i64 (Z0 : Int)) (.int .i64 lim) f h Q := by
 intro n
 induction n using Nat.strongRecOn with
 | ind n ih =>
 intro A0 Z0 lim h G0 Q hn hAB hBl hl hpre ho hq
 simp -dsimp only [slices_pdqsortT.cps]
 refine LoopR.intro (fun t vs hh => ∃ (a b : Nat) (lim : Int) (w1 w2 : Bool) (G : List X), t = b - a ∧ vs = [.int .i64 (a : Int), .int .i64 (b : Int), .int .i64 lim, .bool w1, .bool w2] ∧ PS E cs h0 x R c A0 Z0 G0 a b G hh) (Z0 - A0) ?_
  ⟨A0, Z0, lim, true, true, G0, rfl, rfl, ⟨Nat.le_refl _, hAB, Nat.le_refl _, Within.refl _ _ _, fun p q _ _ _ k => by omega, hpre, ho⟩⟩
 rintro Y t vs hh ⟨a, b, lim, w1, w2, G, rfl, rfl, p⟩ hY'
 have hY : Go1 E cs h0 x R c A0 Z0 G0 (b - a) Y := fun a' b' lim' w1' w2' G' h' hlt p' => hY' (b' - a') _ _ hlt ⟨a', b', lim', w1', w2', G', rfl, rfl, p'⟩
 clear hY'
 have hA := p.hA; have hab := p.hab; have hB := p.hB
 have lG := p.W.len
 have rcs : ∀ (a' b' : Nat) (lim : Int) (h : AHeap) (G : List X) (Q : AVal → AHeap → Prop), b' - a' < b - a → a' ≤ b' → b' ≤ G.length → G.length ≤ 100000000 → Pre c a' b' G → Rw E cs h0 h x G R → (∀ h' G', Within a' b' G G' → Srt c a' b' G' → Rw E cs h0 h' x G' R → Q (.tup []) h') →
   C f3 [x, .int .i64 (a' : Int), .int .i64 (b' : Int), .int .i64 lim, f] h Q := fun a' b' lim h G Q k1 k2 k3 k4 k5 k6 k7 =>
  J.pdq _ _ _ _ _ _ _ (ih (b' - a') (by omega) a' b' lim h G _ rfl k2 k3 k4 k5 k6 fun h' G' w s o => dn_same (k7 h' G' w s o))
 have fin : ∀ {hh G G2}, PS E cs h0 x R c A0 Z0 G0 a b G hh → ∀ h', Within a b G G2 → Srt c a b G2 → Rw E cs h0 h' x G2 R → Q (.tup []) h' := fun p h' w s o => by
  have p2 := p.turn w o
  exact hq h' _ p2.W (p2.cut.join s) o
 have e12 : V.bin .leq (.int .i64 ((b - a : Nat) : Int)) (.int .i64 12) = some (.bool (decide (b - a ≤ 12))) := leqN (b := 12)
 simp -dsimp only [slices_pdqsortT.l8, subNN hab (show b < 4611686018427387904 by omega), B.pv_some, slices_pdqsortT.k7, e12]
 refine B.cond_bool (fun hd => ?_) (fun hd => ?_)
 ·exact J.ins _ _ _ _ _ _ (insertion_srt S W hc p.o (by omega) hab (by omega) fun h' G' w s o => dn_same (fin p h' w s o))
 rw [decide_eq_false_iff_not] at hd
 simp -dsimp only [slices_pdqsortT.k6, V.bin_eql, B.pv_some]
 refine B.cond_bool (fun _ => ?_) (fun _ => ?_)
 ·exact J.heap _ _ _ _ _ _ (heapSort_spec J.sift S W hc p.o (by omega) (by omega) (by omega) fun h' G' w s o => dn_same (fin p h' w s o))
 have k4 : ∀ {hh G} (lim : Int), PS E cs h0 x R c A0 Z0 G0 a b G hh → slices_pdqsortT.k4 C E C0 fL f1 f2 f3 f4 f5 f6 f7 f8 f9 Q Y x (.int .i64 (a : Int)) (.int .i64 (b : Int)) (.int .i64 lim) f (.bool w1) (.bool w2) (.int .i64 ((b - a : Nat) : Int)) hh := fun {hh G} lim p => by
  have lG := p.W.len
  simp -dsimp only [slices_pdqsortT.k4]
  refine J.piv _ _ _ _ _ _ (choosePivot_spec J.ord J.med J.adj S (Owns.slAt p.o 0 rfl) p.o.le hc (by omega) (by omega) (by omega) fun m hint h2 m1 m2 hle => dn_same ?_)
  have p2 : PS E cs h0 x R c A0 Z0 G0 a b G h2 := ⟨p.hA, p.hab, p.hB, p.W, p.cut, p.pre, Owns.grow p.o hle⟩
  simp -dsimp only [V.ext_tup, List.getElem?_cons_zero, List.getElem?_cons_succ, B.pv_some, slices_pdqsortT.k3, V.bin_eql]
  have k2 : ∀ {hh G} (pv : Nat) (hint : Int), a ≤ pv → pv < b → PS E cs h0 x R c A0 Z0 G0 a b G hh → slices_pdqsortT.k2 C E C0 fL f1 f2 f3 f4 f5 f6 f7 f8 f9 Q Y x (.int .i64 (a : Int)) (.int .i64 (b : Int)) (.int .i64 lim) f (.bool w1) (.bool w2) (.int .i64 ((b - a : Nat) : Int)) (.int .i64 (pv : Int)) (.int .i64 hint) hh := fun {hh G} pv hint q1 q2 p => by
   have lG := p.W.len
   have go := pdq_k1 (Q := Q) (lim := lim) (w1 := w1) (w2 := w2) J S W hc p (by omega) (by omega) q1 q2 rcs hY
   simp -dsimp only [slices_pdqsortT.k2]
   have two : B.cond (.bool true) (B.call C f4 [x, .int .i64 (a : Int), .int .i64 (b : Int), f] hh fun v80 h =>
     B.cond v80 (Q (.tup []) h) (slices_pdqsortT.k1 C E C0 fL f1 f2 f3 f4 f5 f6 f7 f8 f9 Q Y x (.int .i64 (a : Int)) (.int .i64 (b : Int)) (.int .i64 lim) f (.bool w1) (.bool w2) (.int .i64 ((b - a : Nat) : Int)) (.int .i64 (pv : Int)) h))
     (slices_pdqsortT.k1 C E C0 fL f1 f2 f3 f4 f5 f6 f7 f8 f9 Q Y x (.int .i64 (a : Int)) (.int .i64 (b : Int)) (.int .i64 lim) f (.bool w1) (.bool w2) (.int .i64 ((b - a : Nat) : Int)) (.int .i64 (pv : Int)) hh) := by
    rw [B.cond_true]
    refine J.pis _ _ _ _ _ _ (partialInsertionSort_spec S W hc p.o (by omega) (by omega) (by omega) p.pre fun h' G' t w s o => dn_same ?_)
    have p' := p.turn w o
    have lG' := p'.W.len
    refine B.cond_bool (fun ht => fin p h' w (s ht) o) (fun _ => ?_)
    exact pdq_k1 (Q := Q) (lim := lim) (w1 := w1) (w2 := w2) J S W hc p' (by omega) (by omega) q1 q2 rcs hY
   cases w1 <;> cases w2
   ·simp -dsimp only [B.gd_t, B.gdb_false, B.pick_f, B.cond_false]; exact go
   ·simp -dsimp only [B.gd_t, B.gdb_false, B.pick_f, B.cond_false]; exact go
   ·simp -dsimp only [B.gd_t, B.gdb_true, B.gdb_false, B.pick_t, B.pick_f, B.cond_false]; exact go
   ·by_cases hh1 : hint = 1
    ·simp -dsimp only [B.gd_t, B.gdb_true, V.bin_eql, hh1, decide_true, B.pv_some, B.pick_t]; exact two
    ·simp -dsimp only [B.gd_t, B.gdb_true, V.bin_eql, hh1, decide_false, B.pv_some, B.pick_t, B.cond_false]; exact go
  refine B.cond_bool (fun _ => ?_) (fun _ => k2 m hint m1 m2 p2)
  refine J.rev _ _ _ _ _ _ (reverseRange_spec S (by omega) p2.o (by omega) (by omega) fun h3 G3 w3 o3 => dn_same ?_)
  simp -dsimp only [sub1 (show 1 ≤ b by omega) (show b < 4611686018427387904 by omega), subNN m1 (show m < 4611686018427387904 by omega), subNN (show m - a ≤ b - 1 by omega) (show b - 1 < 4611686018427387904 by omega), B.pv_some]
  exact k2 (b - 1 - (m - a)) 1 (by omega) (by omega) (p2.turn w3 o3)
 simp -dsimp only [slices_pdqsortT.k5, V.un_not, B.pv_some]
 refine B.cond_bool (fun _ => ?_) (fun _ => k4 lim p)
 refine J.brk _ _ _ _ _ _ (breakPatterns_spec J.next J.pow S p.o (by omega) hab (by omega) fun h' G' w o => dn_same ?_)
 simp -dsimp only [V.bin_sub, B.pv_some]
 exact k4 _ (p.turn w o)
end
end Go.Ab.Ord
set_option maxRecDepth 100000
namespace Go.Ab
def Cst (C : CSem) : CSem := fun f args h Q => C f args.dropLast h Q
abbrev J4 (F : AVal → AVal → AVal → AVal → AHeap → (AVal → AHeap → Prop) → Prop) (C : CSem) (n : Nat) : Prop := ∀ (v0 v1 v2 v3 : AVal) (h : AHeap) (Q : AVal → AHeap → Prop), F v0 v1 v2 v3 h (dn Q) → C n [v0, v1, v2, v3] h Q
abbrev J3 (F : AVal → AVal → AVal → AHeap → (AVal → AHeap → Prop) → Prop) (C : CSem) (n : Nat) : Prop := ∀ (v0 v1 v2 : AVal) (h : AHeap) (Q : AVal → AHeap → Prop), F v0 v1 v2 h (dn Q) → C n [v0, v1, v2] h Q
structure OrdI (C : CSem) (E : ElOps) (fL e p q s r v b k n ad md o2 sd nx pw : Nat) : Prop where
 eq : J4 (slices_partitionEqualOrderedG.cps C E fL) C e
 part : J4 (slices_partitionOrderedG.cps C E fL) C p
 pdq : J4 (slices_pdqsortOrderedG.cps C E fL e p q s r v b k n) C q
 pis : J3 (slices_partialInsertionSortOrderedG.cps C E fL) C s
 rev : J3 (slices_reverseRangeOrderedG.cps C E) C r
 piv : J3 (slices_choosePivotOrderedG.cps C E ad md) C v
 brk : J3 (slices_breakPatternsOrderedG.cps C E nx pw) C b
 heap : J3 (slices_heapSortOrderedG.cps C E sd) C k
 ins : J3 (slices_insertionSortOrderedG.cps C E fL) C n
 adj : J3 (slices_medianAdjacentOrderedG.cps C E md) C ad
 med : ∀ (v0 v1 v2 v3 v4 : AVal) (h : AHeap) (Q : AVal → AHeap → Prop), slices_medianOrderedG.cps C E o2 v0 v1 v2 v3 v4 h (dn Q) → C md [v0, v1, v2, v3, v4] h Q
 ord : J4 (slices_order2OrderedG.cps C E fL) C o2
 sift : J4 (slices_siftDownOrderedG.cps C E fL) C sd
 next : NextI C nx
 pow : PowI C pw
theorem e4 {F : AVal → AVal → AVal → AVal → AVal → AHeap → (AVal → AHeap → Prop) → Prop} {G : AVal → AVal → AVal → AVal → AHeap → (AVal → AHeap → Prop) → Prop} {C : CSem} {f : Nat} (i : J4 G C f) (e : ∀ v0 v1 v2 v3 v4 h Q, F v0 v1 v2 v3 v4 h Q = G v0 v1 v2 v3 h Q) : I5 F (Cst C) f :=
 fun v0 v1 v2 v3 v4 h Q x => i v0 v1 v2 v3 h Q (by rw [← e v0 v1 v2 v3 v4]; exact x)
theorem e3 {F : AVal → AVal → AVal → AVal → AHeap → (AVal → AHeap → Prop) → Prop} {G : AVal → AVal → AVal → AHeap → (AVal → AHeap → Prop) → Prop} {C : CSem} {f : Nat} (i : J3 G C f) (e : ∀ v0 v1 v2 v3 h Q, F v0 v1 v2 v3 h Q = G v0 v1 v2 h Q) : I4 F (Cst C) f :=
 fun v0 v1 v2 v3 h Q x => i v0 v1 v2 h Q (by rw [← e v0 v1 v2 v3]; exact x)
section
variable {C : CSem} {E : ElOps} {fL e p q s r v b k n ad md o2 sd nx pw : Nat}
theorem t_eq : ∀ v0 v1 v2 v3 v4 h Q, slices_partitionEqualT.cps (Cst C) E C fL v0 v1 v2 v3 v4 h Q = slices_partitionEqualOrderedG.cps C E fL v0 v1 v2 v3 h Q := by intros; kernel_rfl
theorem t_part : ∀ v0 v1 v2 v3 v4 h Q, slices_partitionT.cps (Cst C) E C fL v0 v1 v2 v3 v4 h Q = slices_partitionOrderedG.cps C E fL v0 v1 v2 v3 h Q := by intros; kernel_rfl
theorem t_pdq : ∀ v0 v1 v2 v3 v4 h Q, slices_pdqsortT.cps (Cst C) E C fL e p q s r v b k n v0 v1 v2 v3 v4 h Q = slices_pdqsortOrderedG.cps C E fL e p q s r v b k n v0 v1 v2 v3 h Q := by intros; kernel_rfl
theorem t_pis : ∀ v0 v1 v2 v3 h Q, slices_partialInsertionSortT.cps (Cst C) E C fL v0 v1 v2 v3 h Q = slices_partialInsertionSortOrderedG.cps C E fL v0 v1 v2 h Q := by intros; kernel_rfl
theorem t_rev : ∀ v0 v1 v2 v3 h Q, slices_reverseRangeT.cps (Cst C) E C fL v0 v1 v2 v3 h Q = slices_reverseRangeOrderedG.cps C E v0 v1 v2 h Q := by intros; kernel_rfl
theorem t_piv : ∀ v0 v1 v2 v3 h Q, slices_choosePivotT.cps (Cst C) E C fL md ad v0 v1 v2 v3 h Q = slices_choosePivotOrderedG.cps C E ad md v0 v1 v2 h Q := by intros; kernel_rfl
theorem t_brk : ∀ v0 v1 v2 v3 h Q, slices_breakPatternsT.cps (Cst C) E C fL nx pw v0 v1 v2 v3 h Q = slices_breakPatternsOrderedG.cps C E nx pw v0 v1 v2 h Q := by intros; kernel_rfl
theorem t_heap : ∀ v0 v1 v2 v3 h Q, slices_heapSortT.cps (Cst C) E C fL sd v0 v1 v2 v3 h Q = slices_heapSortOrderedG.cps C E sd v0 v1 v2 h Q := by intros; kernel_rfl
theorem t_ins : ∀ v0 v1 v2 v3 h Q, slices_insertionSortT.cps (Cst C) E C fL v0 v1 v2 v3 h Q = slices_insertionSortOrderedG.cps C E fL v0 v1 v2 h Q := by intros; kernel_rfl
theorem t_adj : ∀ v0 v1 v2 v3 h Q, slices_medianAdjacentT.cps (Cst C) E C fL md v0 v1 v2 v3 h Q = slices_medianAdjacentOrderedG.cps C E md v0 v1 v2 h Q := by intros; kernel_rfl
theorem t_med : ∀ v0 v1 v2 v3 v4 v5 h Q, slices_medianT.cps (Cst C) E C fL o2 v0 v1 v2 v3 v4 v5 h Q = slices_medianOrderedG.cps C E o2 v0 v1 v2 v3 v4 h Q := by intros; kernel_rfl
theorem t_ord : ∀ v0 v1 v2 v3 v4 h Q, slices_order2T.cps (Cst C) E C fL v0 v1 v2 v3 v4 h Q = slices_order2OrderedG.cps C E fL v0 v1 v2 v3 h Q := by intros; kernel_rfl
theorem t_sift : ∀ v0 v1 v2 v3 v4 h Q, slices_siftDownT.cps (Cst C) E C fL v0 v1 v2 v3 v4 h Q = slices_siftDownOrderedG.cps C E fL v0 v1 v2 v3 h Q := by intros; kernel_rfl
theorem OrdI.toT (J : OrdI C E fL e p q s r v b k n ad md o2 sd nx pw) : Ord.PdqI (Cst C) E C fL e p q s r v b k n o2 md ad sd nx pw where
 eq := e4 J.eq t_eq
 part := e4 J.part t_part
 pdq := e4 J.pdq t_pdq
 pis := e3 J.pis t_pis
 rev := e3 J.rev t_rev
 piv := e3 J.piv t_piv
 brk := e3 J.brk t_brk
 heap := e3 J.heap t_heap
 ins := e3 J.ins t_ins
 ord := e4 J.ord t_ord
 med := fun v0 v1 v2 v3 v4 v5 h Q x => J.med v0 v1 v2 v3 v4 h Q (by rw [← t_med (C := C) (fL := fL) v0 v1 v2 v3 v4 v5]; exact x)
 adj := e3 J.adj t_adj
 sift := e4 J.sift t_sift
 next := J.next
 pow := J.pow
theorem Sort_spec {X : Type} {cs : X → List AVal} {v' : X → AVal} {h0 h : AHeap} {x : AVal} {G : List X} {R : List (List AVal)} {c : X → X → Int} {Q : AVal → AHeap → Prop} {fl : Nat} (J : OrdI C E fL e p q s r v b k n ad md o2 sd nx pw) (hlen : LenI C fl) (S : SeqSpec E cs v') (W : Weak (lessC c))
  (hc : Ord.CmpSpec C v' c fL h0) (hl : G.length ≤ 100000000) (ho : Rw E cs h0 h x G R) (hq : ∀ h' G', G'.Perm G → G'.Pairwise (fun s t => ¬ c t s < 0) → Rw E cs h0 h' x G' R → Q (.tup []) h') : slices_SortG.cps C E fl q x h Q := by
 simp -dsimp only [slices_SortG.cps, slices_SortG.k1, ho.lenE, toUN (show G.length < 18446744073709551616 by omega), B.pv_some]
 refine hlen _ _ _ hl fun r hr _ => ?_
 refine J.pdq _ _ _ _ _ _ ?_
 rw [← t_pdq (C := C) _ _ _ _ .nilf]
 refine Ord.pdq_spec J.toT S W hc _ 0 G.length r h G _ rfl (by omega) (Nat.le_refl _) hl (fun h => by omega) ho fun h' G' w s o => dn_same ?_
 refine hq h' G' w.perm ?_ o
 rw [List.pairwise_iff_getElem]
 intro i j hi hj hij
 have := w.len
 exact s i j (by omega) hij (by omega) hi hj
end
end Go.Ab
namespace Go.Ab
variable {C : CSem} {N : Nat → Nat}
theorem findIdx_none_take {α : Type} {p : α → Bool} {L : List α} {k : Nat} (hk : k < L.length) (h : ∀ i, i < k → ∀ a, L[i]? = some a → p a = false) (hp : p L[k] = true) : L.findIdx? p = some k := by
 rw [List.findIdx?_eq_some_iff_getElem]
 exact ⟨hk, hp, fun j hj => by simp [h j hj _ (List.getElem?_eq_getElem (by omega))]⟩
theorem Owns.cutTo {h0 h : AHeap} {es : Nat} {x : AVal} {L R : List (List AVal)} (ho : Owns h0 h [.sl es x L R]) (hes : 0 < es) {k : Nat} (hk : k ≤ L.length) : ∃ y, V.cutSl es x none (some (.int .i64 (k : Int))) = some y ∧ Owns h0 h [.sl es y (L.take k) (L.drop k ++ R)] := by
 obtain ⟨y, h1, h2, h3⟩ := (ho.slAt 0 rfl).slice hes (a := none) (b := some (.int .i64 (k : Int))) (lo := 0) (hi := k) (.inl ⟨rfl, rfl⟩) (.inr ⟨_, rfl⟩) (by omega) (by omega)
 rw [List.drop_zero, List.take_append_of_le_length hk, List.drop_append_of_le_length hk] at h2
 refine ⟨y, h1, ?_⟩
 have := ho.turn (h' := h) 0 rfl (o' := .sl es y (L.take k) (L.drop k ++ R)) h2 (fun id b hf hb => ho.ownAt 0 rfl id b (by rw [show Ob.foot (.sl es x L R) = foot x from rfl, ← h3]; exact hf) hb) (fun _ _ h _ => h) (.inl (by rw [show Ob.foot (.sl es y _ _) = foot y from rfl, h3]; rfl))
 simpa using this
end Go.Ab
namespace Go.Ab
variable {C : CSem} {N : Nat → Nat}
section
variable {α : Type} [DecidableEq α]
def compactE : List α → List α
 | [] => []
 | [a] => [a]
 | a :: b :: r => if a = b then compactE (b :: r) else a :: compactE (b :: r)
theorem compactE_snoc (a b : α) : ∀ P : List α, compactE (P ++ [a, b]) = if a = b then compactE (P ++ [a]) else compactE (P ++ [a]) ++ [b]
 | [] => by simp only [List.nil_append, compactE]; split <;> simp_all
 | [p] => by
  simp only [List.cons_append, List.nil_append, compactE]
  split <;> split <;> simp_all
 | p :: q :: P => by
  have ih := compactE_snoc a b (q :: P)
  simp only [List.cons_append] at ih ⊢
  simp only [compactE]
  rw [ih]
  split <;> split <;> simp_all
theorem compactE_take {L : List α} {k : Nat} (h1 : 0 < k) (h2 : k < L.length) : compactE (L.take (k + 1)) = if L[k] = L[k - 1] then compactE (L.take k) else compactE (L.take k) ++ [L[k]] := by
 have e1 : L.take (k + 1) = L.take k ++ [L[k]] := by rw [List.take_add_one, List.getElem?_eq_getElem h2]; rfl
 have e2 : L.take k = L.take (k - 1) ++ [L[k - 1]] := by
  conv => lhs; rw [show k = (k - 1) + 1 by omega]
  rw [List.take_add_one, List.getElem?_eq_getElem (by omega)]; rfl
 have := compactE_snoc L[k - 1] L[k] (L.take (k - 1))
 rw [e1, e2, List.append_assoc]
 simp only [List.cons_append, List.nil_append]
 rw [this]
 simp only [eq_comm]
theorem compactE_len : ∀ L : List α, (compactE L).length ≤ L.length
 | [] => Nat.le_refl _
 | [a] => Nat.le_refl _
 | a :: b :: r => by
  have := compactE_len (b :: r)
  simp only [compactE]
  split <;> simp_all <;> omega
theorem compactG_spec {bytes f : Nat} {z : AVal} {v : α → AVal} (hb : bytes ≤ 1000) (hv : ∀ t, (v t).isCell = true) (heq : ∀ a b, V.bin .eql (v a) (v b) = some (.bool (decide (a = b)))) (hne' : ∀ a b, V.bin .neq (v a) (v b) = some (.bool (!decide (a = b))))
  {h0 h : AHeap} {x : AVal} {L : List α} {R : List (List AVal)} {Q : AVal → AHeap → Prop} (ho : Owns h0 h [.sl 1 x (L.map fun a => [v a]) R]) (hlen : L.length ≤ 100000000) (hq : ∀ y h' R', Owns h0 h' [.sl 1 y ((compactE L).map fun a => [v a]) R'] → Q y h') : slices_CompactG.cps C (opsS bytes z f) x h Q := by
 have S : SeqSpec (opsS bytes z f) (fun a : α => [v a]) v := seqS hb hv
 have o : Rw (opsS bytes z f) (fun a : α => [v a]) h0 h x L R := ho
 have l2 : V.bin .lss (.int .i64 (L.length : Int)) (.int .i64 2) = some (.bool (decide (L.length < 2))) := lssN (b := 2)
 simp -dsimp only [slices_CompactG.cps, slices_CompactG.k5, o.lenE, l2, B.pv_some]
 refine B.cond_bool (fun hd => ?_) (fun hd => ?_)
 ·rw [decide_eq_true_eq] at hd
  have : compactE L = L := by
   match L, hd with
   | [], _ => rfl
   | [a], _ => rfl
  exact hq x h R (by rw [this]; exact ho)
 rw [decide_eq_false_iff_not] at hd
 refine LoopR.intro (fun t vs hh => hh = h ∧ ∃ k : Nat, k + t = L.length ∧ vs = [.int .i64 (k : Int)] ∧ 0 < k ∧ compactE (L.take k) = L.take k) (L.length - 1) ?_ ⟨rfl, 1, by omega, rfl, by omega, ?_⟩
 rotate_left
 ·cases L with
  | nil => rfl
  | cons a r => rfl
 rintro Y t vs hh ⟨rfl, k, hkt, rfl, hk0, hck⟩ hY
 simp -dsimp only [slices_CompactG.l4, o.lenE, lssN, B.pv_some]
 refine B.cond_bool (fun hk => ?_) (fun hk => ?_)
 rotate_left
 ·rw [decide_eq_false_iff_not] at hk
  have : k = L.length := by omega
  rw [this, List.take_length] at hck
  exact hq x hh R (by rw [hck]; exact ho)
 rw [decide_eq_true_eq] at hk
 have e1 : V.bin .sub (.int .i64 (k : Int)) (.int .i64 1) = some (.int .i64 ((k - 1 : Nat) : Int)) := subNN (b := 1) (by omega) (by omega)
 have ik := o.idx hk
 have ik1 := o.idx (show k - 1 < L.length by omega)
 simp -dsimp only [slices_CompactG.k3, ik, B.pv_some]
 refine o.ld S (List.getElem?_eq_getElem hk) ?_
 simp -dsimp only [e1, ik1, B.pv_some]
 refine o.ld S (List.getElem?_eq_getElem (show k - 1 < L.length by omega)) ?_
 simp -dsimp only [heq, B.pv_some]
 have hct := compactE_take hk0 hk
 refine B.cond_bool (fun he => ?_) (fun he => ?_)
 rotate_left
 ·rw [decide_eq_false_iff_not] at he
  rw [if_neg he, hck] at hct
  simp -dsimp only [add1 (show k < 4611686018427387904 by omega), B.pv_some]
  refine hY (t - 1) _ _ (by omega) ⟨rfl, k + 1, by omega, rfl, by omega, ?_⟩
  rw [hct, List.take_add_one, List.getElem?_eq_getElem hk]; rfl
 rw [decide_eq_true_eq] at he
 rw [if_pos he, hck] at hct
 have cut : ∀ {h' : AHeap} {G : List α} {R' : List (List AVal)}, Rw (opsS bytes z f) (fun a => [v a]) h0 h' x G R' → G.length = L.length → ∃ y R2, V.cutSl 1 x (some (.int .i64 (k : Int))) none = some y ∧ SlX h' 1 y ((G.drop k).map (fun a => [v a])) R2 := fun {h' G R'} o' hG => by
  obtain ⟨y, R2, h1, h2, _⟩ := (Owns.slAt o' 0 rfl).sliceIn (Nat.one_pos) (a := some (.int .i64 (k : Int))) (b := none) (lo := k) (hi := G.length) (.inr ⟨_, rfl⟩) (.inl ⟨rfl, rfl⟩) (by omega) (Nat.le_refl _)
  rw [List.take_length] at h2
  exact ⟨y, R2, h1, h2⟩
 obtain ⟨s2, _, hs2, _⟩ := cut o rfl
 have cut2 : ∀ {h' : AHeap} {G : List α}, Rw (opsS bytes z f) (fun a => [v a]) h0 h' x G R → G.length = L.length → ∃ R2, SlX h' 1 s2 ((G.drop k).map (fun a => [v a])) R2 := fun {h' G} o' hG => by
  obtain ⟨y, R2, e1, e2⟩ := cut o' hG
  rw [hs2] at e1
  cases e1
  exact ⟨R2, e2⟩
 have hs2' : V.cutSl (opsS bytes z f).es x (some (.int .i64 (k : Int))) none = some s2 := hs2
 simp -dsimp only [hs2', B.pv_some]
 refine LoopR.intro (fun t vs h2 => ∃ (i j : Nat) (G : List α), k + j + t = L.length ∧ vs = [.int .i64 (i : Int), .int .i64 (j : Int)] ∧ k ≤ i ∧ i + 1 ≤ k + j ∧ 0 < j ∧ G.length = L.length ∧ G.take i = compactE (L.take (k + j)) ∧ (∀ q, k + j ≤ q + 1 → G[q]? = L[q]?) ∧ Rw (opsS bytes z f) (fun a => [v a]) h0 h2 x G R) (L.length - (k + 1)) ?_
  ⟨k, 1, L, by omega, rfl, Nat.le_refl _, Nat.le_refl _, Nat.one_pos, rfl, hct.symm, fun _ _ => rfl, o⟩
 rintro Z t2 vs h2 ⟨i, j, G, hjt, rfl, hki, hij, hj0, hGl, hGt, hGq, o2⟩ hZ
 obtain ⟨R2, x2⟩ := cut2 o2 hGl
 have ln2 : V.lenSl s2 = some (.int .i64 ((L.length - k : Nat) : Int)) := by have := x2.lenSl; simpa [hGl] using this
 simp -dsimp only [slices_CompactG.l2, slices_CompactG.k1, ln2, lssN, B.pv_some]
 refine B.cond_bool (fun hlt => ?_) (fun hlt => ?_)
 ·rw [decide_eq_true_eq] at hlt
  have dl : ∀ q, q < L.length - k → (G.drop k)[q]? = G[k + q]? := fun q _ => by rw [List.getElem?_drop]
  have lj : j < ((G.drop k).map (fun a => [v a])).length := by simp; omega
  have lj1 : j - 1 < ((G.drop k).map (fun a => [v a])).length := by simp; omega
  have gj : ((G.drop k).map (fun a => [v a]))[j]? = some ((fun a => [v a]) L[k + j]) := by
   rw [List.getElem?_map, dl j hlt, hGq (k + j) (by omega), List.getElem?_eq_getElem (by omega)]; rfl
  have gj1 : ((G.drop k).map (fun a => [v a]))[j - 1]? = some ((fun a => [v a]) L[k + j - 1]) := by
   rw [List.getElem?_map, dl (j - 1) (by omega), show k + (j - 1) = k + j - 1 by omega, hGq (k + j - 1) (by omega), List.getElem?_eq_getElem (by omega)]; rfl
  have ij : V.idxS (opsS bytes z f).es s2 (.int .i64 (j : Int)) = some (elp 1 s2 j 0) := x2.idxN lj
  have ij1 : V.idxS (opsS bytes z f).es s2 (.int .i64 ((j - 1 : Nat) : Int)) = some (elp 1 s2 (j - 1) 0) := x2.idxN lj1
  have e2 : V.bin .sub (.int .i64 (j : Int)) (.int .i64 1) = some (.int .i64 ((j - 1 : Nat) : Int)) := subNN (b := 1) (by omega) (by omega)
  simp -dsimp only [ij, B.pv_some]
  refine S.ld x2 gj ?_
  simp -dsimp only [e2, ij1, B.pv_some]
  refine S.ld x2 gj1 ?_
  simp -dsimp only [hne', B.pv_some]
  have hst := compactE_take (L := L) (k := k + j) (by omega) (by omega)
  refine B.cond_bool (fun hne => ?_) (fun hne => ?_)
  ·have hne : L[k + j] ≠ L[k + j - 1] := by simpa using hne
   rw [if_neg hne] at hst
   simp -dsimp only [ij, B.pv_some]
   refine S.ld x2 gj ?_
   simp -dsimp only [o2.idx (show i < G.length by omega), B.pv_some]
   refine o2.st S (t := L[k + j]) (by omega) fun h3 o3 => ?_
   simp -dsimp only [add1 (show i < 4611686018427387904 by omega), add1 (show j < 4611686018427387904 by omega), B.pv_some]
   refine hZ (t2 - 1) _ _ (by omega) ⟨i + 1, j + 1, _, by omega, rfl, by omega, by omega, by omega, by simpa using hGl, ?_, fun q hq' => ?_, o3⟩
   ·rw [← Nat.add_assoc, hst, ← hGt, List.take_add_one]
    rw [List.getElem?_set_self (by omega), List.take_set_of_le (Nat.le_refl _)]; rfl
   ·rw [List.getElem?_set_ne (by omega)]; exact hGq q (by omega)
  ·have hne : L[k + j] = L[k + j - 1] := by simpa using hne
   rw [if_pos hne] at hst
   simp -dsimp only [add1 (show j < 4611686018427387904 by omega), B.pv_some]
   exact hZ (t2 - 1) _ _ (by omega) ⟨i, j + 1, G, by omega, rfl, hki, by omega, by omega, hGl, by rw [← Nat.add_assoc, hst]; exact hGt, fun q hq' => hGq q (by omega), o2⟩
 ·rw [decide_eq_false_iff_not] at hlt
  have : k + j = L.length := by omega
  rw [this, List.take_length] at hGt
  obtain ⟨y, y1, y2⟩ := Owns.clrTail (z := [z]) (lo := i) (K := fun v h => B.pv (V.cutSl 1 x none (some (.int .i64 (i : Int)))) fun v59 => Q v59 h) o2 0 rfl rfl (by simp; omega) fun h3 o3 _ => by
   have o3 : Owns h0 h3 [.sl 1 x ((G.map (fun a => [v a])).take i ++ List.replicate ((G.map (fun a => [v a])).length - i) [z]) R] := o3
   obtain ⟨z', z1, z2⟩ := o3.cutTo Nat.one_pos (k := i) (by simp; omega)
   simp -dsimp only [z1, B.pv_some]
   have e3 : ((G.map (fun a => [v a])).take i ++ List.replicate ((G.map (fun a => [v a])).length - i) [z]).take i = (compactE L).map (fun a => [v a]) := by
    rw [List.take_append_of_le_length (by simp; omega), List.take_take, Nat.min_self, ← List.map_take, hGt]
   rw [e3] at z2
   exact hq z' h3 _ z2
  have y1' : V.cutSl (opsS bytes z f).es x (some (.int .i64 (i : Int))) none = some y := y1
  simp -dsimp only [y1', B.pv_some]
  exact y2
end
end Go.Ab
namespace Go.Ab
variable {C : CSem} {N : Nat → Nat}
theorem V.bin_slss (a b : List UInt8) : V.bin .lss (.str a) (.str b) = some (.bool (lessB a b)) := rfl
theorem weakB : Weak (lessC cmpB) := by
 constructor <;> simp only [lessC, decide_eq_true_eq, decide_eq_false_iff_not, cmpB_neg]
 ·intro a b h; rw [lessB_asym h]; simp
 ·intro a b c h1 h2 h3
  have h1 : lessB a b = false := by simpa using h1
  have h2 : lessB b c = false := by simpa using h2
  by_cases e : a = b
  ·subst e; rw [h2] at h3; cases h3
  ·have := lessB_trans (lessB_or h1 e) h3
   rw [h2] at this; cases this
def cmp_isNaN_string.Spec (C : CSem) (N : Nat → Nat) : Prop := ∀ (a : List UInt8) (h : AHeap) (Q : AVal → AHeap → Prop), Q (.bool false) h → C (N 389) [.str a] h Q
theorem cmp_isNaN_string.spec (i : cmp_isNaN_string.Imp C N) : cmp_isNaN_string.Spec C N := by
 intro a h Q hq
 apply i
 simp -dsimp
 exact dn_same hq
def cmp_Less_string.Spec (C : CSem) (N : Nat → Nat) : Prop := ∀ (a b : List UInt8) (h : AHeap) (Q : AVal → AHeap → Prop), Q (.bool (lessB a b)) h → C (N 377) [.str a, .str b] h Q
theorem cmp_Less_string.spec (i : cmp_Less_string.Imp C N) (s1 : cmp_isNaN_string.Spec C N) : cmp_Less_string.Spec C N := by
 intro a b h Q hq
 apply i
 simp -dsimp
 refine s1 _ _ _ ?_
 simp -dsimp [V.bin_slss]
 exact dn_same hq
def SortedB (L : List (List UInt8)) : Prop := L.Pairwise fun s t => lessB t s = false
def slices_Sort_string_string.Spec (C : CSem) (N : Nat → Nat) : Prop := ∀ (h0 h : AHeap) (x : AVal) (L : List (List UInt8)) (R : List (List AVal)) (Q : AVal → AHeap → Prop), Owns h0 h [.sl 1 x (L.map tc) R] → L.length ≤ 100000000 →
 (∀ h' (L' : List (List UInt8)), L'.Perm L → SortedB L' → Owns h0 h' [.sl 1 x (L'.map tc) R] → Q (.tup []) h') → C (N 364) [x] h Q
theorem seqT : SeqSpec (opsS 16 (.str []) 0) tc (fun a : List UInt8 => AVal.str a) := seqS (by omega) fun _ => rfl
theorem slices_Sort_string_string.spec (i : slices_Sort_string_string.Imp C N) (j1 : slices_partitionEqualOrdered_string.Imp C N) (j2 : slices_partitionOrdered_string.Imp C N) (j3 : slices_pdqsortOrdered_string.Imp C N) (j4 : slices_partialInsertionSortOrdered_string.Imp C N)
  (j5 : slices_reverseRangeOrdered_string.Imp C N) (j6 : slices_choosePivotOrdered_string.Imp C N) (j7 : slices_breakPatternsOrdered_string.Imp C N) (j8 : slices_heapSortOrdered_string.Imp C N) (j9 : slices_insertionSortOrdered_string.Imp C N) (k1 : slices_medianAdjacentOrdered_string.Imp C N)
  (k2 : slices_medianOrdered_string.Imp C N) (k3 : slices_order2Ordered_string.Imp C N) (k4 : slices_siftDownOrdered_string.Imp C N) (k5 : NextI C (N 298)) (k6 : PowI C (N 299)) (hl : LenI C (N 287)) (s1 : cmp_Less_string.Spec C N) : slices_Sort_string_string.Spec C N := by
 intro h0 h x L R Q ho hlen hq
 have J : OrdI C (opsS 16 (.str []) 0) (N 377) (N 378) (N 379) (N 375) (N 380) (N 381) (N 382) (N 383) (N 384) (N 385) (N 387) (N 388) (N 390) (N 386) (N 298) (N 299) := ⟨j1, j2, j3, j4, j5, j6, j7, j8, j9, k1, k2, k3, k4, k5, k6⟩
 have hc : Ord.CmpSpec C (fun a : List UInt8 => AVal.str a) cmpB (N 377) h0 := ⟨fun h' a b K _ hk => s1 _ _ _ _ (by
  rw [show lessB a b = decide (cmpB a b < 0) by rw [Bool.eq_iff_iff, decide_eq_true_eq]; exact cmpB_neg.symm]; exact hk)⟩
 refine i _ _ _ (Sort_spec J hl seqT weakB hc hlen (show Rw _ _ _ _ _ _ _ from ho) fun h' G' hp hs o' => dn_same (hq h' G' hp (hs.imp fun {a b} hab => ?_) o'))
 rw [cmpB_neg] at hab
 simpa using hab
def slices_Compact_string_string.Spec (C : CSem) (N : Nat → Nat) : Prop := ∀ (h0 h : AHeap) (x : AVal) (L : List (List UInt8)) (R : List (List AVal)) (Q : AVal → AHeap → Prop), Owns h0 h [.sl 1 x (L.map tc) R] → L.length ≤ 100000000 →
 (∀ y h' R', Owns h0 h' [.sl 1 y ((compactE L).map tc) R'] → Q y h') → C (N 365) [x] h Q
theorem slices_Compact_string_string.spec (i : slices_Compact_string_string.Imp C N) : slices_Compact_string_string.Spec C N := fun h0 h x L R Q ho hlen hq =>
 i x h Q (compactG_spec (v := fun a : List UInt8 => AVal.str a) (by omega) (fun _ => rfl) V.bin_seql V.bin_sneq ho hlen fun y h' R' o => dn_same (hq y h' R' o))
theorem repL_one : ∀ (n : Nat) (v : AVal), repL n [v] = List.replicate n v
 | 0, _ => rfl
 | n + 1, v => (congrArg (v :: ·) (repL_one n v)).trans rfl
def slices_Grow_string_string.Spec (C : CSem) (N : Nat → Nat) : Prop := ∀ (n : Nat) (h : AHeap) (Q : AVal → AHeap → Prop), n ≤ 100000000 → (∀ x h' R, Owns h h' [.sl 1 x [] R] → Q x h') → C (N 376) [.nils, .int .i64 (n : Int)] h Q
theorem slices_Grow_string_string.spec (i : slices_Grow_string_string.Imp C N) : slices_Grow_string_string.Spec C N := by
 intro n h Q hn hq
 apply i
 have e0 : V.bin .lss (.int .i64 (n : Int)) (.int .i64 0) = some (.bool (decide (n < 0))) := lssN (b := 0)
 have e1 : V.bin .sub (.int .i64 0) (.int .i64 0) = some (.int .i64 0) := rfl
 have e2 : V.bin .sub (.int .i64 (n : Int)) (.int .i64 0) = some (.int .i64 (n : Int)) := subNN (b := 0) (by omega) (by omega)
 simp -dsimp only [slices_Grow_string_string.cps, slices_GrowG.cps, slices_GrowG.k1, e0, e1, e2, V.capSl, V.lenSl, V.bin_gtr, B.pv_some, Nat.not_lt_zero, decide_false, B.cond_false]
 refine B.cond_bool (fun hb => ?_) (fun hb => ?_)
 ·have hb : 0 < n := by simpa using hb
  have e3 : V.cutSl (opsS 16 (.str []) 0).es .nils none (some (.int .i64 0)) = some .nils := rfl
  have ec : V.capSl .nils = some (.int .i64 0) := rfl
  have el : V.lenSl .nils = some (.int .i64 0) := rfl
  simp -dsimp only [ec, e3, B.pv_some]
  refine ⟨⟨rfl, by omega, by simp [opsS]; omega, by simp [maxLen]; omega⟩, fun id hid => ?_⟩
  have hr : repL (n : Int).toNat (opsS 16 (.str []) 0).z = List.replicate n (.str []) := by rw [Int.toNat_natCast]; exact repL_one n _
  rw [hr]
  have o := (Owns.start h).newSl (id := id) (n := n) (cp := n) (es := 1) (cs := List.replicate n (.str [])) (L := List.replicate n [.str []]) (R := []) hid (by simp) (by simp) (by simp) (by simp)
  obtain ⟨y, e4, e5⟩ := Owns.cutTo (x := .sl id 0 0 n 1 n) o Nat.one_pos (k := 0) (by omega)
  rw [Int.toNat_natCast]
  simp -dsimp only [el, B.pv_some]
  have e4' : V.cutSl (opsS 16 (.str []) 0).es (.sl id 0 0 n (opsS 16 (.str []) 0).es n) none (some (.int .i64 0)) = some y := e4
  simp -dsimp only [e4', B.pv_some]
  exact dn_same (hq y _ _ e5)
 ·exact dn_same (hq _ _ _ ((Owns.start h).nils 1))
theorem sumLen_take {α : Type} {L : List (List α)} {k : Nat} (hk : k < L.length) : ((L.take (k + 1)).flatten).length = (L.take k).flatten.length + L[k].length := by
 rw [List.take_add_one, List.getElem?_eq_getElem hk]; simp only [Option.toList_some, List.flatten_append, List.length_append, List.flatten_singleton]
theorem sumLen_le {α : Type} (L : List (List α)) (k : Nat) : ((L.take k).flatten).length ≤ L.flatten.length := by
 conv => rhs; rw [← List.take_append_drop k L]
 simp only [List.flatten_append, List.length_append]; omega
def slices_Concat_string_string.Spec (C : CSem) (N : Nat → Nat) : Prop := ∀ (x : AVal) (xs : List AVal) (L : List (List (List UInt8))) (R : List (List AVal)) (h : AHeap) (Q : AVal → AHeap → Prop), SlX h 1 x (xs.map fun y => [y]) R → xs.length = L.length → (∀ (i : Nat) (y : AVal) (l : List (List UInt8)), xs[i]? = some y → L[i]? = some l → ∃ R, SlX h 1 y (l.map tc) R) → L.length ≤ 1000 → L.flatten.length ≤ 100000000 →
 (∀ x' h' R', Owns h h' [.sl 1 x' (L.flatten.map tc) R'] → Q x' h') → C (N 373) [x] h Q
theorem slices_Concat_string_string.spec (i : slices_Concat_string_string.Imp C N) (s1 : slices_Grow_string_string.Spec C N) : slices_Concat_string_string.Spec C N := by
 intro x xs L R h Q hx hxl hin hl1 hl2 hq
 apply i
 have hlen := hx.lenSl
 rw [List.length_map, hxl] at hlen
 simp -dsimp only [slices_Concat_string_string.cps, slices_ConcatG.cps, hlen, B.pv_some]
 have cell : ∀ {hh : AHeap} (hle : h.le hh) {k : Nat} (hk : k < L.length) {K : AVal → Prop}, (∀ y R2, SlX hh 1 y (L[k].map tc) R2 → K y) → B.pv (V.idxS (opsS 24 .nils 0).es x (.int .i64 (k : Int))) (fun v => (opsS 24 .nils 0).ld hh v K) := fun {hh} hle {k} hk {K} hK => by
  have hg : (xs.map fun y => [y])[k]? = some [xs[k]'(by omega)] := by rw [List.getElem?_map, List.getElem?_eq_getElem (by omega)]; rfl
  have hidx : V.idxS (opsS 24 .nils 0).es x (.int .i64 (k : Int)) = some (elp 1 x k 0) := hx.idxN (by simp; omega)
  rw [hidx, B.pv_some]
  simp only [opsS, B.ld_eq]
  rw [(hx.mono hle).cell hg, B.pv_some]
  obtain ⟨R2, h2⟩ := hin k _ _ (List.getElem?_eq_getElem (by omega)) (List.getElem?_eq_getElem hk)
  exact hK _ _ (h2.mono hle)
 refine LoopR.intro (fun t vs hh => hh = h ∧ ∃ k : Nat, k + t = L.length ∧ vs = [.int .i64 ((L.take k).flatten.length : Int), .int .i64 (k : Int)]) L.length ?_ ⟨rfl, 0, by omega, rfl⟩
 rintro Y t vs hh ⟨rfl, k, ht, rfl⟩ hY
 simp -dsimp only [slices_ConcatG.l4, slices_ConcatG.k3, lssN, B.pv_some]
 refine B.cond_bool (fun hb => ?_) (fun hb => ?_)
 ·rw [decide_eq_true_eq] at hb
  have hs := sumLen_take hb
  have hle := sumLen_le L (k + 1)
  refine cell (AHeap.le_refl _) hb fun y R2 hy => ?_
  have e1 := hy.lenSl
  rw [List.length_map] at e1
  have e2 : V.bin .lss (.int .i64 (((L.take k).flatten.length + L[k].length : Nat) : Int)) (.int .i64 0) = some (.bool false) := by
   exact (lssN (b := 0)).trans (by simp)
  simp -dsimp only [e1, addNN (a := (L.take k).flatten.length) (b := L[k].length) (by omega), e2, B.pv_some, B.cond_false, add1 (show k < 4611686018427387904 by omega)]
  exact hY (t - 1) _ _ (by omega) ⟨rfl, k + 1, by omega, by rw [hs]⟩
 ·rw [decide_eq_false_iff_not] at hb
  have hk : k = L.length := by omega
  subst hk
  rw [List.take_length]
  refine s1 _ _ _ hl2 fun y0 h1 R1 o1 => ?_
  simp -dsimp only [hlen, B.pv_some]
  refine LoopR.intro (fun t vs h2 => ∃ (k : Nat) (y : AVal) (R2 : List (List AVal)), k + t = L.length ∧ vs = [y, .int .i64 (k : Int)] ∧ Owns hh h2 [.sl 1 y ((L.take k).flatten.map tc) R2]) L.length ?_ ⟨0, y0, R1, by omega, rfl, o1⟩
  rintro Z t2 vs h2 ⟨k, y, R2, ht2, rfl, o2⟩ hZ
  simp -dsimp only [slices_ConcatG.l2, slices_ConcatG.k1, lssN, B.pv_some]
  refine B.cond_bool (fun hc => ?_) (fun hc => ?_)
  ·rw [decide_eq_true_eq] at hc
   have hs := sumLen_take hc
   have hle := sumLen_le L (k + 1)
   refine cell o2.le hc fun z R3 hz => ?_
   refine o2.appW 0 rfl hz Nat.one_pos (by simp only [List.length_map]; omega) (by simp only [List.length_map, maxLen]; omega) fun x' h' o3 _ => ?_
   simp -dsimp only [add1 (show k < 4611686018427387904 by omega), B.pv_some]
   refine hZ (t2 - 1) _ _ (by omega) ⟨k + 1, x', [], by omega, rfl, ?_⟩
   rw [List.take_add_one, List.getElem?_eq_getElem hc, Option.toList_some, List.flatten_append, List.flatten_singleton, List.map_append]
   exact o3
  ·rw [decide_eq_false_iff_not] at hc
   have hk : k = L.length := by omega
   subst hk
   rw [List.take_length] at o2
   exact dn_same (hq _ _ _ o2)
end Go.Ab
namespace Go.Ab
variable {C : CSem} {N : Nat → Nat}
abbrev mStr (s : List UInt8) : AVal := .str s
abbrev mInt (n : Int) : AVal := .int .i64 n
abbrev cntB (ps : Ents (List UInt8) Int) (c : Nat) : Blk := mapBlk (encM mStr mInt ps) c
def kit_right.Spec (C : CSem) (N : Nat → Nat) : Prop := ∀ (x : Itm) (a : AVal × AVal) (h : AHeap) (Q : AVal → AHeap → Prop), itemK.at_ h x a → Q (.bool (kitOne x)) h → C (N 372) [.agg (iCells x a)] h Q
theorem partsIn_take {x : Itm} {k : Nat} (hk : k < x.Parts.length) : (partsIn x).take (k + 1) = (partsIn x).take k ++ [x.Parts[k].Item] := by
 unfold partsIn
 rw [List.take_add_one, List.getElem?_map, List.getElem?_eq_getElem hk]; rfl
theorem kit_right.spec (i : kit_right.Imp C N) : kit_right.Spec C N := by
 intro x a h Q ha hq
 obtain ⟨⟨R1, a1⟩, _, a3, _⟩ : (∃ R, SlX h 2 a.1 (x.Parts.map Part.cs) R) ∧ (∃ R, SlX h 1 a.2 (x.Others.map tc) R) ∧ x.ok := ha
 unfold few at a3
 apply i
 have e1 := a1.lenSl
 rw [List.length_map] at e1
 simp -dsimp [e1]
 refine B.cond_bool (fun hb => ?_) (fun hb => ?_)
 ·have hp : x.Parts = [] := by
   have : (x.Parts.length : Int) = 0 := by simpa using hb
   exact List.length_eq_zero_iff.1 (by omega)
  have hk : kitOne x = (decide (0 < x.Life) && decide (x.Life ≤ 2000)) := by unfold kitOne; rw [hp]; rfl
  by_cases hl : 0 < x.Life
  ·simp -dsimp [hl]
   rw [hk] at hq
   simp [hl] at hq
   exact dn_same hq
  ·simp -dsimp [hl]
   rw [hk] at hq
   simp [hl] at hq
   exact dn_same hq
 ·have hp : x.Parts ≠ [] := fun e => by rw [e] at hb; simp at hb
  have hk : kitOne x = ((x.Parts.all fun p => decide (1 ≤ p.Qty) && decide (p.Qty ≤ 1073741824)) && (decide (partsIn x).Nodup && (decide (x.Life = 0) && decide (x.Parts.length ≤ 8)))) := by unfold kitOne; simp [hp]
  refine (Owns.start h).newMap (K := List UInt8) (T := Int) mStr mInt fun id h1 _ o1 _ => ?_
  simp -dsimp [e1]
  refine LoopR.intro (fun t vs hh => ∃ (k : Nat) (ps : Ents (List UInt8) Int) (c : Nat), k + t = x.Parts.length ∧ vs = [.int .i64 (k : Int)] ∧ Owns h hh [.blk id (cntB ps c)] ∧ (∀ p ∈ x.Parts.take k, 1 ≤ p.Qty ∧ p.Qty ≤ 1073741824) ∧
   ((partsIn x).take k).Nodup ∧ ∀ s, getP ps s = if s ∈ (partsIn x).take k then some 1 else none) x.Parts.length ?_ ⟨0, [], 0, by omega, rfl, o1, by simp, by simp, by simp [getP]⟩
  rintro Y t vs hh ⟨k, ps, c, ht, rfl, o, hqty, hnd, hget⟩ hY
  simp -dsimp only [kit_right.l3, kit_right.k2, e1, lssN, B.pv_some]
  refine B.cond_bool (fun hc => ?_) (fun hc => ?_)
  ·rw [decide_eq_true_eq] at hc
   have hg : (x.Parts.map Part.cs)[k]? = some x.Parts[k].cs := by rw [List.getElem?_map, List.getElem?_eq_getElem hc]; rfl
   have hidx : V.idxS 2 a.1 (.int .i64 (k : Int)) = some (elp 2 a.1 k 0) := a1.idxN (by simpa using hc)
   have hel := (a1.mono o.le).elem hg
   have hlk : A.lkp hh (some .s) (some (.int .i64 0)) false (.mp id) (.str x.Parts[k].Item) = some (.int .i64 ((getP ps x.Parts[k].Item).getD 0)) := o.lkp 0 rfl keyS 0 _
   simp -dsimp [hidx, hel, hlk, - V.bin_add]
   have hadd : V.bin .add (.int .i64 ((getP ps x.Parts[k].Item).getD 0)) (.int .i64 1) = some (.int .i64 ((getP ps x.Parts[k].Item).getD 0 + 1)) := by
    rw [hget]
    split <;> rfl
   simp -dsimp [hadd, - V.bin_add]
   refine o.mset 0 rfl keyS _ ((getP ps x.Parts[k].Item).getD 0 + 1) fun h2 o2 _ _ => ?_
   have hlk2 : A.lkp h2 (some .s) (some (.int .i64 0)) false (.mp id) (.str x.Parts[k].Item) = some (.int .i64 ((getP ps x.Parts[k].Item).getD 0 + 1)) := by
    have := o2.lkp 0 rfl keyS 0 x.Parts[k].Item
    rw [getP_put, if_pos rfl] at this
    exact this
   have hm : x.Parts[k] ∈ x.Parts := List.getElem_mem hc
   have no : kitOne x = false → dn Q (.bool false) h2 := fun e => by rw [e] at hq; exact dn_le o2.le hq
   simp -dsimp [hlk2, - V.bin_add]
   by_cases q1 : x.Parts[k].Qty < 1
   ·simp -dsimp [q1]
    refine no ?_
    rw [hk, List.all_eq_false.2 ⟨_, hm, by simp; omega⟩]; rfl
   by_cases q2 : 1073741824 < x.Parts[k].Qty
   ·simp -dsimp [q1, q2]
    refine no ?_
    rw [hk, List.all_eq_false.2 ⟨_, hm, by simp; omega⟩]; rfl
   by_cases q3 : x.Parts[k].Item ∈ (partsIn x).take k
   ·have : getP ps x.Parts[k].Item = some 1 := by rw [hget, if_pos q3]
    simp -dsimp [q1, q2]
    simp -dsimp [hlk2, this]
    refine no ?_
    have hnn : ¬ (partsIn x).Nodup := fun hn => by
     have h3 := hn.sublist (List.take_sublist (k + 1) _)
     rw [partsIn_take hc, List.nodup_append] at h3
     exact h3.2.2 _ q3 _ (List.mem_singleton_self _) rfl
    rw [hk]; simp [hnn]
   ·have hz : getP ps x.Parts[k].Item = none := by rw [hget, if_neg q3]
    simp -dsimp [q1, q2]
    simp -dsimp [hlk2, hz, - V.bin_add, add1 (show k < 4611686018427387904 by omega)]
    refine hY (t - 1) _ _ (by omega) ⟨k + 1, _, _, by omega, rfl, o2, ?_, ?_, ?_⟩
    ·intro p hp
     rw [List.take_add_one, List.getElem?_eq_getElem hc, List.mem_append] at hp
     rcases hp with hp | hp
     ·exact hqty p hp
     ·have : p = x.Parts[k] := by simpa using hp
      subst this; exact ⟨by omega, by omega⟩
    ·rw [partsIn_take hc, List.nodup_append]
     exact ⟨hnd, by simp, fun s hs t ht e => q3 (by rw [List.mem_singleton.1 ht] at e; rw [← e]; exact hs)⟩
    ·intro s
     rw [getP_put, hz, hget s, partsIn_take hc]
     by_cases hs : s = x.Parts[k].Item <;> simp [hs]
  ·rw [decide_eq_false_iff_not] at hc
   have hke : k = x.Parts.length := by omega
   subst hke
   have h1 : (x.Parts.all fun p => decide (1 ≤ p.Qty) && decide (p.Qty ≤ 1073741824)) = true := by
    rw [List.all_eq_true]
    intro p hp
    have := hqty p (by rw [List.take_length]; exact hp)
    simp; omega
   have h2 : (partsIn x).Nodup := by
    rw [List.take_of_length_le (by simp [partsIn])] at hnd; exact hnd
   have hk' : kitOne x = (decide (x.Life = 0) && decide (x.Parts.length ≤ 8)) := by rw [hk, h1]; simp [h2]
   by_cases hl : x.Life = 0
   ·simp -dsimp [hl, e1]
    rw [hk'] at hq
    simp [hl] at hq
    refine dn_le o.le ?_
    rwa [show decide ((x.Parts.length : Int) ≤ 8) = decide (x.Parts.length ≤ 8) from decide_eq_decide.2 (by omega)]
   ·simp -dsimp [hl]
    rw [hk'] at hq
    simp [hl] at hq
    exact dn_le o.le hq
abbrev mItm (p : Itm × AVal × AVal) : AVal := .agg (iCells p.1 p.2)
abbrev bookB (A : Ents (List UInt8) (Itm × AVal × AVal)) (c : Nat) : Blk := mapBlk (encM mStr mItm A) c
abbrev zItm : Itm × AVal × AVal := (⟨[], 0, [], []⟩, (.nils, .nils))
structure BookOf (h : AHeap) (L : List Itm) (A : Ents (List UInt8) (Itm × AVal × AVal)) (c : Nat) : Prop where
 births : Births A c
 keys : keysP A = codesL L
 get : ∀ s, (getP A s).map (·.1) = itemOf L s
 at_ : ∀ s p, getP A s = some p → itemK.at_ h p.1 p.2
theorem BookOf.mono {h h' : AHeap} {L : List Itm} {A : Ents (List UInt8) (Itm × AVal × AVal)} {c : Nat} (b : BookOf h L A c) (hle : h.le h') : BookOf h' L A c :=
 ⟨b.births, b.keys, b.get, fun s p hp => itemK.mono hle (b.at_ s p hp)⟩
theorem codesL_take {L : List Itm} {k : Nat} (hk : k < L.length) : codesL (L.take (k + 1)) = codesL (L.take k) ++ [L[k].Code] := by
 unfold codesL
 rw [List.take_add_one, List.getElem?_eq_getElem hk, List.map_append]; rfl
theorem codesL_new {L : List Itm} (hn : (codesL L).Nodup) {k : Nat} (hk : k < L.length) : L[k].Code ∉ codesL (L.take k) := fun hm => by
 have h3 : (codesL (L.take (k + 1))).Nodup := hn.sublist ((List.take_sublist (k + 1) L).map _)
 rw [codesL_take hk, List.nodup_append] at h3
 exact h3.2.2 _ hm _ (List.mem_singleton_self _) rfl
theorem Dl.get2 {T Ad : Type} {K : DK T Ad} {h H : AHeap} {x : AVal} {L : List T} (hd : Dl K h x L) (hle : h.le H) {i : Nat} {t : T} (hi : L[i]? = some t) : ∃ a, DEl K H x i t a ∧ K.at_ h t a := by
 obtain ⟨P, R, rfl, s, ha⟩ := hd
 rw [List.getElem?_map] at hi
 obtain ⟨p, hp, rfl⟩ := Option.map_eq_some_iff.1 hi
 exact ⟨p.2, slX_el (s.mono hle) (fun p h => K.mono hle (ha p h)) hp, ha p (List.mem_of_getElem? hp)⟩
def kit_book.Spec (C : CSem) (N : Nat → Nat) : Prop := ∀ (x : AVal) (L : List Itm) (h : AHeap) (Q : AVal → AHeap → Prop), Dl itemK h x L → (codesL L).Nodup → L.length ≤ 1000000 →
 (∀ id h' A c, Owns h h' [.blk id (bookB A c)] → BookOf h L A c → Q (.mp id) h') → C (N 371) [x] h Q
theorem kit_book.spec (i : kit_book.Imp C N) : kit_book.Spec C N := by
 intro x L h Q hx hn hlen hq
 apply i
 refine (Owns.start h).newMap (K := List UInt8) (T := Itm × AVal × AVal) mStr mItm fun id h1 _ o1 _ => ?_
 simp -dsimp [hx.lenSl]
 refine LoopR.intro (fun t vs hh => ∃ (k : Nat) (A : Ents (List UInt8) (Itm × AVal × AVal)) (c : Nat), k + t = L.length ∧ vs = [.int .i64 (k : Int)] ∧ Owns h hh [.blk id (bookB A c)] ∧ BookOf h (L.take k) A c) L.length ?_
  ⟨0, [], 0, by omega, rfl, o1, Births.nil 0, rfl, fun _ => rfl, fun _ _ h => by cases h⟩
 rintro Y t vs hh ⟨k, A, c, ht, rfl, o, hb⟩ hY
 simp -dsimp only [kit_book.l2, kit_book.k1, lssN, B.pv_some]
 refine B.cond_bool (fun hc => ?_) (fun hc => ?_)
 ·rw [decide_eq_true_eq] at hc
  obtain ⟨a, ea, ha⟩ := hx.get2 o.le (List.getElem?_eq_getElem hc)
  have e1 := ea.idx
  have e2 := ea.ldn
  simp only [itemK] at e1 e2
  simp -dsimp [e1, e2, - V.bin_add]
  refine o.mset 0 rfl keyS L[k].Code (L[k], a) fun h2 o2 _ _ => ?_
  simp -dsimp [- V.bin_add, add1 (show k < 4611686018427387904 by omega)]
  have hnew := codesL_new hn hc
  refine hY (t - 1) _ _ (by omega) ⟨k + 1, _, _, by omega, rfl, o2, hb.births.put _ _, ?_, ?_, ?_⟩
  ·rw [keysP_put, hb.keys, if_neg hnew, codesL_take hc]
  ·intro s
   rw [getP_put, List.take_add_one, List.getElem?_eq_getElem hc, Option.toList_some]
   unfold itemOf
   rw [List.find?_append]
   by_cases hs : s = L[k].Code
   ·subst hs
    have : (L.take k).find? (fun x => decide (x.Code = L[k].Code)) = none := itemOf_none.2 hnew
    rw [this]
    simp
   ·have h1 := hb.get s
    unfold itemOf at h1
    rw [if_neg hs, h1]
    simp [Ne.symm hs]
  ·intro s p hp
   rw [getP_put] at hp
   by_cases hs : s = L[k].Code
   ·rw [if_pos hs] at hp; cases hp; exact ha
   ·rw [if_neg hs] at hp; exact hb.at_ s p hp
 ·rw [decide_eq_false_iff_not] at hc
  have hk : k = L.length := by omega
  subst hk
  rw [List.take_length] at hb
  exact dn_same (hq _ _ _ _ o hb)
end Go.Ab
namespace Go.Ab
variable {C : CSem} {N : Nat → Nat}
structure LookI (K : List (List UInt8)) (D : List UInt8 → Option Nat) (O : Ents (List UInt8) Int) (co : Nat) : Prop where
 births : Births O co
 nd : (keysP O).Nodup
 val : ∀ s v, getP O s = some v → s ∈ K ∧ (v = -1 ∨ ∃ d : Nat, D s = some d ∧ v = d)
def missing (K : List (List UInt8)) (O : Ents (List UInt8) Int) : Nat := K.countP fun s => (getP O s).isNone
theorem missing_le {K : List (List UInt8)} {O O' : Ents (List UInt8) Int} (h : ∀ s v, getP O s = some v → getP O' s = some v) : missing K O' ≤ missing K O := by
 refine List.countP_mono_left fun s _ hs => ?_
 cases e : getP O s with
 | none => rfl
 | some v => rw [h s v e] at hs; cases hs
theorem missing_put {O : Ents (List UInt8) Int} {c : List UInt8} {v : Int} {co : Nat} (hc : getP O c = none) : ∀ {K : List (List UInt8)}, c ∈ K → missing K (putP O c v co) < missing K O
 | a :: K, hm => by
  have step : ∀ K, missing K (putP O c v co) ≤ missing K O := fun K => missing_le fun s w hs => by
   rw [getP_put]
   by_cases e : s = c
   ·subst e; rw [hc] at hs; cases hs
   ·rw [if_neg e]; exact hs
  unfold missing at step ⊢
  rw [List.countP_cons, List.countP_cons]
  by_cases e : a = c
  ·subst e
   have := step K
   simp only [getP_put, if_true, hc, Option.isNone_none, Option.isNone_some]
   have h2 : (List.countP (fun s => (if s = a then some v else getP O s).isNone) K) ≤ List.countP (fun s => (getP O s).isNone) K := by
    simpa only [getP_put] using this
   simp
   omega
  ·have hm : c ∈ K := by
    rcases List.mem_cons.1 hm with rfl | h
    ·exact absurd rfl e
    ·exact h
   have := missing_put (v := v) (co := co) hc hm
   unfold missing at this
   rw [getP_put, if_neg e]
   omega
theorem max2N (a b : Nat) : V.max2 (.int .i64 (a : Int)) (.int .i64 (b : Int)) = some (.int .i64 ((max a b : Nat) : Int)) := by
 simp only [V.max2, Option.some.injEq, AVal.int.injEq, true_and]
 split <;> omega
abbrev lookObs (N : Nat → Nat) (po pa pl : AVal) (mo : Nat) (O : Ents (List UInt8) Int) (co : Nat) : List Ob := [.box po [.mp mo], .blk mo (cntB O co), .box pl [.fn (N 374) [] [po, pa, pl]]]
def Looks (C : CSem) (N : Nat → Nat) (L : List Itm) (h0 : AHeap) (po pa pl : AVal) (mo n : Nat) : Prop := ∀ (c : List UInt8) (O : Ents (List UInt8) Int) (co : Nat) (h : AHeap) (Q : AVal → AHeap → Prop), c ∈ codesL L → LookI (codesL L) (deepL L) O co → (∀ s, getP O s = some (-1) → Way1 (partsL L) s c) → missing (codesL L) O < n → Owns h0 h (lookObs N po pa pl mo O co) →
 (∀ (r : Bool) (h' : AHeap) (O' : Ents (List UInt8) Int) (co' : Nat), Owns h0 h' (lookObs N po pa pl mo O' co') → (r = true → LookI (codesL L) (deepL L) O' co' ∧ (∀ s v, getP O s = some v → getP O' s = some v) ∧ (∀ s, getP O' s = some (-1) → getP O s = some (-1)) ∧ ∃ d : Nat, deepL L c = some d ∧ getP O' c = some (d : Int)) → (r = false → deepL L c = none) → Q (.bool r) h') →
 C (N 374) [.str c, po, pa, pl] h Q
theorem kit_depths_1.looks (i : kit_depths_1.Imp C N) {L : List Itm} {h0 : AHeap} {Bk : Ents (List UInt8) (Itm × AVal × AVal)} {ca ma ia mo : Nat} {po pl : AVal} (hD : Deep (partsL L) (codesL L) (deepL L)) (hB : BookOf h0 L Bk ca) (hma : h0 ma = some (bookB Bk ca)) (hpa : h0 ia = some (blkOf [.mp ma])) (hlen : L.length ≤ 1000000) :
  ∀ n, Looks C N L h0 po (.ptr ia 0 0) pl mo n
 | 0 => fun _ _ _ _ _ _ _ _ h => by omega
 | n + 1 => by
  intro c O co h Q hcK hI hway hmis o hq
  have ih := kit_depths_1.looks i hD hB hma hpa hlen (po := po) (pl := pl) (mo := mo) n
  apply i
  have ldo : ∀ {hh : AHeap} {O2 : Ents (List UInt8) Int} {co2 : Nat}, Owns h0 hh (lookObs N po (.ptr ia 0 0) pl mo O2 co2) → A.ldv hh po = some (.mp mo) := fun {hh O2 co2} o => by
   obtain ⟨ip, e, hb⟩ := o.boxAt 0 rfl
   rw [e, ldv_at hb]; rfl
  have ldl : ∀ {hh : AHeap} {O2 : Ents (List UInt8) Int} {co2 : Nat}, Owns h0 hh (lookObs N po (.ptr ia 0 0) pl mo O2 co2) → A.ldv hh pl = some (.fn (N 374) [] [po, .ptr ia 0 0, pl]) := fun {hh O2 co2} o => by
   obtain ⟨ip, rfl, hb⟩ := o.boxAt 2 rfl
   rw [ldv_at hb]; rfl
  have lk : ∀ {hh : AHeap} {O2 : Ents (List UInt8) Int} {co2 : Nat} (o : Owns h0 hh (lookObs N po (.ptr ia 0 0) pl mo O2 co2)) (s : List UInt8), A.lkp hh (some .s) (some (.int .i64 0)) false (.mp mo) (.str s) = some (.int .i64 ((getP O2 s).getD 0)) := fun o s => o.lkp 1 rfl keyS 0 s
  simp -dsimp [ldo o, lk o]
  cases hc : getP O c with
  | some v =>
   obtain ⟨_, hv⟩ := hI.val c v hc
   have hne : v ≠ 0 := by
    rcases hv with rfl | ⟨d, hd, rfl⟩
    ·omega
    ·have := hD.pos hcK hd; omega
   simp -dsimp [hne]
   refine dn_same (hq _ h O co o (fun hr => ⟨hI, fun _ _ h => h, fun _ h => h, ?_⟩) fun hr => ?_)
   ·rcases hv with rfl | ⟨d, hd, rfl⟩
    ·simp at hr
    ·exact ⟨d, hd, hc⟩
   ·rcases hv with rfl | ⟨d, hd, rfl⟩
    ·exact hD.round (hway c hc) hcK
    ·have := hD.pos hcK hd
     simp at hr
     omega
  | none =>
   simp -dsimp
   simp -dsimp [ldo o]
   refine o.mset 1 rfl keyS c (-1) fun h1 o1 _ _ => ?_
   have o1 : Owns h0 h1 (lookObs N po (.ptr ia 0 0) pl mo (putP O c (-1) co) (clkP O c co)) := o1
   have hI1 : LookI (codesL L) (deepL L) (putP O c (-1) co) (clkP O c co) := ⟨hI.births.put _ _, nodup_put hI.nd _ _ _, fun s v hs => by
    rw [getP_put] at hs
    by_cases e : s = c
    ·subst e; rw [if_pos rfl] at hs; cases hs; exact ⟨hcK, .inl rfl⟩
    ·rw [if_neg e] at hs; exact hI.val s v hs⟩
   obtain ⟨x, hx⟩ : ∃ x, itemOf L c = some x := by
    cases e : itemOf L c with
    | none => exact absurd hcK (itemOf_none.1 e)
    | some x => exact ⟨x, rfl⟩
   obtain ⟨p, hp⟩ : ∃ p, getP Bk c = some p := by
    have := hB.get c
    rw [hx] at this
    cases e : getP Bk c with
    | none => rw [e] at this; cases this
    | some p => exact ⟨p, rfl⟩
   obtain ⟨x', a⟩ := p
   have hxx : x' = x := by
    have := hB.get c
    rw [hx, hp] at this
    exact Option.some.inj this
   subst hxx
   have hpe : partsL L c = partsIn x' := by unfold partsL; rw [hx]
   obtain ⟨⟨R1, a1⟩, _, a3, _⟩ : (∃ R, SlX h0 2 a.1 (x'.Parts.map Part.cs) R) ∧ (∃ R, SlX h0 1 a.2 (x'.Others.map tc) R) ∧ x'.ok := hB.at_ c _ hp
   unfold few at a3
   have e1 := a1.lenSl
   rw [List.length_map] at e1
   have lda : A.ldv h1 (.ptr ia 0 0) = some (.mp ma) := by rw [ldv_at (o1.le _ _ hpa)]; rfl
   have lka : A.lkp h1 (some .s) (some (.agg [.str [], .int .i64 0, .nils, .nils])) false (.mp ma) (.str c) = some (.agg (iCells x' a)) := by
    have := lkp_blk (v := mItm) (κ := mStr) keyS (o1.le _ _ hma) zItm c false
    rw [hp] at this
    exact this
   simp -dsimp [lda, lka, e1]
   refine LoopR.intro (fun t vs hh => ∃ (k m : Nat) (O2 : Ents (List UInt8) Int) (co2 : Nat), k + t = x'.Parts.length ∧ vs = [.int .i64 (m : Int), .int .i64 (k : Int)] ∧ Owns h0 hh (lookObs N po (.ptr ia 0 0) pl mo O2 co2) ∧ LookI (codesL L) (deepL L) O2 co2 ∧
    (∀ s v, getP (putP O c (-1) co) s = some v → getP O2 s = some v) ∧ (∀ s, getP O2 s = some (-1) → getP (putP O c (-1) co) s = some (-1)) ∧ maxD (deepL L) ((partsIn x').take k) 1 = some m) x'.Parts.length ?_
    ⟨0, 1, _, _, by omega, rfl, o1, hI1, fun _ _ h => h, fun _ h => h, rfl⟩
   rintro Y t vs hh ⟨k, m, O2, co2, ht, rfl, o2, hI2, hm1, hm2, hmx⟩ hY
   simp -dsimp only [kit_depths_1.l2, kit_depths_1.k1, lssN, B.pv_some]
   refine B.cond_bool (fun hb => ?_) (fun hb => ?_)
   ·rw [decide_eq_true_eq] at hb
    have hg : (x'.Parts.map Part.cs)[k]? = some x'.Parts[k].cs := by rw [List.getElem?_map, List.getElem?_eq_getElem hb]; rfl
    have hidx : V.idxS 2 a.1 (.int .i64 (k : Int)) = some (elp 2 a.1 k 0) := a1.idxN (by simpa using hb)
    have hel := (a1.mono o2.le).elem hg
    have hpm : x'.Parts[k].Item ∈ partsL L c := by
     rw [hpe]; exact List.mem_map_of_mem (List.getElem_mem hb)
    simp -dsimp [hidx, hel, ldl o2]
    refine ih _ O2 co2 hh _ (hD.cl c hcK _ hpm) hI2 (fun s hs => ?_) ?_ o2 fun r h3 O3 co3 o3 hr1 hr2 => ?_
    ·have := hm2 s hs
     rw [getP_put] at this
     by_cases e : s = c
     ·subst e; exact .one hpm
     ·rw [if_neg e] at this; exact .more (hway s this) hpm
    ·have h1 := missing_le (K := codesL L) hm1
     have h2 := missing_put (v := -1) (co := co) hc hcK
     omega
    ·cases r with
     | false =>
      simp -dsimp
      exact dn_same (hq false h3 O3 co3 o3 (fun h => by cases h) fun _ => hD.no hcK hpm (hr2 rfl))
     | true =>
      obtain ⟨hI3, m1, m2, d, hd, hg3⟩ := hr1 rfl
      have hdl := hD.le _ (hD.cl c hcK _ hpm) d hd
      have hKl : (codesL L).length = L.length := by simp [codesL]
      have ha1 : V.bin .add (.int .i64 1) (.int .i64 (d : Int)) = some (.int .i64 ((1 + d : Nat) : Int)) := addNN (a := 1) (b := d) (by omega)
      simp -dsimp [ldo o3, - V.bin_add, - V.max2_int]
      simp -dsimp only [lk o3, hg3, Option.getD_some, ha1, max2N, add1 (show k < 4611686018427387904 by omega), B.pv_some]
      refine hY (t - 1) _ _ (by omega) ⟨k + 1, max m (1 + d), O3, co3, by omega, rfl, o3, hI3, fun s v hs => m1 s v (hm1 s v hs), fun s hs => hm2 s (m2 s hs), ?_⟩
      rw [partsIn_take hb, maxD_append, hmx]
      show maxD (deepL L) [x'.Parts[k].Item] m = _
      rw [maxD_cons, hd]; rfl
   ·rw [decide_eq_false_iff_not] at hb
    have hk : k = x'.Parts.length := by omega
    subst hk
    rw [List.take_of_length_le (by simp [partsIn])] at hmx
    have hdc : deepL L c = some m := by rw [hD.eq c hcK, hpe, hmx]
    simp -dsimp [ldo o2]
    refine o2.mset 1 rfl keyS c (m : Int) fun h3 o3 _ _ => ?_
    refine dn_same (hq true h3 _ _ o3 (fun _ => ⟨⟨hI2.births.put _ _, nodup_put hI2.nd _ _ _, fun s v hs => ?_⟩, fun s v hs => ?_, fun s hs => ?_, m, hdc, ?_⟩) fun h => by cases h)
    ·rw [getP_put] at hs
     by_cases e : s = c
     ·subst e; rw [if_pos rfl] at hs; cases hs; exact ⟨hcK, .inr ⟨m, hdc, rfl⟩⟩
     ·rw [if_neg e] at hs; exact hI2.val s v hs
    ·rw [getP_put]
     by_cases e : s = c
     ·subst e; rw [hc] at hs; cases hs
     ·rw [if_neg e]
      refine hm1 s v ?_
      rw [getP_put, if_neg e]; exact hs
    ·rw [getP_put] at hs
     by_cases e : s = c
     ·subst e; rw [if_pos rfl] at hs; have := Option.some.inj hs; omega
     ·rw [if_neg e] at hs
      have := hm2 s hs
      rwa [getP_put, if_neg e] at this
    ·rw [getP_put, if_pos rfl]
end Go.Ab
namespace Go.Ab
variable {C : CSem} {N : Nat → Nat}
structure DeepM (L : List Itm) (O : Ents (List UInt8) Int) (co : Nat) : Prop where
 births : Births O co
 nd : (keysP O).Nodup
 all : ∀ c ∈ codesL L, ∃ d : Nat, deepL L c = some d ∧ getP O c = some (d : Int)
 val : ∀ s v, getP O s = some v → s ∈ codesL L ∧ ∃ d : Nat, deepL L s = some d ∧ v = d
def kit_depths.Spec (C : CSem) (N : Nat → Nat) : Prop := ∀ (L : List Itm) (Bk : Ents (List UInt8) (Itm × AVal × AVal)) (ca ma : Nat) (h : AHeap) (Q : AVal → AHeap → Prop), BookOf h L Bk ca → h ma = some (bookB Bk ca) → partsThere L = true → L.length ≤ 1000000 →
 (∀ h', h.le h' → (∃ c ∈ codesL L, deepL L c = none) → Q (.tup [.nilm, .bool false]) h') → (∀ h' mo O co, Owns h h' [.blk mo (cntB O co)] → DeepM L O co → Q (.tup [.mp mo, .bool true]) h') → C (N 370) [.mp ma] h Q
theorem kit_depths.spec (i : kit_depths.Imp C N) (i2 : kit_depths_1.Imp C N) : kit_depths.Spec C N := by
 intro L Bk ca ma h Q hB hma hpt hlen hno hyes
 have hD := deepL_deep hpt
 apply i
 intro ia hia
 have hle1 : h.le (upd h ia (blkOf [.mp ma])) := le_upd _ hia
 have hpa : (upd h ia (blkOf [.mp ma])) ia = some (blkOf [.mp ma]) := upd_same ..
 generalize hg1 : upd h ia (blkOf [AVal.mp ma]) = h1 at hle1 hpa
 refine (Owns.start h1).newMap (K := List UInt8) (T := Int) mStr mInt fun mo h2 _ o2 _ => ?_
 intro i4 hi4
 have o3 := o2.newBox hi4 [.nilm]
 refine o3.boxSt 1 (off := 0) rfl rfl (by simp) fun h4 o4 _ => ?_
 intro i5 hi5
 have o5 := o4.newBox hi5 [.nilf]
 refine o5.boxSt 2 (off := 0) rfl rfl (by simp) fun h6 o6 _ => ?_
 have o6 : Owns h1 h6 [.blk mo (cntB [] 0), .box (.ptr i4 0 0) [.mp mo], .box (.ptr i5 0 0) [.fn (N 374) [] [.ptr i4 0 0, .ptr ia 0 0, .ptr i5 0 0]]] := o6
 have o7 : Owns h1 h6 (lookObs N (.ptr i4 0 0) (.ptr ia 0 0) (.ptr i5 0 0) mo [] 0) := o6.perm (List.Perm.swap _ _ _)
 have lda : A.ldv h6 (.ptr ia 0 0) = some (.mp ma) := by rw [ldv_at (o7.le _ _ hpa)]; rfl
 simp -dsimp [lda]
 have hB1 := hB.mono hle1
 refine o7.rangeLoop (J := fun D l => ∃ O co, l = lookObs N (.ptr i4 0 0) (.ptr ia 0 0) (.ptr i5 0 0) mo O co ∧ LookI (codesL L) (deepL L) O co ∧ (∀ s, getP O s ≠ some (-1)) ∧ ∀ q ∈ D, ∃ d : Nat, deepL L q.1 = some d ∧ getP O q.1 = some (d : Int)) (hle1 _ _ hma) hB.births
  ⟨[], 0, rfl, ⟨Births.nil 0, List.Pairwise.nil, fun s v h => (by cases h)⟩, fun s h => (by cases h), fun q h => (by cases h)⟩ (fun it hh Y h => by rw [kit_depths.l2, kit_depths.k1]; exact h) ?_ ?_
 ·rintro it hh D l b Y ⟨O, co, rfl, hI, hm, hall⟩ hp o
  have ldo : A.ldv hh (.ptr i4 0 0) = some (.mp mo) := by
   obtain ⟨ip, e, hb⟩ := o.boxAt 0 rfl
   cases e
   rw [ldv_at hb]; rfl
  simp -dsimp [ldo]
  have ob : Owns h hh [.blk mo (cntB O co)] := (o.sub (l' := [.blk mo (cntB O co)]) (by simp)).back hle1
  refine dn_same (hyes hh mo O co ob ⟨hI.births, hI.nd, fun c hc => ?_, fun s v hs => ?_⟩)
  ·rw [← hB.keys] at hc
   obtain ⟨q, hq, rfl⟩ := List.mem_map.1 hc
   exact hall q (hp.mem_iff.2 hq)
  ·obtain ⟨h1, h2⟩ := hI.val s v hs
   refine ⟨h1, h2.resolve_left fun e => hm s (by rw [hs, e])⟩
 ·rintro it hh D l b Y p hp ⟨O, co, rfl, hI, hm, hall⟩ hD' hpD o he hnext
  have hpK : p.1 ∈ codesL L := by rw [← hB.keys]; exact List.mem_map_of_mem hp
  have ldl : A.ldv hh (.ptr i5 0 0) = some (.fn (N 374) [] [.ptr i4 0 0, .ptr ia 0 0, .ptr i5 0 0]) := by
   obtain ⟨ip, e, hb⟩ := o.boxAt 2 rfl
   cases e
   rw [ldv_at hb]; rfl
  have o' : Owns h1 hh ([.blk it b] ++ lookObs N (.ptr i4 0 0) (.ptr ia 0 0) (.ptr i5 0 0) mo O co) := o.perm List.perm_append_comm
  obtain ⟨oa, ob⟩ := o'.out
  simp -dsimp [he, ldl]
  refine kit_depths_1.looks i2 hD (hB1.mono oa.le) (oa.le _ _ (hle1 _ _ hma)) (oa.le _ _ hpa) hlen (missing (codesL L) O + 1) p.1 O co hh _ hpK hI (fun s hs => absurd hs (hm s)) (by omega) ob fun r h' O' co' o3 hr1 hr2 => ?_
  cases r with
  | false =>
   simp -dsimp
   exact dn_same (hno h' (AHeap.le_trans hle1 (AHeap.le_trans oa.le o3.le)) ⟨p.1, hpK, hr2 rfl⟩)
  | true =>
   obtain ⟨hI', m1, m2, d, hd, hgd⟩ := hr1 rfl
   simp -dsimp
   refine hnext h' _ ⟨O', co', rfl, hI', fun s hs => hm s (m2 s hs), fun q hq => ?_⟩ ((oa.join o3).perm List.perm_append_comm)
   rcases List.mem_append.1 hq with hq | hq
   ·obtain ⟨e, h1, h2⟩ := hall q hq
    exact ⟨e, h1, m1 _ _ h2⟩
   ·rw [List.mem_singleton.1 hq]; exact ⟨d, hd, hgd⟩
end Go.Ab
namespace Go.Ab
variable {C : CSem} {N : Nat → Nat}
theorem itm_get {h : AHeap} {x : AVal} {L : List Itm} (hx : Dl itemK h x L) {i : Nat} {r : Itm} (hr : L[i]? = some r) : ∃ p o, V.idxS 4 x (.int .i64 (i : Int)) = some (elp 4 x i 0) ∧ A.ldnv h (elp 4 x i 0) 4 = some (.agg (iCells r (p, o))) ∧ V.fieldAddr 0 (elp 4 x i 0) = some (elp 4 x i 0) ∧
  V.fieldAddr 2 (elp 4 x i 0) = some (elp 4 x i 2) ∧ V.fieldAddr 3 (elp 4 x i 0) = some (elp 4 x i 3) ∧ A.ldv h (elp 4 x i 0) = some (.str r.Code) ∧ A.ldv h (elp 4 x i 2) = some p ∧ A.ldv h (elp 4 x i 3) = some o ∧ itemK.at_ h r (p, o) := by
 obtain ⟨a, ea⟩ := hx.get hr
 exact ⟨a.1, a.2, ea.idx, ea.ldn, ea.fld 0 0, ea.fld 0 2, ea.fld 0 3, ea.ld 0 (by decide), ea.ld 2 (by decide), ea.ld 3 (by decide), ea.at_⟩
theorem itm_get2 {h H : AHeap} {x : AVal} {L : List Itm} (hx : Dl itemK h x L) (hle : h.le H) {i : Nat} {r : Itm} (hr : L[i]? = some r) : ∃ p o, V.idxS 4 x (.int .i64 (i : Int)) = some (elp 4 x i 0) ∧ A.ldnv H (elp 4 x i 0) 4 = some (.agg (iCells r (p, o))) ∧ itemK.at_ h r (p, o) := by
 obtain ⟨a, ea, ha⟩ := hx.get2 hle hr
 exact ⟨a.1, a.2, ea.idx, ea.ldn, ha⟩
theorem itm_parts {h : AHeap} {r : Itm} {p o : AVal} (ha : itemK.at_ h r (p, o)) : (∃ R, SlX h 2 p (r.Parts.map Part.cs) R) ∧ V.lenSl p = some (.int .i64 (r.Parts.length : Int)) ∧ r.Parts.length ≤ 100000000 := by
 obtain ⟨⟨R1, a1⟩, _, a3, _⟩ : (∃ R, SlX h 2 p (r.Parts.map Part.cs) R) ∧ (∃ R, SlX h 1 o (r.Others.map tc) R) ∧ r.ok := ha
 have e1 := a1.lenSl
 rw [List.length_map] at e1
 exact ⟨⟨R1, a1⟩, e1, a3⟩
theorem itm_others {h : AHeap} {r : Itm} {p o : AVal} (ha : itemK.at_ h r (p, o)) : (∃ R, SlX h 1 o (r.Others.map tc) R) ∧ V.lenSl o = some (.int .i64 (r.Others.length : Int)) ∧ r.Others.length ≤ 100000000 := by
 obtain ⟨_, ⟨R1, a1⟩, _, a3⟩ : (∃ R, SlX h 2 p (r.Parts.map Part.cs) R) ∧ (∃ R, SlX h 1 o (r.Others.map tc) R) ∧ r.ok := ha
 have e1 := a1.lenSl
 rw [List.length_map] at e1
 exact ⟨⟨R1, a1⟩, e1, a3⟩
theorem V.bin_sgeq (a b : List UInt8) : V.bin .geq (.str a) (.str b) = some (.bool (!lessB a b)) := rfl
def kit_check.Spec (C : CSem) (N : Nat → Nat) : Prop := ∀ (x : AVal) (L : List Itm) (h : AHeap) (Q : AVal → AHeap → Prop), Dl itemK h x L → L.length ≤ 1000000 → (∀ a b h', h.le h' → Q (.tup [a, b, .int .i64 (kitCheck L)]) h') → C (N 362) [x] h Q
theorem partsThere_false {L : List Itm} {x : Itm} (hx : x ∈ L) {p : Part} (hp : p ∈ x.Parts) (hn : p.Item ∉ codesL L) : partsThere L = false := by
 unfold partsThere
 rw [List.all_eq_false]
 refine ⟨x, hx, ?_⟩
 simp only [Bool.not_eq_true, List.all_eq_false]
 exact ⟨p, hp, by simpa using hn⟩
theorem kit_check.spec (i : kit_check.Imp C N) (s1 : code_Right.Spec C N) (s2 : kit_right.Spec C N) (s3 : kit_book.Spec C N) (s4 : kit_depths.Spec C N) : kit_check.Spec C N := by
  intro x L h Q hx hlen hq
  apply i
  simp -dsimp only [kit_check.cps, kit_check.k11, hx.lenSl, V.bin_gtr, B.pv_some]
  refine B.cond_bool (fun hb => ?_) (fun hb => ?_)
  · have hk : kitCheck L = 3 := by
      have : 60 < L.length := by have : (60 : Int) < L.length := by simpa using hb
                                 omega
      unfold kitCheck; simp [this]
    have := hq .nilm .nilm h (AHeap.le_refl _)
    rw [hk] at this
    exact dn_same this
  have hl60 : ¬ 60 < L.length := by
    have : ¬ (60 : Int) < L.length := by simpa using hb
    omega
  simp -dsimp only [hx.lenSl, B.pv_some]
  refine LoopR.intro (fun t vs hh => hh = h ∧ ∃ k : Nat, k + t = L.length ∧ vs = [.int .i64 (k : Int)] ∧ ∀ j, j < k → kitAt L j = true) L.length ?_ ⟨rfl, 0, by omega, rfl, fun j hj => by omega⟩
  rintro Y t vs hh ⟨rfl, k, ht, rfl, hall⟩ hY
  simp -dsimp only [kit_check.l10, kit_check.k9, lssN, B.pv_some]
  refine B.cond_bool (fun hc => ?_) (fun hc => ?_)
  · rw [decide_eq_true_eq] at hc
    obtain ⟨r, hr⟩ := get_lt hc
    obtain ⟨p, o, e1, e2, e3, _, _, e6, _, _, ha⟩ := itm_get hx hr
    have er := kitAt_some hr
    have no : kitAt L k = false → dn Q (.tup [.nilm, .nilm, .int .i64 4]) hh := fun e => by
      have hk : kitCheck L = 4 := by unfold kitCheck; simp [hl60, kitAll_false hc e]
      have := hq .nilm .nilm hh (AHeap.le_refl _)
      rw [hk] at this
      exact dn_same this
    have yes : kitAt L k = true → Y [.int .i64 ((k + 1 : Nat) : Int)] hh := fun e => hY (t - 1) _ _ (by omega) ⟨rfl, k + 1, by omega, rfl, fun j hj => by
      by_cases h : j = k
      · subst h; exact e
      · exact hall j (by omega)⟩
    have fin : codeRight r.Code = true → ordAt L k r = true → B.gd hh (.bool false) false (fun K => B.pv (V.fieldN 0 4 (.agg (iCells r (p, o)))) fun v => K v hh) fun v46 h =>
        B.gd h (.bool false) false (fun K => B.call C (N 372) [v46] h K) fun v47 h =>
        B.gd h (.bool false) false (fun K => B.pv (V.un .not v47) fun v => K v h) fun v48 h =>
        B.pick (.bool false) (.bool true) v48 fun v49 =>
        B.cond v49 (dn Q (.tup [.nilm, .nilm, (.int .i64 4)]) h) (B.pv (V.bin .add (.int .i64 (k : Int)) (.int .i64 1)) fun v50 => Y [v50] h) := fun hcr hor => by
      simp -dsimp
      refine s2 _ _ _ _ ha ?_
      rw [hcr, Bool.true_and, hor, Bool.true_and] at er
      cases hk : kitOne r with
      | false =>
        simp -dsimp
        exact no (by rw [er, hk])
      | true =>
        simp -dsimp [- V.bin_add, add1 (show k < 4611686018427387904 by omega)]
        exact yes (by rw [er, hk])
    simp -dsimp [e1, e2, - V.bin_add, - V.bin_sub]
    refine s1 _ _ _ ?_
    cases hcr : codeRight r.Code with
    | false => simp -dsimp; exact no (by rw [er, hcr]; rfl)
    | true =>
      simp -dsimp [- V.bin_add, - V.bin_sub]
      by_cases h0 : k = 0
      · subst h0
        simp -dsimp [- V.bin_add, - V.bin_sub]
        have := fin hcr rfl
        simp -dsimp [- V.bin_add, - V.bin_sub] at this
        exact this
      · obtain ⟨r2, hr2⟩ := get_lt (L := L) (k := k - 1) (by omega)
        obtain ⟨p2, o2, f1, f2, f3, _, _, f6, _, _, _⟩ := itm_get hx hr2
        have sk := sub1 (a := k) (by omega) (by omega)
        have hk0 : 0 < k := by omega
        simp -dsimp [hk0, sk, f1, f3, f6, - V.bin_add, - V.bin_sub]
        have eo := ordAt_some (x := r) h0 hr2
        simp -dsimp only [V.bin_sgeq, B.pv_some]
        cases hle : lessB r2.Code r.Code with
        | false =>
          simp -dsimp [hk0]
          exact no (by rw [er, hcr, eo, hle]; rfl)
        | true =>
          have := fin hcr (by rw [eo, hle])
          simp -dsimp [hk0, - V.bin_add, - V.bin_sub] at this ⊢
          exact this
  rw [decide_eq_false_iff_not] at hc
  have hk : k = L.length := by omega
  subst hk
  have hsh : kitAll L = true := kitAll_true fun j hj => hall j hj
  have hnd := kitAll_nodup hsh
  refine s3 _ _ _ _ hx hnd hlen fun ma h1 Bk ca o1 hB => ?_
  simp -dsimp only [hx.lenSl, B.pv_some]
  have hz : ∀ s, V.bin .eql (.str s) (.str []) = some (.bool (decide (s = []))) := fun s => V.bin_seql s []
  have lka : ∀ {hh : AHeap} (hle : h1.le hh) (s : List UInt8), ∃ (t : Itm) (a : AVal × AVal), A.lkp hh (some .s) (some (.agg [.str [], .int .i64 0, .nils, .nils])) false (.mp ma) (.str s) = some (.agg (iCells t a)) ∧ decide (t.Code = []) = decide (s ∉ codesL L) := fun {hh} hle s => by
    have h2 := lkp_blk (v := mItm) (κ := mStr) keyS (hle _ _ (o1.at 0 rfl)) zItm s false
    refine ⟨((getP Bk s).getD zItm).1, ((getP Bk s).getD zItm).2, h2, decide_eq_decide.2 ?_⟩
    have hg := hB.get s
    cases e : getP Bk s with
    | none =>
      rw [e] at hg
      have : s ∉ codesL L := itemOf_none.1 hg.symm
      simp [this]
    | some q =>
      rw [e] at hg
      have hg : itemOf L s = some q.1 := hg.symm
      obtain ⟨m1, m2⟩ := itemOf_some hg
      have hin : s ∈ codesL L := by rw [← m2]; exact List.mem_map_of_mem m1
      obtain ⟨j, hj, e2⟩ := List.getElem_of_mem m1
      have := kitAll_at hsh hj
      rw [kitAt_some (List.getElem?_eq_getElem hj), e2, Bool.and_eq_true] at this
      have hne : q.1.Code ≠ [] := fun e => by rw [e] at this; exact absurd this.1 (by decide)
      simp [hne, hin]
  refine LoopR.intro (fun t vs hh => hh = h1 ∧ ∃ k : Nat, k + t = L.length ∧ vs = [.int .i64 (k : Int)] ∧ ∀ x ∈ L.take k, ∀ p ∈ x.Parts, p.Item ∈ codesL L) L.length ?_ ⟨rfl, 0, by omega, rfl, fun x h => (by simp at h)⟩
  rintro Y t vs hh ⟨rfl, k, ht, rfl, hall⟩ hY
  simp -dsimp only [kit_check.l8, kit_check.k7, lssN, B.pv_some]
  refine B.cond_bool (fun hc => ?_) (fun hc => ?_)
  · rw [decide_eq_true_eq] at hc
    obtain ⟨r, hr⟩ := get_lt hc
    obtain ⟨p, o, e1, e2, _, _, _, _, _, _, ha⟩ := itm_get (hx.mono o1.le) hr
    obtain ⟨⟨R1, a1⟩, el, hpl⟩ := itm_parts ha
    simp -dsimp only [kit_check.k6]
    simp -dsimp [e1, e2, el]
    refine LoopR.intro (fun t vs h2 => h2 = hh ∧ ∃ m : Nat, m + t = r.Parts.length ∧ vs = [.int .i64 (m : Int)] ∧ ∀ p ∈ r.Parts.take m, p.Item ∈ codesL L) r.Parts.length ?_ ⟨rfl, 0, by omega, rfl, fun x h => (by simp at h)⟩
    rintro Z t2 vs h2 ⟨rfl, m, ht2, rfl, hall2⟩ hZ
    simp -dsimp only [kit_check.l5, kit_check.k4, lssN, B.pv_some]
    refine B.cond_bool (fun hb => ?_) (fun hb => ?_)
    · rw [decide_eq_true_eq] at hb
      have hg : (r.Parts.map Part.cs)[m]? = some r.Parts[m].cs := by rw [List.getElem?_map, List.getElem?_eq_getElem hb]; rfl
      have hidx : V.idxS 2 p (.int .i64 (m : Int)) = some (elp 2 p m 0) := a1.idxN (by simpa using hb)
      have hel := a1.elem hg
      obtain ⟨t, a, hlk, hcd⟩ := lka (AHeap.le_refl _) r.Parts[m].Item
      simp -dsimp [hidx, hel, hlk, - V.bin_add]
      rw [hcd]
      refine B.cond_bool (fun hd => ?_) (fun hd => ?_)
      · have hd : r.Parts[m].Item ∉ codesL L := by simpa using hd
        have hk : kitCheck L = 150 := by
          unfold kitCheck
          simp [hl60, hsh, partsThere_false (List.mem_of_getElem? hr) (List.getElem_mem hb) hd]
        have := hq .nilm .nilm h2 o1.le
        rw [hk] at this
        exact dn_same this
      · have hd : r.Parts[m].Item ∈ codesL L := by simpa using hd
        simp -dsimp only [add1 (show m < 4611686018427387904 by omega), B.pv_some]
        refine hZ (t2 - 1) _ _ (by omega) ⟨rfl, m + 1, by omega, rfl, fun p hp => ?_⟩
        rw [List.take_add_one, List.getElem?_eq_getElem hb, List.mem_append] at hp
        rcases hp with hp | hp
        · exact hall2 p hp
        · have : p = r.Parts[m] := by simpa using hp
          rw [this]; exact hd
    · rw [decide_eq_false_iff_not] at hb
      have hk : m = r.Parts.length := by omega
      subst hk
      rw [List.take_length] at hall2
      simp -dsimp only [add1 (show k < 4611686018427387904 by omega), B.pv_some]
      refine hY (t - 1) _ _ (by omega) ⟨rfl, k + 1, by omega, rfl, fun x hx => ?_⟩
      rw [List.take_add_one, hr, List.mem_append] at hx
      rcases hx with hx | hx
      · exact hall x hx
      · have : x = r := by simpa using hx
        rw [this]; exact hall2
  · rw [decide_eq_false_iff_not] at hc
    have hk : k = L.length := by omega
    subst hk
    rw [List.take_length] at hall
    have hpt : partsThere L = true := by
      unfold partsThere
      rw [List.all_eq_true]
      intro x hx
      rw [List.all_eq_true]
      intro p hp
      simpa using hall x hx p hp
    have hany1 : (∃ c ∈ codesL L, deepL L c = none) → kitCheck L = 152 := by
      rintro ⟨c, hc, hn⟩
      obtain ⟨x, hx, rfl⟩ := List.mem_map.1 hc
      have : L.any (fun x => decide (deepL L x.Code = none)) = true := List.any_eq_true.2 ⟨x, hx, by simp [hn]⟩
      unfold kitCheck
      simp only [hl60, hsh, hpt, this, decide_false, Bool.not_true, cond_false, cond_true]
    refine s4 L Bk ca ma _ _ (hB.mono o1.le) (o1.at 0 rfl) hpt hlen (fun h2 hle hno => ?_) fun h2 mo O co o2 hM => ?_
    · simp -dsimp
      have := hq .nilm .nilm h2 (AHeap.le_trans o1.le hle)
      rw [hany1 hno] at this
      exact dn_same this
    · simp -dsimp
      have hny : L.any (fun x => decide (deepL L x.Code = none)) = false := by
        rw [List.any_eq_false]
        intro x hx
        obtain ⟨d, h1, _⟩ := hM.all x.Code (List.mem_map_of_mem hx)
        simp [h1]
      have hkc : kitCheck L = bif L.any (fun x => decide (8 < (deepL L x.Code).getD 0)) then 3 else 0 := by
        unfold kitCheck
        simp only [hl60, hsh, hpt, hny, decide_false, Bool.not_true, cond_false]
      have hbm : h2 mo = some (cntB O co) := o2.at 0 rfl
      refine (Owns.start h2).rangeLoop (J := fun D l => l = [] ∧ ∀ q ∈ D, q.2.1 ≤ 8) hbm hM.births ⟨rfl, fun q h => (by cases h)⟩ (fun it hh Y h => by rw [kit_check.l2, kit_check.k1]; exact h) ?_ ?_
      · rintro it h3 D l b Y ⟨rfl, hall⟩ hp o3
        simp -dsimp
        have : L.any (fun x => decide (8 < (deepL L x.Code).getD 0)) = false := by
          rw [List.any_eq_false]
          intro x hx
          obtain ⟨d, h4, h5⟩ := hM.all x.Code (List.mem_map_of_mem hx)
          obtain ⟨n, h6⟩ := getP_mem h5
          have := hall _ (hp.mem_iff.2 h6)
          have : (d : Int) ≤ 8 := this
          simp [h4]; omega
        rw [this] at hkc
        have := hq (.mp ma) (.mp mo) h3 (AHeap.le_trans o1.le (AHeap.le_trans o2.le o3.le))
        rw [hkc] at this
        exact dn_same this
      · rintro it h3 D l b Y q hq' ⟨rfl, hall⟩ hD' hqD o3 he hnext
        simp -dsimp [he]
        refine B.cond_bool (fun hd => ?_) (fun hd => ?_)
        · have hd : 8 < q.2.1 := by simpa using hd
          obtain ⟨m1, d, m2, m3⟩ := hM.val q.1 q.2.1 (mem_getP hM.nd hq')
          obtain ⟨x, hx, e⟩ := List.mem_map.1 m1
          have : L.any (fun x => decide (8 < (deepL L x.Code).getD 0)) = true := List.any_eq_true.2 ⟨x, hx, by rw [e, m2]; simp; omega⟩
          rw [this] at hkc
          have := hq .nilm .nilm h3 (AHeap.le_trans o1.le (AHeap.le_trans o2.le o3.le))
          rw [hkc] at this
          exact dn_same this
        · have hd : ¬ 8 < q.2.1 := by simpa using hd
          refine hnext h3 [] ⟨rfl, fun q2 hq2 => ?_⟩ o3
          rcases List.mem_append.1 hq2 with h | h
          · exact hall q2 h
          · rw [List.mem_singleton.1 h]; omega
def kit_Check.Spec (C : CSem) (N : Nat → Nat) : Prop := ∀ (x : AVal) (L : List Itm) (h : AHeap) (Q : AVal → AHeap → Prop), Dl itemK h x L → L.length ≤ 1000000 → Q (.int .i64 (kitCheck L)) h → C (N 356) [x] h Q
theorem kit_Check.spec (i : kit_Check.Imp C N) (s1 : kit_check.Spec C N) : kit_Check.Spec C N := by
 intro x L h Q hx hlen hq
 apply i
 refine s1 _ _ _ _ hx hlen fun a b h' hle => ?_
 simp -dsimp
 exact dn_le hle hq
end Go.Ab
namespace Go.Ab
variable {C : CSem} {N : Nat → Nat}
def swap_row.Spec (C : CSem) (N : Nat → Nat) : Prop := ∀ (c : List UInt8) (o : AVal) (l : List (List UInt8)) (R : List (List AVal)) (h : AHeap) (Q : AVal → AHeap → Prop), SlX h 1 o (l.map tc) R → l.length ≤ 10000000 →
 (∀ x' R' h', Owns h h' [.sl 1 x' ((c :: l).map tc) R'] → Q x' h') → C (N 363) [.str c, o] h Q
theorem swap_row.spec (i : swap_row.Imp C N) (s1 : slices_Concat_string_string.Spec C N) : swap_row.Spec C N := by
 intro c o l R h Q ho hl hq
 apply i
 simp -dsimp [ho.isCell]
 intro i6 h6
 have o1 := (Owns.start h).newSl (id := i6) (n := 1) (cp := 1) (es := 1) (cs := [.str c]) (L := [[.str c]]) (R := []) h6 (by simp) rfl (by simp) rfl
 simp -dsimp [ho.isCell]
 intro i8 h8
 have o2 := o1.newSl (id := i8) (n := 2) (cp := 2) (es := 1) (cs := [.sl i6 0 0 1 1 1, o]) (L := [[.sl i6 0 0 1 1 1], [o]]) (R := []) h8 (by simp) rfl (by simp) rfl
 refine s1 _ [.sl i6 0 0 1 1 1, o] [[c], l] _ _ _ (o2.slAt 1 rfl) rfl (fun j y l' hy hl' => ?_) (by simp) (by simp; omega) fun x' h' R' o3 => ?_
 ·match j with
  | 0 => cases hy; cases hl'; exact ⟨_, o2.slAt 0 rfl⟩
  | 1 => cases hy; cases hl'; exact ⟨_, ho.mono o2.le⟩
  | j + 2 => simp at hy
 ·exact dn_same (hq x' R' h' ((by simpa using o3 : Owns _ h' [.sl 1 x' ((c :: l).map tc) R']).back o2.le))
def swapRow (L : List Itm) (c : List UInt8) : List (List UInt8) := match itemOf L c with
 | some x => c :: x.Others
 | none => []
def findI (L : List Itm) (c : List UInt8) : Int := match L.findIdx? fun x => decide (x.Code = c) with | some i => (i : Int) | none => -1
theorem findI_lt {L : List Itm} {c : List UInt8} : (findI L c < 0 ↔ itemOf L c = none) ∧ ∀ k : Nat, findI L c = k → ∃ x, L[k]? = some x ∧ itemOf L c = some x := by
 unfold findI itemOf
 cases h : L.findIdx? fun x => decide (x.Code = c) with
 | none =>
  have h' := List.findIdx?_eq_none_iff.1 h
  refine ⟨⟨fun _ => List.find?_eq_none.2 fun x hx => by simpa using h' x hx, fun _ => by simp⟩, fun k hk => by
   have hk : (-1 : Int) = k := hk
   omega⟩
 | some i =>
  obtain ⟨hi, hp, hno⟩ := List.findIdx?_eq_some_iff_getElem.1 h
  have hf : L.find? (fun x => decide (x.Code = c)) = some L[i] := by
   rw [List.find?_eq_some_iff_getElem]
   exact ⟨hp, i, hi, rfl, fun j hj => by simpa using hno j hj⟩
  refine ⟨⟨fun h => by simp at h; omega, fun h => by rw [hf] at h; cases h⟩, fun k hk => ?_⟩
  have : k = i := by simp at hk; omega
  subst this
  exact ⟨_, List.getElem?_eq_getElem hi, hf⟩
theorem findI_none {L : List Itm} {c : List UInt8} (h : ∀ x ∈ L, x.Code ≠ c) : findI L c = -1 := by
 have : L.findIdx? (fun x => decide (x.Code = c)) = none := List.findIdx?_eq_none_iff.2 fun x hx => by simp [h x hx]
 unfold findI; rw [this]
theorem findI_at {L : List Itm} {c : List UInt8} {k : Nat} (hk : k < L.length) (h : ∀ i, i < k → ∀ a, L[i]? = some a → a.Code ≠ c) (hc : L[k].Code = c) : findI L c = k := by
 have : L.findIdx? (fun x => decide (x.Code = c)) = some k := findIdx_none_take hk (fun i hi a ha => by simp [h i hi a ha]) (by simp [hc])
 unfold findI; rw [this]
def swap_Row_1.Spec (C : CSem) (N : Nat → Nat) : Prop := ∀ (r : Itm) (a : AVal × AVal) (c : List UInt8) (id : Nat) (h : AHeap) (Q : AVal → AHeap → Prop), itemK.at_ h r a → h id = some (blkOf [.str c]) → Q (.bool (decide (r.Code = c))) h → C (N 366) [.agg (iCells r a), .ptr id 0 0] h Q
theorem swap_Row_1.spec (i : swap_Row_1.Imp C N) : swap_Row_1.Spec C N := by
 intro r a c id h Q ha hid hq
 apply i
 have ld : A.ldv h (.ptr id 0 0) = some (.str c) := by rw [ldv_at hid]; rfl
 obtain ⟨⟨R1, a1⟩, ⟨R2, a2⟩, _⟩ : (∃ R, SlX h 2 a.1 (r.Parts.map Part.cs) R) ∧ (∃ R, SlX h 1 a.2 (r.Others.map tc) R) ∧ r.ok := ha
 simp -dsimp [ld]
 exact dn_same hq
def slices_IndexFunc_api_Item_api_Item.Spec (C : CSem) (N : Nat → Nat) : Prop := ∀ (x : AVal) (c : List UInt8) (id : Nat) (L : List Itm) (h : AHeap) (Q : AVal → AHeap → Prop), Dl itemK h x L → L.length ≤ 100000000 → h id = some (blkOf [.str c]) →
 Q (.int .i64 (findI L c)) h → C (N 367) [x, .fn (N 366) [] [.ptr id 0 0]] h Q
theorem slices_IndexFunc_api_Item_api_Item.spec (i : slices_IndexFunc_api_Item_api_Item.Imp C N) (s1 : swap_Row_1.Spec C N) : slices_IndexFunc_api_Item_api_Item.Spec C N := by
 intro x c id L h Q hx hlen hid hq
 refine i _ _ _ _ ?_
 simp -dsimp only [slices_IndexFunc_api_Item_api_Item.cps, slices_IndexFuncG.cps, hx.lenSl, B.pv_some]
 refine LoopR.intro (fun t vs hh => hh = h ∧ ∃ k : Nat, k + t = L.length ∧ vs = [.int .i64 (k : Int)] ∧ ∀ i, i < k → ∀ a, L[i]? = some a → a.Code ≠ c) L.length ?_ ⟨rfl, 0, by omega, rfl, fun i hi => by omega⟩
 rintro Y t vs h ⟨rfl, k, ht, rfl, hno⟩ hY
 simp -dsimp only [slices_IndexFuncG.l2, slices_IndexFuncG.k1, lssN, B.pv_some]
 refine B.cond_bool (fun hb => ?_) (fun hb => ?_) <;> simp only [decide_eq_true_eq, decide_eq_false_iff_not] at hb
 ·obtain ⟨p, o, e1, e2, _, _, _, _, _, _, ha⟩ := itm_get hx (List.getElem?_eq_getElem hb)
  simp -dsimp only [opsF, e1, B.pv_some, B.ldn_eq, e2]
  refine s1 _ _ c _ _ _ ha hid ?_
  refine B.cond_bool (fun hc => ?_) (fun hc => ?_)
  ·rw [findI_at hb hno (by simpa using hc)] at hq; exact dn_same hq
  ·simp -dsimp only [add1 (show k < 4611686018427387904 by omega), B.pv_some]
   refine hY (L.length - (k + 1)) _ _ (by omega) ⟨rfl, k + 1, by omega, rfl, fun i hi a hia => ?_⟩
   by_cases e : i = k
   ·subst e; rw [List.getElem?_eq_getElem hb] at hia; cases hia; simpa using hc
   ·exact hno i (by omega) a hia
 ·have : findI L c = -1 := findI_none fun x hx => by
   obtain ⟨j, hj, rfl⟩ := List.getElem_of_mem hx
   exact hno j (by omega) _ (List.getElem?_eq_getElem hj)
  rw [this] at hq; exact dn_same hq
def swap_Row.Spec (C : CSem) (N : Nat → Nat) : Prop := ∀ (x : AVal) (c : List UInt8) (L : List Itm) (h : AHeap) (Q : AVal → AHeap → Prop), Dl itemK h x L → L.length ≤ 1000000 → (∀ t ∈ L, t.Others.length ≤ 10000000) →
 (∀ x' R' h', Owns h h' [.sl 1 x' ((swapRow L c).map tc) R'] → Q x' h') → C (N 355) [x, .str c] h Q
theorem swap_Row.spec (i : swap_Row.Imp C N) (s1 : slices_IndexFunc_api_Item_api_Item.Spec C N) (s2 : swap_row.Spec C N) : swap_Row.Spec C N := by
 intro x c L h Q hx hlen hof hq
 apply i
 intro i3 h3
 have o1 := (Owns.start h).newBox h3 [.str c]
 have hb : (upd h i3 (blkOf [AVal.str c])) i3 = some (blkOf [.str c]) := upd_same ..
 have hx1 := hx.mono o1.le
 refine s1 _ c _ _ _ _ hx1 (by omega) hb ?_
 have ld : A.ldv (upd h i3 (blkOf [AVal.str c])) (.ptr i3 0 0) = some (.str c) := by rw [ldv_at hb]; rfl
 simp -dsimp only [V.bin_lss, B.pv_some]
 obtain ⟨f1, f2⟩ := findI_lt (L := L) (c := c)
 refine B.cond_bool (fun hc => ?_) (fun hc => ?_)
 ·have hn : itemOf L c = none := f1.1 (by simpa using hc)
  have := hq .nils [] h (by unfold swapRow; rw [hn]; exact (Owns.start h).nils 1)
  exact dn_le o1.le this
 ·have hc : ¬ findI L c < 0 := by simpa using hc
  obtain ⟨k, hk⟩ : ∃ k : Nat, findI L c = k := ⟨(findI L c).toNat, by omega⟩
  obtain ⟨r, hr, hi⟩ := f2 k hk
  obtain ⟨p, o, e1, e2, e3, e4, e5, e6, e7, e8, ha⟩ := itm_get hx1 hr
  obtain ⟨⟨R2, a2⟩, el, _⟩ := itm_others ha
  simp -dsimp [hk, ld, e1, e5, e8]
  refine s2 _ _ r.Others _ _ _ a2 (hof r (List.mem_of_getElem? hr)) fun x' R' h' o2 => ?_
  have hs : swapRow L c = c :: r.Others := by unfold swapRow; rw [hi]
  exact dn_same (hq x' R' h' (by rw [hs]; exact o2.back o1.le))
end Go.Ab
namespace Go.Ab
variable {C : CSem} {N : Nat → Nat}
theorem compactE_nodup : ∀ {L : List (List UInt8)}, SortedB L → ((compactE L).length = L.length ↔ L.Nodup)
 | [], _ => by simp [compactE]
 | [a], _ => by simp [compactE]
 | a :: b :: r, hs => by
  have hs' : SortedB (b :: r) := (List.pairwise_cons.1 hs).2
  have ih := compactE_nodup hs'
  have hle := compactE_len (b :: r)
  rw [compactE]
  by_cases e : a = b
  ·rw [if_pos e]
   subst e
   refine ⟨fun h => ?_, fun h => ?_⟩
   ·simp only [List.length_cons] at h hle; omega
   ·exact absurd (List.mem_cons_self ..) (List.nodup_cons.1 h).1
  ·rw [if_neg e, List.length_cons, List.length_cons, List.nodup_cons]
   rw [Nat.add_right_cancel_iff, ih]
   refine ⟨fun h => ⟨fun hm => ?_, h⟩, fun h => h.2⟩
   rcases List.mem_cons.1 hm with h1 | h1
   ·exact e h1
   ·have h2 := (List.pairwise_cons.1 hs).1 b (by simp)
    have h3 := (List.pairwise_cons.1 hs').1 a h1
    exact e (lessB_total h3 h2)
def otherOk (x : Itm) : Bool := decide (x.Others.length ≤ 4) && decide (x.Code :: x.Others).Nodup
def othersThere (L : List Itm) : Bool := L.all fun x => x.Others.all fun o => (codesL L).contains o
def swapCheck (L : List Itm) : Int := bif !decide (kitCheck L = 0) then kitCheck L else bif !L.all otherOk then 4 else bif !othersThere L then 150 else 0
theorem kitCheck_zero {L : List Itm} (h : kitCheck L = 0) : L.length ≤ 60 ∧ kitAll L = true ∧ partsThere L = true := by
 unfold kitCheck at h
 cases h1 : decide (60 < L.length) with
 | true => rw [h1] at h; cases h
 | false =>
  rw [h1] at h
  cases h2 : kitAll L with
  | false => rw [h2] at h; cases h
  | true =>
   rw [h2] at h
   cases h3 : partsThere L with
   | false => rw [h3] at h; cases h
   | true => exact ⟨by simpa using h1, rfl, rfl⟩
theorem othersThere_false {L : List Itm} {x : Itm} (hx : x ∈ L) {o : List UInt8} (ho : o ∈ x.Others) (hn : o ∉ codesL L) : othersThere L = false := by
 unfold othersThere
 rw [List.all_eq_false]
 refine ⟨x, hx, ?_⟩
 simp only [Bool.not_eq_true, List.all_eq_false]
 exact ⟨o, ho, by simpa using hn⟩
def swap_Check.Spec (C : CSem) (N : Nat → Nat) : Prop := ∀ (x : AVal) (L : List Itm) (h : AHeap) (Q : AVal → AHeap → Prop), Dl itemK h x L → L.length ≤ 1000000 → (∀ t ∈ L, t.Others.length ≤ 10000000) → Q (.int .i64 (swapCheck L)) h → C (N 353) [x] h Q
theorem swap_Check.spec (i : swap_Check.Imp C N) (s1 : kit_Check.Spec C N) (s2 : swap_row.Spec C N) (s3 : slices_Sort_string_string.Spec C N) (s4 : slices_Compact_string_string.Spec C N) : swap_Check.Spec C N := by
 intro x L h Q hx hlen hof hq
 apply i
 simp -dsimp only [swap_Check.cps, swap_Check.k7]
 refine s1 _ _ _ _ hx hlen ?_
 simp -dsimp only [V.bin_neq, B.pv_some]
 refine B.cond_bool (fun hb => ?_) (fun hb => ?_)
 ·have hb : kitCheck L ≠ 0 := by simpa using hb
  have : swapCheck L = kitCheck L := by unfold swapCheck; simp [hb]
  rw [this] at hq
  exact dn_same hq
 have hb : kitCheck L = 0 := by simpa using hb
 obtain ⟨hl60, hsh, hpt⟩ := kitCheck_zero hb
 have hnd := kitAll_nodup hsh
 have hsw : swapCheck L = bif !L.all otherOk then 4 else bif !othersThere L then 150 else 0 := by unfold swapCheck; simp [hb]
 refine (Owns.start h).newMap (K := List UInt8) (T := Int) mStr mInt fun id h1 _ o1 _ => ?_
 simp -dsimp only [hx.lenSl, B.pv_some]
 refine LoopR.intro (fun t vs hh => ∃ (k : Nat) (ps : Ents (List UInt8) Int) (c : Nat), k + t = L.length ∧ vs = [.int .i64 (k : Int)] ∧ Owns h hh [.blk id (cntB ps c)] ∧ (∀ x ∈ L.take k, otherOk x = true) ∧ ∀ s, getP ps s = if s ∈ codesL (L.take k) then some 1 else none) L.length ?_
  ⟨0, [], 0, by omega, rfl, o1, by simp, by simp [getP, codesL]⟩
 rintro Y t vs hh ⟨k, ps, c, ht, rfl, o, hok, hget⟩ hY
 simp -dsimp only [swap_Check.l6, swap_Check.k5, lssN, B.pv_some]
 refine B.cond_bool (fun hc => ?_) (fun hc => ?_)
 ·rw [decide_eq_true_eq] at hc
  obtain ⟨r, hr⟩ := get_lt hc
  have hm := List.mem_of_getElem? hr
  have er : L[k] = r := by rw [List.getElem?_eq_getElem hc] at hr; exact Option.some.inj hr
  obtain ⟨p, oo, e1, e2, ha⟩ := itm_get2 hx o.le hr
  obtain ⟨⟨R2, a2⟩, el, _⟩ := itm_others ha
  have hof := hof r hm
  have hnew := codesL_new hnd hc
  rw [er] at hnew
  have hz : getP ps r.Code = none := by rw [hget, if_neg hnew]
  have hlk : A.lkp hh (some .s) (some (.int .i64 0)) false (.mp id) (.str r.Code) = some (.int .i64 0) := by
   have := o.lkp 0 rfl keyS 0 r.Code
   rw [hz] at this
   exact this
  have h01 : V.bin .add (.int .i64 0) (.int .i64 1) = some (.int .i64 1) := rfl
  simp -dsimp [e1, e2, hlk, h01, - V.bin_add]
  refine o.mset 0 rfl keyS r.Code 1 fun h2 o2 _ _ => ?_
  have o2 : Owns h h2 [.blk id (cntB (putP ps r.Code 1 c) (clkP ps r.Code c))] := o2
  simp -dsimp
  refine s2 _ _ _ _ _ _ (a2.mono o2.le) hof fun x1 R1 h3 o3 => ?_
  refine s3 _ _ _ _ _ _ o3 (by simp; omega) fun h4 L4 hp4 hs4 o4 => ?_
  have el4 : V.lenSl x1 = some (.int .i64 ((r.Others.length + 1 : Nat) : Int)) := by
   have := (o4.slAt 0 rfl).lenSl
   rw [List.length_map, hp4.length_eq] at this
   exact this
  have o5 := (o2.join o4)
  have hlen1 : (r.Code :: r.Others).length = r.Others.length + 1 := rfl
  have no : otherOk r = false → ∀ h', h.le h' → dn Q (.int .i64 4) h' := fun e h' hle => by
   have : L.all otherOk = false := List.all_eq_false.2 ⟨r, hm, by simp [e]⟩
   rw [this] at hsw
   rw [hsw] at hq
   exact dn_le hle hq
  simp -dsimp [el4, - V.bin_add]
  by_cases h5 : 5 < r.Others.length + 1
  ·have h5' : (5 : Int) < (r.Others.length : Int) + 1 := by omega
   simp -dsimp [h5']
   exact no (by unfold otherOk; simp; omega) h4 o5.le
  have h5' : ¬ (5 : Int) < (r.Others.length : Int) + 1 := by omega
  have e1l : V.bin .add (.int .i64 1) (.int .i64 (r.Others.length : Int)) = some (.int .i64 ((1 + r.Others.length : Nat) : Int)) := addNN (a := 1) (by omega)
  simp -dsimp [h5', el, e1l, - V.bin_add]
  refine s4 _ _ _ _ _ _ o4 (by rw [hp4.length_eq]; simp; omega) fun y h6 R6 o6 => ?_
  have el6 : V.lenSl y = some (.int .i64 ((compactE L4).length : Int)) := by
   have := (o6.slAt 0 rfl).lenSl
   rw [List.length_map] at this
   exact this
  have o7 : Owns h h6 [.blk id (cntB (putP ps r.Code 1 c) (clkP ps r.Code c))] := o2.grow o6.le
  have hcn := compactE_nodup hs4
  rw [hp4.length_eq, hp4.nodup_iff, hlen1] at hcn
  simp -dsimp [h5', el6, - V.bin_add]
  by_cases hn : (r.Code :: r.Others).Nodup
  ·have h8 := hcn.2 hn
   have h9 : decide (((compactE L4).length : Int) = 1 + (r.Others.length : Int)) = true := by simp; omega
   have hro : otherOk r = true := by
    unfold otherOk
    rw [Bool.and_eq_true]
    exact ⟨by simp; omega, by simpa using hn⟩
   rw [h9]
   simp -dsimp only [Bool.not_true, B.cond_false, add1 (show k < 4611686018427387904 by omega), B.pv_some]
   refine hY (t - 1) _ _ (by omega) ⟨k + 1, _, _, by omega, rfl, o7, fun x hx => ?_, fun s => ?_⟩
   ·rw [List.take_add_one, hr, List.mem_append] at hx
    rcases hx with hx | hx
    ·exact hok x hx
    ·have : x = r := by simpa using hx
     rw [this]; exact hro
   ·rw [getP_put, hget s, codesL_take hc, er]
    by_cases hs : s = r.Code <;> simp [hs]
  ·have h8 : (compactE L4).length ≠ r.Others.length + 1 := fun e => hn (hcn.1 e)
   have h9 : decide (((compactE L4).length : Int) = 1 + (r.Others.length : Int)) = false := by simp; omega
   rw [h9]
   simp -dsimp only [Bool.not_false, B.cond_true]
   exact no (by unfold otherOk; rw [Bool.and_eq_false_iff]; exact .inr (by simpa using hn)) h6 o7.le
 ·rw [decide_eq_false_iff_not] at hc
  have hk : k = L.length := by omega
  subst hk
  rw [List.take_length] at hok hget
  have hall : L.all otherOk = true := List.all_eq_true.2 hok
  rw [hall] at hsw
  have hle := o.le
  simp -dsimp only [hx.lenSl, B.pv_some]
  refine LoopR.intro (fun t vs h2 => h2 = hh ∧ ∃ k : Nat, k + t = L.length ∧ vs = [.int .i64 (k : Int)] ∧ ∀ x ∈ L.take k, ∀ s ∈ x.Others, s ∈ codesL L) L.length ?_ ⟨rfl, 0, by omega, rfl, fun x h => (by simp at h)⟩
  rintro Z t2 vs h2 ⟨rfl, k, ht2, rfl, hin⟩ hZ
  simp -dsimp only [swap_Check.l4, swap_Check.k3, lssN, B.pv_some]
  refine B.cond_bool (fun hd => ?_) (fun hd => ?_)
  ·rw [decide_eq_true_eq] at hd
   obtain ⟨r, hr⟩ := get_lt hd
   have hm := List.mem_of_getElem? hr
   obtain ⟨p, oo, e1, e2, ha⟩ := itm_get2 hx hle hr
   obtain ⟨⟨R2, a2⟩, el, hol⟩ := itm_others ha
   simp -dsimp [e1, e2, el, - V.bin_add]
   refine LoopR.intro (fun t vs h3 => h3 = h2 ∧ ∃ m : Nat, m + t = r.Others.length ∧ vs = [.int .i64 (m : Int)] ∧ ∀ s ∈ r.Others.take m, s ∈ codesL L) r.Others.length ?_ ⟨rfl, 0, by omega, rfl, fun x h => (by simp at h)⟩
   rintro W t3 vs h3 ⟨rfl, m, ht3, rfl, hin2⟩ hW
   simp -dsimp only [swap_Check.l2, swap_Check.k1, lssN, B.pv_some]
   refine B.cond_bool (fun hf => ?_) (fun hf => ?_)
   ·rw [decide_eq_true_eq] at hf
    have hg : (r.Others.map tc)[m]? = some (tc r.Others[m]) := by rw [List.getElem?_map, List.getElem?_eq_getElem hf]; rfl
    have hidx : V.idxS 1 oo (.int .i64 (m : Int)) = some (elp 1 oo m 0) := a2.idxN (by simpa using hf)
    have hcell : A.ldv h3 (elp 1 oo m 0) = some (.str r.Others[m]) := (a2.mono hle).cell hg
    have hlk : A.lkp h3 (some .s) (some (.int .i64 0)) false (.mp id) (.str r.Others[m]) = some (.int .i64 ((getP ps r.Others[m]).getD 0)) := o.lkp 0 rfl keyS 0 _
    simp -dsimp [hidx, hcell, hlk, hget, - V.bin_add]
    by_cases hmem : r.Others[m] ∈ codesL L
    ·simp -dsimp [hmem, - V.bin_add, add1 (show m < 4611686018427387904 by omega)]
     refine hW (t3 - 1) _ _ (by omega) ⟨rfl, m + 1, by omega, rfl, fun s hs => ?_⟩
     rw [List.take_add_one, List.getElem?_eq_getElem hf, List.mem_append] at hs
     rcases hs with hs | hs
     ·exact hin2 s hs
     ·have : s = r.Others[m] := by simpa using hs
      rw [this]; exact hmem
    ·simp -dsimp [hmem]
     rw [hsw, othersThere_false hm (List.getElem_mem hf) hmem] at hq
     exact dn_le hle hq
   ·rw [decide_eq_false_iff_not] at hf
    have hk : m = r.Others.length := by omega
    subst hk
    rw [List.take_length] at hin2
    simp -dsimp only [add1 (show k < 4611686018427387904 by omega), B.pv_some]
    refine hZ (t2 - 1) _ _ (by omega) ⟨rfl, k + 1, by omega, rfl, fun x hx => ?_⟩
    rw [List.take_add_one, hr, List.mem_append] at hx
    rcases hx with hx | hx
    ·exact hin x hx
    ·have : x = r := by simpa using hx
     rw [this]; exact hin2
  ·rw [decide_eq_false_iff_not] at hd
   have hk : k = L.length := by omega
   subst hk
   rw [List.take_length] at hin
   have : othersThere L = true := by
    unfold othersThere
    rw [List.all_eq_true]
    intro x hx
    rw [List.all_eq_true]
    intro s hs
    simpa using hin x hx s hs
   rw [hsw, this] at hq
   exact dn_le hle hq
end Go.Ab
namespace Go.Ab
variable {C : CSem} {N : Nat → Nat}
theorem nodup_get {α : Type} {l : List α} (h : l.Nodup) {i j : Nat} {a : α} (hi : l[i]? = some a) (hj : l[j]? = some a) : i = j := by
 obtain ⟨h1, e1⟩ := List.getElem?_eq_some_iff.1 hi
 obtain ⟨h2, e2⟩ := List.getElem?_eq_some_iff.1 hj
 unfold List.Nodup at h
 rw [List.pairwise_iff_getElem] at h
 rcases Nat.lt_trichotomy i j with h3 | h3 | h3
 ·exact absurd (e1.trans e2.symm) (h i j h1 h2 h3)
 ·exact h3
 ·exact absurd (e2.trans e1.symm) (h j i h2 h1 h3)
end Go.Ab
namespace Go.Ab
def bare (t : Itm) : Itm := ⟨t.Code, t.Life, t.Parts, []⟩
theorem codesL_bare (L : List Itm) : codesL (L.map bare) = codesL L := by unfold codesL; rw [List.map_map]; rfl
theorem itemOf_bare (L : List Itm) (c : List UInt8) : itemOf (L.map bare) c = (itemOf L c).map bare := by
 unfold itemOf; rw [List.find?_map]; rfl
theorem partsL_bare (L : List Itm) : partsL (L.map bare) = partsL L := by
 funext c
 unfold partsL
 rw [itemOf_bare]
 cases itemOf L c <;> rfl
theorem kitAt_bare (L : List Itm) : kitAt (L.map bare) = kitAt L := by
 funext i
 unfold kitAt
 rw [List.getElem?_map]
 cases h : L[i]? with
 | none => rfl
 | some x =>
  simp only [Option.map_some]
  have e1 : ordAt (L.map bare) i (bare x) = ordAt L i x := by
   unfold ordAt
   rw [List.getElem?_map]
   cases L[i - 1]? <;> rfl
  rw [e1]; rfl
theorem kitAll_bare (L : List Itm) : kitAll (L.map bare) = kitAll L := by
 unfold kitAll; rw [kitAt_bare, List.length_map]
theorem partsThere_bare (L : List Itm) : partsThere (L.map bare) = partsThere L := by
 unfold partsThere; rw [codesL_bare, List.all_map]; rfl
theorem deepL_bare (L : List Itm) (c : List UInt8) : deepL (L.map bare) c = deepL L c := by
 unfold deepL; rw [partsL_bare, List.length_map]
theorem kitCheck_bare (L : List Itm) : kitCheck (L.map bare) = kitCheck L := by
 unfold kitCheck
 rw [List.length_map, kitAll_bare, partsThere_bare, List.any_map, List.any_map]
 have e1 : ((fun x => decide (deepL (L.map bare) x.Code = none)) ∘ bare) = fun x => decide (deepL L x.Code = none) := by
  funext x; simp only [Function.comp, deepL_bare]; rfl
 have e2 : ((fun x => decide (8 < (deepL (L.map bare) x.Code).getD 0)) ∘ bare) = fun x => decide (8 < (deepL L x.Code).getD 0) := by
  funext x; simp only [Function.comp, deepL_bare]; rfl
 rw [e1, e2]
theorem kitCheck_same {L M : List Itm} (h : L.map bare = M.map bare) : kitCheck L = kitCheck M := by rw [← kitCheck_bare L, h, kitCheck_bare]
theorem swapCheck_bare (L : List Itm) : swapCheck (L.map bare) = kitCheck L := by
 unfold swapCheck
 have h1 : (L.map bare).all otherOk = true := by
  rw [List.all_eq_true]
  intro x hx
  obtain ⟨y, _, rfl⟩ := List.mem_map.1 hx
  simp [otherOk, bare]
 have h2 : othersThere (L.map bare) = true := by
  unfold othersThere
  rw [List.all_eq_true]
  intro x hx
  obtain ⟨y, _, rfl⟩ := List.mem_map.1 hx
  simp [bare]
 rw [h1, h2, kitCheck_bare]
 by_cases h : kitCheck L = 0 <;> simp [h]
theorem swapCheck_zero {L : List Itm} (h : swapCheck L = 0) : kitCheck L = 0 ∧ (∀ x ∈ L, x.Others.length ≤ 4 ∧ (x.Code :: x.Others).Nodup ∧ ∀ o ∈ x.Others, o ∈ codesL L) := by
 unfold swapCheck at h
 by_cases h0 : kitCheck L = 0
 ·rw [h0] at h
  cases h1 : L.all otherOk with
  | false => rw [h1] at h; cases h
  | true =>
   rw [h1] at h
   cases h2 : othersThere L with
   | false => rw [h2] at h; cases h
   | true =>
    refine ⟨h0, fun x hx => ?_⟩
    have h3 := List.all_eq_true.1 h1 x hx
    unfold otherOk at h3
    rw [Bool.and_eq_true, decide_eq_true_eq, decide_eq_true_eq] at h3
    unfold othersThere at h2
    have h4 := List.all_eq_true.1 (List.all_eq_true.1 h2 x hx)
    exact ⟨h3.1, h3.2, fun o ho => by simpa using h4 o ho⟩
 ·simp [h0] at h
theorem swapCheck_of {L : List Itm} (h0 : kitCheck L = 0) (h : ∀ x ∈ L, x.Others.length ≤ 4 ∧ (x.Code :: x.Others).Nodup ∧ ∀ o ∈ x.Others, o ∈ codesL L) : swapCheck L = 0 := by
 have h1 : L.all otherOk = true := by
  rw [List.all_eq_true]
  intro x hx
  obtain ⟨a, b, _⟩ := h x hx
  unfold otherOk
  rw [Bool.and_eq_true, decide_eq_true_eq, decide_eq_true_eq]
  exact ⟨a, b⟩
 have h2 : othersThere L = true := by
  unfold othersThere
  rw [List.all_eq_true]
  intro x hx
  rw [List.all_eq_true]
  intro o ho
  simpa using (h x hx).2.2 o ho
 unfold swapCheck
 rw [h0, h1, h2]; rfl
theorem swapCheck_turn {L : List Itm} {i : Nat} {x : Itm} {M : List (List UInt8)} (hx : L[i]? = some x) (hp : M.Perm x.Others) (h : swapCheck L = 0) : swapCheck (L.set i ⟨x.Code, x.Life, x.Parts, M⟩) = 0 := by
 obtain ⟨h0, h1⟩ := swapCheck_zero h
 have hb : (L.set i ⟨x.Code, x.Life, x.Parts, M⟩).map bare = L.map bare := by
  rw [List.map_set]
  apply List.ext_getElem?
  intro j
  by_cases e : i = j
  ·subst e
   have hl := (List.getElem?_eq_some_iff.1 hx).1
   rw [List.getElem?_set_self (by simpa using hl), List.getElem?_map, hx]; rfl
  ·rw [List.getElem?_set_ne e]
 have hc : codesL (L.set i ⟨x.Code, x.Life, x.Parts, M⟩) = codesL L := by rw [← codesL_bare, hb, codesL_bare]
 refine swapCheck_of ((kitCheck_same hb).trans h0) fun y hy => ?_
 rw [hc]
 rcases List.mem_or_eq_of_mem_set hy with hy | rfl
 ·exact h1 y hy
 ·obtain ⟨a, b, c⟩ := h1 x (List.mem_of_getElem? hx)
  exact ⟨by rw [hp.length_eq]; exact a, (hp.cons x.Code).nodup_iff.2 b, fun o ho => c o (hp.mem_iff.1 ho)⟩
theorem swapRow_at {L : List Itm} (h : swapCheck L = 0) {x : Itm} (hx : x ∈ L) : swapRow L x.Code = x.Code :: x.Others := by
 unfold swapRow
 rw [itemOf_mem (kitAll_nodup (kitCheck_zero (swapCheck_zero h).1).2.1) hx]
theorem swapRow_ne {L : List Itm} {c : List UInt8} (h : c ∈ codesL L) : swapRow L c ≠ [] := by
 unfold swapRow
 cases e : itemOf L c with
 | none => exact absurd h (itemOf_none.1 e)
 | some x => simp
end Go.Ab
set_option maxRecDepth 100000
namespace Go.Ab
variable {C : CSem} {N : Nat → Nat}
structure TellLent (h : AHeap) (t : TellP) (x y : AVal) : Prop where
 lots : SlX h 6 x (t.Lots.map Lot.cs) marksLot
 uses : SlX h 3 y (t.Uses.map Use.cs) marksUse
theorem TellLent.at_ {h : AHeap} {t : TellP} {x y : AVal} (a : TellLent h t x y) : TellAt h t x y := ⟨⟨_, a.lots⟩, ⟨_, a.uses⟩⟩
end Go.Ab
set_option maxRecDepth 100000
namespace Go.Ab
variable {C : CSem} {N : Nat → Nat}
@[simp] theorem Objs_zero {es : Nat} {xs : Nat → AVal} {D R : Nat → List (List AVal)} : Objs es 0 xs D R = [] := rfl
end Go.Ab
namespace Go.Ab
variable {C : CSem} {N : Nat → Nat}
def rList {T : Type} (one : Rdr → T × Rdr) : Nat → Rdr → List T × Rdr
 | 0, r => ([], r)
 | n + 1, r => if r.bad then ([], r) else ((one r).1 :: (rList one n (one r).2).1, (rList one n (one r).2).2)
structure ReadsAt (h0 : AHeap) (x : AVal) (b : List UInt8) : Prop where
 is : ∃ R, SlX h0 1 x (b.map bc) R
 lt : b.length < 4611686018427387904
def tellZero : TellP := ⟨0, 0, 0, [], 0, [], []⟩
theorem Owns.boxStn {h0 h : AHeap} {l : List Ob} (ho : Owns h0 h l) (k : Nat) {id n : Nat} {cs xs : List AVal} {K : AHeap → Prop} (hk : l[k]? = some (.box (.ptr id 0 0) cs)) (hn : xs.length = n) (hc : cs.length = n)
  (hK : ∀ h', Owns h0 h' (l.set k (.box (.ptr id 0 0) xs)) → But (.ptr id 0 0) h h' → K h') : A.stn h (.ptr id 0 0) n (.agg xs) K := by
 obtain ⟨id', e, hb⟩ := ho.boxAt k hk
 cases e
 rw [stn_at hb hn (by omega)]
 have e1 : cs.take 0 ++ xs ++ cs.drop (0 + n) = xs := by simp [← hc]
 rw [e1]
 have hbut : But (.ptr id 0 0) h (upd h id (blkOf xs)) := fun j b e1 e2 => by rw [upd_other]; exact e1; intro e; subst e; exact e2 rfl
 exact hK _ (ho.turn k hk ⟨id, rfl, upd_same ..⟩ (fun j b hj hb' => by cases hj; rw [upd_same] at hb'; cases hb'; rfl) hbut (.inl rfl)) hbut
def tellEnd (t : TellP) (r : Rdr) : TellP × Nat × Int := if r.bad || !tellRight t then (tellZero, 0, 4) else (t, r.at_, 0)
@[simp] def TellP.val (g : TellP × Nat × Int) (x y : AVal) : AVal := .tup [.agg (g.1.cs x y), .int .i64 (g.2.1 : Int), .int .i64 g.2.2]
theorem tell_Get.fin (s : tell_Right.Spec C N) {h hh : AHeap} {i2 : Nat} {p x : AVal} {cs2 : List AVal} {t : TellP} {r : Rdr} {lx ly : AVal} {Q : AVal → AHeap → Prop} (ho : Owns h hh [.box (.ptr i2 0 0) cs2, .box p [x, .int .i64 (r.at_ : Int), .bool r.bad], .sl 6 lx (t.Lots.map Lot.cs) [], .sl 3 ly (t.Uses.map Use.cs) []])
  (hc : cs2.length = 7) (hl1 : t.Lots.length ≤ 65535) (hl2 : t.Uses.length ≤ 65535)
  (hq : ∀ x' y' h', Owns h h' [.sl 6 x' ((tellEnd t r).1.Lots.map Lot.cs) [], .sl 3 y' ((tellEnd t r).1.Uses.map Use.cs) []] → Q (TellP.val (tellEnd t r) x' y') h') : tell_Get.k1 C N (dn Q) (.ptr i2 0 0) p (.agg (t.cs lx ly)) hh := by
 obtain ⟨id, rfl, hbx⟩ := ho.boxAt 1 rfl
 simp +contextual -dsimp [ldv_at hbx]
 refine B.gdb_call (fun _ _ hq => s t lx ly _ _ ⟨⟨_, ho.slAt 2 rfl⟩, ⟨_, ho.slAt 3 rfl⟩⟩ (by omega) (by omega) hq) ?_
 simp +contextual -dsimp
 refine B.cond_bool (fun h1 => ?_) (fun h1 => ?_)
 ·have e : tellEnd t r = (tellZero, 0, 4) := by unfold tellEnd; rw [if_pos]; simpa using h1
  rw [e] at hq
  try simp +contextual -dsimp
  refine ho.boxStn 0 rfl rfl hc fun h2 ho2 _ => ?_
  obtain ⟨id', e', hb2⟩ := ho2.boxAt 0 rfl
  cases e'
  simp -dsimp [ldnv_at hb2]
  refine dn_same (hq .nils .nils h2 ?_)
  exact ((Owns.nil ho2.le).nils 6).nils 3
 ·have e : tellEnd t r = (t, r.at_, 0) := by unfold tellEnd; rw [if_neg]; simpa using h1
  rw [e] at hq
  try simp +contextual -dsimp
  simp -dsimp [ldv_at hbx]
  refine ho.boxStn 0 rfl rfl hc fun h2 ho2 _ => ?_
  obtain ⟨id', e', hb2⟩ := ho2.boxAt 0 rfl
  cases e'
  obtain ⟨id', e', hb3⟩ := ho2.boxAt 1 rfl
  cases e'
  refine ⟨fun q hq => ?_, ?_⟩
  ·rw [List.mem_singleton.1 hq]
   exact ⟨.int .i64 (r.at_ : Int), by rw [ldv_at hbx]; rfl, by rw [ldv_at hb3]; rfl⟩
  ·simp -dsimp [ldnv_at hb2]
   exact dn_same (hq lx ly h2 (ho2.sub (by simp)))
theorem ref14_Get.fin (s : ref14_Right.Spec C N) {h hh : AHeap} {i2 : Nat} {p x : AVal} {cs2 : List AVal} {t : TellP} {r : Rdr} {lx ly : AVal} {Q : AVal → AHeap → Prop} (ho : Owns h hh [.box (.ptr i2 0 0) cs2, .box p [x, .int .i64 (r.at_ : Int), .bool r.bad], .sl 6 lx (t.Lots.map Lot.cs) [], .sl 3 ly (t.Uses.map Use.cs) []])
  (hc : cs2.length = 7) (hl1 : t.Lots.length ≤ 65535) (hl2 : t.Uses.length ≤ 65535)
  (hq : ∀ x' y' h', Owns h h' [.sl 6 x' ((tellEnd t r).1.Lots.map Lot.cs) [], .sl 3 y' ((tellEnd t r).1.Uses.map Use.cs) []] → Q (TellP.val (tellEnd t r) x' y') h') : ref14_Get.k1 C N (dn Q) (.ptr i2 0 0) p (.agg (t.cs lx ly)) hh := by
 obtain ⟨id, rfl, hbx⟩ := ho.boxAt 1 rfl
 simp +contextual -dsimp [ldv_at hbx]
 refine B.gdb_call (fun _ _ hq => s t lx ly _ _ ⟨⟨_, ho.slAt 2 rfl⟩, ⟨_, ho.slAt 3 rfl⟩⟩ (by omega) (by omega) hq) ?_
 simp +contextual -dsimp
 refine B.cond_bool (fun h1 => ?_) (fun h1 => ?_)
 ·have e : tellEnd t r = (tellZero, 0, 4) := by unfold tellEnd; rw [if_pos]; simpa using h1
  rw [e] at hq
  try simp +contextual -dsimp
  refine ho.boxStn 0 rfl rfl hc fun h2 ho2 _ => ?_
  obtain ⟨id', e', hb2⟩ := ho2.boxAt 0 rfl
  cases e'
  simp -dsimp [ldnv_at hb2]
  refine dn_same (hq .nils .nils h2 ?_)
  exact ((Owns.nil ho2.le).nils 6).nils 3
 ·have e : tellEnd t r = (t, r.at_, 0) := by unfold tellEnd; rw [if_neg]; simpa using h1
  rw [e] at hq
  try simp +contextual -dsimp
  simp -dsimp [ldv_at hbx]
  refine ho.boxStn 0 rfl rfl hc fun h2 ho2 _ => ?_
  obtain ⟨id', e', hb2⟩ := ho2.boxAt 0 rfl
  cases e'
  obtain ⟨id', e', hb3⟩ := ho2.boxAt 1 rfl
  cases e'
  refine ⟨fun q hq => ?_, ?_⟩
  ·rw [List.mem_singleton.1 hq]
   exact ⟨.int .i64 (r.at_ : Int), by rw [ldv_at hbx]; rfl, by rw [ldv_at hb3]; rfl⟩
  ·simp -dsimp [ldnv_at hb2]
   exact dn_same (hq lx ly h2 (ho2.sub (by simp)))
theorem ref14_Get.uses (s1 : ref13_Reader_Number.Spec C N) {b : List UInt8} {x lx : AVal} {i2 : Nat} {p : AVal} {bs hh : AHeap} {Q : AVal → AHeap → Prop} {e i d : Int} {c : List UInt8} {s : UInt8} {z : Nat} {r1 : Rdr} (hx : ReadsAt bs x b) (hcx : lx.isCell = true) (hz : z ≤ 65535) (hr1 : r1.at_ ≤ b.length)
  (ho : Owns bs hh [.box p [x, .int .i64 (r1.at_ : Int), .bool r1.bad]])
  (hk : ∀ o h', Owns bs h' [.sl 3 o ((rList (rUse b) z r1).1.map Use.cs) [], .box p [x, .int .i64 ((rList (rUse b) z r1).2.at_ : Int), .bool (rList (rUse b) z r1).2.bad]] → ref14_Get.k1 C N Q (.ptr i2 0 0) p (.agg [.int .i64 e, .int .i64 i, .int .i64 d, .str c, .int .u8 (s.toNat : Int), lx, o]) h') :
  LoopR (ref14_Get.l3 C N Q (.ptr i2 0 0) p) [.int .i64 (z : Int), .agg [.int .i64 e, .int .i64 i, .int .i64 d, .str c, .int .u8 (s.toNat : Int), lx, .nils]] hh := by
 obtain ⟨⟨R, hxx⟩, hb⟩ := hx
 refine LoopR.intro (fun t vs hh => ∃ (o : AVal) (acc : List Use) (r : Rdr), vs = [.int .i64 (t : Int), .agg [.int .i64 e, .int .i64 i, .int .i64 d, .str c, .int .u8 (s.toNat : Int), lx, o]] ∧ t ≤ 65535 ∧ acc.length + t ≤ 65535 ∧ r.at_ ≤ b.length ∧ acc ++ (rList (rUse b) t r).1 = (rList (rUse b) z r1).1 ∧ (rList (rUse b) t r).2 = (rList (rUse b) z r1).2 ∧
   Owns bs hh [.sl 3 o (acc.map Use.cs) [], .box p [x, .int .i64 (r.at_ : Int), .bool r.bad]]) z ?_ ⟨.nils, [], r1, rfl, by omega, by simp; omega, hr1, rfl, rfl, (ho.nils 3).perm (List.Perm.swap ..)⟩
 rintro Y t vs hh ⟨o, acc, r, rfl, ht, hal, hr, e1, e2, ho⟩ hY
 obtain ⟨id, rfl, hbx⟩ := ho.boxAt 1 rfl
 simp +contextual -dsimp [ldv_at hbx]
 refine B.cond_bool (fun h2 => ?_) (fun h2 => ?_) <;> simp at h2
 ·obtain ⟨t, rfl⟩ : ∃ u, t = u + 1 := ⟨t - 1, by omega⟩
  simp only [rList, h2.2, Bool.false_eq_true, if_false] at e1 e2
  obtain ⟨q1, q2⟩ := ho.out (l1 := [_]) (l2 := [_])
  have hx1 := hxx.mono q1.le
  try simp +contextual -dsimp
  refine s1 _ hh _ x b R r 8 _ hx1 hb hr (by omega) q2 fun h3 ho3 => ?_
  have l3 := rNum_le (k := 8) hr
  try simp +contextual -dsimp
  refine s1 _ _ _ x b R _ 8 _ hx1 hb l3 (by omega) ho3 fun h4 ho4 => ?_
  have l4 := rNum_le (k := 8) l3
  try simp +contextual -dsimp
  refine s1 _ _ _ x b R _ 8 _ hx1 hb l4 (by omega) ho4 fun h5 ho5 => ?_
  have ho6 := q1.join ho5
  try simp +contextual -dsimp
  refine ho6.push 0 rfl rfl (by omega) (by simp; omega) (by simp [maxLen]; omega) fun o' h7 ho7 _ => ?_
  have e4 : IntKind.i64.wrap (((t + 1 : Nat) : Int) - 1) = (t : Int) := by rw [wrap_i64 (by omega) (by omega)]; omega
  have hco := (ho7.slAt 0 rfl).isCell
  simp -dsimp only [B.al_agg, V.setF_agg, V.put1_cell, hco, cond_true, List.length_set, List.length_cons, List.length_nil, List.set, optAgg_some, B.pv_some, if_true, show 6 < 0 + 1 + 1 + 1 + 1 + 1 + 1 + 1 by omega, V.bin_sub, e4]
  refine hY t _ _ (by omega) ⟨o', acc ++ [(rUse b r).1], (rUse b r).2, rfl, by omega, by simp; omega, rUse_le hr, ?_, e2, ?_⟩
  ·rw [← e1, List.append_assoc]; rfl
  ·rw [List.map_append]; exact ho7
 ·have : (rList (rUse b) t r) = ([], r) := by
   cases t with
   | zero => rfl
   | succ t => simp [rList, h2 (by omega)]
  rw [this, List.append_nil] at e1
  rw [this] at e2
  subst e1
  rw [← e2] at hk
  exact hk _ _ ho
theorem ref14_Get.lots (s1 : ref13_Reader_Number.Spec C N) (s2 : ref14_lot.Spec C N) {b : List UInt8} {x : AVal} {i2 : Nat} {p : AVal} {bs hh : AHeap} {Q : AVal → AHeap → Prop} {e i d : Int} {c : List UInt8} {s : UInt8} {z : Nat} {r1 : Rdr} (hx : ReadsAt bs x b) (hz : z ≤ 65535) (hr1 : r1.at_ ≤ b.length)
  (ho : Owns bs hh [.box p [x, .int .i64 (r1.at_ : Int), .bool r1.bad]])
  (hk : ∀ o h', Owns bs h' [.sl 6 o ((rList (rLot b) z r1).1.map Lot.cs) [], .box p [x, .int .i64 ((rList (rLot b) z r1).2.at_ : Int), .bool (rList (rLot b) z r1).2.bad]] →
   C (N 71) [p, .int .i64 2] h' fun v54 h => LoopR (ref14_Get.l3 C N Q (.ptr i2 0 0) p) [v54, .agg [.int .i64 e, .int .i64 i, .int .i64 d, .str c, .int .u8 (s.toNat : Int), o, .nils]] h) :
  LoopR (ref14_Get.l5 C N Q (.ptr i2 0 0) p) [.int .i64 (z : Int), .agg [.int .i64 e, .int .i64 i, .int .i64 d, .str c, .int .u8 (s.toNat : Int), .nils, .nils]] hh := by
 obtain ⟨⟨R, hxx⟩, hb⟩ := hx
 refine LoopR.intro (fun t vs hh => ∃ (o : AVal) (acc : List Lot) (r : Rdr), vs = [.int .i64 (t : Int), .agg [.int .i64 e, .int .i64 i, .int .i64 d, .str c, .int .u8 (s.toNat : Int), o, .nils]] ∧ t ≤ 65535 ∧ acc.length + t ≤ 65535 ∧ r.at_ ≤ b.length ∧ acc ++ (rList (rLot b) t r).1 = (rList (rLot b) z r1).1 ∧ (rList (rLot b) t r).2 = (rList (rLot b) z r1).2 ∧
   Owns bs hh [.sl 6 o (acc.map Lot.cs) [], .box p [x, .int .i64 (r.at_ : Int), .bool r.bad]]) z ?_ ⟨.nils, [], r1, rfl, by omega, by simp; omega, hr1, rfl, rfl, (ho.nils 6).perm (List.Perm.swap ..)⟩
 rintro Y t vs hh ⟨o, acc, r, rfl, ht, hal, hr, e1, e2, ho⟩ hY
 obtain ⟨id, rfl, hbx⟩ := ho.boxAt 1 rfl
 simp +contextual -dsimp [ldv_at hbx]
 refine B.cond_bool (fun h2 => ?_) (fun h2 => ?_) <;> simp at h2
 ·obtain ⟨t, rfl⟩ : ∃ u, t = u + 1 := ⟨t - 1, by omega⟩
  simp only [rList, h2.2, Bool.false_eq_true, if_false] at e1 e2
  obtain ⟨q1, q2⟩ := ho.out (l1 := [_]) (l2 := [_])
  have hx1 := hxx.mono q1.le
  try simp +contextual -dsimp
  refine s2 _ hh _ x b R r _ hx1 hb hr q2 fun h5 ho5 => ?_
  have ho6 := q1.join ho5
  try simp +contextual -dsimp
  refine ho6.push 0 rfl rfl (by omega) (by simp; omega) (by simp [maxLen]; omega) fun o' h7 ho7 _ => ?_
  have e4 : IntKind.i64.wrap (((t + 1 : Nat) : Int) - 1) = (t : Int) := by rw [wrap_i64 (by omega) (by omega)]; omega
  have hco := (ho7.slAt 0 rfl).isCell
  simp -dsimp only [B.al_agg, V.setF_agg, V.put1_cell, hco, cond_true, List.length_set, List.length_cons, List.length_nil, List.set, optAgg_some, B.pv_some, if_true, show 5 < 0 + 1 + 1 + 1 + 1 + 1 + 1 + 1 by omega, V.bin_sub, e4]
  refine hY t _ _ (by omega) ⟨o', acc ++ [(rLot b r).1], (rLot b r).2, rfl, by omega, by simp; omega, rLot_le hr, ?_, e2, ?_⟩
  ·rw [← e1, List.append_assoc]; rfl
  ·rw [List.map_append]; exact ho7
 ·have : (rList (rLot b) t r) = ([], r) := by
   cases t with
   | zero => rfl
   | succ t => simp [rList, h2 (by omega)]
  rw [this, List.append_nil] at e1
  rw [this] at e2
  subst e1
  rw [← e2] at hk
  exact hk _ _ ho
end Go.Ab
set_option maxRecDepth 100000
namespace Go.Ab
variable {C : CSem} {N : Nat → Nat}
def two {α : Type} (a b : α) : Nat → α := fun j => if j = 0 then a else b
end Go.Ab
namespace Go.Ab
structure Got (b : List UInt8) (r r' : Rdr) (w : List UInt8) : Prop where
 drop : b.drop r.at_ = w ++ b.drop r'.at_
 at_ : r'.at_ = r.at_ + w.length
 le : r'.at_ ≤ b.length
 ok : r.bad = false
theorem Got.seq {b : List UInt8} {r r1 r2 : Rdr} {w w1 : List UInt8} (h : Got b r r1 w) (k : Got b r1 r2 w1) : Got b r r2 (w ++ w1) :=
 ⟨by rw [h.drop, k.drop, List.append_assoc], by rw [k.at_, h.at_, List.length_append]; omega, k.le, h.ok⟩
end Go.Ab
set_option maxRecDepth 100000
namespace Go.Ab
variable {C : CSem} {N : Nat → Nat}
theorem litO {h : AHeap} {es n : Nat} {cs : List AVal} (L : List (List AVal)) {K : Nat → AHeap → Prop} (hc : cs = L.flatten) (hL : ∀ p ∈ L, p.length = es) (hn : n = L.length) (hK : ∀ i h', Owns h h' [.sl es (.sl i 0 0 n es n) L []] → K i h') : B.newO h (some cs) K :=
 fun i hi => hK i _ ((Owns.start h).newSl hi (by simpa using hL) hn (by simp; omega) (by simpa using hc))
end Go.Ab
namespace Go.Ab
def itemW : DK Itm (AVal × AVal) where
 n := 4
 bytes := 72
 z := [.str [], .int .i64 0, .nils, .nils]
 pos := by omega
 small := by omega
 zlen := rfl
 cells t a := [.str t.Code, .int .i64 t.Life, a.1, a.2]
 len _ _ := rfl
 at_ h t a := (∃ R, SlX h 2 a.1 (t.Parts.map Part.cs) R) ∧ (∃ R, SlX h 1 a.2 (t.Others.map tc) R)
 mono hle ha := ⟨ha.1.imp fun _ r => r.mono hle, ha.2.imp fun _ r => r.mono hle⟩
 ok _ := True
 at_ok _ := trivial
 obs b t a := [partsOb b a.1 t.Parts, textsOb b a.2 t.Others]
 ofObs {b h t a} _ ha := ⟨⟨_, show SlX h 2 a.1 (t.Parts.map Part.cs) (bif b then marksPart else []) from ha (partsOb b a.1 t.Parts) (by simp)⟩, ⟨_, show SlX h 1 a.2 (t.Others.map tc) (bif b then marksText else []) from ha (textsOb b a.2 t.Others) (by simp)⟩⟩
theorem itemW_K {h : AHeap} {x : AVal} {L : List Itm} (hx : Dl itemW h x L) (hok : ∀ t ∈ L, t.ok) : Dl itemK h x L := by
 obtain ⟨P, R, rfl, s, ha⟩ := hx
 exact ⟨P, R, rfl, s, fun p hp => ⟨(ha p hp).1, (ha p hp).2, hok p.1 (List.mem_map_of_mem hp)⟩⟩
def Itm.inLen (t : Itm) : Prop := t.Code.length < 4611686018427387904 ∧ (∀ p ∈ t.Parts, p.Item.length < 4611686018427387904) ∧ (∀ o ∈ t.Others, o.length < 4611686018427387904) ∧ t.Parts.length < 100000000000000000 ∧ t.Others.length < 100000000000000000
abbrev tyItem : Ty := .st [.s, .i .i64, .sl 24 2 tyPart, .sl 16 1 .s]
theorem absSl1 {H : AHeap} {b e : Nat} {t : Ty} {c : List AVal} (h : AbsOk H (.sl b e t) c) : ∃ v, c = [v] := by
 rcases h with h | h | ⟨_, _, h, _⟩ <;> exact ⟨_, h⟩
theorem dPartL {H : AHeap} {p : List AVal} (h : AbsOk H tyPart p) : ∃ w : Part, p = w.cs ∧ w.Item.length < 4611686018427387904 := by
 obtain ⟨a, r, rfl, ⟨n1, rfl, q1⟩, ⟨b, r2, rfl, ⟨n2, rfl, _⟩, hr⟩⟩ := h
 cases hr
 exact ⟨⟨n1, n2⟩, rfl, by unfold reach at q1; show n1.length < _; omega⟩
theorem dPartsL {H : AHeap} {v : AVal} (h : AbsOk H (.sl 24 2 tyPart) [v]) : ∃ L : List Part, SlIs H 2 v (L.map Part.cs) ∧ L.length < 100000000000000000 ∧ ∀ l ∈ L, l.Item.length < 4611686018427387904 := by
 obtain ⟨L, h1, h2, h3⟩ := arg_sliceP Part.cs (fun l => l.Item.length < 4611686018427387904) (fun p hp => dPartL hp) h
 exact ⟨L, h1, by unfold reach at h2; omega, h3⟩
theorem dTextW {H : AHeap} {p : List AVal} (h : AbsOk H .s p) : ∃ s : List UInt8, p = tc s ∧ s.length < 4611686018427387904 := by
 obtain ⟨s, rfl, q⟩ := h
 exact ⟨s, rfl, by unfold reach at q; omega⟩
theorem dTextsL {H : AHeap} {v : AVal} (h : AbsOk H (.sl 16 1 .s) [v]) : ∃ L : List (List UInt8), SlIs H 1 v (L.map tc) ∧ L.length < 100000000000000000 ∧ ∀ s ∈ L, s.length < 4611686018427387904 := by
 obtain ⟨L, h1, h2, h3⟩ := arg_sliceP tc (fun s => s.length < 4611686018427387904) (fun p hp => dTextW hp) h
 exact ⟨L, h1, by unfold reach at h2; omega, h3⟩
theorem dItem {H : AHeap} {p : List AVal} (h : AbsOk H tyItem p) : ∃ (t : Itm) (a : AVal × AVal), p = itemW.cells t a ∧ itemW.at_ H t a ∧ t.inLen := by
 obtain ⟨a, r, rfl, ⟨n1, rfl, q1⟩, ⟨b, r2, rfl, ⟨n2, rfl, _⟩, ⟨c, r3, rfl, h3, ⟨d, r4, rfl, h4, hr⟩⟩⟩⟩ := h
 cases hr
 obtain ⟨v, rfl⟩ := absSl1 h3
 obtain ⟨w, rfl⟩ := absSl1 h4
 obtain ⟨P, k1, k2, k3⟩ := dPartsL h3
 obtain ⟨O, g1, g2, g3⟩ := dTextsL h4
 exact ⟨⟨n1, n2, P, O⟩, (v, w), rfl, ⟨⟨[], k1⟩, ⟨[], g1⟩⟩, by unfold reach at q1; show n1.length < _; omega, k3, g3, k2, g2⟩
theorem arg_sliceDP {T Ad : Type} {K : DK T Ad} {Pr : T → Prop} {H : AHeap} {bytes : Nat} {e : Ty} {v : AVal} (hd : ∀ p, AbsOk H e p → ∃ (t : T) (a : Ad), p = K.cells t a ∧ K.at_ H t a ∧ Pr t) (h : AbsOk H (.sl bytes K.n e) [v]) : ∃ L : List T, Dl K H v L ∧ L.length * bytes ≤ reach ∧ ∀ t ∈ L, Pr t := by
 obtain ⟨G, h1, h2⟩ := arg_slice (T := { p : T × Ad // K.at_ H p.1 p.2 ∧ Pr p.1 }) (fun p => K.cells p.1.1 p.1.2) (fun p hp => by obtain ⟨t, a, e, k⟩ := hd p hp; exact ⟨⟨(t, a), k⟩, e⟩) h
 refine ⟨(G.map (·.1)).map (·.1), ⟨G.map (·.1), [], rfl, ?_, fun p hp => ?_⟩, by simpa using h2, fun t ht => ?_⟩
 ·rw [List.map_map]; exact h1
 ·obtain ⟨q, _, rfl⟩ := List.mem_map.1 hp; exact q.2.1
 ·obtain ⟨q, hq, rfl⟩ := List.mem_map.1 ht
  obtain ⟨q', _, rfl⟩ := List.mem_map.1 hq
  exact q'.2.2
theorem dItems {H : AHeap} {v : AVal} (h : AbsOk H (.sl 72 4 tyItem) [v]) : ∃ L : List Itm, Dl itemW H v L ∧ L.length < 4611686018427387904 ∧ ∀ t ∈ L, t.inLen := by
 obtain ⟨L, h1, h2, h3⟩ := arg_sliceDP (K := itemW) (fun p hp => dItem hp) h
 exact ⟨L, h1, by unfold reach at h2; omega, h3⟩
end Go.Ab
set_option maxRecDepth 100000
namespace Go.Ab
variable {C : CSem} {N : Nat → Nat}
theorem itm_getW {h : AHeap} {x : AVal} {L : List Itm} (hx : Dl itemW h x L) {i : Nat} {r : Itm} (hr : L[i]? = some r) : ∃ p o, V.idxS 4 x (.int .i64 (i : Int)) = some (elp 4 x i 0) ∧ V.fieldAddr 0 (elp 4 x i 0) = some (elp 4 x i 0) ∧
  V.fieldAddr 2 (elp 4 x i 0) = some (elp 4 x i 2) ∧ V.fieldAddr 3 (elp 4 x i 0) = some (elp 4 x i 3) ∧ A.ldv h (elp 4 x i 0) = some (.str r.Code) ∧ A.ldv h (elp 4 x i 2) = some p ∧ A.ldv h (elp 4 x i 3) = some o ∧
  (∃ R, SlX h 2 p (r.Parts.map Part.cs) R) ∧ V.lenSl p = some (.int .i64 (r.Parts.length : Int)) ∧ (∃ R, SlX h 1 o (r.Others.map tc) R) ∧ V.lenSl o = some (.int .i64 (r.Others.length : Int)) := by
 obtain ⟨a, ea⟩ := hx.get hr
 obtain ⟨⟨R1, a1⟩, ⟨R2, a2⟩⟩ : (∃ R, SlX h 2 a.1 (r.Parts.map Part.cs) R) ∧ (∃ R, SlX h 1 a.2 (r.Others.map tc) R) := ea.at_
 exact ⟨a.1, a.2, ea.idx, ea.fld 0 0, ea.fld 0 2, ea.fld 0 3, ea.ld 0 (by decide), ea.ld 2 (by decide), ea.ld 3 (by decide), ⟨R1, a1⟩, by simpa using a1.lenSl, ⟨R2, a2⟩, by simpa using a2.lenSl⟩
def law08_great.Spec (C : CSem) (N : Nat → Nat) : Prop := ∀ (x : AVal) (L : List Itm) (h : AHeap) (Q : AVal → AHeap → Prop), Dl itemW h x L → L.length < 4611686018427387904 → (∀ t ∈ L, t.inLen) →
 (∀ b : Bool, (b = false → L.length ≤ 70 ∧ ∀ t ∈ L, t.Parts.length ≤ 4000 ∧ t.Others.length ≤ 4000) → Q (.bool b) h) → C (N 357) [x] h Q
theorem quo20 {a : Nat} (h : a < 4611686018427387904) : V.bin .quo (.int .i64 (a : Int)) (.int .i64 20) = some (.int .i64 ((a / 20 : Nat) : Int)) := by
 rw [V.bin_quo _ _ _ (by omega), show (a : Int).tdiv 20 = ((a / 20 : Nat) : Int) from rfl, wrap_i64 (by omega) (by omega)]
theorem law08_great.spec (i : law08_great.Imp C N) : law08_great.Spec C N := by
 intro x L h Q hx hlen hin hq
 apply i
 refine LoopR.intro (fun t vs hh => hh = h ∧ ∃ k n : Nat, k + t = L.length ∧ vs = [.int .i64 (n : Int), .int .i64 (k : Int)] ∧ n < 1000000000000000000 ∧ (n ≤ 4000 → ∀ t ∈ L.take k, t.Parts.length ≤ 4000 ∧ t.Others.length ≤ 4000)) L.length ?_ ⟨rfl, 0, 0, by omega, rfl, by omega, fun _ t h => (by simp at h)⟩
 rintro Y t vs h ⟨rfl, k, n, ht, rfl, hn, hall⟩ hY
 have hend : (4000 < n ∨ k = L.length) → law08_great.k1 C N (dn Q) x (.int .i64 (n : Int)) h := fun hor => by
  simp -dsimp only [law08_great.k1, V.bin_gtr, B.pv_some]
  by_cases h4 : 4000 < n
  ·have h4' : (4000 : Int) < n := by omega
   simp -dsimp [h4']
   exact dn_same (hq true fun e => by cases e)
  ·have h4' : ¬ (4000 : Int) < n := by omega
   have hk : k = L.length := hor.resolve_left h4
   subst hk
   rw [List.take_length] at hall
   simp -dsimp [h4', hx.lenSl]
   have e7 : decide ((70 : Int) < L.length) = decide (70 < L.length) := decide_eq_decide.2 (by omega)
   first | rw [e7] | skip
   exact dn_same (hq _ fun e => ⟨by simpa using e, hall (by omega)⟩)
 simp -dsimp only [law08_great.l8, law08_great.k7, hx.lenSl, lssN, B.pv_some]
 by_cases hk : k < L.length
 rotate_left
 ·have := hend (.inr (by omega))
  simp -dsimp [hk, - law08_great.k1]
  exact this
 by_cases h4 : n ≤ 4000
 rotate_left
 ·have h4' : ¬ (n : Int) ≤ 4000 := by omega
  have := hend (.inl (by omega))
  simp -dsimp [hk, h4', - law08_great.k1]
  exact this
 have h4' : (n : Int) ≤ 4000 := by omega
 obtain ⟨r, hr⟩ := get_lt hk
 have hrm := List.mem_of_getElem? hr
 obtain ⟨n1, n2, n3, hpl, hol⟩ := hin r hrm
 obtain ⟨p, o, e1, e3, e4, e5, e6, e7, e8, ⟨R1, a1⟩, el1, ⟨R2, a2⟩, el2⟩ := itm_getW hx hr
 have hk1 := add1 (show k < 4611686018427387904 by omega)
 have b1 : V.bin .add (.int .i64 (n : Int)) (.int .i64 1) = some (.int .i64 ((n + 1 : Nat) : Int)) := add1 (by omega)
 have b2 := addNN (a := n + 1) (b := r.Code.length / 20) (by omega)
 have b3 := addNN (a := n + 1 + r.Code.length / 20) (b := r.Parts.length) (by omega)
 have b4 := addNN (a := n + 1 + r.Code.length / 20 + r.Parts.length) (b := r.Others.length) (by omega)
 have lc : V.lenStr (.str r.Code) = some (.int .i64 (r.Code.length : Int)) := rfl
 simp -dsimp [hk, h4', - law08_great.k1, - law08_great.k6]
 simp -dsimp only [law08_great.k6, B.ld_eq, B.pv_some, e1, e3, e4, e5, e6, e7, e8, el1, el2, lc, quo20 n1, b1, b2, b3, b4]
 refine LoopR.intro (fun t vs h2 => h2 = h ∧ ∃ q m : Nat, q + t = r.Parts.length ∧ vs = [.int .i64 (m : Int), .int .i64 (q : Int)] ∧ m < 1000000000000000000 ∧ n + 1 + r.Code.length / 20 + r.Parts.length + r.Others.length ≤ m) r.Parts.length ?_ ⟨rfl, 0, _, by omega, rfl, by omega, Nat.le_refl _⟩
 rintro Z t2 vs h2 ⟨rfl, q, m, ht2, rfl, hm, hle⟩ hZ
 simp -dsimp only [law08_great.l5, law08_great.k4, e1, e4, B.ld_eq, e7, el1, lssN, B.pv_some]
 have hnext : LoopR (law08_great.l3 C N (dn Q) Y x (.int .i64 (k : Int))) [.int .i64 (m : Int), .int .i64 0] h2 := by
  refine LoopR.intro (fun t vs h3 => h3 = h2 ∧ ∃ q m2 : Nat, q + t = r.Others.length ∧ vs = [.int .i64 (m2 : Int), .int .i64 (q : Int)] ∧ m2 < 1000000000000000000 ∧ m ≤ m2) r.Others.length ?_ ⟨rfl, 0, m, by omega, rfl, hm, Nat.le_refl _⟩
  rintro W t3 vs h3 ⟨rfl, q, m2, ht3, rfl, hm2, hle2⟩ hW
  simp -dsimp only [law08_great.l3, law08_great.k2, e1, e5, B.ld_eq, e8, el2, lssN, B.pv_some]
  have hout : Y [.int .i64 (m2 : Int), .int .i64 ((k + 1 : Nat) : Int)] h3 := hY (t - 1) _ _ (by omega) ⟨rfl, k + 1, m2, by omega, rfl, hm2, fun h4k y hy => by
   rw [List.take_add_one, hr, List.mem_append] at hy
   rcases hy with hy | hy
   ·exact hall h4 y hy
   ·have : y = r := by simpa using hy
    rw [this]; omega⟩
  by_cases hq1 : q < r.Others.length
  rotate_left
  ·simp -dsimp [hq1, hk1, - V.bin_add]
   exact hout
  by_cases hq2 : m2 ≤ 4000
  rotate_left
  ·have : ¬ (m2 : Int) ≤ 4000 := by omega
   simp -dsimp [hq1, this, hk1, - V.bin_add]
   exact hout
  have hq2' : (m2 : Int) ≤ 4000 := by omega
  have hg : (r.Others.map tc)[q]? = some (tc r.Others[q]) := by rw [List.getElem?_map, List.getElem?_eq_getElem hq1]; rfl
  have hidx : V.idxS 1 o (.int .i64 (q : Int)) = some (elp 1 o q 0) := a2.idxN (by simpa using hq1)
  have hcell : A.ldv h3 (elp 1 o q 0) = some (.str r.Others[q]) := a2.cell hg
  have n4 := n3 _ (List.getElem_mem hq1)
  have lo : V.lenStr (.str r.Others[q]) = some (.int .i64 (r.Others[q].length : Int)) := rfl
  have b5 := addNN (a := m2) (b := r.Others[q].length / 20) (by omega)
  simp -dsimp [hq1, hq2', - V.bin_add, - V.bin_quo]
  simp -dsimp only [e1, e5, e8, hidx, hcell, lo, quo20 n4, b5, add1 (show q < 4611686018427387904 by omega), B.ld_eq, B.pv_some]
  exact hW (t3 - 1) _ _ (by omega) ⟨rfl, q + 1, _, by omega, rfl, by omega, by omega⟩
 by_cases hq1 : q < r.Parts.length
 rotate_left
 ·simp -dsimp [hq1, - law08_great.l3]
  exact hnext
 by_cases hq2 : m ≤ 4000
 rotate_left
 ·have : ¬ (m : Int) ≤ 4000 := by omega
  simp -dsimp [hq1, this, - law08_great.l3]
  exact hnext
 have hq2' : (m : Int) ≤ 4000 := by omega
 have hg : (r.Parts.map Part.cs)[q]? = some r.Parts[q].cs := by rw [List.getElem?_map, List.getElem?_eq_getElem hq1]; rfl
 have hl : q < (r.Parts.map Part.cs).length := by simpa using hq1
 have g1 : V.idxS 2 p (.int .i64 (q : Int)) = some (elp 2 p q 0) := a1.idxN hl
 have g2 : V.fieldAddr 0 (elp 2 p q 0) = some (elp 2 p q 0) := a1.fieldA hl 0 0
 have g3 : A.ldv h2 (elp 2 p q 0) = some (.str r.Parts[q].Item) := a1.ldv hg (by decide)
 have n4 := n2 _ (List.getElem_mem hq1)
 have lo : V.lenStr (.str r.Parts[q].Item) = some (.int .i64 (r.Parts[q].Item.length : Int)) := rfl
 have b5 := addNN (a := m) (b := r.Parts[q].Item.length / 20) (by omega)
 simp -dsimp [hq1, hq2', - V.bin_add, - V.bin_quo]
 simp -dsimp only [e1, e4, e7, g1, g2, g3, lo, quo20 n4, b5, add1 (show q < 4611686018427387904 by omega), B.ld_eq, B.pv_some]
 exact hZ (t2 - 1) _ _ (by omega) ⟨rfl, q + 1, _, by omega, rfl, by omega, by omega⟩
def threeP (o : AVal) (l : List (List UInt8)) : List (Itm × AVal × AVal) := [(⟨[65], 1, [], l⟩, .nils, o), (⟨[66], 1, [], []⟩, .nils, .nils), (⟨[67], 1, [], []⟩, .nils, .nils)]
def threeL (l : List (List UInt8)) : List Itm := [⟨[65], 1, [], l⟩, ⟨[66], 1, [], []⟩, ⟨[67], 1, [], []⟩]
theorem threeP_at {h : AHeap} {o : AVal} {l : List (List UInt8)} {R : List (List AVal)} (ho : SlX h 1 o (l.map tc) R) (hl : l.length ≤ few) : ∀ p ∈ threeP o l, itemK.at_ h p.1 p.2 := by
 intro p hp
 have hz : ∀ t : Itm, t.Parts = [] → t.Others = [] → itemK.at_ h t (.nils, .nils) := fun t e1 e2 =>
  ⟨⟨[], by rw [e1]; exact SlX.nils h 2⟩, ⟨[], by rw [e2]; exact SlX.nils h 1⟩, by rw [e1]; simp [few], by rw [e2]; simp [few]⟩
 simp only [threeP, List.mem_cons, List.not_mem_nil, or_false] at hp
 rcases hp with rfl | rfl | rfl
 ·exact ⟨⟨[], SlX.nils h 2⟩, ⟨R, ho⟩, by simp [few], hl⟩
 ·exact hz _ rfl rfl
 ·exact hz _ rfl rfl
def law08_three.Spec (C : CSem) (N : Nat → Nat) : Prop := ∀ (o : AVal) (l : List (List UInt8)) (R : List (List AVal)) (h : AHeap) (Q : AVal → AHeap → Prop), SlX h 1 o (l.map tc) R →
 (∀ i h', Owns h h' [.sl 4 (.sl i 0 0 3 4 3) ((threeP o l).map itemK.cs) []] → Q (.sl i 0 0 3 4 3) h') → C (N 360) [o] h Q
theorem law08_three.spec (i : law08_three.Imp C N) : law08_three.Spec C N := by
 intro o l R h Q ho hq
 apply i
 simp -dsimp [ho.isCell, repL]
 exact litO (n := 3) (es := 4) ((threeP o l).map itemK.cs) rfl (fun p hp => by obtain ⟨q, _, rfl⟩ := List.mem_map.1 hp; rfl) rfl fun i h' o1 => dn_same (hq i h' o1)
theorem three_dl {h : AHeap} {x o : AVal} {l : List (List UInt8)} {R R2 : List (List AVal)} (hx : SlX h 4 x ((threeP o l).map itemK.cs) R2) (ho : SlX h 1 o (l.map tc) R) (hl : l.length ≤ few) : Dl itemK h x (threeL l) :=
 ⟨threeP o l, R2, rfl, hx, threeP_at ho hl⟩
theorem three_row : swapRow (threeL [[67], [66]]) [65] = [[65], [67], [66]] := by decide
theorem three_none : swapRow (threeL []) [90] = [] := by decide
theorem three_ok : swapCheck (threeL [[67], [66]]) = 0 := by decide +kernel
theorem three_self : swapCheck (threeL [[65]]) = 4 := by decide +kernel
theorem three_away : swapCheck (threeL [[90]]) = 150 := by decide +kernel
theorem litT {h : AHeap} (L : List (List UInt8)) {cs : List AVal} {n : Nat} {K : Nat → AHeap → Prop} (hc : cs = (L.map tc).flatten) (hn : n = L.length) (hK : ∀ i h', Owns h h' [.sl 1 (.sl i 0 0 n 1 n) (L.map tc) []] → K i h') : B.newO h (some cs) K :=
 litO (L.map tc) hc (by intro p hp; obtain ⟨_, _, rfl⟩ := List.mem_map.1 hp; rfl) (by simpa using hn) hK
def law08_awake.Spec (C : CSem) (N : Nat → Nat) : Prop := ∀ (h : AHeap) (Q : AVal → AHeap → Prop), Q (.bool true) h → C (N 358) [] h Q
theorem law08_awake.spec (i : law08_awake.Imp C N) (s1 : law08_three.Spec C N) (s2 : swap_Row.Spec C N) (s3 : kit_SameTexts.Spec C N) (s4 : swap_Check.Spec C N) : law08_awake.Spec C N := by
 intro h Q hq
 apply i
 simp -dsimp [repL]
 refine litT (n := 2) [[67], [66]] rfl rfl fun i1 h1 o1 => ?_
 refine s1 _ _ _ _ _ (o1.slAt 0 rfl) fun i2 h2 o2 => ?_
 have d2 := three_dl (o2.slAt 0 rfl) ((o1.slAt 0 rfl).mono o2.le) (by simp [few])
 refine s2 _ _ _ _ _ d2 (by simp [threeL]) (by simp [threeL]) fun x3 R3 h3 o3 => ?_
 rw [three_row] at o3
 simp -dsimp [repL]
 refine litT (n := 3) [[65], [67], [66]] rfl rfl fun i4 h4 o4 => ?_
 refine s3 _ _ _ _ _ _ _ _ ((o3.slAt 0 rfl).mono o4.le) (o4.slAt 0 rfl) (by simp) ?_
 simp -dsimp
 refine s1 _ [] [] _ _ (SlX.nils _ 1) fun i5 h5 o5 => ?_
 have d5 := three_dl (l := []) (R := []) (o5.slAt 0 rfl) (SlX.nils _ 1) (by simp [few])
 simp -dsimp
 refine s2 _ _ _ _ _ d5 (by simp [threeL]) (by simp [threeL]) fun x6 R6 h6 o6 => ?_
 rw [three_none] at o6
 have l6 : V.lenSl x6 = some (.int .i64 0) := (o6.slAt 0 rfl).lenSl
 simp -dsimp [l6, repL]
 refine litT (n := 2) [[67], [66]] rfl rfl fun i7 h7 o7 => ?_
 simp -dsimp
 refine s1 _ _ _ _ _ (o7.slAt 0 rfl) fun i8 h8 o8 => ?_
 have d8 := three_dl (o8.slAt 0 rfl) ((o7.slAt 0 rfl).mono o8.le) (by simp [few])
 simp -dsimp
 refine s4 _ _ _ _ d8 (by simp [threeL]) (by simp [threeL]) ?_
 rw [three_ok]
 simp -dsimp [repL]
 refine litT (n := 1) [[65]] rfl rfl fun i9 h9 o9 => ?_
 simp -dsimp
 refine s1 _ _ _ _ _ (o9.slAt 0 rfl) fun j1 g1 p1 => ?_
 have d9 := three_dl (p1.slAt 0 rfl) ((o9.slAt 0 rfl).mono p1.le) (by simp [few])
 simp -dsimp
 refine s4 _ _ _ _ d9 (by simp [threeL]) (by simp [threeL]) ?_
 rw [three_self]
 simp -dsimp [repL]
 refine litT (n := 1) [[90]] rfl rfl fun j2 g2 p2 => ?_
 simp -dsimp
 refine s1 _ _ _ _ _ (p2.slAt 0 rfl) fun j3 g3 p3 => ?_
 have d10 := three_dl (p3.slAt 0 rfl) ((p2.slAt 0 rfl).mono p3.le) (by simp [few])
 simp -dsimp
 refine s4 _ _ _ _ d10 (by simp [threeL]) (by simp [threeL]) ?_
 rw [three_away]
 simp -dsimp
 exact dn_le (AHeap.le_trans o1.le (AHeap.le_trans o2.le (AHeap.le_trans o3.le (AHeap.le_trans o4.le (AHeap.le_trans o5.le (AHeap.le_trans o6.le (AHeap.le_trans o7.le (AHeap.le_trans o8.le (AHeap.le_trans o9.le (AHeap.le_trans p1.le (AHeap.le_trans p2.le p3.le))))))))))) hq
end Go.Ab
namespace Go.Ab
variable {C : CSem} {N : Nat → Nat}
def kit_Pick.Spec (C : CSem) (N : Nat → Nat) : Prop := ∀ (a m : Int) (h : AHeap) (Q : AVal → AHeap → Prop), 0 < m → m ≤ 4611686018427387904 → (∀ n : Int, 0 ≤ n → n < m → Q (.int .i64 n) h) → C (N 155) [.int .i64 a, .int .i64 m] h Q
theorem kit_Pick.spec (i : kit_Pick.Imp C N) : kit_Pick.Spec C N := by
 intro a m h Q h1 h2 hq
 apply i
 have k1 := Int.tmod_lt_of_pos a h1
 have k2 := Int.lt_tmod_of_pos a h1
 have hm : m ≠ 0 := by omega
 simp -dsimp [hm, show ¬ m < 1 by omega]
 refine B.cond_bool (fun hb => ?_) (fun hb => ?_) <;> simp -dsimp at hb ⊢
 ·rw [wrap_i64 (by omega) (by omega)]
  exact dn_same (hq _ (by omega) (by omega))
 ·exact dn_same (hq _ hb k1)
end Go.Ab
set_option maxRecDepth 100000
namespace Go.Ab
variable {C : CSem} {N : Nat → Nat}
theorem SlX.nilElp {h : AHeap} {es : Nat} {x : AVal} {L R : List (List AVal)} (hs : SlX h es x L R) {i f : Nat} (hi : i < L.length) {K : AVal → Prop} (hk : K (elp es x i f)) : B.nilCheck (elp es x i f) K := by
 rcases hs.at_ with ⟨e, _⟩ | ⟨id, g, off, cp, b, hi', rfl, _⟩
 ·rw [e] at hi; simp at hi
 ·exact hk
theorem step_set {α : Type} (f : α → α) {L : List α} {k : Nat} (hk : k < L.length) : (((L.take k).map f ++ L.drop k).set k (f L[k])) = (L.take (k + 1)).map f ++ L.drop (k + 1) := by
 have hl : ((L.take k).map f).length = k := by simp; omega
 rw [List.set_append_right _ _ (by omega), hl, Nat.sub_self, List.drop_eq_getElem_cons hk, List.set_cons_zero, List.take_add_one, List.getElem?_eq_getElem hk, List.map_append]
 simp
def bareP (p : Itm × AVal × AVal) : Itm × AVal × AVal := (bare p.1, (p.2.1, .nils))
theorem bareP_at {h : AHeap} {p : Itm × AVal × AVal} (ha : itemK.at_ h p.1 p.2) : itemK.at_ h (bareP p).1 (bareP p).2 := by
 obtain ⟨a1, _, a3, _⟩ : (∃ R, SlX h 2 p.2.1 (p.1.Parts.map Part.cs) R) ∧ (∃ R, SlX h 1 p.2.2 (p.1.Others.map tc) R) ∧ p.1.ok := ha
 exact ⟨a1, ⟨[], SlX.nils h 1⟩, a3, by simp [bareP, bare, few]⟩
def law08_SwapRows.Spec (C : CSem) (N : Nat → Nat) : Prop := ∀ (x : AVal) (L : List Itm) (n : Int) (h : AHeap) (Q : AVal → AHeap → Prop), Dl itemW h x L → L.length < 4611686018427387904 → (∀ t ∈ L, t.inLen) → Q (.bool true) h → C (N 359) [x, .int .i64 n] h Q
theorem law08_SwapRows.spec (i : law08_SwapRows.Imp C N) (s1 : law08_awake.Spec C N) (s2 : law08_great.Spec C N) (s3 : kit_CopyItems.Spec C N) (s4 : kit_Check.Spec C N) (s5 : swap_Check.Spec C N) (s6 : swap_Row.Spec C N) (s7 : kit_Pick.Spec C N) : law08_SwapRows.Spec C N := by
 intro x L n h Q hx hlen hin hq
 apply i
 simp -dsimp only [law08_SwapRows.cps]
 refine s1 _ _ ?_
 simp -dsimp only [V.un_not, B.pv_some, Bool.not_true, B.cond_false]
 simp -dsimp only [law08_SwapRows.k18]
 refine s2 _ _ _ _ hx hlen hin fun bg hbg => ?_
 cases bg with
 | true =>
  simp -dsimp only [B.cond_true]
  exact dn_same hq
 | false =>
 obtain ⟨hl, hsz⟩ := hbg rfl
 have hx := itemW_K hx fun t ht => by have := hsz t ht; unfold Itm.ok few; omega
 have hof : ∀ t ∈ L, t.Others.length ≤ 10000000 := fun t ht => by have := hsz t ht; omega
 simp -dsimp only [B.cond_false]
 refine s3 _ _ _ _ hx (by omega) fun x1 P h1 e1 o1 => ?_
 have hok1 : ∀ p ∈ P, itemK.ok p.1 := fun p hp => hx.ok _ (by rw [← e1]; exact List.mem_map_of_mem hp)
 have hPl : P.length = L.length := by rw [← e1, List.length_map]
 have o1' : Owns h h1 (itemK.os false P ++ [.sl 4 x1 (P.map itemK.cs) []]) := Owns.perm o1 (List.perm_append_comm (l₁ := [Ob.sl 4 x1 (P.map itemK.cs) []]) (l₂ := itemK.os false P))
 obtain ⟨g1, g2⟩ := o1'.out
 generalize hG : h1.without [Ob.sl 4 x1 (P.map itemK.cs) []] = G at g1 g2
 have hat : ∀ p ∈ P, itemK.at_ G p.1 p.2 := fun p hp => itemK.ofObs (b := false) (hok1 p hp) fun o ho => g1.is o (List.mem_flatMap.2 ⟨p, hp, ho⟩)
 refine LoopR.intro (fun t vs hh => ∃ k : Nat, k + t = P.length ∧ vs = [.int .i64 (k : Int)] ∧ Owns G hh [.sl 4 x1 (((P.take k).map bareP ++ P.drop k).map itemK.cs) []]) P.length ?_ ⟨0, by omega, rfl, by simpa using g2⟩
 rintro Y t vs hh ⟨k, ht, rfl, o⟩ hY
 have hxo := o.slAt 0 rfl
 have hlx : V.lenSl x1 = some (.int .i64 (P.length : Int)) := by
  have := hxo.lenSl
  have e : (((P.take k).map bareP ++ P.drop k).map itemK.cs).length = P.length := by simp; omega
  rw [e] at this; exact this
 simp -dsimp only [law08_SwapRows.l17, law08_SwapRows.k16, hlx, lssN, B.pv_some]
 refine B.cond_bool (fun hb => ?_) (fun hb => ?_)
 ·rw [decide_eq_true_eq] at hb
  have hk' : k < (((P.take k).map bareP ++ P.drop k).map itemK.cs).length := by simp; omega
  have hidx : V.idxS 4 x1 (.int .i64 (k : Int)) = some (elp 4 x1 k 0) := hxo.idxN hk'
  have hfld : V.fieldAddr 3 (elp 4 x1 k 0) = some (elp 4 x1 k 3) := hxo.fieldA hk' 0 3
  have hel : (((P.take k).map bareP ++ P.drop k).map itemK.cs)[k]? = some (itemK.cs P[k]) := by
   rw [List.getElem?_map, List.getElem?_append_right (by simp; omega)]
   simp [show k - min k P.length = 0 by omega, List.getElem?_eq_getElem hb]
  simp -dsimp only [hidx, hfld, B.pv_some]
  refine o.st 0 rfl hel (by omega) rfl fun h3 o3 _ => ?_
  simp -dsimp only [add1 (show k < 4611686018427387904 by omega), B.pv_some]
  refine hY (t - 1) _ _ (by omega) ⟨k + 1, by omega, rfl, ?_⟩
  have e : (((P.take k).map bareP ++ P.drop k).map itemK.cs).set k ((itemK.cs P[k]).set 3 .nils) = ((P.take (k + 1)).map bareP ++ P.drop (k + 1)).map itemK.cs := by
   rw [← step_set bareP hb, List.map_set]; rfl
  rw [← e]; exact o3
 rw [decide_eq_false_iff_not] at hb
 have hk : k = P.length := by omega
 subst hk
 rw [List.take_length, List.drop_length, List.append_nil] at hxo
 have d1 : Dl itemK hh x1 (L.map bare) := ⟨P.map bareP, [], by rw [← e1, List.map_map, List.map_map]; rfl, hxo, fun p hp => by
  obtain ⟨q, hq, rfl⟩ := List.mem_map.1 hp
  exact itemK.mono o.le (bareP_at (hat q hq))⟩
 have hle : h.le hh := AHeap.le_trans g1.le o.le
 have hxx := hx.mono hle
 simp -dsimp only [law08_SwapRows.k15]
 refine s4 _ _ _ _ d1 (by simp; omega) ?_
 refine s4 _ _ _ _ hxx (by omega) ?_
 rw [kitCheck_bare]
 simp -dsimp [- law08_SwapRows.k14]
 refine s5 _ _ _ _ d1 (by simp; omega) (fun t ht => by obtain ⟨u, _, rfl⟩ := List.mem_map.1 ht; simp [bare]) ?_
 simp -dsimp [- law08_SwapRows.k14]
 refine s4 _ _ _ _ hxx (by omega) ?_
 rw [swapCheck_bare]
 simp -dsimp [- law08_SwapRows.k14]
 simp -dsimp only [law08_SwapRows.k14]
 refine s5 _ _ _ _ hxx (by omega) hof ?_
 simp -dsimp only [V.bin_neq, B.pv_some]
 refine B.cond_bool (fun hc => ?_) (fun hc => ?_)
 ·exact dn_le hle hq
 have hsc : swapCheck L = 0 := by simpa using hc
 obtain ⟨hkc, hgood⟩ := swapCheck_zero hsc
 refine LoopR.intro (fun t vs h2 => hh.le h2 ∧ ∃ k : Nat, k + t = L.length ∧ vs = [.int .i64 (k : Int)]) L.length ?_ ⟨AHeap.le_refl _, 0, by omega, rfl⟩
 rintro Y t vs h2 ⟨le2, k, ht, rfl⟩ hY
 have hx2 := hxx.mono le2
 simp -dsimp only [law08_SwapRows.l13, law08_SwapRows.k12, hx2.lenSl, lssN, B.pv_some]
 refine B.cond_bool (fun hd => ?_) (fun hd => ?_)
 ·rw [decide_eq_true_eq] at hd
  obtain ⟨r, hr⟩ := get_lt hd
  have hm := List.mem_of_getElem? hr
  obtain ⟨p, o', e1', e2, e3, e4, e5, e6, e7, e8, ha⟩ := itm_get hx2 hr
  obtain ⟨hg1, hg2, hg3⟩ := hgood r hm
  simp -dsimp only [law08_SwapRows.k11, e1', e3, B.ld_eq, e6, B.pv_some]
  refine s6 _ _ _ _ _ hx2 (by omega) hof fun x3 R3 h3 o3 => ?_
  rw [swapRow_at hsc hm] at o3
  have hx3 := hx2.mono o3.le
  obtain ⟨p3, oo3, f1, f2, f3, f4, f5, f6, f7, f8, ha3⟩ := itm_get hx3 hr
  obtain ⟨_, fl, _⟩ := itm_others ha3
  have s3' := o3.slAt 0 rfl
  have l3 : V.lenSl x3 = some (.int .i64 ((r.Others.length + 1 : Nat) : Int)) := by simpa using s3'.lenSl
  have i0 : V.idxS 1 x3 (.int .i64 0) = some (elp 1 x3 0 0) := s3'.idxN (i := 0) (by simp)
  have v0 : A.ldv h3 (elp 1 x3 0 0) = some (.str r.Code) := s3'.cell (i := 0) rfl
  have a1 : V.bin .add (.int .i64 1) (.int .i64 (r.Others.length : Int)) = some (.int .i64 ((r.Others.length + 1 : Nat) : Int)) := by
   rw [Nat.add_comm]; exact addNN (a := 1) (by omega)
  have g5 : ¬ (5 : Int) < (r.Others.length : Int) + 1 := by omega
  simp -dsimp only [law08_SwapRows.k10, l3, f1, f5, B.ld_eq, f8, fl, a1, B.pv_some, V.bin_neq, decide_true, Bool.not_true]
  simp -dsimp [l3, g5, i0, v0, f1, f3, f6]
  have le3 : hh.le h3 := AHeap.le_trans le2 o3.le
  have hrc : ∀ s ∈ r.Code :: r.Others, s ∈ codesL L := fun s hs => by
   rcases List.mem_cons.1 hs with rfl | hs
   ·exact List.mem_map_of_mem hm
   ·exact hg3 s hs
  have hlen5 : (r.Code :: r.Others).length ≤ 5 := by simp; omega
  refine LoopR.intro (fun t vs h4 => h3.le h4 ∧ ∃ q : Nat, q + t = (r.Code :: r.Others).length ∧ vs = [.int .i64 (q : Int)]) (r.Code :: r.Others).length ?_ ⟨AHeap.le_refl _, 0, by omega, rfl⟩
  rintro Z t2 vs h4 ⟨le4, q, ht2, rfl⟩ hZ
  have s4' := s3'.mono le4
  have get : ∀ {j : Nat} (hj : j < (r.Code :: r.Others).length) {H : AHeap} (hle : h4.le H), V.idxS 1 x3 (.int .i64 (j : Int)) = some (elp 1 x3 j 0) ∧ A.ldv H (elp 1 x3 j 0) = some (.str (r.Code :: r.Others)[j]) := fun {j} hj {H} hle => by
   have hg : ((r.Code :: r.Others).map tc)[j]? = some (tc (r.Code :: r.Others)[j]) := by rw [List.getElem?_map, List.getElem?_eq_getElem hj]; rfl
   exact ⟨s3'.idxN (by simpa using hj), (s4'.mono hle).cell hg⟩
  have lssl : V.bin .lss (.int .i64 (q : Int)) (.int .i64 ((r.Others.length + 1 : Nat) : Int)) = some (.bool (decide (q < r.Others.length + 1))) := lssN
  simp -dsimp only [law08_SwapRows.l9, law08_SwapRows.k8, l3, lssl, B.pv_some]
  refine B.cond_bool (fun he => ?_) (fun he => ?_)
  ·have he : q < (r.Code :: r.Others).length := by simpa using he
   obtain ⟨j1, j2⟩ := get he (AHeap.le_refl _)
   have hx4 := hx3.mono le4
   simp -dsimp only [law08_SwapRows.k7, j1, B.ld_eq, j2, B.pv_some]
   refine s6 _ _ _ _ _ hx4 (by omega) hof fun x5 R5 h5 o5 => ?_
   have l5 := (o5.slAt 0 rfl).lenSl
   rw [List.length_map] at l5
   have hne : ¬ ((swapRow L (r.Code :: r.Others)[q]).length : Int) = 0 := by
    have := swapRow_ne (hrc _ (List.getElem_mem he))
    have : (swapRow L (r.Code :: r.Others)[q]).length ≠ 0 := fun e => this (List.length_eq_zero_iff.1 e)
    omega
   have hne2 : ¬ swapRow L (r.Code :: r.Others)[q] = [] := swapRow_ne (hrc _ (List.getElem_mem he))
   simp -dsimp [l5, hne, hne2, - V.bin_add]
   refine LoopR.intro (fun t vs h6 => h6 = h5 ∧ ∃ m : Nat, m + t = q ∧ vs = [.int .i64 (m : Int)]) q ?_ ⟨rfl, 0, by omega, rfl⟩
   rintro W t3 vs h6 ⟨rfl, m, ht3, rfl⟩ hW
   simp -dsimp only [law08_SwapRows.l6, law08_SwapRows.k5, lssN, B.pv_some]
   refine B.cond_bool (fun hf => ?_) (fun hf => ?_)
   ·rw [decide_eq_true_eq] at hf
    obtain ⟨m1, m2⟩ := get (show m < (r.Code :: r.Others).length by omega) o5.le
    obtain ⟨_, m3⟩ := get he o5.le
    have hnn : (r.Code :: r.Others)[m]'(by omega) ≠ (r.Code :: r.Others)[q] := fun e => by
     have := nodup_get hg2 (List.getElem?_eq_getElem (show m < (r.Code :: r.Others).length by omega)) (by rw [e]; exact List.getElem?_eq_getElem he)
     omega
    simp -dsimp only [m1, m2, j1, m3, B.ld_eq, V.bin_seql, decide_eq_false hnn, B.cond_false, add1 (show m < 4611686018427387904 by omega), B.pv_some]
    exact hW (t3 - 1) _ _ (by omega) ⟨rfl, m + 1, by omega, rfl⟩
   ·simp -dsimp only [add1 (show q < 4611686018427387904 by omega), B.pv_some]
    exact hZ (t2 - 1) _ _ (by omega) ⟨AHeap.le_trans le4 o5.le, q + 1, by omega, rfl⟩
  ·have he : ¬ q < (r.Code :: r.Others).length := by simpa using he
   simp -dsimp only [add1 (show k < 4611686018427387904 by omega), B.pv_some]
   exact hY (t - 1) _ _ (by omega) ⟨AHeap.le_trans le3 le4, k + 1, by omega, rfl⟩
 ·have hle2 : h.le h2 := AHeap.le_trans hle le2
  simp -dsimp only [hx2.lenSl, V.bin_eql, B.pv_some]
  refine B.cond_bool (fun he => ?_) (fun he => ?_)
  ·exact dn_le hle2 hq
  have hpos : 0 < L.length := by
   have : ¬ (L.length : Int) = 0 := by simpa using he
   omega
  simp -dsimp only [law08_SwapRows.k4]
  refine s3 _ _ _ _ hx2 (by omega) fun x3 P3 h3 e3 o3 => ?_
  simp -dsimp only [hx2.lenSl, B.pv_some]
  refine s7 _ _ _ _ (by omega) (by omega) fun j hj0 hj1 => ?_
  obtain ⟨jn, rfl⟩ : ∃ jn : Nat, j = jn := ⟨j.toNat, by omega⟩
  have hjL : jn < L.length := by omega
  have hP3l : P3.length = L.length := by rw [← e3, List.length_map]
  have hok3 : ∀ p ∈ P3, itemK.ok p.1 := fun p hp => hx.ok _ (by rw [← e3]; exact List.mem_map_of_mem hp)
  have hj3 : jn < P3.length := by omega
  have hLj : L[jn]? = some P3[jn].1 := by rw [← e3, List.getElem?_map, List.getElem?_eq_getElem hj3]; rfl
  obtain ⟨A0, hA0⟩ : ∃ A0, A0 = P3.take jn := ⟨_, rfl⟩
  obtain ⟨B0, hB0⟩ : ∃ B0, B0 = P3.drop (jn + 1) := ⟨_, rfl⟩
  obtain ⟨p, hp⟩ : ∃ p, p = P3[jn] := ⟨_, rfl⟩
  rw [← hp] at hLj
  have hP3 : P3 = A0 ++ p :: B0 := by
   rw [hA0, hB0, hp, ← List.drop_eq_getElem_cons hj3, List.take_append_drop]
  have hAl : A0.length = jn := by rw [hA0, List.length_take]; omega
  have hpm : p ∈ P3 := by rw [hp]; exact List.getElem_mem hj3
  have hos : itemK.os false P3 = itemK.os false A0 ++ ([partsOb false p.2.1 p.1.Parts, textsOb false p.2.2 p.1.Others] ++ itemK.os false B0) := by
   rw [hP3, DK.os_append]
   simp only [DK.os, List.flatMap_cons]; rfl
  have hperm : List.Perm (.sl 4 x3 (P3.map itemK.cs) [] :: itemK.os false P3) ((.sl 4 x3 (P3.map itemK.cs) [] :: (itemK.os false A0 ++ (partsOb false p.2.1 p.1.Parts :: itemK.os false B0))) ++ [textsOb false p.2.2 p.1.Others]) := by
   rw [hos]
   show List.Perm _ (.sl 4 x3 (P3.map itemK.cs) [] :: ((itemK.os false A0 ++ (partsOb false p.2.1 p.1.Parts :: itemK.os false B0)) ++ [textsOb false p.2.2 p.1.Others]))
   rw [List.append_assoc]
   refine List.Perm.cons _ (List.Perm.append_left _ ?_)
   refine List.Perm.cons _ ?_
   exact List.perm_append_comm (l₁ := [textsOb false p.2.2 p.1.Others])
  obtain ⟨q1, q2⟩ := (Owns.perm o3 hperm).out
  generalize hG3 : h3.without [textsOb false p.2.2 p.1.Others] = G3 at q1 q2
  have q2 : Owns G3 h3 [.sl 1 p.2.2 (p.1.Others.map tc) []] := q2
  have sx : SlX G3 4 x3 (P3.map itemK.cs) [] := q1.is _ (List.mem_cons_self ..)
  have hlj : jn < (P3.map itemK.cs).length := by simpa using hj3
  have hidx : V.idxS 4 x3 (.int .i64 (jn : Int)) = some (elp 4 x3 jn 0) := sx.idxN hlj
  have hfld : V.fieldAddr 3 (elp 4 x3 jn 0) = some (elp 4 x3 jn 3) := sx.fieldA hlj 0 3
  have hcs : (P3.map itemK.cs)[jn]? = some (itemK.cs p) := by rw [List.getElem?_map, List.getElem?_eq_getElem hj3, hp]; rfl
  have ldf : ∀ {H : AHeap}, G3.le H → A.ldv H (elp 4 x3 jn 3) = some p.2.2 := fun {H} hle => (sx.mono hle).ldv hcs (f := 3) (by omega)
  have hol : p.1.Others.length ≤ 4000 := (hsz p.1 (List.mem_of_getElem? hLj)).2
  have hlo : V.lenSl p.2.2 = some (.int .i64 (p.1.Others.length : Int)) := by simpa using (q2.slAt 0 rfl).lenSl
  have hsub : V.bin .sub (.int .i64 (p.1.Others.length : Int)) (.int .i64 1) = some (.int .i64 ((p.1.Others.length : Int) - 1 - ((0 : Nat) : Int))) := by
   rw [V.bin_sub, wrap_i64 (by omega) (by omega)]; congr 2; omega
  simp -dsimp only [hidx, B.pv_some, law08_SwapRows.k3]
  refine sx.nilElp hlj ?_
  simp -dsimp only [hfld, B.ld_eq, ldf q2.le, hlo, hsub, B.pv_some]
  refine LoopR.intro (fun t vs hh => ∃ (a : Nat) (M : List (List UInt8)), a + t = p.1.Others.length ∧ vs = [.int .i64 (a : Int), .int .i64 ((p.1.Others.length : Int) - 1 - (a : Int))] ∧ M.Perm p.1.Others ∧ Owns G3 hh [.sl 1 p.2.2 (M.map tc) []]) p.1.Others.length ?_ ⟨0, p.1.Others, by omega, rfl, List.Perm.refl _, q2⟩
  rintro Z t2 vs h4 ⟨a, M, ht2, rfl, hM, o4⟩ hZ
  have hMl := hM.length_eq
  simp -dsimp only [law08_SwapRows.l2, law08_SwapRows.k1, V.bin_lss, B.pv_some]
  refine B.cond_bool (fun hf => ?_) (fun hf => ?_)
  ·have hf : (a : Int) < (p.1.Others.length : Int) - 1 - (a : Int) := by simpa using hf
   obtain ⟨b, hb⟩ : ∃ b : Nat, (p.1.Others.length : Int) - 1 - (a : Int) = (b : Int) := ⟨p.1.Others.length - 1 - a, by omega⟩
   rw [hb]
   have ha' : a < M.length := by omega
   have hb' : b < M.length := by omega
   have sM := o4.slAt 0 rfl
   have get : ∀ {j : Nat} (hj : j < M.length), V.idxS 1 p.2.2 (.int .i64 (j : Int)) = some (elp 1 p.2.2 j 0) ∧ A.ldv h4 (elp 1 p.2.2 j 0) = some (.str M[j]) := fun {j} hj => by
    have hg : (M.map tc)[j]? = some (tc M[j]) := by rw [List.getElem?_map, List.getElem?_eq_getElem hj]; rfl
    exact ⟨sM.idxN (by simpa using hj), sM.cell hg⟩
   obtain ⟨ia, va⟩ := get ha'
   obtain ⟨ib, vb⟩ := get hb'
   refine sx.nilElp hlj ?_
   simp -dsimp only [hfld, B.ld_eq, ldf o4.le, B.pv_some]
   refine sx.nilElp hlj ?_
   simp -dsimp only [hfld, B.ld_eq, ldf o4.le, B.pv_some]
   refine sx.nilElp hlj ?_
   simp -dsimp only [hfld, B.ld_eq, ldf o4.le, ib, vb, B.pv_some]
   refine sx.nilElp hlj ?_
   simp -dsimp only [hfld, B.ld_eq, ldf o4.le, ia, va, B.pv_some]
   refine o4.st 0 rfl (c := tc M[a]) (by rw [List.getElem?_map, List.getElem?_eq_getElem ha']; rfl) (by omega) rfl fun h5 o5 _ => ?_
   have o5 : Owns G3 h5 [.sl 1 p.2.2 ((M.set a M[b]).map tc) []] := by
    have : (M.map tc).set a ((tc M[a]).set 0 (.str M[b])) = (M.set a M[b]).map tc := by rw [List.map_set]; rfl
    rw [← this]; exact o5
   simp -dsimp only [ib, B.pv_some]
   refine o5.st 0 rfl (c := tc ((M.set a M[b])[b]'(by simpa using hb'))) (by rw [List.getElem?_map, List.getElem?_eq_getElem (by simpa using hb')]; rfl) (by omega) rfl fun h6 o6 _ => ?_
   have o6 : Owns G3 h6 [.sl 1 p.2.2 ((swp M a b ha' hb').map tc) []] := by
    have : ((M.set a M[b]).map tc).set b ((tc ((M.set a M[b])[b]'(by simpa using hb'))).set 0 (.str M[a])) = (swp M a b ha' hb').map tc := (List.map_set (f := tc) (l := M.set a M[b]) (i := b) (a := M[a])).symm
    rw [← this]; exact o6
   have hb1 : V.bin .sub (.int .i64 (b : Int)) (.int .i64 1) = some (.int .i64 ((p.1.Others.length : Int) - 1 - ((a + 1 : Nat) : Int))) := by
    rw [V.bin_sub, wrap_i64 (by omega) (by omega)]; congr 2; omega
   simp -dsimp only [add1 (show a < 4611686018427387904 by omega), hb1, B.pv_some]
   exact hZ (t2 - 1) _ _ (by omega) ⟨a + 1, _, by omega, rfl, (swp_perm ha' hb').trans hM, o6⟩
  ·have e5 : (A0 ++ (⟨p.1.Code, p.1.Life, p.1.Parts, M⟩, p.2) :: B0).map itemK.cs = P3.map itemK.cs := by rw [hP3, List.map_append, List.map_append]; rfl
   have e6 : (A0 ++ (⟨p.1.Code, p.1.Life, p.1.Parts, M⟩, p.2) :: B0).map (·.1) = L.set jn ⟨p.1.Code, p.1.Life, p.1.Parts, M⟩ := by
    rw [← e3, hP3, List.map_append, List.map_append, List.set_append_right _ _ (by simp; omega)]
    simp [hAl]
   have hin1 : ∀ o, o ∈ itemK.os false A0 ∨ o = partsOb false p.2.1 p.1.Parts ∨ o ∈ itemK.os false B0 → o ∈ (.sl 4 x3 (P3.map itemK.cs) [] :: (itemK.os false A0 ++ (partsOb false p.2.1 p.1.Parts :: itemK.os false B0))) := fun o ho => by
    rcases ho with h | h | h <;> simp [h]
   have d5 : Dl itemK h4 x3 (L.set jn ⟨p.1.Code, p.1.Life, p.1.Parts, M⟩) := by
    refine ⟨_, [], e6, by rw [e5]; exact sx.mono o4.le, fun q hq => ?_⟩
    rw [List.mem_append, List.mem_cons] at hq
    rcases hq with hq | rfl | hq
    ·refine itemK.mono o4.le (itemK.ofObs (b := false) (hok3 q (by rw [hP3]; simp [hq])) fun o ho => q1.is o (hin1 o (.inl (List.mem_flatMap.2 ⟨q, hq, ho⟩))))
    ·have hpo := hok3 p hpm
     refine ⟨⟨[], ?_⟩, ⟨[], o4.slAt 0 rfl⟩, hpo.1, by show M.length ≤ few; rw [hMl]; exact hpo.2⟩
     exact SlX.mono (show SlX G3 2 p.2.1 (p.1.Parts.map Part.cs) [] from q1.is (partsOb false p.2.1 p.1.Parts) (hin1 _ (.inr (.inl rfl)))) o4.le
    ·refine itemK.mono o4.le (itemK.ofObs (b := false) (hok3 q (by rw [hP3]; simp [hq])) fun o ho => q1.is o (hin1 o (.inr (.inr (List.mem_flatMap.2 ⟨q, hq, ho⟩)))))
   refine s5 _ _ _ _ d5 (by simp; omega) (fun u hu => ?_) ?_
   ·rcases List.mem_or_eq_of_mem_set hu with hu | rfl
    ·exact hof u hu
    ·show M.length ≤ _; omega
   rw [swapCheck_turn hLj hM hsc]
   simp -dsimp
   exact dn_le (AHeap.le_trans hle2 (AHeap.le_trans q1.le o4.le)) hq
end Go.Ab
