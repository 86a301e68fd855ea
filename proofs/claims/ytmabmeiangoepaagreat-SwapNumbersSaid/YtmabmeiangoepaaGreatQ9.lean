/- What is proved: a part of the way to the statement: SrtO. No conditions. -/
import Derived.Test.YtmabmeiangoepaaGreatQ8
import Derived.KernelRfl
import Derived.Test.YtmabmeiangoepaaGreatQ6
import Derived.Test.YtmabmeiangoepaaGreatQ7
import Derived.Test.YtmabmeiangoepaaGreatQ3
set_option linter.unusedVariables false
set_option linter.unusedSimpArgs false
namespace Go.Ab.Ord
open Go.Ab
structure zev (C : CSem) {X : Type} (v : X → AVal) (c : X → X → Int) (fL : Nat) (h0 : zb) : Prop where
 call : ∀ (h : zb) (a b : X) (K : AVal → zb → Prop), h0.le h → K (.bool (decide (c a b < 0))) h → B.call C fL [v a, v b] h K
variable {C C0 : CSem} {fL : Nat}
variable {C C0 : CSem} {fL : Nat} {N : Nat → Nat}
section
variable {E : z5} {X : Type} {cs : X → List AVal} {v : X → AVal} {h0 h : zb} {x : AVal} {G : List X} {R : List (List AVal)}
end
section
variable {E : z5} {T : Type} {cs : T → List AVal} {v : T → AVal} {c : T → T → Int} {h0 h : zb} {x f : AVal} {R : List (List AVal)} {Q : AVal → zb → Prop}
theorem zns (S : zd9 E cs v) (W : Weak (zey c)) {P M U : List (T × Nat)} (hlen : (P ++ (M ++ U)).length ≤ 100000000) (ht : M.Pairwise fun a b => a.2 < b.2)
  (hc : zev C0 v c fL h0) {a b : Nat} (ha : a = P.length) (hb : b = P.length + M.length) (ho : Rw E (fun p : T × Nat => cs p.1) h0 h x (P ++ (M ++ U)) R)
  (hq : ∀ h' M', M'.Perm M → M'.Pairwise (lt' (zey c)) → Rw E (fun p : T × Nat => cs p.1) h0 h' x (P ++ (M' ++ U)) R → Q (.tup []) h') :
  zcs.cps C E C0 fL x (.int .i64 (a : Int)) (.int .i64 (b : Int)) f h Q := by
 have S' := S.comp (fun p : T × Nat => p.1)
 subst ha
 have hlen' : P.length + M.length + U.length ≤ 100000000 := by simpa [Nat.add_assoc] using hlen
 simp -dsimp only [zcs.cps, add1 (show P.length < 4611686018427387904 by omega), B.zg]
 cases M with
 | nil =>
  intro Y hY
  refine hY _ _ ?_
  simp -dsimp only [zcs.l3, lssN, B.zg]
  rw [show decide (P.length + 1 < b) = false by simp at hb ⊢; omega, B.cond_false]
  exact hq h [] (List.Perm.refl _) .nil ho
 | cons m M1 =>
 simp only [List.length_cons] at hlen' hb
 rw [List.pairwise_cons] at ht
 refine zd.intro (fun t vs hh => ∃ (i : Nat) (L M2 : List (T × Nat)), t = M2.length ∧ vs = [.int .i64 i] ∧ i = P.length + L.length ∧ i + M2.length = b ∧ Rw E (fun p : T × Nat => cs p.1) h0 hh x (P ++ (L ++ (M2 ++ U))) R ∧
  (L ++ M2).Perm (m :: M1) ∧ L.Pairwise (lt' (zey c)) ∧ M2.Pairwise (fun a b => a.2 < b.2) ∧ ∀ p ∈ L, ∀ q ∈ M2, p.2 < q.2) M1.length ?_
  ⟨P.length + 1, [m], M1, rfl, rfl, by simp, by omega, by simpa using ho, List.Perm.refl _, List.pairwise_singleton .., ht.2, by simpa using ht.1⟩
 rintro Y t vs hh ⟨i, L, M2, rfl, rfl, hi, hib, o, hp, hs, ht2, htt⟩ hY
 simp -dsimp only [zcs.l3, lssN, B.zg]
 cases M2 with
 | nil =>
  rw [show decide (i < b) = false by simp at hib ⊢; omega, B.cond_false]
  rw [List.append_nil] at hp
  exact hq hh L hp hs o
 | cons x0 M2 =>
  simp only [List.length_cons] at hib
  rw [show decide (i < b) = true by simp; omega, B.cond_true]
  rw [List.pairwise_cons] at ht2
  have hll : P.length + (L.length + (M2.length + 1)) = b := by omega
  refine zd.intro (fun t vs h2 => ∃ (L1 L2 : List (T × Nat)), t = L1.length ∧ vs = [.int .i64 ((P.length + L1.length : Nat) : Int)] ∧ L = L1 ++ L2 ∧ Rw E (fun p : T × Nat => cs p.1) h0 h2 x (P ++ (L1 ++ x0 :: (L2 ++ (M2 ++ U)))) R ∧
   ∀ q ∈ L2, lt' (zey c) x0 q) L.length ?_ ⟨L, [], rfl, by rw [hi], by simp, by simpa using o, by simp⟩
  rintro Z t vs h2 ⟨L1, L2, rfl, rfl, rfl, o2, hx⟩ hZ
  rw [List.pairwise_append] at hs
  have fin : (L1 = [] ∨ ∃ L0 y, L1 = L0 ++ [y] ∧ lt' (zey c) y x0) → Y [.int .i64 ((i + 1 : Nat) : Int)] h2 := fun hz => by
   have hlow : ∀ p ∈ L1, lt' (zey c) p x0 := by
    rcases hz with rfl | ⟨L0, y, rfl, hy⟩
    ·simp
    ·intro p hpm
     rcases List.mem_append.1 hpm with h1 | h1
     ·exact lt'_trans W ((List.pairwise_append.1 hs.1).2.2 p h1 y (by simp)) hy
     ·rw [List.mem_singleton.1 h1]; exact hy
   refine hY M2.length _ _ (by simp) ⟨i + 1, L1 ++ x0 :: L2, M2, rfl, rfl, by simp at hi ⊢; omega, by omega, by simpa using o2, ?_, ?_, ht2.2, ?_⟩
   ·refine List.Perm.trans ?_ hp
    simp only [List.append_assoc, List.cons_append]
    refine List.Perm.append_left _ ?_
    exact (List.perm_middle (l₁ := L2) (l₂ := M2) (a := x0)).symm
   ·rw [List.pairwise_append, List.pairwise_cons]
    refine ⟨hs.1, ⟨hx, hs.2.1⟩, fun p h1 q h2 => ?_⟩
    rcases List.mem_cons.1 h2 with rfl | h2
    ·exact hlow p h1
    ·exact hs.2.2 p h1 q h2
   ·intro p h1 q h2
    rcases List.mem_append.1 h1 with h1 | h1
    ·exact htt p (List.mem_append_left _ h1) q (List.mem_cons_of_mem _ h2)
    ·rcases List.mem_cons.1 h1 with rfl | h1
     ·exact ht2.1 q h2
     ·exact htt p (List.mem_append_right _ h1) q (List.mem_cons_of_mem _ h2)
  have hll2 : i = P.length + (L1.length + L2.length) := by simpa using hi
  simp -dsimp only [zcs.l2, zcs.k1, gtrN, B.zg]
  obtain rfl | ⟨L0, y, rfl⟩ := nil_or_snoc L1
  ·simp -dsimp [add1 (show i < 4611686018427387904 by omega)]
   exact fin (.inl rfl)
  ·have hyx : y.2 < x0.2 := htt y (by simp) x0 (by simp)
   have o2' := o2
   simp only [List.append_assoc, List.cons_append, List.nil_append] at o2'
   simp only [List.length_append, List.length_singleton] at hll2 hlen' hll
   have hj : P.length + (L0 ++ [y]).length = P.length + L0.length + 1 := by simp [Nat.add_assoc]
   rw [show decide (P.length < P.length + (L0 ++ [y]).length) = true by simp]
   rw [hj]
   simp -dsimp only [B.gd_t, B.zpx, B.zec, zon, sub1 (show 1 ≤ P.length + L0.length + 1 by omega) (by omega), Nat.add_sub_cancel, o2.idx (i := P.length + L0.length + 1) (by simp; omega), o2.idx (i := P.length + L0.length) (by simp), B.zg]
   have o3 : Rw E (fun p : T × Nat => cs p.1) h0 h2 x ((P ++ L0) ++ y :: ([] ++ x0 :: (L2 ++ (M2 ++ U)))) R := by simpa using o2
   have gy : ((P ++ L0) ++ y :: ([] ++ x0 :: (L2 ++ (M2 ++ U))))[P.length + L0.length]? = some y := get_mid (by simp)
   have gx : ((P ++ L0) ++ y :: ([] ++ x0 :: (L2 ++ (M2 ++ U))))[P.length + L0.length + 1]? = some x0 := get_mid2 (by simp)
   refine o3.ld S' gx ?_
   refine o3.ld S' gy ?_
   refine hc.call _ _ _ _ o2.le ?_
   simp -dsimp only [B.gd_t, B.zpx, B.zec, zon, V.zfq, B.zg, B.zh2]
   refine B.zn (fun hb2 => ?_) (fun hb2 => ?_)
   ·simp -dsimp only [sub1 (show 1 ≤ P.length + L0.length + 1 by omega) (by omega), Nat.add_sub_cancel, o2.idx (i := P.length + L0.length + 1) (by simp; omega), o2.idx (i := P.length + L0.length) (by simp), B.zg]
    refine o3.ld S' gy ?_
    refine o3.ld S' gx ?_
    refine o3.swapDn S' (by simp) (by simp) fun h4 o4 => ?_
    refine hZ L0.length _ _ (by simp) ⟨L0, y :: L2, rfl, rfl, by simp, by simpa using o4, ?_⟩
    intro q hq2
    rcases List.mem_cons.1 hq2 with rfl | hq2
    ·exact (lt'_gt hyx).2 hb2
    ·exact hx q hq2
   ·simp -dsimp only [add1 (show i < 4611686018427387904 by omega), B.zg]
    exact fin (.inr ⟨L0, y, rfl, (lt'_le W hyx).2 hb2⟩)
end
section
variable {E : z5} {X : Type} {cs : X → List AVal} {v : X → AVal} {h0 h : zb} {x f : AVal} {G : List X} {R : List (List AVal)} {c : X → X → Int}
theorem zmv (S : zd9 E cs v) (hx : SlX h0 E.es x (G.map cs) R) (hc : zev C0 v c fL h0) {p : AVal} {n : Int} (ho : Owns h0 h [.box p [.int .i64 n]]) {i j : Nat} (hi : i < G.length) (hj : j < G.length) {Q : AVal → zb → Prop}
  (hq : ∀ (i' j' : Nat) (n' : Int) h', (i' = i ∨ i' = j) → (j' = i ∨ j' = j) → Owns h0 h' [.box p [.int .i64 n']] → Q (.tup [.int .i64 (i' : Int), .int .i64 (j' : Int)]) h') : zfo.cps C E C0 fL x (.int .i64 (i : Int)) (.int .i64 (j : Int)) p f h Q := by
 have hxx := hx.mono ho.le
 have ii : V.idxS E.es x (.int .i64 (i : Int)) = some (elp E.es x i 0) := hxx.idxN (by simpa using hi)
 have ij : V.idxS E.es x (.int .i64 (j : Int)) = some (elp E.es x j 0) := hxx.idxN (by simpa using hj)
 have gi : (G.map cs)[i]? = some (cs G[i]) := by rw [List.getElem?_map, List.getElem?_eq_getElem hi]; rfl
 have gj : (G.map cs)[j]? = some (cs G[j]) := by rw [List.getElem?_map, List.getElem?_eq_getElem hj]; rfl
 obtain ⟨id, rfl, hb⟩ := ho.zrq 0 rfl
 have ld : A.ldv h (.ptr id 0 0) = some (.int .i64 n) := by rw [zjr hb]; rfl
 simp -dsimp only [zfo.cps, zfo.k1, ij, B.zg]
 refine S.ld hxx gj ?_
 simp -dsimp only [ii, B.zg]
 refine S.ld hxx gi ?_
 refine hc.call _ _ _ _ ho.le ?_
 refine B.zn (fun hd => ?_) (fun hd => ?_)
 ·simp -dsimp only [B.zhr, B.zg9, ld, V.zdi, B.zg]
  refine ho.boxSt 0 (off := 0) rfl rfl (by simp) fun h2 o2 _ => ?_
  exact hq j i _ h2 (.inr rfl) (.inl rfl) (by simpa using o2)
 ·exact hq i j n h (.inl rfl) (.inr rfl) ho
abbrev O2I (C : CSem) (E : z5) (C0 : CSem) (fL : Nat) (f1 : Nat) : Prop := ∀ (v0 v1 v2 v3 v4 : AVal) (h : zb) (Q : AVal → zb → Prop), zfo.cps C E C0 fL v0 v1 v2 v3 v4 h (dn Q) → C f1 [v0, v1, v2, v3, v4] h Q
abbrev MedI (C : CSem) (E : z5) (C0 : CSem) (fL : Nat) (f1 f2 : Nat) : Prop := ∀ (v0 v1 v2 v3 v4 v5 : AVal) (h : zb) (Q : AVal → zb → Prop), zfp.cps C E C0 fL f1 v0 v1 v2 v3 v4 v5 h (dn Q) → C f2 [v0, v1, v2, v3, v4, v5] h Q
abbrev AdjI (C : CSem) (E : z5) (C0 : CSem) (fL : Nat) (f2 f3 : Nat) : Prop := ∀ (v0 v1 v2 v3 : AVal) (h : zb) (Q : AVal → zb → Prop), zeb.cps C E C0 fL f2 v0 v1 v2 v3 h (dn Q) → C f3 [v0, v1, v2, v3] h Q
theorem zmy {f1 : Nat} (io : O2I C E C0 fL f1) (S : zd9 E cs v) (hx : SlX h0 E.es x (G.map cs) R) (hc : zev C0 v c fL h0) {p : AVal} {n : Int} (ho : Owns h0 h [.box p [.int .i64 n]]) {i j k : Nat} (hi : i < G.length) (hj : j < G.length) (hk : k < G.length) {Q : AVal → zb → Prop}
  (hq : ∀ (m : Nat) (n' : Int) h', (m = i ∨ m = j ∨ m = k) → Owns h0 h' [.box p [.int .i64 n']] → Q (.int .i64 (m : Int)) h') : zfp.cps C E C0 fL f1 x (.int .i64 (i : Int)) (.int .i64 (j : Int)) (.int .i64 (k : Int)) p f h Q := by
 simp -dsimp only [zfp.cps, zfp.k1]
 refine io _ _ _ _ _ _ _ (zmv S hx hc ho hi hj fun a b n1 h1 ha hb o1 => zbj ?_)
 simp -dsimp only [V.zq8, List.getElem?_cons_zero, List.getElem?_cons_succ, B.zg]
 have la : a < G.length := by rcases ha with rfl | rfl <;> assumption
 have lb : b < G.length := by rcases hb with rfl | rfl <;> assumption
 refine io _ _ _ _ _ _ _ (zmv S hx hc o1 lb hk fun a2 b2 n2 h2 ha2 hb2 o2 => zbj ?_)
 simp -dsimp only [V.zq8, List.getElem?_cons_zero, List.getElem?_cons_succ, B.zg]
 have la2 : a2 < G.length := by rcases ha2 with rfl | rfl <;> assumption
 refine io _ _ _ _ _ _ _ (zmv S hx hc o2 la la2 fun a3 b3 n3 h3 ha3 hb3 o3 => zbj ?_)
 simp -dsimp only [V.zq8, List.getElem?_cons_zero, List.getElem?_cons_succ, B.zg]
 refine hq b3 n3 h3 ?_ o3
 omega
theorem zgx {f1 f2 : Nat} (io : O2I C E C0 fL f1) (im : MedI C E C0 fL f1 f2) (S : zd9 E cs v) (hx : SlX h0 E.es x (G.map cs) R) (hc : zev C0 v c fL h0) {p : AVal} {n : Int} (ho : Owns h0 h [.box p [.int .i64 n]]) {i : Nat} (hi : 0 < i) (hi2 : i + 1 < G.length) (hl : G.length < 4611686018427387904) {Q : AVal → zb → Prop}
  (hq : ∀ (m : Nat) (n' : Int) h', i - 1 ≤ m → m ≤ i + 1 → Owns h0 h' [.box p [.int .i64 n']] → Q (.int .i64 (m : Int)) h') : zeb.cps C E C0 fL f2 x (.int .i64 (i : Int)) p f h Q := by
 have e1 : V.bin .sub (.int .i64 (i : Int)) (.int .i64 1) = some (.int .i64 ((i - 1 : Nat) : Int)) := by
  rw [V.zfk, wrap_i64 (by omega) (by omega)]; congr 2; omega
 simp -dsimp only [zeb.cps, zeb.k1, e1, add1 (show i < 4611686018427387904 by omega), B.zg]
 exact im _ _ _ _ _ _ _ _ (zmy io S hx hc ho (by omega) (by omega) hi2 fun m n' h' hm o' => zbj (hq m n' h' (by omega) (by omega) o'))
theorem zn8 (S : zd9 E cs v) (hl : G.length < 4611686018427387904) (ho : Rw E cs h0 h x G R) {a b : Nat} (hab : a < b) (hb : b ≤ G.length) {Q : AVal → zb → Prop} (hq : ∀ h' G', zda a b G G' → Rw E cs h0 h' x G' R → Q (.tup []) h') :
  zdu.cps C E C0 fL x (.int .i64 (a : Int)) (.int .i64 (b : Int)) f h Q := by
 have e1 : V.bin .sub (.int .i64 (b : Int)) (.int .i64 1) = some (.int .i64 ((b - 1 : Nat) : Int)) := by
  rw [V.zfk, wrap_i64 (by omega) (by omega)]; congr 2; omega
 simp -dsimp only [zdu.cps, e1, B.zg]
 refine zd.intro (fun t vs hh => ∃ (i j : Nat) (G' : List X), t = j ∧ vs = [.int .i64 (i : Int), .int .i64 (j : Int)] ∧ a ≤ i ∧ j < b ∧ zda a b G G' ∧ Rw E cs h0 hh x G' R) (b - 1) ?_ ⟨a, b - 1, G, rfl, rfl, Nat.le_refl _, by omega, zda.refl _ _ _, ho⟩
 rintro Y j vs hh ⟨i, _, G', rfl, rfl, hi, hj, W, o⟩ hY
 simp -dsimp only [zdu.l2, zdu.k1, lssN, B.zg]
 have hlen := W.len
 refine B.zn (fun hc => ?_) (fun hc => hq hh G' W o)
 rw [decide_eq_true_eq] at hc
 have li : i < G'.length := by omega
 have lj : j < G'.length := by omega
 simp -dsimp only [o.idx lj, B.zg]
 refine o.ld S (List.getElem?_eq_getElem lj) ?_
 simp -dsimp only [o.idx li, B.zg]
 refine o.ld S (List.getElem?_eq_getElem li) ?_
 have ij := o.idx lj
 refine o.st S (t := G'[j]) li fun h1 o1 => ?_
 simp -dsimp only [ij, B.zg]
 refine o1.st S (t := G'[i]) (by simpa using lj) fun h2 o2 => ?_
 have e2 : V.bin .sub (.int .i64 (j : Int)) (.int .i64 1) = some (.int .i64 ((j - 1 : Nat) : Int)) := by
  rw [V.zfk, wrap_i64 (by omega) (by omega)]; congr 2; omega
 simp -dsimp only [add1 (show i < 4611686018427387904 by omega), e2, B.zg]
 exact hY (j - 1) _ _ (by omega) ⟨i + 1, j - 1, _, rfl, rfl, by omega, by omega, W.trans (ze3 li lj hi (by omega) (by omega) hj), o2⟩
theorem zpn {f1 f2 f3 : Nat} (io : O2I C E C0 fL f1) (im : MedI C E C0 fL f1 f2) (ia : AdjI C E C0 fL f2 f3) (S : zd9 E cs v) (hx : SlX h E.es x (G.map cs) R) (h0le : h0.le h) (hc : zev C0 v c fL h0) (hl : G.length ≤ 100000000) {a b : Nat} (hab : a + 8 ≤ b) (hb : b ≤ G.length) {Q : AVal → zb → Prop}
  (hq : ∀ (m : Nat) (hint : Int) h', a ≤ m → m < b → h.le h' → Q (.tup [.int .i64 (m : Int), .int .i64 hint]) h') : zbk.cps C E C0 fL f2 f3 x (.int .i64 (a : Int)) (.int .i64 (b : Int)) f h Q := by
 have e1 := zih (a := b) (b := a) (by omega) (by omega)
 simp -dsimp only [zbk.cps, e1, B.zg]
 intro id hid
 have o := (Owns.start h).zr2 hid [.int .i64 0]
 simp only [List.nil_append] at o
 have q4 := quo4 (a := b - a) (by omega)
 have m1 := mulN (a := (b - a) / 4) (b := 1) (by omega)
 have m2 := mulN (a := (b - a) / 4) (b := 2) (by omega)
 have m3 := mulN (a := (b - a) / 4) (b := 3) (by omega)
 have a1 := zke (a := a) (b := (b - a) / 4 * 1) (by omega)
 have a2 := zke (a := a) (b := (b - a) / 4 * 2) (by omega)
 have a3 := zke (a := a) (b := (b - a) / 4 * 3) (by omega)
 have g8 : V.bin .geq (.int .i64 ((b - a : Nat) : Int)) (.int .i64 8) = some (.bool true) := by rw [V.zk1, decide_eq_true (by omega)]
 have hc' : zev C0 v c fL h := ⟨fun h2 s t K hle hk => hc.call h2 s t K (zb.le_trans h0le hle) hk⟩
 simp -dsimp only [zbk.k6, zbk.k5, zbk.k4, zbk.k3, q4, B.zg]
 have m1' : V.bin .mul (.int .i64 (((b - a) / 4 : Nat) : Int)) (.int .i64 1) = some (.int .i64 (((b - a) / 4 * 1 : Nat) : Int)) := m1
 have m2' : V.bin .mul (.int .i64 (((b - a) / 4 : Nat) : Int)) (.int .i64 2) = some (.int .i64 (((b - a) / 4 * 2 : Nat) : Int)) := m2
 have m3' : V.bin .mul (.int .i64 (((b - a) / 4 : Nat) : Int)) (.int .i64 3) = some (.int .i64 (((b - a) / 4 * 3 : Nat) : Int)) := m3
 simp -dsimp only [q4, m1', m2', m3', a1, a2, a3, g8, B.cond_true, zbk.k5, zbk.k4, zbk.k3, zbk.k2, B.zg]
 have fin : ∀ (m : Nat) (n' : Int) h', a ≤ m → m < b → Owns h h' [.box (.ptr id 0 0) [.int .i64 n']] → zbk.k1 C E C0 fL f2 f3 Q (.ptr id 0 0) (.int .i64 (m : Int)) h' := fun m n' h' k1 k2 o' => by
  obtain ⟨id', e, hb'⟩ := o'.zrq 0 rfl
  cases e
  have ld : A.ldv h' (.ptr id 0 0) = some (.int .i64 n') := by rw [zjr hb']; rfl
  simp -dsimp only [zbk.k1, B.zg9, ld, V.zjj, B.zg]
  refine B.zn (fun _ => hq m _ h' k1 k2 o'.le) (fun _ => ?_)
  refine B.zn (fun _ => hq m _ h' k1 k2 o'.le) (fun _ => hq m _ h' k1 k2 o'.le)
 have g50 : V.bin .geq (.int .i64 ((b - a : Nat) : Int)) (.int .i64 50) = some (.bool (decide (50 ≤ b - a))) := geqN (b := 50)
 simp -dsimp only [g50, B.zg]
 refine B.zn (fun hd => ?_) (fun hd => ?_)
 ·rw [decide_eq_true_eq] at hd
  refine ia _ _ _ _ _ _ (zgx io im S hx hc' o (by omega) (by omega) (by omega) fun i n1 h1 i1 i2 o1 => zbj ?_)
  refine ia _ _ _ _ _ _ (zgx io im S hx hc' o1 (by omega) (by omega) (by omega) fun j n2 h2 j1 j2 o2 => zbj ?_)
  refine ia _ _ _ _ _ _ (zgx io im S hx hc' o2 (by omega) (by omega) (by omega) fun k n3 h3 k1 k2 o3 => zbj ?_)
  refine im _ _ _ _ _ _ _ _ (zmy io S hx hc' o3 (by omega) (by omega) (by omega) fun m n4 h4 hm o4 => zbj ?_)
  exact fin m n4 h4 (by omega) (by omega) o4
 ·refine im _ _ _ _ _ _ _ _ (zmy io S hx hc' o (by omega) (by omega) (by omega) fun m n4 h4 hm o4 => zbj ?_)
  exact fin m n4 h4 (by omega) (by omega) o4
end
section
variable {E : z5} {X : Type} {cs : X → List AVal} {v : X → AVal} {h0 h : zb} {x f : AVal} {G : List X} {R : List (List AVal)} {c : X → X → Int} {Q : AVal → zb → Prop} {Y1 : List AVal → zb → Prop} {a b i j : Nat}
theorem part_j (S : zd9 E cs v) (hc : zev C0 v c fL h0) (ho : Rw E cs h0 h x G R) (hl : G.length < 4611686018427387904) (hab : a < b) (p : PInv c a b G i j) (hi0 : j < i ∨ ∀ (h1 : i < G.length) (h2 : a < G.length), ¬ c G[i] G[a] < 0)
  (done : ∀ h' j', PInv c a b G i j' → j' < i → Rw E cs h0 h' x G R → zm.k1 C E C0 fL Q x (.int .i64 (a : Int)) (.int .i64 (j' : Int)) h')
  (next : ∀ h' j' (hi : i < G.length) (hj : j' < G.length) , PInv c a b (swp G i j' hi hj) (i + 1) (j' - 1) → i < j' → j' < b → Rw E cs h0 h' x (swp G i j' hi hj) R → Y1 [.int .i64 ((i + 1 : Nat) : Int), .int .i64 ((j' - 1 : Nat) : Int)] h') :
  zd (zm.l4 C E C0 fL Q Y1 x (.int .i64 (a : Int)) f (.int .i64 (i : Int))) [.int .i64 (j : Int)] h := by
 refine zd.intro (fun t vs hh => hh = h ∧ ∃ j' : Nat, t = j' ∧ vs = [.int .i64 (j' : Int)] ∧ PInv c a b G i j' ∧ (j' < i ∨ ∀ (h1 : i < G.length) (h2 : a < G.length), ¬ c G[i] G[a] < 0)) j ?_ ⟨rfl, j, rfl, rfl, p, hi0⟩
 rintro Y j' vs hh ⟨rfl, _, rfl, rfl, p, hi0⟩ hY
 have k1 := p.hi; have k2 := p.hij; have k3 := p.hj; have k4 := p.hb
 have la : a < G.length := by omega
 have lj : j' < G.length := by omega
 simp -dsimp only [zm.l4, zm.k3, leqN, B.zg]
 by_cases hle : i ≤ j'
 ·have li : i < G.length := by omega
  simp -dsimp only [hle, decide_true, B.gd_t, B.zec, ho.idx lj, ho.idx la, B.zg]
  refine ho.ld S (List.getElem?_eq_getElem lj) ?_
  refine ho.ld S (List.getElem?_eq_getElem la) ?_
  refine hc.call _ _ _ _ ho.le ?_
  simp -dsimp only [hle, decide_true, B.gd_t, B.zec, V.zfq, V.zkn, B.zh2, B.zg]
  refine B.zn (fun hd => ?_) (fun hd => ?_)
  ·have hd' : ¬ c G[j'] G[a] < 0 := by simpa using hd
   have e1 := zih (a := j') (b := 1) (by omega) (by omega)
   have e1' : V.bin .sub (.int .i64 (j' : Int)) (.int .i64 1) = some (.int .i64 ((j' - 1 : Nat) : Int)) := e1
   simp -dsimp only [e1', B.zg]
   refine hY (j' - 1) _ _ (by omega) ⟨rfl, j' - 1, rfl, rfl, ⟨k4, k1, by omega, by omega, p.lo, fun k hk ha q1 q2 => ?_⟩, ?_⟩
   ·by_cases e : k = j'
    ·subst e; exact hd'
    ·exact p.hi2 k hk ha (by omega) q2
   ·rcases hi0 with h | h
    ·omega
    ·exact .inr h
  ·have hd' : c G[j'] G[a] < 0 := by simpa using hd
   have hni : ¬ c G[i] G[a] < 0 := by
    rcases hi0 with h | h
    ·omega
    ·exact h li la
   simp -dsimp only [zm.k2, gtrN, show ¬ j' < i by omega, decide_false, B.cond_false, ho.idx lj, ho.idx li, B.zg]
   refine ho.ld S (List.getElem?_eq_getElem lj) ?_
   refine ho.ld S (List.getElem?_eq_getElem li) ?_
   refine ho.st S (t := G[j']) li fun h1 o1 => ?_
   refine o1.st S (t := G[i]) (by simpa using lj) fun h2 o2 => ?_
   have e1' : V.bin .sub (.int .i64 (j' : Int)) (.int .i64 1) = some (.int .i64 ((j' - 1 : Nat) : Int)) := zih (a := j') (b := 1) (by omega) (by omega)
   simp -dsimp only [add1 (show i < 4611686018427387904 by omega), e1', B.zg]
   have hne : i ≠ j' := fun e => by subst e; exact hni hd'
   exact next h2 j' li lj (p.swap hle li lj la hni hd') (by omega) k3 o2
 ·simp -dsimp only [hle, decide_false, B.gd_t, B.zfd, B.zik, B.cond_false, zm.k2, gtrN, show j' < i by omega, decide_true, B.cond_true, B.zg]
  exact done hh j' p (by omega) ho
theorem part_i (S : zd9 E cs v) (hc : zev C0 v c fL h0) (ho : Rw E cs h0 h x G R) (hl : G.length < 4611686018427387904) (hab : a < b) (p : PInv c a b G i j)
  (done : ∀ h' i' j', PInv c a b G i' j' → j' < i' → Rw E cs h0 h' x G R → zm.k1 C E C0 fL Q x (.int .i64 (a : Int)) (.int .i64 (j' : Int)) h')
  (next : ∀ h' i' j' (hi : i' < G.length) (hj : j' < G.length), PInv c a b (swp G i' j' hi hj) (i' + 1) (j' - 1) → a < i' → i ≤ i' → i' < j' → j' < b → Rw E cs h0 h' x (swp G i' j' hi hj) R → Y1 [.int .i64 ((i' + 1 : Nat) : Int), .int .i64 ((j' - 1 : Nat) : Int)] h') :
  zd (zm.l6 C E C0 fL Q Y1 x (.int .i64 (a : Int)) f (.int .i64 (j : Int))) [.int .i64 (i : Int)] h := by
 refine zd.intro (fun t vs hh => hh = h ∧ ∃ i' : Nat, i' + t = b ∧ i ≤ i' ∧ vs = [.int .i64 (i' : Int)] ∧ PInv c a b G i' j) (b - i) ?_ ⟨rfl, i, by have := p.hij; have := p.hj; omega, Nat.le_refl _, rfl, p⟩
 rintro Y t vs hh ⟨rfl, i', hit, hii, rfl, p⟩ hY
 have k1 := p.hi; have k2 := p.hij; have k3 := p.hj; have k4 := p.hb
 have la : a < G.length := by omega
 simp -dsimp only [zm.l6, zm.k5, leqN, B.zg]
 by_cases hle : i' ≤ j
 ·have li : i' < G.length := by omega
  simp -dsimp only [hle, decide_true, B.gd_t, B.zec, ho.idx li, ho.idx la, B.zg]
  refine ho.ld S (List.getElem?_eq_getElem li) ?_
  refine ho.ld S (List.getElem?_eq_getElem la) ?_
  refine hc.call _ _ _ _ ho.le ?_
  simp -dsimp only [hle, decide_true, B.gd_t, B.zec, V.zfq, B.zh2, B.zg]
  refine B.zn (fun hd => ?_) (fun hd => ?_)
  ·have hd' : c G[i'] G[a] < 0 := by simpa using hd
   simp -dsimp only [add1 (show i' < 4611686018427387904 by omega), B.zg]
   refine hY (b - (i' + 1)) _ _ (by omega) ⟨rfl, i' + 1, by omega, by omega, rfl, ⟨k4, by omega, k3, by omega, fun k hk ha q1 q2 => ?_, p.hi2⟩⟩
   by_cases e : k = i'
   ·subst e; exact hd'
   ·exact p.lo k hk ha q1 (by omega)
  ·have hd' : ¬ c G[i'] G[a] < 0 := by simpa using hd
   exact part_j S hc ho hl hab p (.inr fun _ _ => hd') (fun h' j' p' hlt o' => done h' i' j' p' hlt o') fun h' j' hi hj p' h1 h2 o' => next h' i' j' hi hj p' k1 hii h1 h2 o'
 ·simp -dsimp only [hle, decide_false, B.gd_t, B.zfd, B.zik, B.cond_false]
  exact part_j S hc ho hl hab p (.inl (by omega)) (fun h' j' p' hlt o' => done h' i' j' p' hlt o') fun h' j' hi hj p' h1 h2 o' => next h' i' j' hi hj p' k1 hii h1 h2 o'
theorem part_end (S : zd9 E cs v) (ho : Rw E cs h0 h x G R) (hab : a < b) (p : PInv c a b G i j) (hlt : j < i) (hq : ∀ h' m G', zjd c a b m G' → zda a b G G' → Rw E cs h0 h' x G' R → Q (.tup [.int .i64 (m : Int), .bool false]) h') :
  zm.k1 C E C0 fL Q x (.int .i64 (a : Int)) (.int .i64 (j : Int)) h := by
 have k1 := p.hi; have k2 := p.hij; have k3 := p.hj; have k4 := p.hb
 have la : a < G.length := by omega
 have lj : j < G.length := by omega
 simp -dsimp only [zm.k1, ho.idx lj, ho.idx la, B.zg]
 refine ho.ld S (List.getElem?_eq_getElem la) ?_
 refine ho.ld S (List.getElem?_eq_getElem lj) ?_
 refine ho.st S (t := G[a]) lj fun h1 o1 => ?_
 refine o1.st S (t := G[j]) (by simpa using la) fun h2 o2 => ?_
 exact hq h2 j _ (p.done hab hlt lj la) (ze3 lj la (by omega) k3 (Nat.le_refl _) hab) o2
theorem part_main (S : zd9 E cs v) (hc : zev C0 v c fL h0) (ho : Rw E cs h0 h x G R) (hl : G.length < 4611686018427387904) (hab : a < b) (p : PInv c a b G i j)
  (hq : ∀ h' m G', zjd c a b m G' → zda a b G G' → Rw E cs h0 h' x G' R → Q (.tup [.int .i64 (m : Int), .bool false]) h') :
  zd (zm.l7 C E C0 fL Q x (.int .i64 (a : Int)) f) [.int .i64 (i : Int), .int .i64 (j : Int)] h := by
 refine zd.intro (fun t vs hh => ∃ (i' j' : Nat) (G' : List X), i' + t = b ∧ vs = [.int .i64 (i' : Int), .int .i64 (j' : Int)] ∧ zda a b G G' ∧ PInv c a b G' i' j' ∧ Rw E cs h0 hh x G' R) (b - i) ?_ ⟨i, j, G, by have := p.hij; have := p.hj; omega, rfl, zda.refl _ _ _, p, ho⟩
 rintro Y t vs hh ⟨i', j', G', hit, rfl, W, p, o⟩ hY
 have hlen := W.len
 simp -dsimp only [zm.l7]
 refine part_i S hc o (by omega) hab p (fun h' i2 j2 p2 hlt o2 => part_end S o2 hab p2 hlt fun h3 m G3 P3 W3 o3 => hq h3 m G3 P3 (W.trans W3) o3) fun h' i2 j2 hi hj p2 h1 h2 h3 h4 o2 => ?_
 exact hY (b - (i2 + 1)) _ _ (by omega) ⟨i2 + 1, j2 - 1, _, by omega, rfl, W.trans (ze3 hi hj (by omega) (by omega) (by omega) h4), p2, o2⟩
end
section
variable {E : z5} {X : Type} {cs : X → List AVal} {v : X → AVal} {h0 h : zb} {x f : AVal} {G : List X} {R : List (List AVal)} {c : X → X → Int} {Q : AVal → zb → Prop} {a b i j : Nat}
theorem part_k10 (S : zd9 E cs v) (hc : zev C0 v c fL h0) (ho : Rw E cs h0 h x G R) (hl : G.length < 4611686018427387904) (hab : a < b) (p : PInv c a b G i j)
  (hd : j < i ∨ ∃ (h1 : i < G.length) (h2 : a < G.length) (h3 : j < G.length), i ≤ j ∧ ¬ c G[i] G[a] < 0 ∧ c G[j] G[a] < 0) (hq : PartQ E cs h0 x c a b R G Q) :
  zm.k10 C E C0 fL Q x (.int .i64 (a : Int)) f (.int .i64 (i : Int)) (.int .i64 (j : Int)) h := by
 have k1 := p.hi; have k2 := p.hij; have k3 := p.hj; have k4 := p.hb
 have la : a < G.length := by omega
 have lj : j < G.length := by omega
 rcases hd with hlt | ⟨li, _, _, hle, n1, n2⟩
 ·simp -dsimp only [zm.k10, gtrN, hlt, decide_true, B.cond_true, ho.idx lj, ho.idx la, B.zg]
  refine ho.ld S (List.getElem?_eq_getElem la) ?_
  refine ho.ld S (List.getElem?_eq_getElem lj) ?_
  refine ho.st S (t := G[a]) lj fun h1 o1 => ?_
  refine o1.st S (t := G[j]) (by simpa using la) fun h2 o2 => ?_
  exact hq h2 j _ true (p.done hab hlt lj la) (ze3 lj la (by omega) k3 (Nat.le_refl _) hab) o2
 ·simp -dsimp only [zm.k10, zm.k9, gtrN, show ¬ j < i by omega, decide_false, B.cond_false, ho.idx lj, ho.idx li, B.zg]
  refine ho.ld S (List.getElem?_eq_getElem lj) ?_
  refine ho.ld S (List.getElem?_eq_getElem li) ?_
  refine ho.st S (t := G[j]) li fun h1 o1 => ?_
  refine o1.st S (t := G[i]) (by simpa using lj) fun h2 o2 => ?_
  have hne : i ≠ j := fun e => by subst e; exact n1 n2
  have e1' : V.bin .sub (.int .i64 (j : Int)) (.int .i64 1) = some (.int .i64 ((j - 1 : Nat) : Int)) := zih (a := j) (b := 1) (by omega) (by omega)
  simp -dsimp only [zm.k8, add1 (show i < 4611686018427387904 by omega), e1', B.zg]
  have W := ze3 li lj (by omega) (by omega) (by omega : a ≤ j) k3
  exact part_main S hc (G := swp G i j li lj) o2 (by rw [zje li lj]; omega) hab (p.swap hle li lj la n1 n2) fun h' m G' P' W' o' => hq h' m G' false P' (W.trans W') o'
theorem part_j1 (S : zd9 E cs v) (hc : zev C0 v c fL h0) (ho : Rw E cs h0 h x G R) (hl : G.length < 4611686018427387904) (hab : a < b) (p : PInv c a b G i j) (hi0 : j < i ∨ ∀ (h1 : i < G.length) (h2 : a < G.length), ¬ c G[i] G[a] < 0) (hq : PartQ E cs h0 x c a b R G Q) :
  zd (zm.l12 C E C0 fL Q x (.int .i64 (a : Int)) f (.int .i64 (i : Int))) [.int .i64 (j : Int)] h := by
 refine zd.intro (fun t vs hh => hh = h ∧ ∃ j' : Nat, t = j' ∧ vs = [.int .i64 (j' : Int)] ∧ PInv c a b G i j' ∧ (j' < i ∨ ∀ (h1 : i < G.length) (h2 : a < G.length), ¬ c G[i] G[a] < 0)) j ?_ ⟨rfl, j, rfl, rfl, p, hi0⟩
 rintro Y j' vs hh ⟨rfl, _, rfl, rfl, p, hi0⟩ hY
 have k1 := p.hi; have k2 := p.hij; have k3 := p.hj; have k4 := p.hb
 have la : a < G.length := by omega
 have lj : j' < G.length := by omega
 simp -dsimp only [zm.l12, zm.k11, leqN, B.zg]
 by_cases hle : i ≤ j'
 ·have li : i < G.length := by omega
  simp -dsimp only [hle, decide_true, B.gd_t, B.zec, ho.idx lj, ho.idx la, B.zg]
  refine ho.ld S (List.getElem?_eq_getElem lj) ?_
  refine ho.ld S (List.getElem?_eq_getElem la) ?_
  refine hc.call _ _ _ _ ho.le ?_
  simp -dsimp only [hle, decide_true, B.gd_t, B.zec, V.zfq, V.zkn, B.zh2, B.zg]
  refine B.zn (fun hd => ?_) (fun hd => ?_)
  ·have hd' : ¬ c G[j'] G[a] < 0 := by simpa using hd
   have e1' : V.bin .sub (.int .i64 (j' : Int)) (.int .i64 1) = some (.int .i64 ((j' - 1 : Nat) : Int)) := zih (a := j') (b := 1) (by omega) (by omega)
   simp -dsimp only [e1', B.zg]
   refine hY (j' - 1) _ _ (by omega) ⟨rfl, j' - 1, rfl, rfl, ⟨k4, k1, by omega, by omega, p.lo, fun k hk ha q1 q2 => ?_⟩, ?_⟩
   ·by_cases e : k = j'
    ·subst e; exact hd'
    ·exact p.hi2 k hk ha (by omega) q2
   ·rcases hi0 with h | h
    ·omega
    ·exact .inr h
  ·have hd' : c G[j'] G[a] < 0 := by simpa using hd
   have hni : ¬ c G[i] G[a] < 0 := by
    rcases hi0 with h | h
    ·omega
    ·exact h li la
   exact part_k10 S hc ho hl hab p (.inr ⟨li, la, lj, hle, hni, hd'⟩) hq
 ·simp -dsimp only [hle, decide_false, B.gd_t, B.zfd, B.zik, B.cond_false]
  exact part_k10 S hc ho hl hab p (.inl (by omega)) hq
theorem part_i1 (S : zd9 E cs v) (hc : zev C0 v c fL h0) (ho : Rw E cs h0 h x G R) (hl : G.length < 4611686018427387904) (hab : a < b) (p : PInv c a b G i j) (hq : PartQ E cs h0 x c a b R G Q) :
  zd (zm.l14 C E C0 fL Q x (.int .i64 (a : Int)) f (.int .i64 (j : Int))) [.int .i64 (i : Int)] h := by
 refine zd.intro (fun t vs hh => hh = h ∧ ∃ i' : Nat, i' + t = b ∧ vs = [.int .i64 (i' : Int)] ∧ PInv c a b G i' j) (b - i) ?_ ⟨rfl, i, by have := p.hij; have := p.hj; omega, rfl, p⟩
 rintro Y t vs hh ⟨rfl, i', hit, rfl, p⟩ hY
 have k1 := p.hi; have k2 := p.hij; have k3 := p.hj; have k4 := p.hb
 have la : a < G.length := by omega
 simp -dsimp only [zm.l14, zm.k13, leqN, B.zg]
 by_cases hle : i' ≤ j
 ·have li : i' < G.length := by omega
  simp -dsimp only [hle, decide_true, B.gd_t, B.zec, ho.idx li, ho.idx la, B.zg]
  refine ho.ld S (List.getElem?_eq_getElem li) ?_
  refine ho.ld S (List.getElem?_eq_getElem la) ?_
  refine hc.call _ _ _ _ ho.le ?_
  simp -dsimp only [hle, decide_true, B.gd_t, B.zec, V.zfq, B.zh2, B.zg]
  refine B.zn (fun hd => ?_) (fun hd => ?_)
  ·have hd' : c G[i'] G[a] < 0 := by simpa using hd
   simp -dsimp only [add1 (show i' < 4611686018427387904 by omega), B.zg]
   refine hY (b - (i' + 1)) _ _ (by omega) ⟨rfl, i' + 1, by omega, rfl, ⟨k4, by omega, k3, by omega, fun k hk ha q1 q2 => ?_, p.hi2⟩⟩
   by_cases e : k = i'
   ·subst e; exact hd'
   ·exact p.lo k hk ha q1 (by omega)
  ·have hd' : ¬ c G[i'] G[a] < 0 := by simpa using hd
   exact part_j1 S hc ho hl hab p (.inr fun _ _ => hd') hq
 ·simp -dsimp only [hle, decide_false, B.gd_t, B.zfd, B.zik, B.cond_false]
  exact part_j1 S hc ho hl hab p (.inl (by omega)) hq
theorem zrl (S : zd9 E cs v) (hc : zev C0 v c fL h0) (ho : Rw E cs h0 h x G R) (hl : G.length < 4611686018427387904) {pv : Nat} (hp1 : a ≤ pv) (hp2 : pv < b) (hb : b ≤ G.length) (hq : PartQ E cs h0 x c a b R G Q) :
  zm.cps C E C0 fL x (.int .i64 (a : Int)) (.int .i64 (b : Int)) (.int .i64 (pv : Int)) f h Q := by
 have la : a < G.length := by omega
 have lp : pv < G.length := by omega
 simp -dsimp only [zm.cps, zm.k16, ho.idx lp, ho.idx la, B.zg]
 refine ho.ld S (List.getElem?_eq_getElem lp) ?_
 refine ho.ld S (List.getElem?_eq_getElem la) ?_
 refine ho.st S (t := G[pv]) la fun h1 o1 => ?_
 refine o1.st S (t := G[a]) (by simpa using lp) fun h2 o2 => ?_
 have e1' : V.bin .sub (.int .i64 (b : Int)) (.int .i64 1) = some (.int .i64 ((b - 1 : Nat) : Int)) := zih (a := b) (b := 1) (by omega) (by omega)
 simp -dsimp only [zm.k15, add1 (show a < 4611686018427387904 by omega), e1', B.zg]
 have W := ze3 la lp (Nat.le_refl _) (by omega) hp1 hp2
 have hsl := zje la lp
 refine part_i1 S hc (G := swp G a pv la lp) o2 (by omega) (by omega) ⟨by omega, by omega, by omega, by omega, fun k _ _ q1 q2 => by omega, fun k _ _ q1 q2 => by omega⟩ fun h' m G' t P' W' o' => hq h' m G' t P' (W.trans W') o'
end
section
variable {E : z5} {X : Type} {cs : X → List AVal} {v : X → AVal} {h0 h : zb} {x f : AVal} {G : List X} {R : List (List AVal)} {c : X → X → Int} {Q : AVal → zb → Prop} {Y1 : List AVal → zb → Prop} {a b i j : Nat}
theorem eq_j (S : zd9 E cs v) (hc : zev C0 v c fL h0) (ho : Rw E cs h0 h x G R) (hl : G.length < 4611686018427387904) (hab : a < b) (p : EInv c a b G i j) (hi0 : j < i ∨ ∀ (h1 : i < G.length) (h2 : a < G.length), c G[a] G[i] < 0)
  (done : ∀ h' j', EInv c a b G i j' → j' < i → Rw E cs h0 h' x G R → Q (.int .i64 (i : Int)) h')
  (next : ∀ h' j' (hi : i < G.length) (hj : j' < G.length), EInv c a b (swp G i j' hi hj) (i + 1) (j' - 1) → i < j' → j' < b → Rw E cs h0 h' x (swp G i j' hi hj) R → Y1 [.int .i64 ((i + 1 : Nat) : Int), .int .i64 ((j' - 1 : Nat) : Int)] h') :
  zd (zu.l3 C E C0 fL Q Y1 x (.int .i64 (a : Int)) f (.int .i64 (i : Int))) [.int .i64 (j : Int)] h := by
 refine zd.intro (fun t vs hh => hh = h ∧ ∃ j' : Nat, t = j' ∧ vs = [.int .i64 (j' : Int)] ∧ EInv c a b G i j' ∧ (j' < i ∨ ∀ (h1 : i < G.length) (h2 : a < G.length), c G[a] G[i] < 0)) j ?_ ⟨rfl, j, rfl, rfl, p, hi0⟩
 rintro Y j' vs hh ⟨rfl, _, rfl, rfl, p, hi0⟩ hY
 have k1 := p.hi; have k2 := p.hij; have k3 := p.hj; have k4 := p.hb
 have la : a < G.length := by omega
 have lj : j' < G.length := by omega
 simp -dsimp only [zu.l3, zu.k2, leqN, B.zg]
 by_cases hle : i ≤ j'
 ·have li : i < G.length := by omega
  simp -dsimp only [hle, decide_true, B.gd_t, B.zec, ho.idx lj, ho.idx la, B.zg]
  refine ho.ld S (List.getElem?_eq_getElem la) ?_
  refine ho.ld S (List.getElem?_eq_getElem lj) ?_
  refine hc.call _ _ _ _ ho.le ?_
  simp -dsimp only [hle, decide_true, B.gd_t, B.zec, V.zfq, B.zh2, B.zg]
  refine B.zn (fun hd => ?_) (fun hd => ?_)
  ·have hd' : c G[a] G[j'] < 0 := by simpa using hd
   have e1' : V.bin .sub (.int .i64 (j' : Int)) (.int .i64 1) = some (.int .i64 ((j' - 1 : Nat) : Int)) := zih (a := j') (b := 1) (by omega) (by omega)
   simp -dsimp only [e1', B.zg]
   refine hY (j' - 1) _ _ (by omega) ⟨rfl, j' - 1, rfl, rfl, ⟨k4, k1, by omega, by omega, p.lo, fun k hk ha q1 q2 => ?_⟩, ?_⟩
   ·by_cases e : k = j'
    ·subst e; exact hd'
    ·exact p.hi2 k hk ha (by omega) q2
   ·rcases hi0 with h | h
    ·omega
    ·exact .inr h
  ·have hd' : ¬ c G[a] G[j'] < 0 := by simpa using hd
   have hni : c G[a] G[i] < 0 := by
    rcases hi0 with h | h
    ·omega
    ·exact h li la
   simp -dsimp only [zu.k1, gtrN, show ¬ j' < i by omega, decide_false, B.cond_false, ho.idx lj, ho.idx li, B.zg]
   refine ho.ld S (List.getElem?_eq_getElem lj) ?_
   refine ho.ld S (List.getElem?_eq_getElem li) ?_
   refine ho.st S (t := G[j']) li fun h1 o1 => ?_
   refine o1.st S (t := G[i]) (by simpa using lj) fun h2 o2 => ?_
   have e1' : V.bin .sub (.int .i64 (j' : Int)) (.int .i64 1) = some (.int .i64 ((j' - 1 : Nat) : Int)) := zih (a := j') (b := 1) (by omega) (by omega)
   simp -dsimp only [add1 (show i < 4611686018427387904 by omega), e1', B.zg]
   have hne : i ≠ j' := fun e => by subst e; exact hd' hni
   exact next h2 j' li lj (p.swap hle li lj la hni hd') (by omega) k3 o2
 ·simp -dsimp only [hle, decide_false, B.gd_t, B.zfd, B.zik, B.cond_false, zu.k1, gtrN, show j' < i by omega, decide_true, B.cond_true, B.zg]
  exact done hh j' p (by omega) ho
theorem eq_i (S : zd9 E cs v) (hc : zev C0 v c fL h0) (ho : Rw E cs h0 h x G R) (hl : G.length < 4611686018427387904) (hab : a < b) (p : EInv c a b G i j)
  (done : ∀ h' i' j', EInv c a b G i' j' → j' < i' → Rw E cs h0 h' x G R → Q (.int .i64 (i' : Int)) h')
  (next : ∀ h' i' j' (hi : i' < G.length) (hj : j' < G.length), EInv c a b (swp G i' j' hi hj) (i' + 1) (j' - 1) → a < i' → i ≤ i' → i' < j' → j' < b → Rw E cs h0 h' x (swp G i' j' hi hj) R → Y1 [.int .i64 ((i' + 1 : Nat) : Int), .int .i64 ((j' - 1 : Nat) : Int)] h') :
  zd (zu.l5 C E C0 fL Q Y1 x (.int .i64 (a : Int)) f (.int .i64 (j : Int))) [.int .i64 (i : Int)] h := by
 refine zd.intro (fun t vs hh => hh = h ∧ ∃ i' : Nat, i' + t = b ∧ i ≤ i' ∧ vs = [.int .i64 (i' : Int)] ∧ EInv c a b G i' j) (b - i) ?_ ⟨rfl, i, by have := p.hij; have := p.hj; omega, Nat.le_refl _, rfl, p⟩
 rintro Y t vs hh ⟨rfl, i', hit, hii, rfl, p⟩ hY
 have k1 := p.hi; have k2 := p.hij; have k3 := p.hj; have k4 := p.hb
 have la : a < G.length := by omega
 simp -dsimp only [zu.l5, zu.k4, leqN, B.zg]
 by_cases hle : i' ≤ j
 ·have li : i' < G.length := by omega
  simp -dsimp only [hle, decide_true, B.gd_t, B.zec, ho.idx li, ho.idx la, B.zg]
  refine ho.ld S (List.getElem?_eq_getElem la) ?_
  refine ho.ld S (List.getElem?_eq_getElem li) ?_
  refine hc.call _ _ _ _ ho.le ?_
  simp -dsimp only [hle, decide_true, B.gd_t, B.zec, V.zfq, V.zkn, B.zh2, B.zg]
  refine B.zn (fun hd => ?_) (fun hd => ?_)
  ·have hd' : ¬ c G[a] G[i'] < 0 := by simpa using hd
   simp -dsimp only [add1 (show i' < 4611686018427387904 by omega), B.zg]
   refine hY (b - (i' + 1)) _ _ (by omega) ⟨rfl, i' + 1, by omega, by omega, rfl, ⟨k4, by omega, k3, by omega, fun k hk ha q1 q2 => ?_, p.hi2⟩⟩
   by_cases e : k = i'
   ·subst e; exact hd'
   ·exact p.lo k hk ha q1 (by omega)
  ·have hd' : c G[a] G[i'] < 0 := by simpa using hd
   exact eq_j S hc ho hl hab p (.inr fun _ _ => hd') (fun h' j' p' hlt o' => done h' i' j' p' hlt o') fun h' j' hi hj p' h1 h2 o' => next h' i' j' hi hj p' k1 hii h1 h2 o'
 ·simp -dsimp only [hle, decide_false, B.gd_t, B.zfd, B.zik, B.cond_false]
  exact eq_j S hc ho hl hab p (.inl (by omega)) (fun h' j' p' hlt o' => done h' i' j' p' hlt o') fun h' j' hi hj p' h1 h2 o' => next h' i' j' hi hj p' k1 hii h1 h2 o'
theorem eq_main (S : zd9 E cs v) (hc : zev C0 v c fL h0) (ho : Rw E cs h0 h x G R) (hl : G.length < 4611686018427387904) (hab : a < b) (p : EInv c a b G i j)
  (hq : ∀ h' i' j' G', EInv c a b G' i' j' → j' < i' → zda (a + 1) b G G' → Rw E cs h0 h' x G' R → Q (.int .i64 (i' : Int)) h') :
  zd (zu.l6 C E C0 fL Q x (.int .i64 (a : Int)) f) [.int .i64 (i : Int), .int .i64 (j : Int)] h := by
 refine zd.intro (fun t vs hh => ∃ (i' j' : Nat) (G' : List X), i' + t = b ∧ vs = [.int .i64 (i' : Int), .int .i64 (j' : Int)] ∧ zda (a + 1) b G G' ∧ EInv c a b G' i' j' ∧ Rw E cs h0 hh x G' R) (b - i) ?_ ⟨i, j, G, by have := p.hij; have := p.hj; omega, rfl, zda.refl _ _ _, p, ho⟩
 rintro Y t vs hh ⟨i', j', G', hit, rfl, W, p, o⟩ hY
 have hlen := W.len
 simp -dsimp only [zu.l6]
 refine eq_i S hc o (by omega) hab p (fun h' i2 j2 p2 hlt o2 => hq h' i2 j2 G' p2 hlt W o2) fun h' i2 j2 hi hj p2 h1 h2 h3 h4 o2 => ?_
 exact hY (b - (i2 + 1)) _ _ (by omega) ⟨i2 + 1, j2 - 1, _, by omega, rfl, W.trans (ze3 hi hj (by omega) (by omega) (by omega) h4), p2, o2⟩
theorem zmg (S : zd9 E cs v) (hc : zev C0 v c fL h0) (ho : Rw E cs h0 h x G R) (hl : G.length < 4611686018427387904) {pv : Nat} (hp1 : a ≤ pv) (hp2 : pv < b) (hb : b ≤ G.length)
  (hq : ∀ h' i' j' G', EInv c a b G' i' j' → j' < i' → zda a b G G' → (∀ (h1 : a < G'.length) (h2 : pv < G.length), G'[a] = G[pv]) → Rw E cs h0 h' x G' R → Q (.int .i64 (i' : Int)) h') :
  zu.cps C E C0 fL x (.int .i64 (a : Int)) (.int .i64 (b : Int)) (.int .i64 (pv : Int)) f h Q := by
 have la : a < G.length := by omega
 have lp : pv < G.length := by omega
 simp -dsimp only [zu.cps, zu.k8, ho.idx lp, ho.idx la, B.zg]
 refine ho.ld S (List.getElem?_eq_getElem lp) ?_
 refine ho.ld S (List.getElem?_eq_getElem la) ?_
 refine ho.st S (t := G[pv]) la fun h1 o1 => ?_
 refine o1.st S (t := G[a]) (by simpa using lp) fun h2 o2 => ?_
 have e1' : V.bin .sub (.int .i64 (b : Int)) (.int .i64 1) = some (.int .i64 ((b - 1 : Nat) : Int)) := zih (a := b) (b := 1) (by omega) (by omega)
 simp -dsimp only [zu.k7, add1 (show a < 4611686018427387904 by omega), e1', B.zg]
 have W := ze3 la lp (Nat.le_refl _) (by omega) hp1 hp2
 have hsl := zje la lp
 refine eq_main S hc (G := swp G a pv la lp) o2 (by omega) (by omega) ⟨by omega, by omega, by omega, by omega, fun k _ _ q1 q2 => by omega, fun k _ _ q1 q2 => by omega⟩ fun h' i' j' G' p' hlt W' o' => hq h' i' j' G' p' hlt (W.trans (W'.mono (by omega) (Nat.le_refl _))) (fun h1 h2 => ?_) o'
 rw [W'.same (.inl (by omega)) h1 (by omega), zgh la lp (by omega) la]
 split
 ·rename_i e; simp only [e]
 ·rw [if_pos rfl]
end
section
variable {X : Type} {c : X → X → Int} {a n lo r ch : Nat} {G : List X}
end
section
variable {E : z5} {X : Type} {cs : X → List AVal} {v : X → AVal} {h0 h : zb} {x f : AVal} {G : List X} {R : List (List AVal)} {c : X → X → Int} {Q : AVal → zb → Prop} {Y1 : List AVal → zb → Prop} {a n lo r ch : Nat}
theorem sift_k1 (S : zd9 E cs v) (W : Weak (zey c)) (hc : zev C0 v c fL h0) (ho : Rw E cs h0 h x G R) (hl : G.length < 1000000000) (p : SInv c a n lo r G) (hlo : lo ≤ r) (hch : ch < n) (hp : (ch - 1) / 2 = r) (hc0 : 0 < ch)
  (hmax : ∀ k, 0 < k → k < n → (k - 1) / 2 = r → (h1 : a + ch < G.length) → (h2 : a + k < G.length) → ¬ c G[a + ch] G[a + k] < 0)
  (done : ∀ h', Heap c a n lo G → Rw E cs h0 h' x G R → Q (.tup []) h')
  (next : ∀ h' (hr : a + r < G.length) (hcl : a + ch < G.length), SInv c a n lo ch (swp G (a + r) (a + ch) hr hcl) → Rw E cs h0 h' x (swp G (a + r) (a + ch) hr hcl) R → Y1 [.int .i64 (ch : Int)] h') :
  zcy.k1 C E C0 fL Q Y1 x (.int .i64 (n : Int)) (.int .i64 (a : Int)) f (.int .i64 (r : Int)) (.int .i64 (ch : Int)) h := by
 have hlen := p.len
 have lr : a + r < G.length := by omega
 have lc : a + ch < G.length := by omega
 have ar := zke (a := a) (b := r) (by omega)
 have ac := zke (a := a) (b := ch) (by omega)
 simp -dsimp only [zcy.k1, ar, ac, ho.idx lr, ho.idx lc, B.zg]
 refine ho.ld S (List.getElem?_eq_getElem lr) ?_
 refine ho.ld S (List.getElem?_eq_getElem lc) ?_
 refine hc.call _ _ _ _ ho.le ?_
 simp -dsimp only [V.zfq, V.zkn, B.zg]
 refine B.zn (fun hd => ?_) (fun hd => ?_)
 ·have hd' : ¬ c G[a + r] G[a + ch] < 0 := by simpa using hd
  refine done h (p.done fun k k0 hk hkp h1 h2 => ?_) ho
  have := W.zo3 (a := G[a + r]) (b := G[a + ch]) (c := G[a + k]) (by unfold zey; exact decide_eq_false hd') (by unfold zey; exact decide_eq_false (hmax k k0 hk hkp lc h2))
  unfold zey at this; exact of_decide_eq_false this
 ·have hd' : c G[a + r] G[a + ch] < 0 := by simpa using hd
  simp -dsimp only [ar, ac, ho.idx lr, ho.idx lc, B.zg]
  refine ho.ld S (List.getElem?_eq_getElem lc) ?_
  refine ho.ld S (List.getElem?_eq_getElem lr) ?_
  refine ho.st S (t := G[a + ch]) lr fun h1 o1 => ?_
  refine o1.st S (t := G[a + r]) (by simpa using lc) fun h2 o2 => ?_
  exact next h2 lr lc (p.step W hlo hch hp hc0 lr lc hd' fun k k0 hk hkp h2 => hmax k k0 hk hkp lc h2) o2
theorem zna (S : zd9 E cs v) (W : Weak (zey c)) (hc : zev C0 v c fL h0) (ho : Rw E cs h0 h x G R) (hl : G.length < 1000000000) (p : SInv c a n lo r G) (hlo : lo ≤ r) (hrn : r ≤ n) {b : Nat} (hb : a + n ≤ b)
  (hq : ∀ h' G', Heap c a n lo G' → zda a b G G' → Rw E cs h0 h' x G' R → Q (.tup []) h') :
  zcy.cps C E C0 fL x (.int .i64 (r : Int)) (.int .i64 (n : Int)) (.int .i64 (a : Int)) f h Q := by
 simp -dsimp only [zcy.cps]
 refine zd.intro (fun t vs hh => ∃ (r' : Nat) (G' : List X), r' + t = n ∧ vs = [.int .i64 (r' : Int)] ∧ lo ≤ r' ∧ SInv c a n lo r' G' ∧ zda a b G G' ∧ Rw E cs h0 hh x G' R) (n - r) ?_ ⟨r, G, by omega, rfl, hlo, p, zda.refl _ _ _, ho⟩
 rintro Y t vs hh ⟨r', G', hrt, rfl, hlo', p', W', o⟩ hY
 have hlen := W'.len
 have pl := p'.len
 have e1 : V.bin .mul (.int .i64 2) (.int .i64 (r' : Int)) = some (.int .i64 ((2 * r' : Nat) : Int)) := mulN (a := 2) (b := r') (by omega)
 simp -dsimp only [zcy.l4, zcy.k3, e1, add1 (show 2 * r' < 4611686018427387904 by omega), geqN, B.zg]
 refine B.zn (fun hd => ?_) (fun hd => ?_)
 ·rw [decide_eq_true_eq] at hd
  exact hq hh G' (p'.done fun k k0 hk hkp _ _ => by omega) W' o
 ·rw [decide_eq_false_iff_not] at hd
  have fin : ∀ ch, ch < n → (ch - 1) / 2 = r' → 0 < ch → (∀ k, 0 < k → k < n → (k - 1) / 2 = r' → (h1 : a + ch < G'.length) → (h2 : a + k < G'.length) → ¬ c G'[a + ch] G'[a + k] < 0) → zcy.k1 C E C0 fL Q Y x (.int .i64 (n : Int)) (.int .i64 (a : Int)) f (.int .i64 (r' : Int)) (.int .i64 (ch : Int)) hh := fun ch c1 c2 c3 c4 =>
   sift_k1 S W hc o (by omega) p' hlo' c1 c2 c3 c4 (fun h' hp o' => hq h' G' hp W' o') fun h' hr hcl p2 o2 => hY (n - ch) _ _ (by omega) ⟨ch, _, by omega, rfl, by omega, p2, W'.trans (ze3 hr hcl (by omega) (by omega) (by omega) (by omega)), o2⟩
  have irr : ∀ t : X, ¬ c t t < 0 := fun t => by
   have := W.irr t; unfold zey at this; exact of_decide_eq_false this
  have a1 := zke (a := a) (b := 2 * r' + 1) (by omega)
  simp -dsimp only [zcy.k2, add1 (show 2 * r' + 1 < 4611686018427387904 by omega), lssN, B.zg]
  by_cases h2 : 2 * r' + 1 + 1 < n
  ·have l1 : a + (2 * r' + 1) < G'.length := by omega
   have l2 : a + (2 * r' + 1) + 1 < G'.length := by omega
   simp -dsimp only [h2, decide_true, B.gd_t, B.zec, a1, add1 (show a + (2 * r' + 1) < 4611686018427387904 by omega), o.idx l1, o.idx l2, B.zg]
   refine o.ld S (List.getElem?_eq_getElem l1) ?_
   refine o.ld S (List.getElem?_eq_getElem l2) ?_
   refine hc.call _ _ _ _ o.le ?_
   simp -dsimp only [h2, decide_true, B.gd_t, B.zec, V.zfq, B.zh2, B.zg]
   refine B.zn (fun hf => ?_) (fun hf => ?_)
   ·have hf' : c G'[a + (2 * r' + 1)] G'[a + (2 * r' + 1) + 1] < 0 := by simpa using hf
    simp -dsimp only [add1 (show 2 * r' + 1 < 4611686018427387904 by omega), B.zg]
    refine fin (2 * r' + 1 + 1) h2 (by omega) (by omega) fun k k0 hk hkp h1 h3 => ?_
    rcases (show k = 2 * r' + 1 ∨ k = 2 * r' + 1 + 1 by omega) with rfl | rfl
    ·have := W.asym (a := G'[a + (2 * r' + 1)]) (b := G'[a + (2 * r' + 1) + 1]) (by unfold zey; exact decide_eq_true hf')
     unfold zey at this; exact of_decide_eq_false this
    ·exact irr _
   ·have hf' : ¬ c G'[a + (2 * r' + 1)] G'[a + (2 * r' + 1) + 1] < 0 := by simpa using hf
    refine fin (2 * r' + 1) (by omega) (by omega) (by omega) fun k k0 hk hkp h1 h3 => ?_
    rcases (show k = 2 * r' + 1 ∨ k = 2 * r' + 1 + 1 by omega) with rfl | rfl
    ·exact irr _
    ·exact hf'
  ·simp -dsimp only [h2, decide_false, B.gd_t, B.zfd, B.zik, B.cond_false]
   refine fin (2 * r' + 1) (by omega) (by omega) (by omega) fun k k0 hk hkp h1 h3 => ?_
   have : k = 2 * r' + 1 := by omega
   subst this; exact irr _
end
section
variable {X : Type} {c : X → X → Int} {a b n lo : Nat} {G G' : List X}
end
abbrev SiftI (C : CSem) (E : z5) (C0 : CSem) (fL : Nat) (f1 : Nat) : Prop := ∀ (v0 v1 v2 v3 v4 : AVal) (h : zb) (Q : AVal → zb → Prop), zcy.cps C E C0 fL v0 v1 v2 v3 v4 h (dn Q) → C f1 [v0, v1, v2, v3, v4] h Q
section
variable {E : z5} {X : Type} {cs : X → List AVal} {v : X → AVal} {h0 h : zb} {x f : AVal} {G : List X} {R : List (List AVal)} {c : X → X → Int} {Q : AVal → zb → Prop} {a b : Nat}
theorem insertion_srt (S : zd9 E cs v) (W : Weak (zey c)) (hc : zev C0 v c fL h0) (ho : Rw E cs h0 h x G R) (hl : G.length ≤ 100000000) (hab : a ≤ b) (hb : b ≤ G.length)
  (hq : ∀ h' G', zda a b G G' → Srt c a b G' → Rw E cs h0 h' x G' R → Q (.tup []) h') : zcs.cps C E C0 fL x (.int .i64 (a : Int)) (.int .i64 (b : Int)) f h Q := by
 have e0 : ∀ (L : List X), (L.map (fun y => (y, 0))).map (fun p : X × Nat => cs p.1) = L.map cs := fun L => by rw [List.map_map]; rfl
 have e1 : ∀ (L : List (X × Nat)), L.map (fun p : X × Nat => cs p.1) = (L.map (·.1)).map cs := fun L => by rw [List.map_map]; rfl
 have lt : (G.take a).length = a := by rw [List.length_take]; omega
 have lm : ((G.take b).drop a).length = b - a := by rw [List.length_drop, List.length_take]; omega
 refine zns (P := (G.take a).map (fun y => (y, 0))) (M := ((G.take b).drop a).zipIdx) (U := (G.drop b).map (fun y => (y, 0))) S W ?_ ?_ hc ?_ ?_ ?_ ?_ (R := R) (h0 := h0)
 ·simp only [List.length_append, List.length_map, List.length_zipIdx, lt, lm, List.length_drop]; omega
 ·have : (((G.take b).drop a).zipIdx.map (·.2)).Pairwise (· < ·) := by
   rw [List.zipIdx_map_snd]; exact List.pairwise_lt_range'
  rwa [List.pairwise_map] at this
 ·rw [List.length_map, lt]
 ·rw [List.length_map, List.length_zipIdx, lt, lm]; omega
 ·unfold Rw
  rw [List.map_append, List.map_append, e0, e0, e1, List.zipIdx_map_fst, ← List.map_append, ← List.map_append, ← split3 hab G]
  exact ho
 ·intro h' M' hp hs ho'
  have hp' : (M'.map (·.1)).Perm ((G.take b).drop a) := by
   have := hp.map (·.1); rwa [List.zipIdx_map_fst] at this
  refine hq h' (G.take a ++ (M'.map (·.1) ++ G.drop b)) (within_mid hab hb hp') (srt_mid hab hb (by rw [hp'.length_eq, lm]) ?_) ?_
  ·rw [List.pairwise_map]
   refine hs.imp fun {x y} hxy => ?_
   have hx : zey c y.1 x.1 = false := hxy.elim (fun h => W.asym h) fun ⟨h, _⟩ => h
   unfold zey at hx; exact of_decide_eq_false hx
  ·unfold Rw at ho' ⊢
   rw [List.map_append, List.map_append, e0, e0, e1] at ho'
   rwa [List.map_append, List.map_append]
theorem heapSort_spec {f1 : Nat} (is : SiftI C E C0 fL f1) (S : zd9 E cs v) (W : Weak (zey c)) (hc : zev C0 v c fL h0) (ho : Rw E cs h0 h x G R) (hl : G.length ≤ 100000000) (hab : a < b) (hb : b ≤ G.length)
  (hq : ∀ h' G', zda a b G G' → Srt c a b G' → Rw E cs h0 h' x G' R → Q (.tup []) h') : zcz.cps C E C0 fL f1 x (.int .i64 (a : Int)) (.int .i64 (b : Int)) f h Q := by
 have e1 := zih (a := b) (b := a) (by omega) (by omega)
 obtain ⟨n, hn⟩ : ∃ n, n = b - a := ⟨_, rfl⟩
 have e2 : V.bin .quo (.int .i64 ((n - 1 : Nat) : Int)) (.int .i64 2) = some (.int .i64 (((n - 1) / 2 : Nat) : Int)) := by
  rw [V.zot _ _ _ (by omega), show ((n - 1 : Nat) : Int).tdiv 2 = (((n - 1) / 2 : Nat) : Int) from rfl, wrap_i64 (by omega) (by omega)]
 have m1 : ∀ k : Nat, k ≤ 100000000 → V.bin .sub (.int .i64 (k : Int)) (.int .i64 1) = some (.int .i64 ((k : Int) - 1)) := fun k hk => by
  rw [V.zfk, wrap_i64 (by omega) (by omega)]
 have m2 : ∀ k : Nat, k ≤ 100000000 → V.bin .sub (.int .i64 ((k + 1 : Nat) - 1 : Int)) (.int .i64 1) = some (.int .i64 ((k : Int) - 1)) := fun k hk => by
  rw [V.zfk, wrap_i64 (by omega) (by omega)]; congr 2; omega
 simp -dsimp only [zcz.cps, zcz.k5, e1, B.zg]
 rw [← hn]
 simp -dsimp only [sub1 (show 1 ≤ n by omega) (by omega), e2, B.zg]
 refine zd.intro (fun t vs hh => ∃ (G' : List X), vs = [.int .i64 ((t : Int) - 1)] ∧ t ≤ n ∧ Heap c a n t G' ∧ zda a b G G' ∧ Rw E cs h0 hh x G' R) ((n - 1) / 2 + 1) ?_ ⟨G, by congr 2; omega, by omega, Heap.none_ (by omega), zda.refl _ _ _, ho⟩
 rintro Y t vs hh ⟨G1, rfl, htn, p1, W1, o1⟩ hY
 have l1 := W1.len
 simp -dsimp only [zcz.l4, zcz.k3, V.zk1, B.zg]
 cases t with
 | succ k =>
  rw [show decide ((0 : Int) ≤ ((k + 1 : Nat) : Int) - 1) = true by simp, B.cond_true, show (((k + 1 : Nat) : Int) - 1) = (k : Int) by omega]
  refine is _ _ _ _ _ _ _ (zna (b := b) S W hc o1 (by omega) (p1.sinv (by omega)) (Nat.le_refl _) (by omega) (by omega) fun h2 G2 p2 w2 o2 => zbj ?_)
  simp -dsimp only [m1 k (by omega), B.zg]
  exact hY k _ _ (by omega) ⟨G2, rfl, by omega, p2, W1.trans w2, o2⟩
 | zero =>
  rw [show decide ((0 : Int) ≤ ((0 : Nat) : Int) - 1) = false by simp, B.cond_false]
  simp -dsimp only [m1 n (by omega), B.zg]
  refine zd.intro (fun t vs hh => ∃ (G' : List X), vs = [.int .i64 ((t : Int) - 1)] ∧ t ≤ n ∧ Heap c a t 0 G' ∧ Cut c a b a (a + t) G' ∧ zda a b G G' ∧ Rw E cs h0 hh x G' R) n ?_ ⟨G1, rfl, Nat.le_refl _, p1, fun p q _ _ h3 h4 => by omega, W1, o1⟩
  rintro Z t vs hh ⟨G2, rfl, htn, p2, c2, W2, o2⟩ hZ
  have l2 := W2.len
  simp -dsimp only [zcz.l2, zcz.k1, V.zk1, B.zg]
  cases t with
  | zero =>
   rw [show decide ((0 : Int) ≤ ((0 : Nat) : Int) - 1) = false by simp, B.cond_false]
   exact hq hh G2 W2 (c2.small (by omega)) o2
  | succ k =>
   rw [show decide ((0 : Int) ≤ ((k + 1 : Nat) : Int) - 1) = true by simp, B.cond_true, show (((k + 1 : Nat) : Int) - 1) = (k : Int) by omega]
   have ac := zke (a := a) (b := k) (by omega)
   have la : a < G2.length := by omega
   have lk : a + k < G2.length := by omega
   simp -dsimp only [ac, o2.idx la, o2.idx lk, B.zg]
   refine o2.ld S (List.getElem?_eq_getElem lk) ?_
   refine o2.ld S (List.getElem?_eq_getElem la) ?_
   refine o2.swap S la lk fun h3 o3 => ?_
   have hsl := zje la lk
   have w3 : zda a (a + (k + 1)) G2 (swp G2 a (a + k) la lk) := ze3 la lk (by omega) (by omega) (by omega) (by omega)
   have c3 := c2.within w3 (Nat.le_refl _) (by omega)
   have c4 : Cut c a b a (a + k) (swp G2 a (a + k) la lk) := fun p q h1 h2 h3 h4 h5 h6 => by
    by_cases e : a + (k + 1) ≤ q
    ·exact c3 p q h1 h2 h3 (.inr e) h5 h6
    ·have : q = a + k := by omega
     subst this
     rw [zgh la lk h6 (by omega), if_pos rfl, zgh la lk h5 (by omega), if_neg (by omega)]
     split
     ·exact p2.root W (by omega) k (by omega)
     ·have := p2.root W (by omega) (p - a) (by omega)
      simpa only [show a + (p - a) = p by omega] using this
   have s3 : SInv c a k 0 0 (swp G2 a (a + k) la lk) := ⟨by omega, fun j j0 hj _ hne h1 h2 => by
    rw [zgh la lk h1 (by omega), if_neg (by omega), if_neg (by omega), zgh la lk h2 (by omega), if_neg (by omega), if_neg (by omega)]
    exact p2 j j0 (by omega) (by omega) (by omega) (by omega), fun _ h => by omega⟩
   refine is _ _ _ _ _ _ _ (zna (r := 0) (b := a + k) S W hc o3 (by omega) s3 (Nat.le_refl _) (by omega) (by omega) fun h4 G4 p4 w4 o4 => zbj ?_)
   simp -dsimp only [m1 k (by omega), B.zg]
   exact hZ k _ _ (by omega) ⟨G4, rfl, by omega, p4, c4.within w4 (Nat.le_refl _) (by omega), (W2.trans (w3.mono (Nat.le_refl _) (by omega))).trans (w4.mono (Nat.le_refl _) (by omega)), o4⟩
end
section
variable {X : Type} {c : X → X → Int} {A B j : Nat} {G : List X}
end
section
variable {E : z5} {X : Type} {cs : X → List AVal} {v : X → AVal} {h0 h : zb} {x f : AVal} {G : List X} {R : List (List AVal)} {c : X → X → Int} {Q : AVal → zb → Prop} {Y1 : List AVal → zb → Prop} {a b i s : Nat}
theorem pis_k3 (S : zd9 E cs v) (hc : zev C0 v c fL h0) (ho : Rw E cs h0 h x G R) (hl : G.length ≤ 100000000) (hi0 : 0 < i) (hi : i < b) (hb : b ≤ G.length) (hs : s ≤ 5)
  (hY : ∀ h' G', zda i b G G' → Rw E cs h0 h' x G' R → Y1 [.int .i64 (i : Int), .int .i64 ((s + 1 : Nat) : Int)] h') :
  zh.k3 C E C0 fL Q Y1 x (.int .i64 (a : Int)) (.int .i64 (b : Int)) f (.int .i64 (i : Int)) (.int .i64 (s : Int)) h := by
 have hge : V.bin .geq (.int .i64 ((b - i : Nat) : Int)) (.int .i64 2) = some (.bool (decide (2 ≤ b - i))) := geqN (b := 2)
 simp -dsimp only [zh.k3, zih (show i ≤ b by omega) (by omega), hge, add1 (show s < 4611686018427387904 by omega), add1 (show i < 4611686018427387904 by omega), B.zg]
 refine B.zn (fun hd => ?_) (fun hd => ?_)
 rotate_left
 ·simp -dsimp only [add1 (show s < 4611686018427387904 by omega), B.zg]
  exact hY h G (zda.refl _ _ _) ho
 rw [decide_eq_true_eq] at hd
 simp -dsimp only [add1 (show i < 4611686018427387904 by omega), B.zg]
 refine zd.intro (fun t vs hh => ∃ (j : Nat) (G' : List X), j + t = b ∧ vs = [.int .i64 (j : Int)] ∧ i < j ∧ zda i b G G' ∧ Rw E cs h0 hh x G' R) (b - (i + 1)) ?_ ⟨i + 1, G, by omega, rfl, by omega, zda.refl _ _ _, ho⟩
 rintro Y t vs hh ⟨j, G1, hjt, rfl, hij, W1, o⟩ hY2
 have hlen := W1.len
 simp -dsimp only [zh.l2, zh.k1, lssN, B.zg]
 refine B.zn (fun he => ?_) (fun he => ?_)
 ·rw [decide_eq_true_eq] at he
  have lj : j < G1.length := by omega
  have lj1 : j - 1 < G1.length := by omega
  have sj := sub1 (a := j) (by omega) (by omega)
  simp -dsimp only [sj, o.idx lj, o.idx lj1, B.zg]
  refine o.ld S (List.getElem?_eq_getElem lj) ?_
  refine o.ld S (List.getElem?_eq_getElem lj1) ?_
  refine hc.call _ _ _ _ o.le ?_
  simp -dsimp only [V.zfq, V.zkn, B.zg]
  refine B.zn (fun hd => ?_) (fun hd => ?_)
  ·simp -dsimp only [add1 (show s < 4611686018427387904 by omega), B.zg]
   exact hY hh G1 W1 o
  ·simp -dsimp only [sj, o.idx lj, o.idx lj1, B.zg]
   refine o.ld S (List.getElem?_eq_getElem lj1) ?_
   refine o.ld S (List.getElem?_eq_getElem lj) ?_
   refine o.swap S lj lj1 fun h2 o2 => ?_
   simp -dsimp only [add1 (show j < 4611686018427387904 by omega), B.zg]
   exact hY2 (b - (j + 1)) _ _ (by omega) ⟨j + 1, _, by omega, rfl, by omega, W1.trans (ze3 lj lj1 (by omega) (by omega) (by omega) (by omega)), o2⟩
 ·simp -dsimp only [add1 (show s < 4611686018427387904 by omega), B.zg]
  exact hY hh G1 W1 o
theorem pis_k6 (S : zd9 E cs v) (W : Weak (zey c)) (hc : zev C0 v c fL h0) (ho : Rw E cs h0 h x G R) (hl : G.length ≤ 100000000) (hai : a < i) (hi : i < b) (hb : b ≤ G.length) (hs : s ≤ 5) (hp : Pre c a b G) (h1 : But1 c a i (i - 1) G)
  (hY : ∀ h' G', zda a b G G' → Srt c a i G' → Rw E cs h0 h' x G' R → Y1 [.int .i64 (i : Int), .int .i64 ((s + 1 : Nat) : Int)] h') :
  zh.k6 C E C0 fL Q Y1 x (.int .i64 (a : Int)) (.int .i64 (b : Int)) f (.int .i64 (i : Int)) (.int .i64 (s : Int)) h := by
 have fin : ∀ {hh G1}, Rw E cs h0 hh x G1 R → zda a b G G1 → Srt c a i G1 → zh.k3 C E C0 fL Q Y1 x (.int .i64 (a : Int)) (.int .i64 (b : Int)) f (.int .i64 (i : Int)) (.int .i64 (s : Int)) hh := fun {hh G1} o W1 s1 => by
  have l1 := W1.len
  refine pis_k3 S hc o (by omega) (by omega) hi (by omega) hs fun h2 G2 W2 o2 => hY h2 G2 (W1.trans (W2.mono (by omega) (Nat.le_refl _))) (fun p q h1 h2 h3 h4 h5 => ?_) o2
  have l2 := W2.len
  rw [W2.same (k := p) (.inl (by omega)) h4 (by omega), W2.same (k := q) (.inl (by omega)) h5 (by omega)]
  exact s1 p q h1 h2 h3 _ _
 have hge : V.bin .geq (.int .i64 ((i - a : Nat) : Int)) (.int .i64 2) = some (.bool (decide (2 ≤ i - a))) := geqN (b := 2)
 simp -dsimp only [zh.k6, zih (show a ≤ i by omega) (by omega), hge, sub1 (show 1 ≤ i by omega) (by omega), B.zg]
 refine B.zn (fun hd => ?_) (fun hd => ?_)
 ·simp -dsimp only [sub1 (show 1 ≤ i by omega) (show i < 4611686018427387904 by omega), B.zg]
  refine zd.intro (fun t vs hh => ∃ (G' : List X), vs = [.int .i64 (t : Int)] ∧ a ≤ t ∧ t < i ∧ But1 c a i t G' ∧ zda a b G G' ∧ Rw E cs h0 hh x G' R) (i - 1) ?_ ⟨G, rfl, by omega, by omega, h1, zda.refl _ _ _, ho⟩
  rintro Y j vs hh ⟨G1, rfl, haj, hji, b1, W1, o⟩ hY2
  have hlen := W1.len
  have lj : j < G1.length := by omega
  have hg1 : V.bin .geq (.int .i64 (j : Int)) (.int .i64 1) = some (.bool (decide (1 ≤ j))) := geqN (b := 1)
  simp -dsimp only [zh.l5, zh.k4, hg1, B.zg]
  refine B.zn (fun he => ?_) (fun he => ?_)
  ·rw [decide_eq_true_eq] at he
   have lj1 : j - 1 < G1.length := by omega
   have sj := sub1 (a := j) (by omega) (by omega)
   simp -dsimp only [sj, o.idx lj, o.idx lj1, B.zg]
   refine o.ld S (List.getElem?_eq_getElem lj) ?_
   refine o.ld S (List.getElem?_eq_getElem lj1) ?_
   refine hc.call _ _ _ _ o.le ?_
   simp -dsimp only [V.zfq, V.zkn, B.zg]
   refine B.zn (fun hd => ?_) (fun hd => ?_)
   ·exact fin o W1 (b1.done W lj (.inr fun _ => by simpa using hd))
   ·have hlt : c G1[j] G1[j - 1] < 0 := by simpa using hd
    have haj2 : a < j := by
     rcases Nat.lt_or_ge a j with k | k
     ·exact k
     ·have : j = a := by omega
      subst this
      exact absurd hlt ((hp.within W1) (by omega) j (Nat.le_refl _) (by omega) _ _)
    simp -dsimp only [sj, o.idx lj, o.idx lj1, B.zg]
    refine o.ld S (List.getElem?_eq_getElem lj1) ?_
    refine o.ld S (List.getElem?_eq_getElem lj) ?_
    refine o.swap S lj lj1 fun h2 o2 => ?_
    exact hY2 (j - 1) _ _ (by omega) ⟨_, rfl, by omega, by omega, b1.step W haj2 lj lj1 hlt, W1.trans (ze3 lj lj1 (by omega) (by omega) (by omega) (by omega)), o2⟩
  ·rw [decide_eq_false_iff_not] at he
   exact fin o W1 (b1.done W lj (.inl (by omega)))
 ·rw [decide_eq_false_iff_not] at hd
  exact fin ho (zda.refl _ _ _) fun p q _ _ _ _ _ => by omega
theorem zjf (S : zd9 E cs v) (W : Weak (zey c)) (hc : zev C0 v c fL h0) (ho : Rw E cs h0 h x G R) (hl : G.length ≤ 100000000) (hab : a < b) (hb : b ≤ G.length) (hp : Pre c a b G)
  (hq : ∀ h' G' t, zda a b G G' → (t = true → Srt c a b G') → Rw E cs h0 h' x G' R → Q (.bool t) h') :
  zh.cps C E C0 fL x (.int .i64 (a : Int)) (.int .i64 (b : Int)) f h Q := by
 simp -dsimp only [zh.cps, add1 (show a < 4611686018427387904 by omega), B.zg]
 refine zd.intro (fun t vs hh => ∃ (s i : Nat) (G' : List X), s + t = 5 ∧ vs = [.int .i64 (i : Int), .int .i64 (s : Int)] ∧ a < i ∧ i ≤ b ∧ Srt c a i G' ∧ zda a b G G' ∧ Rw E cs h0 hh x G' R) 5 ?_ ⟨0, a + 1, G, rfl, rfl, by omega, by omega, fun p q _ _ _ _ _ => by omega, zda.refl _ _ _, ho⟩
 rintro Y t vs hh ⟨s, i, G1, hst, rfl, hai, hib, s1, W1, o⟩ hY
 have hl1 := W1.len
 have h5 : V.bin .lss (.int .i64 (s : Int)) (.int .i64 5) = some (.bool (decide (s < 5))) := lssN (b := 5)
 simp -dsimp only [zh.l12, zh.k11, h5, B.zg]
 refine B.zn (fun hd => ?_) (fun hd => hq hh G1 false W1 (fun h => by cases h) o)
 rw [decide_eq_true_eq] at hd
 refine zd.intro (fun t vs hh => ∃ (i : Nat), i + t = b ∧ vs = [.int .i64 (i : Int)] ∧ a < i ∧ Srt c a i G1 ∧ Rw E cs h0 hh x G1 R) (b - i) ?_ ⟨i, by omega, rfl, hai, s1, o⟩
 rintro Z t vs hh ⟨i, hit, rfl, hai, s2, o2⟩ hZ
 simp -dsimp only [zh.l10, zh.k9, lssN, B.zg]
 by_cases hd2 : i < b
 ·have li : i < G1.length := by omega
  have li1 : i - 1 < G1.length := by omega
  have si := sub1 (a := i) (by omega) (by omega)
  simp -dsimp only [hd2, decide_true, B.gd_t, B.zec, si, o2.idx li, o2.idx li1, B.zg]
  refine o2.ld S (List.getElem?_eq_getElem li) ?_
  refine o2.ld S (List.getElem?_eq_getElem li1) ?_
  refine hc.call _ _ _ _ o2.le ?_
  simp -dsimp only [hd2, decide_true, B.gd_t, B.zec, V.zfq, V.zkn, B.zh2, B.zg]
  refine B.zn (fun he => ?_) (fun he => ?_)
  ·have hnl : ¬ c G1[i] G1[i - 1] < 0 := by simpa using he
   simp -dsimp only [add1 (show i < 4611686018427387904 by omega), B.zg]
   refine hZ (t - 1) _ _ (by omega) ⟨i + 1, by omega, rfl, by omega, ?_, o2⟩
   exact But1.done W (j := i) (fun p q h1 h2 h3 h4 h5 h6 => s2 p q h1 h2 (by omega) h5 h6) li (.inr fun _ => hnl)
  ·have hlt : c G1[i] G1[i - 1] < 0 := by simpa using he
   have hne : V.bin .eql (.int .i64 (i : Int)) (.int .i64 (b : Int)) = some (.bool false) := by rw [V.zjj]; simp; omega
   simp -dsimp only [hne, B.zg, B.cond_false, zh.k8, zh.k7, zih (show a ≤ b by omega) (show b < 4611686018427387904 by omega)]
   rw [show V.bin .lss (.int .i64 ((b - a : Nat) : Int)) (.int .i64 50) = some (.bool (decide (b - a < 50))) from lssN (b := 50)]
   simp -dsimp only [B.zg]
   refine B.zn (fun hf => hq hh G1 false W1 (fun h => by cases h) o2) (fun hf => ?_)
   simp -dsimp only [zh.k7, si, o2.idx li, o2.idx li1, B.zg]
   refine o2.ld S (List.getElem?_eq_getElem li1) ?_
   refine o2.ld S (List.getElem?_eq_getElem li) ?_
   refine o2.swap S li li1 fun h3 o3 => ?_
   have hsl := zje li li1
   have w3 : zda a b G1 (swp G1 i (i - 1) li li1) := ze3 li li1 (by omega) (by omega) (by omega) (by omega)
   have W3 := W1.trans w3
   refine pis_k6 S W hc o3 (by omega) hai hd2 (by omega) (by omega) (hp.within W3) (fun p q h1 h2 h3 h4 h5 h6 => ?_) fun h4 G4 W4 s4 o4 => hY (5 - (s + 1)) _ _ (by omega) ⟨s + 1, i, G4, by omega, rfl, hai, by omega, s4, W3.trans W4, o4⟩
   rw [zgh li li1 h6 (by omega), if_neg h4, if_neg (by omega), zgh li li1 h5 (by omega), if_neg (by omega), if_neg (by omega)]
   exact s2 p q h1 h2 h3 _ _
 ·have e : i = b := by omega
  subst e
  have heq : V.bin .eql (.int .i64 (i : Int)) (.int .i64 (i : Int)) = some (.bool true) := by rw [V.zjj]; simp
  simp -dsimp only [hd2, decide_false, B.gd_t, B.zfd, B.zik, B.cond_false, heq, B.cond_true, B.zg]
  exact hq hh G1 true W1 (fun _ => s2) o2
end
variable {C C0 : CSem} {fL : Nat} {N : Nat → Nat}
section
variable {E : z5} {X : Type} {cs : X → List AVal} {v : X → AVal} {h0 h : zb} {x f : AVal} {G : List X} {R : List (List AVal)} {Q : AVal → zb → Prop} {a b : Nat}
theorem zn0 {f1 f2 : Nat} (hn : NextI C0 f1) (hp : PowI C0 f2) (S : zd9 E cs v) (ho : Rw E cs h0 h x G R) (hl : G.length ≤ 100000000) (hab : a ≤ b) (hb : b ≤ G.length)
  (hq : ∀ h' G', zda a b G G' → Rw E cs h0 h' x G' R → Q (.tup []) h') : z0.cps C E C0 fL f1 f2 x (.int .i64 (a : Int)) (.int .i64 (b : Int)) f h Q := by
 obtain ⟨n, en⟩ : ∃ n, n = b - a := ⟨_, rfl⟩
 have e1 := zih hab (show b < 4611686018427387904 by omega)
 rw [← en] at e1
 have g8 : V.bin .geq (.int .i64 (n : Int)) (.int .i64 8) = some (.bool (decide (8 ≤ n))) := geqN (b := 8)
 simp -dsimp only [z0.cps, z0.k8, e1, g8, B.zg]
 refine B.zn (fun hd => ?_) (fun hd => hq h G (zda.refl _ _ _) ho)
 rw [decide_eq_true_eq] at hd
 simp -dsimp only [z0.k7, toUN (show n < 18446744073709551616 by omega), B.zg]
 intro id hid
 have o := Owns.zr2 ho hid [.int .u64 0]
 simp only [List.cons_append, List.nil_append] at o
 refine o.boxSt 1 (off := 0) rfl rfl (by simp) fun h1 o1 _ => ?_
 simp only [List.set_cons_succ, List.set_cons_zero] at o1
 refine hp n _ _ (by omega) (by omega) fun m hm0 hm => ?_
 have m4 : V.bin .quo (.int .i64 (n : Int)) (.int .i64 4) = some (.int .i64 ((n / 4 : Nat) : Int)) := quo4 (by omega)
 have m2 : V.bin .mul (.int .i64 ((n / 4 : Nat) : Int)) (.int .i64 2) = some (.int .i64 ((n / 4 * 2 : Nat) : Int)) := mulN (a := n / 4) (b := 2) (by omega)
 have m5 : V.bin .add (.int .i64 (a : Int)) (.int .i64 ((n / 4 * 2 : Nat) : Int)) = some (.int .i64 ((a + n / 4 * 2 : Nat) : Int)) := zke (by omega)
 simp -dsimp only [z0.k6, m4, m2, m5, sub1 (show 1 ≤ a + n / 4 * 2 by omega) (by omega), B.zg]
 refine zd.intro (fun t vs hh => ∃ (i : Nat) (G' : List X) (z : Int), i + t = a + n / 4 * 2 + 2 ∧ vs = [.int .i64 (i : Int)] ∧ a ≤ i ∧ zda a b G G' ∧ Owns h0 hh [.sl E.es x (G'.map cs) R, .box (.ptr id 0 0) [.int .u64 z]]) 3 ?_ ⟨a + n / 4 * 2 - 1, G, _, by omega, rfl, by omega, zda.refl _ _ _, o1⟩
 rintro Y t vs hh ⟨i, G1, z, hit, rfl, hai, W1, o2⟩ hY
 have l1 := W1.len
 simp -dsimp only [z0.l5, z0.k4, m4, m2, m5, add1 (show a + n / 4 * 2 < 4611686018427387904 by omega), leqN, B.zg]
 refine B.zn (fun he => ?_) (fun he => hq hh G1 W1 (o2.sub (by simp)))
 rw [decide_eq_true_eq] at he
 have oo := Owns.out (l1 := [.sl E.es x (G1.map cs) R]) (l2 := [.box (.ptr id 0 0) [.int .u64 z]]) o2
 simp -dsimp only [z0.k3]
 refine hn _ _ _ _ _ oo.2 fun w z' h3 o3 => ?_
 have o4 := oo.1.join o3
 have s1 : V.bin .sub (.int .u64 (m : Int)) (.int .u64 1) = some (.int .u64 ((m - 1 : Nat) : Int)) := by
  rw [V.zfk, show (m : Int) - 1 = ((m - 1 : Nat) : Int) by omega, wrapU (by omega)]
 obtain ⟨ot, hot, ea⟩ := and_le (z := w) (m := m - 1) (by omega)
 simp -dsimp only [s1, ea, toIN (show ot < 4611686018427387904 by omega), B.zg, z0.k2, geqN]
 have fin : ∀ k : Nat, k < n → z0.k1 C E C0 fL f1 f2 Q Y x (.int .i64 (a : Int)) (.int .i64 (n : Int)) (.ptr id 0 0) (.int .u64 (m : Int)) (.int .i64 (i : Int)) (.int .i64 (k : Int)) h3 := fun k hk => by
  have la : a + k < G1.length := by omega
  have li : i < G1.length := by omega
  have op := Owns.perm o4 (List.Perm.swap _ _ [])
  have oq := Owns.out (l1 := [.box (.ptr id 0 0) [.int .u64 z']]) (l2 := [.sl E.es x (G1.map cs) R]) op
  have orw : Rw E cs _ h3 x G1 R := oq.2
  simp -dsimp only [z0.k1, zke (show a + k < 4611686018427387904 by omega), orw.idx la, orw.idx li, B.zg]
  refine orw.ld S (List.getElem?_eq_getElem la) ?_
  refine orw.ld S (List.getElem?_eq_getElem li) ?_
  refine orw.swap S li la fun h5 o5 => ?_
  simp -dsimp only [add1 (show i < 4611686018427387904 by omega), B.zg]
  have o6 := oq.1.join o5
  exact hY (a + n / 4 * 2 + 2 - (i + 1)) _ _ (by omega) ⟨i + 1, _, z', by omega, rfl, by omega, W1.trans (ze3 li la (by omega) (by omega) (by omega) (by omega)), o6.perm (List.Perm.swap _ _ [])⟩
 refine B.zn (fun hf => ?_) (fun hf => ?_)
 ·rw [decide_eq_true_eq] at hf
  simp -dsimp only [zih hf (show ot < 4611686018427387904 by omega), B.zg]
  exact fin (ot - n) (by omega)
 ·rw [decide_eq_false_iff_not] at hf
  exact fin ot (by omega)
end
section
variable {X : Type} {c : X → X → Int} {a b m A0 Z0 : Nat} {G G' : List X}
end
structure PdqI (C : CSem) (E : z5) (C0 : CSem) (fL : Nat) (f1 f2 f3 f4 f5 f6 f7 f8 f9 g1 g2 g3 g4 g5 g6 : Nat) : Prop where
 eq : I5 (zu.cps C E C0 fL) C f1
 part : I5 (zm.cps C E C0 fL) C f2
 pdq : I5 (zbi.cps C E C0 fL f1 f2 f3 f4 f5 f6 f7 f8 f9) C f3
 pis : I4 (zh.cps C E C0 fL) C f4
 rev : I4 (zdu.cps C E C0 fL) C f5
 piv : I4 (zbk.cps C E C0 fL g2 g3) C f6
 brk : I4 (z0.cps C E C0 fL g5 g6) C f7
 heap : I4 (zcz.cps C E C0 fL g4) C f8
 ins : I4 (zcs.cps C E C0 fL) C f9
 ord : O2I C E C0 fL g1
 med : MedI C E C0 fL g1 g2
 adj : AdjI C E C0 fL g2 g3
 sift : SiftI C E C0 fL g4
 next : NextI C0 g5
 pow : PowI C0 g6
section
variable {E : z5} {X : Type} {cs : X → List AVal} {v : X → AVal} {h0 h : zb} {x f : AVal} {G : List X} {R : List (List AVal)} {c : X → X → Int} {Q : AVal → zb → Prop} {Y : List AVal → zb → Prop} {f1 f2 f3 f4 f5 f6 f7 f8 f9 g1 g2 g3 g4 g5 g6 : Nat}
theorem pdq_k1 (J : PdqI C E C0 fL f1 f2 f3 f4 f5 f6 f7 f8 f9 g1 g2 g3 g4 g5 g6) (S : zd9 E cs v) (W : Weak (zey c)) (hc : zev C0 v c fL h0) {A0 Z0 a b : Nat} {G0 : List X} {lim : Int} {w1 w2 : Bool} {pv : Nat} (p : PS E cs h0 x R c A0 Z0 G0 a b G h) (hl : G.length ≤ 100000000) (hBl : Z0 ≤ G.length)
  (h1 : a ≤ pv) (h2 : pv < b)
  (rcs : ∀ (a' b' : Nat) (lim : Int) (h : zb) (G : List X) (Q : AVal → zb → Prop), b' - a' < b - a → a' ≤ b' → b' ≤ G.length → G.length ≤ 100000000 → Pre c a' b' G → Rw E cs h0 h x G R → (∀ h' G', zda a' b' G G' → Srt c a' b' G' → Rw E cs h0 h' x G' R → Q (.tup []) h') →
   C f3 [x, .int .i64 (a' : Int), .int .i64 (b' : Int), .int .i64 lim, f] h Q)
  (hY : Go1 E cs h0 x R c A0 Z0 G0 (b - a) Y) :
  zbi.k1 C E C0 fL f1 f2 f3 f4 f5 f6 f7 f8 f9 Q Y x (.int .i64 (a : Int)) (.int .i64 (b : Int)) (.int .i64 lim) f (.bool w1) (.bool w2) (.int .i64 ((b - a : Nat) : Int)) (.int .i64 (pv : Int)) h := by
 have hA := p.hA; have hB := p.hB; have o := p.o
 have lp : pv < G.length := by omega
 have part : zbi.k1 C E C0 fL f1 f2 f3 f4 f5 f6 f7 f8 f9 Q Y x (.int .i64 (a : Int)) (.int .i64 (b : Int)) (.int .i64 lim) f (.bool w1) (.bool w2) (.int .i64 ((b - a : Nat) : Int)) (.int .i64 (pv : Int)) h =
  zbi.k1 C E C0 fL f1 f2 f3 f4 f5 f6 f7 f8 f9 Q Y x (.int .i64 (a : Int)) (.int .i64 (b : Int)) (.int .i64 lim) f (.bool w1) (.bool w2) (.int .i64 ((b - a : Nat) : Int)) (.int .i64 (pv : Int)) h := rfl
 clear part
 have part : C f2 [x, .int .i64 (a : Int), .int .i64 (b : Int), .int .i64 (pv : Int), f] h (fun v111 h =>
  B.pv (V.ext 0 v111) fun v112 =>
  B.pv (V.ext 1 v111) fun v113 =>
  B.pv (V.bin .sub v112 (.int .i64 (a : Int))) fun v117 =>
  B.pv (V.bin .sub (.int .i64 (b : Int)) v112) fun v120 =>
  B.pv (V.bin .quo (.int .i64 ((b - a : Nat) : Int)) (.int .i64 8)) fun v122 =>
  B.pv (V.bin .lss v117 v120) fun v125 =>
  B.cond v125
  (B.pv (V.bin .geq v117 v122) fun v128 =>
  B.call C f3 [x, .int .i64 (a : Int), v112, .int .i64 lim, f] h fun v134 h =>
  B.pv (V.bin .add v112 (.int .i64 1)) fun v136 =>
  Y [v136, .int .i64 (b : Int), .int .i64 lim, v128, v113] h)
  (B.pv (V.bin .geq v120 v122) fun v139 =>
  B.pv (V.bin .add v112 (.int .i64 1)) fun v142 =>
  B.call C f3 [x, v142, .int .i64 (b : Int), .int .i64 lim, f] h fun v146 h =>
  Y [.int .i64 (a : Int), v112, .int .i64 lim, v139, v113] h)) := by
  refine J.part _ _ _ _ _ _ _ (zrl S hc o (by omega) h1 h2 (by omega) fun h3 m G3 t pt W3 o3 => zbj ?_)
  have p3 := p.turn W3 o3
  have l3 := W3.len
  have m1 := pt.ge; have m2 := pt.lt
  have q8 : V.bin .quo (.int .i64 ((b - a : Nat) : Int)) (.int .i64 8) = some (.int .i64 (((b - a) / 8 : Nat) : Int)) := by
   rw [V.zot _ _ _ (by omega), show ((b - a : Nat) : Int).tdiv 8 = (((b - a) / 8 : Nat) : Int) from rfl, wrap_i64 (by omega) (by omega)]
  simp -dsimp only [V.zq8, List.getElem?_cons_zero, List.getElem?_cons_succ, B.zg, zih m1 (show m < 4611686018427387904 by omega), zih (show m ≤ b by omega) (show b < 4611686018427387904 by omega), q8, lssN, geqN, add1 (show m < 4611686018427387904 by omega)]
  refine B.zn (fun hd => ?_) (fun hd => ?_)
  ·simp -dsimp only [geqN, add1 (show m < 4611686018427387904 by omega), B.zg]
   refine rcs a m lim _ G3 _ (by omega) m1 (by omega) (by omega) (p3.pre.sub (by omega)) o3 fun h4 G4 W4 s4 o4 => ?_
   have pt4 := pt.left W W4
   have cut4 := (p3.cut.within (W4.mono (Nat.le_refl _) (by omega)) hA hB).left W pt4 s4
   simp -dsimp only [add1 (show m < 4611686018427387904 by omega), B.zg]
   exact hY (m + 1) b lim _ _ G4 h4 (by omega) ⟨by omega, by omega, hB, p3.W.trans (W4.mono hA (by omega)), cut4, cut4.pre (by omega) hB, o4⟩
  ·have c3 : Pre c (m + 1) b G3 := fun h0 i k1 k2 k3 k4 => pt.pair W (p := m + 1 - 1) (q := i) (by omega) (by omega) k2 (by omega) (by omega) k4 k3
   simp -dsimp only [geqN, add1 (show m < 4611686018427387904 by omega), B.zg]
   refine rcs (m + 1) b lim _ G3 _ (by omega) (by omega) (by omega) (by omega) c3 o3 fun h4 G4 W4 s4 o4 => ?_
   have pt4 := pt.right W W4
   have W4' : zda a b G3 G4 := W4.mono (by omega) (Nat.le_refl _)
   have cut4 := (p3.cut.within W4' hA hB).right W pt4 s4
   exact hY a m lim _ _ G4 h4 (by omega) ⟨hA, m1, by omega, p3.W.trans (W4.mono (by omega) hB), cut4, (p3.pre.within W4').sub (by omega), o4⟩
 simp -dsimp only [zbi.k1]
 have g0 : V.bin .gtr (.int .i64 (a : Int)) (.int .i64 0) = some (.bool (decide (0 < a))) := gtrN (b := 0)
 simp -dsimp only [g0, B.zg]
 by_cases ha : 0 < a
 ·have la : a - 1 < G.length := by omega
  simp -dsimp only [ha, decide_true, B.gd_t, B.zec, sub1 (show 1 ≤ a by omega) (show a < 4611686018427387904 by omega), o.idx la, o.idx lp, B.zg]
  refine o.ld S (List.getElem?_eq_getElem la) ?_
  refine o.ld S (List.getElem?_eq_getElem lp) ?_
  refine hc.call _ _ _ _ o.le ?_
  simp -dsimp only [ha, decide_true, B.gd_t, B.zec, V.zfq, V.zkn, B.zh2, B.zg]
  refine B.zn (fun he => ?_) (fun he => part)
  have hd : ¬ c G[a - 1] G[pv] < 0 := by simpa using he
  refine J.eq _ _ _ _ _ _ _ (zmg S hc o (by omega) h1 h2 (by omega) fun h3 i j G3 pe hji W3 e3 o3 => zbj ?_)
  have p3 := p.turn W3 o3
  have l3 := W3.len
  have k1 := pe.hi; have k2 := pe.hij; have k3 := pe.hj
  have cut4 := p3.cut.equal W pe hji ha p3.pre (by omega) fun q1 q2 => by
   rw [e3 q2 lp, W3.same (.inl (by omega)) q1 la]; exact hd
  exact hY i b lim _ _ G3 h3 (by omega) ⟨by omega, by omega, hB, p3.W, cut4, cut4.pre (by omega) hB, o3⟩
 ·simp -dsimp only [ha, decide_false, B.gd_t, B.zfd, B.zik, B.cond_false]
  exact part
theorem pdq_spec (J : PdqI C E C0 fL f1 f2 f3 f4 f5 f6 f7 f8 f9 g1 g2 g3 g4 g5 g6) (S : zd9 E cs v) (W : Weak (zey c)) (hc : zev C0 v c fL h0) : ∀ (n : Nat) (A0 Z0 : Nat) (lim : Int) (h : zb) (G : List X) (Q : AVal → zb → Prop), Z0 - A0 = n → A0 ≤ Z0 → Z0 ≤ G.length → G.length ≤ 100000000 → Pre c A0 Z0 G → Rw E cs h0 h x G R →
  (∀ h' G', zda A0 Z0 G G' → Srt c A0 Z0 G' → Rw E cs h0 h' x G' R → Q (.tup []) h') → zbi.cps C E C0 fL f1 f2 f3 f4 f5 f6 f7 f8 f9 x (.int .i64 (A0 : Int)) (.int .i64 (Z0 : Int)) (.int .i64 lim) f h Q := by
 intro n
 induction n using Nat.strongRecOn with
 | ind n ih =>
 intro A0 Z0 lim h G0 Q hn hAB hBl hl hpre ho hq
 simp -dsimp only [zbi.cps]
 refine zd.intro (fun t vs hh => ∃ (a b : Nat) (lim : Int) (w1 w2 : Bool) (G : List X), t = b - a ∧ vs = [.int .i64 (a : Int), .int .i64 (b : Int), .int .i64 lim, .bool w1, .bool w2] ∧ PS E cs h0 x R c A0 Z0 G0 a b G hh) (Z0 - A0) ?_
  ⟨A0, Z0, lim, true, true, G0, rfl, rfl, ⟨Nat.le_refl _, hAB, Nat.le_refl _, zda.refl _ _ _, fun p q _ _ _ k => by omega, hpre, ho⟩⟩
 rintro Y t vs hh ⟨a, b, lim, w1, w2, G, rfl, rfl, p⟩ hY'
 have hY : Go1 E cs h0 x R c A0 Z0 G0 (b - a) Y := fun a' b' lim' w1' w2' G' h' hlt p' => hY' (b' - a') _ _ hlt ⟨a', b', lim', w1', w2', G', rfl, rfl, p'⟩
 clear hY'
 have hA := p.hA; have hab := p.hab; have hB := p.hB
 have lG := p.W.len
 have rcs : ∀ (a' b' : Nat) (lim : Int) (h : zb) (G : List X) (Q : AVal → zb → Prop), b' - a' < b - a → a' ≤ b' → b' ≤ G.length → G.length ≤ 100000000 → Pre c a' b' G → Rw E cs h0 h x G R → (∀ h' G', zda a' b' G G' → Srt c a' b' G' → Rw E cs h0 h' x G' R → Q (.tup []) h') →
   C f3 [x, .int .i64 (a' : Int), .int .i64 (b' : Int), .int .i64 lim, f] h Q := fun a' b' lim h G Q k1 k2 k3 k4 k5 k6 k7 =>
  J.pdq _ _ _ _ _ _ _ (ih (b' - a') (by omega) a' b' lim h G _ rfl k2 k3 k4 k5 k6 fun h' G' w s o => zbj (k7 h' G' w s o))
 have fin : ∀ {hh G G2}, PS E cs h0 x R c A0 Z0 G0 a b G hh → ∀ h', zda a b G G2 → Srt c a b G2 → Rw E cs h0 h' x G2 R → Q (.tup []) h' := fun p h' w s o => by
  have p2 := p.turn w o
  exact hq h' _ p2.W (p2.cut.join s) o
 have e12 : V.bin .leq (.int .i64 ((b - a : Nat) : Int)) (.int .i64 12) = some (.bool (decide (b - a ≤ 12))) := leqN (b := 12)
 simp -dsimp only [zbi.l8, zih hab (show b < 4611686018427387904 by omega), B.zg, zbi.k7, e12]
 refine B.zn (fun hd => ?_) (fun hd => ?_)
 ·exact J.ins _ _ _ _ _ _ (insertion_srt S W hc p.o (by omega) hab (by omega) fun h' G' w s o => zbj (fin p h' w s o))
 rw [decide_eq_false_iff_not] at hd
 simp -dsimp only [zbi.k6, V.zjj, B.zg]
 refine B.zn (fun _ => ?_) (fun _ => ?_)
 ·exact J.heap _ _ _ _ _ _ (heapSort_spec J.sift S W hc p.o (by omega) (by omega) (by omega) fun h' G' w s o => zbj (fin p h' w s o))
 have k4 : ∀ {hh G} (lim : Int), PS E cs h0 x R c A0 Z0 G0 a b G hh → zbi.k4 C E C0 fL f1 f2 f3 f4 f5 f6 f7 f8 f9 Q Y x (.int .i64 (a : Int)) (.int .i64 (b : Int)) (.int .i64 lim) f (.bool w1) (.bool w2) (.int .i64 ((b - a : Nat) : Int)) hh := fun {hh G} lim p => by
  have lG := p.W.len
  simp -dsimp only [zbi.k4]
  refine J.piv _ _ _ _ _ _ (zpn J.ord J.med J.adj S (Owns.slAt p.o 0 rfl) p.o.le hc (by omega) (by omega) (by omega) fun m hint h2 m1 m2 hle => zbj ?_)
  have p2 : PS E cs h0 x R c A0 Z0 G0 a b G h2 := ⟨p.hA, p.hab, p.hB, p.W, p.cut, p.pre, Owns.grow p.o hle⟩
  simp -dsimp only [V.zq8, List.getElem?_cons_zero, List.getElem?_cons_succ, B.zg, zbi.k3, V.zjj]
  have k2 : ∀ {hh G} (pv : Nat) (hint : Int), a ≤ pv → pv < b → PS E cs h0 x R c A0 Z0 G0 a b G hh → zbi.k2 C E C0 fL f1 f2 f3 f4 f5 f6 f7 f8 f9 Q Y x (.int .i64 (a : Int)) (.int .i64 (b : Int)) (.int .i64 lim) f (.bool w1) (.bool w2) (.int .i64 ((b - a : Nat) : Int)) (.int .i64 (pv : Int)) (.int .i64 hint) hh := fun {hh G} pv hint q1 q2 p => by
   have lG := p.W.len
   have go := pdq_k1 (Q := Q) (lim := lim) (w1 := w1) (w2 := w2) J S W hc p (by omega) (by omega) q1 q2 rcs hY
   simp -dsimp only [zbi.k2]
   have two : B.cond (.bool true) (B.call C f4 [x, .int .i64 (a : Int), .int .i64 (b : Int), f] hh fun v80 h =>
     B.cond v80 (Q (.tup []) h) (zbi.k1 C E C0 fL f1 f2 f3 f4 f5 f6 f7 f8 f9 Q Y x (.int .i64 (a : Int)) (.int .i64 (b : Int)) (.int .i64 lim) f (.bool w1) (.bool w2) (.int .i64 ((b - a : Nat) : Int)) (.int .i64 (pv : Int)) h))
     (zbi.k1 C E C0 fL f1 f2 f3 f4 f5 f6 f7 f8 f9 Q Y x (.int .i64 (a : Int)) (.int .i64 (b : Int)) (.int .i64 lim) f (.bool w1) (.bool w2) (.int .i64 ((b - a : Nat) : Int)) (.int .i64 (pv : Int)) hh) := by
    rw [B.cond_true]
    refine J.pis _ _ _ _ _ _ (zjf S W hc p.o (by omega) (by omega) (by omega) p.pre fun h' G' t w s o => zbj ?_)
    have p' := p.turn w o
    have lG' := p'.W.len
    refine B.zn (fun ht => fin p h' w (s ht) o) (fun _ => ?_)
    exact pdq_k1 (Q := Q) (lim := lim) (w1 := w1) (w2 := w2) J S W hc p' (by omega) (by omega) q1 q2 rcs hY
   cases w1 <;> cases w2
   ·simp -dsimp only [B.gd_t, B.zfd, B.zik, B.cond_false]; exact go
   ·simp -dsimp only [B.gd_t, B.zfd, B.zik, B.cond_false]; exact go
   ·simp -dsimp only [B.gd_t, B.zec, B.zfd, B.zh2, B.zik, B.cond_false]; exact go
   ·by_cases hh1 : hint = 1
    ·simp -dsimp only [B.gd_t, B.zec, V.zjj, hh1, decide_true, B.zg, B.zh2]; exact two
    ·simp -dsimp only [B.gd_t, B.zec, V.zjj, hh1, decide_false, B.zg, B.zh2, B.cond_false]; exact go
  refine B.zn (fun _ => ?_) (fun _ => k2 m hint m1 m2 p2)
  refine J.rev _ _ _ _ _ _ (zn8 S (by omega) p2.o (by omega) (by omega) fun h3 G3 w3 o3 => zbj ?_)
  simp -dsimp only [sub1 (show 1 ≤ b by omega) (show b < 4611686018427387904 by omega), zih m1 (show m < 4611686018427387904 by omega), zih (show m - a ≤ b - 1 by omega) (show b - 1 < 4611686018427387904 by omega), B.zg]
  exact k2 (b - 1 - (m - a)) 1 (by omega) (by omega) (p2.turn w3 o3)
 simp -dsimp only [zbi.k5, V.zkn, B.zg]
 refine B.zn (fun _ => ?_) (fun _ => k4 lim p)
 refine J.brk _ _ _ _ _ _ (zn0 J.next J.pow S p.o (by omega) hab (by omega) fun h' G' w o => zbj ?_)
 simp -dsimp only [V.zfk, B.zg]
 exact k4 _ (p.turn w o)
end
end Go.Ab.Ord
set_option maxRecDepth 100000
namespace Go.Ab
def Cst (C : CSem) : CSem := fun f args h Q => C f args.dropLast h Q
abbrev J4 (F : AVal → AVal → AVal → AVal → zb → (AVal → zb → Prop) → Prop) (C : CSem) (n : Nat) : Prop := ∀ (v0 v1 v2 v3 : AVal) (h : zb) (Q : AVal → zb → Prop), F v0 v1 v2 v3 h (dn Q) → C n [v0, v1, v2, v3] h Q
abbrev J3 (F : AVal → AVal → AVal → zb → (AVal → zb → Prop) → Prop) (C : CSem) (n : Nat) : Prop := ∀ (v0 v1 v2 : AVal) (h : zb) (Q : AVal → zb → Prop), F v0 v1 v2 h (dn Q) → C n [v0, v1, v2] h Q
structure OrdI (C : CSem) (E : z5) (fL e p q s r v b k n ad md o2 sd nx pw : Nat) : Prop where
 eq : J4 (zp.cps C E fL) C e
 part : J4 (zi.cps C E fL) C p
 pdq : J4 (zt.cps C E fL e p q s r v b k n) C q
 pis : J3 (zf.cps C E fL) C s
 rev : J3 (zcw.cps C E) C r
 piv : J3 (z6.cps C E ad md) C v
 brk : J3 (zo.cps C E nx pw) C b
 heap : J3 (zbq.cps C E sd) C k
 ins : J3 (zb3.cps C E fL) C n
 adj : J3 (ze5.cps C E md) C ad
 med : ∀ (v0 v1 v2 v3 v4 : AVal) (h : zb) (Q : AVal → zb → Prop), ze1.cps C E o2 v0 v1 v2 v3 v4 h (dn Q) → C md [v0, v1, v2, v3, v4] h Q
 ord : J4 (ze0.cps C E fL) C o2
 sift : J4 (zb7.cps C E fL) C sd
 next : NextI C nx
 pow : PowI C pw
theorem e4 {F : AVal → AVal → AVal → AVal → AVal → zb → (AVal → zb → Prop) → Prop} {G : AVal → AVal → AVal → AVal → zb → (AVal → zb → Prop) → Prop} {C : CSem} {f : Nat} (i : J4 G C f) (e : ∀ v0 v1 v2 v3 v4 h Q, F v0 v1 v2 v3 v4 h Q = G v0 v1 v2 v3 h Q) : I5 F (Cst C) f :=
 fun v0 v1 v2 v3 v4 h Q x => i v0 v1 v2 v3 h Q (by rw [← e v0 v1 v2 v3 v4]; exact x)
theorem e3 {F : AVal → AVal → AVal → AVal → zb → (AVal → zb → Prop) → Prop} {G : AVal → AVal → AVal → zb → (AVal → zb → Prop) → Prop} {C : CSem} {f : Nat} (i : J3 G C f) (e : ∀ v0 v1 v2 v3 h Q, F v0 v1 v2 v3 h Q = G v0 v1 v2 h Q) : I4 F (Cst C) f :=
 fun v0 v1 v2 v3 h Q x => i v0 v1 v2 h Q (by rw [← e v0 v1 v2 v3]; exact x)
section
variable {C : CSem} {E : z5} {fL e p q s r v b k n ad md o2 sd nx pw : Nat}
theorem t_eq : ∀ v0 v1 v2 v3 v4 h Q, zu.cps (Cst C) E C fL v0 v1 v2 v3 v4 h Q = zp.cps C E fL v0 v1 v2 v3 h Q := by intros; kernel_rfl
theorem t_part : ∀ v0 v1 v2 v3 v4 h Q, zm.cps (Cst C) E C fL v0 v1 v2 v3 v4 h Q = zi.cps C E fL v0 v1 v2 v3 h Q := by intros; kernel_rfl
theorem t_pdq : ∀ v0 v1 v2 v3 v4 h Q, zbi.cps (Cst C) E C fL e p q s r v b k n v0 v1 v2 v3 v4 h Q = zt.cps C E fL e p q s r v b k n v0 v1 v2 v3 h Q := by intros; kernel_rfl
theorem t_pis : ∀ v0 v1 v2 v3 h Q, zh.cps (Cst C) E C fL v0 v1 v2 v3 h Q = zf.cps C E fL v0 v1 v2 h Q := by intros; kernel_rfl
theorem t_rev : ∀ v0 v1 v2 v3 h Q, zdu.cps (Cst C) E C fL v0 v1 v2 v3 h Q = zcw.cps C E v0 v1 v2 h Q := by intros; kernel_rfl
theorem t_piv : ∀ v0 v1 v2 v3 h Q, zbk.cps (Cst C) E C fL md ad v0 v1 v2 v3 h Q = z6.cps C E ad md v0 v1 v2 h Q := by intros; kernel_rfl
theorem t_brk : ∀ v0 v1 v2 v3 h Q, z0.cps (Cst C) E C fL nx pw v0 v1 v2 v3 h Q = zo.cps C E nx pw v0 v1 v2 h Q := by intros; kernel_rfl
theorem t_heap : ∀ v0 v1 v2 v3 h Q, zcz.cps (Cst C) E C fL sd v0 v1 v2 v3 h Q = zbq.cps C E sd v0 v1 v2 h Q := by intros; kernel_rfl
theorem t_ins : ∀ v0 v1 v2 v3 h Q, zcs.cps (Cst C) E C fL v0 v1 v2 v3 h Q = zb3.cps C E fL v0 v1 v2 h Q := by intros; kernel_rfl
theorem t_adj : ∀ v0 v1 v2 v3 h Q, zeb.cps (Cst C) E C fL md v0 v1 v2 v3 h Q = ze5.cps C E md v0 v1 v2 h Q := by intros; kernel_rfl
theorem t_med : ∀ v0 v1 v2 v3 v4 v5 h Q, zfp.cps (Cst C) E C fL o2 v0 v1 v2 v3 v4 v5 h Q = ze1.cps C E o2 v0 v1 v2 v3 v4 h Q := by intros; kernel_rfl
theorem t_ord : ∀ v0 v1 v2 v3 v4 h Q, zfo.cps (Cst C) E C fL v0 v1 v2 v3 v4 h Q = ze0.cps C E fL v0 v1 v2 v3 h Q := by intros; kernel_rfl
theorem t_sift : ∀ v0 v1 v2 v3 v4 h Q, zcy.cps (Cst C) E C fL v0 v1 v2 v3 v4 h Q = zb7.cps C E fL v0 v1 v2 v3 h Q := by intros; kernel_rfl
theorem OrdI.toT (J : OrdI C E fL e p q s r v b k n ad md o2 sd nx pw) : Ord.PdqI (Cst C) E C fL e p q s r v b k n o2 md ad sd nx pw where
 eq := e4 J.eq t_eq
 part := e4 J.part t_part
 pdq := e4 J.pdq t_pdq
 pis := e3 J.pis t_pis
 rev := e3 J.rev t_rev
 piv := e3 J.piv t_piv
 brk := e3 J.brk t_brk
 heap := e3 J.heap t_heap
 ins := e3 J.ins t_ins
 ord := e4 J.ord t_ord
 med := fun v0 v1 v2 v3 v4 v5 h Q x => J.med v0 v1 v2 v3 v4 h Q (by rw [← t_med (C := C) (fL := fL) v0 v1 v2 v3 v4 v5]; exact x)
 adj := e3 J.adj t_adj
 sift := e4 J.sift t_sift
 next := J.next
 pow := J.pow
theorem Sort_spec {X : Type} {cs : X → List AVal} {v' : X → AVal} {h0 h : zb} {x : AVal} {G : List X} {R : List (List AVal)} {c : X → X → Int} {Q : AVal → zb → Prop} {fl : Nat} (J : OrdI C E fL e p q s r v b k n ad md o2 sd nx pw) (hlen : LenI C fl) (S : zd9 E cs v') (W : Weak (zey c))
  (hc : Ord.zev C v' c fL h0) (hl : G.length ≤ 100000000) (ho : Rw E cs h0 h x G R) (hq : ∀ h' G', G'.Perm G → G'.Pairwise (fun s t => ¬ c t s < 0) → Rw E cs h0 h' x G' R → Q (.tup []) h') : zg1.cps C E fl q x h Q := by
 simp -dsimp only [zg1.cps, zg1.k1, ho.lenE, toUN (show G.length < 18446744073709551616 by omega), B.zg]
 refine hlen _ _ _ hl fun r hr _ => ?_
 refine J.pdq _ _ _ _ _ _ ?_
 rw [← t_pdq (C := C) _ _ _ _ .nilf]
 refine Ord.pdq_spec J.toT S W hc _ 0 G.length r h G _ rfl (by omega) (Nat.le_refl _) hl (fun h => by omega) ho fun h' G' w s o => zbj ?_
 refine hq h' G' w.perm ?_ o
 rw [List.pairwise_iff_getElem]
 intro i j hi hj hij
 have := w.len
 exact s i j (by omega) hij (by omega) hi hj
end
variable {C : CSem} {N : Nat → Nat}
theorem zop {α : Type} {p : α → Bool} {L : List α} {k : Nat} (hk : k < L.length) (h : ∀ i, i < k → ∀ a, L[i]? = some a → p a = false) (hp : p L[k] = true) : L.findIdx? p = some k := by
 rw [List.findIdx?_eq_some_iff_getElem]
 exact ⟨hk, hp, fun j hj => by simp [h j hj _ (List.getElem?_eq_getElem (by omega))]⟩
theorem Owns.cutTo {h0 h : zb} {es : Nat} {x : AVal} {L R : List (List AVal)} (ho : Owns h0 h [.sl es x L R]) (hes : 0 < es) {k : Nat} (hk : k ≤ L.length) : ∃ y, V.zfe es x none (some (.int .i64 (k : Int))) = some y ∧ Owns h0 h [.sl es y (L.take k) (L.drop k ++ R)] := by
 obtain ⟨y, h1, h2, h3⟩ := (ho.slAt 0 rfl).slice hes (a := none) (b := some (.int .i64 (k : Int))) (lo := 0) (hi := k) (.inl ⟨rfl, rfl⟩) (.inr ⟨_, rfl⟩) (by omega) (by omega)
 rw [List.drop_zero, List.take_append_of_le_length hk, List.drop_append_of_le_length hk] at h2
 refine ⟨y, h1, ?_⟩
 have := ho.turn (h' := h) 0 rfl (o' := .sl es y (L.take k) (L.drop k ++ R)) h2 (fun id b hf hb => ho.znl 0 rfl id b (by rw [show Ob.foot (.sl es x L R) = foot x from rfl, ← h3]; exact hf) hb) (fun _ _ h _ => h) (.inl (by rw [show Ob.foot (.sl es y _ _) = foot y from rfl, h3]; rfl))
 simpa using this
section
variable {α : Type} [DecidableEq α]
def zei : List α → List α
 | [] => []
 | [a] => [a]
 | a :: b :: r => if a = b then zei (b :: r) else a :: zei (b :: r)
theorem znw (a b : α) : ∀ P : List α, zei (P ++ [a, b]) = if a = b then zei (P ++ [a]) else zei (P ++ [a]) ++ [b]
 | [] => by simp only [List.nil_append, zei]; split <;> simp_all
 | [p] => by
  simp only [List.cons_append, List.nil_append, zei]
  split <;> split <;> simp_all
 | p :: q :: P => by
  have ih := znw a b (q :: P)
  simp only [List.cons_append] at ih ⊢
  simp only [zei]
  rw [ih]
  split <;> split <;> simp_all
theorem znv {L : List α} {k : Nat} (h1 : 0 < k) (h2 : k < L.length) : zei (L.take (k + 1)) = if L[k] = L[k - 1] then zei (L.take k) else zei (L.take k) ++ [L[k]] := by
 have e1 : L.take (k + 1) = L.take k ++ [L[k]] := by rw [List.take_add_one, List.getElem?_eq_getElem h2]; rfl
 have e2 : L.take k = L.take (k - 1) ++ [L[k - 1]] := by
  conv => lhs; rw [show k = (k - 1) + 1 by omega]
  rw [List.take_add_one, List.getElem?_eq_getElem (by omega)]; rfl
 have := znw L[k - 1] L[k] (L.take (k - 1))
 rw [e1, e2, List.append_assoc]
 simp only [List.cons_append, List.nil_append]
 rw [this]
 simp only [eq_comm]
theorem zpc : ∀ L : List α, (zei L).length ≤ L.length
 | [] => Nat.le_refl _
 | [a] => Nat.le_refl _
 | a :: b :: r => by
  have := zpc (b :: r)
  simp only [zei]
  split <;> simp_all <;> omega
theorem compactG_spec {bytes f : Nat} {z : AVal} {v : α → AVal} (hb : bytes ≤ 1000) (hv : ∀ t, (v t).zd1 = true) (heq : ∀ a b, V.bin .eql (v a) (v b) = some (.bool (decide (a = b)))) (hne' : ∀ a b, V.bin .neq (v a) (v b) = some (.bool (!decide (a = b))))
  {h0 h : zb} {x : AVal} {L : List α} {R : List (List AVal)} {Q : AVal → zb → Prop} (ho : Owns h0 h [.sl 1 x (L.map fun a => [v a]) R]) (hlen : L.length ≤ 100000000) (hq : ∀ y h' R', Owns h0 h' [.sl 1 y ((zei L).map fun a => [v a]) R'] → Q y h') : zce.cps C (opsS bytes z f) x h Q := by
 have S : zd9 (opsS bytes z f) (fun a : α => [v a]) v := seqS hb hv
 have o : Rw (opsS bytes z f) (fun a : α => [v a]) h0 h x L R := ho
 have l2 : V.bin .lss (.int .i64 (L.length : Int)) (.int .i64 2) = some (.bool (decide (L.length < 2))) := lssN (b := 2)
 simp -dsimp only [zce.cps, zce.k5, o.lenE, l2, B.zg]
 refine B.zn (fun hd => ?_) (fun hd => ?_)
 ·rw [decide_eq_true_eq] at hd
  have : zei L = L := by
   match L, hd with
   | [], _ => rfl
   | [a], _ => rfl
  exact hq x h R (by rw [this]; exact ho)
 rw [decide_eq_false_iff_not] at hd
 refine zd.intro (fun t vs hh => hh = h ∧ ∃ k : Nat, k + t = L.length ∧ vs = [.int .i64 (k : Int)] ∧ 0 < k ∧ zei (L.take k) = L.take k) (L.length - 1) ?_ ⟨rfl, 1, by omega, rfl, by omega, ?_⟩
 rotate_left
 ·cases L with
  | nil => rfl
  | cons a r => rfl
 rintro Y t vs hh ⟨rfl, k, hkt, rfl, hk0, hck⟩ hY
 simp -dsimp only [zce.l4, o.lenE, lssN, B.zg]
 refine B.zn (fun hk => ?_) (fun hk => ?_)
 rotate_left
 ·rw [decide_eq_false_iff_not] at hk
  have : k = L.length := by omega
  rw [this, List.take_length] at hck
  exact hq x hh R (by rw [hck]; exact ho)
 rw [decide_eq_true_eq] at hk
 have e1 : V.bin .sub (.int .i64 (k : Int)) (.int .i64 1) = some (.int .i64 ((k - 1 : Nat) : Int)) := zih (b := 1) (by omega) (by omega)
 have ik := o.idx hk
 have ik1 := o.idx (show k - 1 < L.length by omega)
 simp -dsimp only [zce.k3, ik, B.zg]
 refine o.ld S (List.getElem?_eq_getElem hk) ?_
 simp -dsimp only [e1, ik1, B.zg]
 refine o.ld S (List.getElem?_eq_getElem (show k - 1 < L.length by omega)) ?_
 simp -dsimp only [heq, B.zg]
 have hct := znv hk0 hk
 refine B.zn (fun he => ?_) (fun he => ?_)
 rotate_left
 ·rw [decide_eq_false_iff_not] at he
  rw [if_neg he, hck] at hct
  simp -dsimp only [add1 (show k < 4611686018427387904 by omega), B.zg]
  refine hY (t - 1) _ _ (by omega) ⟨rfl, k + 1, by omega, rfl, by omega, ?_⟩
  rw [hct, List.take_add_one, List.getElem?_eq_getElem hk]; rfl
 rw [decide_eq_true_eq] at he
 rw [if_pos he, hck] at hct
 have cut : ∀ {h' : zb} {G : List α} {R' : List (List AVal)}, Rw (opsS bytes z f) (fun a => [v a]) h0 h' x G R' → G.length = L.length → ∃ y R2, V.zfe 1 x (some (.int .i64 (k : Int))) none = some y ∧ SlX h' 1 y ((G.drop k).map (fun a => [v a])) R2 := fun {h' G R'} o' hG => by
  obtain ⟨y, R2, h1, h2, _⟩ := (Owns.slAt o' 0 rfl).sliceIn (Nat.one_pos) (a := some (.int .i64 (k : Int))) (b := none) (lo := k) (hi := G.length) (.inr ⟨_, rfl⟩) (.inl ⟨rfl, rfl⟩) (by omega) (Nat.le_refl _)
  rw [List.take_length] at h2
  exact ⟨y, R2, h1, h2⟩
 obtain ⟨s2, _, hs2, _⟩ := cut o rfl
 have cut2 : ∀ {h' : zb} {G : List α}, Rw (opsS bytes z f) (fun a => [v a]) h0 h' x G R → G.length = L.length → ∃ R2, SlX h' 1 s2 ((G.drop k).map (fun a => [v a])) R2 := fun {h' G} o' hG => by
  obtain ⟨y, R2, e1, e2⟩ := cut o' hG
  rw [hs2] at e1
  cases e1
  exact ⟨R2, e2⟩
 have hs2' : V.zfe (opsS bytes z f).es x (some (.int .i64 (k : Int))) none = some s2 := hs2
 simp -dsimp only [hs2', B.zg]
 refine zd.intro (fun t vs h2 => ∃ (i j : Nat) (G : List α), k + j + t = L.length ∧ vs = [.int .i64 (i : Int), .int .i64 (j : Int)] ∧ k ≤ i ∧ i + 1 ≤ k + j ∧ 0 < j ∧ G.length = L.length ∧ G.take i = zei (L.take (k + j)) ∧ (∀ q, k + j ≤ q + 1 → G[q]? = L[q]?) ∧ Rw (opsS bytes z f) (fun a => [v a]) h0 h2 x G R) (L.length - (k + 1)) ?_
  ⟨k, 1, L, by omega, rfl, Nat.le_refl _, Nat.le_refl _, Nat.one_pos, rfl, hct.symm, fun _ _ => rfl, o⟩
 rintro Z t2 vs h2 ⟨i, j, G, hjt, rfl, hki, hij, hj0, hGl, hGt, hGq, o2⟩ hZ
 obtain ⟨R2, x2⟩ := cut2 o2 hGl
 have ln2 : V.zw s2 = some (.int .i64 ((L.length - k : Nat) : Int)) := by have := x2.zw; simpa [hGl] using this
 simp -dsimp only [zce.l2, zce.k1, ln2, lssN, B.zg]
 refine B.zn (fun hlt => ?_) (fun hlt => ?_)
 ·rw [decide_eq_true_eq] at hlt
  have dl : ∀ q, q < L.length - k → (G.drop k)[q]? = G[k + q]? := fun q _ => by rw [List.getElem?_drop]
  have lj : j < ((G.drop k).map (fun a => [v a])).length := by simp; omega
  have lj1 : j - 1 < ((G.drop k).map (fun a => [v a])).length := by simp; omega
  have gj : ((G.drop k).map (fun a => [v a]))[j]? = some ((fun a => [v a]) L[k + j]) := by
   rw [List.getElem?_map, dl j hlt, hGq (k + j) (by omega), List.getElem?_eq_getElem (by omega)]; rfl
  have gj1 : ((G.drop k).map (fun a => [v a]))[j - 1]? = some ((fun a => [v a]) L[k + j - 1]) := by
   rw [List.getElem?_map, dl (j - 1) (by omega), show k + (j - 1) = k + j - 1 by omega, hGq (k + j - 1) (by omega), List.getElem?_eq_getElem (by omega)]; rfl
  have ij : V.idxS (opsS bytes z f).es s2 (.int .i64 (j : Int)) = some (elp 1 s2 j 0) := x2.idxN lj
  have ij1 : V.idxS (opsS bytes z f).es s2 (.int .i64 ((j - 1 : Nat) : Int)) = some (elp 1 s2 (j - 1) 0) := x2.idxN lj1
  have e2 : V.bin .sub (.int .i64 (j : Int)) (.int .i64 1) = some (.int .i64 ((j - 1 : Nat) : Int)) := zih (b := 1) (by omega) (by omega)
  simp -dsimp only [ij, B.zg]
  refine S.ld x2 gj ?_
  simp -dsimp only [e2, ij1, B.zg]
  refine S.ld x2 gj1 ?_
  simp -dsimp only [hne', B.zg]
  have hst := znv (L := L) (k := k + j) (by omega) (by omega)
  refine B.zn (fun hne => ?_) (fun hne => ?_)
  ·have hne : L[k + j] ≠ L[k + j - 1] := by simpa using hne
   rw [if_neg hne] at hst
   simp -dsimp only [ij, B.zg]
   refine S.ld x2 gj ?_
   simp -dsimp only [o2.idx (show i < G.length by omega), B.zg]
   refine o2.st S (t := L[k + j]) (by omega) fun h3 o3 => ?_
   simp -dsimp only [add1 (show i < 4611686018427387904 by omega), add1 (show j < 4611686018427387904 by omega), B.zg]
   refine hZ (t2 - 1) _ _ (by omega) ⟨i + 1, j + 1, _, by omega, rfl, by omega, by omega, by omega, by simpa using hGl, ?_, fun q hq' => ?_, o3⟩
   ·rw [← Nat.add_assoc, hst, ← hGt, List.take_add_one]
    rw [List.getElem?_set_self (by omega), List.take_set_of_le (Nat.le_refl _)]; rfl
   ·rw [List.getElem?_set_ne (by omega)]; exact hGq q (by omega)
  ·have hne : L[k + j] = L[k + j - 1] := by simpa using hne
   rw [if_pos hne] at hst
   simp -dsimp only [add1 (show j < 4611686018427387904 by omega), B.zg]
   exact hZ (t2 - 1) _ _ (by omega) ⟨i, j + 1, G, by omega, rfl, hki, by omega, by omega, hGl, by rw [← Nat.add_assoc, hst]; exact hGt, fun q hq' => hGq q (by omega), o2⟩
 ·rw [decide_eq_false_iff_not] at hlt
  have : k + j = L.length := by omega
  rw [this, List.take_length] at hGt
  obtain ⟨y, y1, y2⟩ := Owns.clrTail (z := [z]) (lo := i) (K := fun v h => B.pv (V.zfe 1 x none (some (.int .i64 (i : Int)))) fun v59 => Q v59 h) o2 0 rfl rfl (by simp; omega) fun h3 o3 _ => by
   have o3 : Owns h0 h3 [.sl 1 x ((G.map (fun a => [v a])).take i ++ List.replicate ((G.map (fun a => [v a])).length - i) [z]) R] := o3
   obtain ⟨z', z1, z2⟩ := o3.cutTo Nat.one_pos (k := i) (by simp; omega)
   simp -dsimp only [z1, B.zg]
   have e3 : ((G.map (fun a => [v a])).take i ++ List.replicate ((G.map (fun a => [v a])).length - i) [z]).take i = (zei L).map (fun a => [v a]) := by
    rw [List.take_append_of_le_length (by simp; omega), List.take_take, Nat.min_self, ← List.map_take, hGt]
   rw [e3] at z2
   exact hq z' h3 _ z2
  have y1' : V.zfe (opsS bytes z f).es x (some (.int .i64 (i : Int))) none = some y := y1
  simp -dsimp only [y1', B.zg]
  exact y2
end
theorem V.bin_slss (a b : List UInt8) : V.bin .lss (.str a) (.str b) = some (.bool (zgn a b)) := rfl
theorem weakB : Weak (zey cmpB) := by
 constructor <;> simp only [zey, decide_eq_true_eq, decide_eq_false_iff_not, cmpB_neg]
 ·intro a b h; rw [lessB_asym h]; simp
 ·intro a b c h1 h2 h3
  have h1 : zgn a b = false := by simpa using h1
  have h2 : zgn b c = false := by simpa using h2
  by_cases e : a = b
  ·subst e; rw [h2] at h3; cases h3
  ·have := zj3 (lessB_or h1 e) h3
   rw [h2] at this; cases this
def zc6.Spec (C : CSem) (N : Nat → Nat) : Prop := ∀ (a : List UInt8) (h : zb) (Q : AVal → zb → Prop), Q (.bool false) h → C (N 389) [.str a] h Q
theorem zc6.spec (i : zc6.Imp C N) : zc6.Spec C N := by
 intro a h Q hq
 apply i
 simp -dsimp
 exact zbj hq
def zc4.Spec (C : CSem) (N : Nat → Nat) : Prop := ∀ (a b : List UInt8) (h : zb) (Q : AVal → zb → Prop), Q (.bool (zgn a b)) h → C (N 377) [.str a, .str b] h Q
theorem zc4.spec (i : zc4.Imp C N) (s1 : zc6.Spec C N) : zc4.Spec C N := by
 intro a b h Q hq
 apply i
 simp -dsimp
 refine s1 _ _ _ ?_
 simp -dsimp [V.bin_slss]
 exact zbj hq
def SortedB (L : List (List UInt8)) : Prop := L.Pairwise fun s t => zgn t s = false
def zby.Spec (C : CSem) (N : Nat → Nat) : Prop := ∀ (h0 h : zb) (x : AVal) (L : List (List UInt8)) (R : List (List AVal)) (Q : AVal → zb → Prop), Owns h0 h [.sl 1 x (L.map tc) R] → L.length ≤ 100000000 →
 (∀ h' (L' : List (List UInt8)), L'.Perm L → SortedB L' → Owns h0 h' [.sl 1 x (L'.map tc) R] → Q (.tup []) h') → C (N 364) [x] h Q
theorem seqT : zd9 (opsS 16 (.str []) 0) tc (fun a : List UInt8 => AVal.str a) := seqS (by omega) fun _ => rfl
theorem zby.spec (i : zby.Imp C N) (j1 : zb1.Imp C N) (j2 : zcf.Imp C N) (j3 : zcn.Imp C N) (j4 : zbl.Imp C N)
  (j5 : zb8.Imp C N) (j6 : zcb.Imp C N) (j7 : zb5.Imp C N) (j8 : zcj.Imp C N) (j9 : zb4.Imp C N) (k1 : zb2.Imp C N)
  (k2 : zcr.Imp C N) (k3 : zcq.Imp C N) (k4 : zci.Imp C N) (k5 : NextI C (N 298)) (k6 : PowI C (N 299)) (hl : LenI C (N 287)) (s1 : zc4.Spec C N) : zby.Spec C N := by
 intro h0 h x L R Q ho hlen hq
 have J : OrdI C (opsS 16 (.str []) 0) (N 377) (N 378) (N 379) (N 375) (N 380) (N 381) (N 382) (N 383) (N 384) (N 385) (N 387) (N 388) (N 390) (N 386) (N 298) (N 299) := ⟨j1, j2, j3, j4, j5, j6, j7, j8, j9, k1, k2, k3, k4, k5, k6⟩
 have hc : Ord.zev C (fun a : List UInt8 => AVal.str a) cmpB (N 377) h0 := ⟨fun h' a b K _ hk => s1 _ _ _ _ (by
  rw [show zgn a b = decide (cmpB a b < 0) by rw [Bool.eq_iff_iff, decide_eq_true_eq]; exact cmpB_neg.symm]; exact hk)⟩
 refine i _ _ _ (Sort_spec J hl seqT weakB hc hlen (show Rw _ _ _ _ _ _ _ from ho) fun h' G' hp hs o' => zbj (hq h' G' hp (hs.imp fun {a b} hab => ?_) o'))
 rw [cmpB_neg] at hab
 simpa using hab
def zbn.Spec (C : CSem) (N : Nat → Nat) : Prop := ∀ (h0 h : zb) (x : AVal) (L : List (List UInt8)) (R : List (List AVal)) (Q : AVal → zb → Prop), Owns h0 h [.sl 1 x (L.map tc) R] → L.length ≤ 100000000 →
 (∀ y h' R', Owns h0 h' [.sl 1 y ((zei L).map tc) R'] → Q y h') → C (N 365) [x] h Q
theorem zbn.spec (i : zbn.Imp C N) : zbn.Spec C N := fun h0 h x L R Q ho hlen hq =>
 i x h Q (compactG_spec (v := fun a : List UInt8 => AVal.str a) (by omega) (fun _ => rfl) V.zn2 V.bin_sneq ho hlen fun y h' R' o => zbj (hq y h' R' o))
theorem repL_one : ∀ (n : Nat) (v : AVal), repL n [v] = List.replicate n v
 | 0, _ => rfl
 | n + 1, v => (congrArg (v :: ·) (repL_one n v)).trans rfl
def zbu.Spec (C : CSem) (N : Nat → Nat) : Prop := ∀ (n : Nat) (h : zb) (Q : AVal → zb → Prop), n ≤ 100000000 → (∀ x h' R, Owns h h' [.sl 1 x [] R] → Q x h') → C (N 376) [.nils, .int .i64 (n : Int)] h Q
theorem zbu.spec (i : zbu.Imp C N) : zbu.Spec C N := by
 intro n h Q hn hq
 apply i
 have e0 : V.bin .lss (.int .i64 (n : Int)) (.int .i64 0) = some (.bool (decide (n < 0))) := lssN (b := 0)
 have e1 : V.bin .sub (.int .i64 0) (.int .i64 0) = some (.int .i64 0) := rfl
 have e2 : V.bin .sub (.int .i64 (n : Int)) (.int .i64 0) = some (.int .i64 (n : Int)) := zih (b := 0) (by omega) (by omega)
 simp -dsimp only [zbu.cps, zf9.cps, zf9.k1, e0, e1, e2, V.capSl, V.zw, V.zou, B.zg, Nat.not_lt_zero, decide_false, B.cond_false]
 refine B.zn (fun hb => ?_) (fun hb => ?_)
 ·have hb : 0 < n := by simpa using hb
  have e3 : V.zfe (opsS 16 (.str []) 0).es .nils none (some (.int .i64 0)) = some .nils := rfl
  have ec : V.capSl .nils = some (.int .i64 0) := rfl
  have el : V.zw .nils = some (.int .i64 0) := rfl
  simp -dsimp only [ec, e3, B.zg]
  refine ⟨⟨rfl, by omega, by simp [opsS]; omega, by simp [maxLen]; omega⟩, fun id hid => ?_⟩
  have hr : repL (n : Int).toNat (opsS 16 (.str []) 0).z = List.replicate n (.str []) := by rw [Int.toNat_natCast]; exact repL_one n _
  rw [hr]
  have o := (Owns.start h).newSl (id := id) (n := n) (cp := n) (es := 1) (cs := List.replicate n (.str [])) (L := List.replicate n [.str []]) (R := []) hid (by simp) (by simp) (by simp) (by simp)
  obtain ⟨y, e4, e5⟩ := Owns.cutTo (x := .sl id 0 0 n 1 n) o Nat.one_pos (k := 0) (by omega)
  rw [Int.toNat_natCast]
  simp -dsimp only [el, B.zg]
  have e4' : V.zfe (opsS 16 (.str []) 0).es (.sl id 0 0 n (opsS 16 (.str []) 0).es n) none (some (.int .i64 0)) = some y := e4
  simp -dsimp only [e4', B.zg]
  exact zbj (hq y _ _ e5)
 ·exact zbj (hq _ _ _ ((Owns.start h).nils 1))
theorem zp6 {α : Type} {L : List (List α)} {k : Nat} (hk : k < L.length) : ((L.take (k + 1)).flatten).length = (L.take k).flatten.length + L[k].length := by
 rw [List.take_add_one, List.getElem?_eq_getElem hk]; simp only [Option.toList_some, List.flatten_append, List.length_append, List.flatten_singleton]
theorem sumLen_le {α : Type} (L : List (List α)) (k : Nat) : ((L.take k).flatten).length ≤ L.flatten.length := by
 conv => rhs; rw [← List.take_append_drop k L]
 simp only [List.flatten_append, List.length_append]; omega
def zbm.Spec (C : CSem) (N : Nat → Nat) : Prop := ∀ (x : AVal) (xs : List AVal) (L : List (List (List UInt8))) (R : List (List AVal)) (h : zb) (Q : AVal → zb → Prop), SlX h 1 x (xs.map fun y => [y]) R → xs.length = L.length → (∀ (i : Nat) (y : AVal) (l : List (List UInt8)), xs[i]? = some y → L[i]? = some l → ∃ R, SlX h 1 y (l.map tc) R) → L.length ≤ 1000 → L.flatten.length ≤ 100000000 →
 (∀ x' h' R', Owns h h' [.sl 1 x' (L.flatten.map tc) R'] → Q x' h') → C (N 373) [x] h Q
theorem zbm.spec (i : zbm.Imp C N) (s1 : zbu.Spec C N) : zbm.Spec C N := by
 intro x xs L R h Q hx hxl hin hl1 hl2 hq
 apply i
 have hlen := hx.zw
 rw [List.length_map, hxl] at hlen
 simp -dsimp only [zbm.cps, zc1.cps, hlen, B.zg]
 have cell : ∀ {hh : zb} (hle : h.le hh) {k : Nat} (hk : k < L.length) {K : AVal → Prop}, (∀ y R2, SlX hh 1 y (L[k].map tc) R2 → K y) → B.pv (V.idxS (opsS 24 .nils 0).es x (.int .i64 (k : Int))) (fun v => (opsS 24 .nils 0).ld hh v K) := fun {hh} hle {k} hk {K} hK => by
  have hg : (xs.map fun y => [y])[k]? = some [xs[k]'(by omega)] := by rw [List.getElem?_map, List.getElem?_eq_getElem (by omega)]; rfl
  have hidx : V.idxS (opsS 24 .nils 0).es x (.int .i64 (k : Int)) = some (elp 1 x k 0) := hx.idxN (by simp; omega)
  rw [hidx, B.zg]
  simp only [opsS, B.zg9]
  rw [(hx.mono hle).cell hg, B.zg]
  obtain ⟨R2, h2⟩ := hin k _ _ (List.getElem?_eq_getElem (by omega)) (List.getElem?_eq_getElem hk)
  exact hK _ _ (h2.mono hle)
 refine zd.intro (fun t vs hh => hh = h ∧ ∃ k : Nat, k + t = L.length ∧ vs = [.int .i64 ((L.take k).flatten.length : Int), .int .i64 (k : Int)]) L.length ?_ ⟨rfl, 0, by omega, rfl⟩
 rintro Y t vs hh ⟨rfl, k, ht, rfl⟩ hY
 simp -dsimp only [zc1.l4, zc1.k3, lssN, B.zg]
 refine B.zn (fun hb => ?_) (fun hb => ?_)
 ·rw [decide_eq_true_eq] at hb
  have hs := zp6 hb
  have hle := sumLen_le L (k + 1)
  refine cell (zb.le_refl _) hb fun y R2 hy => ?_
  have e1 := hy.zw
  rw [List.length_map] at e1
  have e2 : V.bin .lss (.int .i64 (((L.take k).flatten.length + L[k].length : Nat) : Int)) (.int .i64 0) = some (.bool false) := by
   exact (lssN (b := 0)).trans (by simp)
  simp -dsimp only [e1, zke (a := (L.take k).flatten.length) (b := L[k].length) (by omega), e2, B.zg, B.cond_false, add1 (show k < 4611686018427387904 by omega)]
  exact hY (t - 1) _ _ (by omega) ⟨rfl, k + 1, by omega, by rw [hs]⟩
 ·rw [decide_eq_false_iff_not] at hb
  have hk : k = L.length := by omega
  subst hk
  rw [List.take_length]
  refine s1 _ _ _ hl2 fun y0 h1 R1 o1 => ?_
  simp -dsimp only [hlen, B.zg]
  refine zd.intro (fun t vs h2 => ∃ (k : Nat) (y : AVal) (R2 : List (List AVal)), k + t = L.length ∧ vs = [y, .int .i64 (k : Int)] ∧ Owns hh h2 [.sl 1 y ((L.take k).flatten.map tc) R2]) L.length ?_ ⟨0, y0, R1, by omega, rfl, o1⟩
  rintro Z t2 vs h2 ⟨k, y, R2, ht2, rfl, o2⟩ hZ
  simp -dsimp only [zc1.l2, zc1.k1, lssN, B.zg]
  refine B.zn (fun hc => ?_) (fun hc => ?_)
  ·rw [decide_eq_true_eq] at hc
   have hs := zp6 hc
   have hle := sumLen_le L (k + 1)
   refine cell o2.le hc fun z R3 hz => ?_
   refine o2.appW 0 rfl hz Nat.one_pos (by simp only [List.length_map]; omega) (by simp only [List.length_map, maxLen]; omega) fun x' h' o3 _ => ?_
   simp -dsimp only [add1 (show k < 4611686018427387904 by omega), B.zg]
   refine hZ (t2 - 1) _ _ (by omega) ⟨k + 1, x', [], by omega, rfl, ?_⟩
   rw [List.take_add_one, List.getElem?_eq_getElem hc, Option.toList_some, List.flatten_append, List.flatten_singleton, List.map_append]
   exact o3
  ·rw [decide_eq_false_iff_not] at hc
   have hk : k = L.length := by omega
   subst hk
   rw [List.take_length] at o2
   exact zbj (hq _ _ _ o2)
abbrev mStr (s : List UInt8) : AVal := .str s
abbrev mInt (n : Int) : AVal := .int .i64 n
abbrev cntB (ps : Ents (List UInt8) Int) (c : Nat) : Blk := zh4 (encM mStr mInt ps) c
def zdc.Spec (C : CSem) (N : Nat → Nat) : Prop := ∀ (x : Itm) (a : AVal × AVal) (h : zb) (Q : AVal → zb → Prop), zd5.at_ h x a → Q (.bool (zhi x)) h → C (N 372) [.agg (zl0 x a)] h Q
theorem zhq {x : Itm} {k : Nat} (hk : k < x.zb6.length) : (zeu x).take (k + 1) = (zeu x).take k ++ [x.zb6[k].Item] := by
 unfold zeu
 rw [List.take_add_one, List.getElem?_map, List.getElem?_eq_getElem hk]; rfl
theorem zdc.spec (i : zdc.Imp C N) : zdc.Spec C N := by
 intro x a h Q ha hq
 obtain ⟨⟨R1, a1⟩, _, a3, _⟩ : (∃ R, SlX h 2 a.1 (x.zb6.map Part.cs) R) ∧ (∃ R, SlX h 1 a.2 (x.zbz.map tc) R) ∧ x.ok := ha
 unfold few at a3
 apply i
 have e1 := a1.zw
 rw [List.length_map] at e1
 simp -dsimp [e1]
 refine B.zn (fun hb => ?_) (fun hb => ?_)
 ·have hp : x.zb6 = [] := by
   have : (x.zb6.length : Int) = 0 := by simpa using hb
   exact List.length_eq_zero_iff.1 (by omega)
  have hk : zhi x = (decide (0 < x.Life) && decide (x.Life ≤ 2000)) := by unfold zhi; rw [hp]; rfl
  by_cases hl : 0 < x.Life
  ·simp -dsimp [hl]
   rw [hk] at hq
   simp [hl] at hq
   exact zbj hq
  ·simp -dsimp [hl]
   rw [hk] at hq
   simp [hl] at hq
   exact zbj hq
 ·have hp : x.zb6 ≠ [] := fun e => by rw [e] at hb; simp at hb
  have hk : zhi x = ((x.zb6.all fun p => decide (1 ≤ p.Qty) && decide (p.Qty ≤ 1073741824)) && (decide (zeu x).Nodup && (decide (x.Life = 0) && decide (x.zb6.length ≤ 8)))) := by unfold zhi; simp [hp]
  refine (Owns.start h).zjq (K := List UInt8) (T := Int) mStr mInt fun id h1 _ o1 _ => ?_
  simp -dsimp [e1]
  refine zd.intro (fun t vs hh => ∃ (k : Nat) (ps : Ents (List UInt8) Int) (c : Nat), k + t = x.zb6.length ∧ vs = [.int .i64 (k : Int)] ∧ Owns h hh [.blk id (cntB ps c)] ∧ (∀ p ∈ x.zb6.take k, 1 ≤ p.Qty ∧ p.Qty ≤ 1073741824) ∧
   ((zeu x).take k).Nodup ∧ ∀ s, getP ps s = if s ∈ (zeu x).take k then some 1 else none) x.zb6.length ?_ ⟨0, [], 0, by omega, rfl, o1, by simp, by simp, by simp [getP]⟩
  rintro Y t vs hh ⟨k, ps, c, ht, rfl, o, hqty, hnd, hget⟩ hY
  simp -dsimp only [zdc.l3, zdc.k2, e1, lssN, B.zg]
  refine B.zn (fun hc => ?_) (fun hc => ?_)
  ·rw [decide_eq_true_eq] at hc
   have hg : (x.zb6.map Part.cs)[k]? = some x.zb6[k].cs := by rw [List.getElem?_map, List.getElem?_eq_getElem hc]; rfl
   have hidx : V.idxS 2 a.1 (.int .i64 (k : Int)) = some (elp 2 a.1 k 0) := a1.idxN (by simpa using hc)
   have hel := (a1.mono o.le).elem hg
   have hlk : A.lkp hh (some .s) (some (.int .i64 0)) false (.mp id) (.str x.zb6[k].Item) = some (.int .i64 ((getP ps x.zb6[k].Item).getD 0)) := o.lkp 0 rfl keyS 0 _
   simp -dsimp [hidx, hel, hlk, - V.zdi]
   have hadd : V.bin .add (.int .i64 ((getP ps x.zb6[k].Item).getD 0)) (.int .i64 1) = some (.int .i64 ((getP ps x.zb6[k].Item).getD 0 + 1)) := by
    rw [hget]
    split <;> rfl
   simp -dsimp [hadd, - V.zdi]
   refine o.mset 0 rfl keyS _ ((getP ps x.zb6[k].Item).getD 0 + 1) fun h2 o2 _ _ => ?_
   have hlk2 : A.lkp h2 (some .s) (some (.int .i64 0)) false (.mp id) (.str x.zb6[k].Item) = some (.int .i64 ((getP ps x.zb6[k].Item).getD 0 + 1)) := by
    have := o2.lkp 0 rfl keyS 0 x.zb6[k].Item
    rw [zfi, if_pos rfl] at this
    exact this
   have hm : x.zb6[k] ∈ x.zb6 := List.getElem_mem hc
   have no : zhi x = false → dn Q (.bool false) h2 := fun e => by rw [e] at hq; exact zkb o2.le hq
   simp -dsimp [hlk2, - V.zdi]
   by_cases q1 : x.zb6[k].Qty < 1
   ·simp -dsimp [q1]
    refine no ?_
    rw [hk, List.all_eq_false.2 ⟨_, hm, by simp; omega⟩]; rfl
   by_cases q2 : 1073741824 < x.zb6[k].Qty
   ·simp -dsimp [q1, q2]
    refine no ?_
    rw [hk, List.all_eq_false.2 ⟨_, hm, by simp; omega⟩]; rfl
   by_cases q3 : x.zb6[k].Item ∈ (zeu x).take k
   ·have : getP ps x.zb6[k].Item = some 1 := by rw [hget, if_pos q3]
    simp -dsimp [q1, q2]
    simp -dsimp [hlk2, this]
    refine no ?_
    have hnn : ¬ (zeu x).Nodup := fun hn => by
     have h3 := hn.sublist (List.take_sublist (k + 1) _)
     rw [zhq hc, List.nodup_append] at h3
     exact h3.2.2 _ q3 _ (List.mem_singleton_self _) rfl
    rw [hk]; simp [hnn]
   ·have hz : getP ps x.zb6[k].Item = none := by rw [hget, if_neg q3]
    simp -dsimp [q1, q2]
    simp -dsimp [hlk2, hz, - V.zdi, add1 (show k < 4611686018427387904 by omega)]
    refine hY (t - 1) _ _ (by omega) ⟨k + 1, _, _, by omega, rfl, o2, ?_, ?_, ?_⟩
    ·intro p hp
     rw [List.take_add_one, List.getElem?_eq_getElem hc, List.mem_append] at hp
     rcases hp with hp | hp
     ·exact hqty p hp
     ·have : p = x.zb6[k] := by simpa using hp
      subst this; exact ⟨by omega, by omega⟩
    ·rw [zhq hc, List.nodup_append]
     exact ⟨hnd, by simp, fun s hs t ht e => q3 (by rw [List.mem_singleton.1 ht] at e; rw [← e]; exact hs)⟩
    ·intro s
     rw [zfi, hz, hget s, zhq hc]
     by_cases hs : s = x.zb6[k].Item <;> simp [hs]
  ·rw [decide_eq_false_iff_not] at hc
   have hke : k = x.zb6.length := by omega
   subst hke
   have h1 : (x.zb6.all fun p => decide (1 ≤ p.Qty) && decide (p.Qty ≤ 1073741824)) = true := by
    rw [List.all_eq_true]
    intro p hp
    have := hqty p (by rw [List.take_length]; exact hp)
    simp; omega
   have h2 : (zeu x).Nodup := by
    rw [List.take_of_length_le (by simp [zeu])] at hnd; exact hnd
   have hk' : zhi x = (decide (x.Life = 0) && decide (x.zb6.length ≤ 8)) := by rw [hk, h1]; simp [h2]
   by_cases hl : x.Life = 0
   ·simp -dsimp [hl, e1]
    rw [hk'] at hq
    simp [hl] at hq
    refine zkb o.le ?_
    rwa [show decide ((x.zb6.length : Int) ≤ 8) = decide (x.zb6.length ≤ 8) from decide_eq_decide.2 (by omega)]
   ·simp -dsimp [hl]
    rw [hk'] at hq
    simp [hl] at hq
    exact zkb o.le hq
abbrev mItm (p : Itm × AVal × AVal) : AVal := .agg (zl0 p.1 p.2)
abbrev bookB (A : Ents (List UInt8) (Itm × AVal × AVal)) (c : Nat) : Blk := zh4 (encM mStr mItm A) c
abbrev zItm : Itm × AVal × AVal := (⟨[], 0, [], []⟩, (.nils, .nils))
structure zrg (h : zb) (L : List Itm) (A : Ents (List UInt8) (Itm × AVal × AVal)) (c : Nat) : Prop where
 zn1 : zh9 A c
 keys : zm1 A = zdr L
 get : ∀ s, (getP A s).map (·.1) = zg3 L s
 at_ : ∀ s p, getP A s = some p → zd5.at_ h p.1 p.2
theorem zrg.mono {h h' : zb} {L : List Itm} {A : Ents (List UInt8) (Itm × AVal × AVal)} {c : Nat} (b : zrg h L A c) (hle : h.le h') : zrg h' L A c :=
 ⟨b.zn1, b.keys, b.get, fun s p hp => zd5.mono hle (b.at_ s p hp)⟩
theorem zm5 {L : List Itm} {k : Nat} (hk : k < L.length) : zdr (L.take (k + 1)) = zdr (L.take k) ++ [L[k].Code] := by
 unfold zdr
 rw [List.take_add_one, List.getElem?_eq_getElem hk, List.map_append]; rfl
theorem zsi {L : List Itm} (hn : (zdr L).Nodup) {k : Nat} (hk : k < L.length) : L[k].Code ∉ zdr (L.take k) := fun hm => by
 have h3 : (zdr (L.take (k + 1))).Nodup := hn.sublist ((List.take_sublist (k + 1) L).map _)
 rw [zm5 hk, List.nodup_append] at h3
 exact h3.2.2 _ hm _ (List.mem_singleton_self _) rfl
theorem Dl.get2 {T Ad : Type} {K : DK T Ad} {h H : zb} {x : AVal} {L : List T} (hd : Dl K h x L) (hle : h.le H) {i : Nat} {t : T} (hi : L[i]? = some t) : ∃ a, DEl K H x i t a ∧ K.at_ h t a := by
 obtain ⟨P, R, rfl, s, ha⟩ := hd
 rw [List.getElem?_map] at hi
 obtain ⟨p, hp, rfl⟩ := Option.map_eq_some_iff.1 hi
 exact ⟨p.2, slX_el (s.mono hle) (fun p h => K.mono hle (ha p h)) hp, ha p (List.mem_of_getElem? hp)⟩
def zeh.Spec (C : CSem) (N : Nat → Nat) : Prop := ∀ (x : AVal) (L : List Itm) (h : zb) (Q : AVal → zb → Prop), Dl zd5 h x L → (zdr L).Nodup → L.length ≤ 1000000 →
 (∀ id h' A c, Owns h h' [.blk id (bookB A c)] → zrg h L A c → Q (.mp id) h') → C (N 371) [x] h Q
theorem zeh.spec (i : zeh.Imp C N) : zeh.Spec C N := by
 intro x L h Q hx hn hlen hq
 apply i
 refine (Owns.start h).zjq (K := List UInt8) (T := Itm × AVal × AVal) mStr mItm fun id h1 _ o1 _ => ?_
 simp -dsimp [hx.zw]
 refine zd.intro (fun t vs hh => ∃ (k : Nat) (A : Ents (List UInt8) (Itm × AVal × AVal)) (c : Nat), k + t = L.length ∧ vs = [.int .i64 (k : Int)] ∧ Owns h hh [.blk id (bookB A c)] ∧ zrg h (L.take k) A c) L.length ?_
  ⟨0, [], 0, by omega, rfl, o1, zh9.nil 0, rfl, fun _ => rfl, fun _ _ h => by cases h⟩
 rintro Y t vs hh ⟨k, A, c, ht, rfl, o, hb⟩ hY
 simp -dsimp only [zeh.l2, zeh.k1, lssN, B.zg]
 refine B.zn (fun hc => ?_) (fun hc => ?_)
 ·rw [decide_eq_true_eq] at hc
  obtain ⟨a, ea, ha⟩ := hx.get2 o.le (List.getElem?_eq_getElem hc)
  have e1 := ea.idx
  have e2 := ea.ldn
  simp only [zd5] at e1 e2
  simp -dsimp [e1, e2, - V.zdi]
  refine o.mset 0 rfl keyS L[k].Code (L[k], a) fun h2 o2 _ _ => ?_
  simp -dsimp [- V.zdi, add1 (show k < 4611686018427387904 by omega)]
  have hnew := zsi hn hc
  refine hY (t - 1) _ _ (by omega) ⟨k + 1, _, _, by omega, rfl, o2, hb.zn1.put _ _, ?_, ?_, ?_⟩
  ·rw [zqz, hb.keys, if_neg hnew, zm5 hc]
  ·intro s
   rw [zfi, List.take_add_one, List.getElem?_eq_getElem hc, Option.toList_some]
   unfold zg3
   rw [List.find?_append]
   by_cases hs : s = L[k].Code
   ·subst hs
    have : (L.take k).find? (fun x => decide (x.Code = L[k].Code)) = none := ziw.2 hnew
    rw [this]
    simp
   ·have h1 := hb.get s
    unfold zg3 at h1
    rw [if_neg hs, h1]
    simp [Ne.symm hs]
  ·intro s p hp
   rw [zfi] at hp
   by_cases hs : s = L[k].Code
   ·rw [if_pos hs] at hp; cases hp; exact ha
   ·rw [if_neg hs] at hp; exact hb.at_ s p hp
 ·rw [decide_eq_false_iff_not] at hc
  have hk : k = L.length := by omega
  subst hk
  rw [List.take_length] at hb
  exact zbj (hq _ _ _ _ o hb)
structure LookI (K : List (List UInt8)) (D : List UInt8 → Option Nat) (O : Ents (List UInt8) Int) (co : Nat) : Prop where
 zn1 : zh9 O co
 nd : (zm1 O).Nodup
 val : ∀ s v, getP O s = some v → s ∈ K ∧ (v = -1 ∨ ∃ d : Nat, D s = some d ∧ v = d)
def missing (K : List (List UInt8)) (O : Ents (List UInt8) Int) : Nat := K.countP fun s => (getP O s).isNone
theorem zr3 {K : List (List UInt8)} {O O' : Ents (List UInt8) Int} (h : ∀ s v, getP O s = some v → getP O' s = some v) : missing K O' ≤ missing K O := by
 refine List.countP_mono_left fun s _ hs => ?_
 cases e : getP O s with
 | none => rfl
 | some v => rw [h s v e] at hs; cases hs
theorem zqq {O : Ents (List UInt8) Int} {c : List UInt8} {v : Int} {co : Nat} (hc : getP O c = none) : ∀ {K : List (List UInt8)}, c ∈ K → missing K (putP O c v co) < missing K O
 | a :: K, hm => by
  have step : ∀ K, missing K (putP O c v co) ≤ missing K O := fun K => zr3 fun s w hs => by
   rw [zfi]
   by_cases e : s = c
   ·subst e; rw [hc] at hs; cases hs
   ·rw [if_neg e]; exact hs
  unfold missing at step ⊢
  rw [List.countP_cons, List.countP_cons]
  by_cases e : a = c
  ·subst e
   have := step K
   simp only [zfi, if_true, hc, Option.isNone_none, Option.isNone_some]
   have h2 : (List.countP (fun s => (if s = a then some v else getP O s).isNone) K) ≤ List.countP (fun s => (getP O s).isNone) K := by
    simpa only [zfi] using this
   simp
   omega
  ·have hm : c ∈ K := by
    rcases List.mem_cons.1 hm with rfl | h
    ·exact absurd rfl e
    ·exact h
   have := zqq (v := v) (co := co) hc hm
   unfold missing at this
   rw [zfi, if_neg e]
   omega
theorem max2N (a b : Nat) : V.max2 (.int .i64 (a : Int)) (.int .i64 (b : Int)) = some (.int .i64 ((max a b : Nat) : Int)) := by
 simp only [V.max2, Option.some.injEq, AVal.int.injEq, true_and]
 split <;> omega
abbrev zjg (N : Nat → Nat) (po pa pl : AVal) (mo : Nat) (O : Ents (List UInt8) Int) (co : Nat) : List Ob := [.box po [.mp mo], .blk mo (cntB O co), .box pl [.fn (N 374) [] [po, pa, pl]]]
def Looks (C : CSem) (N : Nat → Nat) (L : List Itm) (h0 : zb) (po pa pl : AVal) (mo n : Nat) : Prop := ∀ (c : List UInt8) (O : Ents (List UInt8) Int) (co : Nat) (h : zb) (Q : AVal → zb → Prop), c ∈ zdr L → LookI (zdr L) (zfn L) O co → (∀ s, getP O s = some (-1) → Way1 (zjn L) s c) → missing (zdr L) O < n → Owns h0 h (zjg N po pa pl mo O co) →
 (∀ (r : Bool) (h' : zb) (O' : Ents (List UInt8) Int) (co' : Nat), Owns h0 h' (zjg N po pa pl mo O' co') → (r = true → LookI (zdr L) (zfn L) O' co' ∧ (∀ s v, getP O s = some v → getP O' s = some v) ∧ (∀ s, getP O' s = some (-1) → getP O s = some (-1)) ∧ ∃ d : Nat, zfn L c = some d ∧ getP O' c = some (d : Int)) → (r = false → zfn L c = none) → Q (.bool r) h') →
 C (N 374) [.str c, po, pa, pl] h Q
theorem zct.looks (i : zct.Imp C N) {L : List Itm} {h0 : zb} {Bk : Ents (List UInt8) (Itm × AVal × AVal)} {ca ma ia mo : Nat} {po pl : AVal} (hD : Deep (zjn L) (zdr L) (zfn L)) (hB : zrg h0 L Bk ca) (hma : h0 ma = some (bookB Bk ca)) (hpa : h0 ia = some (zej [.mp ma])) (hlen : L.length ≤ 1000000) :
  ∀ n, Looks C N L h0 po (.ptr ia 0 0) pl mo n
 | 0 => fun _ _ _ _ _ _ _ _ h => by omega
 | n + 1 => by
  intro c O co h Q hcK hI hway hmis o hq
  have ih := zct.looks i hD hB hma hpa hlen (po := po) (pl := pl) (mo := mo) n
  apply i
  have ldo : ∀ {hh : zb} {O2 : Ents (List UInt8) Int} {co2 : Nat}, Owns h0 hh (zjg N po (.ptr ia 0 0) pl mo O2 co2) → A.ldv hh po = some (.mp mo) := fun {hh O2 co2} o => by
   obtain ⟨ip, e, hb⟩ := o.zrq 0 rfl
   rw [e, zjr hb]; rfl
  have ldl : ∀ {hh : zb} {O2 : Ents (List UInt8) Int} {co2 : Nat}, Owns h0 hh (zjg N po (.ptr ia 0 0) pl mo O2 co2) → A.ldv hh pl = some (.fn (N 374) [] [po, .ptr ia 0 0, pl]) := fun {hh O2 co2} o => by
   obtain ⟨ip, rfl, hb⟩ := o.zrq 2 rfl
   rw [zjr hb]; rfl
  have lk : ∀ {hh : zb} {O2 : Ents (List UInt8) Int} {co2 : Nat} (o : Owns h0 hh (zjg N po (.ptr ia 0 0) pl mo O2 co2)) (s : List UInt8), A.lkp hh (some .s) (some (.int .i64 0)) false (.mp mo) (.str s) = some (.int .i64 ((getP O2 s).getD 0)) := fun o s => o.lkp 1 rfl keyS 0 s
  simp -dsimp [ldo o, lk o]
  cases hc : getP O c with
  | some v =>
   obtain ⟨_, hv⟩ := hI.val c v hc
   have hne : v ≠ 0 := by
    rcases hv with rfl | ⟨d, hd, rfl⟩
    ·omega
    ·have := hD.pos hcK hd; omega
   simp -dsimp [hne]
   refine zbj (hq _ h O co o (fun hr => ⟨hI, fun _ _ h => h, fun _ h => h, ?_⟩) fun hr => ?_)
   ·rcases hv with rfl | ⟨d, hd, rfl⟩
    ·simp at hr
    ·exact ⟨d, hd, hc⟩
   ·rcases hv with rfl | ⟨d, hd, rfl⟩
    ·exact hD.round (hway c hc) hcK
    ·have := hD.pos hcK hd
     simp at hr
     omega
  | none =>
   simp -dsimp
   simp -dsimp [ldo o]
   refine o.mset 1 rfl keyS c (-1) fun h1 o1 _ _ => ?_
   have o1 : Owns h0 h1 (zjg N po (.ptr ia 0 0) pl mo (putP O c (-1) co) (clkP O c co)) := o1
   have hI1 : LookI (zdr L) (zfn L) (putP O c (-1) co) (clkP O c co) := ⟨hI.zn1.put _ _, nodup_put hI.nd _ _ _, fun s v hs => by
    rw [zfi] at hs
    by_cases e : s = c
    ·subst e; rw [if_pos rfl] at hs; cases hs; exact ⟨hcK, .inl rfl⟩
    ·rw [if_neg e] at hs; exact hI.val s v hs⟩
   obtain ⟨x, hx⟩ : ∃ x, zg3 L c = some x := by
    cases e : zg3 L c with
    | none => exact absurd hcK (ziw.1 e)
    | some x => exact ⟨x, rfl⟩
   obtain ⟨p, hp⟩ : ∃ p, getP Bk c = some p := by
    have := hB.get c
    rw [hx] at this
    cases e : getP Bk c with
    | none => rw [e] at this; cases this
    | some p => exact ⟨p, rfl⟩
   obtain ⟨x', a⟩ := p
   have hxx : x' = x := by
    have := hB.get c
    rw [hx, hp] at this
    exact Option.some.inj this
   subst hxx
   have hpe : zjn L c = zeu x' := by unfold zjn; rw [hx]
   obtain ⟨⟨R1, a1⟩, _, a3, _⟩ : (∃ R, SlX h0 2 a.1 (x'.zb6.map Part.cs) R) ∧ (∃ R, SlX h0 1 a.2 (x'.zbz.map tc) R) ∧ x'.ok := hB.at_ c _ hp
   unfold few at a3
   have e1 := a1.zw
   rw [List.length_map] at e1
   have lda : A.ldv h1 (.ptr ia 0 0) = some (.mp ma) := by rw [zjr (o1.le _ _ hpa)]; rfl
   have lka : A.lkp h1 (some .s) (some (.agg [.str [], .int .i64 0, .nils, .nils])) false (.mp ma) (.str c) = some (.agg (zl0 x' a)) := by
    have := lkp_blk (v := mItm) (κ := mStr) keyS (o1.le _ _ hma) zItm c false
    rw [hp] at this
    exact this
   simp -dsimp [lda, lka, e1]
   refine zd.intro (fun t vs hh => ∃ (k m : Nat) (O2 : Ents (List UInt8) Int) (co2 : Nat), k + t = x'.zb6.length ∧ vs = [.int .i64 (m : Int), .int .i64 (k : Int)] ∧ Owns h0 hh (zjg N po (.ptr ia 0 0) pl mo O2 co2) ∧ LookI (zdr L) (zfn L) O2 co2 ∧
    (∀ s v, getP (putP O c (-1) co) s = some v → getP O2 s = some v) ∧ (∀ s, getP O2 s = some (-1) → getP (putP O c (-1) co) s = some (-1)) ∧ maxD (zfn L) ((zeu x').take k) 1 = some m) x'.zb6.length ?_
    ⟨0, 1, _, _, by omega, rfl, o1, hI1, fun _ _ h => h, fun _ h => h, rfl⟩
   rintro Y t vs hh ⟨k, m, O2, co2, ht, rfl, o2, hI2, hm1, hm2, hmx⟩ hY
   simp -dsimp only [zct.l2, zct.k1, lssN, B.zg]
   refine B.zn (fun hb => ?_) (fun hb => ?_)
   ·rw [decide_eq_true_eq] at hb
    have hg : (x'.zb6.map Part.cs)[k]? = some x'.zb6[k].cs := by rw [List.getElem?_map, List.getElem?_eq_getElem hb]; rfl
    have hidx : V.idxS 2 a.1 (.int .i64 (k : Int)) = some (elp 2 a.1 k 0) := a1.idxN (by simpa using hb)
    have hel := (a1.mono o2.le).elem hg
    have hpm : x'.zb6[k].Item ∈ zjn L c := by
     rw [hpe]; exact List.mem_map_of_mem (List.getElem_mem hb)
    simp -dsimp [hidx, hel, ldl o2]
    refine ih _ O2 co2 hh _ (hD.cl c hcK _ hpm) hI2 (fun s hs => ?_) ?_ o2 fun r h3 O3 co3 o3 hr1 hr2 => ?_
    ·have := hm2 s hs
     rw [zfi] at this
     by_cases e : s = c
     ·subst e; exact .one hpm
     ·rw [if_neg e] at this; exact .more (hway s this) hpm
    ·have h1 := zr3 (K := zdr L) hm1
     have h2 := zqq (v := -1) (co := co) hc hcK
     omega
    ·cases r with
     | false =>
      simp -dsimp
      exact zbj (hq false h3 O3 co3 o3 (fun h => by cases h) fun _ => hD.no hcK hpm (hr2 rfl))
     | true =>
      obtain ⟨hI3, m1, m2, d, hd, hg3⟩ := hr1 rfl
      have hdl := hD.le _ (hD.cl c hcK _ hpm) d hd
      have hKl : (zdr L).length = L.length := by simp [zdr]
      have ha1 : V.bin .add (.int .i64 1) (.int .i64 (d : Int)) = some (.int .i64 ((1 + d : Nat) : Int)) := zke (a := 1) (b := d) (by omega)
      simp -dsimp [ldo o3, - V.zdi, - V.max2_int]
      simp -dsimp only [lk o3, hg3, Option.getD_some, ha1, max2N, add1 (show k < 4611686018427387904 by omega), B.zg]
      refine hY (t - 1) _ _ (by omega) ⟨k + 1, max m (1 + d), O3, co3, by omega, rfl, o3, hI3, fun s v hs => m1 s v (hm1 s v hs), fun s hs => hm2 s (m2 s hs), ?_⟩
      rw [zhq hb, zmz, hmx]
      show maxD (zfn L) [x'.zb6[k].Item] m = _
      rw [ziq, hd]; rfl
   ·rw [decide_eq_false_iff_not] at hb
    have hk : k = x'.zb6.length := by omega
    subst hk
    rw [List.take_of_length_le (by simp [zeu])] at hmx
    have hdc : zfn L c = some m := by rw [hD.eq c hcK, hpe, hmx]
    simp -dsimp [ldo o2]
    refine o2.mset 1 rfl keyS c (m : Int) fun h3 o3 _ _ => ?_
    refine zbj (hq true h3 _ _ o3 (fun _ => ⟨⟨hI2.zn1.put _ _, nodup_put hI2.nd _ _ _, fun s v hs => ?_⟩, fun s v hs => ?_, fun s hs => ?_, m, hdc, ?_⟩) fun h => by cases h)
    ·rw [zfi] at hs
     by_cases e : s = c
     ·subst e; rw [if_pos rfl] at hs; cases hs; exact ⟨hcK, .inr ⟨m, hdc, rfl⟩⟩
     ·rw [if_neg e] at hs; exact hI2.val s v hs
    ·rw [zfi]
     by_cases e : s = c
     ·subst e; rw [hc] at hs; cases hs
     ·rw [if_neg e]
      refine hm1 s v ?_
      rw [zfi, if_neg e]; exact hs
    ·rw [zfi] at hs
     by_cases e : s = c
     ·subst e; rw [if_pos rfl] at hs; have := Option.some.inj hs; omega
     ·rw [if_neg e] at hs
      have := hm2 s hs
      rwa [zfi, if_neg e] at this
    ·rw [zfi, if_pos rfl]
structure DeepM (L : List Itm) (O : Ents (List UInt8) Int) (co : Nat) : Prop where
 zn1 : zh9 O co
 nd : (zm1 O).Nodup
 all : ∀ c ∈ zdr L, ∃ d : Nat, zfn L c = some d ∧ getP O c = some (d : Int)
 val : ∀ s v, getP O s = some v → s ∈ zdr L ∧ ∃ d : Nat, zfn L s = some d ∧ v = d
def zc5.Spec (C : CSem) (N : Nat → Nat) : Prop := ∀ (L : List Itm) (Bk : Ents (List UInt8) (Itm × AVal × AVal)) (ca ma : Nat) (h : zb) (Q : AVal → zb → Prop), zrg h L Bk ca → h ma = some (bookB Bk ca) → ze9 L = true → L.length ≤ 1000000 →
 (∀ h', h.le h' → (∃ c ∈ zdr L, zfn L c = none) → Q (.tup [.nilm, .bool false]) h') → (∀ h' mo O co, Owns h h' [.blk mo (cntB O co)] → DeepM L O co → Q (.tup [.mp mo, .bool true]) h') → C (N 370) [.mp ma] h Q
theorem zc5.spec (i : zc5.Imp C N) (i2 : zct.Imp C N) : zc5.Spec C N := by
 intro L Bk ca ma h Q hB hma hpt hlen hno hyes
 have hD := zor hpt
 apply i
 intro ia hia
 have hle1 : h.le (upd h ia (zej [.mp ma])) := zgi _ hia
 have hpa : (upd h ia (zej [.mp ma])) ia = some (zej [.mp ma]) := zbv ..
 generalize hg1 : upd h ia (zej [AVal.mp ma]) = h1 at hle1 hpa
 refine (Owns.start h1).zjq (K := List UInt8) (T := Int) mStr mInt fun mo h2 _ o2 _ => ?_
 intro i4 hi4
 have o3 := o2.zr2 hi4 [.nilm]
 refine o3.boxSt 1 (off := 0) rfl rfl (by simp) fun h4 o4 _ => ?_
 intro i5 hi5
 have o5 := o4.zr2 hi5 [.nilf]
 refine o5.boxSt 2 (off := 0) rfl rfl (by simp) fun h6 o6 _ => ?_
 have o6 : Owns h1 h6 [.blk mo (cntB [] 0), .box (.ptr i4 0 0) [.mp mo], .box (.ptr i5 0 0) [.fn (N 374) [] [.ptr i4 0 0, .ptr ia 0 0, .ptr i5 0 0]]] := o6
 have o7 : Owns h1 h6 (zjg N (.ptr i4 0 0) (.ptr ia 0 0) (.ptr i5 0 0) mo [] 0) := o6.perm (List.Perm.swap _ _ _)
 have lda : A.ldv h6 (.ptr ia 0 0) = some (.mp ma) := by rw [zjr (o7.le _ _ hpa)]; rfl
 simp -dsimp [lda]
 have hB1 := hB.mono hle1
 refine o7.rangeLoop (J := fun D l => ∃ O co, l = zjg N (.ptr i4 0 0) (.ptr ia 0 0) (.ptr i5 0 0) mo O co ∧ LookI (zdr L) (zfn L) O co ∧ (∀ s, getP O s ≠ some (-1)) ∧ ∀ q ∈ D, ∃ d : Nat, zfn L q.1 = some d ∧ getP O q.1 = some (d : Int)) (hle1 _ _ hma) hB.zn1
  ⟨[], 0, rfl, ⟨zh9.nil 0, List.Pairwise.nil, fun s v h => (by cases h)⟩, fun s h => (by cases h), fun q h => (by cases h)⟩ (fun it hh Y h => by rw [zc5.l2, zc5.k1]; exact h) ?_ ?_
 ·rintro it hh D l b Y ⟨O, co, rfl, hI, hm, hall⟩ hp o
  have ldo : A.ldv hh (.ptr i4 0 0) = some (.mp mo) := by
   obtain ⟨ip, e, hb⟩ := o.zrq 0 rfl
   cases e
   rw [zjr hb]; rfl
  simp -dsimp [ldo]
  have ob : Owns h hh [.blk mo (cntB O co)] := (o.sub (l' := [.blk mo (cntB O co)]) (by simp)).back hle1
  refine zbj (hyes hh mo O co ob ⟨hI.zn1, hI.nd, fun c hc => ?_, fun s v hs => ?_⟩)
  ·rw [← hB.keys] at hc
   obtain ⟨q, hq, rfl⟩ := List.mem_map.1 hc
   exact hall q (hp.mem_iff.2 hq)
  ·obtain ⟨h1, h2⟩ := hI.val s v hs
   refine ⟨h1, h2.resolve_left fun e => hm s (by rw [hs, e])⟩
 ·rintro it hh D l b Y p hp ⟨O, co, rfl, hI, hm, hall⟩ hD' hpD o he hnext
  have hpK : p.1 ∈ zdr L := by rw [← hB.keys]; exact List.mem_map_of_mem hp
  have ldl : A.ldv hh (.ptr i5 0 0) = some (.fn (N 374) [] [.ptr i4 0 0, .ptr ia 0 0, .ptr i5 0 0]) := by
   obtain ⟨ip, e, hb⟩ := o.zrq 2 rfl
   cases e
   rw [zjr hb]; rfl
  have o' : Owns h1 hh ([.blk it b] ++ zjg N (.ptr i4 0 0) (.ptr ia 0 0) (.ptr i5 0 0) mo O co) := o.perm List.perm_append_comm
  obtain ⟨oa, ob⟩ := o'.out
  simp -dsimp [he, ldl]
  refine zct.looks i2 hD (hB1.mono oa.le) (oa.le _ _ (hle1 _ _ hma)) (oa.le _ _ hpa) hlen (missing (zdr L) O + 1) p.1 O co hh _ hpK hI (fun s hs => absurd hs (hm s)) (by omega) ob fun r h' O' co' o3 hr1 hr2 => ?_
  cases r with
  | false =>
   simp -dsimp
   exact zbj (hno h' (zb.le_trans hle1 (zb.le_trans oa.le o3.le)) ⟨p.1, hpK, hr2 rfl⟩)
  | true =>
   obtain ⟨hI', m1, m2, d, hd, hgd⟩ := hr1 rfl
   simp -dsimp
   refine hnext h' _ ⟨O', co', rfl, hI', fun s hs => hm s (m2 s hs), fun q hq => ?_⟩ ((oa.join o3).perm List.perm_append_comm)
   rcases List.mem_append.1 hq with hq | hq
   ·obtain ⟨e, h1, h2⟩ := hall q hq
    exact ⟨e, h1, m1 _ _ h2⟩
   ·rw [List.mem_singleton.1 hq]; exact ⟨d, hd, hgd⟩
theorem zhz {h : zb} {x : AVal} {L : List Itm} (hx : Dl zd5 h x L) {i : Nat} {r : Itm} (hr : L[i]? = some r) : ∃ p o, V.idxS 4 x (.int .i64 (i : Int)) = some (elp 4 x i 0) ∧ A.ldnv h (elp 4 x i 0) 4 = some (.agg (zl0 r (p, o))) ∧ V.fieldAddr 0 (elp 4 x i 0) = some (elp 4 x i 0) ∧
  V.fieldAddr 2 (elp 4 x i 0) = some (elp 4 x i 2) ∧ V.fieldAddr 3 (elp 4 x i 0) = some (elp 4 x i 3) ∧ A.ldv h (elp 4 x i 0) = some (.str r.Code) ∧ A.ldv h (elp 4 x i 2) = some p ∧ A.ldv h (elp 4 x i 3) = some o ∧ zd5.at_ h r (p, o) := by
 obtain ⟨a, ea⟩ := hx.get hr
 exact ⟨a.1, a.2, ea.idx, ea.ldn, ea.fld 0 0, ea.fld 0 2, ea.fld 0 3, ea.ld 0 (by decide), ea.ld 2 (by decide), ea.ld 3 (by decide), ea.at_⟩
theorem itm_get2 {h H : zb} {x : AVal} {L : List Itm} (hx : Dl zd5 h x L) (hle : h.le H) {i : Nat} {r : Itm} (hr : L[i]? = some r) : ∃ p o, V.idxS 4 x (.int .i64 (i : Int)) = some (elp 4 x i 0) ∧ A.ldnv H (elp 4 x i 0) 4 = some (.agg (zl0 r (p, o))) ∧ zd5.at_ h r (p, o) := by
 obtain ⟨a, ea, ha⟩ := hx.get2 hle hr
 exact ⟨a.1, a.2, ea.idx, ea.ldn, ha⟩
theorem zq2 {h : zb} {r : Itm} {p o : AVal} (ha : zd5.at_ h r (p, o)) : (∃ R, SlX h 2 p (r.zb6.map Part.cs) R) ∧ V.zw p = some (.int .i64 (r.zb6.length : Int)) ∧ r.zb6.length ≤ 100000000 := by
 obtain ⟨⟨R1, a1⟩, _, a3, _⟩ : (∃ R, SlX h 2 p (r.zb6.map Part.cs) R) ∧ (∃ R, SlX h 1 o (r.zbz.map tc) R) ∧ r.ok := ha
 have e1 := a1.zw
 rw [List.length_map] at e1
 exact ⟨⟨R1, a1⟩, e1, a3⟩
theorem zju {h : zb} {r : Itm} {p o : AVal} (ha : zd5.at_ h r (p, o)) : (∃ R, SlX h 1 o (r.zbz.map tc) R) ∧ V.zw o = some (.int .i64 (r.zbz.length : Int)) ∧ r.zbz.length ≤ 100000000 := by
 obtain ⟨_, ⟨R1, a1⟩, _, a3⟩ : (∃ R, SlX h 2 p (r.zb6.map Part.cs) R) ∧ (∃ R, SlX h 1 o (r.zbz.map tc) R) ∧ r.ok := ha
 have e1 := a1.zw
 rw [List.length_map] at e1
 exact ⟨⟨R1, a1⟩, e1, a3⟩
theorem V.bin_sgeq (a b : List UInt8) : V.bin .geq (.str a) (.str b) = some (.bool (!zgn a b)) := rfl
def zbw.Spec (C : CSem) (N : Nat → Nat) : Prop := ∀ (x : AVal) (L : List Itm) (h : zb) (Q : AVal → zb → Prop), Dl zd5 h x L → L.length ≤ 1000000 → (∀ a b h', h.le h' → Q (.tup [a, b, .int .i64 (zd8 L)]) h') → C (N 362) [x] h Q
theorem zkg {L : List Itm} {x : Itm} (hx : x ∈ L) {p : Part} (hp : p ∈ x.zb6) (hn : p.Item ∉ zdr L) : ze9 L = false := by
 unfold ze9
 rw [List.all_eq_false]
 refine ⟨x, hx, ?_⟩
 simp only [Bool.not_eq_true, List.all_eq_false]
 exact ⟨p, hp, by simpa using hn⟩
theorem zbw.spec (i : zbw.Imp C N) (s1 : zdb.Spec C N) (s2 : zdc.Spec C N) (s3 : zeh.Spec C N) (s4 : zc5.Spec C N) : zbw.Spec C N := by
  intro x L h Q hx hlen hq
  apply i
  simp -dsimp only [zbw.cps, zbw.k11, hx.zw, V.zou, B.zg]
  refine B.zn (fun hb => ?_) (fun hb => ?_)
  · have hk : zd8 L = 3 := by
      have : 60 < L.length := by have : (60 : Int) < L.length := by simpa using hb
                                 omega
      unfold zd8; simp [this]
    have := hq .nilm .nilm h (zb.le_refl _)
    rw [hk] at this
    exact zbj this
  have hl60 : ¬ 60 < L.length := by
    have : ¬ (60 : Int) < L.length := by simpa using hb
    omega
  simp -dsimp only [hx.zw, B.zg]
  refine zd.intro (fun t vs hh => hh = h ∧ ∃ k : Nat, k + t = L.length ∧ vs = [.int .i64 (k : Int)] ∧ ∀ j, j < k → zpm L j = true) L.length ?_ ⟨rfl, 0, by omega, rfl, fun j hj => by omega⟩
  rintro Y t vs hh ⟨rfl, k, ht, rfl, hall⟩ hY
  simp -dsimp only [zbw.l10, zbw.k9, lssN, B.zg]
  refine B.zn (fun hc => ?_) (fun hc => ?_)
  · rw [decide_eq_true_eq] at hc
    obtain ⟨r, hr⟩ := zfc hc
    obtain ⟨p, o, e1, e2, e3, _, _, e6, _, _, ha⟩ := zhz hx hr
    have er := zk7 hr
    have no : zpm L k = false → dn Q (.tup [.nilm, .nilm, .int .i64 4]) hh := fun e => by
      have hk : zd8 L = 4 := by unfold zd8; simp [hl60, zo7 hc e]
      have := hq .nilm .nilm hh (zb.le_refl _)
      rw [hk] at this
      exact zbj this
    have yes : zpm L k = true → Y [.int .i64 ((k + 1 : Nat) : Int)] hh := fun e => hY (t - 1) _ _ (by omega) ⟨rfl, k + 1, by omega, rfl, fun j hj => by
      by_cases h : j = k
      · subst h; exact e
      · exact hall j (by omega)⟩
    have fin : ze7 r.Code = true → ordAt L k r = true → B.gd hh (.bool false) false (fun K => B.pv (V.zfu 0 4 (.agg (zl0 r (p, o)))) fun v => K v hh) fun v46 h =>
        B.gd h (.bool false) false (fun K => B.call C (N 372) [v46] h K) fun v47 h =>
        B.gd h (.bool false) false (fun K => B.pv (V.un .not v47) fun v => K v h) fun v48 h =>
        B.pick (.bool false) (.bool true) v48 fun v49 =>
        B.cond v49 (dn Q (.tup [.nilm, .nilm, (.int .i64 4)]) h) (B.pv (V.bin .add (.int .i64 (k : Int)) (.int .i64 1)) fun v50 => Y [v50] h) := fun hcr hor => by
      simp -dsimp
      refine s2 _ _ _ _ ha ?_
      rw [hcr, Bool.true_and, hor, Bool.true_and] at er
      cases hk : zhi r with
      | false =>
        simp -dsimp
        exact no (by rw [er, hk])
      | true =>
        simp -dsimp [- V.zdi, add1 (show k < 4611686018427387904 by omega)]
        exact yes (by rw [er, hk])
    simp -dsimp [e1, e2, - V.zdi, - V.zfk]
    refine s1 _ _ _ ?_
    cases hcr : ze7 r.Code with
    | false => simp -dsimp; exact no (by rw [er, hcr]; rfl)
    | true =>
      simp -dsimp [- V.zdi, - V.zfk]
      by_cases h0 : k = 0
      · subst h0
        simp -dsimp [- V.zdi, - V.zfk]
        have := fin hcr rfl
        simp -dsimp [- V.zdi, - V.zfk] at this
        exact this
      · obtain ⟨r2, hr2⟩ := zfc (L := L) (k := k - 1) (by omega)
        obtain ⟨p2, o2, f1, f2, f3, _, _, f6, _, _, _⟩ := zhz hx hr2
        have sk := sub1 (a := k) (by omega) (by omega)
        have hk0 : 0 < k := by omega
        simp -dsimp [hk0, sk, f1, f3, f6, - V.zdi, - V.zfk]
        have eo := zoh (x := r) h0 hr2
        simp -dsimp only [V.bin_sgeq, B.zg]
        cases hle : zgn r2.Code r.Code with
        | false =>
          simp -dsimp [hk0]
          exact no (by rw [er, hcr, eo, hle]; rfl)
        | true =>
          have := fin hcr (by rw [eo, hle])
          simp -dsimp [hk0, - V.zdi, - V.zfk] at this ⊢
          exact this
  rw [decide_eq_false_iff_not] at hc
  have hk : k = L.length := by omega
  subst hk
  have hsh : ziu L = true := zqy fun j hj => hall j hj
  have hnd := zkv hsh
  refine s3 _ _ _ _ hx hnd hlen fun ma h1 Bk ca o1 hB => ?_
  simp -dsimp only [hx.zw, B.zg]
  have hz : ∀ s, V.bin .eql (.str s) (.str []) = some (.bool (decide (s = []))) := fun s => V.zn2 s []
  have lka : ∀ {hh : zb} (hle : h1.le hh) (s : List UInt8), ∃ (t : Itm) (a : AVal × AVal), A.lkp hh (some .s) (some (.agg [.str [], .int .i64 0, .nils, .nils])) false (.mp ma) (.str s) = some (.agg (zl0 t a)) ∧ decide (t.Code = []) = decide (s ∉ zdr L) := fun {hh} hle s => by
    have h2 := lkp_blk (v := mItm) (κ := mStr) keyS (hle _ _ (o1.at 0 rfl)) zItm s false
    refine ⟨((getP Bk s).getD zItm).1, ((getP Bk s).getD zItm).2, h2, decide_eq_decide.2 ?_⟩
    have hg := hB.get s
    cases e : getP Bk s with
    | none =>
      rw [e] at hg
      have : s ∉ zdr L := ziw.1 hg.symm
      simp [this]
    | some q =>
      rw [e] at hg
      have hg : zg3 L s = some q.1 := hg.symm
      obtain ⟨m1, m2⟩ := zj6 hg
      have hin : s ∈ zdr L := by rw [← m2]; exact List.mem_map_of_mem m1
      obtain ⟨j, hj, e2⟩ := List.getElem_of_mem m1
      have := kitAll_at hsh hj
      rw [zk7 (List.getElem?_eq_getElem hj), e2, Bool.and_eq_true] at this
      have hne : q.1.Code ≠ [] := fun e => by rw [e] at this; exact absurd this.1 (by decide)
      simp [hne, hin]
  refine zd.intro (fun t vs hh => hh = h1 ∧ ∃ k : Nat, k + t = L.length ∧ vs = [.int .i64 (k : Int)] ∧ ∀ x ∈ L.take k, ∀ p ∈ x.zb6, p.Item ∈ zdr L) L.length ?_ ⟨rfl, 0, by omega, rfl, fun x h => (by simp at h)⟩
  rintro Y t vs hh ⟨rfl, k, ht, rfl, hall⟩ hY
  simp -dsimp only [zbw.l8, zbw.k7, lssN, B.zg]
  refine B.zn (fun hc => ?_) (fun hc => ?_)
  · rw [decide_eq_true_eq] at hc
    obtain ⟨r, hr⟩ := zfc hc
    obtain ⟨p, o, e1, e2, _, _, _, _, _, _, ha⟩ := zhz (hx.mono o1.le) hr
    obtain ⟨⟨R1, a1⟩, el, hpl⟩ := zq2 ha
    simp -dsimp only [zbw.k6]
    simp -dsimp [e1, e2, el]
    refine zd.intro (fun t vs h2 => h2 = hh ∧ ∃ m : Nat, m + t = r.zb6.length ∧ vs = [.int .i64 (m : Int)] ∧ ∀ p ∈ r.zb6.take m, p.Item ∈ zdr L) r.zb6.length ?_ ⟨rfl, 0, by omega, rfl, fun x h => (by simp at h)⟩
    rintro Z t2 vs h2 ⟨rfl, m, ht2, rfl, hall2⟩ hZ
    simp -dsimp only [zbw.l5, zbw.k4, lssN, B.zg]
    refine B.zn (fun hb => ?_) (fun hb => ?_)
    · rw [decide_eq_true_eq] at hb
      have hg : (r.zb6.map Part.cs)[m]? = some r.zb6[m].cs := by rw [List.getElem?_map, List.getElem?_eq_getElem hb]; rfl
      have hidx : V.idxS 2 p (.int .i64 (m : Int)) = some (elp 2 p m 0) := a1.idxN (by simpa using hb)
      have hel := a1.elem hg
      obtain ⟨t, a, hlk, hcd⟩ := lka (zb.le_refl _) r.zb6[m].Item
      simp -dsimp [hidx, hel, hlk, - V.zdi]
      rw [hcd]
      refine B.zn (fun hd => ?_) (fun hd => ?_)
      · have hd : r.zb6[m].Item ∉ zdr L := by simpa using hd
        have hk : zd8 L = 150 := by
          unfold zd8
          simp [hl60, hsh, zkg (List.mem_of_getElem? hr) (List.getElem_mem hb) hd]
        have := hq .nilm .nilm h2 o1.le
        rw [hk] at this
        exact zbj this
      · have hd : r.zb6[m].Item ∈ zdr L := by simpa using hd
        simp -dsimp only [add1 (show m < 4611686018427387904 by omega), B.zg]
        refine hZ (t2 - 1) _ _ (by omega) ⟨rfl, m + 1, by omega, rfl, fun p hp => ?_⟩
        rw [List.take_add_one, List.getElem?_eq_getElem hb, List.mem_append] at hp
        rcases hp with hp | hp
        · exact hall2 p hp
        · have : p = r.zb6[m] := by simpa using hp
          rw [this]; exact hd
    · rw [decide_eq_false_iff_not] at hb
      have hk : m = r.zb6.length := by omega
      subst hk
      rw [List.take_length] at hall2
      simp -dsimp only [add1 (show k < 4611686018427387904 by omega), B.zg]
      refine hY (t - 1) _ _ (by omega) ⟨rfl, k + 1, by omega, rfl, fun x hx => ?_⟩
      rw [List.take_add_one, hr, List.mem_append] at hx
      rcases hx with hx | hx
      · exact hall x hx
      · have : x = r := by simpa using hx
        rw [this]; exact hall2
  · rw [decide_eq_false_iff_not] at hc
    have hk : k = L.length := by omega
    subst hk
    rw [List.take_length] at hall
    have hpt : ze9 L = true := by
      unfold ze9
      rw [List.all_eq_true]
      intro x hx
      rw [List.all_eq_true]
      intro p hp
      simpa using hall x hx p hp
    have hany1 : (∃ c ∈ zdr L, zfn L c = none) → zd8 L = 152 := by
      rintro ⟨c, hc, hn⟩
      obtain ⟨x, hx, rfl⟩ := List.mem_map.1 hc
      have : L.any (fun x => decide (zfn L x.Code = none)) = true := List.any_eq_true.2 ⟨x, hx, by simp [hn]⟩
      unfold zd8
      simp only [hl60, hsh, hpt, this, decide_false, Bool.not_true, cond_false, cond_true]
    refine s4 L Bk ca ma _ _ (hB.mono o1.le) (o1.at 0 rfl) hpt hlen (fun h2 hle hno => ?_) fun h2 mo O co o2 hM => ?_
    · simp -dsimp
      have := hq .nilm .nilm h2 (zb.le_trans o1.le hle)
      rw [hany1 hno] at this
      exact zbj this
    · simp -dsimp
      have hny : L.any (fun x => decide (zfn L x.Code = none)) = false := by
        rw [List.any_eq_false]
        intro x hx
        obtain ⟨d, h1, _⟩ := hM.all x.Code (List.mem_map_of_mem hx)
        simp [h1]
      have hkc : zd8 L = bif L.any (fun x => decide (8 < (zfn L x.Code).getD 0)) then 3 else 0 := by
        unfold zd8
        simp only [hl60, hsh, hpt, hny, decide_false, Bool.not_true, cond_false]
      have hbm : h2 mo = some (cntB O co) := o2.at 0 rfl
      refine (Owns.start h2).rangeLoop (J := fun D l => l = [] ∧ ∀ q ∈ D, q.2.1 ≤ 8) hbm hM.zn1 ⟨rfl, fun q h => (by cases h)⟩ (fun it hh Y h => by rw [zbw.l2, zbw.k1]; exact h) ?_ ?_
      · rintro it h3 D l b Y ⟨rfl, hall⟩ hp o3
        simp -dsimp
        have : L.any (fun x => decide (8 < (zfn L x.Code).getD 0)) = false := by
          rw [List.any_eq_false]
          intro x hx
          obtain ⟨d, h4, h5⟩ := hM.all x.Code (List.mem_map_of_mem hx)
          obtain ⟨n, h6⟩ := getP_mem h5
          have := hall _ (hp.mem_iff.2 h6)
          have : (d : Int) ≤ 8 := this
          simp [h4]; omega
        rw [this] at hkc
        have := hq (.mp ma) (.mp mo) h3 (zb.le_trans o1.le (zb.le_trans o2.le o3.le))
        rw [hkc] at this
        exact zbj this
      · rintro it h3 D l b Y q hq' ⟨rfl, hall⟩ hD' hqD o3 he hnext
        simp -dsimp [he]
        refine B.zn (fun hd => ?_) (fun hd => ?_)
        · have hd : 8 < q.2.1 := by simpa using hd
          obtain ⟨m1, d, m2, m3⟩ := hM.val q.1 q.2.1 (mem_getP hM.nd hq')
          obtain ⟨x, hx, e⟩ := List.mem_map.1 m1
          have : L.any (fun x => decide (8 < (zfn L x.Code).getD 0)) = true := List.any_eq_true.2 ⟨x, hx, by rw [e, m2]; simp; omega⟩
          rw [this] at hkc
          have := hq .nilm .nilm h3 (zb.le_trans o1.le (zb.le_trans o2.le o3.le))
          rw [hkc] at this
          exact zbj this
        · have hd : ¬ 8 < q.2.1 := by simpa using hd
          refine hnext h3 [] ⟨rfl, fun q2 hq2 => ?_⟩ o3
          rcases List.mem_append.1 hq2 with h | h
          · exact hall q2 h
          · rw [List.mem_singleton.1 h]; omega
def ze2.Spec (C : CSem) (N : Nat → Nat) : Prop := ∀ (x : AVal) (L : List Itm) (h : zb) (Q : AVal → zb → Prop), Dl zd5 h x L → L.length ≤ 1000000 → Q (.int .i64 (zd8 L)) h → C (N 356) [x] h Q
theorem ze2.spec (i : ze2.Imp C N) (s1 : zbw.Spec C N) : ze2.Spec C N := by
 intro x L h Q hx hlen hq
 apply i
 refine s1 _ _ _ _ hx hlen fun a b h' hle => ?_
 simp -dsimp
 exact zkb hle hq
def ze4.Spec (C : CSem) (N : Nat → Nat) : Prop := ∀ (c : List UInt8) (o : AVal) (l : List (List UInt8)) (R : List (List AVal)) (h : zb) (Q : AVal → zb → Prop), SlX h 1 o (l.map tc) R → l.length ≤ 10000000 →
 (∀ x' R' h', Owns h h' [.sl 1 x' ((c :: l).map tc) R'] → Q x' h') → C (N 363) [.str c, o] h Q
theorem ze4.spec (i : ze4.Imp C N) (s1 : zbm.Spec C N) : ze4.Spec C N := by
 intro c o l R h Q ho hl hq
 apply i
 simp -dsimp [ho.zd1]
 intro i6 h6
 have o1 := (Owns.start h).newSl (id := i6) (n := 1) (cp := 1) (es := 1) (cs := [.str c]) (L := [[.str c]]) (R := []) h6 (by simp) rfl (by simp) rfl
 simp -dsimp [ho.zd1]
 intro i8 h8
 have o2 := o1.newSl (id := i8) (n := 2) (cp := 2) (es := 1) (cs := [.sl i6 0 0 1 1 1, o]) (L := [[.sl i6 0 0 1 1 1], [o]]) (R := []) h8 (by simp) rfl (by simp) rfl
 refine s1 _ [.sl i6 0 0 1 1 1, o] [[c], l] _ _ _ (o2.slAt 1 rfl) rfl (fun j y l' hy hl' => ?_) (by simp) (by simp; omega) fun x' h' R' o3 => ?_
 ·match j with
  | 0 => cases hy; cases hl'; exact ⟨_, o2.slAt 0 rfl⟩
  | 1 => cases hy; cases hl'; exact ⟨_, ho.mono o2.le⟩
  | j + 2 => simp at hy
 ·exact zbj (hq x' R' h' ((by simpa using o3 : Owns _ h' [.sl 1 x' ((c :: l).map tc) R']).back o2.le))
def zgr (L : List Itm) (c : List UInt8) : List (List UInt8) := match zg3 L c with
 | some x => c :: x.zbz
 | none => []
def zji (L : List Itm) (c : List UInt8) : Int := match L.findIdx? fun x => decide (x.Code = c) with | some i => (i : Int) | none => -1
theorem zpz {L : List Itm} {c : List UInt8} : (zji L c < 0 ↔ zg3 L c = none) ∧ ∀ k : Nat, zji L c = k → ∃ x, L[k]? = some x ∧ zg3 L c = some x := by
 unfold zji zg3
 cases h : L.findIdx? fun x => decide (x.Code = c) with
 | none =>
  have h' := List.findIdx?_eq_none_iff.1 h
  refine ⟨⟨fun _ => List.find?_eq_none.2 fun x hx => by simpa using h' x hx, fun _ => by simp⟩, fun k hk => by
   have hk : (-1 : Int) = k := hk
   omega⟩
 | some i =>
  obtain ⟨hi, hp, hno⟩ := List.findIdx?_eq_some_iff_getElem.1 h
  have hf : L.find? (fun x => decide (x.Code = c)) = some L[i] := by
   rw [List.find?_eq_some_iff_getElem]
   exact ⟨hp, i, hi, rfl, fun j hj => by simpa using hno j hj⟩
  refine ⟨⟨fun h => by simp at h; omega, fun h => by rw [hf] at h; cases h⟩, fun k hk => ?_⟩
  have : k = i := by simp at hk; omega
  subst this
  exact ⟨_, List.getElem?_eq_getElem hi, hf⟩
theorem zsb {L : List Itm} {c : List UInt8} (h : ∀ x ∈ L, x.Code ≠ c) : zji L c = -1 := by
 have : L.findIdx? (fun x => decide (x.Code = c)) = none := List.findIdx?_eq_none_iff.2 fun x hx => by simp [h x hx]
 unfold zji; rw [this]
theorem findI_at {L : List Itm} {c : List UInt8} {k : Nat} (hk : k < L.length) (h : ∀ i, i < k → ∀ a, L[i]? = some a → a.Code ≠ c) (hc : L[k].Code = c) : zji L c = k := by
 have : L.findIdx? (fun x => decide (x.Code = c)) = some k := zop hk (fun i hi a ha => by simp [h i hi a ha]) (by simp [hc])
 unfold zji; rw [this]
def zel.Spec (C : CSem) (N : Nat → Nat) : Prop := ∀ (r : Itm) (a : AVal × AVal) (c : List UInt8) (id : Nat) (h : zb) (Q : AVal → zb → Prop), zd5.at_ h r a → h id = some (zej [.str c]) → Q (.bool (decide (r.Code = c))) h → C (N 366) [.agg (zl0 r a), .ptr id 0 0] h Q
theorem zel.spec (i : zel.Imp C N) : zel.Spec C N := by
 intro r a c id h Q ha hid hq
 apply i
 have ld : A.ldv h (.ptr id 0 0) = some (.str c) := by rw [zjr hid]; rfl
 obtain ⟨⟨R1, a1⟩, ⟨R2, a2⟩, _⟩ : (∃ R, SlX h 2 a.1 (r.zb6.map Part.cs) R) ∧ (∃ R, SlX h 1 a.2 (r.zbz.map tc) R) ∧ r.ok := ha
 simp -dsimp [ld]
 exact zbj hq
def zq.Spec (C : CSem) (N : Nat → Nat) : Prop := ∀ (x : AVal) (c : List UInt8) (id : Nat) (L : List Itm) (h : zb) (Q : AVal → zb → Prop), Dl zd5 h x L → L.length ≤ 100000000 → h id = some (zej [.str c]) →
 Q (.int .i64 (zji L c)) h → C (N 367) [x, .fn (N 366) [] [.ptr id 0 0]] h Q
theorem zq.spec (i : zq.Imp C N) (s1 : zel.Spec C N) : zq.Spec C N := by
 intro x c id L h Q hx hlen hid hq
 refine i _ _ _ _ ?_
 simp -dsimp only [zq.cps, zd3.cps, hx.zw, B.zg]
 refine zd.intro (fun t vs hh => hh = h ∧ ∃ k : Nat, k + t = L.length ∧ vs = [.int .i64 (k : Int)] ∧ ∀ i, i < k → ∀ a, L[i]? = some a → a.Code ≠ c) L.length ?_ ⟨rfl, 0, by omega, rfl, fun i hi => by omega⟩
 rintro Y t vs h ⟨rfl, k, ht, rfl, hno⟩ hY
 simp -dsimp only [zd3.l2, zd3.k1, lssN, B.zg]
 refine B.zn (fun hb => ?_) (fun hb => ?_) <;> simp only [decide_eq_true_eq, decide_eq_false_iff_not] at hb
 ·obtain ⟨p, o, e1, e2, _, _, _, _, _, _, ha⟩ := zhz hx (List.getElem?_eq_getElem hb)
  simp -dsimp only [opsF, e1, B.zg, B.zqx, e2]
  refine s1 _ _ c _ _ _ ha hid ?_
  refine B.zn (fun hc => ?_) (fun hc => ?_)
  ·rw [findI_at hb hno (by simpa using hc)] at hq; exact zbj hq
  ·simp -dsimp only [add1 (show k < 4611686018427387904 by omega), B.zg]
   refine hY (L.length - (k + 1)) _ _ (by omega) ⟨rfl, k + 1, by omega, rfl, fun i hi a hia => ?_⟩
   by_cases e : i = k
   ·subst e; rw [List.getElem?_eq_getElem hb] at hia; cases hia; simpa using hc
   ·exact hno i (by omega) a hia
 ·have : zji L c = -1 := zsb fun x hx => by
   obtain ⟨j, hj, rfl⟩ := List.getElem_of_mem hx
   exact hno j (by omega) _ (List.getElem?_eq_getElem hj)
  rw [this] at hq; exact zbj hq
def zez.Spec (C : CSem) (N : Nat → Nat) : Prop := ∀ (x : AVal) (c : List UInt8) (L : List Itm) (h : zb) (Q : AVal → zb → Prop), Dl zd5 h x L → L.length ≤ 1000000 → (∀ t ∈ L, t.zbz.length ≤ 10000000) →
 (∀ x' R' h', Owns h h' [.sl 1 x' ((zgr L c).map tc) R'] → Q x' h') → C (N 355) [x, .str c] h Q
theorem zez.spec (i : zez.Imp C N) (s1 : zq.Spec C N) (s2 : ze4.Spec C N) : zez.Spec C N := by
 intro x c L h Q hx hlen hof hq
 apply i
 intro i3 h3
 have o1 := (Owns.start h).zr2 h3 [.str c]
 have hb : (upd h i3 (zej [AVal.str c])) i3 = some (zej [.str c]) := zbv ..
 have hx1 := hx.mono o1.le
 refine s1 _ c _ _ _ _ hx1 (by omega) hb ?_
 have ld : A.ldv (upd h i3 (zej [AVal.str c])) (.ptr i3 0 0) = some (.str c) := by rw [zjr hb]; rfl
 simp -dsimp only [V.zfq, B.zg]
 obtain ⟨f1, f2⟩ := zpz (L := L) (c := c)
 refine B.zn (fun hc => ?_) (fun hc => ?_)
 ·have hn : zg3 L c = none := f1.1 (by simpa using hc)
  have := hq .nils [] h (by unfold zgr; rw [hn]; exact (Owns.start h).nils 1)
  exact zkb o1.le this
 ·have hc : ¬ zji L c < 0 := by simpa using hc
  obtain ⟨k, hk⟩ : ∃ k : Nat, zji L c = k := ⟨(zji L c).toNat, by omega⟩
  obtain ⟨r, hr, hi⟩ := f2 k hk
  obtain ⟨p, o, e1, e2, e3, e4, e5, e6, e7, e8, ha⟩ := zhz hx1 hr
  obtain ⟨⟨R2, a2⟩, el, _⟩ := zju ha
  simp -dsimp [hk, ld, e1, e5, e8]
  refine s2 _ _ r.zbz _ _ _ a2 (hof r (List.mem_of_getElem? hr)) fun x' R' h' o2 => ?_
  have hs : zgr L c = c :: r.zbz := by unfold zgr; rw [hi]
  exact zbj (hq x' R' h' (by rw [hs]; exact o2.back o1.le))
theorem zl6 : ∀ {L : List (List UInt8)}, SortedB L → ((zei L).length = L.length ↔ L.Nodup)
 | [], _ => by simp [zei]
 | [a], _ => by simp [zei]
 | a :: b :: r, hs => by
  have hs' : SortedB (b :: r) := (List.pairwise_cons.1 hs).2
  have ih := zl6 hs'
  have hle := zpc (b :: r)
  rw [zei]
  by_cases e : a = b
  ·rw [if_pos e]
   subst e
   refine ⟨fun h => ?_, fun h => ?_⟩
   ·simp only [List.length_cons] at h hle; omega
   ·exact absurd (List.mem_cons_self ..) (List.nodup_cons.1 h).1
  ·rw [if_neg e, List.length_cons, List.length_cons, List.nodup_cons]
   rw [Nat.add_right_cancel_iff, ih]
   refine ⟨fun h => ⟨fun hm => ?_, h⟩, fun h => h.2⟩
   rcases List.mem_cons.1 hm with h1 | h1
   ·exact e h1
   ·have h2 := (List.pairwise_cons.1 hs).1 b (by simp)
    have h3 := (List.pairwise_cons.1 hs').1 a h1
    exact e (zm0 h3 h2)
def zf0 (x : Itm) : Bool := decide (x.zbz.length ≤ 4) && decide (x.Code :: x.zbz).Nodup
def zfz (L : List Itm) : Bool := L.all fun x => x.zbz.all fun o => (zdr L).contains o
def zem (L : List Itm) : Int := bif !decide (zd8 L = 0) then zd8 L else bif !L.all zf0 then 4 else bif !zfz L then 150 else 0
theorem kitCheck_zero {L : List Itm} (h : zd8 L = 0) : L.length ≤ 60 ∧ ziu L = true ∧ ze9 L = true := by
 unfold zd8 at h
 cases h1 : decide (60 < L.length) with
 | true => rw [h1] at h; cases h
 | false =>
  rw [h1] at h
  cases h2 : ziu L with
  | false => rw [h2] at h; cases h
  | true =>
   rw [h2] at h
   cases h3 : ze9 L with
   | false => rw [h3] at h; cases h
   | true => exact ⟨by simpa using h1, rfl, rfl⟩
theorem zjp {L : List Itm} {x : Itm} (hx : x ∈ L) {o : List UInt8} (ho : o ∈ x.zbz) (hn : o ∉ zdr L) : zfz L = false := by
 unfold zfz
 rw [List.all_eq_false]
 refine ⟨x, hx, ?_⟩
 simp only [Bool.not_eq_true, List.all_eq_false]
 exact ⟨o, ho, by simpa using hn⟩
def zb0.Spec (C : CSem) (N : Nat → Nat) : Prop := ∀ (x : AVal) (L : List Itm) (h : zb) (Q : AVal → zb → Prop), Dl zd5 h x L → L.length ≤ 1000000 → (∀ t ∈ L, t.zbz.length ≤ 10000000) → Q (.int .i64 (zem L)) h → C (N 353) [x] h Q
theorem zb0.spec (i : zb0.Imp C N) (s1 : ze2.Spec C N) (s2 : ze4.Spec C N) (s3 : zby.Spec C N) (s4 : zbn.Spec C N) : zb0.Spec C N := by
 intro x L h Q hx hlen hof hq
 apply i
 simp -dsimp only [zb0.cps, zb0.k7]
 refine s1 _ _ _ _ hx hlen ?_
 simp -dsimp only [V.bin_neq, B.zg]
 refine B.zn (fun hb => ?_) (fun hb => ?_)
 ·have hb : zd8 L ≠ 0 := by simpa using hb
  have : zem L = zd8 L := by unfold zem; simp [hb]
  rw [this] at hq
  exact zbj hq
 have hb : zd8 L = 0 := by simpa using hb
 obtain ⟨hl60, hsh, hpt⟩ := kitCheck_zero hb
 have hnd := zkv hsh
 have hsw : zem L = bif !L.all zf0 then 4 else bif !zfz L then 150 else 0 := by unfold zem; simp [hb]
 refine (Owns.start h).zjq (K := List UInt8) (T := Int) mStr mInt fun id h1 _ o1 _ => ?_
 simp -dsimp only [hx.zw, B.zg]
 refine zd.intro (fun t vs hh => ∃ (k : Nat) (ps : Ents (List UInt8) Int) (c : Nat), k + t = L.length ∧ vs = [.int .i64 (k : Int)] ∧ Owns h hh [.blk id (cntB ps c)] ∧ (∀ x ∈ L.take k, zf0 x = true) ∧ ∀ s, getP ps s = if s ∈ zdr (L.take k) then some 1 else none) L.length ?_
  ⟨0, [], 0, by omega, rfl, o1, by simp, by simp [getP, zdr]⟩
 rintro Y t vs hh ⟨k, ps, c, ht, rfl, o, hok, hget⟩ hY
 simp -dsimp only [zb0.l6, zb0.k5, lssN, B.zg]
 refine B.zn (fun hc => ?_) (fun hc => ?_)
 ·rw [decide_eq_true_eq] at hc
  obtain ⟨r, hr⟩ := zfc hc
  have hm := List.mem_of_getElem? hr
  have er : L[k] = r := by rw [List.getElem?_eq_getElem hc] at hr; exact Option.some.inj hr
  obtain ⟨p, oo, e1, e2, ha⟩ := itm_get2 hx o.le hr
  obtain ⟨⟨R2, a2⟩, el, _⟩ := zju ha
  have hof := hof r hm
  have hnew := zsi hnd hc
  rw [er] at hnew
  have hz : getP ps r.Code = none := by rw [hget, if_neg hnew]
  have hlk : A.lkp hh (some .s) (some (.int .i64 0)) false (.mp id) (.str r.Code) = some (.int .i64 0) := by
   have := o.lkp 0 rfl keyS 0 r.Code
   rw [hz] at this
   exact this
  have h01 : V.bin .add (.int .i64 0) (.int .i64 1) = some (.int .i64 1) := rfl
  simp -dsimp [e1, e2, hlk, h01, - V.zdi]
  refine o.mset 0 rfl keyS r.Code 1 fun h2 o2 _ _ => ?_
  have o2 : Owns h h2 [.blk id (cntB (putP ps r.Code 1 c) (clkP ps r.Code c))] := o2
  simp -dsimp
  refine s2 _ _ _ _ _ _ (a2.mono o2.le) hof fun x1 R1 h3 o3 => ?_
  refine s3 _ _ _ _ _ _ o3 (by simp; omega) fun h4 L4 hp4 hs4 o4 => ?_
  have el4 : V.zw x1 = some (.int .i64 ((r.zbz.length + 1 : Nat) : Int)) := by
   have := (o4.slAt 0 rfl).zw
   rw [List.length_map, hp4.length_eq] at this
   exact this
  have o5 := (o2.join o4)
  have hlen1 : (r.Code :: r.zbz).length = r.zbz.length + 1 := rfl
  have no : zf0 r = false → ∀ h', h.le h' → dn Q (.int .i64 4) h' := fun e h' hle => by
   have : L.all zf0 = false := List.all_eq_false.2 ⟨r, hm, by simp [e]⟩
   rw [this] at hsw
   rw [hsw] at hq
   exact zkb hle hq
  simp -dsimp [el4, - V.zdi]
  by_cases h5 : 5 < r.zbz.length + 1
  ·have h5' : (5 : Int) < (r.zbz.length : Int) + 1 := by omega
   simp -dsimp [h5']
   exact no (by unfold zf0; simp; omega) h4 o5.le
  have h5' : ¬ (5 : Int) < (r.zbz.length : Int) + 1 := by omega
  have e1l : V.bin .add (.int .i64 1) (.int .i64 (r.zbz.length : Int)) = some (.int .i64 ((1 + r.zbz.length : Nat) : Int)) := zke (a := 1) (by omega)
  simp -dsimp [h5', el, e1l, - V.zdi]
  refine s4 _ _ _ _ _ _ o4 (by rw [hp4.length_eq]; simp; omega) fun y h6 R6 o6 => ?_
  have el6 : V.zw y = some (.int .i64 ((zei L4).length : Int)) := by
   have := (o6.slAt 0 rfl).zw
   rw [List.length_map] at this
   exact this
  have o7 : Owns h h6 [.blk id (cntB (putP ps r.Code 1 c) (clkP ps r.Code c))] := o2.grow o6.le
  have hcn := zl6 hs4
  rw [hp4.length_eq, hp4.nodup_iff, hlen1] at hcn
  simp -dsimp [h5', el6, - V.zdi]
  by_cases hn : (r.Code :: r.zbz).Nodup
  ·have h8 := hcn.2 hn
   have h9 : decide (((zei L4).length : Int) = 1 + (r.zbz.length : Int)) = true := by simp; omega
   have hro : zf0 r = true := by
    unfold zf0
    rw [Bool.and_eq_true]
    exact ⟨by simp; omega, by simpa using hn⟩
   rw [h9]
   simp -dsimp only [Bool.not_true, B.cond_false, add1 (show k < 4611686018427387904 by omega), B.zg]
   refine hY (t - 1) _ _ (by omega) ⟨k + 1, _, _, by omega, rfl, o7, fun x hx => ?_, fun s => ?_⟩
   ·rw [List.take_add_one, hr, List.mem_append] at hx
    rcases hx with hx | hx
    ·exact hok x hx
    ·have : x = r := by simpa using hx
     rw [this]; exact hro
   ·rw [zfi, hget s, zm5 hc, er]
    by_cases hs : s = r.Code <;> simp [hs]
  ·have h8 : (zei L4).length ≠ r.zbz.length + 1 := fun e => hn (hcn.1 e)
   have h9 : decide (((zei L4).length : Int) = 1 + (r.zbz.length : Int)) = false := by simp; omega
   rw [h9]
   simp -dsimp only [Bool.not_false, B.cond_true]
   exact no (by unfold zf0; rw [Bool.and_eq_false_iff]; exact .inr (by simpa using hn)) h6 o7.le
 ·rw [decide_eq_false_iff_not] at hc
  have hk : k = L.length := by omega
  subst hk
  rw [List.take_length] at hok hget
  have hall : L.all zf0 = true := List.all_eq_true.2 hok
  rw [hall] at hsw
  have hle := o.le
  simp -dsimp only [hx.zw, B.zg]
  refine zd.intro (fun t vs h2 => h2 = hh ∧ ∃ k : Nat, k + t = L.length ∧ vs = [.int .i64 (k : Int)] ∧ ∀ x ∈ L.take k, ∀ s ∈ x.zbz, s ∈ zdr L) L.length ?_ ⟨rfl, 0, by omega, rfl, fun x h => (by simp at h)⟩
  rintro Z t2 vs h2 ⟨rfl, k, ht2, rfl, hin⟩ hZ
  simp -dsimp only [zb0.l4, zb0.k3, lssN, B.zg]
  refine B.zn (fun hd => ?_) (fun hd => ?_)
  ·rw [decide_eq_true_eq] at hd
   obtain ⟨r, hr⟩ := zfc hd
   have hm := List.mem_of_getElem? hr
   obtain ⟨p, oo, e1, e2, ha⟩ := itm_get2 hx hle hr
   obtain ⟨⟨R2, a2⟩, el, hol⟩ := zju ha
   simp -dsimp [e1, e2, el, - V.zdi]
   refine zd.intro (fun t vs h3 => h3 = h2 ∧ ∃ m : Nat, m + t = r.zbz.length ∧ vs = [.int .i64 (m : Int)] ∧ ∀ s ∈ r.zbz.take m, s ∈ zdr L) r.zbz.length ?_ ⟨rfl, 0, by omega, rfl, fun x h => (by simp at h)⟩
   rintro W t3 vs h3 ⟨rfl, m, ht3, rfl, hin2⟩ hW
   simp -dsimp only [zb0.l2, zb0.k1, lssN, B.zg]
   refine B.zn (fun hf => ?_) (fun hf => ?_)
   ·rw [decide_eq_true_eq] at hf
    have hg : (r.zbz.map tc)[m]? = some (tc r.zbz[m]) := by rw [List.getElem?_map, List.getElem?_eq_getElem hf]; rfl
    have hidx : V.idxS 1 oo (.int .i64 (m : Int)) = some (elp 1 oo m 0) := a2.idxN (by simpa using hf)
    have hcell : A.ldv h3 (elp 1 oo m 0) = some (.str r.zbz[m]) := (a2.mono hle).cell hg
    have hlk : A.lkp h3 (some .s) (some (.int .i64 0)) false (.mp id) (.str r.zbz[m]) = some (.int .i64 ((getP ps r.zbz[m]).getD 0)) := o.lkp 0 rfl keyS 0 _
    simp -dsimp [hidx, hcell, hlk, hget, - V.zdi]
    by_cases hmem : r.zbz[m] ∈ zdr L
    ·simp -dsimp [hmem, - V.zdi, add1 (show m < 4611686018427387904 by omega)]
     refine hW (t3 - 1) _ _ (by omega) ⟨rfl, m + 1, by omega, rfl, fun s hs => ?_⟩
     rw [List.take_add_one, List.getElem?_eq_getElem hf, List.mem_append] at hs
     rcases hs with hs | hs
     ·exact hin2 s hs
     ·have : s = r.zbz[m] := by simpa using hs
      rw [this]; exact hmem
    ·simp -dsimp [hmem]
     rw [hsw, zjp hm (List.getElem_mem hf) hmem] at hq
     exact zkb hle hq
   ·rw [decide_eq_false_iff_not] at hf
    have hk : m = r.zbz.length := by omega
    subst hk
    rw [List.take_length] at hin2
    simp -dsimp only [add1 (show k < 4611686018427387904 by omega), B.zg]
    refine hZ (t2 - 1) _ _ (by omega) ⟨rfl, k + 1, by omega, rfl, fun x hx => ?_⟩
    rw [List.take_add_one, hr, List.mem_append] at hx
    rcases hx with hx | hx
    ·exact hin x hx
    ·have : x = r := by simpa using hx
     rw [this]; exact hin2
  ·rw [decide_eq_false_iff_not] at hd
   have hk : k = L.length := by omega
   subst hk
   rw [List.take_length] at hin
   have : zfz L = true := by
    unfold zfz
    rw [List.all_eq_true]
    intro x hx
    rw [List.all_eq_true]
    intro s hs
    simpa using hin x hx s hs
   rw [hsw, this] at hq
   exact zkb hle hq
def zdd.Spec (C : CSem) (N : Nat → Nat) : Prop := ∀ (x : AVal) (c : List UInt8) (L : List Itm) (h : zb) (Q : AVal → zb → Prop), Dl zd5 h x L → L.length ≤ 100000000 → Q (.int .i64 (zji L c)) h → C (N 402) [x, .str c] h Q
theorem zdd.spec (i : zdd.Imp C N) : zdd.Spec C N := by
 intro x c L h Q hx hlen hq
 apply i
 refine zd.intro (fun t vs hh => hh = h ∧ ∃ k : Nat, k + t = L.length ∧ vs = [.int .i64 (k : Int)] ∧ ∀ i, i < k → ∀ a, L[i]? = some a → a.Code ≠ c) L.length ?_ ⟨rfl, 0, by omega, rfl, fun i hi => by omega⟩
 rintro Y t vs h ⟨rfl, k, ht, rfl, hno⟩ hY
 simp -dsimp only [zdd.l2, zdd.k1, hx.zw, lssN, B.zg]
 refine B.zn (fun hb => ?_) (fun hb => ?_) <;> simp only [decide_eq_true_eq, decide_eq_false_iff_not] at hb
 ·obtain ⟨p, o, e1, e2, e3, _, _, e6, _⟩ := zhz hx (List.getElem?_eq_getElem hb)
  simp -dsimp only [e1, e3, B.zg9, e6, V.zn2, B.zg]
  refine B.zn (fun hc => ?_) (fun hc => ?_)
  ·rw [findI_at hb hno (by simpa using hc)] at hq; exact zbj hq
  ·simp -dsimp only [add1 (show k < 4611686018427387904 by omega), B.zg]
   refine hY (L.length - (k + 1)) _ _ (by omega) ⟨rfl, k + 1, by omega, rfl, fun i hi a hia => ?_⟩
   by_cases e : i = k
   ·subst e; rw [List.getElem?_eq_getElem hb] at hia; cases hia; simpa using hc
   ·exact hno i (by omega) a hia
 ·have : zji L c = -1 := zsb fun x hx => by
   obtain ⟨j, hj, rfl⟩ := List.getElem_of_mem hx
   exact hno j (by omega) _ (List.getElem?_eq_getElem hj)
  rw [this] at hq; exact zbj hq
theorem zr0 {α : Type} [DecidableEq α] {l : List α} (h : ∀ i j : Nat, i < j → ∀ a b, l[i]? = some a → l[j]? = some b → a ≠ b) : l.Nodup := by
 unfold List.Nodup
 rw [List.pairwise_iff_getElem]
 exact fun i j hi hj hij => h i j hij _ _ (List.getElem?_eq_getElem hi) (List.getElem?_eq_getElem hj)
theorem nodup_get {α : Type} {l : List α} (h : l.Nodup) {i j : Nat} {a : α} (hi : l[i]? = some a) (hj : l[j]? = some a) : i = j := by
 obtain ⟨h1, e1⟩ := List.getElem?_eq_some_iff.1 hi
 obtain ⟨h2, e2⟩ := List.getElem?_eq_some_iff.1 hj
 unfold List.Nodup at h
 rw [List.pairwise_iff_getElem] at h
 rcases Nat.lt_trichotomy i j with h3 | h3 | h3
 ·exact absurd (e1.trans e2.symm) (h i j h1 h2 h3)
 ·exact h3
 ·exact absurd (e2.trans e1.symm) (h j i h2 h1 h3)
def zcc.Spec (C : CSem) (N : Nat → Nat) : Prop := ∀ (x : Itm) (a : AVal × AVal) (h : zb) (Q : AVal → zb → Prop), zd5.at_ h x a → Q (.bool (zhi x)) h → C (N 411) [.agg (zl0 x a)] h Q
theorem zcc.spec (i : zcc.Imp C N) : zcc.Spec C N := by
 intro x a h Q ha hq
 obtain ⟨⟨R1, a1⟩, _, a3, _⟩ : (∃ R, SlX h 2 a.1 (x.zb6.map Part.cs) R) ∧ (∃ R, SlX h 1 a.2 (x.zbz.map tc) R) ∧ x.ok := ha
 unfold few at a3
 apply i
 have e1 := a1.zw
 rw [List.length_map] at e1
 simp -dsimp [e1]
 refine B.zn (fun hb => ?_) (fun hb => ?_)
 ·have hp : x.zb6 = [] := by
   have : (x.zb6.length : Int) = 0 := by simpa using hb
   exact List.length_eq_zero_iff.1 (by omega)
  have hk : zhi x = (decide (1 ≤ x.Life) && decide (x.Life ≤ 2000)) := by
   unfold zhi; rw [hp]
   show (decide (0 < x.Life) && decide (x.Life ≤ 2000)) = _
   congr 1
  by_cases hl : 1 ≤ x.Life
  ·simp -dsimp [hl]
   rw [hk] at hq
   simp [hl] at hq
   exact zbj hq
  ·simp -dsimp [hl]
   rw [hk] at hq
   simp [hl] at hq
   exact zbj hq
 ·have hp : x.zb6 ≠ [] := fun e => by rw [e] at hb; simp at hb
  have hk : zhi x = ((x.zb6.all fun p => decide (1 ≤ p.Qty) && decide (p.Qty ≤ 1073741824)) && (decide (zeu x).Nodup && (decide (x.Life = 0) && decide (x.zb6.length ≤ 8)))) := by unfold zhi; simp [hp]
  have no : zhi x = false → dn Q (.bool false) h := fun e => by rw [e] at hq; exact zbj hq
  by_cases hl : x.Life = 0
  rotate_left
  ·simp -dsimp [hl]
   exact no (by rw [hk]; simp [hl])
  by_cases h8 : 8 < x.zb6.length
  ·have h8' : (8 : Int) < (x.zb6.length : Int) := by omega
   simp -dsimp [hl, e1, h8']
   exact no (by rw [hk]; simp [show ¬ x.zb6.length ≤ 8 by omega])
  have h8' : ¬ (8 : Int) < (x.zb6.length : Int) := by omega
  simp -dsimp [hl, e1, h8']
  have get : ∀ {k : Nat} (hk : k < x.zb6.length), V.idxS 2 a.1 (.int .i64 (k : Int)) = some (elp 2 a.1 k 0) ∧ V.fieldAddr 0 (elp 2 a.1 k 0) = some (elp 2 a.1 k 0) ∧ V.fieldAddr 1 (elp 2 a.1 k 0) = some (elp 2 a.1 k 1) ∧ A.ldv h (elp 2 a.1 k 0) = some (.str x.zb6[k].Item) ∧ A.ldv h (elp 2 a.1 k 1) = some (.int .i64 x.zb6[k].Qty) := fun {k} hk => by
   have hg : (x.zb6.map Part.cs)[k]? = some x.zb6[k].cs := by rw [List.getElem?_map, List.getElem?_eq_getElem hk]; rfl
   have hl : k < (x.zb6.map Part.cs).length := by simpa using hk
   exact ⟨a1.idxN hl, a1.zl2 hl 0 0, a1.zl2 hl 0 1, a1.ldv hg (by decide), a1.ldv hg (by decide)⟩
  have gp : ∀ {k : Nat} (hk : k < x.zb6.length), (zeu x)[k]? = some x.zb6[k].Item := fun {k} hk => by
   unfold zeu; rw [List.getElem?_map, List.getElem?_eq_getElem hk]; rfl
  refine zd.intro (fun t vs hh => hh = h ∧ ∃ k : Nat, k + t = x.zb6.length ∧ vs = [.int .i64 (k : Int)] ∧ (∀ j (hj : j < x.zb6.length), j < k → 1 ≤ x.zb6[j].Qty ∧ x.zb6[j].Qty ≤ 1073741824) ∧
   ∀ i j, i < j → j < k → ∀ a b, (zeu x)[i]? = some a → (zeu x)[j]? = some b → a ≠ b) x.zb6.length ?_ ⟨rfl, 0, by omega, rfl, fun j _ hj => by omega, fun i j _ hj => by omega⟩
  rintro Y t vs hh ⟨rfl, k, ht, rfl, hqty, hnd⟩ hY
  simp -dsimp [e1]
  refine B.zn (fun hc => ?_) (fun hc => ?_)
  ·have hc : k < x.zb6.length := by simpa using hc
   obtain ⟨g1, g2, g3, g4, g5⟩ := get hc
   have hm : x.zb6[k] ∈ x.zb6 := List.getElem_mem hc
   by_cases q1 : x.zb6[k].Qty < 1
   ·simp -dsimp [g1, g3, g5, q1]
    refine no ?_
    rw [hk, List.all_eq_false.2 ⟨_, hm, by simp; omega⟩]; rfl
   by_cases q2 : 1073741824 < x.zb6[k].Qty
   ·simp -dsimp [g1, g3, g5, q1, q2]
    refine no ?_
    rw [hk, List.all_eq_false.2 ⟨_, hm, by simp; omega⟩]; rfl
   simp -dsimp [g1, g3, g5, q1, q2]
   refine zd.intro (fun t vs h2 => h2 = hh ∧ ∃ m : Nat, m + t = k ∧ vs = [.int .i64 (m : Int)] ∧ ∀ j, j < m → ∀ b, (zeu x)[j]? = some b → b ≠ x.zb6[k].Item) k ?_ ⟨rfl, 0, by omega, rfl, fun j hj => by omega⟩
   rintro Z t2 vs h2 ⟨rfl, m, ht2, rfl, hne⟩ hZ
   simp -dsimp only [zcc.l2, zcc.k1, lssN, B.zg]
   refine B.zn (fun hd => ?_) (fun hd => ?_)
   ·rw [decide_eq_true_eq] at hd
    have hml : m < x.zb6.length := by omega
    obtain ⟨k1, k2, k3, k4, k5⟩ := get hml
    simp -dsimp [k1, k2, k4, g1, g2, g4, - V.zdi]
    refine B.zn (fun hf => ?_) (fun hf => ?_)
    ·have hf : x.zb6[m].Item = x.zb6[k].Item := by simpa using hf
     refine no ?_
     have : ¬ (zeu x).Nodup := fun hn => by
      have := nodup_get hn (gp hml) (by rw [hf]; exact gp hc)
      omega
     rw [hk]; simp [this]
    ·have hf : x.zb6[m].Item ≠ x.zb6[k].Item := by simpa using hf
     simp -dsimp only [add1 (show m < 4611686018427387904 by omega), B.zg]
     refine hZ (t2 - 1) _ _ (by omega) ⟨rfl, m + 1, by omega, rfl, fun j hj b hb => ?_⟩
     by_cases e : j = m
     ·subst e; rw [gp hml] at hb; cases hb; exact hf
     ·exact hne j (by omega) b hb
   ·rw [decide_eq_false_iff_not] at hd
    have hmk : m = k := by omega
    subst hmk
    simp -dsimp only [add1 (show m < 4611686018427387904 by omega), B.zg]
    refine hY (t - 1) _ _ (by omega) ⟨rfl, m + 1, by omega, rfl, fun j hj hjm => ?_, fun i j hij hj a b h3 h4 => ?_⟩
    ·by_cases e : j = m
     ·subst e; exact ⟨by omega, by omega⟩
     ·exact hqty j hj (by omega)
    ·by_cases e : j = m
     ·subst e; rw [gp hc] at h4; cases h4; exact hne i hij a h3
     ·exact hnd i j hij (by omega) a b h3 h4
  ·have hc : ¬ k < x.zb6.length := by simpa using hc
   have hke : k = x.zb6.length := by omega
   subst hke
   have h1 : (x.zb6.all fun p => decide (1 ≤ p.Qty) && decide (p.Qty ≤ 1073741824)) = true := by
    rw [List.all_eq_true]
    intro p hp
    obtain ⟨j, hj, rfl⟩ := List.getElem_of_mem hp
    have := hqty j hj hj
    simp; omega
   have h2 : (zeu x).Nodup := zr0 fun i j hij a b h3 h4 => hnd i j hij (by
    have := (List.getElem?_eq_some_iff.1 h4).1
    simpa [zeu] using this) a b h3 h4
   have : zhi x = true := by rw [hk, h1]; simp [h2, hl]; omega
   rw [this] at hq
   exact zbj hq
def zoq (L : List Itm) (i : Nat) : Option Nat := match L[i]? with | some x => zfn L x.Code | none => none
theorem zjw {L : List Itm} {i : Nat} {x : Itm} (h : L[i]? = some x) : zoq L i = zfn L x.Code := by unfold zoq; rw [h]
abbrev nats (n : Nat) (O : Nat → Nat) : List (List AVal) := zgc n fun j => [.int .i64 (O j : Int)]
def zch.Spec (C : CSem) (N : Nat → Nat) : Prop := ∀ (x : AVal) (L : List Itm) (h : zb) (Q : AVal → zb → Prop), Dl zd5 h x L → L.length ≤ 1000000 → ziu L = true → ze9 L = true →
 (∀ y h' (O : Nat → Nat), (∀ i, i < L.length → O i = (zoq L i).getD 0) → Owns h h' [.sl 1 y (nats L.length O) []] → Q y h') → C (N 410) [x] h Q
structure RoundI (L : List Itm) (r i : Nat) (O : Nat → Nat) : Prop where
 ok : ∀ j, j < L.length → O j = 0 ∨ zoq L j = some (O j)
 low : ∀ j, j < L.length → ∀ d, zoq L j = some d → d ≤ r → O j = d
 now : ∀ j, j < L.length → j < i → ∀ d, zoq L j = some d → d ≤ r + 1 → O j = d
theorem RoundI.set {L : List Itm} {r i : Nat} {O : Nat → Nat} (h : RoundI L r i O) (hi : i < L.length) (v : Nat) (h1 : v = 0 ∨ zoq L i = some v) (h2 : ∀ d, zoq L i = some d → d ≤ r + 1 → v = d) : RoundI L r (i + 1) (fun j => if j = i then v else O j) where
 ok j hj := by
  by_cases e : j = i
  ·subst e; simpa using h1
  ·simp only [if_neg e]; exact h.ok j hj
 low j hj d hd hr := by
  by_cases e : j = i
  ·subst e; simpa using h2 d hd (by omega)
  ·simp only [if_neg e]; exact h.low j hj d hd hr
 now j hj hji d hd hr := by
  by_cases e : j = i
  ·subst e; simpa using h2 d hd (by omega)
  ·simp only [if_neg e]; exact h.now j hj (by omega) d hd hr
theorem partsL_get {L : List Itm} (hsh : ziu L = true) {i : Nat} {x : Itm} (h : L[i]? = some x) : zjn L x.Code = zeu x := partsL_mem (zkv hsh) (List.mem_of_getElem? h)
theorem zch.spec (i : zch.Imp C N) (s1 : zdd.Spec C N) : zch.Spec C N := by
 intro x L h Q hx hlen hsh hpt hq
 have hD := zor hpt
 have hKl : (zdr L).length = L.length := by simp [zdr]
 apply i
 simp -dsimp only [zch.cps, hx.zw, B.zg]
 refine ⟨by omega, ?_⟩
 refine (Owns.start h).mks (bytes := 8) (es := 1) rfl (by omega) (by omega) (by omega) (by omega) fun y h1 o1 => ?_
 simp only [Int.toNat_natCast, Nat.sub_self, zsc] at o1
 refine zd.intro (fun t vs hh => ∃ (r : Nat) (O : Nat → Nat), r + t = L.length + 1 ∧ vs = [.int .i64 (r : Int)] ∧ Owns h hh [.sl 1 y (nats L.length O) []] ∧ RoundI L r 0 O) (L.length + 1) ?_
  ⟨0, fun _ => 0, by omega, rfl, o1, ⟨fun j hj => .inl rfl, fun j hj d hd hr => by
   obtain ⟨w, hw⟩ := zfc hj
   rw [zjw hw] at hd
   have := hD.pos (List.mem_map_of_mem (List.mem_of_getElem? hw)) hd
   omega, fun j hj h => by omega⟩⟩
 rintro Y t vs hh ⟨r, O, ht, rfl, o, hR⟩ hY
 simp -dsimp only [zch.l5, hx.zw, V.bin_leq, B.zg]
 refine B.zn (fun hc => ?_) (fun hc => ?_)
 ·have hc : r ≤ L.length := by
   have : (r : Int) ≤ L.length := by simpa using hc
   omega
  refine zd.intro (fun t vs h2 => ∃ (k : Nat) (O2 : Nat → Nat), k + t = L.length ∧ vs = [.int .i64 (k : Int)] ∧ Owns h h2 [.sl 1 y (nats L.length O2) []] ∧ RoundI L r k O2) L.length ?_ ⟨0, O, by omega, rfl, o, hR⟩
  rintro Z t2 vs h2 ⟨k, O2, ht2, rfl, o2, hR2⟩ hZ
  simp -dsimp only [zch.l4, zch.k3, hx.zw, lssN, B.zg]
  refine B.zn (fun hd => ?_) (fun hd => ?_)
  ·rw [decide_eq_true_eq] at hd
   obtain ⟨w, hw⟩ := zfc hd
   have hwK : w.Code ∈ zdr L := List.mem_map_of_mem (List.mem_of_getElem? hw)
   have hdw := zjw hw
   have hpw := partsL_get hsh hw
   obtain ⟨p, oo, e1, e2, e3, e4, e5, e6, e7, e8, ha⟩ := zhz (hx.mono o2.le) hw
   obtain ⟨⟨R1, a1⟩, el, hpl⟩ := zq2 ha
   have fin : ∀ v : Nat, (v = 0 ∨ zoq L k = some v) → (∀ d, zoq L k = some d → d ≤ r + 1 → v = d) → B.pv (V.idxS 1 y (.int .i64 (k : Int))) fun v57 => B.st h2 v57 (.int .i64 (v : Int)) fun h =>
     B.pv (V.bin .add (.int .i64 (k : Int)) (.int .i64 1)) fun v23 => Z [v23] h := fun v g1 g2 => by
    have hidx : V.idxS 1 y (.int .i64 (k : Int)) = some (elp 1 y k 0) := (o2.slAt 0 rfl).idxN (by simpa using hd)
    rw [hidx, B.zg]
    refine o2.st 0 rfl (zhx _ hd) (by omega) rfl fun h3 o3 _ => ?_
    simp -dsimp only [add1 (show k < 4611686018427387904 by omega), B.zg]
    have e0 : (nats L.length O2).set k ([AVal.int .i64 (O2 k : Int)].set 0 (.int .i64 (v : Int))) = nats L.length fun j => if j = k then v else O2 j := by
     rw [fills_set]
     exact zq6 fun j _ => by by_cases e : j = k <;> simp [e]
    refine hZ (t2 - 1) _ _ (by omega) ⟨k + 1, _, by omega, rfl, ?_, hR2.set hd v g1 g2⟩
    rw [← e0]; exact o3
   refine zd.intro (fun t vs h3 => h3 = h2 ∧ ∃ m q : Nat, q + t = w.zb6.length ∧ vs = [.int .i64 (m : Int), .int .i64 (q : Int)] ∧ maxD (zfn L) ((zeu w).take q) 1 = some m) w.zb6.length ?_ ⟨rfl, 1, 0, by omega, rfl, rfl⟩
   rintro W t3 vs h3 ⟨rfl, m, q, ht3, rfl, hmx⟩ hW
   simp -dsimp only [zch.l2, zch.k1, e1, e4, B.zg9, e7, el, lssN, B.zg]
   refine B.zn (fun hf => ?_) (fun hf => ?_)
   ·rw [decide_eq_true_eq] at hf
    have hg : (w.zb6.map Part.cs)[q]? = some w.zb6[q].cs := by rw [List.getElem?_map, List.getElem?_eq_getElem hf]; rfl
    have hl : q < (w.zb6.map Part.cs).length := by simpa using hf
    have g1 : V.idxS 2 p (.int .i64 (q : Int)) = some (elp 2 p q 0) := a1.idxN hl
    have g2 : V.fieldAddr 0 (elp 2 p q 0) = some (elp 2 p q 0) := a1.zl2 hl 0 0
    have g3 : A.ldv h3 (elp 2 p q 0) = some (.str w.zb6[q].Item) := a1.ldv hg (by decide)
    have hpm : w.zb6[q].Item ∈ zjn L w.Code := by rw [hpw]; exact List.mem_map_of_mem (List.getElem_mem hf)
    have hpK := hD.cl _ hwK _ hpm
    simp -dsimp only [e1, e4, B.zg9, e7, g1, g2, g3, B.zg]
    refine s1 _ _ _ _ _ (hx.mono o2.le) (by omega) ?_
    obtain ⟨f1, f2⟩ := zpz (L := L) (c := w.zb6[q].Item)
    have hno : ¬ zji L w.zb6[q].Item < 0 := fun h => ziw.1 (f1.1 h) hpK
    obtain ⟨s, hs⟩ : ∃ s : Nat, zji L w.zb6[q].Item = s := ⟨(zji L w.zb6[q].Item).toNat, by omega⟩
    obtain ⟨z, hz, hiz⟩ := f2 s hs
    have hzc : z.Code = w.zb6[q].Item := (zj6 hiz).2
    have hsl : s < L.length := (List.getElem?_eq_some_iff.1 hz).1
    have hdz : zoq L s = zfn L w.zb6[q].Item := by rw [zjw hz, hzc]
    have hidx : V.idxS 1 y (.int .i64 (s : Int)) = some (elp 1 y s 0) := (o2.slAt 0 rfl).idxN (by simpa using hsl)
    have hcell : A.ldv h3 (elp 1 y s 0) = some (.int .i64 (O2 s : Int)) := (o2.slAt 0 rfl).cell (zhx _ hsl)
    simp -dsimp only [hs, hidx, B.zg9, hcell, B.zg, V.zjj]
    by_cases h0 : O2 s = 0
    ·have : decide ((O2 s : Int) = 0) = true := by simp [h0]
     simp -dsimp only [this, B.cond_true]
     refine fin 0 (.inl rfl) fun d hd1 hd2 => ?_
     rw [hdw] at hd1
     obtain ⟨e, he1, he2⟩ := hD.step hwK hpm hd1
     have := hR2.low s hsl e (by rw [hdz]; exact he1) (by omega)
     have := hD.pos hpK he1
     omega
    ·have : decide ((O2 s : Int) = 0) = false := by simp; omega
     have hds : zfn L w.zb6[q].Item = some (O2 s) := by
      rw [← hdz]; exact (hR2.ok s hsl).resolve_left h0
     have hle := hD.le _ hpK _ hds
     have ha1 : V.bin .add (.int .i64 (O2 s : Int)) (.int .i64 1) = some (.int .i64 ((O2 s + 1 : Nat) : Int)) := add1 (by omega)
     simp -dsimp only [this, B.cond_false, ha1, max2N, add1 (show q < 4611686018427387904 by omega), B.zg]
     refine hW (t3 - 1) _ _ (by omega) ⟨rfl, max m (O2 s + 1), q + 1, by omega, rfl, ?_⟩
     rw [zhq hf, zmz, hmx]
     show maxD (zfn L) [w.zb6[q].Item] m = _
     rw [ziq, hds, Nat.add_comm]; rfl
   ·rw [decide_eq_false_iff_not] at hf
    have hk : q = w.zb6.length := by omega
    subst hk
    rw [List.take_of_length_le (by simp [zeu])] at hmx
    have hdc : zoq L k = some m := by rw [hdw, hD.eq _ hwK, hpw, hmx]
    exact fin m (.inr hdc) fun d hd _ => by rw [hdc] at hd; exact Option.some.inj hd
  ·rw [decide_eq_false_iff_not] at hd
   have hk : k = L.length := by omega
   subst hk
   simp -dsimp only [add1 (show r < 4611686018427387904 by omega), B.zg]
   exact hY (t - 1) _ _ (by omega) ⟨r + 1, O2, by omega, rfl, o2, ⟨hR2.ok, fun j hj => hR2.now j hj hj, fun j hj h => by omega⟩⟩
 ·have hc : ¬ r ≤ L.length := by
   have : ¬ (r : Int) ≤ L.length := by simpa using hc
   omega
  refine zbj (hq y hh O (fun j hj => ?_) o)
  obtain ⟨w, hw⟩ := zfc hj
  cases hd : zoq L j with
  | none =>
   rcases hR.ok j hj with h1 | h1
   ·exact h1
   ·rw [hd] at h1; cases h1
  | some d =>
   have hd' := hd
   rw [zjw hw] at hd'
   have := hD.le _ (List.mem_map_of_mem (List.mem_of_getElem? hw)) d hd'
   exact hR.low j hj d hd (by omega)
theorem findI_neg {L : List Itm} {c : List UInt8} : decide (zji L c < 0) = decide (c ∉ zdr L) := decide_eq_decide.2 (zpz.1.trans ziw)
def z3.Spec (C : CSem) (N : Nat → Nat) : Prop := ∀ (x : AVal) (L : List Itm) (h : zb) (Q : AVal → zb → Prop), Dl zd5 h x L → L.length ≤ 1000000 → Q (.int .i64 (zd8 L)) h → C (N 404) [x] h Q
theorem z3.spec (i : z3.Imp C N) (s1 : zc9.Spec C N) (s2 : zcc.Spec C N) (s3 : zdd.Spec C N) (s4 : zch.Spec C N) : z3.Spec C N := by
  intro x L h Q hx hlen hq
  apply i
  simp -dsimp only [z3.cps, z3.k11, hx.zw, V.zou, B.zg]
  refine B.zn (fun hb => ?_) (fun hb => ?_)
  · have hk : zd8 L = 3 := by
      have : 60 < L.length := by have : (60 : Int) < L.length := by simpa using hb
                                 omega
      unfold zd8; simp [this]
    rw [hk] at hq
    exact zbj hq
  have hl60 : ¬ 60 < L.length := by
    have : ¬ (60 : Int) < L.length := by simpa using hb
    omega
  refine zd.intro (fun t vs hh => hh = h ∧ ∃ k : Nat, k + t = L.length ∧ vs = [.int .i64 (k : Int)] ∧ ∀ j, j < k → zpm L j = true) L.length ?_ ⟨rfl, 0, by omega, rfl, fun j hj => by omega⟩
  rintro Y t vs hh ⟨rfl, k, ht, rfl, hall⟩ hY
  simp -dsimp only [z3.l10, z3.k9, hx.zw, lssN, B.zg]
  refine B.zn (fun hc => ?_) (fun hc => ?_)
  · rw [decide_eq_true_eq] at hc
    obtain ⟨r, hr⟩ := zfc hc
    obtain ⟨p, o, e1, e2, e3, _, _, e6, _, _, ha⟩ := zhz hx hr
    have er := zk7 hr
    have no : zpm L k = false → dn Q (.int .i64 4) hh := fun e => by
      have hk : zd8 L = 4 := by unfold zd8; simp [hl60, zo7 hc e]
      rw [hk] at hq
      exact zbj hq
    have yes : zpm L k = true → Y [.int .i64 ((k + 1 : Nat) : Int)] hh := fun e => hY (t - 1) _ _ (by omega) ⟨rfl, k + 1, by omega, rfl, fun j hj => by
      by_cases h : j = k
      · subst h; exact e
      · exact hall j (by omega)⟩
    have fin : ze7 r.Code = true → ordAt L k r = true → B.gd hh (.bool false) false (fun K => K x hh) fun v44 h =>
        B.gd h (.bool false) false (fun K => K (.int .i64 (k : Int)) h) fun v45 h =>
        B.gd h (.bool false) false (fun K => B.pv (V.idxS 4 v44 v45) fun v => K v h) fun v46 h =>
        B.gd h (.bool false) false (fun K => B.ldn h v46 4 fun v => K v h) fun v47 h =>
        B.gd h (.bool false) false (fun K => B.call C (N 411) [v47] h K) fun v48 h =>
        B.gd h (.bool false) false (fun K => B.pv (V.un .not v48) fun v => K v h) fun v49 h =>
        B.pick (.bool false) (.bool true) v49 fun v50 =>
        B.cond v50 (dn Q (.int .i64 4) h) (B.pv (V.bin .add (.int .i64 (k : Int)) (.int .i64 1)) fun v50 => Y [v50] h) := fun hcr hor => by
      simp -dsimp [e1, e2, - V.zdi]
      refine s2 _ _ _ _ ha ?_
      rw [hcr, Bool.true_and, hor, Bool.true_and] at er
      cases hk : zhi r with
      | false =>
        simp -dsimp
        exact no (by rw [er, hk])
      | true =>
        simp -dsimp [- V.zdi, add1 (show k < 4611686018427387904 by omega)]
        exact yes (by rw [er, hk])
    simp -dsimp [e1, e3, e6, - V.zdi, - V.zfk]
    refine s1 _ _ _ ?_
    cases hcr : ze7 r.Code with
    | false =>
      simp -dsimp
      exact no (by rw [er, hcr]; rfl)
    | true =>
      simp -dsimp [- V.zdi, - V.zfk]
      by_cases h0 : k = 0
      · subst h0
        simp -dsimp [- V.zdi, - V.zfk]
        have := fin hcr rfl
        simp -dsimp [- V.zdi, - V.zfk] at this
        exact this
      · obtain ⟨r2, hr2⟩ := zfc (L := L) (k := k - 1) (by omega)
        obtain ⟨p2, o2, f1, f2, f3, _, _, f6, _, _, _⟩ := zhz hx hr2
        have sk := sub1 (a := k) (by omega) (by omega)
        have hk0 : 0 < k := by omega
        simp -dsimp [hk0, sk, f1, f3, f6, e1, e3, e6, - V.zdi, - V.zfk]
        have eo := zoh (x := r) h0 hr2
        simp -dsimp only [V.bin_sgeq, B.zg]
        cases hle : zgn r2.Code r.Code with
        | false =>
          simp -dsimp [hk0]
          exact no (by rw [er, hcr, eo, hle]; rfl)
        | true =>
          have := fin hcr (by rw [eo, hle])
          simp -dsimp [hk0, - V.zdi, - V.zfk] at this ⊢
          exact this
  rw [decide_eq_false_iff_not] at hc
  have hk : k = L.length := by omega
  subst hk
  have hsh : ziu L = true := zqy fun j hj => hall j hj
  refine zd.intro (fun t vs h1 => h1 = hh ∧ ∃ k : Nat, k + t = L.length ∧ vs = [.int .i64 (k : Int)] ∧ ∀ x ∈ L.take k, ∀ p ∈ x.zb6, p.Item ∈ zdr L) L.length ?_ ⟨rfl, 0, by omega, rfl, fun x h => (by simp at h)⟩
  rintro Y t vs hh ⟨rfl, k, ht, rfl, hall⟩ hY
  simp -dsimp only [z3.l8, z3.k7, hx.zw, lssN, B.zg]
  refine B.zn (fun hc => ?_) (fun hc => ?_)
  · rw [decide_eq_true_eq] at hc
    obtain ⟨r, hr⟩ := zfc hc
    obtain ⟨p, o, e1, e2, _, e4, _, _, e7, _, ha⟩ := zhz hx hr
    obtain ⟨⟨R1, a1⟩, el, hpl⟩ := zq2 ha
    refine zd.intro (fun t vs h2 => h2 = hh ∧ ∃ m : Nat, m + t = r.zb6.length ∧ vs = [.int .i64 (m : Int)] ∧ ∀ p ∈ r.zb6.take m, p.Item ∈ zdr L) r.zb6.length ?_ ⟨rfl, 0, by omega, rfl, fun x h => (by simp at h)⟩
    rintro Z t2 vs h2 ⟨rfl, m, ht2, rfl, hall2⟩ hZ
    simp -dsimp only [z3.l6, z3.k5, e1, e4, B.zg9, e7, el, lssN, B.zg]
    refine B.zn (fun hb => ?_) (fun hb => ?_)
    · rw [decide_eq_true_eq] at hb
      have hg : (r.zb6.map Part.cs)[m]? = some r.zb6[m].cs := by rw [List.getElem?_map, List.getElem?_eq_getElem hb]; rfl
      have hl : m < (r.zb6.map Part.cs).length := by simpa using hb
      have g1 : V.idxS 2 p (.int .i64 (m : Int)) = some (elp 2 p m 0) := a1.idxN hl
      have g2 : V.fieldAddr 0 (elp 2 p m 0) = some (elp 2 p m 0) := a1.zl2 hl 0 0
      have g3 : A.ldv h2 (elp 2 p m 0) = some (.str r.zb6[m].Item) := a1.ldv hg (by decide)
      simp -dsimp only [e1, e4, B.zg9, e7, g1, g2, g3, B.zg]
      refine s3 _ _ _ _ _ hx (by omega) ?_
      simp -dsimp only [V.zfq, B.zg, findI_neg]
      refine B.zn (fun hd => ?_) (fun hd => ?_)
      · have hd : r.zb6[m].Item ∉ zdr L := by simpa using hd
        have hk : zd8 L = 150 := by
          unfold zd8
          simp [hl60, hsh, zkg (List.mem_of_getElem? hr) (List.getElem_mem hb) hd]
        rw [hk] at hq
        exact zbj hq
      · have hd : r.zb6[m].Item ∈ zdr L := by simpa using hd
        simp -dsimp only [add1 (show m < 4611686018427387904 by omega), B.zg]
        refine hZ (t2 - 1) _ _ (by omega) ⟨rfl, m + 1, by omega, rfl, fun p hp => ?_⟩
        rw [List.take_add_one, List.getElem?_eq_getElem hb, List.mem_append] at hp
        rcases hp with hp | hp
        · exact hall2 p hp
        · have : p = r.zb6[m] := by simpa using hp
          rw [this]; exact hd
    · rw [decide_eq_false_iff_not] at hb
      have hk : m = r.zb6.length := by omega
      subst hk
      rw [List.take_length] at hall2
      simp -dsimp only [add1 (show k < 4611686018427387904 by omega), B.zg]
      refine hY (t - 1) _ _ (by omega) ⟨rfl, k + 1, by omega, rfl, fun x hx => ?_⟩
      rw [List.take_add_one, hr, List.mem_append] at hx
      rcases hx with hx | hx
      · exact hall x hx
      · have : x = r := by simpa using hx
        rw [this]; exact hall2
  rw [decide_eq_false_iff_not] at hc
  have hk : k = L.length := by omega
  subst hk
  rw [List.take_length] at hall
  have hpt : ze9 L = true := by
    unfold ze9
    rw [List.all_eq_true]
    intro x hx
    rw [List.all_eq_true]
    intro p hp
    simpa using hall x hx p hp
  have hD := zor hpt
  have hkc : zd8 L = bif L.any (fun x => decide (zfn L x.Code = none)) then 152 else bif L.any (fun x => decide (8 < (zfn L x.Code).getD 0)) then 3 else 0 := by
    unfold zd8
    simp only [hl60, hsh, hpt, decide_false, Bool.not_true, cond_false]
  refine s4 _ _ _ _ hx hlen hsh hpt fun y h2 O hO o2 => ?_
  have hxo := o2.slAt 0 rfl
  have hly : V.zw y = some (.int .i64 (L.length : Int)) := by simpa using hxo.zw
  have get : ∀ {k : Nat} (hk : k < L.length), V.idxS 1 y (.int .i64 (k : Int)) = some (elp 1 y k 0) ∧ A.ldv h2 (elp 1 y k 0) = some (.int .i64 (O k : Int)) := fun {k} hk =>
    ⟨hxo.idxN (by simpa using hk), hxo.cell (zhx _ hk)⟩
  have hOk : ∀ {k : Nat} {w : Itm}, L[k]? = some w → O k = (zfn L w.Code).getD 0 := fun {k w} hw => by
    rw [hO k (List.getElem?_eq_some_iff.1 hw).1, zjw hw]
  refine zd.intro (fun t vs h3 => h3 = h2 ∧ ∃ k : Nat, k + t = L.length ∧ vs = [.int .i64 (k : Int)] ∧ ∀ x ∈ L.take k, zfn L x.Code ≠ none) L.length ?_ ⟨rfl, 0, by omega, rfl, fun x h => (by simp at h)⟩
  rintro Z t3 vs h3 ⟨rfl, k, ht3, rfl, hz⟩ hZ
  simp -dsimp only [z3.l4, z3.k3, hly, lssN, B.zg]
  refine B.zn (fun hd => ?_) (fun hd => ?_)
  · rw [decide_eq_true_eq] at hd
    obtain ⟨w, hw⟩ := zfc hd
    have hwm := List.mem_of_getElem? hw
    obtain ⟨g1, g2⟩ := get hd
    simp -dsimp only [g1, B.zg9, g2, V.zjj, B.zg, hOk hw]
    cases hdw : zfn L w.Code with
    | none =>
      simp -dsimp
      have : L.any (fun x => decide (zfn L x.Code = none)) = true := List.any_eq_true.2 ⟨w, hwm, by simp [hdw]⟩
      rw [hkc, this] at hq
      exact zkb o2.le hq
    | some d =>
      have hp := hD.pos (List.mem_map_of_mem hwm) hdw
      have h0 : ¬ d = 0 := by omega
      have : ¬ (d : Int) = 0 := by omega
      simp -dsimp [this, h0, - V.zdi, add1 (show k < 4611686018427387904 by omega)]
      refine hZ (t3 - 1) _ _ (by omega) ⟨rfl, k + 1, by omega, rfl, fun x hx => ?_⟩
      rw [List.take_add_one, hw, List.mem_append] at hx
      rcases hx with hx | hx
      · exact hz x hx
      · have : x = w := by simpa using hx
        rw [this, hdw]; simp
  rw [decide_eq_false_iff_not] at hd
  have hk : k = L.length := by omega
  subst hk
  rw [List.take_length] at hz
  have hny : L.any (fun x => decide (zfn L x.Code = none)) = false := by
    rw [List.any_eq_false]
    intro x hx
    simpa using hz x hx
  rw [hny, cond_false] at hkc
  refine zd.intro (fun t vs h4 => h4 = h3 ∧ ∃ k : Nat, k + t = L.length ∧ vs = [.int .i64 (k : Int)] ∧ ∀ x ∈ L.take k, (zfn L x.Code).getD 0 ≤ 8) L.length ?_ ⟨rfl, 0, by omega, rfl, fun x h => (by simp at h)⟩
  rintro W t4 vs h4 ⟨rfl, k, ht4, rfl, hw8⟩ hW
  simp -dsimp only [z3.l2, z3.k1, hly, lssN, B.zg]
  refine B.zn (fun hf => ?_) (fun hf => ?_)
  · rw [decide_eq_true_eq] at hf
    obtain ⟨w, hw⟩ := zfc hf
    have hwm := List.mem_of_getElem? hw
    obtain ⟨g1, g2⟩ := get hf
    simp -dsimp only [g1, B.zg9, g2, V.zou, B.zg, hOk hw]
    refine B.zn (fun he => ?_) (fun he => ?_)
    · have he : 8 < (zfn L w.Code).getD 0 := by
        have : (8 : Int) < ((zfn L w.Code).getD 0 : Nat) := by simpa using he
        omega
      have : L.any (fun x => decide (8 < (zfn L x.Code).getD 0)) = true := List.any_eq_true.2 ⟨w, hwm, by simp [he]⟩
      rw [hkc, this] at hq
      exact zkb o2.le hq
    · have he : ¬ 8 < (zfn L w.Code).getD 0 := by
        have : ¬ (8 : Int) < ((zfn L w.Code).getD 0 : Nat) := by simpa using he
        omega
      simp -dsimp only [add1 (show k < 4611686018427387904 by omega), B.zg]
      refine hW (t4 - 1) _ _ (by omega) ⟨rfl, k + 1, by omega, rfl, fun x hx => ?_⟩
      rw [List.take_add_one, hw, List.mem_append] at hx
      rcases hx with hx | hx
      · exact hw8 x hx
      · have : x = w := by simpa using hx
        rw [this]; omega
  · rw [decide_eq_false_iff_not] at hf
    have hk : k = L.length := by omega
    subst hk
    rw [List.take_length] at hw8
    have : L.any (fun x => decide (8 < (zfn L x.Code).getD 0)) = false := by
      rw [List.any_eq_false]
      intro x hx
      have := hw8 x hx
      simp; omega
    rw [hkc, this] at hq
    exact zkb o2.le hq
def zco.Spec (C : CSem) (N : Nat → Nat) : Prop := ∀ (x : Itm) (a : AVal × AVal) (h : zb) (Q : AVal → zb → Prop), zd5.at_ h x a → Q (.bool (zf0 x)) h → C (N 403) [.agg (zl0 x a)] h Q
theorem zco.spec (i : zco.Imp C N) : zco.Spec C N := by
 intro x a h Q ha hq
 obtain ⟨_, ⟨R1, a1⟩, _, a3⟩ : (∃ R, SlX h 2 a.1 (x.zb6.map Part.cs) R) ∧ (∃ R, SlX h 1 a.2 (x.zbz.map tc) R) ∧ x.ok := ha
 unfold few at a3
 apply i
 have e1 := a1.zw
 rw [List.length_map] at e1
 simp -dsimp
 have no : ¬ (x.Code :: x.zbz).Nodup → dn Q (.bool false) h := fun e => by
  have : zf0 x = false := by unfold zf0; rw [Bool.and_eq_false_iff]; exact .inr (by simpa using e)
  rw [this] at hq; exact zbj hq
 have get : ∀ {k : Nat} (hk : k < x.zbz.length), V.idxS 1 a.2 (.int .i64 (k : Int)) = some (elp 1 a.2 k 0) ∧ A.ldv h (elp 1 a.2 k 0) = some (.str x.zbz[k]) := fun {k} hk => by
  have hg : (x.zbz.map tc)[k]? = some (tc x.zbz[k]) := by rw [List.getElem?_map, List.getElem?_eq_getElem hk]; rfl
  exact ⟨a1.idxN (by simpa using hk), a1.cell hg⟩
 refine zd.intro (fun t vs hh => hh = h ∧ ∃ k : Nat, k + t = x.zbz.length ∧ vs = [.int .i64 (k : Int)] ∧ (∀ s ∈ x.zbz.take k, s ≠ x.Code) ∧
  ∀ i j : Nat, i < j → j < k → ∀ a b, x.zbz[i]? = some a → x.zbz[j]? = some b → a ≠ b) x.zbz.length ?_ ⟨rfl, 0, by omega, rfl, fun j h => (by simp at h), fun i j _ hj => by omega⟩
 rintro Y t vs hh ⟨rfl, k, ht, rfl, hne, hnd⟩ hY
 simp -dsimp [e1]
 refine B.zn (fun hc => ?_) (fun hc => ?_)
 ·have hc : k < x.zbz.length := by simpa using hc
  obtain ⟨g1, g2⟩ := get hc
  simp -dsimp [g1, g2]
  refine B.zn (fun hb => ?_) (fun hb => ?_)
  ·have hb : x.zbz[k] = x.Code := by simpa using hb
   refine no fun hn => ?_
   exact (List.nodup_cons.1 hn).1 (by rw [← hb]; exact List.getElem_mem hc)
  have hb : x.zbz[k] ≠ x.Code := by simpa using hb
  refine zd.intro (fun t vs h2 => h2 = hh ∧ ∃ m : Nat, m + t = k ∧ vs = [.int .i64 (m : Int)] ∧ ∀ j : Nat, j < m → ∀ b, x.zbz[j]? = some b → b ≠ x.zbz[k]) k ?_ ⟨rfl, 0, by omega, rfl, fun j hj => by omega⟩
  rintro Z t2 vs h2 ⟨rfl, m, ht2, rfl, hne2⟩ hZ
  simp -dsimp only [zco.l2, zco.k1, lssN, B.zg]
  refine B.zn (fun hd => ?_) (fun hd => ?_)
  ·rw [decide_eq_true_eq] at hd
   have hml : m < x.zbz.length := by omega
   obtain ⟨k1, k2⟩ := get hml
   simp -dsimp [k1, k2, g1, g2, - V.zdi]
   refine B.zn (fun hf => ?_) (fun hf => ?_)
   ·have hf : x.zbz[m] = x.zbz[k] := by simpa using hf
    refine no fun hn => ?_
    have := nodup_get (List.nodup_cons.1 hn).2 (List.getElem?_eq_getElem hml) (by rw [hf]; exact List.getElem?_eq_getElem hc)
    omega
   ·have hf : x.zbz[m] ≠ x.zbz[k] := by simpa using hf
    simp -dsimp only [add1 (show m < 4611686018427387904 by omega), B.zg]
    refine hZ (t2 - 1) _ _ (by omega) ⟨rfl, m + 1, by omega, rfl, fun j hj b hb => ?_⟩
    by_cases e : j = m
    ·subst e; rw [List.getElem?_eq_getElem hml] at hb; cases hb; exact hf
    ·exact hne2 j (by omega) b hb
  ·rw [decide_eq_false_iff_not] at hd
   have hmk : m = k := by omega
   subst hmk
   simp -dsimp only [add1 (show m < 4611686018427387904 by omega), B.zg]
   refine hY (t - 1) _ _ (by omega) ⟨rfl, m + 1, by omega, rfl, fun s hs => ?_, fun i j hij hj a b h3 h4 => ?_⟩
   ·rw [List.take_add_one, List.getElem?_eq_getElem hc, List.mem_append] at hs
    rcases hs with hs | hs
    ·exact hne s hs
    ·have : s = x.zbz[m] := by simpa using hs
     rw [this]; exact hb
   ·by_cases e : j = m
    ·subst e; rw [List.getElem?_eq_getElem hc] at h4; cases h4; exact hne2 i hij a h3
    ·exact hnd i j hij (by omega) a b h3 h4
 ·have hc : ¬ k < x.zbz.length := by simpa using hc
  have hke : k = x.zbz.length := by omega
  subst hke
  rw [List.take_length] at hne
  have h2 : (x.Code :: x.zbz).Nodup := List.nodup_cons.2 ⟨fun hm => hne _ hm rfl, zr0 fun i j hij a b h3 h4 => hnd i j hij (List.getElem?_eq_some_iff.1 h4).1 a b h3 h4⟩
  have : zf0 x = decide ((x.zbz.length : Int) ≤ 4) := by
   unfold zf0
   rw [decide_eq_true h2, Bool.and_true]
   exact decide_eq_decide.2 (by omega)
  rw [this] at hq
  simp -dsimp [e1]
  have e4 : decide ((x.zbz.length : Int) ≤ 4) = decide (x.zbz.length ≤ 4) := decide_eq_decide.2 (by omega)
  first | exact zbj hq | (rw [e4] at hq; exact zbj hq)
def zbx.Spec (C : CSem) (N : Nat → Nat) : Prop := ∀ (x : AVal) (L : List Itm) (h : zb) (Q : AVal → zb → Prop), Dl zd5 h x L → L.length ≤ 1000000 → Q (.int .i64 (zem L)) h → C (N 394) [x] h Q
theorem zbx.spec (i : zbx.Imp C N) (s1 : z3.Spec C N) (s2 : zco.Spec C N) (s3 : zdd.Spec C N) : zbx.Spec C N := by
 intro x L h Q hx hlen hq
 apply i
 simp -dsimp only [zbx.cps, zbx.k7]
 refine s1 _ _ _ _ hx hlen ?_
 simp -dsimp only [V.bin_neq, B.zg]
 refine B.zn (fun hb => ?_) (fun hb => ?_)
 ·have hb : zd8 L ≠ 0 := by simpa using hb
  have : zem L = zd8 L := by unfold zem; simp [hb]
  rw [this] at hq
  exact zbj hq
 have hb : zd8 L = 0 := by simpa using hb
 have hsw : zem L = bif !L.all zf0 then 4 else bif !zfz L then 150 else 0 := by unfold zem; simp [hb]
 refine zd.intro (fun t vs hh => hh = h ∧ ∃ k : Nat, k + t = L.length ∧ vs = [.int .i64 (k : Int)] ∧ ∀ x ∈ L.take k, zf0 x = true) L.length ?_ ⟨rfl, 0, by omega, rfl, by simp⟩
 rintro Y t vs hh ⟨rfl, k, ht, rfl, hok⟩ hY
 simp -dsimp only [zbx.l6, zbx.k5, hx.zw, lssN, B.zg]
 refine B.zn (fun hc => ?_) (fun hc => ?_)
 ·rw [decide_eq_true_eq] at hc
  obtain ⟨r, hr⟩ := zfc hc
  have hm := List.mem_of_getElem? hr
  obtain ⟨p, oo, e1, e2, ha⟩ := itm_get2 hx (zb.le_refl _) hr
  simp -dsimp only [e1, B.zqx, e2, B.zg]
  refine s2 _ _ _ _ ha ?_
  cases hro : zf0 r with
  | false =>
   simp -dsimp
   have : L.all zf0 = false := List.all_eq_false.2 ⟨r, hm, by simp [hro]⟩
   rw [hsw, this] at hq
   exact zbj hq
  | true =>
   simp -dsimp [- V.zdi, add1 (show k < 4611686018427387904 by omega)]
   refine hY (t - 1) _ _ (by omega) ⟨rfl, k + 1, by omega, rfl, fun x hx => ?_⟩
   rw [List.take_add_one, hr, List.mem_append] at hx
   rcases hx with hx | hx
   ·exact hok x hx
   ·have : x = r := by simpa using hx
    rw [this]; exact hro
 ·rw [decide_eq_false_iff_not] at hc
  have hk : k = L.length := by omega
  subst hk
  rw [List.take_length] at hok
  rw [List.all_eq_true.2 hok] at hsw
  refine zd.intro (fun t vs h2 => h2 = hh ∧ ∃ k : Nat, k + t = L.length ∧ vs = [.int .i64 (k : Int)] ∧ ∀ x ∈ L.take k, ∀ s ∈ x.zbz, s ∈ zdr L) L.length ?_ ⟨rfl, 0, by omega, rfl, fun x h => (by simp at h)⟩
  rintro Z t2 vs h2 ⟨rfl, k, ht2, rfl, hin⟩ hZ
  simp -dsimp only [zbx.l4, zbx.k3, hx.zw, lssN, B.zg]
  refine B.zn (fun hd => ?_) (fun hd => ?_)
  ·rw [decide_eq_true_eq] at hd
   obtain ⟨r, hr⟩ := zfc hd
   have hm := List.mem_of_getElem? hr
   obtain ⟨p, oo, e1, _, _, _, e5, _, _, e8, ha⟩ := zhz hx hr
   obtain ⟨⟨R2, a2⟩, el, hol⟩ := zju ha
   refine zd.intro (fun t vs h3 => h3 = h2 ∧ ∃ m : Nat, m + t = r.zbz.length ∧ vs = [.int .i64 (m : Int)] ∧ ∀ s ∈ r.zbz.take m, s ∈ zdr L) r.zbz.length ?_ ⟨rfl, 0, by omega, rfl, fun x h => (by simp at h)⟩
   rintro W t3 vs h3 ⟨rfl, m, ht3, rfl, hin2⟩ hW
   simp -dsimp only [zbx.l2, zbx.k1, e1, e5, B.zg9, e8, el, lssN, B.zg]
   refine B.zn (fun hf => ?_) (fun hf => ?_)
   ·rw [decide_eq_true_eq] at hf
    have hg : (r.zbz.map tc)[m]? = some (tc r.zbz[m]) := by rw [List.getElem?_map, List.getElem?_eq_getElem hf]; rfl
    have hidx : V.idxS 1 oo (.int .i64 (m : Int)) = some (elp 1 oo m 0) := a2.idxN (by simpa using hf)
    have hcell : A.ldv h3 (elp 1 oo m 0) = some (.str r.zbz[m]) := a2.cell hg
    simp -dsimp only [e1, e5, B.zg9, e8, hidx, hcell, B.zg]
    refine s3 _ _ _ _ _ hx (by omega) ?_
    simp -dsimp only [V.zfq, B.zg, findI_neg]
    refine B.zn (fun he => ?_) (fun he => ?_)
    ·have he : r.zbz[m] ∉ zdr L := by simpa using he
     rw [hsw, zjp hm (List.getElem_mem hf) he] at hq
     exact zbj hq
    ·have he : r.zbz[m] ∈ zdr L := by simpa using he
     simp -dsimp only [add1 (show m < 4611686018427387904 by omega), B.zg]
     refine hW (t3 - 1) _ _ (by omega) ⟨rfl, m + 1, by omega, rfl, fun s hs => ?_⟩
     rw [List.take_add_one, List.getElem?_eq_getElem hf, List.mem_append] at hs
     rcases hs with hs | hs
     ·exact hin2 s hs
     ·have : s = r.zbz[m] := by simpa using hs
      rw [this]; exact he
   ·rw [decide_eq_false_iff_not] at hf
    have hk : m = r.zbz.length := by omega
    subst hk
    rw [List.take_length] at hin2
    simp -dsimp only [add1 (show k < 4611686018427387904 by omega), B.zg]
    refine hZ (t2 - 1) _ _ (by omega) ⟨rfl, k + 1, by omega, rfl, fun x hx => ?_⟩
    rw [List.take_add_one, hr, List.mem_append] at hx
    rcases hx with hx | hx
    ·exact hin x hx
    ·have : x = r := by simpa using hx
     rw [this]; exact hin2
  ·rw [decide_eq_false_iff_not] at hd
   have hk : k = L.length := by omega
   subst hk
   rw [List.take_length] at hin
   have : zfz L = true := by
    unfold zfz
    rw [List.all_eq_true]
    intro x hx
    rw [List.all_eq_true]
    intro s hs
    simpa using hin x hx s hs
   rw [hsw, this] at hq
   exact zbj hq
def zer.Spec (C : CSem) (N : Nat → Nat) : Prop := ∀ (x : AVal) (c : List UInt8) (L : List Itm) (h : zb) (Q : AVal → zb → Prop), Dl zd5 h x L → L.length ≤ 1000000 →
 (∀ x' R' h', Owns h h' [.sl 1 x' ((zgr L c).map tc) R'] → Q x' h') → C (N 395) [x, .str c] h Q
theorem zer.spec (i : zer.Imp C N) (s1 : zdd.Spec C N) : zer.Spec C N := by
 intro x c L h Q hx hlen hq
 apply i
 refine s1 _ _ _ _ _ hx (by omega) ?_
 simp -dsimp only [V.zfq, B.zg]
 obtain ⟨f1, f2⟩ := zpz (L := L) (c := c)
 refine B.zn (fun hc => ?_) (fun hc => ?_)
 ·have hn : zg3 L c = none := f1.1 (by simpa using hc)
  exact zbj (hq .nils [] h (by unfold zgr; rw [hn]; exact (Owns.start h).nils 1))
 ·have hc : ¬ zji L c < 0 := by simpa using hc
  obtain ⟨k, hk⟩ : ∃ k : Nat, zji L c = k := ⟨(zji L c).toNat, by omega⟩
  obtain ⟨r, hr, hi⟩ := f2 k hk
  simp -dsimp
  intro i12 h12
  have o1 := (Owns.start h).newSl (id := i12) (n := 1) (cp := 1) (es := 1) (cs := [.str c]) (L := [[.str c]]) (R := []) h12 (by simp) rfl (by simp) rfl
  obtain ⟨p, o, e1, e2, e3, e4, e5, e6, e7, e8, ha⟩ := zhz (hx.mono o1.le) hr
  obtain ⟨⟨R2, a2⟩, el, hol⟩ := zju ha
  simp -dsimp [hk, e1, e5, e8]
  refine o1.appW 0 rfl a2 Nat.one_pos (by simp; omega) (by simp [maxLen]; omega) fun x' h' o2 _ => ?_
  have hs : zgr L c = c :: r.zbz := by unfold zgr; rw [hi]
  exact zbj (hq x' [] h' (by rw [hs]; exact o2))
@[simp] def zlr.k1 (C : CSem) (n fm : Nat) (Q : AVal → zb → Prop) (Y1 : List AVal → zb → Prop) (v3 v4 : AVal) (h : zb) : Prop :=
 B.pv (V.zw v3) fun v23 =>
  B.pv (V.bin .lss v4 v23) fun v24 =>
  B.cond v24
  (B.call C fm [(.int .i64 2), v4] h fun v30 h =>
  B.pv (V.idxS n v3 v4) fun v31 =>
  B.stn h v31 n v30 fun h =>
  B.pv (V.bin .add v4 (.int .i64 1)) fun v26 =>
  Y1 [v26] h)
  (Q (.tup []) h)
@[simp] def zlr.l2 (C : CSem) (n fm : Nat) (Q : AVal → zb → Prop) (v3 : AVal) : List AVal → zb → (List AVal → zb → Prop) → Prop
 | [v4], h, Y1 => zlr.k1 C n fm Q Y1 v3 v4 h
 | _, _, _ => False
@[simp] def zlr.k3 (C : CSem) (n fm : Nat) (Q : AVal → zb → Prop) (v0 : AVal) (h : zb) : Prop :=
 B.pv (V.zw v0) fun v18 =>
  B.pv (V.bin .add v18 (.int .i64 12)) fun v19 =>
  B.pv (V.zfe n v0 none (some v19)) fun v20 =>
  zd (zlr.l2 C n fm Q v20) [(.int .i64 0)] h
@[simp] def zlr.k4 (C : CSem) (n fo fm : Nat) (Q : AVal → zb → Prop) (Y2 : List AVal → zb → Prop) (v0 v2 : AVal) (h : zb) : Prop :=
 B.pv (V.zw v0) fun v7 =>
  B.pv (V.bin .lss v2 v7) fun v8 =>
  B.cond v8
  (B.pv (V.idxS n v0 v2) fun v13 =>
  B.ldn h v13 n fun v14 =>
  B.call C fo [v14] h fun v15 h =>
  B.pv (V.bin .add v2 (.int .i64 1)) fun v10 =>
  Y2 [v10] h)
  (zlr.k3 C n fm Q v0 h)
@[simp] def zlr.l5 (C : CSem) (n fo fm : Nat) (Q : AVal → zb → Prop) (v0 : AVal) : List AVal → zb → (List AVal → zb → Prop) → Prop
 | [v2], h, Y2 => zlr.k4 C n fo fm Q Y2 v0 v2 h
 | _, _, _ => False
def zlr (C : CSem) (n fo fm : Nat) (v0 : AVal) (h : zb) (Q : AVal → zb → Prop) : Prop := zd (zlr.l5 C n fo fm Q v0) [(.int .i64 0)] h
section
variable {T Ad : Type} (K : DK T Ad)
def OverE (K : DK T Ad) (C : CSem) (f : Nat) : Prop := ∀ (t : T) (a : Ad) (h0 h : zb) (Q : AVal → zb → Prop), K.ok t → Owns h0 h (K.obs true t a) → (∀ h', h0.le h' → Q (.tup []) h') → C f [.agg (K.cells t a)] h Q
theorem overD_spec {mk : Int → Int → T} {fo fm : Nat} (so : OverE K C fo) (sm : MarkE K mk C fm) {h0 h : zb} {x : AVal} {P PM : List (T × Ad)} {Q : AVal → zb → Prop} (ho : Owns h0 h (.sl K.n x (P.map K.cs) (PM.map K.cs) :: (K.os true P ++ K.os false PM))) (hok : ∀ p ∈ P, K.ok p.1) (hM : PM.length = 12) (hl : P.length ≤ 100000000)
  (hq : ∀ h', h0.le h' → Q (.tup []) h') : zlr C K.n fo fm x h Q := by
 have ho1 : Owns h0 h (.sl K.n x (P.map K.cs) (PM.map K.cs) :: K.os true P) := ho.sub (List.Sublist.cons_cons _ (List.sublist_append_left _ _))
 have e1 : IntKind.i64.wrap ((P.length : Int) + 12) = ((P.length + 12 : Nat) : Int) := by rw [wrap_i64 (by omega) (by omega)]; omega
 refine zd.intro (fun n vs hh => ∃ k : Nat, k + n = P.length ∧ vs = [.int .i64 k] ∧ Owns h0 hh (.sl K.n x (P.map K.cs) (PM.map K.cs) :: K.os true (P.drop k))) P.length ?_ ⟨0, by omega, rfl, ho1⟩
 rintro Y n vs hh ⟨k, hk, rfl, o⟩ hY
 have hx := o.slAt 0 rfl
 have hlx := hx.zw
 rw [List.length_map] at hlx
 simp -dsimp only [zlr.l5, zlr.k4, hlx, lssN, B.zg]
 refine B.zn (fun hb => ?_) (fun hb => ?_)
 ·rw [decide_eq_true_eq] at hb
  have hd : P.drop k = P[k] :: P.drop (k + 1) := List.drop_eq_getElem_cons hb
  have hg : (P.map K.cs)[k]? = some (K.cells P[k].1 P[k].2) := by rw [List.getElem?_map, List.getElem?_eq_getElem hb]; rfl
  have hidx : V.idxS K.n x (.int .i64 (k : Int)) = some (elp K.n x k 0) := hx.idxN (by simpa using hb)
  simp -dsimp only [hidx, B.zqx, hx.elem hg, B.zg]
  rw [hd] at o
  have eo : K.os true (P[k] :: P.drop (k + 1)) = K.obs true P[k].1 P[k].2 ++ K.os true (P.drop (k + 1)) := by simp only [DK.os, List.flatMap_cons]
  rw [eo] at o
  have o' : Owns h0 hh ((.sl K.n x (P.map K.cs) (PM.map K.cs) :: K.os true (P.drop (k + 1))) ++ K.obs true P[k].1 P[k].2) := o.perm (by
   rw [List.cons_append]
   exact List.Perm.cons _ (List.perm_append_comm))
  obtain ⟨o1, o2⟩ := o'.out
  refine so _ _ _ _ _ (hok _ (List.getElem_mem hb)) o2 fun h' hle => ?_
  simp -dsimp only [add1 (show k < 4611686018427387904 by omega), B.zg]
  exact hY (n - 1) _ _ (by omega) ⟨k + 1, by omega, rfl, o1.grow hle⟩
 ·rw [decide_eq_false_iff_not] at hb
  have o1 : Owns h0 hh [.sl K.n x (P.map K.cs) (PM.map K.cs)] := o.sub (List.Sublist.cons_cons _ (List.nil_sublist _))
  obtain ⟨z, e2, e3, e4⟩ := hx.slice K.pos (lo := 0) (hi := P.length + 12) (a := none) (b := some (.int .i64 ((P.length + 12 : Nat) : Int))) (.inl ⟨rfl, rfl⟩) (.inr ⟨_, rfl⟩) (by omega) (by simp; omega)
  have h1 : ((P.map K.cs ++ PM.map K.cs).take (P.length + 12)).drop 0 = P.map K.cs ++ PM.map K.cs := by rw [List.drop_zero, List.take_of_length_le]; simp; omega
  rw [h1] at e3
  simp -dsimp only [zlr.k3, hlx, V.zdi, e1, e2, B.zg]
  have hoz : Owns h0 hh [.sl K.n z (P.map K.cs ++ PM.map K.cs) ((P.map K.cs ++ PM.map K.cs).drop (P.length + 12))] := o1.turn 0 rfl (o' := .sl K.n z (P.map K.cs ++ PM.map K.cs) ((P.map K.cs ++ PM.map K.cs).drop (P.length + 12))) e3 (fun id b hf hb => o1.znl 0 rfl id b (by show foot x = some id; rw [← e4]; exact hf) hb) (fun j b hb _ => hb) (.inl e4)
  refine zd.intro (fun n vs hh => ∃ (k : Nat) (L' : List (List AVal)), k + n = P.length + 12 ∧ vs = [.int .i64 k] ∧ L'.length = P.length + 12 ∧ Owns h0 hh [.sl K.n z L' ((P.map K.cs ++ PM.map K.cs).drop (P.length + 12))]) (P.length + 12) ?_ ⟨0, _, by omega, rfl, by simp [hM], hoz⟩
  rintro Y n vs hh ⟨k, L', hn, rfl, hl', ho'⟩ hY
  have hlz := (ho'.slAt 0 rfl).zw
  rw [hl'] at hlz
  simp -dsimp only [zlr.l2, zlr.k1, hlz, lssN, B.zg]
  refine B.zn (fun hc => ?_) (fun hc => ?_)
  ·rw [decide_eq_true_eq] at hc
   have hk : k < L'.length := by omega
   refine sm _ _ _ _ fun a' h2 o2 => ?_
   simp -dsimp only [(ho'.slAt 0 rfl).idxN hk, B.zg]
   refine (ho'.grow o2.le).stElem 0 rfl (c := L'[k]) (by simp [hk]) (K.len _ a') fun h3 o3 _ => ?_
   simp -dsimp only [add1 (show k < 4611686018427387904 by omega), B.zg]
   exact hY (P.length + 12 - (k + 1)) _ _ (by omega) ⟨k + 1, _, by omega, rfl, by simp [hl'], o3⟩
  ·exact hq _ ho'.le
end
def zdx.Spec (C : CSem) (N : Nat → Nat) : Prop := OverE zd5 C (N 401)
theorem zdx.spec (i : zdx.Imp C N) (s1 : zdn.Spec C N) (s2 : zdm.Spec C N) : zdx.Spec C N := by
 intro t a h0 h Q hok ho hq
 apply i
 have ho : Owns h0 h ([.sl 2 a.1 (t.zb6.map Part.cs) zir] ++ [.sl 1 a.2 (t.zbz.map tc) zhs]) := ho
 have ho' := ho.perm (List.perm_append_comm)
 obtain ⟨o1, o2⟩ := ho'.out
 simp -dsimp [zd5]
 refine s1 _ _ _ _ _ _ o2 (by simp [marks]) (by rw [List.length_map]; exact hok.1) fun h1 hle => ?_
 refine s2 _ _ _ _ _ _ (o1.grow hle) (by simp [zhs, zf6]) (by rw [List.length_map]; exact hok.2) fun h2 hle2 => ?_
 exact zbj (hq _ hle2)
def zcd.Spec (C : CSem) (N : Nat → Nat) : Prop := ∀ (x : AVal) (P PM : List (Itm × AVal × AVal)) (h0 h : zb) (Q : AVal → zb → Prop), Owns h0 h (.sl 4 x (P.map zd5.cs) (PM.map zd5.cs) :: (zd5.os true P ++ zd5.os false PM)) → (∀ p ∈ P, zd5.ok p.1) → PM.length = 12 → P.length ≤ 100000000 →
 (∀ h', h0.le h' → Q (.tup []) h') → C (N 393) [x] h Q
theorem zcd.spec (i : zcd.Imp C N) (s1 : zdx.Spec C N) (s2 : zdp.Spec C N) : zcd.Spec C N := fun x P PM h0 h Q ho hok hM hl hq =>
 i x h Q (overD_spec zd5 s1 s2 ho hok hM hl fun h' hle => zbj (hq h' hle))
end Go.Ab
set_option maxRecDepth 100000
namespace Go.Ab
variable {C : CSem} {N : Nat → Nat}
abbrev sing (v : AVal) : List AVal := [v]
def zrr (h hh : zb) (id : Nat) (B : Nat → List AVal) : Prop := ∃ xs : Nat → AVal, Owns h hh (Objs 1 23 xs (fun i => (B i).map sing) (fun _ => []) ++ [.box (.ptr id 0 0) (fill 23 xs)])
theorem Owns.nilObjs {h0 h : zb} {l : List Ob} (ho : Owns h0 h l) (es n : Nat) : Owns h0 h (Objs es n (fun _ => .nils) (fun _ => []) (fun _ => []) ++ l) := by
 have mem : ∀ o ∈ Objs es n (fun _ => AVal.nils) (fun _ => []) (fun _ => []), o = .sl es .nils [] [] := fun o hm => by
  obtain ⟨j, _, rfl⟩ := List.mem_map.1 hm; rfl
 refine ⟨ho.le, fun o hm => ?_, fun o hm => ?_, List.pairwise_append.2 ⟨?_, ho.apart, fun a ha b _ id hf => by rw [mem a ha] at hf; cases hf⟩⟩
 ·rcases List.mem_append.1 hm with hm | hm
  ·rw [mem o hm]; exact SlX.nils h es
  ·exact ho.is o hm
 ·rcases List.mem_append.1 hm with hm | hm
  ·intro id hf; rw [mem o hm] at hf; cases hf
  ·exact ho.own o hm
 ·rw [List.pairwise_iff_forall_sublist]
  intro a b hs id hf
  rw [mem a (hs.subset (by simp))] at hf; cases hf
theorem zrr.start {h : zb} {id : Nat} (hid : h id = none) : zrr h (upd h id (zej (fill 23 fun _ => .nils))) id fun _ => [] := by
 refine ⟨fun _ => .nils, ?_⟩
 have := ((Owns.start h).zr2 hid (fill 23 fun _ => .nils)).nilObjs 1 23
 simpa using this
def putG (k : Nat) (v0 v1 : AVal) (h : zb) (Q : AVal → zb → Prop) : Prop :=
 B.nilCheck v0 fun v6 =>
  B.pv (V.fieldAddr k v6) fun v7 =>
  B.ld h v7 fun v8 =>
  B.newO h (zep [(0, none, v1)] (repL 1 [.nils])) fun i10 h =>
  B.appW h 1 24 v8 (.sl i10 0 0 1 1 1) fun v11 h =>
  B.nilCheck v0 fun v12 =>
  B.pv (V.fieldAddr k v12) fun v13 =>
  B.st h v13 v11 fun h =>
  Q (.tup []) h
theorem putG_spec {k : Nat} (hk : k < 23) {h hh : zb} {id : Nat} {B : Nat → List AVal} {y : AVal} {Q : AVal → zb → Prop} (hb : zrr h hh id B) (hy : y.zd1 = true) (hl : (B k).length ≤ 100000000) (hq : ∀ h', zrr h h' id (upf B k (B k ++ [y])) → Q (.tup []) h') : putG k (.ptr id 0 0) y hh Q := by
 obtain ⟨xs, ho⟩ := hb
 obtain ⟨id', e, hbx⟩ := ho.zrq 23 Objs.getL
 cases e
 have e1 : A.ldv hh (.ptr id 0 k) = some (xs k) := by rw [zjr hbx, zp0 _ hk]
 have hrep : repL 1 [AVal.nils] = [AVal.nils] := rfl
 simp -dsimp [putG, e1, hrep, hy]
 refine ho.push k (Objs.getA hk) rfl (by omega) (by simp; omega) (by simp [maxLen]; omega) fun x' h1 ho1 _ => ?_
 rw [Objs.setA hk, zp3] at ho1
 have hcx := (ho1.slAt k (Objs.getA hk)).zd1
 rw [zfs] at hcx
 simp -dsimp
 refine ho1.boxSt 23 Objs.getL hcx (by simpa using hk) fun h2 ho2 _ => ?_
 rw [Objs.setL, fill_set] at ho2
 refine hq h2 ⟨upf xs k x', ?_⟩
 have e2 : upf (fun i => (B i).map sing) k ((B k).map sing ++ [[y]]) = fun i => (upf B k (B k ++ [y]) i).map sing := by
  funext i; unfold upf; split
  ·rename_i e; subst e; simp
  ·rfl
 rw [e2] at ho2
 exact ho2
section
variable {h0 h : zb} {id : Nat} {B : Nat → List AVal} {D R : Nat → Nat → List (List AVal)} {xs : Nat → AVal} {Q : AVal → zb → Prop}
end
end Go.Ab
set_option maxRecDepth 100000
namespace Go.Ab
variable {C : CSem} {N : Nat → Nat}
def PutSpec (C : CSem) (k g : Nat) : Prop := ∀ (h hh : zb) (id : Nat) (B : Nat → List AVal) (y : AVal) (Q : AVal → zb → Prop), zrr h hh id B → y.zd1 = true → (B k).length ≤ 100000000 → (∀ h', zrr h h' id (upf B k (B k ++ [y])) → Q (.tup []) h') → C g [.ptr id 0 0, y] hh Q
@[simp] def zso.k1 (C : CSem) (fp fa : Nat) (Q : AVal → zb → Prop) (Y1 : List AVal → zb → Prop) (v0 v3 v4 : AVal) (h : zb) : Prop :=
 B.pv (V.zw v0) fun v9 =>
  B.pv (V.bin .lss v4 v9) fun v10 =>
  B.cond v10
  (B.pv (V.idxS 1 v0 v4) fun v16 =>
  B.ld h v16 fun v17 =>
  B.call C fp [v3, v17] h fun v18 h =>
  B.pv (V.bin .add v4 (.int .i64 1)) fun v12 =>
  Y1 [v12] h)
  (B.call C fa [v3] h fun v20 h =>
  Q v20 h)
@[simp] def zso.l2 (C : CSem) (fp fa : Nat) (Q : AVal → zb → Prop) (v0 v3 : AVal) : List AVal → zb → (List AVal → zb → Prop) → Prop
 | [v4], h, Y1 => zso.k1 C fp fa Q Y1 v0 v3 v4 h
 | _, _, _ => False
def zso (C : CSem) (fp fa : Nat) (v0 : AVal) (h : zb) (Q : AVal → zb → Prop) : Prop :=
 B.pv (A.bld [] [.nils, .nils, .nils, .nils, .nils, .nils, .nils, .nils, .nils, .nils, .nils, .nils, .nils, .nils, .nils, .nils, .nils, .nils, .nils, .nils, .nils, .nils, .nils]) fun v5 =>
  B.newO h (A.znx 23 v5) fun i6 h =>
  zd (zso.l2 C fp fa Q v0 (.ptr i6 0 0)) [(.int .i64 0)] h
theorem zrr.le {h hh : zb} {id : Nat} {B : Nat → List AVal} (hb : zrr h hh id B) : h.le hh := by obtain ⟨_, ho⟩ := hb; exact ho.le
@[simp] theorem Objs_zero {es : Nat} {xs : Nat → AVal} {D R : Nat → List (List AVal)} : Objs es 0 xs D R = [] := rfl
end Go.Ab
set_option maxRecDepth 100000
namespace Go.Ab
variable {C : CSem} {N : Nat → Nat}
structure LL.okL (lim : Nat) (t : LL) (h0 : zb) : Prop where
 is : SlX h0 1 t.x (zgc t.n fun j => [t.xs j]) t.W
 n_le : t.n ≤ 100000000
 zr5 : ∀ j, j < t.n → (t.D j).length ≤ lim
def FlatSpecL (C : CSem) (es lim g : Nat) : Prop := ∀ (t : LL) (h0 h : zb) (Q : AVal → zb → Prop), t.okL lim h0 → Owns h0 h (t.obs es) → (∀ h', h0.le h' → Q (.bool true) h') → C g [t.x] h Q
structure BagK where
 es : Nat → Nat
 lim : Nat → Nat
 full : Nat → Bool
abbrev LK := List (AVal × List (List AVal))
def obK (es : Nat) (q : AVal × List (List AVal)) : Ob := .sl es q.1 q.2 []
def LK.ll (l : LK) (x : AVal) : LL := ⟨x, l.length, fun j => (l.getD j (.nils, [])).1, fun j => (l.getD j (.nils, [])).2, fun _ => [], []⟩
theorem LK.obs (l : LK) (x : AVal) (es : Nat) : (l.ll x).obs es = l.map (obK es) := by
 apply List.ext_getElem?
 intro j
 unfold LL.obs LK.ll
 by_cases hj : j < l.length
 ·rw [Objs.get hj, List.getElem?_map, List.getElem?_eq_getElem hj]
  simp [obK, hj]
 ·rw [List.getElem?_eq_none (by simp; omega), List.getElem?_eq_none (by simp; omega)]
theorem LK.zgc (l : LK) : zgc l.length (fun j => [(l.getD j (.nils, [])).1]) = l.map fun q => [q.1] := by
 apply List.ext_getElem?
 intro j
 by_cases hj : j < l.length
 ·rw [zhx _ hj, List.getElem?_map, List.getElem?_eq_getElem hj]; simp [hj]
 ·rw [List.getElem?_eq_none (by simp; omega), List.getElem?_eq_none (by simp; omega)]
def zf2 (C : CSem) (b : BagK) (i g : Nat) : Prop := (b.full i = true → FlatSpecL C (b.es i) (b.lim i) g) ∧ (b.full i = false → zdq C g)
structure BagL (b : BagK) (h0 : zb) (id : Nat) (L : Nat → LK) (xs : Nat → AVal) : Prop where
 box : h0 id = some (zej (fill 23 xs))
 is : ∀ i, i < 23 → SlX h0 1 (xs i) ((L i).map fun q => [q.1]) []
 none : ∀ i, i < 23 → b.full i = false → L i = []
 n_le : ∀ i, i < 23 → (L i).length ≤ 100000000
 zr5 : ∀ i, i < 23 → ∀ q ∈ L i, q.2.length ≤ b.lim i
def bagOb (b : BagK) (L : Nat → LK) (i n : Nat) : List Ob := (List.range' i n).flatMap fun i => (L i).map (obK (b.es i))
theorem bagOb_succ (b : BagK) (L : Nat → LK) (i n : Nat) : bagOb b L i (n + 1) = (L i).map (obK (b.es i)) ++ bagOb b L (i + 1) n := by
 simp [bagOb, List.range'_succ]
section
variable {b : BagK} {h0 h : zb} {id : Nat} {L : Nat → LK} {xs : Nat → AVal} {Q : AVal → zb → Prop}
theorem BagL.ld (hb : BagL b h0 id L xs) (hle : h0.le h) {i : Nat} (hi : i < 23) : A.ldv h (.ptr id 0 i) = some (xs i) := by
 rw [zjr (hle _ _ hb.box), zp0 _ hi]
theorem zfb {g : Nat} (i : Nat) (s : zf2 C b i g) (hb : BagL b h0 id L xs) (n : Nat) (hi : i < 23) (ho : Owns h0 h (bagOb b L i (n + 1))) (hq : ∀ h', Owns h0 h' (bagOb b L (i + 1) n) → Q (.bool true) h') : C g [xs i] h Q := by
 rw [bagOb_succ] at ho
 cases hf : b.full i with
 | true =>
  obtain ⟨q1, q2⟩ := (ho.perm List.perm_append_comm).out
  have hx := (hb.is i hi).mono q1.le
  rw [← LK.zgc] at hx
  rw [← LK.obs (L i) (xs i)] at q1 q2
  refine s.1 hf ((L i).ll (xs i)) _ h Q ⟨by rw [← LK.obs (L i) (xs i)] at hx; exact hx, hb.n_le i hi, fun j hj => ?_⟩ q2 fun h' hle => hq h' (q1.grow hle)
  have hj' : j < (L i).length := hj
  show ((L i).getD j (.nils, [])).2.length ≤ _
  rw [List.getD_eq_getElem?_getD, List.getElem?_eq_getElem hj']
  exact hb.zr5 i hi _ (List.getElem_mem hj')
 | false =>
  have e := hb.none i hi hf
  have hx := hb.is i hi
  rw [e] at hx ho
  simp only [List.map_nil, List.nil_append] at hx ho
  exact s.2 hf (xs i) [] h h Q (hx.mono ho.le) (zb.le_refl h) fun h' hle => hq h' (ho.grow hle)
end
def ApartK (C : CSem) (b : BagK) (g : Nat) : Prop := ∀ (id : Nat) (L : Nat → LK) (xs : Nat → AVal) (h0 h : zb) (Q : AVal → zb → Prop), BagL b h0 id L xs → Owns h0 h (bagOb b L 0 23) → (∀ h', h0.le h' → Q (.bool true) h') → C g [.ptr id 0 0] h Q
theorem bag_apartK (i : zd2.Imp C N) (b : BagK) (f0 : zf2 C b 0 (N 80)) (f1 : zf2 C b 1 (N 81)) (f2 : zf2 C b 2 (N 82)) (f3 : zf2 C b 3 (N 83)) (f4 : zf2 C b 4 (N 84)) (f5 : zf2 C b 5 (N 85)) (f6 : zf2 C b 6 (N 86)) (f7 : zf2 C b 7 (N 87)) (f8 : zf2 C b 8 (N 88))
  (f9 : zf2 C b 9 (N 89)) (f10 : zf2 C b 10 (N 90)) (f11 : zf2 C b 11 (N 91)) (f12 : zf2 C b 12 (N 92)) (f13 : zf2 C b 13 (N 93)) (f14 : zf2 C b 14 (N 94)) (f15 : zf2 C b 15 (N 95)) (f16 : zf2 C b 16 (N 96)) (f17 : zf2 C b 17 (N 97)) (f18 : zf2 C b 18 (N 98)) (f19 : zf2 C b 19 (N 99))
  (f20 : zf2 C b 20 (N 100)) (f21 : zf2 C b 21 (N 101)) (f22 : zf2 C b 22 (N 102)) : ApartK C b (N 62) := by
 intro id L xs h0 h Q hb ho hq
 apply i
 simp -dsimp [hb.ld ho.le (i := 0) (by omega)]
 refine zfb 0 f0 hb 22 (by omega) ho fun h ho => ?_
 simp -dsimp [hb.ld ho.le (i := 1) (by omega)]
 refine zfb 1 f1 hb 21 (by omega) ho fun h ho => ?_
 simp -dsimp [hb.ld ho.le (i := 2) (by omega)]
 refine zfb 2 f2 hb 20 (by omega) ho fun h ho => ?_
 simp -dsimp [hb.ld ho.le (i := 3) (by omega)]
 refine zfb 3 f3 hb 19 (by omega) ho fun h ho => ?_
 simp -dsimp [hb.ld ho.le (i := 4) (by omega)]
 refine zfb 4 f4 hb 18 (by omega) ho fun h ho => ?_
 simp -dsimp [hb.ld ho.le (i := 5) (by omega)]
 refine zfb 5 f5 hb 17 (by omega) ho fun h ho => ?_
 simp -dsimp [hb.ld ho.le (i := 6) (by omega)]
 refine zfb 6 f6 hb 16 (by omega) ho fun h ho => ?_
 simp -dsimp [hb.ld ho.le (i := 7) (by omega)]
 refine zfb 7 f7 hb 15 (by omega) ho fun h ho => ?_
 simp -dsimp [hb.ld ho.le (i := 8) (by omega)]
 refine zfb 8 f8 hb 14 (by omega) ho fun h ho => ?_
 simp -dsimp [hb.ld ho.le (i := 9) (by omega)]
 refine zfb 9 f9 hb 13 (by omega) ho fun h ho => ?_
 simp -dsimp [hb.ld ho.le (i := 10) (by omega)]
 refine zfb 10 f10 hb 12 (by omega) ho fun h ho => ?_
 simp -dsimp [hb.ld ho.le (i := 11) (by omega)]
 refine zfb 11 f11 hb 11 (by omega) ho fun h ho => ?_
 simp -dsimp [hb.ld ho.le (i := 12) (by omega)]
 refine zfb 12 f12 hb 10 (by omega) ho fun h ho => ?_
 simp -dsimp [hb.ld ho.le (i := 13) (by omega)]
 refine zfb 13 f13 hb 9 (by omega) ho fun h ho => ?_
 simp -dsimp [hb.ld ho.le (i := 14) (by omega)]
 refine zfb 14 f14 hb 8 (by omega) ho fun h ho => ?_
 simp -dsimp [hb.ld ho.le (i := 15) (by omega)]
 refine zfb 15 f15 hb 7 (by omega) ho fun h ho => ?_
 simp -dsimp [hb.ld ho.le (i := 16) (by omega)]
 refine zfb 16 f16 hb 6 (by omega) ho fun h ho => ?_
 simp -dsimp [hb.ld ho.le (i := 17) (by omega)]
 refine zfb 17 f17 hb 5 (by omega) ho fun h ho => ?_
 simp -dsimp [hb.ld ho.le (i := 18) (by omega)]
 refine zfb 18 f18 hb 4 (by omega) ho fun h ho => ?_
 simp -dsimp [hb.ld ho.le (i := 19) (by omega)]
 refine zfb 19 f19 hb 3 (by omega) ho fun h ho => ?_
 simp -dsimp [hb.ld ho.le (i := 20) (by omega)]
 refine zfb 20 f20 hb 2 (by omega) ho fun h ho => ?_
 simp -dsimp [hb.ld ho.le (i := 21) (by omega)]
 refine zfb 21 f21 hb 1 (by omega) ho fun h ho => ?_
 simp -dsimp [hb.ld ho.le (i := 22) (by omega)]
 refine zfb 22 f22 hb 0 (by omega) ho fun h ho => ?_
 try simp -dsimp
 exact zbj (hq _ ho.le)
end Go.Ab
set_option maxRecDepth 100000
namespace Go.Ab
variable {C : CSem} {N : Nat → Nat}
theorem zj9 {E : z5} {g : Nat} (i : ∀ (v0 : AVal) (h : zb) (Q : AVal → zb → Prop), ze E C v0 h (dn Q) → C g [v0] h Q) : zdq C g := fun x W h0 h Q hx hle hq => i x h Q (zfm hx hle fun h' hle => zbj (hq h' hle))
theorem apartK_spec {b : BagK} {k es fp fa : Nat} (hk : k < 23) (hf : ∀ i, b.full i = false → i ≠ k) (hone : ∀ Lk : LK, bagOb b (fun i => if i = k then Lk else []) 0 23 = Lk.map (obK es)) (hlim : 100000000 ≤ b.lim k) (s1 : PutSpec C k fp) (s3 : ApartK C b fa)
  {t : LL} {h0 h : zb} {Q : AVal → zb → Prop} (ht : t.ok h0) (ho : Owns h0 h (t.obs es)) (hq : ∀ h', h0.le h' → Q (.bool true) h') : zso C fp fa t.x h Q := by
 have hn := ht.n_le
 try simp -dsimp [zso]
 intro id hid
 refine zd.intro (fun n vs hh => ∃ j : Nat, j + n = t.n ∧ vs = [.int .i64 j] ∧ zrr h hh id (upf (fun _ => []) k ((List.range j).map t.xs))) t.n ?_ ⟨0, by simp, by simp, by
  have := zrr.start hid
  rw [show upf (fun _ => ([] : List AVal)) k ((List.range 0).map t.xs) = fun _ => [] from zp3 ..]
  exact this⟩
 rintro Y n vs hh ⟨j, hj, rfl, hb⟩ hY
 have hx := ht.is.mono (zb.le_trans ho.le hb.le)
 simp -dsimp [zo6 hx]
 refine B.zn (fun h1 => ?_) (fun h1 => ?_) <;> simp at h1
 ·have hc : (t.xs j).zd1 = true := (ho.slAt j (Objs.get h1)).zd1
  simp -dsimp [zis hx h1, zok hx h1]
  refine s1 h hh id _ _ _ hb hc (by rw [zfs]; simp; omega) fun h' hb' => ?_
  simp -dsimp [zhw (n := j) (by omega)]
  refine hY (n - 1) _ _ (by omega) ⟨j + 1, by omega, by simp, ?_⟩
  rw [zfs, upf_upf] at hb'
  rw [List.range_succ, List.map_append]; exact hb'
 ·have : j = t.n := by omega
  subst this
  let Lk : LK := (List.range t.n).map fun j => (t.xs j, t.D j)
  have hc : Owns h0 h (Lk.map (obK es)) := by
   have ho' : Owns h0 h (Objs es t.n t.xs t.D t.R ++ []) := by rw [List.append_nil]; exact ho
   have := ho'.cutR
   rw [List.append_nil] at this
   have e : Objs es t.n t.xs t.D (fun _ => []) = Lk.map (obK es) := by
    show (List.range t.n).map _ = ((List.range t.n).map _).map _
    rw [List.map_map]; rfl
   rw [← e]; exact this
  obtain ⟨xs, ob⟩ := hb
  rw [← hone] at hc
  obtain ⟨q1, q2⟩ := ((hc.join ob).perm List.perm_append_comm).out
  obtain ⟨id', e, hbx⟩ := q1.zrq 23 Objs.getL
  cases e
  refine s3 id (fun i => if i = k then Lk else []) xs _ hh Q ⟨hbx, fun i hi => ?_, fun i hi hfi => ?_, fun i hi => ?_, fun i hi q hq => ?_⟩ q2 fun h' hle => hq h' (zb.le_trans q1.le hle)
  ·have := q1.slAt i (Objs.getA hi)
   have e : (upf (fun _ => ([] : List AVal)) k ((List.range t.n).map t.xs) i).map sing = ((fun i => if i = k then Lk else []) i : LK).map fun q => [q.1] := by
    show (if i = k then (List.range t.n).map t.xs else []).map sing = (if i = k then Lk else []).map fun q => [q.1]
    split
    ·rw [List.map_map]
     show _ = ((List.range t.n).map _).map _
     rw [List.map_map]; rfl
    ·rfl
   rw [e] at this; exact this
  ·have := hf i hfi
   show (if i = k then Lk else []) = []
   rw [if_neg this]
  ·show (if i = k then Lk else []).length ≤ _
   split
   ·show ((List.range t.n).map _).length ≤ _
    rw [List.length_map, List.length_range]; omega
   ·simp
  ·have hq : q ∈ (if i = k then Lk else []) := hq
   by_cases e : i = k
   ·rw [if_pos e] at hq
    obtain ⟨j, hj, rfl⟩ := List.mem_map.1 hq
    have := ht.zr5 j (by simpa using hj)
    rw [e]
    show (t.D j).length ≤ _
    omega
   ·rw [if_neg e] at hq; cases hq
def bagTx : BagK := ⟨fun _ => 1, fun _ => 100000000, fun i => decide (i = 3)⟩
theorem zd2.spl (i : zd2.Imp C N) (f0 : zdq C (N 80)) (f1 : zdq C (N 81)) (f2 : zdq C (N 82)) (s3 : zle C 1 (N 83)) (i4 : zet.Imp C N) (i5 : zz.Imp C N) (i6 : zbt.Imp C N) (i7 : zbf.Imp C N) (i8 : zbs.Imp C N) (i9 : zbg.Imp C N) (f10 : zdq C (N 90)) (i11 : zbh.Imp C N) (f12 : zdq C (N 92)) (f13 : zdq C (N 93)) (f14 : zdq C (N 94)) (f15 : zdq C (N 95)) (f16 : zdq C (N 96)) (f17 : zdq C (N 97)) (f18 : zdq C (N 98)) (f19 : zdq C (N 99)) (f20 : zdq C (N 100)) (f21 : zdq C (N 101)) (f22 : zdq C (N 102)) : ApartK C bagTx (N 62) := by
 have z : ∀ {j g : Nat}, bagTx.full j = false → zdq C g → zf2 C bagTx j g := fun h s => ⟨fun e => (by rw [h] at e; cases e), fun _ => s⟩
 exact bag_apartK i bagTx (z rfl f0) (z rfl f1) (z rfl f2) ⟨fun _ t h0 h Q ht ho hq => s3 t h0 h Q ⟨ht.is, ht.n_le, ht.zr5⟩ ho hq, fun e => (by cases e)⟩ (z rfl (zj9 i4)) (z rfl (zj9 i5)) (z rfl (zj9 i6)) (z rfl (zj9 i7)) (z rfl (zj9 i8)) (z rfl (zj9 i9)) (z rfl f10) (z rfl (zj9 i11)) (z rfl f12) (z rfl f13) (z rfl f14) (z rfl f15) (z rfl f16) (z rfl f17) (z rfl f18) (z rfl f19) (z rfl f20) (z rfl f21) (z rfl f22)
theorem one3 (Lk : LK) : bagOb bagTx (fun i => if i = 3 then Lk else []) 0 23 = Lk.map (obK 1) := by
 have : List.range' 0 23 = [0, 1, 2, 3, 4, 5, 6, 7, 8, 9, 10, 11, 12, 13, 14, 15, 16, 17, 18, 19, 20, 21, 22] := rfl
 unfold bagOb
 rw [this]
 simp [bagTx]
theorem zdh.spec (i : zdh.Imp C N) : PutSpec C 3 (N 405) := fun h hh id B y Q hb hy hl hq => i _ _ hh Q (putG_spec (k := 3) (by omega) hb hy hl fun h' hb' => zbj (hq h' hb'))
theorem zcx.spec (i : zcx.Imp C N) (s1 : PutSpec C 3 (N 405)) (s2 : ApartK C bagTx (N 62)) : zle C 1 (N 396) := fun t h0 h Q ht ho hq => i t.x h Q (apartK_spec (k := 3) (by omega) (fun i h e => by subst e; cases h) one3 (Nat.le_refl _) s1 s2 ht ho fun h' hle => zbj (hq h' hle))
theorem Owns.lit2L {h0 h : zb} {l : List Ob} (ho : Owns h0 h l) {x y : AVal} {id : Nat} (hid : h id = none) : Owns h0 (upd h id (zej [x, y])) (l ++ [.sl 1 (.sl id 0 0 2 1 2) [[x], [y]] []]) :=
 ho.newSl hid (by simp) rfl (by simp) rfl
def twoL (α : Type) (a b : α) : Nat → α := fun j => if j = 0 then a else b
theorem Objs_twoL {es : Nat} {a b : AVal} {A B' R1 R2 : List (List AVal)} : Objs es 2 (twoL _ a b) (twoL _ A B') (twoL _ R1 R2) = [.sl es a A R1, .sl es b B' R2] := rfl
end Go.Ab
set_option maxRecDepth 100000
namespace Go.Ab
variable {C : CSem} {N : Nat → Nat}
def two {α : Type} (a b : α) : Nat → α := fun j => if j = 0 then a else b
end Go.Ab
set_option maxRecDepth 100000
namespace Go.Ab
variable {C : CSem} {N : Nat → Nat}
theorem litO {h : zb} {es n : Nat} {cs : List AVal} (L : List (List AVal)) {K : Nat → zb → Prop} (hc : cs = L.flatten) (hL : ∀ p ∈ L, p.length = es) (hn : n = L.length) (hK : ∀ i h', Owns h h' [.sl es (.sl i 0 0 n es n) L []] → K i h') : B.newO h (some cs) K :=
 fun i hi => hK i _ ((Owns.start h).newSl hi (by simpa using hL) hn (by simp; omega) (by simpa using hc))
def itemW : DK Itm (AVal × AVal) where
 n := 4
 bytes := 72
 z := [.str [], .int .i64 0, .nils, .nils]
 pos := by omega
 small := by omega
 zlen := rfl
 cells t a := [.str t.Code, .int .i64 t.Life, a.1, a.2]
 len _ _ := rfl
 at_ h t a := (∃ R, SlX h 2 a.1 (t.zb6.map Part.cs) R) ∧ (∃ R, SlX h 1 a.2 (t.zbz.map tc) R)
 mono hle ha := ⟨ha.1.imp fun _ r => r.mono hle, ha.2.imp fun _ r => r.mono hle⟩
 ok _ := True
 at_ok _ := trivial
 obs b t a := [zoc b a.1 t.zb6, zn4 b a.2 t.zbz]
 ofObs {b h t a} _ ha := ⟨⟨_, show SlX h 2 a.1 (t.zb6.map Part.cs) (bif b then zir else []) from ha (zoc b a.1 t.zb6) (by simp)⟩, ⟨_, show SlX h 1 a.2 (t.zbz.map tc) (bif b then zhs else []) from ha (zn4 b a.2 t.zbz) (by simp)⟩⟩
theorem itemW_K {h : zb} {x : AVal} {L : List Itm} (hx : Dl itemW h x L) (hok : ∀ t ∈ L, t.ok) : Dl zd5 h x L := by
 obtain ⟨P, R, rfl, s, ha⟩ := hx
 exact ⟨P, R, rfl, s, fun p hp => ⟨(ha p hp).1, (ha p hp).2, hok p.1 (List.mem_map_of_mem hp)⟩⟩
def Itm.inLen (t : Itm) : Prop := t.Code.length < 4611686018427387904 ∧ (∀ p ∈ t.zb6, p.Item.length < 4611686018427387904) ∧ (∀ o ∈ t.zbz, o.length < 4611686018427387904) ∧ t.zb6.length < 100000000000000000 ∧ t.zbz.length < 100000000000000000
end Go.Ab
