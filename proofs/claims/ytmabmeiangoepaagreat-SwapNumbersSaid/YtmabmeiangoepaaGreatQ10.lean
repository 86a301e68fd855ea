/- What is proved: a part of the way to the statement: Claw08. No conditions. -/
import Derived.Test.YtmabmeiangoepaaGreatQ9
import Derived.Test.YtmabmeiangoepaaGreatQ6
set_option linter.unusedVariables false
set_option linter.unusedSimpArgs false
set_option maxRecDepth 100000
namespace Go.Ab
variable {C : CSem} {N : Nat → Nat}
theorem itm_getW {h : zb} {x : AVal} {L : List Itm} (hx : Dl itemW h x L) {i : Nat} {r : Itm} (hr : L[i]? = some r) : ∃ p o, V.idxS 4 x (.int .i64 (i : Int)) = some (elp 4 x i 0) ∧ V.fieldAddr 0 (elp 4 x i 0) = some (elp 4 x i 0) ∧
  V.fieldAddr 2 (elp 4 x i 0) = some (elp 4 x i 2) ∧ V.fieldAddr 3 (elp 4 x i 0) = some (elp 4 x i 3) ∧ A.ldv h (elp 4 x i 0) = some (.str r.Code) ∧ A.ldv h (elp 4 x i 2) = some p ∧ A.ldv h (elp 4 x i 3) = some o ∧
  (∃ R, SlX h 2 p (r.zb6.map Part.cs) R) ∧ V.zw p = some (.int .i64 (r.zb6.length : Int)) ∧ (∃ R, SlX h 1 o (r.zbz.map tc) R) ∧ V.zw o = some (.int .i64 (r.zbz.length : Int)) := by
 obtain ⟨a, ea⟩ := hx.get hr
 obtain ⟨⟨R1, a1⟩, ⟨R2, a2⟩⟩ : (∃ R, SlX h 2 a.1 (r.zb6.map Part.cs) R) ∧ (∃ R, SlX h 1 a.2 (r.zbz.map tc) R) := ea.at_
 exact ⟨a.1, a.2, ea.idx, ea.fld 0 0, ea.fld 0 2, ea.fld 0 3, ea.ld 0 (by decide), ea.ld 2 (by decide), ea.ld 3 (by decide), ⟨R1, a1⟩, by simpa using a1.zw, ⟨R2, a2⟩, by simpa using a2.zw⟩
def z7.Spec (C : CSem) (N : Nat → Nat) : Prop := ∀ (x : AVal) (L : List Itm) (h : zb) (Q : AVal → zb → Prop), Dl itemW h x L → L.length < 4611686018427387904 → (∀ t ∈ L, t.inLen) →
 (∀ b : Bool, (b = false → L.length ≤ 70 ∧ ∀ t ∈ L, t.zb6.length ≤ 4000 ∧ t.zbz.length ≤ 4000) → Q (.bool b) h) → C (N 357) [x] h Q
theorem quo20 {a : Nat} (h : a < 4611686018427387904) : V.bin .quo (.int .i64 (a : Int)) (.int .i64 20) = some (.int .i64 ((a / 20 : Nat) : Int)) := by
 rw [V.zot _ _ _ (by omega), show (a : Int).tdiv 20 = ((a / 20 : Nat) : Int) from rfl, wrap_i64 (by omega) (by omega)]
theorem z7.spec (i : z7.Imp C N) : z7.Spec C N := by
 intro x L h Q hx hlen hin hq
 apply i
 refine zd.intro (fun t vs hh => hh = h ∧ ∃ k n : Nat, k + t = L.length ∧ vs = [.int .i64 (n : Int), .int .i64 (k : Int)] ∧ n < 1000000000000000000 ∧ (n ≤ 4000 → ∀ t ∈ L.take k, t.zb6.length ≤ 4000 ∧ t.zbz.length ≤ 4000)) L.length ?_ ⟨rfl, 0, 0, by omega, rfl, by omega, fun _ t h => (by simp at h)⟩
 rintro Y t vs h ⟨rfl, k, n, ht, rfl, hn, hall⟩ hY
 have hend : (4000 < n ∨ k = L.length) → z7.k1 C N (dn Q) x (.int .i64 (n : Int)) h := fun hor => by
  simp -dsimp only [z7.k1, V.zou, B.zg]
  by_cases h4 : 4000 < n
  ·have h4' : (4000 : Int) < n := by omega
   simp -dsimp [h4']
   exact zbj (hq true fun e => by cases e)
  ·have h4' : ¬ (4000 : Int) < n := by omega
   have hk : k = L.length := hor.resolve_left h4
   subst hk
   rw [List.take_length] at hall
   simp -dsimp [h4', hx.zw]
   have e7 : decide ((70 : Int) < L.length) = decide (70 < L.length) := decide_eq_decide.2 (by omega)
   first | rw [e7] | skip
   exact zbj (hq _ fun e => ⟨by simpa using e, hall (by omega)⟩)
 simp -dsimp only [z7.l8, z7.k7, hx.zw, lssN, B.zg]
 by_cases hk : k < L.length
 rotate_left
 ·have := hend (.inr (by omega))
  simp -dsimp [hk, - z7.k1]
  exact this
 by_cases h4 : n ≤ 4000
 rotate_left
 ·have h4' : ¬ (n : Int) ≤ 4000 := by omega
  have := hend (.inl (by omega))
  simp -dsimp [hk, h4', - z7.k1]
  exact this
 have h4' : (n : Int) ≤ 4000 := by omega
 obtain ⟨r, hr⟩ := zfc hk
 have hrm := List.mem_of_getElem? hr
 obtain ⟨n1, n2, n3, hpl, hol⟩ := hin r hrm
 obtain ⟨p, o, e1, e3, e4, e5, e6, e7, e8, ⟨R1, a1⟩, el1, ⟨R2, a2⟩, el2⟩ := itm_getW hx hr
 have hk1 := add1 (show k < 4611686018427387904 by omega)
 have b1 : V.bin .add (.int .i64 (n : Int)) (.int .i64 1) = some (.int .i64 ((n + 1 : Nat) : Int)) := add1 (by omega)
 have b2 := zke (a := n + 1) (b := r.Code.length / 20) (by omega)
 have b3 := zke (a := n + 1 + r.Code.length / 20) (b := r.zb6.length) (by omega)
 have b4 := zke (a := n + 1 + r.Code.length / 20 + r.zb6.length) (b := r.zbz.length) (by omega)
 have lc : V.zht (.str r.Code) = some (.int .i64 (r.Code.length : Int)) := rfl
 simp -dsimp [hk, h4', - z7.k1, - z7.k6]
 simp -dsimp only [z7.k6, B.zg9, B.zg, e1, e3, e4, e5, e6, e7, e8, el1, el2, lc, quo20 n1, b1, b2, b3, b4]
 refine zd.intro (fun t vs h2 => h2 = h ∧ ∃ q m : Nat, q + t = r.zb6.length ∧ vs = [.int .i64 (m : Int), .int .i64 (q : Int)] ∧ m < 1000000000000000000 ∧ n + 1 + r.Code.length / 20 + r.zb6.length + r.zbz.length ≤ m) r.zb6.length ?_ ⟨rfl, 0, _, by omega, rfl, by omega, Nat.le_refl _⟩
 rintro Z t2 vs h2 ⟨rfl, q, m, ht2, rfl, hm, hle⟩ hZ
 simp -dsimp only [z7.l5, z7.k4, e1, e4, B.zg9, e7, el1, lssN, B.zg]
 have hnext : zd (z7.l3 C N (dn Q) Y x (.int .i64 (k : Int))) [.int .i64 (m : Int), .int .i64 0] h2 := by
  refine zd.intro (fun t vs h3 => h3 = h2 ∧ ∃ q m2 : Nat, q + t = r.zbz.length ∧ vs = [.int .i64 (m2 : Int), .int .i64 (q : Int)] ∧ m2 < 1000000000000000000 ∧ m ≤ m2) r.zbz.length ?_ ⟨rfl, 0, m, by omega, rfl, hm, Nat.le_refl _⟩
  rintro W t3 vs h3 ⟨rfl, q, m2, ht3, rfl, hm2, hle2⟩ hW
  simp -dsimp only [z7.l3, z7.k2, e1, e5, B.zg9, e8, el2, lssN, B.zg]
  have hout : Y [.int .i64 (m2 : Int), .int .i64 ((k + 1 : Nat) : Int)] h3 := hY (t - 1) _ _ (by omega) ⟨rfl, k + 1, m2, by omega, rfl, hm2, fun h4k y hy => by
   rw [List.take_add_one, hr, List.mem_append] at hy
   rcases hy with hy | hy
   ·exact hall h4 y hy
   ·have : y = r := by simpa using hy
    rw [this]; omega⟩
  by_cases hq1 : q < r.zbz.length
  rotate_left
  ·simp -dsimp [hq1, hk1, - V.zdi]
   exact hout
  by_cases hq2 : m2 ≤ 4000
  rotate_left
  ·have : ¬ (m2 : Int) ≤ 4000 := by omega
   simp -dsimp [hq1, this, hk1, - V.zdi]
   exact hout
  have hq2' : (m2 : Int) ≤ 4000 := by omega
  have hg : (r.zbz.map tc)[q]? = some (tc r.zbz[q]) := by rw [List.getElem?_map, List.getElem?_eq_getElem hq1]; rfl
  have hidx : V.idxS 1 o (.int .i64 (q : Int)) = some (elp 1 o q 0) := a2.idxN (by simpa using hq1)
  have hcell : A.ldv h3 (elp 1 o q 0) = some (.str r.zbz[q]) := a2.cell hg
  have n4 := n3 _ (List.getElem_mem hq1)
  have lo : V.zht (.str r.zbz[q]) = some (.int .i64 (r.zbz[q].length : Int)) := rfl
  have b5 := zke (a := m2) (b := r.zbz[q].length / 20) (by omega)
  simp -dsimp [hq1, hq2', - V.zdi, - V.zot]
  simp -dsimp only [e1, e5, e8, hidx, hcell, lo, quo20 n4, b5, add1 (show q < 4611686018427387904 by omega), B.zg9, B.zg]
  exact hW (t3 - 1) _ _ (by omega) ⟨rfl, q + 1, _, by omega, rfl, by omega, by omega⟩
 by_cases hq1 : q < r.zb6.length
 rotate_left
 ·simp -dsimp [hq1, - z7.l3]
  exact hnext
 by_cases hq2 : m ≤ 4000
 rotate_left
 ·have : ¬ (m : Int) ≤ 4000 := by omega
  simp -dsimp [hq1, this, - z7.l3]
  exact hnext
 have hq2' : (m : Int) ≤ 4000 := by omega
 have hg : (r.zb6.map Part.cs)[q]? = some r.zb6[q].cs := by rw [List.getElem?_map, List.getElem?_eq_getElem hq1]; rfl
 have hl : q < (r.zb6.map Part.cs).length := by simpa using hq1
 have g1 : V.idxS 2 p (.int .i64 (q : Int)) = some (elp 2 p q 0) := a1.idxN hl
 have g2 : V.fieldAddr 0 (elp 2 p q 0) = some (elp 2 p q 0) := a1.zl2 hl 0 0
 have g3 : A.ldv h2 (elp 2 p q 0) = some (.str r.zb6[q].Item) := a1.ldv hg (by decide)
 have n4 := n2 _ (List.getElem_mem hq1)
 have lo : V.zht (.str r.zb6[q].Item) = some (.int .i64 (r.zb6[q].Item.length : Int)) := rfl
 have b5 := zke (a := m) (b := r.zb6[q].Item.length / 20) (by omega)
 simp -dsimp [hq1, hq2', - V.zdi, - V.zot]
 simp -dsimp only [e1, e4, e7, g1, g2, g3, lo, quo20 n4, b5, add1 (show q < 4611686018427387904 by omega), B.zg9, B.zg]
 exact hZ (t2 - 1) _ _ (by omega) ⟨rfl, q + 1, _, by omega, rfl, by omega, by omega⟩
def zh1 (o : AVal) (l : List (List UInt8)) : List (Itm × AVal × AVal) := [(⟨[65], 1, [], l⟩, .nils, o), (⟨[66], 1, [], []⟩, .nils, .nils), (⟨[67], 1, [], []⟩, .nils, .nils)]
def zeq (l : List (List UInt8)) : List Itm := [⟨[65], 1, [], l⟩, ⟨[66], 1, [], []⟩, ⟨[67], 1, [], []⟩]
theorem zp5 {h : zb} {o : AVal} {l : List (List UInt8)} {R : List (List AVal)} (ho : SlX h 1 o (l.map tc) R) (hl : l.length ≤ few) : ∀ p ∈ zh1 o l, zd5.at_ h p.1 p.2 := by
 intro p hp
 have hz : ∀ t : Itm, t.zb6 = [] → t.zbz = [] → zd5.at_ h t (.nils, .nils) := fun t e1 e2 =>
  ⟨⟨[], by rw [e1]; exact SlX.nils h 2⟩, ⟨[], by rw [e2]; exact SlX.nils h 1⟩, by rw [e1]; simp [few], by rw [e2]; simp [few]⟩
 simp only [zh1, List.mem_cons, List.not_mem_nil, or_false] at hp
 rcases hp with rfl | rfl | rfl
 ·exact ⟨⟨[], SlX.nils h 2⟩, ⟨R, ho⟩, by simp [few], hl⟩
 ·exact hz _ rfl rfl
 ·exact hz _ rfl rfl
def zd0.Spec (C : CSem) (N : Nat → Nat) : Prop := ∀ (o : AVal) (l : List (List UInt8)) (R : List (List AVal)) (h : zb) (Q : AVal → zb → Prop), SlX h 1 o (l.map tc) R →
 (∀ i h', Owns h h' [.sl 4 (.sl i 0 0 3 4 3) ((zh1 o l).map zd5.cs) []] → Q (.sl i 0 0 3 4 3) h') → C (N 360) [o] h Q
theorem zd0.spec (i : zd0.Imp C N) : zd0.Spec C N := by
 intro o l R h Q ho hq
 apply i
 simp -dsimp [ho.zd1, repL]
 exact litO (n := 3) (es := 4) ((zh1 o l).map zd5.cs) rfl (fun p hp => by obtain ⟨q, _, rfl⟩ := List.mem_map.1 hp; rfl) rfl fun i h' o1 => zbj (hq i h' o1)
theorem zi3 {h : zb} {x o : AVal} {l : List (List UInt8)} {R R2 : List (List AVal)} (hx : SlX h 4 x ((zh1 o l).map zd5.cs) R2) (ho : SlX h 1 o (l.map tc) R) (hl : l.length ≤ few) : Dl zd5 h x (zeq l) :=
 ⟨zh1 o l, R2, rfl, hx, zp5 ho hl⟩
theorem three_row : zgr (zeq [[67], [66]]) [65] = [[65], [67], [66]] := by decide
theorem three_none : zgr (zeq []) [90] = [] := by decide
theorem three_ok : zem (zeq [[67], [66]]) = 0 := by decide +kernel
theorem zrt : zem (zeq [[65]]) = 4 := by decide +kernel
theorem three_away : zem (zeq [[90]]) = 150 := by decide +kernel
theorem litT {h : zb} (L : List (List UInt8)) {cs : List AVal} {n : Nat} {K : Nat → zb → Prop} (hc : cs = (L.map tc).flatten) (hn : n = L.length) (hK : ∀ i h', Owns h h' [.sl 1 (.sl i 0 0 n 1 n) (L.map tc) []] → K i h') : B.newO h (some cs) K :=
 litO (L.map tc) hc (by intro p hp; obtain ⟨_, _, rfl⟩ := List.mem_map.1 hp; rfl) (by simpa using hn) hK
def zd4.Spec (C : CSem) (N : Nat → Nat) : Prop := ∀ (h : zb) (Q : AVal → zb → Prop), Q (.bool true) h → C (N 358) [] h Q
theorem zd4.spec (i : zd4.Imp C N) (s1 : zd0.Spec C N) (s2 : zez.Spec C N) (s3 : zc8.Spec C N) (s4 : zb0.Spec C N) : zd4.Spec C N := by
 intro h Q hq
 apply i
 simp -dsimp [repL]
 refine litT (n := 2) [[67], [66]] rfl rfl fun i1 h1 o1 => ?_
 refine s1 _ _ _ _ _ (o1.slAt 0 rfl) fun i2 h2 o2 => ?_
 have d2 := zi3 (o2.slAt 0 rfl) ((o1.slAt 0 rfl).mono o2.le) (by simp [few])
 refine s2 _ _ _ _ _ d2 (by simp [zeq]) (by simp [zeq]) fun x3 R3 h3 o3 => ?_
 rw [three_row] at o3
 simp -dsimp [repL]
 refine litT (n := 3) [[65], [67], [66]] rfl rfl fun i4 h4 o4 => ?_
 refine s3 _ _ _ _ _ _ _ _ ((o3.slAt 0 rfl).mono o4.le) (o4.slAt 0 rfl) (by simp) ?_
 simp -dsimp
 refine s1 _ [] [] _ _ (SlX.nils _ 1) fun i5 h5 o5 => ?_
 have d5 := zi3 (l := []) (R := []) (o5.slAt 0 rfl) (SlX.nils _ 1) (by simp [few])
 simp -dsimp
 refine s2 _ _ _ _ _ d5 (by simp [zeq]) (by simp [zeq]) fun x6 R6 h6 o6 => ?_
 rw [three_none] at o6
 have l6 : V.zw x6 = some (.int .i64 0) := (o6.slAt 0 rfl).zw
 simp -dsimp [l6, repL]
 refine litT (n := 2) [[67], [66]] rfl rfl fun i7 h7 o7 => ?_
 simp -dsimp
 refine s1 _ _ _ _ _ (o7.slAt 0 rfl) fun i8 h8 o8 => ?_
 have d8 := zi3 (o8.slAt 0 rfl) ((o7.slAt 0 rfl).mono o8.le) (by simp [few])
 simp -dsimp
 refine s4 _ _ _ _ d8 (by simp [zeq]) (by simp [zeq]) ?_
 rw [three_ok]
 simp -dsimp [repL]
 refine litT (n := 1) [[65]] rfl rfl fun i9 h9 o9 => ?_
 simp -dsimp
 refine s1 _ _ _ _ _ (o9.slAt 0 rfl) fun j1 g1 p1 => ?_
 have d9 := zi3 (p1.slAt 0 rfl) ((o9.slAt 0 rfl).mono p1.le) (by simp [few])
 simp -dsimp
 refine s4 _ _ _ _ d9 (by simp [zeq]) (by simp [zeq]) ?_
 rw [zrt]
 simp -dsimp [repL]
 refine litT (n := 1) [[90]] rfl rfl fun j2 g2 p2 => ?_
 simp -dsimp
 refine s1 _ _ _ _ _ (p2.slAt 0 rfl) fun j3 g3 p3 => ?_
 have d10 := zi3 (p3.slAt 0 rfl) ((p2.slAt 0 rfl).mono p3.le) (by simp [few])
 simp -dsimp
 refine s4 _ _ _ _ d10 (by simp [zeq]) (by simp [zeq]) ?_
 rw [three_away]
 simp -dsimp
 exact zkb (zb.le_trans o1.le (zb.le_trans o2.le (zb.le_trans o3.le (zb.le_trans o4.le (zb.le_trans o5.le (zb.le_trans o6.le (zb.le_trans o7.le (zb.le_trans o8.le (zb.le_trans o9.le (zb.le_trans p1.le (zb.le_trans p2.le p3.le))))))))))) hq
theorem swapRow_len {L : List Itm} {c : List UInt8} {k : Nat} (h : ∀ t ∈ L, t.zbz.length ≤ k) : (zgr L c).length ≤ k + 1 := by
 unfold zgr
 cases e : zg3 L c with
 | none => simp
 | some x => have := h x (zj6 e).1; simp; omega
def zcu.Spec (C : CSem) (N : Nat → Nat) : Prop := ∀ (x : AVal) (L : List Itm) (c : List UInt8) (h : zb) (Q : AVal → zb → Prop), Dl itemW h x L → L.length < 4611686018427387904 → (∀ t ∈ L, t.inLen) → Q (.bool true) h → C (N 397) [x, .str c] h Q
theorem zcu.spec (i : zcu.Imp C N) (s1 : zd4.Spec C N) (s2 : z7.Spec C N) (s3 : zca.Spec C N) (s4 : zb0.Spec C N) (s5 : zez.Spec C N) (s6 : zck.Spec C N) (s7 : zcd.Spec C N)
  (s8 : zbx.Spec C N) (s9 : zer.Spec C N) (s10 : zc8.Spec C N) (s11 : zle C 1 (N 396)) : zcu.Spec C N := by
 intro x L c h Q hx hlen hin hq
 apply i
 have lc : V.zht (.str c) = some (.int .i64 (c.length : Int)) := rfl
 simp -dsimp only [zcu.cps, zcu.k1]
 refine s2 _ _ _ _ hx hlen hin fun bg hbg => ?_
 cases bg with
 | true =>
  simp -dsimp
  exact s1 _ _ (zbj hq)
 | false =>
  obtain ⟨hl, hsz⟩ := hbg rfl
  have hx := itemW_K hx fun t ht => by have := hsz t ht; unfold Itm.ok few; omega
  simp -dsimp [lc]
  refine B.zn (fun hb => ?_) (fun hb => ?_)
  ·exact s1 _ _ (zbj hq)
  refine s3 _ _ _ _ hx (by omega) fun x1 P PM h1 e1 e2 o1 => ?_
  have hok1 : ∀ p ∈ P, zd5.ok p.1 := fun p hp => hx.ok _ (by rw [← e1]; exact List.mem_map_of_mem hp)
  have z1 : zrf zd5 zi9 h1 x1 L := zrf.of zqt hx.ok e1 e2 o1
  have y1 : Dl zd5 h1 x1 L := z1.dl
  have hof : ∀ t ∈ L, t.zbz.length ≤ 10000000 := fun t ht => by have := hsz t ht; omega
  refine s4 _ _ _ _ y1 (by omega) hof ?_
  refine s5 _ _ _ _ _ y1 (by omega) hof fun xa Ra h2 o2 => ?_
  refine s5 _ _ _ _ _ (y1.mono o2.le) (by omega) hof fun xb Rb h3 o3 => ?_
  have o23 := o2.join o3
  refine s6 _ _ _ _ _ _ (z1.mono o23.le) (hx.mono (zb.le_trans o1.le o23.le)) (by omega) ?_
  simp -dsimp
  have oo := o1.join o23
  obtain ⟨q1, q2⟩ := (oo.perm List.perm_append_comm).out
  refine s7 _ _ _ _ _ _ q2 hok1 (by have := congrArg List.length e2; rw [List.length_map] at this; exact this) (by have := congrArg List.length e1; simp at this; omega) fun h5 le5 => ?_
  have p5 := q1.grow le5
  refine s8 _ _ _ _ (hx.mono p5.le) (by omega) ?_
  simp -dsimp
  refine s9 _ _ _ _ _ (hx.mono p5.le) (by omega) fun za Rz h6 o6 => ?_
  have p6 := p5.grow o6.le
  have hrl := swapRow_len (c := c) (fun t ht => (hsz t ht).2)
  simp -dsimp
  refine s10 _ _ _ _ _ _ _ _ (p6.slAt 0 rfl) (o6.slAt 0 rfl) (by omega) ?_
  have c1 := (p6.slAt 0 rfl).zd1
  have c2 := (p6.slAt 1 rfl).zd1
  simp -dsimp [c1, c2, repL]
  intro id hid
  have p9 := p6.lit2L (x := xa) (y := xb) hid
  obtain ⟨q3, q4⟩ := (p9.perm List.perm_append_comm).out
  try simp -dsimp
  refine s11 ⟨.sl id 0 0 2 1 2, 2, twoL _ xa xb, twoL _ ((zgr L c).map tc) ((zgr L c).map tc), twoL _ Ra Rb, []⟩ _ _ _ ⟨q3.slAt 0 rfl, by simp, fun j hj => by simp only [twoL]; (repeat' split) <;> simp only [List.length_map] <;> omega⟩ (by simp only [LL.obs]; rw [Objs_twoL]; exact q4) fun h10 le10 => ?_
  simp -dsimp
  refine s1 _ _ ?_
  simp -dsimp
  exact zkb (zb.le_trans q3.le le10) hq
end Go.Ab
set_option maxRecDepth 100000
namespace Go.Ab
variable {C : CSem} {N : Nat → Nat}
def sixP (o : AVal) (l : List (List UInt8)) : List (Itm × AVal × AVal) := [(⟨[65], 1, [], []⟩, .nils, .nils), (⟨[66], 1, [], []⟩, .nils, .nils), (⟨[67], 1, [], []⟩, .nils, .nils), (⟨[68], 1, [], []⟩, .nils, .nils), (⟨[69], 1, [], []⟩, .nils, .nils), (⟨[70], 1, [], l⟩, .nils, o)]
def sixL (l : List (List UInt8)) : List Itm := [⟨[65], 1, [], []⟩, ⟨[66], 1, [], []⟩, ⟨[67], 1, [], []⟩, ⟨[68], 1, [], []⟩, ⟨[69], 1, [], []⟩, ⟨[70], 1, [], l⟩]
theorem zov {h : zb} (c : List UInt8) (n : Int) : zd5.at_ h ⟨c, n, [], []⟩ (.nils, .nils) := ⟨⟨[], SlX.nils h 2⟩, ⟨[], SlX.nils h 1⟩, by simp [few], by simp [few]⟩
theorem othr_at {h : zb} (c : List UInt8) (n : Int) {o : AVal} {l : List (List UInt8)} {R : List (List AVal)} (ho : SlX h 1 o (l.map tc) R) (hl : l.length ≤ few) : zd5.at_ h ⟨c, n, [], l⟩ (.nils, o) := ⟨⟨[], SlX.nils h 2⟩, ⟨R, ho⟩, by simp [few], hl⟩
theorem six_dl {h : zb} {x o : AVal} {l : List (List UInt8)} {R R2 : List (List AVal)} (hx : SlX h 4 x ((sixP o l).map zd5.cs) R2) (ho : SlX h 1 o (l.map tc) R) (hl : l.length ≤ few) : Dl zd5 h x (sixL l) := ⟨sixP o l, R2, rfl, hx, fun p hp => by
 simp only [sixP, List.mem_cons, List.not_mem_nil, or_false] at hp
 rcases hp with rfl | rfl | rfl | rfl | rfl | rfl
 ·exact zov _ _
 ·exact zov _ _
 ·exact zov _ _
 ·exact zov _ _
 ·exact zov _ _
 ·exact othr_at _ _ ho hl⟩
theorem itemK_W {h : zb} {x : AVal} {L : List Itm} (hx : Dl zd5 h x L) : Dl itemW h x L := by
 obtain ⟨P, R, rfl, s, ha⟩ := hx
 exact ⟨P, R, rfl, s, fun p hp => ⟨(ha p hp).1, (ha p hp).2.1⟩⟩
theorem six_ok : zem (sixL [[65], [66], [67], [68]]) = 0 := by decide +kernel
theorem six_many : zem (sixL [[65], [66], [67], [68], [69]]) = 4 := by decide +kernel
theorem in_of {L : List Itm} (h : (L.all fun t => decide (t.Code.length < 1000) && ((t.zb6.all fun p => decide (p.Item.length < 1000)) && ((t.zbz.all fun o => decide (o.length < 1000)) && (decide (t.zb6.length < 1000) && decide (t.zbz.length < 1000))))) = true) : ∀ t ∈ L, t.inLen := fun t ht => by
 have := List.all_eq_true.1 h t ht
 simp only [Bool.and_eq_true, decide_eq_true_eq, List.all_eq_true] at this
 obtain ⟨a, b, c, d, e⟩ := this
 exact ⟨by omega, fun p hp => by have := b p hp; omega, fun o ho => by have := c o ho; omega, by omega, by omega⟩
theorem both_bad : zem [⟨[65], 1, [], [[90]]⟩, ⟨[66], 1, [], [[66]]⟩, ⟨[67], 1, [], []⟩] = 4 := by decide +kernel
theorem twice_bad : zem (zeq [[67]] ++ zeq [[66]]) = 4 := by decide +kernel
theorem twice_row : (zgr (zeq [[67]] ++ zeq [[66]]) [65]).length = 2 := by decide +kernel
theorem three_bb : zem (zeq [[66], [66]]) = 4 := by decide +kernel
theorem three_em : zem (zeq [[]]) = 150 := by decide +kernel
theorem nil_ok : zem [] = 0 := by decide +kernel
def midP (o p : AVal) (n : Int) (l : List (List UInt8)) (ps : List Part) : List (Itm × AVal × AVal) := [(⟨[65], 1, [], l⟩, .nils, o), (⟨[66], n, ps, []⟩, p, .nils), (⟨[67], 1, [], []⟩, .nils, .nils)]
theorem midP_dl {h : zb} {x o p : AVal} {n : Int} {l : List (List UInt8)} {ps : List Part} {R R2 R3 : List (List AVal)} (hx : SlX h 4 x ((midP o p n l ps).map zd5.cs) R2) (ho : SlX h 1 o (l.map tc) R) (hp : SlX h 2 p (ps.map Part.cs) R3) (hl : l.length ≤ 10) (hps : ps.length ≤ 10) : Dl itemW h x [⟨[65], 1, [], l⟩, ⟨[66], n, ps, []⟩, ⟨[67], 1, [], []⟩] := ⟨midP o p n l ps, R2, rfl, hx, fun q hq => by
 simp only [midP, List.mem_cons, List.not_mem_nil, or_false] at hq
 rcases hq with rfl | rfl | rfl
 ·exact ⟨⟨[], SlX.nils h 2⟩, ⟨R, ho⟩⟩
 ·exact ⟨⟨R3, hp⟩, ⟨[], SlX.nils h 1⟩⟩
 ·exact ⟨⟨[], SlX.nils h 2⟩, ⟨[], SlX.nils h 1⟩⟩⟩
def zrd (l : List (List UInt8)) : Prop := l.length ≤ 10 ∧ ∀ s ∈ l, s.length < 1000
theorem mid_in {l : List (List UInt8)} (hs : zrd l) (n : Int) {ps : List Part} (hp : ps.length ≤ 10 ∧ ∀ p ∈ ps, p.Item.length < 1000) : ∀ t ∈ ([⟨[65], 1, [], l⟩, ⟨[66], n, ps, []⟩, ⟨[67], 1, [], []⟩] : List Itm), t.inLen := by
 intro t ht
 obtain ⟨s1, s2⟩ := hs
 obtain ⟨p1, p2⟩ := hp
 simp only [List.mem_cons, List.not_mem_nil, or_false] at ht
 rcases ht with rfl | rfl | rfl
 ·exact ⟨by simp, by simp, fun o ho => by have := s2 o ho; omega, by simp, by show l.length < _; omega⟩
 ·exact ⟨by simp, fun p hp => by have := p2 p hp; omega, by simp, by show ps.length < _; omega, by simp⟩
 ·exact ⟨by simp, by simp, by simp, by simp, by simp⟩
theorem numbers_round (s2 : zcu.Spec C N) (s3 : zd0.Spec C N) {x a : AVal} {k : Nat} {l : List (List UInt8)} {R : List (List AVal)} {h : zb} {Q : AVal → zb → Prop} {Y1 : List AVal → zb → Prop} (hidx : V.idxS 1 x (.int .i64 (k : Int)) = some (elp 1 x k 0)) (hcell : A.ldv h (elp 1 x k 0) = some a) (hlen : V.zw x = some (.int .i64 8)) (hk : k < 8)
  (ha : SlX h 1 a (l.map tc) R) (hs : zrd l) (hY : ∀ h', h.le h' → Y1 [.int .i64 ((k + 1 : Nat) : Int)] h') : zj.k1 C N Q Y1 x (.int .i64 (k : Int)) h := by
 have hk8 : (k : Int) < 8 := by omega
 simp -dsimp [hlen, hk8, hidx, hcell]
 refine s3 _ _ _ _ _ ha fun i1 h1 o1 => ?_
 have a1 := ha.mono o1.le
 have x1 := o1.slAt 0 rfl
 have d1 : Dl itemW h1 (.sl i1 0 0 3 4 3) (zeq l) := midP_dl (p := .nils) (n := 1) (ps := []) (R3 := []) x1 a1 (SlX.nils h1 2) hs.1 (by simp)
 have in1 : ∀ t ∈ zeq l, t.inLen := mid_in hs 1 (ps := []) ⟨by simp, by simp⟩
 refine s2 _ _ _ _ _ d1 (by simp [zeq]) in1 ?_
 simp -dsimp
 refine s2 _ _ _ _ _ d1 (by simp [zeq]) in1 ?_
 simp -dsimp
 refine s2 _ _ _ _ _ d1 (by simp [zeq]) in1 ?_
 simp -dsimp
 obtain ⟨y, e1, e2⟩ := Dl.tail (K := itemW) (show Dl itemW h1 (.sl i1 0 0 3 4 3) (⟨[65], 1, [], l⟩ :: [⟨[66], 1, [], []⟩, ⟨[67], 1, [], []⟩]) from d1)
 have e1 : V.zfe 4 (.sl i1 0 0 3 4 3) (some (.int .i64 1)) none = some y := e1
 simp -dsimp only [e1, B.zg]
 simp -dsimp
 refine s2 _ _ _ _ _ e2 (by simp) (fun t ht => in1 t (List.mem_cons_of_mem _ ht)) ?_
 simp -dsimp [repL]
 refine litO (n := 1) (es := 2) ([(⟨[67], 1⟩ : Part)].map Part.cs) rfl (by simp) rfl fun i2 h2 o2 => ?_
 have ox := o1.join o2
 have hx1 : V.idxS 4 (.sl i1 0 0 3 4 3) (.int .i64 1) = some (elp 4 (.sl i1 0 0 3 4 3) 1 0) := (ox.slAt 0 rfl).idxN (i := 1) (by simp [zh1])
 have hf2 : V.fieldAddr 2 (elp 4 (.sl i1 0 0 3 4 3) 1 0) = some (elp 4 (.sl i1 0 0 3 4 3) 1 2) := (ox.slAt 0 rfl).zl2 (i := 1) (by simp [zh1]) 0 2
 have hf1 : V.fieldAddr 1 (elp 4 (.sl i1 0 0 3 4 3) 1 0) = some (elp 4 (.sl i1 0 0 3 4 3) 1 1) := (ox.slAt 0 rfl).zl2 (i := 1) (by simp [zh1]) 0 1
 simp -dsimp only [hx1, hf2, B.zg]
 refine ox.st 0 rfl (i := 1) (f := 2) (c := zd5.cs (⟨[66], 1, [], []⟩, .nils, .nils)) rfl (by omega) rfl fun h3 o3 _ => ?_
 have o3 : Owns h h3 [.sl 4 (.sl i1 0 0 3 4 3) ((midP a (.sl i2 0 0 1 2 1) 1 l [⟨[67], 1⟩]).map zd5.cs) [], .sl 2 (.sl i2 0 0 1 2 1) ([(⟨[67], 1⟩ : Part)].map Part.cs) []] := o3
 refine s2 _ _ _ _ _ (midP_dl (o3.slAt 0 rfl) (ha.mono o3.le) (o3.slAt 1 rfl) hs.1 (by simp)) (by simp) (mid_in hs 1 ⟨by simp, by simp⟩) ?_
 simp -dsimp
 simp -dsimp only [hx1, hf1, B.zg]
 refine o3.st 0 rfl (i := 1) (f := 1) (c := zd5.cs (⟨[66], 1, [⟨[67], 1⟩], []⟩, .sl i2 0 0 1 2 1, .nils)) rfl (by omega) rfl fun h4 o4 _ => ?_
 have o4 : Owns h h4 [.sl 4 (.sl i1 0 0 3 4 3) ((midP a (.sl i2 0 0 1 2 1) 0 l [⟨[67], 1⟩]).map zd5.cs) [], .sl 2 (.sl i2 0 0 1 2 1) ([(⟨[67], 1⟩ : Part)].map Part.cs) []] := o4
 refine s2 _ _ _ _ _ (midP_dl (o4.slAt 0 rfl) (ha.mono o4.le) (o4.slAt 1 rfl) hs.1 (by simp)) (by simp) (mid_in hs 0 ⟨by simp, by simp⟩) ?_
 simp -dsimp [- V.zdi, add1 (show k < 4611686018427387904 by omega)]
 exact hY _ o4.le
def zj.Spec (C : CSem) (N : Nat → Nat) : Prop := ∀ (h : zb) (Q : AVal → zb → Prop), Q (.bool true) h → C (N 398) [] h Q
theorem zj.spec (i : zj.Imp C N) (s1 : zd4.Spec C N) (s2 : zcu.Spec C N) (s3 : zd0.Spec C N) (s4 : zb0.Spec C N) (s5 : zez.Spec C N) : zj.Spec C N := by
 intro h Q hq
 apply i
 simp -dsimp [repL, - zj.k9]
 refine litT (n := 4) [[65], [66], [67], [68]] rfl rfl fun i1 h1 o1 => ?_
 simp -dsimp [repL, - zj.k9]
 refine litO (n := 6) (es := 4) ((sixP (.sl i1 0 0 4 1 4) [[65], [66], [67], [68]]).map zd5.cs) rfl (fun p hp => by obtain ⟨q, _, rfl⟩ := List.mem_map.1 hp; rfl) rfl fun i2 h2 o2 => ?_
 have d2 := six_dl (o2.slAt 0 rfl) ((o1.slAt 0 rfl).mono o2.le) (by simp [few])
 simp -dsimp only [zj.k9]
 refine s4 _ _ _ _ d2 (by simp [sixL]) (by simp [sixL]) ?_
 rw [six_ok]
 simp -dsimp [- zj.k8]
 refine s2 _ _ _ _ _ (itemK_W d2) (by simp [sixL]) (in_of (by decide +kernel)) ?_
 simp -dsimp [- zj.k8]
 simp -dsimp [repL, - zj.k7]
 refine litT (n := 5) [[65], [66], [67], [68], [69]] rfl rfl fun i3 h3 o3 => ?_
 have ox := o2.join o3
 have hx1 : V.idxS 4 (.sl i2 0 0 6 4 6) (.int .i64 5) = some (elp 4 (.sl i2 0 0 6 4 6) 5 0) := (ox.slAt 0 rfl).idxN (i := 5) (by simp [sixP])
 have hf3 : V.fieldAddr 3 (elp 4 (.sl i2 0 0 6 4 6) 5 0) = some (elp 4 (.sl i2 0 0 6 4 6) 5 3) := (ox.slAt 0 rfl).zl2 (i := 5) (by simp [sixP]) 0 3
 simp -dsimp only [hx1, hf3, B.zg]
 refine ox.st 0 rfl (i := 5) (f := 3) (c := zd5.cs (⟨[70], 1, [], [[65], [66], [67], [68]]⟩, .nils, .sl i1 0 0 4 1 4)) rfl (by omega) rfl fun h4 o4 _ => ?_
 have o4 : Owns h1 h4 [.sl 4 (.sl i2 0 0 6 4 6) ((sixP (.sl i3 0 0 5 1 5) [[65], [66], [67], [68], [69]]).map zd5.cs) [], .sl 1 (.sl i3 0 0 5 1 5) (([[65], [66], [67], [68], [69]] : List (List UInt8)).map tc) []] := o4
 simp -dsimp [repL, - zj.k6]
 refine litT (n := 1) [[90]] rfl rfl fun i5 h5 o5 => ?_
 refine s3 _ _ _ _ _ (o5.slAt 0 rfl) fun i6 h6 o6 => ?_
 simp -dsimp [repL, - zj.k5]
 refine litT (n := 1) [[66]] rfl rfl fun i7 h7 o7 => ?_
 have oy := o6.join o7
 have hy1 : V.idxS 4 (.sl i6 0 0 3 4 3) (.int .i64 1) = some (elp 4 (.sl i6 0 0 3 4 3) 1 0) := (oy.slAt 0 rfl).idxN (i := 1) (by simp [zh1])
 have hg3 : V.fieldAddr 3 (elp 4 (.sl i6 0 0 3 4 3) 1 0) = some (elp 4 (.sl i6 0 0 3 4 3) 1 3) := (oy.slAt 0 rfl).zl2 (i := 1) (by simp [zh1]) 0 3
 simp -dsimp only [hy1, hg3, B.zg]
 refine oy.st 0 rfl (i := 1) (f := 3) (c := zd5.cs (⟨[66], 1, [], []⟩, .nils, .nils)) rfl (by omega) rfl fun h8 o8 _ => ?_
 have o8 : Owns h5 h8 [.sl 4 (.sl i6 0 0 3 4 3) (([(⟨[65], 1, [], [[90]]⟩, .nils, .sl i5 0 0 1 1 1), (⟨[66], 1, [], [[66]]⟩, .nils, .sl i7 0 0 1 1 1), (⟨[67], 1, [], []⟩, .nils, .nils)] : List (Itm × AVal × AVal)).map zd5.cs) [], .sl 1 (.sl i7 0 0 1 1 1) (([[66]] : List (List UInt8)).map tc) []] := o8
 simp -dsimp [repL, - zj.k4]
 refine litT (n := 1) [[67]] rfl rfl fun j1 g1 p1 => ?_
 refine s3 _ _ _ _ _ (p1.slAt 0 rfl) fun j2 g2 p2 => ?_
 simp -dsimp [repL, - zj.k4]
 refine litT (n := 1) [[66]] rfl rfl fun j3 g3 p3 => ?_
 refine s3 _ _ _ _ _ (p3.slAt 0 rfl) fun j4 g4 p4 => ?_
 have pG := (p2.join p3).join p4
 refine pG.appW 0 rfl (p4.slAt 0 rfl) (by omega) (by simp [zh1]) (by simp [zh1, maxLen]) fun v37 g5 p5 _ => ?_
 have p5 : Owns g1 g5 [.sl 4 v37 ((zh1 (.sl j1 0 0 1 1 1) [[67]] ++ zh1 (.sl j3 0 0 1 1 1) [[66]]).map zd5.cs) [], .sl 1 (.sl j3 0 0 1 1 1) (([[66]] : List (List UInt8)).map tc) [], .sl 4 (.sl j4 0 0 3 4 3) ((zh1 (.sl j3 0 0 1 1 1) [[66]]).map zd5.cs) []] := by
  rw [List.map_append]; exact p5
 have le5 : h4.le g5 := zb.le_trans o5.le (zb.le_trans o8.le (zb.le_trans p1.le p5.le))
 have d5 := six_dl ((o4.slAt 0 rfl).mono le5) ((o4.slAt 1 rfl).mono le5) (by simp [few])
 have l8 : h8.le g5 := zb.le_trans p1.le p5.le
 have db : Dl zd5 g5 (.sl i6 0 0 3 4 3) [⟨[65], 1, [], [[90]]⟩, ⟨[66], 1, [], [[66]]⟩, ⟨[67], 1, [], []⟩] := ⟨_, [], rfl, (o8.slAt 0 rfl).mono l8, fun q hq => by
  simp only [List.mem_cons, List.not_mem_nil, or_false] at hq
  rcases hq with rfl | rfl | rfl
  ·exact othr_at _ _ ((o5.slAt 0 rfl).mono (zb.le_trans o8.le l8)) (by simp [few])
  ·exact othr_at _ _ ((o8.slAt 1 rfl).mono l8) (by simp [few])
  ·exact zov _ _⟩
 have dt : Dl zd5 g5 v37 (zeq [[67]] ++ zeq [[66]]) := ⟨_, [], by rw [List.map_append]; rfl, p5.slAt 0 rfl, fun q hq => by
  rcases List.mem_append.1 hq with hq | hq
  ·exact zp5 ((p1.slAt 0 rfl).mono p5.le) (by simp [few]) q hq
  ·exact zp5 (l := [[66]]) (R := []) (p5.slAt 1 rfl) (by simp [few]) q hq⟩
 simp -dsimp only [zj.k4]
 refine s4 _ _ _ _ d5 (by simp [sixL]) (by simp [sixL]) ?_
 rw [six_many]
 simp -dsimp [repL, - zj.k3]
 refine litT (n := 2) [[66], [66]] rfl rfl fun k1 e1 q1 => ?_
 simp -dsimp [- zj.k3]
 refine s3 _ _ _ _ _ (q1.slAt 0 rfl) fun k2 e2 q2 => ?_
 simp -dsimp [- zj.k3]
 refine s4 _ _ _ _ (zi3 (q2.slAt 0 rfl) ((q1.slAt 0 rfl).mono q2.le) (by simp [few])) (by simp [zeq]) (by simp [zeq]) ?_
 rw [three_bb]
 simp -dsimp [repL, - zj.k3]
 refine litT (n := 1) [[65]] rfl rfl fun k3 e3 q3 => ?_
 simp -dsimp [- zj.k3]
 refine s3 _ _ _ _ _ (q3.slAt 0 rfl) fun k4 e4 q4 => ?_
 simp -dsimp [- zj.k3]
 refine s4 _ _ _ _ (zi3 (q4.slAt 0 rfl) ((q3.slAt 0 rfl).mono q4.le) (by simp [few])) (by simp [zeq]) (by simp [zeq]) ?_
 rw [zrt]
 simp -dsimp [repL, - zj.k3]
 refine litT (n := 1) [[]] rfl rfl fun k5 e5 q5 => ?_
 simp -dsimp [- zj.k3]
 refine s3 _ _ _ _ _ (q5.slAt 0 rfl) fun k6 e6 q6 => ?_
 simp -dsimp [- zj.k3]
 refine s4 _ _ _ _ (zi3 (q6.slAt 0 rfl) ((q5.slAt 0 rfl).mono q6.le) (by simp [few])) (by simp [zeq]) (by simp [zeq]) ?_
 rw [three_em]
 have l6 : g5.le e6 := zb.le_trans q1.le (zb.le_trans q2.le (zb.le_trans q3.le (zb.le_trans q4.le (zb.le_trans q5.le q6.le))))
 simp -dsimp [- zj.k3]
 refine s4 _ _ _ _ (db.mono l6) (by simp) (by simp) ?_
 rw [both_bad]
 simp -dsimp [- zj.k3]
 refine s4 _ _ _ _ (dt.mono l6) (by simp [zeq]) (by simp [zeq]) ?_
 rw [twice_bad]
 simp -dsimp [- zj.k3]
 refine s5 _ _ _ _ _ (dt.mono l6) (by simp [zeq]) (by simp [zeq]) fun x7 R7 e7 q7 => ?_
 have l7 := (q7.slAt 0 rfl).zw
 rw [List.length_map, twice_row] at l7
 have l7 : V.zw x7 = some (.int .i64 2) := l7
 simp -dsimp [l7, - zj.k3]
 refine s4 _ _ _ _ (Dl.nils zd5 e7) (by simp) (by simp) ?_
 rw [nil_ok]
 simp -dsimp [- zj.k3]
 have lall : h.le e7 := zb.le_trans o1.le (zb.le_trans o4.le (zb.le_trans le5 (zb.le_trans l6 q7.le)))
 simp -dsimp [repL]
 refine litT (n := 1) [[65]] rfl rfl fun a1 m1 r1 => ?_
 simp -dsimp [repL]
 refine litT (n := 1) [[66]] rfl rfl fun a2 m2 r2 => ?_
 simp -dsimp [repL]
 refine litT (n := 2) [[67], [66]] rfl rfl fun a3 m3 r3 => ?_
 simp -dsimp [repL]
 refine litT (n := 3) [[66], [67], [66]] rfl rfl fun a4 m4 r4 => ?_
 simp -dsimp [repL]
 refine litT (n := 1) [[90]] rfl rfl fun a5 m5 r5 => ?_
 simp -dsimp [repL]
 refine litT (n := 1) [[]] rfl rfl fun a6 m6 r6 => ?_
 simp -dsimp [repL]
 refine litT (n := 3) [[66], [90], [90]] rfl rfl fun a7 m7 r7 => ?_
 simp -dsimp [repL]
 refine litO (n := 8) (es := 1) [[.nils], [.sl a1 0 0 1 1 1], [.sl a2 0 0 1 1 1], [.sl a3 0 0 2 1 2], [.sl a4 0 0 3 1 3], [.sl a5 0 0 1 1 1], [.sl a6 0 0 1 1 1], [.sl a7 0 0 3 1 3]] rfl (by simp) rfl fun a8 m8 r8 => ?_
 have x8 := r8.slAt 0 rfl
 have hl8 : V.zw (.sl a8 0 0 8 1 8) = some (.int .i64 8) := rfl
 have lists : ∀ k, k < 8 → ∃ (a : AVal) (l : List (List UInt8)), ([[.nils], [.sl a1 0 0 1 1 1], [.sl a2 0 0 1 1 1], [.sl a3 0 0 2 1 2], [.sl a4 0 0 3 1 3], [.sl a5 0 0 1 1 1], [.sl a6 0 0 1 1 1], [.sl a7 0 0 3 1 3]] : List (List AVal))[k]? = some [a] ∧ SlX m8 1 a (l.map tc) [] ∧ zrd l := by
  have t7 : m7.le m8 := r8.le
  have t6 : m6.le m8 := zb.le_trans r7.le t7
  have t5 : m5.le m8 := zb.le_trans r6.le t6
  have t4 : m4.le m8 := zb.le_trans r5.le t5
  have t3 : m3.le m8 := zb.le_trans r4.le t4
  have t2 : m2.le m8 := zb.le_trans r3.le t3
  have t1 : m1.le m8 := zb.le_trans r2.le t2
  intro k hk
  match k, hk with
  | 0, _ => exact ⟨_, [], rfl, SlX.nils m8 1, by simp [zrd]⟩
  | 1, _ => exact ⟨_, [[65]], rfl, (r1.slAt 0 rfl).mono t1, by simp [zrd]⟩
  | 2, _ => exact ⟨_, [[66]], rfl, (r2.slAt 0 rfl).mono t2, by simp [zrd]⟩
  | 3, _ => exact ⟨_, [[67], [66]], rfl, (r3.slAt 0 rfl).mono t3, by simp [zrd]⟩
  | 4, _ => exact ⟨_, [[66], [67], [66]], rfl, (r4.slAt 0 rfl).mono t4, by simp [zrd]⟩
  | 5, _ => exact ⟨_, [[90]], rfl, (r5.slAt 0 rfl).mono t5, by simp [zrd]⟩
  | 6, _ => exact ⟨_, [[]], rfl, (r6.slAt 0 rfl).mono t6, by simp [zrd]⟩
  | 7, _ => exact ⟨_, [[66], [90], [90]], rfl, (r7.slAt 0 rfl).mono t7, by simp [zrd]⟩
 have lend : h.le m8 := zb.le_trans lall (zb.le_trans r1.le (zb.le_trans r2.le (zb.le_trans r3.le (zb.le_trans r4.le (zb.le_trans r5.le (zb.le_trans r6.le (zb.le_trans r7.le r8.le)))))))
 refine zd.intro (fun t vs hh => m8.le hh ∧ ∃ k : Nat, k + t = 8 ∧ vs = [.int .i64 (k : Int)]) 8 ?_ ⟨zb.le_refl _, 0, by omega, rfl⟩
 rintro Y t vs hh ⟨hle, k, hkt, rfl⟩ hY
 by_cases hk : k < 8
 ·obtain ⟨a, l, hg, ha, hs⟩ := lists k hk
  exact numbers_round s2 s3 (x8.idxN (by simpa using hk)) ((x8.mono hle).cell hg) hl8 hk (ha.mono hle) hs fun h' hle' => hY (t - 1) _ _ (by omega) ⟨zb.le_trans hle hle', k + 1, by omega, rfl⟩
 ·have hk8 : ¬ (k : Int) < 8 := by omega
  simp -dsimp [hl8, hk8]
  refine s1 _ _ ?_
  exact zkb (zb.le_trans lend hle) hq
end Go.Ab
