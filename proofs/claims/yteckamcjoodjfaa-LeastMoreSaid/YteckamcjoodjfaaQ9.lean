/- What is proved: a part of the way to the statement: Cleast, Crank3, Ckit2, Ckit3, Ckit4, Ckit5, Rlaw09, Claw09, Cleast2, Cleast3, Cleast4, Cleast5, Cleast6, Cleast7, Pflow2, Pflow3, Cflow5, Cref05, Cref05b, Cref05c, Pflow4, Cref05d, Cref06, Pflow5, C01e, P01, P01b, Rlaw01, C01f, C01g, C01h, Pleast, P04, Claw04c, Ctell4, Rlaw14, Claw14, Claw04z, Claw04y, Claw06, Claw06b, Claw06c, Claw06d, Rlaw05, Claw05, Claw05b, Claw05c, Claw06e, AcR3, AcR4. No conditions. -/
import Derived.Test.YteckamcjoodjfaaQ8
import Derived.Test.YteckamcjoodjfaaQ6
import Derived.Test.YteckamcjoodjfaaQ3
set_option linter.unusedVariables false
set_option linter.unusedSimpArgs false
namespace Go.Ab
variable {C : CSem} {N : Nat → Nat}
def z3.Spec (C : CSem) (N : Nat → Nat) : Prop := ∀ (x : AVal) (L : List Want) (R : List (List AVal)) (h : za) (Q : AVal → za → Prop), SlX h 3 x (L.map Want.cs) R →
 (∀ y, SlX h 3 y (L.map Want.cs) [] → (foot y = foot x ∨ foot y = none) → Exact y → (L = [] → y = .nils ∨ y = .sz) → Q y h) → C (N 338) [x] h Q
theorem z3.spec (i : z3.Imp C N) : z3.Spec C N := by
 intro x L R h Q hx hq
 apply i
 have e1 := hx.zc3
 rw [List.length_map] at e1
 obtain ⟨y, c1, c2, c3, c4, c5⟩ := hx.cut3x (k := L.length) (j1 := .i64) (j2 := .i64) (j3 := .i64) (by simp)
 rw [List.take_of_length_le (by simp)] at c2
 simp -dsimp only [z3.cps, zou.cps, opsF, e1, c1, B.ze]
 exact zbl (hq y c2 (c3.imp id fun h => h.1) c4 fun hl => c5 (by rw [hl]; rfl))
def zdd (W : List Want) (M : List Part) (d : Int) : List Want := W ++ M.map fun p => ⟨p.Item, d, p.Qty⟩
theorem wantsOn_take {W : List Want} {M : List Part} {d : Int} {k : Nat} (hk : k < M.length) : zdd W (M.take (k + 1)) d = zdd W (M.take k) d ++ [⟨M[k].Item, d, M[k].Qty⟩] := by
 unfold zdd
 rw [List.take_add_one, List.getElem?_eq_getElem hk, List.map_append, List.append_assoc]; rfl
def zdf.Spec (C : CSem) (N : Nat → Nat) : Prop := ∀ (x y z : AVal) (L : List Lot) (W : List Want) (M : List Part) (R S T : List (List AVal)) (d : Int) (h : za) (Q : AVal → za → Prop), SlX h 6 x (L.map Lot.cs) R → SlX h 3 y (W.map Want.cs) S → SlX h 2 z (M.map Part.cs) T →
 (∀ id b, foot y = some id → h id = some b → b.own = false) → L.length < 4611686018427387904 → W.length + M.length ≤ 100000000 → Q (.bool (zeu L (zdd W M d)).isSome) h → C (N 333) [x, y, z, .int .i64 d] h Q
theorem zdf.spec (i : zdf.Imp C N) (s1 : z3.Spec C N) (s2 : zek.Spec C N) : zdf.Spec C N := by
 intro x y z L W M R S T d h Q hx hy hz hno hl1 hl2 hq
 apply i
 have ez := hz.zc3
 rw [List.length_map] at ez
 simp -dsimp only [zdf.cps]
 refine s1 _ _ _ _ _ hy fun a ha hfa hea hna => ?_
 simp -dsimp only [ez, B.ze]
 refine zr.intro (fun t vs hh => ∃ (k : Nat) (u : AVal), k + t = M.length ∧ vs = [u, .int .i64 (k : Int)] ∧ ((k = 0 ∧ hh = h ∧ u = a) ∨ (0 < k ∧ Owns h hh [.sl 3 u ((zdd W (M.take k) d).map Want.cs) []]))) M.length ?_ ⟨0, a, by omega, rfl, .inl ⟨rfl, rfl, rfl⟩⟩
 rintro Y t vs hh ⟨k, u, hkt, rfl, hu⟩ hY
 have hle : h.le hh := by
  rcases hu with ⟨_, rfl, _⟩ | ⟨_, o⟩
  ·exact za.le_refl _
  ·exact o.le
 have hzz := hz.mono hle
 simp -dsimp only [zdf.l2, zdf.k1, lssN, B.ze]
 refine B.zt (fun hb => ?_) (fun hb => ?_)
 ·rw [decide_eq_true_eq] at hb
  have hg : (M.map Part.cs)[k]? = some (M[k]).cs := by rw [List.getElem?_map, List.getElem?_eq_getElem hb]; rfl
  have hidx : V.idxS 2 z (.int .i64 (k : Int)) = some (elp 2 z k 0) := hzz.idxN (by simpa using hb)
  have hel := hzz.elem hg
  simp -dsimp [hidx, hel]
  have step : ∀ u' h', Owns h h' [.sl 3 u' ((zdd W (M.take (k + 1)) d).map Want.cs) []] → Y [u', .int .i64 ((k + 1 : Nat) : Int)] h' := fun u' h' o' => hY (t - 1) _ _ (by omega) ⟨k + 1, u', by omega, rfl, .inr ⟨by omega, o'⟩⟩
  have e1 := wantsOn_take (W := W) (d := d) hb
  have e2 : (zdd W (M.take (k + 1)) d).map Want.cs = (zdd W (M.take k) d).map Want.cs ++ [[.str (M[k]).Item, .int .i64 d, .int .i64 (M[k]).Qty]] := by rw [e1, List.map_append]; rfl
  have hwl : (zdd W (M.take k) d).length ≤ W.length + k := by unfold zdd; simp; omega
  have fin : ∀ u' h', Owns h h' [.sl 3 u' ((zdd W (M.take (k + 1)) d).map Want.cs) []] → B.pv (V.bin .add (.int .i64 (k : Int)) (.int .i64 1)) fun v29 => Y [u', v29] h' := fun u' h' o' => by
   simp -dsimp only [add1 (show k < 4611686018427387904 by omega), B.ze]
   exact step u' h' o'
  rcases hu with ⟨rfl, rfl, rfl⟩ | ⟨hk0, o⟩
  ·intro id hid
   have hw0 : zdd W (M.take 0) d = W := by simp [zdd]
   rw [hw0] at e2
   have hgr := zge (zeh [AVal.str (M[0]).Item, .int .i64 d, .int .i64 (M[0]).Qty]) hid
   refine SlX.appE (M := [[AVal.str (M[0]).Item, .int .i64 d, .int .i64 (M[0]).Qty]]) (R' := []) (ha.mono hgr) hea (fun hl => hna (List.map_eq_nil_iff.1 hl)) (fun i b hf hb' => ?_) (SlX.lit (zbh ..) (by simp) rfl (by simp) (by simp)) (by omega) (by simp) (by simp; omega) (by simp [maxLen]; omega) fun u' h' o' => fin u' h' ?_
   ·rcases hfa with e | e
    ·rw [e] at hf
     obtain ⟨c, hc⟩ := hy.known hf
     have : upd hh id (zeh [AVal.str (M[0]).Item, .int .i64 d, .int .i64 (M[0]).Qty]) i = some c := hgr i c hc
     rw [this] at hb'; cases hb'
     exact hno i b hf hc
    ·rw [e] at hf; cases hf
   ·rw [e2]; exact o'.back hgr
  ·refine o.push 0 rfl (cs := [AVal.str (M[k]).Item, .int .i64 d, .int .i64 (M[k]).Qty]) rfl (by omega) (by rw [List.length_map]; omega) (by rw [List.length_map]; simp only [maxLen]; omega) fun u' h' o' _ => fin u' h' ?_
   rw [e2]; exact o'
 ·rw [decide_eq_false_iff_not] at hb
  have hk : k = M.length := by omega
  subst hk
  rw [List.take_length] at hu
  rcases hu with ⟨k0, rfl, rfl⟩ | ⟨_, o⟩
  ·have : M = [] := List.eq_nil_of_length_eq_zero k0
   subst this
   refine s2 _ _ _ _ _ _ _ _ hx ha hl1 (by omega) (zbl ?_)
   simpa [zdd] using hq
  ·have hxx := hx.mono hle
   refine s2 _ _ _ _ _ _ _ _ hxx (o.slAt 0 rfl) hl1 (by unfold zdd; simp; omega) (zkr hle hq)
end Go.Ab
set_option maxRecDepth 100000
namespace Go.Ab
variable {C : CSem} {N : Nat → Nat}
structure TellLent (h : za) (t : ziw) (x y : AVal) : Prop where
 lots : SlX h 6 x (t.Lots.map Lot.cs) marksLot
 uses : SlX h 3 y (t.Uses.map Use.cs) marksUse
theorem TellLent.at_ {h : za} {t : ziw} {x y : AVal} (a : TellLent h t x y) : TellAt h t x y := ⟨⟨_, a.lots⟩, ⟨_, a.uses⟩⟩
end Go.Ab
set_option maxRecDepth 100000
namespace Go.Ab
variable {C : CSem} {N : Nat → Nat}
@[simp] theorem Objs_zero {es : Nat} {xs : Nat → AVal} {D R : Nat → List (List AVal)} : Objs es 0 xs D R = [] := rfl
end Go.Ab
namespace Go.Ab
variable {C : CSem} {N : Nat → Nat}
theorem Owns.lit2L {h0 h : za} {l : List Ob} (ho : Owns h0 h l) {x y : AVal} {id : Nat} (hid : h id = none) : Owns h0 (upd h id (zeh [x, y])) (l ++ [.sl 1 (.sl id 0 0 2 1 2) [[x], [y]] []]) :=
 ho.newSl hid (by simp) rfl (by simp) rfl
end Go.Ab
namespace Go.Ab
variable {C : CSem} {N : Nat → Nat}
def zkk (w : zby) (l : Lot) : List Int := match meet ⟨l.From, l.zdy⟩ w with
 | (m, true) => [m.From, m.zdy]
 | (_, false) => []
def zey (a b : Int) (L : List Lot) : List Int := [a, b + 1] ++ L.flatMap (zkk ⟨a, b + 1⟩)
theorem endsRow_take {a b : Int} {L : List Lot} {k : Nat} (hk : k < L.length) : zey a b (L.take (k + 1)) = zey a b (L.take k) ++ zkk ⟨a, b + 1⟩ L[k] := by
 unfold zey
 rw [List.take_add_one, List.getElem?_eq_getElem hk, List.flatMap_append, List.append_assoc]
 simp
theorem zmy (a b : Int) : ∀ L : List Lot, (zey a b L).length ≤ 2 + 2 * L.length := by
 intro L
 unfold zey
 simp only [List.length_append, List.length_cons, List.length_nil]
 have : ∀ L : List Lot, (L.flatMap (zkk ⟨a, b + 1⟩)).length ≤ 2 * L.length := by
  intro L
  induction L with
  | nil => simp
  | cons l r ih =>
   simp only [List.flatMap_cons, List.length_append, List.length_cons]
   have : (zkk ⟨a, b + 1⟩ l).length ≤ 2 := by unfold zkk; split <;> simp
   omega
 have := this L
 omega
def zcp.Spec (C : CSem) (N : Nat → Nat) : Prop := ∀ (x : AVal) (L : List Lot) (R : List (List AVal)) (a b : Int) (h : za) (Q : AVal → za → Prop), SlX h 6 x (L.map Lot.cs) R → L.length ≤ 1000000 → -4611686018427387904 ≤ b → b < 4611686018427387904 →
 (∀ p z (S : List Int) R' h', S.Perm (zey a b L) → S.Pairwise (fun s t => s ≤ t) → Owns h h' [.box p [z], .sl 1 z ((zef S).map icl) R'] → Q (.fn (N 337) [] [p]) h') → C (N 334) [.int .i64 a, .int .i64 b, x] h Q
theorem zcp.spec (i : zcp.Imp C N) (s1 : zdu.Spec C N) (s2 : zca.Spec C N) (s3 : zbk.Spec C N) : zcp.Spec C N := by
 intro x L R a b h Q hx hlen hb1 hb2 hq
 apply i
 have ex := hx.zc3
 rw [List.length_map] at ex
 have eb : V.bin .add (.int .i64 b) (.int .i64 1) = some (.int .i64 (b + 1)) := by rw [V.zq2, wrap_i64 (by omega) (by omega)]
 simp -dsimp only [zcp.cps, zcp.k4, eb, B.ze]
 intro i15 h15
 have o1 := (Owns.start h).lit2L (x := .int .i64 a) (y := .int .i64 (b + 1)) h15
 intro i7 h7
 have o2 := o1.zjv h7 [.nils]
 refine o2.zmz 1 (off := 0) rfl rfl (by simp) fun h3 o3 _ => ?_
 have o3 : Owns h h3 [.sl 1 (.sl i15 0 0 2 1 2) ((zey a b (L.take 0)).map icl) [], .box (.ptr i7 0 0) [.sl i15 0 0 2 1 2]] := o3
 simp -dsimp only [ex, B.ze]
 refine zr.intro (fun t vs hh => ∃ (k : Nat) (z : AVal), k + t = L.length ∧ vs = [.int .i64 (k : Int)] ∧ Owns h hh [.sl 1 z ((zey a b (L.take k)).map icl) [], .box (.ptr i7 0 0) [z]]) L.length ?_ ⟨0, _, by omega, rfl, o3⟩
 rintro Y t vs hh ⟨k, z, hkt, rfl, o⟩ hY
 have hxx := hx.mono o.le
 obtain ⟨_, e7, hb7⟩ := o.zhj 1 rfl
 cases e7
 have ld : A.ldv hh (.ptr i7 0 0) = some z := by rw [zfa hb7]; rfl
 have hrl := zmy a b (L.take k)
 rw [List.length_take] at hrl
 simp -dsimp only [zcp.l3, zcp.k2, lssN, B.ze]
 refine B.zt (fun hb => ?_) (fun hb => ?_)
 ·rw [decide_eq_true_eq] at hb
  have hg : (L.map Lot.cs)[k]? = some (L[k]).cs := by rw [List.getElem?_map, List.getElem?_eq_getElem hb]; rfl
  have hidx : V.idxS 6 x (.int .i64 (k : Int)) = some (elp 6 x k 0) := hxx.idxN (by simpa using hb)
  have hel := hxx.elem hg
  have er := endsRow_take (a := a) (b := b) hb
  simp -dsimp [hidx, hel, eb]
  refine s1 _ _ _ _ _ _ ?_
  have eo : zkk ⟨a, b + 1⟩ L[k] = match meet ⟨(L[k]).From, (L[k]).zdy⟩ ⟨a, b + 1⟩ with
   | (m, true) => [m.From, m.zdy]
   | (_, false) => [] := rfl
  have stay : zkk ⟨a, b + 1⟩ L[k] = [] → Y [.int .i64 ((k + 1 : Nat) : Int)] hh := fun he => hY (t - 1) _ _ (by omega) ⟨k + 1, z, by omega, rfl, by rw [er, he, List.append_nil]; exact o⟩
  have more : ∀ m : zby, zkk ⟨a, b + 1⟩ L[k] = [m.From, m.zdy] → ∀ z' h', Owns h h' [.sl 1 z' ((zey a b (L.take k)).map icl ++ [[.int .i64 m.From], [.int .i64 m.zdy]]) [], .box (.ptr i7 0 0) [z']] → Y [.int .i64 ((k + 1 : Nat) : Int)] h' := fun m he z' h' o' => hY (t - 1) _ _ (by omega) ⟨k + 1, z', by omega, rfl, by rw [er, he, List.map_append]; exact o'⟩
  rw [eo] at stay more
  generalize meet ⟨(L[k]).From, (L[k]).zdy⟩ ⟨a, b + 1⟩ = mm at stay more ⊢
  obtain ⟨m, ok⟩ := mm
  cases ok with
  | false =>
   simp -dsimp [add1 (show k < 4611686018427387904 by omega)]
   exact stay rfl
  | true =>
   simp -dsimp [ld]
   intro i38 h38
   have o5 := o.grow (zge (zeh [AVal.int .i64 m.From, .int .i64 m.zdy]) h38)
   refine o5.appW 0 rfl (M := [[.int .i64 m.From], [.int .i64 m.zdy]]) (R' := []) (SlX.lit (zbh ..) (by simp) rfl (by simp) (by simp)) (by omega) (by simp; omega) (by simp [maxLen]; omega) fun z' h6 o6 _ => ?_
   refine o6.zmz 1 (off := 0) rfl (o6.slAt 0 rfl).zdr (by simp) fun h8 o8 _ => ?_
   simp -dsimp only [add1 (show k < 4611686018427387904 by omega), B.ze]
   exact more m rfl z' h8 o8
 ·rw [decide_eq_false_iff_not] at hb
  have hk : k = L.length := by omega
  subst hk
  rw [List.take_length] at o hrl
  simp -dsimp only [zcp.k1, B.zjx, ld, B.ze]
  have op : Owns h hh ([.box (.ptr i7 0 0) [z]] ++ [.sl 1 z ((zey a b L).map icl) []]) := o.perm (List.Perm.swap _ _ _)
  obtain ⟨ob, os⟩ := op.out
  have box : ∀ {h' : za} {l : List Ob}, Owns (hh.zkt [.sl 1 z ((zey a b L).map icl) []]) h' l → A.ldv h' (.ptr i7 0 0) = some z := fun o' => by
   obtain ⟨_, e, hb⟩ := ob.zhj 0 rfl
   cases e
   rw [zfa (o'.le _ _ hb)]; rfl
  refine s2 _ _ _ _ _ _ os (by omega) fun h4 S hp hs o4 => ?_
  simp -dsimp only [B.zjx, box o4, B.ze]
  refine s3 _ _ _ _ _ _ o4 (by rw [hp.length_eq]; omega) fun y h5 R' o5 => ?_
  have oj := ob.join o5
  refine oj.zmz 0 (off := 0) rfl (o5.slAt 0 rfl).zdr (by simp) fun h6 o6 _ => ?_
  exact zbl (hq _ y S R' h6 hp hs o6)
end Go.Ab
namespace Go.Ab
variable {C : CSem} {N : Nat → Nat}
def zlx (S : List Int) : List (List AVal) := (S.zip S.tail).map fun p => [.int .i64 p.1, .int .i64 p.2]
theorem zrp {S : List Int} {k : Nat} (hk : k + 1 < S.length) : (zlx S)[k]? = some [.int .i64 S[k], .int .i64 S[k + 1]] := by
 unfold zlx
 rw [List.getElem?_map, List.getElem?_eq_getElem (by simp; omega)]
 simp
theorem zlg (S : List Int) : (zlx S).length = S.length - 1 := by
 unfold zlx
 simp
theorem zcj.iter (hC : zdg C) (i : zcj.Imp C N) {p z : AVal} {S : List Int} {R : List (List AVal)} (hl : S.length ≤ 100000000) : Iter C (N 337) [] [p] (fun h => A.ldv h p = some z ∧ SlX h 1 z (S.map icl) R) (zlx S) := by
 intro id I Z h Q hD hr h0 hend hZ
 refine i (.yld id) p h Q ?_
 obtain ⟨d1, d2⟩ := hD 0 h h0
 have el := d2.zc3
 rw [List.length_map] at el
 have es : V.bin .sub (.int .i64 (S.length : Int)) (.int .i64 1) = some (.int .i64 ((S.length : Int) - 1)) := by rw [V.zft, wrap_i64 (by omega) (by omega)]
 simp -dsimp only [zcj.cps, zcj.k3, B.zjx, d1, el, es, B.ze]
 refine zr.intro (fun t vs hh => ∃ k : Nat, k + t = (zlx S).length ∧ vs = [.int .i64 (k : Int)] ∧ I k hh) (zlx S).length ?_ ⟨0, by omega, rfl, h0⟩
 rintro Y t vs hh ⟨k, hkt, rfl, hI⟩ hY
 rw [zlg] at hkt
 obtain ⟨d1, d2⟩ := hD k hh hI
 simp -dsimp only [zcj.l2, zcj.k1, V.zfu, B.ze]
 refine B.zt (fun hb => ?_) (fun hb => ?_)
 ·have hb : k + 1 < S.length := by simp at hb; omega
  have g1 : (S.map icl)[k]? = some (icl S[k]) := by rw [List.getElem?_map, List.getElem?_eq_getElem (by omega)]; rfl
  have g2 : (S.map icl)[k + 1]? = some (icl S[k + 1]) := by rw [List.getElem?_map, List.getElem?_eq_getElem hb]; rfl
  have i1 : V.idxS 1 z (.int .i64 (k : Int)) = some (elp 1 z k 0) := d2.idxN (by simp; omega)
  have i2 : V.idxS 1 z (.int .i64 ((k + 1 : Nat) : Int)) = some (elp 1 z (k + 1) 0) := d2.idxN (by simpa using hb)
  have c1 := d2.cell g1
  have c2 := d2.cell g2
  simp -dsimp only [B.zjx, d1, i1, c1, add1 (show k < 4611686018427387904 by omega), i2, c2, B.ze, B.callv_yld]
  refine hC _ _ _ _ _ (fun v h' hv => ?_) (hr k _ hh (zrp hb) hI)
  rcases hv with ⟨e, h1⟩ | ⟨e, h1⟩
  ·simp -dsimp only [e, V.zfv, Bool.not_true, B.cond_false, add1 (show k < 4611686018427387904 by omega), B.ze]
   exact hY (t - 1) _ _ (by omega) ⟨k + 1, by rw [zlg]; omega, rfl, h1⟩
  ·simp -dsimp only [e, V.zfv, Bool.not_false, B.cond_true, B.ze]
   exact zbl (hZ h' h1)
 ·have hb : ¬ k + 1 < S.length := by simp at hb; omega
  have : k = (zlx S).length := by rw [zlg]; omega
  exact zbl (hend hh (by rw [← this]; exact hI))
end Go.Ab
namespace Go.Ab
variable {C : CSem} {N : Nat → Nat}
theorem zrk : ∀ {S T : List Int}, S.Perm T → S.Pairwise (fun s t => s ≤ t) → T.Pairwise (fun s t => s ≤ t) → S = T
 | [], T, hp, _, _ => by rw [List.Perm.nil_eq hp]
 | a :: S, [], hp, _, _ => by have := hp.length_eq; simp at this
 | a :: S, b :: T, hp, h1, h2 => by
  rw [List.pairwise_cons] at h1 h2
  have e : a = b := by
   have m1 : a ∈ b :: T := hp.subset (List.mem_cons_self ..)
   have m2 : b ∈ a :: S := hp.symm.subset (List.mem_cons_self ..)
   rcases List.mem_cons.1 m1 with e | m1
   ·exact e
   ·rcases List.mem_cons.1 m2 with e | m2
    ·exact e.symm
    ·have := h1.1 b m2; have := h2.1 a m1; omega
  subst e
  rw [zrk (List.perm_cons a |>.1 hp) h1.2 h2.2]
def insI (a : Int) : List Int → List Int
 | [] => [a]
 | b :: r => if a ≤ b then a :: b :: r else b :: insI a r
def sortI : List Int → List Int
 | [] => []
 | a :: r => insI a (sortI r)
theorem zqm (a : Int) : ∀ l, (insI a l).Perm (a :: l)
 | [] => .refl _
 | b :: r => by
  unfold insI
  split
  ·exact .refl _
  ·exact ((zqm a r).cons b).trans (.swap ..)
theorem zjm : ∀ l, (sortI l).Perm l
 | [] => .refl _
 | a :: r => (zqm a _).trans ((zjm r).cons a)
theorem zql {a : Int} : ∀ {l : List Int}, l.Pairwise (fun s t => s ≤ t) → (insI a l).Pairwise (fun s t => s ≤ t)
 | [], _ => List.pairwise_singleton _ _
 | b :: r, h => by
  have h' := h
  rw [List.pairwise_cons] at h
  unfold insI
  split
  ·rename_i hab
   refine List.pairwise_cons.2 ⟨fun c hc => ?_, h'⟩
   rcases List.mem_cons.1 hc with rfl | hc
   ·exact hab
   ·have := h.1 c hc; omega
  ·rename_i hab
   refine List.pairwise_cons.2 ⟨fun c hc => ?_, zql h.2⟩
   rcases List.mem_cons.1 ((zqm a r).subset hc) with rfl | hc
   ·omega
   ·exact h.1 c hc
theorem zkx : ∀ l, (sortI l).Pairwise (fun s t => s ≤ t)
 | [] => .nil
 | a :: r => zql (zkx r)
theorem sortI_of {S T : List Int} (hp : S.Perm T) (hs : S.Pairwise (fun s t => s ≤ t)) : S = sortI T := zrk (hp.trans (zjm T).symm) hs (zkx T)
def cuts (a b : Int) (L : List Lot) : List Int := zef (sortI (zey a b L))
def zpz (L : List Lot) (W : List Want) (M : List Part) (a b : Int) : List (List AVal) :=
 if min b 4000 < max a 0 then [] else ((cuts (max a 0) (min b 4000) L).zip (cuts (max a 0) (min b 4000) L).tail).map fun p => [.agg [.int .i64 p.1, .int .i64 p.2], .bool (zeu L (zdd W M p.1)).isSome]
def zde.Spec (C : CSem) (N : Nat → Nat) : Prop := ∀ (x y z : AVal) (a b : Int) (h : za) (Q : AVal → za → Prop), x.zdr = true → y.zdr = true → z.zdr = true →
 (∀ p8 p9 p5 p6 p7 h', Owns h h' [.box p5 [x], .box p6 [y], .box p7 [z], .box p8 [.int .i64 a], .box p9 [.int .i64 b]] → Q (.fn (N 332) [] [p8, p9, p5, p6, p7]) h') → C (N 330) [x, y, z, .int .i64 a, .int .i64 b] h Q
theorem zde.spec (i : zde.Imp C N) : zde.Spec C N := by
 intro x y z a b h Q hx hy hz hq
 apply i
 have c1 : ∀ {v : AVal}, v.zdr = true → A.zhy v = some [v] := fun hv => by simp [A.zhy, hv]
 simp -dsimp only [zde.cps, zde.k1, c1 hx]
 intro i5 h5
 have o5 := (Owns.start h).zjv h5 [x]
 simp -dsimp only [c1 hy]
 intro i6 h6
 have o6 := o5.zjv h6 [y]
 simp -dsimp only [c1 hz]
 intro i7 h7
 have o7 := o6.zjv h7 [z]
 simp -dsimp only [c1 (show (AVal.int .i64 a).zdr = true from rfl)]
 intro i8 h8
 have o8 := o7.zjv h8 [.int .i64 a]
 simp -dsimp only [c1 (show (AVal.int .i64 b).zdr = true from rfl)]
 intro i9 h9
 have o9 := o8.zjv h9 [.int .i64 b]
 exact zbl (hq _ _ _ _ _ _ o9)
end Go.Ab
namespace Go.Ab
variable {C : CSem} {N : Nat → Nat}
structure zo8 (p8 p9 p5 p6 p7 x y z : AVal) (a b : Int) (L : List Lot) (W : List Want) (M : List Part) (R S T : List (List AVal)) (h : za) : Prop where
 from_ : A.ldv h p8 = some (.int .i64 a)
 to_ : A.ldv h p9 = some (.int .i64 b)
 ldx : A.ldv h p5 = some x
 ldy : A.ldv h p6 = some y
 ldz : A.ldv h p7 = some z
 lots : SlX h 6 x (L.map Lot.cs) R
 wants : SlX h 3 y (W.map Want.cs) S
 parts : SlX h 2 z (M.map Part.cs) T
 none_ : ∀ id b, foot y = some id → h id = some b → b.own = false
theorem zo8.mono {p8 p9 p5 p6 p7 x y z : AVal} {a b : Int} {L : List Lot} {W : List Want} {M : List Part} {R S T : List (List AVal)} {h h' : za} (d : zo8 p8 p9 p5 p6 p7 x y z a b L W M R S T h) (hle : h.le h') : zo8 p8 p9 p5 p6 p7 x y z a b L W M R S T h' :=
 ⟨zl0 hle d.from_, zl0 hle d.to_, zl0 hle d.ldx, zl0 hle d.ldy, zl0 hle d.ldz, d.lots.mono hle, d.wants.mono hle, d.parts.mono hle, fun id b hf hb => by
  obtain ⟨c, hc⟩ := d.wants.known hf
  rw [hle id c hc] at hb
  cases hb
  exact d.none_ id b hf hc⟩
theorem zbq.iter (hG : zq6 C) (i : zbq.Imp C N) (s1 : zcp.Spec C N) (i1 : zcj.Imp C N) (s2 : zdf.Spec C N) {p8 p9 p5 p6 p7 x y z : AVal} {a b : Int} {L : List Lot} {W : List Want} {M : List Part} {R S T : List (List AVal)}
  (hl1 : L.length ≤ 1000000) (hl2 : W.length + M.length ≤ 100000000) : Iter C (N 332) [] [p8, p9, p5, p6, p7] (zo8 p8 p9 p5 p6 p7 x y z a b L W M R S T) (zpz L W M a b) := by
 intro id I Z h Q hD hr h0 hend hZ
 refine i (.yld id) p8 p9 p5 p6 p7 h Q ?_
 have d := hD 0 h h0
 simp -dsimp only [zbq.cps, show A.zhy (.yld id) = some [.yld id] from rfl]
 intro i6 h6
 have o := (Owns.start h).zjv h6 [.yld id]
 have d1 := d.mono o.le
 have hmx : V.max2 (.int .i64 a) (.int .i64 0) = some (.int .i64 (max a 0)) := by simp [V.max2]; omega
 have hmn : V.min2 (.int .i64 b) (.int .i64 4000) = some (.int .i64 (min b 4000)) := by simp [V.min2]; omega
 simp -dsimp only [zbq.k4, B.zjx, d1.from_, d1.to_, hmx, hmn, V.zq1, B.ze]
 refine B.zt (fun hb => ?_) (fun hb => ?_)
 ·have hb : min b 4000 < max a 0 := by simpa using hb
  refine zkr o.le (hend h ?_)
  unfold zpz
  rw [if_pos hb]
  exact h0
 ·have hb : ¬ min b 4000 < max a 0 := by simpa using hb
  simp -dsimp only [zbq.k3, B.zjx, d1.ldx, B.ze]
  refine s1 _ _ _ _ _ _ _ d1.lots hl1 (by omega) (by omega) fun p7' z' S' R' h2 hp hs o2 => ?_
  rw [sortI_of hp hs] at o2
  have hx : zpz L W M a b = ((cuts (max a 0) (min b 4000) L).zip (cuts (max a 0) (min b 4000) L).tail).map fun p => [.agg [.int .i64 p.1, .int .i64 p.2], .bool (zeu L (zdd W M p.1)).isSome] := by unfold zpz; rw [if_neg hb]
  have hUl : (cuts (max a 0) (min b 4000) L).length ≤ 100000000 := by
   unfold cuts
   have q1 := zk8 (sortI (zey (max a 0) (min b 4000) L))
   have q2 := (zjm (zey (max a 0) (min b 4000) L)).length_eq
   have q3 := zmy (max a 0) (min b 4000) L
   omega
  have o2 : Owns (upd h i6 (zeh [.yld id])) h2 [.box p7' [z'], .sl 1 z' ((cuts (max a 0) (min b 4000) L).map icl) R'] := o2
  have oo := o.join o2
  rw [hx] at hr hend
  generalize cuts (max a 0) (min b 4000) L = U at *
  refine zn8 (zcj.iter hG.mono i1 (p := p7') (z := z') (S := U) (R := R') hUl) (fun h h' hle hd => ⟨zl0 hle hd.1, hd.2.mono hle⟩)
   (fun k hh => ∃ g : za, I k g ∧ Owns g hh [.box (.ptr i6 0 0) [.yld id], .box p7' [z'], .sl 1 z' (U.map icl) R']) (fun j hh => j = 0 ∧ ∃ g : za, Z g ∧ g.le hh) ?_ ?_ ⟨h, h0, oo⟩ ?_ ?_
  ·rintro k hh ⟨g, hI, og⟩
   obtain ⟨q, e, hb'⟩ := og.zhj 1 rfl
   exact ⟨by rw [e, zfa hb']; rfl, og.slAt 2 rfl⟩
  ·rintro k xx hh E hxx ⟨g, hI, og⟩ hE0 hE1
   have hk : k + 1 < U.length := by
    have := (List.getElem?_eq_some_iff.1 hxx).1
    rw [zlg] at this; omega
   rw [zrp hk] at hxx
   cases hxx
   have dd := (hD k g hI).mono og.le
   obtain ⟨q, e6, hb6⟩ := og.zhj 0 rfl
   cases e6
   have ly : A.ldv hh (.ptr i6 0 0) = some (.yld id) := by rw [zfa hb6]; rfl
   have hxk : ((U.zip U.tail).map fun p => [AVal.agg [.int .i64 p.1, .int .i64 p.2], .bool (zeu L (zdd W M p.1)).isSome])[k]? = some [.agg [.int .i64 U[k], .int .i64 U[k + 1]], .bool (zeu L (zdd W M U[k])).isSome] := by
    rw [List.getElem?_map, List.getElem?_eq_getElem (by simp; omega)]; simp
   have hy := hr k _ g hxk hI
   simp -dsimp only [W2, zbq.r2, zbq.k1, B.zjx, ly, dd.ldx, dd.ldy, dd.ldz, B.ze]
   simp -dsimp [ly, dd.ldx, dd.ldy, dd.ldz]
   refine s2 _ _ _ _ _ _ _ _ _ _ _ _ dd.lots dd.wants dd.parts dd.none_ (by omega) hl2 (keepS1 ⟨_, ly⟩ ?_)
   rw [B.callv_yld]
   refine og.frame hG hy fun v g' hh' hv og' => ?_
   rcases hv with ⟨e, h1⟩ | ⟨e, h1⟩
   ·simp -dsimp only [e, V.zfv, Bool.not_true, B.cond_false, B.ze]
    exact hE0 hh' ⟨g', h1, og'⟩
   ·simp -dsimp only [e, V.zfv, Bool.not_false, B.cond_true, B.ze]
    exact hE1 0 hh' ⟨rfl, g', h1, og'.le⟩
  ·rintro hh ⟨g, hI, og⟩
   refine RK.here (zkr og.le (hend g ?_))
   have : (zlx U).length = ((U.zip U.tail).map fun p => [AVal.agg [.int .i64 p.1, .int .i64 p.2], .bool (zeu L (zdd W M p.1)).isSome]).length := by simp [zlx]
   rw [← this]; exact hI
  ·rintro j hh ⟨rfl, g, hz, hle⟩
   exact RK.there (RK.here (zkr hle (hZ g hz)))
end Go.Ab
namespace Go.Ab
variable {C : CSem} {N : Nat → Nat}
def zgf (a b : Int) (L : List Lot) : List (Int × Int) := if min b 4000 < max a 0 then [] else (cuts (max a 0) (min b 4000) L).zip (cuts (max a 0) (min b 4000) L).tail
def zeb (L : List Lot) (W : List Want) (M : List Part) (d : Int) : Bool := (zeu L (zdd W M d)).isSome
theorem zm2 (L : List Lot) (W : List Want) (M : List Part) (a b : Int) : zpz L W M a b = (zgf a b L).map fun p => [.agg [.int .i64 p.1, .int .i64 p.2], .bool (zeb L W M p.1)] := by
 unfold zpz zgf
 split <;> rfl
def zkf (L : List Lot) (W : List Want) (M : List Part) (a b : Int) : Int × Bool := match (zgf a b L).find? fun p => zeb L W M p.1 with
 | some p => (p.1, true)
 | none => (0, false)
def zc8.Spec (C : CSem) (N : Nat → Nat) : Prop := ∀ (x y z : AVal) (L : List Lot) (W : List Want) (M : List Part) (R S T : List (List AVal)) (a b : Int) (h : za) (Q : AVal → za → Prop), SlX h 6 x (L.map Lot.cs) R → SlX h 3 y (W.map Want.cs) S → SlX h 2 z (M.map Part.cs) T →
 (∀ id b, foot y = some id → h id = some b → b.own = false) → L.length ≤ 1000000 → W.length + M.length ≤ 100000000 → Q (.tup [.int .i64 (zkf L W M a b).1, .bool (zkf L W M a b).2]) h → C (N 320) [x, y, z, .int .i64 a, .int .i64 b] h Q
theorem zc8.spec (i : zc8.Imp C N) (hG : zq6 C) (s0 : zde.Spec C N) (i1 : zbq.Imp C N) (s1 : zcp.Spec C N) (i2 : zcj.Imp C N) (s2 : zdf.Spec C N) : zc8.Spec C N := by
 intro x y z L W M R S T a b h Q hx hy hz hno hl1 hl2 hq
 apply i
 simp -dsimp only [zc8.cps]
 intro i10 h10
 have o1 := (Owns.start h).zjv h10 [.int .i64 0]
 intro i11 h11
 have o2 := o1.zjv h11 [.bool false]
 simp -dsimp only [zc8.k3]
 refine s0 _ _ _ _ _ _ _ hx.zdr hy.zdr hz.zdr fun p8 p9 p5 p6 p7 h3 o3 => ?_
 have oo := o2.join o3
 have dAt : ∀ {hh : za} {u v : AVal}, Owns h hh [.box (.ptr i10 0 0) [u], .box (.ptr i11 0 0) [v], .box p5 [x], .box p6 [y], .box p7 [z], .box p8 [.int .i64 a], .box p9 [.int .i64 b]] → zo8 p8 p9 p5 p6 p7 x y z a b L W M R S T hh := fun {hh u v} o => by
  have bx : ∀ {k : Nat} {p w : AVal}, ([.box (.ptr i10 0 0) [u], .box (.ptr i11 0 0) [v], .box p5 [x], .box p6 [y], .box p7 [z], .box p8 [.int .i64 a], .box p9 [.int .i64 b]] : List Ob)[k]? = some (.box p [w]) → A.ldv hh p = some w := fun hk => by
   obtain ⟨id, rfl, hb⟩ := o.zhj _ hk
   rw [zfa hb]; rfl
  exact ⟨bx (k := 5) rfl, bx (k := 6) rfl, bx (k := 2) rfl, bx (k := 3) rfl, bx (k := 4) rfl, hx.mono o.le, hy.mono o.le, hz.mono o.le, fun id c hf hc => by
   obtain ⟨c', hc'⟩ := hy.known hf
   rw [o.le id c' hc'] at hc
   cases hc
   exact hno id c hf hc'⟩
 have ret : ∀ {hh : za} {u v : AVal}, Owns h hh [.box (.ptr i10 0 0) [u], .box (.ptr i11 0 0) [v], .box p5 [x], .box p6 [y], .box p7 [z], .box p8 [.int .i64 a], .box p9 [.int .i64 b]] → Q (.tup [u, v]) h → B.pv (oneOf (ze2 (A.ldv hh (.ptr i10 0 0)) (ze2 (A.ldv hh (.ptr i11 0 0)) (some [])))) fun v => dn Q v hh := fun {hh u v} o hq => by
  obtain ⟨_, e1, b1⟩ := o.zhj 0 rfl
  obtain ⟨_, e2, b2⟩ := o.zhj 1 rfl
  cases e1; cases e2
  have l1 : A.ldv hh (.ptr i10 0 0) = some u := by rw [zfa b1]; rfl
  have l2 : A.ldv hh (.ptr i11 0 0) = some v := by rw [zfa b2]; rfl
  rw [l1, l2]
  exact zkr o.le hq
 refine zn8 (zbq.iter hG i1 s1 i2 s2 hl1 hl2) (fun h h' hle d => zo8.mono d hle)
  (fun k hh => Owns h hh [.box (.ptr i10 0 0) [.int .i64 0], .box (.ptr i11 0 0) [.bool false], .box p5 [x], .box p6 [y], .box p7 [z], .box p8 [.int .i64 a], .box p9 [.int .i64 b]] ∧ ∀ j < k, ∀ p, (zgf a b L)[j]? = some p → zeb L W M p.1 = false)
  (fun j hh => j = 0 ∧ ∃ n, zkf L W M a b = (n, true) ∧ Owns h hh [.box (.ptr i10 0 0) [.int .i64 n], .box (.ptr i11 0 0) [.bool true], .box p5 [x], .box p6 [y], .box p7 [z], .box p8 [.int .i64 a], .box p9 [.int .i64 b]]) (fun k hh hj => dAt hj.1) ?_ ⟨oo, fun j hj => absurd hj (by omega)⟩ ?_ ?_
 ·rintro k xx hh E hxx ⟨o, hn⟩ hE0 hE1
  rw [zm2, List.getElem?_map] at hxx
  cases hp : (zgf a b L)[k]? with
  | none => rw [hp] at hxx; cases hxx
  | some p =>
  rw [hp] at hxx
  cases hxx
  simp -dsimp [W2, zc8.r2, zc8.k1]
  have f1 : V.zch 0 (.agg [.int .i64 p.1, .int .i64 p.2]) = some (.int .i64 p.1) := rfl
  refine B.zt (fun hb => ?_) (fun hb => ?_)
  ·simp -dsimp only [f1, B.al, A.al, B.ze]
   refine o.zmz 0 (off := 0) rfl rfl (by simp) fun h4 o4 _ => ?_
   refine o4.zmz 1 (off := 0) rfl rfl (by simp) fun h5 o5 _ => ?_
   refine hE1 0 h5 ⟨rfl, p.1, ?_, o5⟩
   have hfind : (zgf a b L).find? (fun p => zeb L W M p.1) = some p := by
    rw [List.find?_eq_some_iff_getElem]
    refine ⟨hb, k, (List.getElem?_eq_some_iff.1 hp).1, (List.getElem?_eq_some_iff.1 hp).2, fun j hj => ?_⟩
    have := hn j hj _ (List.getElem?_eq_getElem (by have := (List.getElem?_eq_some_iff.1 hp).1; omega))
    simp [this]
   unfold zkf
   rw [hfind]
  ·refine hE0 hh ⟨o, fun j hj q hq' => ?_⟩
   rcases Nat.lt_succ_iff_lt_or_eq.1 hj with h | rfl
   ·exact hn j h q hq'
   ·rw [hp] at hq'; cases hq'; exact hb
 ·rintro hh ⟨o, hn⟩
  refine RK.here ?_
  have hd : zkf L W M a b = (0, false) := by
   unfold zkf
   rw [List.find?_eq_none.2 fun p hp => ?_]
   obtain ⟨j, hj, e⟩ := List.mem_iff_getElem.1 hp
   have := hn j (by rw [zm2, List.length_map]; exact hj) p (by rw [List.getElem?_eq_getElem hj, e])
   simp [this]
  rw [hd] at hq
  refine o.zmz 0 (off := 0) rfl rfl (by simp) fun h4 o4 _ => ?_
  refine o4.zmz 1 (off := 0) rfl rfl (by simp) fun h5 o5 _ => ?_
  exact ret o5 hq
 ·rintro j hh ⟨rfl, n, hd, o⟩
  rw [hd] at hq
  exact RK.there (RK.here (ret o hq))
end Go.Ab
namespace Go.Ab
variable {C : CSem} {N : Nat → Nat}
def ze1 (L : List Lot) (W : List Want) (M : List Part) (l : List (Int × Int)) : List zby := (l.filter fun p => zeb L W M p.1).map fun p => ⟨p.1, p.2⟩
theorem spanL_len {a b : Int} {L : List Lot} (hl : L.length ≤ 1000000) : (zgf a b L).length ≤ 3000000 := by
 unfold zgf
 split
 ·simp
 ·have q1 := zk8 (sortI (zey (max a 0) (min b 4000) L))
  have q2 := (zjm (zey (max a 0) (min b 4000) L)).length_eq
  have q3 := zmy (max a 0) (min b 4000) L
  unfold cuts
  simp
  omega
def zcz.Spec (C : CSem) (N : Nat → Nat) : Prop := ∀ (x y z : AVal) (L : List Lot) (W : List Want) (M : List Part) (R S T : List (List AVal)) (a b : Int) (h : za) (Q : AVal → za → Prop), SlX h 6 x (L.map Lot.cs) R → SlX h 3 y (W.map Want.cs) S → SlX h 2 z (M.map Part.cs) T →
 (∀ id b, foot y = some id → h id = some b → b.own = false) → L.length ≤ 1000000 → W.length + M.length ≤ 100000000 → (∀ v h', Owns h h' [.sl 2 v ((rows (ze1 L W M (zgf a b L))).map zby.cs) []] → Q v h') → C (N 322) [x, y, z, .int .i64 a, .int .i64 b] h Q
theorem zcz.spec (i : zcz.Imp C N) (hG : zq6 C) (s0 : zde.Spec C N) (i1 : zbq.Imp C N) (s1 : zcp.Spec C N) (i2 : zcj.Imp C N) (s2 : zdf.Spec C N) (s3 : zb6.Spec C N) : zcz.Spec C N := by
 intro x y z L W M R S T a b h Q hx hy hz hno hl1 hl2 hq
 apply i
 have hsl := spanL_len (a := a) (b := b) hl1
 simp -dsimp only [zcz.cps]
 intro i11 h11
 have o1 := (Owns.start h).zjv h11 [.nils]
 simp -dsimp only [zcz.k3]
 refine s0 _ _ _ _ _ _ _ hx.zdr hy.zdr hz.zdr fun p8 p9 p5 p6 p7 h3 o3 => ?_
 have oo := (o1.join o3).nils 2
 have dAt : ∀ {hh : za} {u : AVal} {l : List Ob}, Owns h hh (.box (.ptr i11 0 0) [u] :: .box p5 [x] :: .box p6 [y] :: .box p7 [z] :: .box p8 [.int .i64 a] :: .box p9 [.int .i64 b] :: l) → zo8 p8 p9 p5 p6 p7 x y z a b L W M R S T hh := fun {hh u l} o => by
  have bx : ∀ {k : Nat} {p w : AVal}, (Ob.box (.ptr i11 0 0) [u] :: .box p5 [x] :: .box p6 [y] :: .box p7 [z] :: .box p8 [.int .i64 a] :: .box p9 [.int .i64 b] :: l)[k]? = some (.box p [w]) → A.ldv hh p = some w := fun hk => by
   obtain ⟨id, rfl, hb⟩ := o.zhj _ hk
   rw [zfa hb]; rfl
  exact ⟨bx (k := 4) rfl, bx (k := 5) rfl, bx (k := 1) rfl, bx (k := 2) rfl, bx (k := 3) rfl, hx.mono o.le, hy.mono o.le, hz.mono o.le, fun id c hf hc => by
   obtain ⟨c', hc'⟩ := hy.known hf
   rw [o.le id c' hc'] at hc
   cases hc
   exact hno id c hf hc'⟩
 refine zn8 (zbq.iter hG i1 s1 i2 s2 hl1 hl2) (fun h h' hle d => zo8.mono d hle)
  (fun k hh => ∃ u, Owns h hh [.box (.ptr i11 0 0) [u], .box p5 [x], .box p6 [y], .box p7 [z], .box p8 [.int .i64 a], .box p9 [.int .i64 b], .sl 2 u ((ze1 L W M ((zgf a b L).take k)).map zby.cs) []])
  (fun j hh => False) (fun k hh ⟨u, hj⟩ => dAt hj) ?_ ⟨.nils, oo⟩ ?_ (fun _ _ h => h.elim)
 ·rintro k xx hh E hxx ⟨u, o⟩ hE0 hE1
  rw [zm2, List.getElem?_map] at hxx
  cases hp : (zgf a b L)[k]? with
  | none => rw [hp] at hxx; cases hxx
  | some p =>
  rw [hp] at hxx
  cases hxx
  obtain ⟨_, e1, b1⟩ := o.zhj 0 rfl
  cases e1
  have l1 : A.ldv hh (.ptr i11 0 0) = some u := by rw [zfa b1]; rfl
  have et : (zgf a b L).take (k + 1) = (zgf a b L).take k ++ [p] := by rw [List.take_add_one, hp]; rfl
  have hlt : (ze1 L W M ((zgf a b L).take k)).length ≤ 3000000 := by
   unfold ze1
   have := List.length_filter_le (fun p : Int × Int => zeb L W M p.1) ((zgf a b L).take k)
   simp at this ⊢; omega
  simp -dsimp [W2, zcz.r2, zcz.k1, l1]
  refine B.zt (fun hb => ?_) (fun hb => ?_)
  ·have this : (ze1 L W M ((zgf a b L).take (k + 1))).map zby.cs = (ze1 L W M ((zgf a b L).take k)).map zby.cs ++ [[.int .i64 p.1, .int .i64 p.2]] := by
    unfold ze1; rw [et, List.filter_append]; simp [hb]
   simp -dsimp [B.zjx, l1]
   refine o.push (bytes := 16) 6 rfl (cs := [.int .i64 p.1, .int .i64 p.2]) rfl (by omega) (by rw [List.length_map]; omega) (by rw [List.length_map]; simp only [maxLen]; omega) fun u' h4 o4 _ => ?_
   have o4 : Owns h h4 [.box (.ptr i11 0 0) [u], .box p5 [x], .box p6 [y], .box p7 [z], .box p8 [.int .i64 a], .box p9 [.int .i64 b], .sl 2 u' ((ze1 L W M ((zgf a b L).take k)).map zby.cs ++ [[.int .i64 p.1, .int .i64 p.2]]) []] := o4
   refine o4.zmz 0 (off := 0) rfl (o4.slAt 6 rfl).zdr (by simp) fun h5 o5 _ => ?_
   exact hE0 h5 ⟨u', by rw [this]; exact o5⟩
  ·refine hE0 hh ⟨u, ?_⟩
   have : ze1 L W M ((zgf a b L).take (k + 1)) = ze1 L W M ((zgf a b L).take k) := by
    unfold ze1; rw [et, List.filter_append]; simp [hb]
   rw [this]; exact o
 ·rintro hh ⟨u, o⟩
  refine RK.here ?_
  obtain ⟨_, e1, b1⟩ := o.zhj 0 rfl
  cases e1
  have l1 : A.ldv hh (.ptr i11 0 0) = some u := by rw [zfa b1]; rfl
  simp -dsimp only [B.zjx, l1, B.ze]
  have he : (zpz L W M a b).length = (zgf a b L).length := by rw [zm2, List.length_map]
  rw [he, List.take_length] at o
  have hlt : (ze1 L W M (zgf a b L)).length ≤ 3000000 := by
   unfold ze1
   have := List.length_filter_le (fun p : Int × Int => zeb L W M p.1) (zgf a b L)
   simp at this ⊢; omega
  refine s3 _ _ _ _ _ (o.slAt 6 rfl) (by omega) fun v h' o' => zbl (hq v h' (o'.back o.le))
end Go.Ab
namespace Go.Ab
structure CS where
 left : Lf
 need : Nat → Int
def wAt (W : List Want) (i : Nat) : Want := W.getD i ⟨[], 0, 0⟩
theorem zik {W : List Want} {i : Nat} (h : i < W.length) : wAt W i = W[i] := by simp [wAt, h]
theorem wAt_out {W : List Want} {i : Nat} (h : W.length ≤ i) : wAt W i = ⟨[], 0, 0⟩ := by
 unfold wAt
 rw [List.getD_eq_getElem?_getD, List.getElem?_eq_none h]; rfl
def ze8 (L : List Lot) (i : Int) : Option Lot := L.find? fun l => decide (l.Id = i)
def chkOk (W : List Want) (s : CS) (u : Use) (l : Lot) : Bool :=
 decide (0 ≤ u.Want) && decide (u.Want < (W.length : Int)) && decide (1 ≤ u.Qty) && decide (u.Qty ≤ s.left l.Id) && decide (u.Qty ≤ s.need u.Want.toNat) && ze9 l (wAt W u.Want.toNat)
def zfg (s : CS) (u : Use) : CS := ⟨fun n => if n = u.Lot then s.left n - u.Qty else s.left n, fun i => if i = u.Want.toNat then s.need i - u.Qty else s.need i⟩
def zfh (L : List Lot) (W : List Want) : CS → List Use → Option CS
 | s, [] => some s
 | s, u :: us => match ze8 L u.Lot with
  | some l => bif chkOk W s u l then zfh L W (zfg s u) us else none
  | none => none
def zdx (L : List Lot) (W : List Want) : CS := ⟨zrd L, fun i => (wAt W i).Qty⟩
def ziv (L : List Lot) (W : List Want) (us : List Use) : Bool := zgn L W && match zfh L W (zdx L W) us with
 | some s => (List.range W.length).all fun i => decide (s.need i = 0)
 | none => false
theorem zg1 {L : List Lot} {i : Int} {l : Lot} (h : ze8 L i = some l) : l ∈ L ∧ l.Id = i := by
 have h1 := List.find?_some h
 exact ⟨List.mem_of_find?_eq_some h, by simpa using h1⟩
theorem lotById_of {L : List Lot} (hn : (L.map Lot.Id).Nodup) {l : Lot} (h : l ∈ L) : ze8 L l.Id = some l := by
 cases e : ze8 L l.Id with
 | none => unfold ze8 at e; rw [List.find?_eq_none] at e; have := e l h; simp at this
 | some a => have := zg1 e; rw [zl1 hn this.1 h this.2]
structure CSOk (s : CS) : Prop where
 left : LfOk s.left
 need : ∀ i, 0 ≤ s.need i
structure ChkF (W : List Want) (s : CS) (u : Use) (l : Lot) : Prop where
 w0 : 0 ≤ u.Want
 w1 : u.Want.toNat < W.length
 q : 1 ≤ u.Qty
 ql : u.Qty ≤ s.left l.Id
 qn : u.Qty ≤ s.need u.Want.toNat
 sv : ze9 l (wAt W u.Want.toNat) = true
theorem znu {W : List Want} {s : CS} {u : Use} {l : Lot} : chkOk W s u l = true ↔ ChkF W s u l := by
 simp only [chkOk, Bool.and_eq_true, decide_eq_true_eq]
 exact ⟨fun ⟨⟨⟨⟨⟨a, b⟩, c⟩, d⟩, e⟩, f⟩ => ⟨a, by omega, c, d, e, f⟩, fun ⟨a, b, c, d, e, f⟩ => ⟨⟨⟨⟨⟨a, by omega⟩, c⟩, d⟩, e⟩, f⟩⟩
theorem zkg {L : List Lot} {W : List Want} {s s' : CS} {u : Use} {us : List Use} (h : zfh L W s (u :: us) = some s') : ∃ l, l ∈ L ∧ l.Id = u.Lot ∧ ChkF W s u l ∧ zfh L W (zfg s u) us = some s' := by
 unfold zfh at h
 cases e : ze8 L u.Lot with
 | none => rw [e] at h; cases h
 | some l =>
  rw [e] at h
  simp only at h
  cases c : chkOk W s u l with
  | false => rw [c] at h; cases h
  | true => rw [c] at h; exact ⟨l, (zg1 e).1, (zg1 e).2, znu.1 c, h⟩
theorem zsa {W : List Want} {s : CS} {u : Use} {l : Lot} (hs : CSOk s) (hc : ChkF W s u l) (hl : l.Id = u.Lot) : CSOk (zfg s u) := by
 refine ⟨fun n => ?_, fun i => ?_⟩ <;> unfold zfg <;> simp only <;> split
 ·rename_i e; subst e; have := hc.ql; rw [hl] at this; omega
 ·exact hs.left n
 ·rename_i e; subst e; have := hc.qn; omega
 ·exact hs.need i
theorem zla {L : List Lot} {W : List Want} : ∀ {us : List Use} {s s' : CS}, zfh L W s us = some s' → CSOk s → CSOk s'
 | [], s, s', h, hs => by cases h; exact hs
 | u :: us, s, s', h, hs => by
  obtain ⟨l, h1, h2, h3, h4⟩ := zkg h
  exact zla h4 (zsa hs h3 h2)
theorem zlp {L : List Lot} {W : List Want} {vs : List Use} : ∀ {us : List Use} {s : CS}, zfh L W s (us ++ vs) = (zfh L W s us).bind fun s => zfh L W s vs
 | [], s => rfl
 | u :: us, s => by
  rw [List.cons_append]
  simp only [zfh]
  cases ze8 L u.Lot with
  | none => rfl
  | some l =>
   simp only
   cases chkOk W s u l
   ·rfl
   ·exact zlp
theorem chkRun_one {L : List Lot} {W : List Want} {s : CS} {u : Use} {l : Lot} (hn : (L.map Lot.Id).Nodup) (hl : l ∈ L) (he : l.Id = u.Lot) (hc : ChkF W s u l) : zfh L W s [u] = some (zfg s u) := by
 simp only [zfh]
 rw [← he, lotById_of hn hl]
 simp only
 rw [znu.2 hc]; rfl
theorem zif {L : List Lot} {W : List Want} : ∀ {us : List Use} {s s' : CS}, zfh L W s us = some s' → ∀ u ∈ us, ∃ l, l ∈ L ∧ l.Id = u.Lot ∧ u.Want.toNat < W.length ∧ ze9 l (wAt W u.Want.toNat) = true
 | [], s, s', h, u, hu => by cases hu
 | a :: us, s, s', h, u, hu => by
  obtain ⟨l, h1, h2, h3, h4⟩ := zkg h
  rcases List.mem_cons.1 hu with rfl | hu
  ·exact ⟨l, h1, h2, h3.w1, h3.sv⟩
  ·exact zif h4 u hu
def sumF {α : Type} (f : α → Int) : List α → Int
 | [] => 0
 | a :: l => f a + sumF f l
theorem zgx {α : Type} {f g : α → Int} : ∀ {l : List α}, (∀ a ∈ l, f a = g a) → sumF f l = sumF g l
 | [], _ => rfl
 | a :: l, h => by simp only [sumF]; rw [h a (by simp), zgx fun b hb => h b (by simp [hb])]
theorem sumF_le {α : Type} {f g : α → Int} : ∀ {l : List α}, (∀ a ∈ l, f a ≤ g a) → sumF f l ≤ sumF g l
 | [], _ => Int.le_refl _
 | a :: l, h => by
  have h1 := h a (by simp)
  have h2 := sumF_le (l := l) fun b hb => h b (by simp [hb])
  simp only [sumF]; omega
theorem zku {α : Type} {f : α → Int} : ∀ {l : List α}, (∀ a ∈ l, f a = 0) → sumF f l = 0
 | [], _ => rfl
 | a :: l, h => by simp only [sumF]; rw [h a (by simp), zku fun b hb => h b (by simp [hb])]; rfl
theorem sumF_nn {α : Type} {f : α → Int} {l : List α} (h : ∀ a ∈ l, 0 ≤ f a) : 0 ≤ sumF f l := by
 have := sumF_le (f := fun _ => 0) (g := f) (l := l) h
 rw [zku fun _ _ => rfl] at this; exact this
theorem zpk {α : Type} {f g : α → Int} {a : α} {d : Int} : ∀ {l : List α}, l.Nodup → a ∈ l → (∀ b ∈ l, b ≠ a → f b = g b) → f a = g a + d → sumF f l = sumF g l + d
 | [], _, h, _, _ => by cases h
 | b :: l, hn, ha, ho, hd => by
  simp only [List.nodup_cons] at hn
  simp only [sumF]
  by_cases e : b = a
  ·subst e
   rw [hd, zgx fun c hc => ho c (by simp [hc]) fun e => hn.1 (by rw [← e]; exact hc)]
   omega
  ·have ha' : a ∈ l := by rcases List.mem_cons.1 ha with h | h; exact absurd h.symm e; exact h
   rw [ho b (by simp) e, zpk hn.2 ha' (fun c hc => ho c (by simp [hc])) hd]
   omega
def nS (W : List Want) (S : Nat → Bool) (l : Lot) : Bool := (List.range W.length).any fun i => S i && ze9 l (wAt W i)
def zkq (W : List Want) (need : Nat → Int) (S : Nat → Bool) : Int := sumF (fun i => bif S i then need i else 0) (List.range W.length)
def zmq (L : List Lot) (W : List Want) (left : Lf) (S : Nat → Bool) : Int := sumF (fun l => bif nS W S l then left l.Id else 0) L
def Hall (L : List Lot) (W : List Want) : Prop := ∀ S : Nat → Bool, zkq W (zdx L W).need S ≤ zmq L W (zdx L W).left S
theorem nS_of {W : List Want} {S : Nat → Bool} {l : Lot} {i : Nat} (hi : i < W.length) (hS : S i = true) (hs : ze9 l (wAt W i) = true) : nS W S l = true := by
 unfold nS
 rw [List.any_eq_true]
 exact ⟨i, List.mem_range.2 hi, by rw [hS, hs]; rfl⟩
theorem zox {α β : Type} {f : α → β} : ∀ {l : List α}, (l.map f).Nodup → l.Nodup
 | [], _ => List.Pairwise.nil
 | a :: l, h => by
  simp only [List.map_cons, List.nodup_cons] at h
  exact List.nodup_cons.2 ⟨fun ha => h.1 (List.mem_map_of_mem ha), zox h.2⟩
theorem step_need {W : List Want} {s : CS} {u : Use} (S : Nat → Bool) (hu : u.Want.toNat < W.length) : zkq W (zfg s u).need S = zkq W s.need S + (bif S u.Want.toNat then -u.Qty else 0) := by
 unfold zkq
 refine zpk (a := u.Want.toNat) List.nodup_range (List.mem_range.2 hu) (fun b _ hb => ?_) ?_
 ·simp [zfg, hb]
 ·cases S u.Want.toNat <;> simp [zfg]; omega
theorem step_left {L : List Lot} {W : List Want} {s : CS} {u : Use} {l : Lot} (S : Nat → Bool) (hn : (L.map Lot.Id).Nodup) (hl : l ∈ L) (he : l.Id = u.Lot) : zmq L W (zfg s u).left S = zmq L W s.left S + (bif nS W S l then -u.Qty else 0) := by
 unfold zmq
 refine zpk (a := l) (zox hn) hl (fun b hb hne => ?_) ?_
 ·have : b.Id ≠ u.Lot := fun e => hne (zl1 hn hb hl (by rw [e, he]))
  simp [zfg, this]
 ·cases nS W S l <;> simp [zfg, he]; omega
theorem chk_phi {L : List Lot} {W : List Want} (hn : (L.map Lot.Id).Nodup) (S : Nat → Bool) : ∀ {us : List Use} {s s' : CS}, zfh L W s us = some s' → zkq W s.need S - zmq L W s.left S ≤ zkq W s'.need S - zmq L W s'.left S
 | [], s, s', h => by cases h; exact Int.le_refl _
 | u :: us, s, s', h => by
  obtain ⟨l, h1, h2, h3, h4⟩ := zkg h
  have ih := chk_phi hn S h4
  rw [step_need S h3.w1, step_left S hn h1 h2] at ih
  have := h3.q
  cases hS : S u.Want.toNat with
  | true => rw [nS_of h3.w1 hS h3.sv, hS] at ih; simp only [cond_true] at ih; omega
  | false =>
   rw [hS] at ih
   cases hm : nS W S l <;> rw [hm] at ih <;> simp only [cond_true, cond_false] at ih <;> omega
theorem zr9 {L : List Lot} {W : List Want} (hn : (L.map Lot.Id).Nodup) (S : Nat → Bool) : ∀ {us : List Use} {s s' : CS}, zfh L W s us = some s' → (∀ u ∈ us, ∀ l ∈ L, l.Id = u.Lot → nS W S l = true → S u.Want.toNat = true) →
  zkq W s.need S - zmq L W s.left S = zkq W s'.need S - zmq L W s'.left S
 | [], s, s', h, _ => by cases h; rfl
 | u :: us, s, s', h, hx => by
  obtain ⟨l, h1, h2, h3, h4⟩ := zkg h
  have ih := zr9 hn S h4 fun v hv => hx v (by simp [hv])
  rw [step_need S h3.w1, step_left S hn h1 h2] at ih
  cases hS : S u.Want.toNat with
  | true => rw [nS_of h3.w1 hS h3.sv, hS] at ih; simp only [cond_true] at ih; omega
  | false =>
   have hm : nS W S l = false := by
    cases hm : nS W S l with
    | false => rfl
    | true => have := hx u (by simp) l h1 h2 hm; rw [hS] at this; cases this
   rw [hS, hm] at ih
   simp only [cond_false] at ih; omega
theorem zii {L : List Lot} {W : List Want} (h : zgn L W = true) : CSOk (zdx L W) := by
 obtain ⟨f1, f2, f3, f4, f5⟩ := zfp h
 refine ⟨left0_ok f3, fun i => ?_⟩
 simp only [zdx]
 by_cases hi : i < W.length
 ·rw [zik hi]; have := zew (f5 _ (List.getElem_mem hi)); omega
 ·rw [wAt_out (by omega)]; exact Int.le_refl _
theorem zqy {L : List Lot} {W : List Want} {us : List Use} (h : ziv L W us = true) : zgn L W = true ∧ Hall L W := by
 unfold ziv at h
 rw [Bool.and_eq_true] at h
 obtain ⟨hm, h⟩ := h
 refine ⟨hm, fun S => ?_⟩
 obtain ⟨f1, f2, f3, f4, f5⟩ := zfp hm
 cases e : zfh L W (zdx L W) us with
 | none => rw [e] at h; cases h
 | some s =>
  rw [e] at h
  simp only [List.all_eq_true, decide_eq_true_eq] at h
  have ok := zla e (zii hm)
  have ph := chk_phi f4 S e
  have z : zkq W s.need S = 0 := zku fun i hi => by rw [h i hi]; cases S i <;> rfl
  have nn : 0 ≤ zmq L W s.left S := sumF_nn fun l _ => by
   cases nS W S l
   ·exact Int.le_refl _
   ·exact ok.left _
  omega
end Go.Ab
namespace Go.Ab
def bef (W : List Want) (i j : Nat) : Prop := (wAt W i).Day < (wAt W j).Day ∨ ((wAt W i).Day = (wAt W j).Day ∧ i < j)
theorem bef_of {W : List Want} {a b : Fin W.length} (h : before W a b) : bef W a.val b.val := by
 unfold bef before at *
 rw [zik a.2, zik b.2]; exact h
theorem bef_total {W : List Want} {i j : Nat} (h : i ≠ j) : bef W i j ∨ bef W j i := by unfold bef; omega
theorem bef_day {W : List Want} {i j : Nat} (h : i = j ∨ bef W i j) : (wAt W i).Day ≤ (wAt W j).Day := by
 rcases h with rfl | h
 ·exact Int.le_refl _
 ·unfold bef at h; omega
structure GInv (L : List Lot) (W : List Want) (lim : Nat → Prop) (cur : Nat → Int) (left : Lf) (out : List Use) : Prop where
 run : zfh L W (zdx L W) out = some ⟨left, cur⟩
 E : ∀ u ∈ out, ∀ m ∈ L, ∀ m' ∈ L, m'.Id = u.Lot → zjw m m' < 0 → ze9 m (wAt W u.Want.toNat) = true → left m.Id = 0
 R : out.Pairwise fun u v => (∀ m ∈ L, ∀ m' ∈ L, m.Id = v.Lot → m'.Id = u.Lot → zjw m m' < 0 → ze9 m (wAt W u.Want.toNat) = true → False) ∧ (u.Want.toNat = v.Want.toNat ∨ bef W u.Want.toNat v.Want.toNat)
 M : ∀ u ∈ out, lim u.Want.toNat
theorem zd8 {l : Lot} {w : Want} : ze9 l w = true ↔ l.Item = w.Item ∧ zby.has ⟨l.From, l.zdy⟩ w.Day = true := by
 simp [ze9]
theorem GInv.step {L : List Lot} {W : List Want} (hn : (L.map Lot.Id).Nodup) (hstart : CSOk (zdx L W)) {p : Nat} (hp : p < W.length) {lim : Nat → Prop} (hlim : lim p) (hlp : ∀ q, lim q → q = p ∨ bef W q p) {cur : Nat → Int} {st : FS5} {pre : List Lot} {l : Lot} (hl : l ∈ L) (hi : l.Item = (wAt W p).Item)
  (hpre : ∀ m ∈ L, m.Item = (wAt W p).Item → zjw m l < 0 → m ∈ pre)
  (g : GInv L W lim (fun i => if i = p then st.need else cur i) st.left st.out) (hk : st.need = 0 ∨ ∀ m ∈ pre, ze9 m (wAt W p) = true → st.left m.Id = 0) :
  GInv L W lim (fun i => if i = p then (zfj (p : Int) (wAt W p) st l).need else cur i) (zfj (p : Int) (wAt W p) st l).left (zfj (p : Int) (wAt W p) st l).out ∧
  ((zfj (p : Int) (wAt W p) st l).need = 0 ∨ ∀ m ∈ pre ++ [l], ze9 m (wAt W p) = true → (zfj (p : Int) (wAt W p) st l).left m.Id = 0) := by
 have ok := zla g.run hstart
 have hneed : 0 ≤ st.need := by have := ok.need p; simpa using this
 have hok : FSOk st := ⟨ok.left, hneed⟩
 have tk := zm1 hok l
 by_cases hc : zfw st l = 0 ∨ zby.has ⟨l.From, l.zdy⟩ (wAt W p).Day = false
 ·have e : zfj (p : Int) (wAt W p) st l = st := by unfold zfj; rw [if_pos hc]
  rw [e]
  refine ⟨g, ?_⟩
  by_cases h0 : st.need = 0
  ·exact .inl h0
  ·right
   intro m hm hs
   rcases List.mem_append.1 hm with hm | hm
   ·exact (hk.resolve_left h0) m hm hs
   ·rw [List.mem_singleton.1 hm] at hs ⊢
    rcases hc with hc | hc
    ·unfold zfw at hc
     have := ok.left l.Id
     simp only at this
     omega
    ·rw [(zd8.1 hs).2] at hc; cases hc
 ·have e : zfj (p : Int) (wAt W p) st l = ⟨fun n => if n = l.Id then st.left l.Id - zfw st l else st.left n, st.need - zfw st l, st.out ++ [⟨p, l.Id, zfw st l⟩]⟩ := by unfold zfj; rw [if_neg hc]
  have h1 : zfw st l ≠ 0 := fun h => hc (.inl h)
  have h2 : zby.has ⟨l.From, l.zdy⟩ (wAt W p).Day = true := by
   cases h : zby.has ⟨l.From, l.zdy⟩ (wAt W p).Day
   ·exact absurd (.inr h) hc
   ·rfl
  have hsv : ze9 l (wAt W p) = true := zd8.2 ⟨hi, h2⟩
  have hk' := hk.resolve_left (by omega)
  rw [e]
  refine ⟨⟨?_, ?_, ?_, ?_⟩, ?_⟩
  ·rw [zlp, g.run]
   simp only [Option.bind_some]
   rw [chkRun_one hn hl rfl ⟨by simp, by simpa using hp, by simp only; omega, by simp only; omega, by simp; omega, by simpa using hsv⟩]
   simp only [zfg, Int.toNat_natCast]
   congr 2
   ·funext n; split
    ·rename_i e; subst e; rfl
    ·rfl
   ·funext i; split <;> rfl
  ·intro u hu m hm m' hm' hid hlt hs
   simp only
   split
   ·rename_i em
    have hml : m = l := zl1 hn hm hl em
    subst hml
    rcases List.mem_append.1 hu with hu | hu
    ·have := g.E u hu m hm m' hm' hid hlt hs; omega
    ·rw [List.mem_singleton.1 hu] at hid
     have : m' = m := zl1 hn hm' hl hid
     subst this
     have := lotW.irr m'
     unfold zci at this
     rw [decide_eq_false_iff_not] at this
     exact absurd hlt this
   ·rcases List.mem_append.1 hu with hu | hu
    ·exact g.E u hu m hm m' hm' hid hlt hs
    ·rw [List.mem_singleton.1 hu] at hid hs
     have : m' = l := zl1 hn hm' hl hid
     subst this
     simp only [Int.toNat_natCast] at hs
     exact hk' m (hpre m hm (zd8.1 hs).1 hlt) hs
  ·rw [List.pairwise_append]
   refine ⟨g.R, List.pairwise_singleton _ _, fun u hu v hv => ?_⟩
   rw [List.mem_singleton.1 hv]
   refine ⟨fun m hm m' hm' h3 h4 h5 h6 => ?_, ?_⟩
   ·have hml : m = l := zl1 hn hm hl h3
    subst hml
    have := g.E u hu m hm m' hm' h4 h5 h6; omega
   ·have := hlp _ (g.M u hu)
    simpa using this
  ·intro u hu
   rcases List.mem_append.1 hu with hu | hu
   ·exact g.M u hu
   ·rw [List.mem_singleton.1 hu]; simpa using hlim
  ·simp only
   by_cases h0 : st.need - zfw st l = 0
   ·exact .inl h0
   ·right
    intro m hm hs
    split
    ·unfold zfw at *; omega
    ·rcases List.mem_append.1 hm with hm | hm
     ·exact hk' m hm hs
     ·rename_i ne; rw [List.mem_singleton.1 hm] at ne; exact absurd rfl ne
theorem zp1 {L : List Lot} {w : Want} {m : Lot} : m ∈ rowOf L w ↔ m ∈ L ∧ m.Item = w.Item := by
 unfold rowOf
 rw [List.mem_filter, (zg7 L).mem_iff]; simp
theorem rowOf_up (L : List Lot) (w : Want) : (rowOf L w).Pairwise fun a b => zci zjw b a = false := (sortLots_up L).filter _
theorem GInv.row {L : List Lot} {W : List Want} (hn : (L.map Lot.Id).Nodup) (hstart : CSOk (zdx L W)) {p : Nat} (hp : p < W.length) {lim : Nat → Prop} (hlim : lim p) (hlp : ∀ q, lim q → q = p ∨ bef W q p) {cur : Nat → Int} :
  ∀ (post pre : List Lot) {st : FS5}, pre ++ post = rowOf L (wAt W p) → GInv L W lim (fun i => if i = p then st.need else cur i) st.left st.out → (st.need = 0 ∨ ∀ m ∈ pre, ze9 m (wAt W p) = true → st.left m.Id = 0) →
   GInv L W lim (fun i => if i = p then (post.foldl (zfj (p : Int) (wAt W p)) st).need else cur i) (post.foldl (zfj (p : Int) (wAt W p)) st).left (post.foldl (zfj (p : Int) (wAt W p)) st).out ∧
   ((post.foldl (zfj (p : Int) (wAt W p)) st).need = 0 ∨ ∀ m ∈ rowOf L (wAt W p), ze9 m (wAt W p) = true → (post.foldl (zfj (p : Int) (wAt W p)) st).left m.Id = 0)
 | [], pre, st, he, g, hk => by rw [List.append_nil] at he; rw [← he]; exact ⟨g, hk⟩
 | l :: post, pre, st, he, g, hk => by
  have hl : l ∈ rowOf L (wAt W p) := by rw [← he]; simp
  obtain ⟨hl1, hl2⟩ := zp1.1 hl
  have hs := g.step hn hstart hp hlim hlp hl1 hl2 (pre := pre) (fun m hm hi hlt => by
   have hm' : m ∈ rowOf L (wAt W p) := zp1.2 ⟨hm, hi⟩
   rw [← he] at hm'
   rcases List.mem_append.1 hm' with h | h
   ·exact h
   ·have hup := rowOf_up L (wAt W p)
    rw [← he, List.pairwise_append] at hup
    have := hup.2.1
    rcases List.mem_cons.1 h with rfl | h
    ·have := lotW.irr m
     unfold zci at this; rw [decide_eq_false_iff_not] at this
     exact absurd hlt this
    ·have := (List.pairwise_cons.1 this).1 m h
     unfold zci at this; rw [decide_eq_false_iff_not] at this
     exact absurd hlt this) hk
  exact GInv.row hn hstart hp hlim hlp post (pre ++ [l]) (by simpa using he) hs.1 hs.2
structure Stuck (L : List Lot) (W : List Want) (p : Nat) (cur : Nat → Int) (left : Lf) (out : List Use) : Prop where
 inv : GInv L W (fun q => q = p ∨ bef W q p) cur left out
 lt : p < W.length
 pos : 0 < cur p
 none_ : ∀ m ∈ L, ze9 m (wAt W p) = true → left m.Id = 0
theorem zqt {L : List Lot} {W : List Want} (hn : (L.map Lot.Id).Nodup) (hstart : CSOk (zdx L W)) :
  ∀ (ps A : List (Fin W.length)) {left : Lf} {out : List Use}, A ++ ps = zc0 W → GInv L W (fun q => ∃ a ∈ A, a.val = q) (fun i => if ∃ a ∈ A, a.val = i then 0 else (wAt W i).Qty) left out →
   (∀ us lf, zhe L W ps left out = some (us, lf) → ∃ cur, zfh L W (zdx L W) us = some ⟨lf, cur⟩ ∧ ∀ i < W.length, cur i = 0) ∧
   (zhe L W ps left out = none → ∃ p cur lf us, Stuck L W p cur lf us)
 | [], A, left, out, he, g => by
  rw [List.append_nil] at he
  refine ⟨fun us lf h => ?_, fun h => by cases h⟩
  cases h
  refine ⟨_, g.run, fun i hi => ?_⟩
  rw [if_pos]
  exact ⟨⟨i, hi⟩, by rw [he]; exact dayOrder_mem W _, rfl⟩
 | p :: ps, A, left, out, he, g => by
  have hup := dayOrder_up W
  rw [← he, List.pairwise_append] at hup
  have hnp : ¬ ∃ a ∈ A, a.val = p.val := fun ⟨a, ha, e⟩ => by
   have := hup.2.2 a ha p (by simp)
   rw [Fin.ext e] at this
   exact before_irr W _ this
  have hw : wAt W p.val = W[p] := zik p.2
  have hst := GInv.row hn hstart (p := p.val) p.2 (lim := fun q => (∃ a ∈ A, a.val = q) ∨ q = p.val) (.inr rfl) (fun q hq => by
   rcases hq with ⟨a, ha, rfl⟩ | rfl
   ·exact .inr (bef_of (hup.2.2 a ha p (by simp)))
   ·exact .inl rfl) (cur := fun i => if ∃ a ∈ A, a.val = i then 0 else (wAt W i).Qty) (rowOf L (wAt W p.val)) [] (st := ⟨left, W[p].Qty, out⟩) rfl (by
    have e : (fun i => if i = p.val then W[p].Qty else if ∃ a ∈ A, a.val = i then 0 else (wAt W i).Qty) = fun i => if ∃ a ∈ A, a.val = i then 0 else (wAt W i).Qty := by
     funext i
     by_cases ei : i = p.val
     ·subst ei; rw [if_pos rfl, if_neg hnp, hw]
     ·rw [if_neg ei]
    simp only at e ⊢
    rw [e]
    exact ⟨g.run, g.E, g.R, fun u hu => .inl (g.M u hu)⟩) (.inr (by simp))
  have efold : (rowOf L (wAt W p.val)).foldl (zfj (p.val : Int) (wAt W p.val)) ⟨left, W[p].Qty, out⟩ = zfr L (p.val : Int) W[p] left out := by unfold zfr; rw [hw]
  rw [efold] at hst
  obtain ⟨g2, hk⟩ := hst
  have ok2 := zla g2.run hstart
  have hn2 : 0 ≤ (zfr L (p.val : Int) W[p] left out).need := by have := ok2.need p.val; simpa using this
  by_cases hc : 0 < (zfr L (p.val : Int) W[p] left out).need
  ·refine ⟨fun us lf h => ?_, fun _ => ⟨p.val, fun i => if i = p.val then (zfr L (p.val : Int) W[p] left out).need else if ∃ a ∈ A, a.val = i then 0 else (wAt W i).Qty, (zfr L (p.val : Int) W[p] left out).left, (zfr L (p.val : Int) W[p] left out).out, ⟨?_, p.2, by simpa using hc, fun m hm hs => ?_⟩⟩⟩
   ·simp only [zhe, if_pos hc] at h; cases h
   ·exact ⟨g2.run, g2.E, g2.R, fun u hu => by
     rcases g2.M u hu with ⟨a, ha, e⟩ | e
     ·right; rw [← e]; exact bef_of (hup.2.2 a ha p (by simp))
     ·exact .inl e⟩
   ·rcases hk with hk | hk
    ·omega
    ·exact hk m (zp1.2 ⟨hm, (zd8.1 hs).1⟩) hs
  ·have ih := zqt hn hstart ps (A ++ [p]) (left := (zfr L (p.val : Int) W[p] left out).left) (out := (zfr L (p.val : Int) W[p] left out).out) (by simpa using he) (by
    have e : (fun i => if i = p.val then (zfr L (p.val : Int) W[p] left out).need else if ∃ a ∈ A, a.val = i then 0 else (wAt W i).Qty) = fun i => if ∃ a ∈ A ++ [p], a.val = i then 0 else (wAt W i).Qty := by
     funext i
     by_cases ei : i = p.val
     ·subst ei; rw [if_pos rfl, if_pos ⟨p, by simp, rfl⟩]; omega
     ·rw [if_neg ei]
      by_cases ea : ∃ a ∈ A, a.val = i
      ·obtain ⟨a, ha, e⟩ := ea
       rw [if_pos ⟨a, ha, e⟩, if_pos ⟨a, by simp [ha], e⟩]
      ·rw [if_neg ea, if_neg]
       rintro ⟨a, ha, e⟩
       rcases List.mem_append.1 ha with ha | ha
       ·exact ea ⟨a, ha, e⟩
       ·rw [List.mem_singleton.1 ha] at e; exact ei e.symm
    rw [← e]
    exact ⟨g2.run, g2.E, g2.R, fun u hu => by
     rcases g2.M u hu with ⟨a, ha, e⟩ | e
     ·exact ⟨a, by simp [ha], e⟩
     ·exact ⟨p, by simp, e.symm⟩⟩)
   simp only [zhe, if_neg hc]
   exact ih
inductive Way (L : List Lot) (W : List Want) (P : Nat) (out : List Use) : Nat → Prop
 | base : Way L W P out P
 | step {p : Nat} {m : Lot} {u : Use} : Way L W P out p → m ∈ L → ze9 m (wAt W p) = true → u ∈ out → u.Lot = m.Id → u.Want.toNat = p ∨ bef W u.Want.toNat p → Way L W P out u.Want.toNat
theorem has_of {l : Lot} {d d' : Int} {m : Lot} (h : zby.has ⟨l.From, l.zdy⟩ d = true) (hm : zby.has ⟨m.From, m.zdy⟩ d' = true) (hd : d ≤ d') (hu : ¬ zjw l m < 0) : zby.has ⟨l.From, l.zdy⟩ d' = true := by
 simp only [zby.has, Bool.and_eq_true, decide_eq_true_eq] at *
 rw [zof] at hu
 refine ⟨⟨h.1.1, by omega⟩, by omega⟩
section
variable {L : List Lot} {W : List Want} {P : Nat} {cur : Nat → Int} {left : Lf} {out : List Use}
theorem Way.item (hn : (L.map Lot.Id).Nodup) (s : Stuck L W P cur left out) {q : Nat} (h : Way L W P out q) : (wAt W q).Item = (wAt W P).Item ∧ q < W.length := by
 induction h with
 | base => exact ⟨rfl, s.lt⟩
 | step w hm hs hu he hb ih =>
  obtain ⟨l, h1, h2, h3, h4⟩ := zif s.inv.run _ hu
  have := zl1 hn h1 hm (by rw [h2, he])
  subst this
  exact ⟨by rw [← ih.1, ← (zd8.1 h4).1, (zd8.1 hs).1], h3⟩
theorem Way.over (hn : (L.map Lot.Id).Nodup) (s : Stuck L W P cur left out) {q : Nat} (h : Way L W P out q) : ∀ l ∈ L, ze9 l (wAt W q) = true → left l.Id = 0 := by
 induction h with
 | base => exact s.none_
 | @step p m u w hm hs hu he hb ih =>
  intro l hl hls
  by_cases hc : zjw l m < 0
  ·exact s.inv.E _ hu l hl m hm he.symm hc hls
  ·refine ih l hl ?_
   obtain ⟨l', h1, h2, h3, h4⟩ := zif s.inv.run _ hu
   have := zl1 hn h1 hm (by rw [h2, he])
   subst this
   obtain ⟨i1, a1⟩ := zd8.1 hls
   obtain ⟨i2, a2⟩ := zd8.1 hs
   obtain ⟨i3, a3⟩ := zd8.1 h4
   exact zd8.2 ⟨by rw [i1, ← i3, i2], has_of a1 a2 (bef_day hb) hc⟩
theorem Way.all (hn : (L.map Lot.Id).Nodup) (s : Stuck L W P cur left out) {q : Nat} (h : Way L W P out q) : ∀ m ∈ L, ze9 m (wAt W q) = true → ∀ v ∈ out, v.Lot = m.Id → Way L W P out v.Want.toNat := by
 induction h with
 | base => intro m hm hs v hv he; exact .step .base hm hs hv he (s.inv.M v hv)
 | @step p m' u w hm' hs' hu he' hb ih =>
  intro m hm hs v hv he
  have hwq : Way L W P out u.Want.toNat := .step w hm' hs' hu he' hb
  by_cases hx : v.Want.toNat = u.Want.toNat ∨ bef W v.Want.toNat u.Want.toNat
  ·exact .step hwq hm hs hv he hx
  ·have hvu : v.Want.toNat ≠ u.Want.toNat := fun e => hx (.inl e)
   have hbv : bef W u.Want.toNat v.Want.toNat := by
    rcases bef_total hvu with h | h
    ·exact absurd (.inr h) hx
    ·exact h
   by_cases hc : zjw m m' < 0
   ·exfalso
    obtain ⟨i, hi, ei⟩ := List.getElem_of_mem hu
    obtain ⟨j, hj, ej⟩ := List.getElem_of_mem hv
    have hp := List.pairwise_iff_getElem.1 s.inv.R
    rcases Nat.lt_trichotomy i j with hij | hij | hij
    ·have := (hp i j hi hj hij).1
     rw [ei, ej] at this
     exact this m hm m' hm' he.symm he'.symm hc hs
    ·subst hij; rw [ei] at ej; subst ej; exact hvu rfl
    ·have := (hp j i hj hi hij).2
     rw [ei, ej] at this
     exact hx this
   ·refine ih m hm ?_ v hv he
    obtain ⟨l', h1, h2, h3, h4⟩ := zif s.inv.run _ hu
    have := zl1 hn h1 hm' (by rw [h2, he'])
    subst this
    obtain ⟨i1, a1⟩ := zd8.1 hs
    obtain ⟨i2, a2⟩ := zd8.1 hs'
    obtain ⟨i3, a3⟩ := zd8.1 h4
    exact zd8.2 ⟨by rw [i1, ← i3, i2], has_of a1 a2 (bef_day hb) hc⟩
open Classical in
theorem stuck_hall (hn : (L.map Lot.Id).Nodup) (hstart : CSOk (zdx L W)) (s : Stuck L W P cur left out) : ∃ S : Nat → Bool, (∀ i, S i = true → i < W.length ∧ (wAt W i).Item = (wAt W P).Item) ∧ zmq L W (zdx L W).left S < zkq W (zdx L W).need S := by
 refine ⟨fun i => decide (Way L W P out i), fun i hi => ?_, ?_⟩
 ·have := Way.item hn s (of_decide_eq_true hi)
  exact ⟨this.2, this.1⟩
 ·have ok := zla s.inv.run hstart
  have ph := zr9 hn (fun i => decide (Way L W P out i)) s.inv.run (fun u hu l hl he hm => by
   unfold nS at hm
   rw [List.any_eq_true] at hm
   obtain ⟨i, _, hi⟩ := hm
   rw [Bool.and_eq_true] at hi
   exact decide_eq_true (Way.all hn s (of_decide_eq_true hi.1) l hl hi.2 u hu he.symm))
  have hz : zmq L W left (fun i => decide (Way L W P out i)) = 0 := zku fun l hl => by
   cases hm : nS W (fun i => decide (Way L W P out i)) l with
   | false => rfl
   | true =>
    unfold nS at hm
    rw [List.any_eq_true] at hm
    obtain ⟨i, _, hi⟩ := hm
    rw [Bool.and_eq_true] at hi
    exact Way.over hn s (of_decide_eq_true hi.1) l hl hi.2
  have hpos : 0 < zkq W cur (fun i => decide (Way L W P out i)) := by
   have h1 := zpk (f := fun i => bif decide (Way L W P out i) then cur i else 0) (g := fun i => if i = P then 0 else bif decide (Way L W P out i) then cur i else 0) (a := P) (d := cur P) (l := List.range W.length) List.nodup_range (List.mem_range.2 s.lt) (fun b _ hb => by simp [hb]) (by simp [Way.base])
   have h2 : 0 ≤ sumF (fun i => if i = P then 0 else bif decide (Way L W P out i) then cur i else 0) (List.range W.length) := sumF_nn fun i _ => by
    have := ok.need i
    simp only at this
    split
    ·exact Int.le_refl _
    ·cases decide (Way L W P out i)
     ·exact Int.le_refl _
     ·exact this
   have := s.pos
   simp only [zkq]
   omega
  simp only at ph
  omega
end
theorem zr0 {L : List Lot} {W : List Want} (h : zgn L W = true) :
  (∀ us lf, zeu L W = some (us, lf) → ∃ cur, zfh L W (zdx L W) us = some ⟨lf, cur⟩ ∧ ∀ i < W.length, cur i = 0) ∧
  (zeu L W = none → ∃ p cur lf us, Stuck L W p cur lf us) := by
 obtain ⟨f1, f2, f3, f4, f5⟩ := zfp h
 have e : zeu L W = zhe L W (zc0 W) (zrd L) [] := by unfold zeu; rw [h]; rfl
 rw [e]
 refine zqt f4 (zii h) (zc0 W) [] rfl ⟨?_, by simp, List.Pairwise.nil, by simp⟩
 simp [zfh, zdx]
theorem zni {L : List Lot} {W : List Want} {us : List Use} {lf : Lf} (h : zeu L W = some (us, lf)) : zgn L W = true ∧ ziv L W us = true := by
 have hm : zgn L W = true := by
  unfold zeu at h
  cases hm : zgn L W with
  | true => rfl
  | false => rw [hm] at h; cases h
 obtain ⟨cur, h1, h2⟩ := (zr0 hm).1 us lf h
 refine ⟨hm, ?_⟩
 unfold ziv
 rw [hm, h1]
 simp only [Bool.true_and, List.all_eq_true, decide_eq_true_eq]
 exact fun i hi => h2 i (List.mem_range.1 hi)
theorem greedy_why {L : List Lot} {W : List Want} (hm : zgn L W = true) (h : zeu L W = none) : ∃ S : Nat → Bool, (∃ p < W.length, S p = true ∧ ∀ i, S i = true → i < W.length ∧ (wAt W i).Item = (wAt W p).Item) ∧ zmq L W (zdx L W).left S < zkq W (zdx L W).need S := by
 obtain ⟨f1, f2, f3, f4, f5⟩ := zfp hm
 obtain ⟨p, cur, lf, us, s⟩ := (zr0 hm).2 h
 obtain ⟨S, h1, h2⟩ := stuck_hall f4 (zii hm) s
 by_cases hS : ∃ q, S q = true
 ·obtain ⟨q, hq⟩ := hS
  exact ⟨S, ⟨q, (h1 q hq).1, hq, fun i hi => ⟨(h1 i hi).1, by rw [(h1 i hi).2, (h1 q hq).2]⟩⟩, h2⟩
 ·exfalso
  have e : zkq W (zdx L W).need S = 0 := zku fun i _ => by
   cases hi : S i with
   | false => rfl
   | true => exact absurd ⟨i, hi⟩ hS
  have : 0 ≤ zmq L W (zdx L W).left S := sumF_nn fun l _ => by
   cases nS W S l
   ·exact Int.le_refl _
   ·exact (zii hm).left _
  omega
theorem zmt {L : List Lot} {W : List Want} (hm : zgn L W = true) : (zeu L W).isSome = true ↔ Hall L W := by
 constructor
 ·intro h
  cases e : zeu L W with
  | none => rw [e] at h; cases h
  | some x => exact (zqy (zni (us := x.1) (lf := x.2) e).2).2
 ·intro h
  cases e : zeu L W with
  | some x => rfl
  | none =>
   obtain ⟨S, _, hS⟩ := greedy_why hm e
   have := h S
   omega
end Go.Ab
namespace Go.Ab
variable {C : CSem} {N : Nat → Nat}
theorem SlX.nilC {h : za} {es : Nat} {x : AVal} {L R : List (List AVal)} (hs : SlX h es x L R) {i f : Nat} (hi : i < L.length) (K : AVal → Prop) : B.nilCheck (elp es x i f) K = K (elp es x i f) := by
 rcases hs.at_ with ⟨e, _⟩ | ⟨id, g, off, cp, b, hi', h1, _⟩
 ·subst e; simp at hi
 ·subst h1; simp only [elp]; exact B.zg0 ..
def z4.Spec (C : CSem) (N : Nat → Nat) : Prop := ∀ (x : AVal) (L : List Want) (R : List (List AVal)) (h : za) (Q : AVal → za → Prop), SlX h 3 x (L.map Want.cs) R → L.length ≤ 100000000 →
 (∀ x' h', Owns h h' [.sl 3 x' (L.map Want.cs) []] → Q x' h') → C (N 238) [x] h Q
theorem z4.spec (i : z4.Imp C N) : z4.Spec C N := by
 intro x L R h Q hx hlen hq
 exact i _ _ _ (zr8 wantS hx hlen fun x' h' ho => zbl (hq x' h' ho))
def zdq.Spec (C : CSem) (N : Nat → Nat) : Prop := ∀ (w : Want) (h : za) (Q : AVal → za → Prop), Q (.bool (decide (0 < w.Qty))) h → C (N 236) [.agg w.cs] h Q
theorem zdq.spec (i : zdq.Imp C N) : zdq.Spec C N := by
 intro w h Q hq
 apply i
 simp +contextual -dsimp
 exact zbl hq
def zg4 (W : List Want) (need : Nat → Int) : List Want := (List.range W.length).map fun i => { wAt W i with Qty := need i }
@[simp] theorem wantsAt_len (W : List Want) (need : Nat → Int) : (zg4 W need).length = W.length := by simp [zg4]
theorem zij {W : List Want} {need : Nat → Int} {i : Nat} (h : i < W.length) : (zg4 W need)[i]? = some { wAt W i with Qty := need i } := by simp [zg4, h]
theorem wantsAt_start (L : List Lot) (W : List Want) : zg4 W (zdx L W).need = W := by
 apply List.ext_getElem?
 intro i
 by_cases hi : i < W.length
 ·rw [zij hi, List.getElem?_eq_getElem hi]
  simp only [zdx, zik hi]
 ·rw [List.getElem?_eq_none (by simp; omega), List.getElem?_eq_none (by omega)]
theorem wantsAt_set {W : List Want} {need : Nat → Int} {i : Nat} (h : i < W.length) (n : Int) : (zg4 W need).set i { wAt W i with Qty := n } = zg4 W fun j => if j = i then n else need j := by
 apply List.ext_getElem?
 intro j
 rw [List.getElem?_set]
 by_cases hj : i = j
 ·subst hj; rw [if_pos rfl, if_pos (by simpa using h), zij h]; simp
 ·rw [if_neg hj]
  by_cases hl : j < W.length
  ·rw [zij hl, zij hl]; simp [Ne.symm hj]
  ·rw [List.getElem?_eq_none (by simp; omega), List.getElem?_eq_none (by simp; omega)]
abbrev vLot (l : Lot) : AVal := .agg l.cs
theorem useLot (u : Use) : V.zch 1 (.agg u.cs) = some (.int .i64 u.Lot) := by simp
theorem useQty (u : Use) : V.zch 2 (.agg u.cs) = some (.int .i64 u.Qty) := by simp
theorem setUse (u : Use) : V.setN 0 3 (.agg u.cs) (.agg [.int .i64 0, .int .i64 0, .int .i64 0]) = some (.agg u.cs) := by simp
theorem lotById_succ {L : List Lot} {k : Nat} (hk : k < L.length) (hn : (L.map Lot.Id).Nodup) (n : Int) : ze8 (L.take (k + 1)) n = if n = L[k].Id then some L[k] else ze8 (L.take k) n := by
 unfold ze8
 rw [take_one hk, List.find?_append]
 by_cases e : n = L[k].Id
 ·rw [if_pos e]
  have : (L.take k).find? (fun l => decide (l.Id = n)) = none := by
   rw [List.find?_eq_none]
   intro l hl
   simp only [decide_eq_true_eq]
   intro e2
   obtain ⟨j, hj, rfl⟩ := List.getElem_of_mem hl
   rw [List.length_take] at hj
   rw [List.getElem_take] at e2
   have := zjt hn (i := j) (j := k) (by simp; omega) (by simpa using hk) (by simp [e2, e])
   omega
  rw [this]; simp [e]
 ·rw [if_neg e]
  cases (L.take k).find? (fun l => decide (l.Id = n)) with
  | some l => rfl
  | none => simp [Ne.symm e]
def zb7.Spec (C : CSem) (N : Nat → Nat) : Prop := ∀ (x y z : AVal) (L : List Lot) (W : List Want) (U : List Use) (R S T : List (List AVal)) (h : za) (Q : AVal → za → Prop), SlX h 6 x (L.map Lot.cs) R → SlX h 3 y (W.map Want.cs) S → SlX h 3 z (U.map Use.cs) T →
 L.length < 4611686018427387904 → W.length < 4611686018427387904 → U.length < 4611686018427387904 → Q (.bool (ziv L W U)) h → C (N 225) [x, y, z] h Q
theorem checks_none {L : List Lot} {W : List Want} {U : List Use} {s : CS} {k : Nat} (hk : k < U.length) (h : zfh L W (zdx L W) (U.take k) = some s) (hno : ∀ l, ze8 L U[k].Lot = some l → ¬ ChkF W s U[k] l) : ziv L W U = false := by
 unfold ziv
 have e : U = U.take k ++ U[k] :: U.drop (k + 1) := by rw [← List.drop_eq_getElem_cons hk, List.take_append_drop]
 have : zfh L W (zdx L W) U = none := by
  rw [e, zlp, h]
  simp only [Option.bind_some, zfh]
  cases hl : ze8 L U[k].Lot with
  | none => rfl
  | some l =>
   simp only
   have := hno l hl
   rw [← znu] at this
   rw [Bool.not_eq_true] at this
   rw [this]; rfl
 rw [this]
 simp
theorem checks_next {L : List Lot} {W : List Want} {U : List Use} {s : CS} {k : Nat} (hk : k < U.length) (h : zfh L W (zdx L W) (U.take k) = some s) {l : Lot} (hl : ze8 L U[k].Lot = some l) (hc : ChkF W s U[k] l) : zfh L W (zdx L W) (U.take (k + 1)) = some (zfg s U[k]) := by
 rw [take_one hk, zlp, h]
 simp only [Option.bind_some, zfh, hl]
 rw [znu.2 hc]; rfl
section
variable {h0 h : za} {id : Nat} {L : List Lot} {W : List Want} {U : List Use} {Q : AVal → za → Prop} {x y z cl : AVal} {T : List (List AVal)}
structure CSm (s : CS) : Prop where
 left : ∀ n, s.left n ≤ 1073741824
 need : ∀ n, s.need n ≤ 1125899906842624
theorem chkStep_sm {s : CS} (h : CSm s) {u : Use} (hq : 1 ≤ u.Qty) : CSm (zfg s u) := by
 refine ⟨fun n => ?_, fun i => ?_⟩ <;> unfold zfg <;> simp only <;> split
 ·have := h.left n; omega
 ·exact h.left n
 ·have := h.need i; omega
 ·exact h.need i
theorem check_uses (s1 : zds.Spec C N) (s2 : zl.Spec C N) (s3 : zdq.Spec C N) (hm : zgn L W = true) (hz : SlX h0 3 z (U.map Use.cs) T) (hU : U.length < 4611686018427387904) {ps : Ents Int Lot} {c : Nat}
  (ho : Owns h0 h [.blk id (zd6 (encM kI vLot ps) c), .sl 3 cl (W.map Want.cs) []]) (hp : ∀ n, getP ps n = ze8 L n)
  (hq : ∀ h', h0.le h' → Q (.bool (ziv L W U)) h') : zr (zb7.l2 C N Q (.mp id) cl z (.int .i64 (U.length : Int))) [.int .i64 0] h := by
 obtain ⟨f1, f2, f3, f4, f5⟩ := zfp hm
 have hs0 := zii hm
 have hsm0 : CSm (zdx L W) := ⟨(left0_bnd f3).le, fun i => by
  simp only [zdx]
  by_cases hi : i < W.length
  ·rw [zik hi]; have := zew (f5 _ (List.getElem_mem hi)); omega
  ·rw [wAt_out (by omega)]; simp⟩
 refine zr.intro (fun t vs hh => ∃ (k : Nat) (ps : Ents Int Lot) (c : Nat) (s : CS), k + t = U.length ∧ vs = [.int .i64 (k : Int)] ∧ Owns h0 hh [.blk id (zd6 (encM kI vLot ps) c), .sl 3 cl ((zg4 W s.need).map Want.cs) []] ∧
  (∀ n, getP ps n = (ze8 L n).map fun l => { l with Qty := s.left l.Id }) ∧ zfh L W (zdx L W) (U.take k) = some s ∧ CSOk s ∧ CSm s) U.length ?_ ⟨0, ps, c, zdx L W, by omega, rfl, by rw [wantsAt_start]; exact ho, fun n => ?_, rfl, hs0, hsm0⟩
 ·rintro Y t vs hh ⟨k, ps, c, s, hkt, rfl, o, hg, hr, hok, hsm⟩ hY
  simp -dsimp only [zb7.l2, zb7.k1, lssN, B.ze]
  refine B.zt (fun hb => ?_) (fun hb => ?_) <;> simp only [decide_eq_true_eq, decide_eq_false_iff_not] at hb
  ·have hzz := hz.mono o.le
   have hgu : (U.map Use.cs)[k]? = some (U[k]).cs := by rw [List.getElem?_map, List.getElem?_eq_getElem hb]; rfl
   have hidx : V.idxS 3 z (.int .i64 (k : Int)) = some (elp 3 z k 0) := hzz.idxN (by simpa using hb)
   have hcl := o.slAt 1 rfl
   have hle := o.le
   have ecl := hcl.zc3
   rw [List.length_map, wantsAt_len] at ecl
   have hlk : A.lkp hh (some .i) (some (.agg [.int .i64 0, .str [], .int .i64 0, .int .i64 0, .int .i64 0, .bool false])) true (.mp id) (.int .i64 U[k].Lot) = some (.tup [vLot ((getP ps U[k].Lot).getD ⟨0, [], 0, 0, 0, false⟩), .bool (getP ps U[k].Lot).isSome]) :=
    o.lkp2 0 rfl keyI (⟨0, [], 0, 0, 0, false⟩ : Lot) U[k].Lot
   have no : (∀ l, ze8 L U[k].Lot = some l → ¬ ChkF W s U[k] l) → Q (.bool false) hh := fun hno => by
    have := hq hh hle
    rw [checks_none hb hr hno] at this; exact this
   cases hl : ze8 L U[k].Lot with
   | none =>
    rw [hg, hl] at hlk
    simp -dsimp only [hidx, B.zo1, hzz.elem hgu, setUse, useLot, hlk, V.ziu, List.getElem?_cons_zero, List.getElem?_cons_succ, zn3, V.zfv, B.zh0, B.ze]
    simp -dsimp
    exact no fun l h => by rw [hl] at h; cases h
   | some l =>
    obtain ⟨hl1, hl2⟩ := zg1 hl
    obtain ⟨l', hl'⟩ : ∃ l' : Lot, l' = { l with Qty := s.left l.Id } := ⟨_, rfl⟩
    have ei : l'.Item = l.Item := by rw [hl']
    have ef : l'.From = l.From := by rw [hl']
    have eu : l'.zdy = l.zdy := by rw [hl']
    have eq : l'.Qty = s.left l.Id := by rw [hl']
    rw [hg, hl] at hlk
    simp only [Option.map_some, Option.getD_some, Option.isSome_some, ← hl'] at hlk
    simp -dsimp only [hidx, B.zo1, hzz.elem hgu, setUse, useLot, hlk, V.ziu, List.getElem?_cons_zero, List.getElem?_cons_succ, zn3, V.zfv, B.zh0, B.ze]
    simp +contextual -dsimp [ecl]
    refine B.zt (fun hc => ?_) (fun hc => ?_)
    ·refine no fun l2 h2 hf => ?_
     rw [hl] at h2; cases h2
     have := hf.w0; have := hf.w1; have := hf.q; have := hf.ql
     simp only [Bool.or_eq_true, decide_eq_true_eq] at hc
     omega
    simp only [Bool.or_eq_false_iff, decide_eq_false_iff_not] at hc
    obtain ⟨n, hn⟩ : ∃ n : Nat, U[k].Want = (n : Int) := ⟨U[k].Want.toNat, by omega⟩
    have hnW : n < W.length := by omega
    have hwl : n < ((zg4 W s.need).map Want.cs).length := by simpa using hnW
    have hgn : ((zg4 W s.need).map Want.cs)[n]? = some (Want.cs { wAt W n with Qty := s.need n }) := by rw [List.getElem?_map, zij hnW]; rfl
    have ixn : V.idxS 3 cl (.int .i64 (n : Int)) = some (elp 3 cl n 0) := hcl.idxN hwl
    have nc : ∀ K, (B.nilCheck (elp 3 cl n 0) K : Prop) = K (elp 3 cl n 0) := fun K => hcl.nilC hwl K
    have a0 : V.fieldAddr 0 (elp 3 cl n 0) = some (elp 3 cl n 0) := by have := hcl.zr3 hwl 0 0; simpa using this
    have a1 : V.fieldAddr 1 (elp 3 cl n 0) = some (elp 3 cl n 1) := by have := hcl.zr3 hwl 0 1; simpa using this
    have a2 : V.fieldAddr 2 (elp 3 cl n 0) = some (elp 3 cl n 2) := by have := hcl.zr3 hwl 0 2; simpa using this
    have d0 : A.ldv hh (elp 3 cl n 0) = some (.str (wAt W n).Item) := by have := hcl.ldv (f := 0) hgn (by omega); simpa using this
    have d1 : A.ldv hh (elp 3 cl n 1) = some (.int .i64 (wAt W n).Day) := by have := hcl.ldv (f := 1) hgn (by omega); simpa using this
    have d2 : A.ldv hh (elp 3 cl n 2) = some (.int .i64 (s.need n)) := by have := hcl.ldv (f := 2) hgn (by omega); simpa using this
    have tn : U[k].Want.toNat = n := by omega
    simp +contextual -dsimp [hn, ixn, nc, a0, a1, a2, d0, d1, d2]
    refine B.zkc (fun _ _ hq => s1 _ _ _ _ _ hq) ?_
    simp +contextual -dsimp
    refine B.zt (fun hd => ?_) (fun hd => ?_)
    ·refine no fun l2 h2 hf => ?_
     rw [hl] at h2; cases h2
     obtain ⟨g1, g2⟩ := zd8.1 hf.sv
     have g3 := hf.qn
     rw [tn] at g1 g2 g3
     simp [ei, ef, eu, g1, g2] at hd
     omega
    have hF : ChkF W s U[k] l := by
     simp at hd
     refine ⟨by omega, by omega, by omega, by omega, by rw [tn]; omega, ?_⟩
     rw [tn]
     exact zd8.2 ⟨by rw [← ei]; exact hd.1.2, by rw [← ef, ← eu]; exact hd.2⟩
    have q1 := hF.q
    have q2 := hF.ql
    have q3 := hF.qn
    rw [tn] at q3
    have k1 := hsm.left l.Id
    have k2 := hsm.need n
    simp -dsimp only [lotQty, useQty, V.zft, setLotQty, useLot, zqn, B.zh0, B.ze, eq]
    rw [wrap_i64 (n := s.left l.Id - U[k].Qty) (by omega) (by omega)]
    refine o.mset 0 rfl keyI U[k].Lot { l' with Qty := s.left l.Id - U[k].Qty } fun h2 o2 _ _ => ?_
    have hcl2 := o2.slAt 1 rfl
    have d2' : A.ldv h2 (elp 3 cl n 2) = some (.int .i64 (s.need n)) := by have := hcl2.ldv (f := 2) hgn (by omega); simpa using this
    simp -dsimp only [nc, a2, B.zjx, d2', useQty, V.zft, B.zh0, B.ze]
    rw [wrap_i64 (n := s.need n - U[k].Qty) (by omega) (by omega)]
    refine o2.st 1 rfl (i := n) (f := 2) hgn (by omega) rfl fun h3 o3 _ => ?_
    simp -dsimp only [add1 (show k < 4611686018427387904 by omega), B.ze]
    have ecs : (Want.cs { wAt W n with Qty := s.need n }).set 2 (.int .i64 (s.need n - U[k].Qty)) = Want.cs { wAt W n with Qty := s.need n - U[k].Qty } := rfl
    have ew : ((zg4 W s.need).map Want.cs).set n (Want.cs { wAt W n with Qty := s.need n - U[k].Qty }) = (zg4 W (zfg s U[k]).need).map Want.cs := by
     rw [← List.map_set, wantsAt_set hnW]
     simp only [zfg, tn]
     congr 2
     funext j
     split
     ·rename_i e; subst e; rfl
     ·rfl
    simp only [List.set_cons_zero, List.set_cons_succ, ecs, ew] at o3
    refine hY (U.length - (k + 1)) _ _ (by omega) ⟨k + 1, _, _, zfg s U[k], by omega, rfl, o3, fun m => ?_, checks_next hb hr hl hF, zsa hok hF hl2, chkStep_sm hsm q1⟩
    rw [zi9, hg]
    by_cases em : m = U[k].Lot
    ·subst em
     rw [if_pos rfl, hl]
     simp [zfg, hl', hl2]
    ·rw [if_neg em]
     cases hlm : ze8 L m with
     | none => rfl
     | some lm =>
      have := (zg1 hlm).2
      simp [zfg, this, em]
  ·rw [List.take_of_length_le (by omega)] at hr
   refine s2 _ _ (fun w => decide (0 < w.Qty)) _ _ _ _ (o.slAt 1 rfl) (by simp; omega) (fun w h' K hh' hk => ?_) ?_
   ·simp -dsimp
    exact s3 _ _ _ hk
   simp -dsimp only [V.zfv, B.ze]
   have e : (!(zg4 W s.need).any fun w => decide (0 < w.Qty)) = ziv L W U := by
    unfold ziv
    rw [hm, hr]
    simp only [Bool.true_and]
    rw [Bool.eq_iff_iff]
    simp only [zg4, Bool.not_eq_true', List.any_map, List.any_eq_false, List.all_eq_true, Function.comp, decide_eq_true_eq]
    refine forall_congr' fun i => forall_congr' fun _ => ?_
    have := hok.need i
    omega
   rw [e]
   exact hq _ o.le
 ·rw [hp]
  cases hl : ze8 L n with
  | none => rfl
  | some l =>
   obtain ⟨h1, h2⟩ := zg1 hl
   simp only [Option.map_some, zdx, left0_of f4 h1]
end
theorem zb7.spec (i : zb7.Imp C N) (s1 : zb1.Spec C N) (s2 : z4.Spec C N) (s3 : zds.Spec C N) (s4 : zl.Spec C N) (s5 : zdq.Spec C N) : zb7.Spec C N := by
 intro x y z L W U R S T h Q hx hy hz hlen hlen2 hlen3 hq
 apply i
 simp -dsimp only [zb7.cps, zb7.k5]
 refine s1 _ _ _ _ _ _ _ _ hx hy hlen hlen2 ?_
 simp -dsimp only [V.zfv, B.ze]
 cases hm : zgn L W with
 | false =>
  simp -dsimp only [Bool.not_false, B.cond_true]
  have e : ziv L W U = false := by unfold ziv; rw [hm]; rfl
  rw [e] at hq
  exact zbl hq
 | true =>
  simp -dsimp only [Bool.not_true, B.cond_false]
  obtain ⟨f1, f2, f3, f4, f5⟩ := zfp hm
  have e1 := hx.zc3
  have e3 := hz.zc3
  rw [List.length_map] at e1 e3
  refine (Owns.start h).zju (K := Int) (T := Lot) kI vLot fun id h1 _ o1 _ => ?_
  simp only [List.nil_append] at o1
  simp -dsimp only [e1, B.ze]
  refine zr.intro (fun t vs hh => ∃ (k : Nat) (ps : Ents Int Lot) (c : Nat), k + t = L.length ∧ vs = [.int .i64 (k : Int)] ∧ Owns h hh [.blk id (zd6 (encM kI vLot ps) c)] ∧ ∀ n, getP ps n = ze8 (L.take k) n) L.length ?_ ⟨0, [], 0, by omega, rfl, o1, fun n => by simp [getP, ze8]⟩
  rintro Y t vs hh ⟨k, ps, c, hkt, rfl, o, hp⟩ hY
  simp -dsimp only [zb7.l4, zb7.k3, lssN, B.ze]
  refine B.zt (fun hb => ?_) (fun hb => ?_) <;> simp only [decide_eq_true_eq, decide_eq_false_iff_not] at hb
  ·have hxx := hx.mono o.le
   have hg : (L.map Lot.cs)[k]? = some (L[k]).cs := by rw [List.getElem?_map, List.getElem?_eq_getElem hb]; rfl
   have hidx : V.idxS 6 x (.int .i64 (k : Int)) = some (elp 6 x k 0) := hxx.idxN (by simpa using hb)
   simp -dsimp only [hidx, B.zo1, hxx.elem hg, zn3, lotId, zqn, B.zh0, B.ze]
   refine o.mset 0 rfl keyI L[k].Id L[k] fun h2 o2 _ _ => ?_
   simp -dsimp only [add1 (show k < 4611686018427387904 by omega), B.ze]
   refine hY (L.length - (k + 1)) _ _ (by omega) ⟨k + 1, _, _, by omega, rfl, o2, fun n => ?_⟩
   rw [zi9, hp, lotById_succ hb f4]
  ·rw [List.take_of_length_le (by omega)] at hp
   refine s2 _ _ _ _ _ (hy.mono o.le) (by omega) fun cl h2 o2 => ?_
   have o3 := o.join o2
   simp -dsimp only [e3, B.ze]
   exact check_uses s3 s4 s5 hm hz hlen3 o3 hp fun h' hle => zkr hle hq
end Go.Ab
namespace Go.Ab
theorem sumF_map {α β : Type} (f : β → Int) (g : α → β) : ∀ l : List α, sumF f (l.map g) = sumF (fun a => f (g a)) l
 | [] => rfl
 | a :: l => by simp only [List.map_cons, sumF]; rw [sumF_map f g l]
theorem zpu {α : Type} (f : α → Int) : ∀ l m : List α, sumF f (l ++ m) = sumF f l + sumF f m
 | [], m => by simp [sumF]
 | a :: l, m => by simp only [List.cons_append, sumF]; rw [zpu f l m]; omega
theorem sumF_perm {α : Type} (f : α → Int) {l m : List α} (h : l.Perm m) : sumF f l = sumF f m := by
 induction h with
 | nil => rfl
 | cons a _ ih => simp only [sumF]; rw [ih]
 | swap a b l => simp only [sumF]; omega
 | trans _ _ i j => rw [i, j]
theorem wAt_range (W : List Want) : (List.range W.length).map (wAt W) = W := by
 apply List.ext_getElem?
 intro i
 by_cases hi : i < W.length
 ·rw [List.getElem?_map, List.getElem?_range hi, Option.map_some, zik hi, List.getElem?_eq_getElem hi]
 ·rw [List.getElem?_eq_none (by simp; omega), List.getElem?_eq_none (by omega)]
theorem wAt_in {W : List Want} {i : Nat} (h : i < W.length) : wAt W i ∈ W := by rw [zik h]; exact List.getElem_mem h
def wantS' (W : List Want) (T : Want → Bool) : Int := sumF (fun w => bif T w then w.Qty else 0) W
def haveS (L : List Lot) (W : List Want) (T : Want → Bool) : Int := sumF (fun l => bif W.any (fun w => T w && ze9 l w) then l.Qty else 0) L
def HallW (L : List Lot) (W : List Want) : Prop := ∀ T : Want → Bool, wantS' W T ≤ haveS L W T
theorem hall_iff {L : List Lot} {W : List Want} (hn : (L.map Lot.Id).Nodup) (hw : ∀ w ∈ W, 0 ≤ w.Qty) : Hall L W ↔ HallW L W := by
 have eL : ∀ S, zmq L W (zdx L W).left S = sumF (fun l => bif nS W S l then l.Qty else 0) L := fun S => zgx fun l hl => by
  simp only [zdx]; rw [left0_of hn hl]
 have eN : ∀ T : Want → Bool, wantS' W T = sumF (fun i => bif T (wAt W i) then (wAt W i).Qty else 0) (List.range W.length) := fun T => by
  unfold wantS'
  conv => lhs; rw [← wAt_range W]
  rw [sumF_map]
 constructor
 ·intro h T
  have := h fun i => T (wAt W i)
  rw [eL] at this
  rw [eN]
  refine Int.le_trans this (Int.le_of_eq ?_)
  unfold haveS
  refine zgx fun l hl => ?_
  have : nS W (fun i => T (wAt W i)) l = W.any fun w => T w && ze9 l w := by
   unfold nS
   conv => rhs; rw [← wAt_range W]
   rw [List.any_map]; rfl
  rw [this]
 ·intro h S
  have := h fun w => (List.range W.length).any fun i => S i && decide (wAt W i = w)
  rw [eN] at this
  rw [eL]
  refine Int.le_trans ?_ (Int.le_trans this (Int.le_of_eq ?_))
  ·unfold zkq
   refine sumF_le fun i hi => ?_
   simp only [zdx]
   have hi' := List.mem_range.1 hi
   have nn := hw _ (wAt_in hi')
   cases hS : S i with
   | true =>
    have : ((List.range W.length).any fun j => S j && decide (wAt W j = wAt W i)) = true := List.any_eq_true.2 ⟨i, hi, by simp [hS]⟩
    rw [this]; exact Int.le_refl _
   | false => simp only [cond_false]; cases (List.range W.length).any fun j => S j && decide (wAt W j = wAt W i) <;> simp [nn]
  ·unfold haveS
   refine zgx fun l hl => ?_
   have : (W.any fun w => ((List.range W.length).any fun i => S i && decide (wAt W i = w)) && ze9 l w) = nS W S l := by
    rw [Bool.eq_iff_iff]
    unfold nS
    simp only [List.any_eq_true, Bool.and_eq_true, decide_eq_true_eq, List.mem_range]
    constructor
    ·rintro ⟨w, _, ⟨i, hi, hS, rfl⟩, hs⟩; exact ⟨i, hi, hS, hs⟩
    ·rintro ⟨i, hi, hS, hs⟩; exact ⟨_, wAt_in hi, ⟨i, hi, hS, rfl⟩, hs⟩
   rw [this]
theorem zfl {L : List Lot} {W : List Want} (hm : zgn L W = true) : (zeu L W).isSome = true ↔ HallW L W := by
 obtain ⟨f1, f2, f3, f4, f5⟩ := zfp hm
 rw [zmt hm, hall_iff f4 fun w hw => by have := zew (f5 w hw); omega]
theorem HallW.perm {L : List Lot} {W V : List Want} (hp : W.Perm V) (h : HallW L W) : HallW L V := fun T => by
 have := h T
 unfold wantS' haveS at *
 rw [sumF_perm _ hp] at this
 have e : ∀ l, (W.any fun w => T w && ze9 l w) = V.any fun w => T w && ze9 l w := fun l => by
  rw [Bool.eq_iff_iff, List.any_eq_true, List.any_eq_true]
  simp only [hp.mem_iff]
 simp only [e] at this
 exact this
theorem HallW.less {L : List Lot} {W : List Want} {w : Want} (hq : 0 ≤ w.Qty) (h : HallW L (w :: W)) : HallW L W := fun T => by
 have := h fun v => T v && decide (v ∈ W)
 unfold wantS' haveS at *
 simp only [sumF] at this
 have h1 : sumF (fun v => bif T v && decide (v ∈ W) then v.Qty else 0) W = sumF (fun v => bif T v then v.Qty else 0) W := zgx fun v hv => by simp [hv]
 have h2 : 0 ≤ (bif T w && decide (w ∈ W) then w.Qty else 0) := by
  cases T w && decide (w ∈ W)
  ·exact Int.le_refl _
  ·exact hq
 have h3 : sumF (fun l => bif (w :: W).any (fun v => (T v && decide (v ∈ W)) && ze9 l v) then l.Qty else 0) L = sumF (fun l => bif W.any (fun v => T v && ze9 l v) then l.Qty else 0) L := zgx fun l _ => by
  have : ((w :: W).any fun v => (T v && decide (v ∈ W)) && ze9 l v) = W.any fun v => T v && ze9 l v := by
   rw [Bool.eq_iff_iff]
   simp only [List.any_eq_true, Bool.and_eq_true, decide_eq_true_eq, List.mem_cons]
   constructor
   ·rintro ⟨v, _, ⟨a, b⟩, c⟩; exact ⟨v, b, a, c⟩
   ·rintro ⟨v, b, a, c⟩; exact ⟨v, .inr b, ⟨a, b⟩, c⟩
  rw [this]
 rw [h3] at this
 omega
theorem zg9 {L : List Lot} {W : List Want} : zgn L W = true ↔ L.length ≤ 300 ∧ W.length ≤ 20000 ∧ (∀ l ∈ L, zfq l = true) ∧ (L.map Lot.Id).Nodup ∧ ∀ w ∈ W, zex w = true := by
 refine ⟨zfp, fun ⟨a, b, c, d, e⟩ => ?_⟩
 simp only [zgn, Bool.and_eq_true, decide_eq_true_eq, List.all_eq_true]
 exact ⟨⟨⟨⟨a, b⟩, c⟩, d⟩, e⟩
theorem zj1 {L : List Lot} {W : List Want} (h : (zeu L W).isSome = true) : zgn L W = true := by
 cases e : zeu L W with
 | none => rw [e] at h; cases h
 | some x => exact (zni (us := x.1) (lf := x.2) e).1
theorem greedy_perm {L : List Lot} {W V : List Want} (hp : W.Perm V) : (zeu L W).isSome = (zeu L V).isSome := by
 have hm : zgn L W = true ↔ zgn L V = true := by
  rw [zg9, zg9, hp.length_eq]
  simp only [hp.mem_iff]
 rw [Bool.eq_iff_iff]
 constructor
 ·intro h
  have m := zj1 h
  exact (zfl (hm.1 m)).2 (((zfl m).1 h).perm hp)
 ·intro h
  have m := zj1 h
  exact (zfl (hm.2 m)).2 (((zfl m).1 h).perm hp.symm)
end Go.Ab
namespace Go.Ab
variable {C : CSem} {N : Nat → Nat}
def zfs (L : List Lot) (W : List Want) (M : List Part) (d : Int) : Nat → Int × Bool
 | 0 => (0, false)
 | n + 1 => if zeb L W M d then (d, true) else zfs L W M (d + 1) n
def zpg (L : List Lot) (W : List Want) (M : List Part) (a b : Int) (j : Nat) : Bool := decide (max a 0 ≤ (j : Int)) && decide ((j : Int) ≤ min b 4000) && zeb L W M j
end Go.Ab
namespace Go.Ab
theorem greedy_less {L : List Lot} {W : List Want} {k : Nat} (hk : k < W.length) (h : (zeu L W).isSome = true) : (zeu L (W.take k ++ W.drop (k + 1))).isSome = true := by
 have hp : W.Perm (W[k] :: (W.take k ++ W.drop (k + 1))) := by
  conv => lhs; rw [← List.take_append_drop k W, List.drop_eq_getElem_cons hk]
  exact List.perm_middle
 rw [greedy_perm hp] at h
 have hm := zj1 h
 obtain ⟨f1, f2, f3, f4, f5⟩ := zg9.1 hm
 have hm' : zgn L (W.take k ++ W.drop (k + 1)) = true := zg9.2 ⟨f1, by simp only [List.length_cons] at f2; omega, f3, f4, fun w hw => f5 w (List.mem_cons_of_mem _ hw)⟩
 have := zew (f5 _ (List.mem_cons_self ..))
 exact (zfl hm').2 (((zfl hm).1 h).less (by omega))
theorem greedy_more {L : List Lot} {W : List Want} {m : Lot} (hc : ziv (L ++ [m]) [] [] = true) (h : (zeu L W).isSome = true) : (zeu (L ++ [m]) W).isSome = true := by
 have hm := zj1 h
 have hh := (zfl hm).1 h
 obtain ⟨f1, f2, f3, f4, f5⟩ := zg9.1 hm
 obtain ⟨g1, g2, g3, g4, g5⟩ := zg9.1 (zqy hc).1
 have hm' : zgn (L ++ [m]) W = true := zg9.2 ⟨g1, f2, g3, g4, f5⟩
 refine (zfl hm').2 fun T => Int.le_trans (hh T) ?_
 unfold haveS
 rw [zpu]
 have hq := (zht (g3 m (by simp))).2.1
 simp only [sumF]
 cases W.any fun w => T w && ze9 m w <;> simp <;> omega
end Go.Ab
namespace Go.Ab
variable {C : CSem} {N : Nat → Nat}
def cov (L : List zby) (d : Nat) : Bool := L.any fun w => decide (w.From ≤ d) && decide ((d : Int) < w.zdy)
def rrows (L : List zby) : List zby := if L.all zby.right then ofTo (cov L) 4001 else []
end Go.Ab
namespace Go.Ab
theorem opn_cov (L : List zby) (hL : ∀ w ∈ L, w.right = true) (d : Nat) : 0 < opn L (d + 1) ↔ cov L d = true := by
 rw [opn_eq L hL]
 have key : (L.countP fun w => decide (w.From < ((d + 1 : Nat) : Int))) = (L.countP fun w => decide (w.zdy < ((d + 1 : Nat) : Int))) + L.countP fun w => decide (w.From ≤ (d : Int)) && decide ((d : Int) < w.zdy) := by
  induction L with
  | nil => rfl
  | cons w r ih =>
   have ih := ih fun w hw => hL w (by simp [hw])
   have hw := hL w (by simp)
   simp only [zby.right, Bool.and_eq_true, decide_eq_true_eq] at hw
   simp only [List.countP_cons, Bool.and_eq_true, decide_eq_true_eq]
   rw [ih]
   split <;> split <;> split <;> omega
 have h2 : cov L d = true ↔ 0 < L.countP fun w => decide (w.From ≤ (d : Int)) && decide ((d : Int) < w.zdy) := by
  rw [List.countP_pos_iff]; simp [cov, List.any_eq_true]
 rw [h2]
 omega
theorem rows_of (L : List zby) (hL : ∀ w ∈ L, w.right = true) : ∀ d, (0 < opn L d → ∃ S w, ofTo (cov L) d = S ++ [w] ∧ w.zdy = (d : Int) ∧ zec L d = S ++ [⟨w.From, 0⟩]) ∧
  (opn L d = 0 → zec L d = ofTo (cov L) d ∧ ∀ w ∈ (ofTo (cov L) d).getLast?, w.zdy < (d : Int))
 | 0 => ⟨fun h => by simp [opn] at h, fun _ => ⟨rfl, by simp [ofTo]⟩⟩
 | d + 1 => by
  obtain ⟨i1, i2⟩ := rows_of L hL d
  have p0 := zrs L hL d
  have p1 := zrs L hL (d + 1)
  have hc := opn_cov L hL d
  by_cases h0 : opn L d = 0
  ·obtain ⟨e, hl⟩ := i2 h0
   by_cases h1 : 0 < opn L (d + 1)
   ·refine ⟨fun _ => ⟨ofTo (cov L) d, ⟨d, d + 1⟩, ?_, by simp, ?_⟩, fun h => by omega⟩
    ·simp only [ofTo, zjs, hc.1 h1, if_true]
     rw [if_neg]
     rintro ⟨hne, hlast⟩
     rw [List.getLast?_eq_some_getLast hne] at hlast hl
     have := hl _ rfl
     simp at hlast
     omega
    ·simp only [zec, zim]
     rw [if_pos ⟨h0, h1⟩, e]
   ·refine ⟨fun h => absurd h h1, fun _ => ?_⟩
    have hf : cov L d = false := by rw [← Bool.not_eq_true]; exact fun hh => h1 (hc.2 hh)
    have e1 : ofTo (cov L) (d + 1) = ofTo (cov L) d := by simp [ofTo, zjs, hf]
    have e2 : zec L (d + 1) = zec L d := by simp only [zec, zim]; rw [if_neg (by omega), if_neg (by omega)]
    rw [e1, e2]
    exact ⟨e, fun w hw => by have := hl w hw; omega⟩
  ·obtain ⟨S, w, e1, e2, e3⟩ := i1 (by omega)
   by_cases h1 : 0 < opn L (d + 1)
   ·refine ⟨fun _ => ⟨S, ⟨w.From, d + 1⟩, ?_, by simp, ?_⟩, fun h => by omega⟩
    ·simp only [ofTo, zjs, hc.1 h1, if_true]
     rw [e1, if_pos ⟨by simp, by simp [e2]⟩]
     simp
    ·simp only [zec, zim]
     rw [if_neg (by omega), if_neg (by omega), e3]
   ·refine ⟨fun h => absurd h h1, fun _ => ?_⟩
    have hf : cov L d = false := by rw [← Bool.not_eq_true]; exact fun hh => h1 (hc.2 hh)
    have e4 : ofTo (cov L) (d + 1) = ofTo (cov L) d := by simp [ofTo, zjs, hf]
    have e5 : zec L (d + 1) = S ++ [w] := by
     simp only [zec, zim]
     rw [if_neg (by omega), if_pos (by omega), e3]
     simp [← e2]
    rw [e4, e5, e1]
    exact ⟨rfl, fun z hz => by simp at hz; subst hz; omega⟩
theorem rows_eq (L : List zby) : rows L = rrows L := by
 unfold rows rrows
 split
 ·rename_i ha
  have hL := List.all_eq_true.1 ha
  have hf : cov L 4001 = false := by
   rw [← Bool.not_eq_true]
   intro h
   obtain ⟨w, hw, h2⟩ := List.any_eq_true.1 h
   have := hL w hw
   simp [zby.right] at this h2
   omega
  have h0 : opn L 4002 = 0 := by
   have h1 := zrs L hL 4002
   have h2 := opn_cov L hL 4001
   rw [hf] at h2
   have : ¬ 0 < opn L (4001 + 1) := fun h => by have := h2.1 h; cases this
   have : ¬ 0 < opn L 4002 := this
   omega
  rw [((rows_of L hL 4002).2 h0).1]
  show zjs (cov L) (ofTo (cov L) 4001) 4001 = _
  simp [zjs, hf]
 ·rfl
theorem ofTo_span {p : Nat → Bool} {a b : Nat} : ∀ n, (∀ d, d < n → (p d = true ↔ a ≤ d ∧ d < b)) → ofTo p n = if a < min b n then [⟨a, (min b n : Nat)⟩] else []
 | 0, _ => by simp [ofTo]
 | n + 1, h => by
  have ih := ofTo_span n fun d hd => h d (by omega)
  have hn := h n (by omega)
  simp only [ofTo, zjs, ih]
  by_cases hp : p n = true
  ·have h1 := hn.1 hp
   rw [if_pos hp]
   have e' : min b (n + 1) = n + 1 := by omega
   by_cases h2 : a < n
   ·have e : min b n = n := by omega
    have c1 : a < n + 1 := by omega
    simp [e, e', h2, c1]
   ·have c2 : ¬ a < min b n := by omega
    have c1 : a < n + 1 := by omega
    have e : a = n := by omega
    rw [if_neg c2, e', if_pos c1]
    simp [e]
  ·have h1 : ¬ (a ≤ n ∧ n < b) := fun hh => hp (hn.2 hh)
   rw [if_neg hp]
   by_cases h2 : a < min b n
   ·rw [if_pos h2, if_pos (by omega)]
    congr 2; omega
   ·rw [if_neg h2, if_neg (by omega)]
end Go.Ab
namespace Go.Ab
structure OfOk (p : Nat → Bool) (n : Nat) (S : List zby) : Prop where
 ends : ∀ w ∈ S, 0 ≤ w.From ∧ w.From < w.zdy ∧ w.zdy ≤ n
 apart : S.Pairwise fun a b => a.zdy < b.From
 cov : ∀ d, cov S d = true ↔ d < n ∧ p d = true
 sum : (S.map zby.days).sum = ((List.range n).countP p : Nat)
theorem ofOk (p : Nat → Bool) : ∀ n, OfOk p n (ofTo p n)
  | 0 => ⟨fun _ h => (by cases h), .nil, fun d => by simp [ofTo, Go.Ab.cov], by simp [ofTo]⟩
  | n + 1 => by
    have ih := ofOk p n
    have hc : (List.range (n + 1)).countP p = (List.range n).countP p + if p n then 1 else 0 := by
      rw [List.range_succ, List.countP_append]; simp [List.countP_cons]
    cases hp : p n with
    | false =>
      have e : ofTo p (n + 1) = ofTo p n := by simp [ofTo, zjs, hp]
      rw [e]
      refine ⟨fun w hw => by have := ih.ends w hw; omega, ih.apart, fun d => ?_, ?_⟩
      · rw [ih.cov]
        constructor
        · rintro ⟨h1, h2⟩; exact ⟨by omega, h2⟩
        · rintro ⟨h1, h2⟩
          refine ⟨?_, h2⟩
          by_cases e : d = n
          · subst e; rw [hp] at h2; cases h2
          · omega
      · rw [ih.sum, hc, hp]; simp
    | true =>
      rw [hp] at hc
      simp only [if_true] at hc
      by_cases hl : ofTo p n ≠ [] ∧ ((ofTo p n).getLast?.getD .zero).zdy = n
      · obtain ⟨S, w, e⟩ : ∃ S w, ofTo p n = S ++ [w] := by
          rcases List.eq_nil_or_concat (ofTo p n) with h | ⟨a, z, h⟩
          · exact absurd h hl.1
          · exact ⟨a, z, by simpa using h⟩
        have hw : w.zdy = n := by have := hl.2; rw [e] at this; simpa using this
        have e2 : ofTo p (n + 1) = S ++ [⟨w.From, n + 1⟩] := by
          simp only [ofTo, zjs, hp, if_true]
          rw [if_pos hl, e]; simp
        rw [e2]
        rw [e] at ih
        have h1 := ih.ends w (by simp)
        refine ⟨fun x hx => ?_, ?_, fun d => ?_, ?_⟩
        · rcases List.mem_append.1 hx with hx | hx
          · have := ih.ends x (by simp [hx]); omega
          · rw [List.mem_singleton.1 hx]; simp only; omega
        · have := List.pairwise_append.1 ih.apart
          exact List.pairwise_append.2 ⟨this.1, List.pairwise_singleton _ _, fun a ha b hb => by rw [List.mem_singleton.1 hb]; exact this.2.2 a ha w (by simp)⟩
        · have hcv := ih.cov d
          simp only [Go.Ab.cov, List.any_append, List.any_cons, List.any_nil, Bool.or_false, Bool.or_eq_true, Bool.and_eq_true, decide_eq_true_eq] at hcv ⊢
          constructor
          · rintro (h | h)
            · have := hcv.1 (.inl h); exact ⟨by omega, this.2⟩
            · by_cases e : d = n
              · subst e; exact ⟨by omega, hp⟩
              · have := hcv.1 (.inr ⟨h.1, by omega⟩); exact ⟨by omega, this.2⟩
          · rintro ⟨h1, h2⟩
            by_cases e : d = n
            · subst e; exact .inr ⟨by omega, by omega⟩
            · rcases hcv.2 ⟨by omega, h2⟩ with h | h
              · exact .inl h
              · exact .inr ⟨h.1, by omega⟩
        · have hs := ih.sum
          simp only [List.map_append, List.map_cons, List.map_nil, List.sum_append, List.sum_cons, List.sum_nil, zby.days] at hs ⊢
          rw [hc]; omega
      · have e2 : ofTo p (n + 1) = ofTo p n ++ [⟨n, n + 1⟩] := by
          simp only [ofTo, zjs, hp, if_true]
          rw [if_neg hl]
        rw [e2]
        have hlast : ∀ x ∈ ofTo p n, x.zdy < n := fun x hx => by
          have h1 := ih.ends x hx
          rcases List.eq_nil_or_concat (ofTo p n) with h | ⟨a, z, h⟩
          · rw [h] at hx; cases hx
          · rw [List.concat_eq_append] at h
            have hz : z.zdy ≠ n := fun hz => hl ⟨by rw [h]; simp, by rw [h]; simpa using hz⟩
            have hz2 := ih.ends z (by rw [h]; simp)
            rw [h] at hx
            rcases List.mem_append.1 hx with hx | hx
            · have := (List.pairwise_append.1 (h ▸ ih.apart)).2.2 x hx z (by simp)
              omega
            · rw [List.mem_singleton.1 hx]; omega
        refine ⟨fun x hx => ?_, ?_, fun d => ?_, ?_⟩
        · rcases List.mem_append.1 hx with hx | hx
          · have := ih.ends x hx; omega
          · rw [List.mem_singleton.1 hx]; simp only; omega
        · exact List.pairwise_append.2 ⟨ih.apart, List.pairwise_singleton _ _, fun a ha b hb => by rw [List.mem_singleton.1 hb]; exact hlast a ha⟩
        · have hcv := ih.cov d
          simp only [Go.Ab.cov, List.any_append, List.any_cons, List.any_nil, Bool.or_false, Bool.or_eq_true, Bool.and_eq_true, decide_eq_true_eq] at hcv ⊢
          constructor
          · rintro (h | h)
            · have := hcv.1 h; exact ⟨by omega, this.2⟩
            · have : d = n := by omega
              subst this; exact ⟨by omega, hp⟩
          · rintro ⟨h1, h2⟩
            by_cases e : d = n
            · subst e; exact .inr ⟨by omega, by omega⟩
            · exact .inl (hcv.2 ⟨by omega, h2⟩)
        · have hs := ih.sum
          simp only [List.map_append, List.map_cons, List.map_nil, List.sum_append, List.sum_cons, List.sum_nil, zby.days] at hs ⊢
          rw [hc]; omega
theorem rows_ok {L : List zby} (hL : ∀ w ∈ L, w.right = true) : rows L = ofTo (cov L) 4001 := by
 rw [rows_eq]; unfold rrows; rw [if_pos (List.all_eq_true.2 hL)]
end Go.Ab
set_option maxRecDepth 100000
namespace Go.Ab
variable {C : CSem} {N : Nat → Nat}
theorem meet_spec (a b : zby) : (∃ f u, meet a b = (⟨f, u⟩, true) ∧ f < u ∧ f = max a.From b.From ∧ u = min a.zdy b.zdy ∧ a.right = true ∧ b.right = true) ∨
  (meet a b = (.zero, false) ∧ (a.right = true → b.right = true → min a.zdy b.zdy ≤ max a.From b.From)) := by
 unfold meet
 by_cases h : (a.right && b.right) = true
 ·rw [if_pos h]
  simp only [Bool.and_eq_true] at h
  unfold within
  by_cases h2 : min a.zdy b.zdy ≤ max a.From b.From
  ·rw [if_pos h2]; exact .inr ⟨rfl, fun _ _ => h2⟩
  ·rw [if_neg h2]; exact .inl ⟨_, _, rfl, by omega, rfl, rfl, h.1, h.2⟩
 ·rw [if_neg h]
  exact .inr ⟨rfl, fun h1 h2 => by rw [h1, h2] at h; exact absurd rfl h⟩
theorem zm4 (w : zby) : w.right = true ↔ 0 ≤ w.From ∧ w.From ≤ w.zdy ∧ w.zdy ≤ 4001 := by
 simp [zby.right, and_assoc]
end Go.Ab
set_option maxRecDepth 100000
namespace Go.Ab
variable {C : CSem} {N : Nat → Nat}
theorem count_cov {L : List zby} (hL : ∀ w ∈ L, w.right = true) : count L = ((List.range 4001).countP (cov L) : Nat) := by
 unfold count; rw [rows_ok hL]; exact (ofOk (cov L) 4001).sum
end Go.Ab
namespace Go.Ab
theorem zfm {W : List Want} {M : List Part} {d : Int} : (zdd W M d).length = W.length + M.length := by unfold zdd; simp
theorem zri {W : List Want} {M : List Part} {d : Int} {i : Nat} (h : i < (zdd W M d).length) : (i < W.length ∧ ∀ e, wAt (zdd W M e) i = wAt W i) ∨ (∃ p ∈ M, ∀ e, wAt (zdd W M e) i = ⟨p.Item, e, p.Qty⟩) := by
 rw [zfm] at h
 by_cases hi : i < W.length
 ·left
  refine ⟨hi, fun e => ?_⟩
  rw [zik hi, zik (by rw [zfm]; omega)]
  unfold zdd
  rw [List.getElem_append_left hi]
 ·right
  have hj : i - W.length < M.length := by omega
  refine ⟨M[i - W.length], List.getElem_mem hj, fun e => ?_⟩
  rw [zik (by rw [zfm]; omega)]
  unfold zdd
  rw [List.getElem_append_right (by omega), List.getElem_map]
theorem wantsOn_right {W : List Want} {M : List Part} {d e : Int} (he : 0 ≤ e ∧ e ≤ 4000) (h : ∀ w ∈ zdd W M d, zex w = true) : ∀ w ∈ zdd W M e, zex w = true := fun w hw => by
 unfold zdd at h hw
 rcases List.mem_append.1 hw with hw | hw
 ·exact h w (List.mem_append_left _ hw)
 ·obtain ⟨p, hp, rfl⟩ := List.mem_map.1 hw
  have := h _ (List.mem_append_right _ (List.mem_map_of_mem hp))
  simp only [zex, Bool.and_eq_true, decide_eq_true_eq] at this ⊢
  exact ⟨⟨⟨⟨this.1.1.1.1, he.1⟩, he.2⟩, this.1.2⟩, this.2⟩
theorem canHad_may {L : List Lot} {W : List Want} {M : List Part} {d : Int} (h : zeb L W M d = true) : zgn L (zdd W M d) = true := zj1 h
theorem zo6 {L : List Lot} {W : List Want} {M : List Part} {d e : Int} (he : 0 ≤ e ∧ e ≤ 4000) (hs : (∀ l ∈ L, zfq l = true) → ∀ l ∈ L, zby.has ⟨l.From, l.zdy⟩ d = true → zby.has ⟨l.From, l.zdy⟩ e = true) (h : zeb L W M d = true) : zeb L W M e = true := by
 have hm := canHad_may h
 obtain ⟨f1, f2, f3, f4, f5⟩ := zg9.1 hm
 have hm' : zgn L (zdd W M e) = true := zg9.2 ⟨f1, by rw [zfm] at f2 ⊢; exact f2, f3, f4, wantsOn_right he f5⟩
 have hh := (zmt hm).1 h
 refine (zmt hm').2 fun S => ?_
 have e1 : zkq (zdd W M e) (zdx L (zdd W M e)).need S = zkq (zdd W M d) (zdx L (zdd W M d)).need S := by
  unfold zkq
  rw [zfm, zfm]
  refine zgx fun i hi => ?_
  have hi := List.mem_range.1 hi
  rcases zri (M := M) (d := d) (i := i) (W := W) (by rw [zfm]; exact hi) with ⟨_, hw⟩ | ⟨p, _, hw⟩
  ·simp only [zdx, hw]
  ·simp only [zdx, hw]
 rw [e1]
 refine Int.le_trans (hh S) ?_
 unfold zmq
 refine sumF_le fun l hl => ?_
 have h0 : 0 ≤ (zdx L (zdd W M d)).left l.Id := (zii hm).left _
 have : (zdx L (zdd W M e)).left l.Id = (zdx L (zdd W M d)).left l.Id := rfl
 rw [this]
 cases hn : nS (zdd W M d) S l with
 | false => simp only [cond_false]; cases nS (zdd W M e) S l <;> simp only [cond_false, cond_true] <;> omega
 | true =>
  have : nS (zdd W M e) S l = true := by
   unfold nS at hn
   rw [List.any_eq_true] at hn
   obtain ⟨i, hi, hi2⟩ := hn
   have hi := List.mem_range.1 hi
   rw [Bool.and_eq_true] at hi2
   refine nS_of (i := i) (by rw [zfm] at hi ⊢; exact hi) hi2.1 ?_
   have hsv := zd8.1 hi2.2
   rcases zri hi with ⟨_, hw⟩ | ⟨p, _, hw⟩
   ·rw [hw] at hsv ⊢; exact hi2.2 |> fun _ => zd8.2 hsv
   ·rw [hw] at hsv ⊢
    exact zd8.2 ⟨hsv.1, hs f3 l hl hsv.2⟩
  rw [this]; exact Int.le_refl _
theorem has_iff {f u d : Int} : zby.has ⟨f, u⟩ d = true ↔ (0 ≤ f ∧ f ≤ u ∧ u ≤ 4001) ∧ f ≤ d ∧ d < u := by
 simp only [zby.has, zby.right, Bool.and_eq_true, decide_eq_true_eq, and_assoc]
theorem zq0 {L : List Lot} {W : List Want} {M : List Part} {a b d : Int} (ha : 0 ≤ a) (hb : b ≤ 4000) (h1 : a < d) (h2 : d ≤ b) (hn : d ∉ zey a b L) : zeb L W M d = zeb L W M (d - 1) := by
 have key : (∀ l ∈ L, zfq l = true) → ∀ l ∈ L, l.From ≠ d ∧ l.zdy ≠ d := fun hr l hl => by
  obtain ⟨_, _, _, _, wr, lt⟩ := zht (hr l hl)
  have wr' := wr
  rw [zm4] at wr'
  have hw : zby.right ⟨a, b + 1⟩ = true := (zm4 _).2 ⟨ha, by simp only; omega, by simp only; omega⟩
  simp only at wr'
  have ins : ∀ c, c ∈ zkk ⟨a, b + 1⟩ l → c ∈ zey a b L := fun c hc => List.mem_append_right _ (List.mem_flatMap.2 ⟨l, hl, hc⟩)
  have me : max l.From a < min l.zdy (b + 1) → zkk ⟨a, b + 1⟩ l = [max l.From a, min l.zdy (b + 1)] := fun hlt => by
   unfold zkk meet within
   rw [wr, hw]
   simp only [Bool.and_self, if_true]
   rw [if_neg (by omega)]
  constructor
  ·intro e
   refine hn (ins d ?_)
   rw [me (by omega)]
   refine List.mem_cons.2 (.inl (by omega))
  ·intro e
   refine hn (ins d ?_)
   rw [me (by omega)]
   refine List.mem_cons_of_mem _ (List.mem_singleton.2 (by omega))
 rw [Bool.eq_iff_iff]
 constructor
 ·refine zo6 (by omega) fun hr l hl hh => ?_
  have := key hr l hl
  rw [has_iff] at hh ⊢; omega
 ·refine zo6 (by omega) fun hr l hl hh => ?_
  have := key hr l hl
  rw [has_iff] at hh ⊢; omega
theorem zk7 {d : Int} : ∀ {l : List Int}, d ∈ zef l ↔ d ∈ l
 | [] => Iff.rfl
 | [a] => Iff.rfl
 | a :: b :: r => by
  have ih := zk7 (d := d) (l := b :: r)
  simp only [zef]
  split
  ·rename_i e; subst e
   rw [ih]; simp
  ·rw [List.mem_cons, ih, List.mem_cons (b := a)]
theorem zqw : ∀ {l : List Int}, l.Pairwise (fun s t => s ≤ t) → (zef l).Pairwise (fun s t => s < t)
 | [], _ => .nil
 | [a], _ => List.pairwise_singleton _ _
 | a :: b :: r, h => by
  have ih := zqw (List.pairwise_cons.1 h).2
  simp only [zef]
  split
  ·exact ih
  ·rename_i e
   refine List.pairwise_cons.2 ⟨fun c hc => ?_, ih⟩
   have h1 := (List.pairwise_cons.1 h).1
   have h2 := (List.pairwise_cons.1 (List.pairwise_cons.1 h).2).1
   have hab := h1 b (List.mem_cons_self ..)
   rcases List.mem_cons.1 (zk7.1 hc) with rfl | hc
   ·omega
   ·have := h2 c hc; omega
theorem znp {a b : Int} {L : List Lot} {d : Int} : d ∈ cuts a b L ↔ d ∈ zey a b L := by
 unfold cuts
 rw [zk7, (zjm _).mem_iff]
theorem cuts_up (a b : Int) (L : List Lot) : (cuts a b L).Pairwise (fun s t => s < t) := zqw (zkx _)
theorem ends_in {a b : Int} (hab : a ≤ b) {L : List Lot} {d : Int} (h : d ∈ zey a b L) : a ≤ d ∧ d ≤ b + 1 := by
 unfold zey at h
 rcases List.mem_append.1 h with h | h
 ·simp only [List.mem_cons, List.not_mem_nil, or_false] at h; omega
 ·obtain ⟨l, _, h⟩ := List.mem_flatMap.1 h
  unfold zkk at h
  rcases meet_spec ⟨l.From, l.zdy⟩ ⟨a, b + 1⟩ with ⟨f, u, e, h1, h2, h3, _, _⟩ | e
  ·rw [e] at h
   simp only [List.mem_cons, List.not_mem_nil, or_false] at h h2 h3
   omega
  ·rw [e.1] at h; simp at h
inductive Chain (b : Int) : List Int → Int → Prop
 | last : Chain b [b + 1] (b + 1)
 | more {u v : Int} {r : List Int} (h : u < v) (c : Chain b (v :: r) v) : Chain b (u :: v :: r) u
theorem chain_of {b : Int} : ∀ {l : List Int} {u : Int}, l.Pairwise (fun s t => s < t) → (∀ d ∈ l, u ≤ d ∧ d ≤ b + 1) → u ∈ l → b + 1 ∈ l → Chain b l u
 | [], u, _, _, h, _ => by cases h
 | [c], u, _, _, h, h' => by
  have e1 := List.mem_singleton.1 h
  have e2 := List.mem_singleton.1 h'
  subst e1; subst e2; exact .last
 | c :: d :: r, u, hp, hb, h, h' => by
  have hp' := List.pairwise_cons.1 hp
  have hc := hb c (List.mem_cons_self ..)
  have e : u = c := by
   rcases List.mem_cons.1 h with e | h
   ·exact e
   ·have := hp'.1 u h; omega
  subst e
  have hcd := hp'.1 d (List.mem_cons_self ..)
  refine .more hcd (chain_of hp'.2 (fun x hx => ⟨?_, (hb x (List.mem_cons_of_mem _ hx)).2⟩) (List.mem_cons_self ..) ?_)
  ·rcases List.mem_cons.1 hx with rfl | hx
   ·exact Int.le_refl _
   ·have := (List.pairwise_cons.1 hp'.2).1 x hx; omega
  ·rcases List.mem_cons.1 h' with e | h'
   ·have := (hb d (List.mem_cons_of_mem _ (List.mem_cons_self ..))).2; omega
   ·exact h'
theorem zok {a b : Int} (hab : a ≤ b) (L : List Lot) : Chain b (cuts a b L) a :=
 chain_of (cuts_up a b L) (fun d hd => ends_in hab (znp.1 hd)) (znp.2 (by unfold zey; simp)) (znp.2 (by unfold zey; simp))
theorem Chain.le {b : Int} : ∀ {l : List Int} {u : Int}, Chain b l u → u ≤ b + 1 ∧ ∀ d ∈ l, u ≤ d ∧ d ≤ b + 1
 | _, _, .last => ⟨Int.le_refl _, fun d hd => by rw [List.mem_singleton.1 hd]; exact ⟨Int.le_refl _, Int.le_refl _⟩⟩
 | _, _, .more h c => by
  have ih := c.le
  refine ⟨by omega, fun d hd => ?_⟩
  rcases List.mem_cons.1 hd with rfl | hd
  ·omega
  ·have := ih.2 d hd; omega
theorem alike {f : Int → Bool} {u v : Int} (h : ∀ d, u < d → d < v → f d = f (d - 1)) : ∀ n : Nat, u + (n : Int) < v → f (u + (n : Int)) = f u
 | 0, _ => by simp
 | n + 1, hn => by
  have ih := alike h n (by omega)
  rw [h (u + ((n + 1 : Nat) : Int)) (by omega) hn, show u + ((n + 1 : Nat) : Int) - 1 = u + (n : Int) by omega, ih]
theorem alike_in {f : Int → Bool} {u v d : Int} (h : ∀ d, u < d → d < v → f d = f (d - 1)) (h1 : u ≤ d) (h2 : d < v) : f d = f u := by
 have := alike h (d - u).toNat (by omega)
 rw [show u + ((d - u).toNat : Int) = d by omega] at this; exact this
theorem zo5 {L : List Lot} {W : List Want} {M : List Part} : ∀ (k n : Nat) (u : Int), (∀ d, u ≤ d → d < u + (k : Int) → zeb L W M d = false) → zfs L W M u (k + n) = zfs L W M (u + (k : Int)) n
 | 0, n, u, _ => by simp
 | k + 1, n, u, h => by
  rw [show k + 1 + n = (k + n) + 1 by omega]
  simp only [zfs]
  rw [h u (Int.le_refl _) (by omega)]
  simp only [Bool.false_eq_true, if_false]
  rw [zo5 k n (u + 1) fun d h1 h2 => h d (by omega) (by omega), show u + 1 + (k : Int) = u + ((k + 1 : Nat) : Int) by omega]
theorem chain_day {L : List Lot} {W : List Want} {M : List Part} {b : Int} : ∀ {l : List Int} {u : Int}, Chain b l u → (∀ d, u < d → d ≤ b → d ∉ l → zeb L W M d = zeb L W M (d - 1)) →
  (match (l.zip l.tail).find? fun p => zeb L W M p.1 with | some p => (p.1, true) | none => ((0 : Int), false)) = zfs L W M u (b + 1 - u).toNat
 | _, _, .last, _ => by simp [zfs]
 | _, _, .more (u := u) (v := v) (r := r) h c, ha => by
  have hc := c.le
  have hin : ∀ d, u < d → d < v → zeb L W M d = zeb L W M (d - 1) := fun d h1 h2 => ha d h1 (by omega) fun hm => by
   rcases List.mem_cons.1 hm with e | hm
   ·omega
   ·have := hc.2 d hm; omega
  simp only [List.tail_cons, List.zip_cons_cons, List.find?_cons]
  cases hu : zeb L W M u with
  | true =>
   obtain ⟨n, hn⟩ : ∃ n, (b + 1 - u).toNat = n + 1 := ⟨(b + 1 - u).toNat - 1, by omega⟩
   rw [hn]
   simp only [zfs, hu, if_true]
  | false =>
   have ih := chain_day c fun d h1 h2 hm => ha d (by omega) h2 fun hm' => by
    rcases List.mem_cons.1 hm' with e | hm'
    ·omega
    ·exact hm hm'
   simp only [List.tail_cons] at ih
   have hk : (b + 1 - u).toNat = (v - u).toNat + (b + 1 - v).toNat := by omega
   rw [hk, zo5 _ _ _ fun d h1 h2 => by rw [alike_in hin h1 (by omega)]; exact hu, show u + ((v - u).toNat : Int) = v by omega]
   exact ih
theorem dayOf_eq (L : List Lot) (W : List Want) (M : List Part) (a b : Int) : zkf L W M a b = zfs L W M (max a 0) (min b 4000 - max a 0 + 1).toNat := by
 unfold zkf zgf
 by_cases h : min b 4000 < max a 0
 ·rw [if_pos h, show (min b 4000 - max a 0 + 1).toNat = 0 by omega]
  rfl
 ·rw [if_neg h, show min b 4000 - max a 0 + 1 = min b 4000 + 1 - max a 0 by omega]
  exact chain_day (zok (by omega) L) fun d h1 h2 hm => zq0 (a := max a 0) (b := min b 4000) (by omega) (by omega) h1 h2 fun hh => hm (znp.2 hh)
theorem chain_any {L : List Lot} {W : List Want} {M : List Part} {b : Int} (x : Int) : ∀ {l : List Int} {u : Int}, Chain b l u → (∀ d, u < d → d ≤ b → d ∉ l → zeb L W M d = zeb L W M (d - 1)) →
  ((l.zip l.tail).any fun p => zeb L W M p.1 && (decide (p.1 ≤ x) && decide (x < p.2))) = (decide (u ≤ x) && decide (x ≤ b) && zeb L W M x)
 | _, _, .last, _ => by
  simp only [List.tail_cons, List.zip_nil_right, List.any_nil]
  by_cases h : b + 1 ≤ x
  ·rw [show decide (x ≤ b) = false by rw [decide_eq_false_iff_not]; omega]; simp
  ·simp [h]
 | _, _, .more (u := u) (v := v) (r := r) h c, ha => by
  have hc := c.le
  have hin : ∀ d, u < d → d < v → zeb L W M d = zeb L W M (d - 1) := fun d h1 h2 => ha d h1 (by omega) fun hm => by
   rcases List.mem_cons.1 hm with e | hm
   ·omega
   ·have := hc.2 d hm; omega
  have ih := chain_any x c fun d h1 h2 hm => ha d (by omega) h2 fun hm' => by
   rcases List.mem_cons.1 hm' with e | hm'
   ·omega
   ·exact hm hm'
  simp only [List.tail_cons, List.zip_cons_cons, List.any_cons] at ih ⊢
  rw [ih]
  by_cases h1 : u ≤ x ∧ x < v
  ·rw [← alike_in hin h1.1 h1.2]
   have h2 : ¬ v ≤ x := by omega
   have h3 : x ≤ b := by omega
   simp [h1.1, h1.2, h2, h3]
  ·have h2 : (decide (u ≤ x) && decide (x < v)) = false := by
    rw [Bool.eq_false_iff]
    simp only [ne_eq, Bool.and_eq_true, decide_eq_true_eq]
    exact h1
   rw [h2, Bool.and_false, Bool.false_or]
   by_cases h3 : v ≤ x
   ·have h4 : u ≤ x := by omega
    simp [h3, h4]
   ·have h4 : ¬ u ≤ x := by omega
    simp [h3, h4]
theorem okSpans_right {L : List Lot} {W : List Want} {M : List Part} {a b : Int} : ∀ w ∈ ze1 L W M (zgf a b L), w.right = true := fun w hw => by
 unfold ze1 at hw
 obtain ⟨p, hp, rfl⟩ := List.mem_map.1 hw
 have hp := (List.mem_filter.1 hp).1
 unfold zgf at hp
 split at hp
 ·cases hp
 ·rename_i h
  have hc := (zok (a := max a 0) (b := min b 4000) (by omega) L).le.2
  obtain ⟨i, hi, e⟩ := List.getElem_of_mem hp
  have hz : i < (cuts (max a 0) (min b 4000) L).length ∧ i + 1 < (cuts (max a 0) (min b 4000) L).length := by
   simp at hi; omega
  have h1 := hc _ (List.getElem_mem hz.1)
  have h2 := hc _ (List.getElem_mem hz.2)
  have hup := (List.pairwise_iff_getElem.1 (cuts_up (max a 0) (min b 4000) L)) i (i + 1) hz.1 hz.2 (by omega)
  have e1 : p.1 = (cuts (max a 0) (min b 4000) L)[i] := by rw [← e]; simp
  have e2 : p.2 = (cuts (max a 0) (min b 4000) L)[i + 1] := by rw [← e]; simp
  rw [zm4]
  simp only
  omega
theorem okSpans_cov {L : List Lot} {W : List Want} {M : List Part} {a b : Int} (j : Nat) : cov (ze1 L W M (zgf a b L)) j = zpg L W M a b j := by
 unfold cov ze1 zpg
 rw [List.any_map, List.any_filter]
 unfold zgf
 split
 ·rename_i h
  simp only [List.any_nil]
  by_cases h1 : max a 0 ≤ (j : Int)
  ·rw [show decide ((j : Int) ≤ min b 4000) = false by rw [decide_eq_false_iff_not]; omega]; simp
  ·simp [h1]
 ·rename_i h
  exact chain_any (j : Int) (zok (by omega) L) fun d h1 h2 hm => zq0 (a := max a 0) (b := min b 4000) (by omega) (by omega) h1 h2 fun hh => hm (znp.2 hh)
theorem days_eq (L : List Lot) (W : List Want) (M : List Part) (a b : Int) : rows (ze1 L W M (zgf a b L)) = ofTo (zpg L W M a b) 4001 := by
 rw [rows_ok okSpans_right]
 exact zrt fun j _ => okSpans_cov j
end Go.Ab
namespace Go.Ab
variable {C : CSem} {N : Nat → Nat}
def zeq.Spec (C : CSem) (N : Nat → Nat) : Prop := ∀ (a m : Int) (h : za) (Q : AVal → za → Prop), 0 < m → m ≤ 4611686018427387904 → (∀ n : Int, 0 ≤ n → n < m → Q (.int .i64 n) h) → C (N 155) [.int .i64 a, .int .i64 m] h Q
theorem zeq.spec (i : zeq.Imp C N) : zeq.Spec C N := by
 intro a m h Q h1 h2 hq
 apply i
 have k1 := Int.tmod_lt_of_pos a h1
 have k2 := Int.lt_tmod_of_pos a h1
 have hm : m ≠ 0 := by omega
 simp -dsimp [hm, show ¬ m < 1 by omega]
 refine B.zt (fun hb => ?_) (fun hb => ?_) <;> simp -dsimp at hb ⊢
 ·rw [wrap_i64 (by omega) (by omega)]
  exact zbl (hq _ (by omega) (by omega))
 ·exact zbl (hq _ hb k1)
end Go.Ab
namespace Go.Ab
variable {C : CSem} {N : Nat → Nat}
def ziz {T : Type} (one : Rdr → T × Rdr) : Nat → Rdr → List T × Rdr
 | 0, r => ([], r)
 | n + 1, r => if r.bad then ([], r) else ((one r).1 :: (ziz one n (one r).2).1, (ziz one n (one r).2).2)
structure ReadsAt (h0 : za) (x : AVal) (b : List UInt8) : Prop where
 is : ∃ R, SlX h0 1 x (b.map bc) R
 lt : b.length < 4611686018427387904
def tellZero : ziw := ⟨0, 0, 0, [], 0, [], []⟩
theorem Owns.boxStn {h0 h : za} {l : List Ob} (ho : Owns h0 h l) (k : Nat) {id n : Nat} {cs xs : List AVal} {K : za → Prop} (hk : l[k]? = some (.box (.ptr id 0 0) cs)) (hn : xs.length = n) (hc : cs.length = n)
  (hK : ∀ h', Owns h0 h' (l.set k (.box (.ptr id 0 0) xs)) → But (.ptr id 0 0) h h' → K h') : A.stn h (.ptr id 0 0) n (.agg xs) K := by
 obtain ⟨id', e, hb⟩ := ho.zhj k hk
 cases e
 rw [stn_at hb hn (by omega)]
 have e1 : cs.take 0 ++ xs ++ cs.drop (0 + n) = xs := by simp [← hc]
 rw [e1]
 have hbut : But (.ptr id 0 0) h (upd h id (zeh xs)) := fun j b e1 e2 => by rw [zo]; exact e1; intro e; subst e; exact e2 rfl
 exact hK _ (ho.turn k hk ⟨id, rfl, zbh ..⟩ (fun j b hj hb' => by cases hj; rw [zbh] at hb'; cases hb'; rfl) hbut (.inl rfl)) hbut
def zg6 (t : ziw) (r : Rdr) : ziw × Nat × Int := if r.bad || !zpt t then (tellZero, 0, 4) else (t, r.at_, 0)
@[simp] def ziw.val (g : ziw × Nat × Int) (x y : AVal) : AVal := .tup [.agg (g.1.cs x y), .int .i64 (g.2.1 : Int), .int .i64 g.2.2]
theorem tell_Get.fin (s : tell_Right.Spec C N) {h hh : za} {i2 : Nat} {p x : AVal} {cs2 : List AVal} {t : ziw} {r : Rdr} {lx ly : AVal} {Q : AVal → za → Prop} (ho : Owns h hh [.box (.ptr i2 0 0) cs2, .box p [x, .int .i64 (r.at_ : Int), .bool r.bad], .sl 6 lx (t.Lots.map Lot.cs) [], .sl 3 ly (t.Uses.map Use.cs) []])
  (hc : cs2.length = 7) (hl1 : t.Lots.length ≤ 65535) (hl2 : t.Uses.length ≤ 65535)
  (hq : ∀ x' y' h', Owns h h' [.sl 6 x' ((zg6 t r).1.Lots.map Lot.cs) [], .sl 3 y' ((zg6 t r).1.Uses.map Use.cs) []] → Q (ziw.val (zg6 t r) x' y') h') : tell_Get.k1 C N (dn Q) (.ptr i2 0 0) p (.agg (t.cs lx ly)) hh := by
 obtain ⟨id, rfl, hbx⟩ := ho.zhj 1 rfl
 simp +contextual -dsimp [zfa hbx]
 refine B.zkc (fun _ _ hq => s t lx ly _ _ ⟨⟨_, ho.slAt 2 rfl⟩, ⟨_, ho.slAt 3 rfl⟩⟩ (by omega) (by omega) hq) ?_
 simp +contextual -dsimp
 refine B.zt (fun h1 => ?_) (fun h1 => ?_)
 ·have e : zg6 t r = (tellZero, 0, 4) := by unfold zg6; rw [if_pos]; simpa using h1
  rw [e] at hq
  try simp +contextual -dsimp
  refine ho.boxStn 0 rfl rfl hc fun h2 ho2 _ => ?_
  obtain ⟨id', e', hb2⟩ := ho2.zhj 0 rfl
  cases e'
  simp -dsimp [ldnv_at hb2]
  refine zbl (hq .nils .nils h2 ?_)
  exact ((Owns.nil ho2.le).nils 6).nils 3
 ·have e : zg6 t r = (t, r.at_, 0) := by unfold zg6; rw [if_neg]; simpa using h1
  rw [e] at hq
  try simp +contextual -dsimp
  simp -dsimp [zfa hbx]
  refine ho.boxStn 0 rfl rfl hc fun h2 ho2 _ => ?_
  obtain ⟨id', e', hb2⟩ := ho2.zhj 0 rfl
  cases e'
  obtain ⟨id', e', hb3⟩ := ho2.zhj 1 rfl
  cases e'
  refine ⟨fun q hq => ?_, ?_⟩
  ·rw [List.mem_singleton.1 hq]
   exact ⟨.int .i64 (r.at_ : Int), by rw [zfa hbx]; rfl, by rw [zfa hb3]; rfl⟩
  ·simp -dsimp [ldnv_at hb2]
   exact zbl (hq lx ly h2 (ho2.sub (by simp)))
theorem zet.fin (s : ref14_Right.Spec C N) {h hh : za} {i2 : Nat} {p x : AVal} {cs2 : List AVal} {t : ziw} {r : Rdr} {lx ly : AVal} {Q : AVal → za → Prop} (ho : Owns h hh [.box (.ptr i2 0 0) cs2, .box p [x, .int .i64 (r.at_ : Int), .bool r.bad], .sl 6 lx (t.Lots.map Lot.cs) [], .sl 3 ly (t.Uses.map Use.cs) []])
  (hc : cs2.length = 7) (hl1 : t.Lots.length ≤ 65535) (hl2 : t.Uses.length ≤ 65535)
  (hq : ∀ x' y' h', Owns h h' [.sl 6 x' ((zg6 t r).1.Lots.map Lot.cs) [], .sl 3 y' ((zg6 t r).1.Uses.map Use.cs) []] → Q (ziw.val (zg6 t r) x' y') h') : zet.k1 C N (dn Q) (.ptr i2 0 0) p (.agg (t.cs lx ly)) hh := by
 obtain ⟨id, rfl, hbx⟩ := ho.zhj 1 rfl
 simp +contextual -dsimp [zfa hbx]
 refine B.zkc (fun _ _ hq => s t lx ly _ _ ⟨⟨_, ho.slAt 2 rfl⟩, ⟨_, ho.slAt 3 rfl⟩⟩ (by omega) (by omega) hq) ?_
 simp +contextual -dsimp
 refine B.zt (fun h1 => ?_) (fun h1 => ?_)
 ·have e : zg6 t r = (tellZero, 0, 4) := by unfold zg6; rw [if_pos]; simpa using h1
  rw [e] at hq
  try simp +contextual -dsimp
  refine ho.boxStn 0 rfl rfl hc fun h2 ho2 _ => ?_
  obtain ⟨id', e', hb2⟩ := ho2.zhj 0 rfl
  cases e'
  simp -dsimp [ldnv_at hb2]
  refine zbl (hq .nils .nils h2 ?_)
  exact ((Owns.nil ho2.le).nils 6).nils 3
 ·have e : zg6 t r = (t, r.at_, 0) := by unfold zg6; rw [if_neg]; simpa using h1
  rw [e] at hq
  try simp +contextual -dsimp
  simp -dsimp [zfa hbx]
  refine ho.boxStn 0 rfl rfl hc fun h2 ho2 _ => ?_
  obtain ⟨id', e', hb2⟩ := ho2.zhj 0 rfl
  cases e'
  obtain ⟨id', e', hb3⟩ := ho2.zhj 1 rfl
  cases e'
  refine ⟨fun q hq => ?_, ?_⟩
  ·rw [List.mem_singleton.1 hq]
   exact ⟨.int .i64 (r.at_ : Int), by rw [zfa hbx]; rfl, by rw [zfa hb3]; rfl⟩
  ·simp -dsimp [ldnv_at hb2]
   exact zbl (hq lx ly h2 (ho2.sub (by simp)))
theorem zet.uses (s1 : zin.Spec C N) {b : List UInt8} {x lx : AVal} {i2 : Nat} {p : AVal} {bs hh : za} {Q : AVal → za → Prop} {e i d : Int} {c : List UInt8} {s : UInt8} {z : Nat} {r1 : Rdr} (hx : ReadsAt bs x b) (hcx : lx.zdr = true) (hz : z ≤ 65535) (hr1 : r1.at_ ≤ b.length)
  (ho : Owns bs hh [.box p [x, .int .i64 (r1.at_ : Int), .bool r1.bad]])
  (hk : ∀ o h', Owns bs h' [.sl 3 o ((ziz (rUse b) z r1).1.map Use.cs) [], .box p [x, .int .i64 ((ziz (rUse b) z r1).2.at_ : Int), .bool (ziz (rUse b) z r1).2.bad]] → zet.k1 C N Q (.ptr i2 0 0) p (.agg [.int .i64 e, .int .i64 i, .int .i64 d, .str c, .int .u8 (s.toNat : Int), lx, o]) h') :
  zr (zet.l3 C N Q (.ptr i2 0 0) p) [.int .i64 (z : Int), .agg [.int .i64 e, .int .i64 i, .int .i64 d, .str c, .int .u8 (s.toNat : Int), lx, .nils]] hh := by
 obtain ⟨⟨R, hxx⟩, hb⟩ := hx
 refine zr.intro (fun t vs hh => ∃ (o : AVal) (acc : List Use) (r : Rdr), vs = [.int .i64 (t : Int), .agg [.int .i64 e, .int .i64 i, .int .i64 d, .str c, .int .u8 (s.toNat : Int), lx, o]] ∧ t ≤ 65535 ∧ acc.length + t ≤ 65535 ∧ r.at_ ≤ b.length ∧ acc ++ (ziz (rUse b) t r).1 = (ziz (rUse b) z r1).1 ∧ (ziz (rUse b) t r).2 = (ziz (rUse b) z r1).2 ∧
   Owns bs hh [.sl 3 o (acc.map Use.cs) [], .box p [x, .int .i64 (r.at_ : Int), .bool r.bad]]) z ?_ ⟨.nils, [], r1, rfl, by omega, by simp; omega, hr1, rfl, rfl, (ho.nils 3).perm (List.Perm.swap ..)⟩
 rintro Y t vs hh ⟨o, acc, r, rfl, ht, hal, hr, e1, e2, ho⟩ hY
 obtain ⟨id, rfl, hbx⟩ := ho.zhj 1 rfl
 simp +contextual -dsimp [zfa hbx]
 refine B.zt (fun h2 => ?_) (fun h2 => ?_) <;> simp at h2
 ·obtain ⟨t, rfl⟩ : ∃ u, t = u + 1 := ⟨t - 1, by omega⟩
  simp only [ziz, h2.2, Bool.false_eq_true, if_false] at e1 e2
  obtain ⟨q1, q2⟩ := ho.out (l1 := [_]) (l2 := [_])
  have hx1 := hxx.mono q1.le
  try simp +contextual -dsimp
  refine s1 _ hh _ x b R r 8 _ hx1 hb hr (by omega) q2 fun h3 ho3 => ?_
  have l3 := zjf (k := 8) hr
  try simp +contextual -dsimp
  refine s1 _ _ _ x b R _ 8 _ hx1 hb l3 (by omega) ho3 fun h4 ho4 => ?_
  have l4 := zjf (k := 8) l3
  try simp +contextual -dsimp
  refine s1 _ _ _ x b R _ 8 _ hx1 hb l4 (by omega) ho4 fun h5 ho5 => ?_
  have ho6 := q1.join ho5
  try simp +contextual -dsimp
  refine ho6.push 0 rfl rfl (by omega) (by simp; omega) (by simp [maxLen]; omega) fun o' h7 ho7 _ => ?_
  have e4 : IntKind.i64.wrap (((t + 1 : Nat) : Int) - 1) = (t : Int) := by rw [wrap_i64 (by omega) (by omega)]; omega
  have hco := (ho7.slAt 0 rfl).zdr
  simp -dsimp only [B.zh0, V.setF_agg, V.put1_cell, hco, cond_true, List.length_set, List.length_cons, List.length_nil, List.set, zqc, B.ze, if_true, show 6 < 0 + 1 + 1 + 1 + 1 + 1 + 1 + 1 by omega, V.zft, e4]
  refine hY t _ _ (by omega) ⟨o', acc ++ [(rUse b r).1], (rUse b r).2, rfl, by omega, by simp; omega, rUse_le hr, ?_, e2, ?_⟩
  ·rw [← e1, List.append_assoc]; rfl
  ·rw [List.map_append]; exact ho7
 ·have : (ziz (rUse b) t r) = ([], r) := by
   cases t with
   | zero => rfl
   | succ t => simp [ziz, h2 (by omega)]
  rw [this, List.append_nil] at e1
  rw [this] at e2
  subst e1
  rw [← e2] at hk
  exact hk _ _ ho
theorem zet.lots (s1 : zin.Spec C N) (s2 : ref14_lot.Spec C N) {b : List UInt8} {x : AVal} {i2 : Nat} {p : AVal} {bs hh : za} {Q : AVal → za → Prop} {e i d : Int} {c : List UInt8} {s : UInt8} {z : Nat} {r1 : Rdr} (hx : ReadsAt bs x b) (hz : z ≤ 65535) (hr1 : r1.at_ ≤ b.length)
  (ho : Owns bs hh [.box p [x, .int .i64 (r1.at_ : Int), .bool r1.bad]])
  (hk : ∀ o h', Owns bs h' [.sl 6 o ((ziz (rLot b) z r1).1.map Lot.cs) [], .box p [x, .int .i64 ((ziz (rLot b) z r1).2.at_ : Int), .bool (ziz (rLot b) z r1).2.bad]] →
   C (N 71) [p, .int .i64 2] h' fun v54 h => zr (zet.l3 C N Q (.ptr i2 0 0) p) [v54, .agg [.int .i64 e, .int .i64 i, .int .i64 d, .str c, .int .u8 (s.toNat : Int), o, .nils]] h) :
  zr (zet.l5 C N Q (.ptr i2 0 0) p) [.int .i64 (z : Int), .agg [.int .i64 e, .int .i64 i, .int .i64 d, .str c, .int .u8 (s.toNat : Int), .nils, .nils]] hh := by
 obtain ⟨⟨R, hxx⟩, hb⟩ := hx
 refine zr.intro (fun t vs hh => ∃ (o : AVal) (acc : List Lot) (r : Rdr), vs = [.int .i64 (t : Int), .agg [.int .i64 e, .int .i64 i, .int .i64 d, .str c, .int .u8 (s.toNat : Int), o, .nils]] ∧ t ≤ 65535 ∧ acc.length + t ≤ 65535 ∧ r.at_ ≤ b.length ∧ acc ++ (ziz (rLot b) t r).1 = (ziz (rLot b) z r1).1 ∧ (ziz (rLot b) t r).2 = (ziz (rLot b) z r1).2 ∧
   Owns bs hh [.sl 6 o (acc.map Lot.cs) [], .box p [x, .int .i64 (r.at_ : Int), .bool r.bad]]) z ?_ ⟨.nils, [], r1, rfl, by omega, by simp; omega, hr1, rfl, rfl, (ho.nils 6).perm (List.Perm.swap ..)⟩
 rintro Y t vs hh ⟨o, acc, r, rfl, ht, hal, hr, e1, e2, ho⟩ hY
 obtain ⟨id, rfl, hbx⟩ := ho.zhj 1 rfl
 simp +contextual -dsimp [zfa hbx]
 refine B.zt (fun h2 => ?_) (fun h2 => ?_) <;> simp at h2
 ·obtain ⟨t, rfl⟩ : ∃ u, t = u + 1 := ⟨t - 1, by omega⟩
  simp only [ziz, h2.2, Bool.false_eq_true, if_false] at e1 e2
  obtain ⟨q1, q2⟩ := ho.out (l1 := [_]) (l2 := [_])
  have hx1 := hxx.mono q1.le
  try simp +contextual -dsimp
  refine s2 _ hh _ x b R r _ hx1 hb hr q2 fun h5 ho5 => ?_
  have ho6 := q1.join ho5
  try simp +contextual -dsimp
  refine ho6.push 0 rfl rfl (by omega) (by simp; omega) (by simp [maxLen]; omega) fun o' h7 ho7 _ => ?_
  have e4 : IntKind.i64.wrap (((t + 1 : Nat) : Int) - 1) = (t : Int) := by rw [wrap_i64 (by omega) (by omega)]; omega
  have hco := (ho7.slAt 0 rfl).zdr
  simp -dsimp only [B.zh0, V.setF_agg, V.put1_cell, hco, cond_true, List.length_set, List.length_cons, List.length_nil, List.set, zqc, B.ze, if_true, show 5 < 0 + 1 + 1 + 1 + 1 + 1 + 1 + 1 by omega, V.zft, e4]
  refine hY t _ _ (by omega) ⟨o', acc ++ [(rLot b r).1], (rLot b r).2, rfl, by omega, by simp; omega, rLot_le hr, ?_, e2, ?_⟩
  ·rw [← e1, List.append_assoc]; rfl
  ·rw [List.map_append]; exact ho7
 ·have : (ziz (rLot b) t r) = ([], r) := by
   cases t with
   | zero => rfl
   | succ t => simp [ziz, h2 (by omega)]
  rw [this, List.append_nil] at e1
  rw [this] at e2
  subst e1
  rw [← e2] at hk
  exact hk _ _ ho
end Go.Ab
set_option maxRecDepth 100000
namespace Go.Ab
variable {C : CSem} {N : Nat → Nat}
def two {α : Type} (a b : α) : Nat → α := fun j => if j = 0 then a else b
end Go.Ab
namespace Go.Ab
variable {C : CSem} {N : Nat → Nat}
theorem litP {h : za} {es n : Nat} {cs : List AVal} (L : List (List AVal)) {K : Nat → za → Prop} (hc : cs = L.flatten) (hL : ∀ p ∈ L, p.length = es) (hn : n = L.length) (hK : ∀ i h', Owns h h' [.sl es (.sl i 0 0 n es n) L []] → K i h') : B.newO h (some cs) K :=
 fun i hi => hK i _ ((Owns.start h).newSl hi (by simpa using hL) hn (by simp; omega) (by simpa using hc))
section
variable {h : za} {v : AVal} {R : List (List AVal)} {j : Nat}
end
section
variable {h0 h : za} {vi vd vq vt : AVal} {Q : AVal → za → Prop} {Y5 : List AVal → za → Prop}
end
end Go.Ab
namespace Go.Ab
variable {C : CSem} {N : Nat → Nat}
def zpi (h : za) (y : AVal) : Prop := ∀ id b, foot y = some id → h id = some b → b.own = false
def zji (y : AVal) : List Nat := match foot y with
 | some id => [id]
 | none => []
theorem znl {y : AVal} {i : Nat} : memB (zji y) i = true ↔ foot y = some i := by
 unfold zji
 cases foot y with
 | none => exact ⟨fun h => (by cases h), fun h => (by cases h)⟩
 | some id =>
  have e : memB [id] i = Nat.beq id i := by
   show (bif Nat.beq id i then true else false) = _
   cases Nat.beq id i <;> rfl
  show memB [id] i = true ↔ _
  rw [e, Option.some.injEq]
  exact ⟨Nat.eq_of_beq_eq_true, fun h => by rw [h]; exact Nat.beq_refl i⟩
theorem zkz (h : za) (y : AVal) : zpi (disown h (zji y)) y := fun id b hf hb => by
 rw [zk5 (znl.2 hf)] at hb
 cases e : h id with
 | none => rw [e] at hb; cases hb
 | some c => rw [e] at hb; cases hb; rfl
theorem zpi.mono {h h' : za} {y : AVal} (hn : zpi h y) {es : Nat} {L R : List (List AVal)} (hy : SlX h es y L R) (hle : h.le h') : zpi h' y := fun id b hf hb => by
 obtain ⟨c, hc⟩ := hy.known hf
 rw [hle id c hc] at hb
 cases hb
 exact hn id b hf hc
theorem CDis.call (hD : CDis C) {f : Nat} {args : List AVal} {h : za} {K : AVal → za → Prop} (y : AVal) {es : Nat} {L R : List (List AVal)} (hy : SlX h es y L R) (x : C f args (disown h (zji y)) K) : C f args h K :=
 hD f args h (zji y) K (fun i hi => hy.known (znl.1 hi)) x
theorem znc {h0 h : za} {y : AVal} (hle : h0.le h) (hn : ∀ id, foot y = some id → h0 id = none) : h0.le (disown h (zji y)) := fun i b hb => by
 cases hm : memB (zji y) i with
 | true => rw [hn i (znl.1 hm)] at hb; cases hb
 | false => rw [zho hm]; exact hle i b hb
def small6 (L : List Lot) (W : List Want) (M : List Part) (a b : Int) : Bool := decide (L.length ≤ 12) && decide (W.length ≤ 20) && decide (M.length ≤ 6) && (decide (min b 4001 < max a 0) || decide (min b 4001 - max a 0 ≤ 60))
def zdm.Spec (C : CSem) (N : Nat → Nat) : Prop := ∀ (x y z : AVal) (L : List Lot) (W : List Want) (M : List Part) (R S T : List (List AVal)) (a b : Int) (h : za) (Q : AVal → za → Prop), SlX h 6 x (L.map Lot.cs) R → SlX h 3 y (W.map Want.cs) S → SlX h 2 z (M.map Part.cs) T →
 Q (.bool (small6 L W M a b)) h → C (N 318) [x, y, z, .int .i64 a, .int .i64 b] h Q
theorem zdm.spec (i : zdm.Imp C N) : zdm.Spec C N := by
 intro x y z L W M R S T a b h Q hx hy hz hq
 apply i
 have e1 := hx.zc3
 have e2 := hy.zc3
 have e3 := hz.zc3
 rw [List.length_map] at e1 e2 e3
 have n1 : decide ((L.length : Int) ≤ 12) = decide (L.length ≤ 12) := by rw [decide_eq_decide]; omega
 have n2 : decide ((W.length : Int) ≤ 20) = decide (W.length ≤ 20) := by rw [decide_eq_decide]; omega
 have n3 : decide ((M.length : Int) ≤ 6) = decide (M.length ≤ 6) := by rw [decide_eq_decide]; omega
 unfold small6 at hq
 simp -dsimp only [zdm.cps, zdm.k1, e1, V.bin_leq, n1, B.ze]
 by_cases c1 : L.length ≤ 12
 ·by_cases c2 : W.length ≤ 20
  ·by_cases c3 : M.length ≤ 6
   ·by_cases c4 : min b 4001 < max a 0
    ·simp -dsimp [c1, c2, c3, c4, e2, e3, n2, n3, V.min2_int, V.max2_int]
     refine zbl ?_
     simpa [c1, c2, c3, c4] using hq
    ·have ew : V.bin .sub (.int .i64 (min b 4001)) (.int .i64 (max a 0)) = some (.int .i64 (min b 4001 - max a 0)) := by rw [V.zft, wrap_i64 (by omega) (by omega)]
     simp -dsimp [c1, c2, c3, c4, e2, e3, n2, n3, V.min2_int, V.max2_int, ew]
     refine zbl ?_
     simpa [c1, c2, c3, c4] using hq
   ·simp -dsimp [c1, c2, c3, e2, e3, n2, n3]
    refine zbl ?_
    simpa [c1, c2, c3] using hq
  ·simp -dsimp [c1, c2, e2, e3, n2, n3]
   refine zbl ?_
   simpa [c1, c2] using hq
 ·simp -dsimp [c1, e2, e3, n2, n3]
  refine zbl ?_
  simpa [c1] using hq
def zd4.Spec (C : CSem) (N : Nat → Nat) : Prop := ∀ (h : za) (Q : AVal → za → Prop), (∀ x h', Owns h h' [.sl 6 x (([⟨1, [65], 0, 5, 3, false⟩, ⟨2, [65], 7, 9, 4, false⟩] : List Lot).map Lot.cs) []] → Q x h') → C (N 329) [] h Q
theorem zd4.spec (i : zd4.Imp C N) : zd4.Spec C N := by
 intro h Q hq
 apply i
 simp -dsimp [A.bld, repL]
 refine litP (es := 6) (n := 2) (([⟨1, [65], 0, 5, 3, false⟩, ⟨2, [65], 7, 9, 4, false⟩] : List Lot).map Lot.cs) rfl (by simp) rfl fun i1 h1 o1 => zbl (hq _ _ o1)
end Go.Ab
namespace Go.Ab
variable {C : CSem} {N : Nat → Nat}
def aw6L : List Lot := [⟨1, [65], 0, 5, 3, false⟩, ⟨2, [65], 7, 9, 4, false⟩]
def aw6W : List Want := [⟨[65], 2, 2⟩]
theorem aw6_1 : zkf aw6L aw6W [⟨[65], 1⟩] 1 20 = (1, true) := by decide +kernel
theorem aw6_2 : zkf aw6L aw6W [⟨[65], 2⟩] 1 20 = (7, true) := by decide +kernel
theorem aw6_3 : zkf aw6L aw6W [⟨[65], 5⟩] 1 20 = (0, false) := by decide +kernel
theorem aw6_4 : (ze1 aw6L aw6W [⟨[65], 2⟩] (zgf 1 20 aw6L)).map (fun w => (w.From, w.zdy)) = [(7, 9)] := by decide +kernel
theorem aw6_5 : rows (ze1 aw6L aw6W [⟨[65], 2⟩] (zgf 1 20 aw6L)) = [⟨7, 9⟩] := by
 have e : ze1 aw6L aw6W [⟨[65], 2⟩] (zgf 1 20 aw6L) = [⟨7, 9⟩] := by
  have h := aw6_4
  match hm : ze1 aw6L aw6W [⟨[65], 2⟩] (zgf 1 20 aw6L), h with
  | [⟨a, b⟩], h => simp at h; rw [h.1, h.2]
 rw [e, rows_eq]
 unfold rrows
 rw [if_pos (by decide), ofTo_span (a := 7) (b := 9) 4001 fun d hd => ?_]
 ·rfl
 ·simp [cov]; omega
def zdw.Spec (C : CSem) (N : Nat → Nat) : Prop := ∀ (h : za) (Q : AVal → za → Prop), Q (.bool true) h → C (N 317) [] h Q
theorem zdw.spec (i : zdw.Imp C N) (hD : CDis C) (s1 : zd4.Spec C N) (s2 : zc8.Spec C N) (s3 : zcz.Spec C N) : zdw.Spec C N := by
 intro h Q hq
 apply i
 simp -dsimp [A.bld, repL]
 refine litP (es := 3) (n := 1) (aw6W.map Want.cs) rfl (by simp [aw6W]) rfl fun i1 h1 o1 => ?_
 refine s1 _ _ fun x1 h2 o2 => ?_
 simp -dsimp [A.bld, repL]
 refine litP (es := 2) (n := 1) (([⟨[65], 1⟩] : List Part).map Part.cs) rfl (by simp) rfl fun i3 h3 o3 => ?_
 have ly3 := (o1.slAt 0 rfl).mono (za.le_trans o2.le o3.le)
 refine hD.call (.sl i1 0 0 1 3 1) ly3 ?_
 have d1 := (za.le_trans o1.le (za.le_trans o2.le o3.le))
 have h3le : h.le (disown h3 (zji (.sl i1 0 0 1 3 1))) := znc d1 fun id hf => (o1.own _ (List.mem_singleton_self _) id hf).1
 have hn := zkz h3 (.sl i1 0 0 1 3 1)
 have ly := ly3.disown (zji (.sl i1 0 0 1 3 1))
 refine s2 _ _ _ aw6L aw6W [⟨[65], 1⟩] [] [] [] 1 20 _ _ (((o2.slAt 0 rfl).mono o3.le).disown _) ly ((o3.slAt 0 rfl).disown _) hn (by decide) (by decide) ?_
 generalize disown h3 (zji (.sl i1 0 0 1 3 1)) = g3 at h3le hn ly
 rw [aw6_1]
 simp -dsimp [A.bld, repL]
 refine s1 _ _ fun x4 h4 o4 => ?_
 simp -dsimp [A.bld, repL]
 refine litP (es := 2) (n := 1) (([⟨[65], 2⟩] : List Part).map Part.cs) rfl (by simp) rfl fun i5 h5 o5 => ?_
 have le5 := za.le_trans o4.le o5.le
 refine s2 _ _ _ aw6L aw6W [⟨[65], 2⟩] [] [] [] 1 20 _ _ ((o4.slAt 0 rfl).mono o5.le) (ly.mono le5) (o5.slAt 0 rfl) (hn.mono ly le5) (by decide) (by decide) ?_
 rw [aw6_2]
 simp -dsimp [A.bld, repL]
 refine s1 _ _ fun x6 h6 o6 => ?_
 simp -dsimp [A.bld, repL]
 refine litP (es := 2) (n := 1) (([⟨[65], 5⟩] : List Part).map Part.cs) rfl (by simp) rfl fun i7 h7 o7 => ?_
 have le7 := za.le_trans le5 (za.le_trans o6.le o7.le)
 refine s2 _ _ _ aw6L aw6W [⟨[65], 5⟩] [] [] [] 1 20 _ _ ((o6.slAt 0 rfl).mono o7.le) (ly.mono le7) (o7.slAt 0 rfl) (hn.mono ly le7) (by decide) (by decide) ?_
 rw [aw6_3]
 simp -dsimp [A.bld, repL]
 refine s1 _ _ fun x8 h8 o8 => ?_
 simp -dsimp [A.bld, repL]
 refine litP (es := 2) (n := 1) (([⟨[65], 2⟩] : List Part).map Part.cs) rfl (by simp) rfl fun i9 h9 o9 => ?_
 have le9 := za.le_trans le7 (za.le_trans o8.le o9.le)
 refine s3 _ _ _ aw6L aw6W [⟨[65], 2⟩] [] [] [] 1 20 _ _ ((o8.slAt 0 rfl).mono o9.le) (ly.mono le9) (o9.slAt 0 rfl) (hn.mono ly le9) (by decide) (by decide) fun v h10 o10 => ?_
 rw [aw6_5] at o10
 have a := o10.slAt 0 rfl
 have i0 : V.idxS 2 v (.int .i64 0) = some (elp 2 v 0 0) := a.idxN (i := 0) (by simp)
 have d0 := a.elem (i := 0) (c := zby.cs ⟨7, 9⟩) rfl
 simp -dsimp [a.zc3, i0, d0, A.bld, repL, V.zkl]
 exact zkr (za.le_trans h3le (za.le_trans le9 o10.le)) hq
end Go.Ab
namespace Go.Ab
variable {C : CSem} {N : Nat → Nat}
theorem small6_facts {L : List Lot} {W : List Want} {M : List Part} {a b : Int} (h : small6 L W M a b = true) : L.length ≤ 12 ∧ W.length ≤ 20 ∧ M.length ≤ 6 := by
 simp only [small6, Bool.and_eq_true, decide_eq_true_eq] at h
 exact ⟨h.1.1.1, h.1.1.2, h.1.2⟩
end Go.Ab
namespace Go.Ab
variable {C : CSem} {N : Nat → Nat}
theorem zja {L : List Lot} {W : List Want} {M : List Part} : ∀ (n : Nat) (d : Int), ((zfs L W M d n).2 = true → d ≤ (zfs L W M d n).1 ∧ (zfs L W M d n).1 < d + (n : Int) ∧ zeb L W M (zfs L W M d n).1 = true ∧ ∀ e, d ≤ e → e < (zfs L W M d n).1 → zeb L W M e = false) ∧
  ((zfs L W M d n).2 = false → ∀ e, d ≤ e → e < d + (n : Int) → zeb L W M e = false)
 | 0, d => ⟨fun h => by simp [zfs] at h, fun _ e h1 h2 => by omega⟩
 | n + 1, d => by
  have ih := zja (L := L) (W := W) (M := M) n (d + 1)
  cases hc : zeb L W M d with
  | true =>
   simp only [zfs, hc, if_true]
   exact ⟨fun _ => ⟨Int.le_refl _, by omega, trivial, fun e h1 h2 => by omega⟩, fun h => by cases h⟩
  | false =>
   simp only [zfs, hc, Bool.false_eq_true, if_false]
   refine ⟨fun h => ?_, fun h e h1 h2 => ?_⟩
   ·obtain ⟨a, b, c, f⟩ := ih.1 h
    refine ⟨by omega, by omega, c, fun e h1 h2 => ?_⟩
    by_cases e1 : e = d
    ·subst e1; exact hc
    ·exact f e (by omega) h2
   ·by_cases e1 : e = d
    ·subst e1; exact hc
    ·exact ih.2 h e (by omega) (by omega)
end Go.Ab
namespace Go.Ab
variable {C : CSem} {N : Nat → Nat}
theorem boxLot (l : Lot) : A.boxN 6 (.agg l.cs) = some (.agg l.cs) := by simp
end Go.Ab
namespace Go.Ab
variable {C : CSem} {N : Nat → Nat}
theorem wantsOn_drop {W : List Want} {M : List Part} {d : Int} {k : Nat} (hk : k < W.length) : zdd (W.take k ++ W.drop (k + 1)) M d = (zdd W M d).take k ++ (zdd W M d).drop (k + 1) := by
 unfold zdd
 rw [List.take_append_of_le_length (by omega), List.drop_append_of_le_length (by omega), List.append_assoc]
theorem canHad_more {L : List Lot} {W : List Want} {M : List Part} {d : Int} {m : Lot} (hc : ziv (L ++ [m]) [] [] = true) (h : zeb L W M d = true) : zeb (L ++ [m]) W M d = true := greedy_more hc h
theorem canHad_less {L : List Lot} {W : List Want} {M : List Part} {d : Int} {k : Nat} (hk : k < W.length) (h : zeb L W M d = true) : zeb L (W.take k ++ W.drop (k + 1)) M d = true := by
 unfold zeb
 rw [wantsOn_drop hk]
 exact greedy_less (by rw [zfm]; omega) h
theorem zoe (p : Nat → Bool) : ∀ w ∈ ofTo p 4001, w.right = true := fun w hw => by
 have := (ofOk p 4001).ends w hw
 rw [zm4]; omega
theorem count_both {p q : Nat → Bool} (h : ∀ j, p j = true → q j = true) : count (ofTo p 4001 ++ ofTo q 4001) = count (ofTo q 4001) := by
 have hr : ∀ w ∈ ofTo p 4001 ++ ofTo q 4001, w.right = true := fun w hw => (List.mem_append.1 hw).elim (zoe p w) (zoe q w)
 rw [count_cov hr, count_cov (zoe q)]
 congr 2
 funext d
 have a := (ofOk p 4001).cov d
 have b := (ofOk q 4001).cov d
 have e : cov (ofTo p 4001 ++ ofTo q 4001) d = (cov (ofTo p 4001) d || cov (ofTo q 4001) d) := by simp [cov]
 rw [e, Bool.eq_iff_iff, Bool.or_eq_true, a, b]
 exact ⟨fun h' => h'.elim (fun k => ⟨k.1, h d k.2⟩) id, .inr⟩
theorem ofTo_first {p : Nat → Bool} {d : Nat} (hd : d < 4001) (hp : p d = true) (hf : ∀ e, e < d → p e = false) : ∃ w r, ofTo p 4001 = w :: r ∧ w.From = d := by
 have ok := ofOk p 4001
 have hc := (ok.cov d).2 ⟨hd, hp⟩
 generalize ofTo p 4001 = S at ok hc
 match S, ok, hc with
 | [], ok, hc => simp [cov] at hc
 | w :: r, ok, hc =>
  refine ⟨w, r, rfl, ?_⟩
  have he := ok.ends w (List.mem_cons_self ..)
  have h1 : w.From ≤ d := by
   unfold cov at hc
   rw [List.any_eq_true] at hc
   obtain ⟨v, hv, hv2⟩ := hc
   simp only [Bool.and_eq_true, decide_eq_true_eq] at hv2
   rcases List.mem_cons.1 hv with rfl | hv
   ·exact hv2.1
   ·have := (List.pairwise_cons.1 ok.apart).1 v hv; omega
  have h2 : cov (w :: r) w.From.toNat = true := by
   unfold cov
   rw [List.any_eq_true]
   exact ⟨w, List.mem_cons_self .., by simp only [Bool.and_eq_true, decide_eq_true_eq]; omega⟩
  have h3 := ((ok.cov _).1 h2).2
  refine Classical.byContradiction fun hne => ?_
  rw [hf w.From.toNat (by omega)] at h3
  cases h3
theorem dayOf_head {L : List Lot} {W : List Want} {M : List Part} {a b : Int} (h : (zkf L W M a b).2 = true) : ∃ w r, ofTo (zpg L W M a b) 4001 = w :: r ∧ w.From = (zkf L W M a b).1 := by
 rw [dayOf_eq] at h ⊢
 obtain ⟨s1, s2, s3, s4⟩ := (zja _ _).1 h
 generalize (zfs L W M (max a 0) (min b 4000 - max a 0 + 1).toNat).1 = d at *
 obtain ⟨k, rfl⟩ : ∃ k : Nat, d = (k : Int) := ⟨d.toNat, by omega⟩
 refine ofTo_first (by omega) ?_ fun e he => ?_
 ·unfold zpg
  rw [s3]
  simp; omega
 ·unfold zpg
  by_cases h0 : max a 0 ≤ (e : Int)
  ·rw [s4 e h0 (by omega), Bool.and_false]
  ·simp [h0]
theorem dayOf_sooner {L L' : List Lot} {W W' : List Want} {M : List Part} {a b : Int} (hm : ∀ d, zeb L W M d = true → zeb L' W' M d = true) (h : (zkf L W M a b).2 = true) : (zkf L' W' M a b).2 = true ∧ (zkf L' W' M a b).1 ≤ (zkf L W M a b).1 := by
 rw [dayOf_eq] at h ⊢
 rw [dayOf_eq]
 obtain ⟨s1, s2, s3, s4⟩ := (zja _ _).1 h
 have t := zja (L := L') (W := W') (M := M) (min b 4000 - max a 0 + 1).toNat (max a 0)
 have s5 := hm _ s3
 cases hc : (zfs L' W' M (max a 0) (min b 4000 - max a 0 + 1).toNat).2 with
 | false => have := t.2 hc _ s1 s2; rw [s5] at this; cases this
 | true =>
  refine ⟨rfl, Int.not_lt.1 fun hlt => ?_⟩
  have := (t.1 hc).2.2.2 _ s1 hlt
  rw [s5] at this; cases this
theorem zpi.disown {h : za} {y : AVal} (hn : zpi h y) (ids : List Nat) : zpi (Ab.disown h ids) y := fun id b hf hb => by
 obtain ⟨c, hc, _, _, _, _, ho⟩ := zhp hb
 have := hn id c hf hc
 cases hb' : b.own with
 | false => rfl
 | true => rw [ho hb'] at this; cases this
theorem zpi.znc {h0 h : za} {y : AVal} (hle : h0.le h) (hn : zpi h0 y) : h0.le (Ab.disown h (zji y)) := fun i b hb => by
 cases hm : memB (zji y) i with
 | true =>
  have := hn i b (znl.1 hm) hb
  rw [zk5 hm, hle i b hb]
  simp only [Option.map_some, Option.some.injEq]
  cases b; simp only at this; subst this; rfl
 | false => rw [zho hm]; exact hle i b hb
def zu.Spec (C : CSem) (N : Nat → Nat) : Prop := ∀ (x y z : AVal) (L : List Lot) (W : List Want) (M : List Part) (R S T : List (List AVal)) (a b : Int) (m : Lot) (at_ : Int) (h : za) (Q : AVal → za → Prop), SlX h 6 x (L.map Lot.cs) R → SlX h 3 y (W.map Want.cs) S → SlX h 2 z (M.map Part.cs) T →
 zpi h y → Q (.bool true) h → C (N 328) [x, y, z, .int .i64 a, .int .i64 b, .agg m.cs, .int .i64 at_] h Q
theorem more_tail (hD : CDis C) (s2 : zc8.Spec C N) (s3 : zcz.Spec C N) (s4 : zcv.Spec C N) {x y z x' y' v : AVal} {L L' : List Lot} {W W' : List Want} {M : List Part} {R S T R' S' : List (List AVal)} {a b : Int} {h h1 : za} {Q : AVal → za → Prop}
  (hx : SlX h1 6 x (L.map Lot.cs) R) (hy : SlX h1 3 y (W.map Want.cs) S) (hz : SlX h1 2 z (M.map Part.cs) T) (hn : zpi h1 y) (hx' : SlX h1 6 x' (L'.map Lot.cs) R') (hy' : SlX h1 3 y' (W'.map Want.cs) S') (hle : h.le (disown h1 (zji y')))
  {V' : List (List AVal)} (hv : SlX h1 2 v ((ofTo (zpg L W M a b) 4001).map zby.cs) V') (n1 : L.length ≤ 100) (n2 : W.length ≤ 100) (n3 : M.length ≤ 100) (n4 : L'.length ≤ 100) (n5 : W'.length ≤ 100)
  (hm : ∀ d, zeb L W M d = true → zeb L' W' M d = true) (hq : Q (.bool true) h) : zu.k1 C N (dn Q) x y z (.int .i64 a) (.int .i64 b) v x' y' h1 := by
 simp -dsimp only [zu.k1]
 refine hD.call y' hy' ?_
 have kx := hx.disown (zji y')
 have ky := hy.disown (zji y')
 have kz := hz.disown (zji y')
 have kx' := hx'.disown (zji y')
 have ky' := hy'.disown (zji y')
 have kv := hv.disown (zji y')
 have kn := hn.disown (zji y')
 have kn' := zkz h1 y'
 generalize disown h1 (zji y') = g at *
 refine s3 _ _ _ L' W' M _ _ _ a b _ _ kx' ky' kz kn' (by omega) (by omega) fun w h2 o2 => ?_
 rw [days_eq] at o2
 have lw := o2.slAt 0 rfl
 have lp := ofTo_len (zpg L W M a b) 4001
 have lq := ofTo_len (zpg L' W' M a b) 4001
 refine ((Owns.start h2).sz 2).appW 0 rfl (kv.mono o2.le) (by omega) (by simp; omega) (by simp [maxLen]; omega) fun u h3 o3 _ => ?_
 simp only [List.nil_append, List.set_cons_zero] at o3
 refine o3.appW 0 rfl (lw.mono o3.le) (by omega) (by simp; omega) (by simp [maxLen]; omega) fun u' h4 o4 _ => ?_
 simp only [List.set_cons_zero, ← List.map_append] at o4
 have e24 := o4.le
 have e4 := za.le_trans o2.le e24
 have pq : ∀ j, zpg L W M a b j = true → zpg L' W' M a b j = true := fun j hj => by
  unfold zpg at hj ⊢
  simp only [Bool.and_eq_true] at hj ⊢
  exact ⟨hj.1, hm _ hj.2⟩
 refine s4 _ _ _ _ _ (o4.slAt 0 rfl) (by simp; omega) ?_
 refine s4 _ _ _ _ _ (lw.mono e24) (by omega) ?_
 rw [count_both pq]
 simp -dsimp only [V.bin_neq, decide_true, Bool.not_true, B.cond_false, B.ze]
 refine s2 _ _ _ L W M _ _ _ a b _ _ (kx.mono e4) (ky.mono e4) (kz.mono e4) (kn.mono ky e4) (by omega) (by omega) ?_
 simp -dsimp only [V.ziu, List.getElem?_cons_zero, List.getElem?_cons_succ, B.ze]
 refine s2 _ _ _ L' W' M _ _ _ a b _ _ (kx'.mono e4) (ky'.mono e4) (kz.mono e4) (kn'.mono ky' e4) (by omega) (by omega) ?_
 simp -dsimp only [V.ziu, List.getElem?_cons_zero, List.getElem?_cons_succ, B.ze]
 have hs := dayOf_sooner (a := a) (b := b) hm
 have hh := dayOf_head (L := L) (W := W) (M := M) (a := a) (b := b)
 generalize zkf L W M a b = D at hs hh ⊢
 generalize zkf L' W' M a b = D' at hs ⊢
 obtain ⟨d, ok⟩ := D
 obtain ⟨d', ok'⟩ := D'
 simp only at hs hh ⊢
 cases ok with
 | false =>
  simp -dsimp
  exact zkr (za.le_trans hle e4) hq
 | true =>
  obtain ⟨rfl, hd⟩ := hs rfl
  obtain ⟨w0, r, ew, e0⟩ := hh rfl
  rw [ew] at kv
  have kv4 := kv.mono e4
  have el := kv4.zc3
  have i0 : V.idxS 2 v (.int .i64 0) = some (elp 2 v 0 0) := kv4.idxN (i := 0) (by simp)
  have f0 := kv4.zr3 (i := 0) (by simp) 0 0
  have d0 := kv4.ldv (i := 0) (f := 0) (c := w0.cs) (by simp) (by omega)
  have hlen : decide ((0 : Int) < (r.length : Int) + 1) = true := by rw [decide_eq_true_eq]; omega
  simp at f0 d0
  simp -dsimp [hd, el, i0, f0, d0, e0, V.zq1]
  exact zkr (za.le_trans hle e4) hq
theorem zu.spec (i : zu.Imp C N) (hD : CDis C) (s0 : zdw.Spec C N) (s1 : zdm.Spec C N) (s2 : zc8.Spec C N) (s3 : zcz.Spec C N) (s4 : zcv.Spec C N) (s5 : zeq.Spec C N) (s6 : zdt.Spec C N) (s7 : zb7.Spec C N) : zu.Spec C N := by
 intro x y z L W M R S T a b m at_ h Q hx hy hz hn hq
 apply i
 have e1 := hx.zc3
 have e2 := hy.zc3
 rw [List.length_map] at e1 e2
 simp -dsimp only [zu.cps, zu.k6, boxLot, B.ze]
 refine s0 _ _ ?_
 simp -dsimp only [V.zfv, Bool.not_true, B.cond_false, B.ze, zu.k5]
 refine s1 _ _ _ _ _ _ _ _ _ _ _ _ _ hx hy hz ?_
 simp +contextual -dsimp [e1, V.zld, -zu.k4]
 refine B.zt (fun hb => zbl hq) (fun hb => ?_)
 have hb' : small6 L W M a b = true ∧ (L.length : Int) < 12 := by simpa using hb
 obtain ⟨hs, hl⟩ := hb'
 obtain ⟨n1, n2, n3⟩ := small6_facts hs
 refine s3 _ _ _ L W M _ _ _ a b _ _ hx hy hz hn (by omega) (by omega) fun v h1 o1 => ?_
 rw [days_eq] at o1
 have lv := o1.slAt 0 rfl
 simp -dsimp only [zu.k4, zqn, B.zh0, B.ze]
 refine s6 _ _ _ _ _ (hx.mono o1.le) (by omega) fun w h2 o2 => ?_
 simp -dsimp only [fillLot1]
 refine o2.push 0 rfl (cs := Lot.cs m) rfl (by omega) (by simp; omega) (by simp [maxLen]; omega) fun z6 h6 o6 _ => ?_
 have e6 : L.map Lot.cs ++ [m.cs] = (L ++ [m]).map Lot.cs := by simp
 simp only [List.set_cons_zero, e6] at o6
 have g6 := za.le_trans o1.le o6.le
 have lw := o6.slAt 0 rfl
 have key : ∀ (x' : AVal) (L' : List Lot) (R' : List (List AVal)), SlX h6 6 x' (L'.map Lot.cs) R' → L'.length ≤ 100 → (∀ W d, zeb L W M d = true → zeb L' W M d = true) → zu.k2 C N (dn Q) x y z (.int .i64 a) (.int .i64 b) (.int .i64 at_) v x' y h6 := fun x' L' R' hx' nl hm => by
  simp -dsimp only [zu.k2, e2, V.zq1, B.ze]
  refine B.zt (fun hb => ?_) (fun hb => ?_)
  ·have hw : 0 < W.length := by simpa using hb
   simp -dsimp only [e2, B.ze]
   refine s5 _ _ _ _ (by omega) (by omega) fun n n1' n2' => ?_
   obtain ⟨k, rfl⟩ : ∃ k : Nat, n = (k : Int) := ⟨n.toNat, by omega⟩
   have hkW : k < W.length := by omega
   obtain ⟨p, Rp, ep, hp, _⟩ := (hy.mono g6).sliceIn (by omega) (a := none) (b := some (.int .i64 (k : Int))) (lo := 0) (hi := k) (.inl ⟨rfl, rfl⟩) (.inr ⟨_, rfl⟩) (by omega) (by omega)
   obtain ⟨q, Rq, eq, hq', _⟩ := (hy.mono g6).sliceIn (by omega) (a := some (.int .i64 ((k + 1 : Nat) : Int))) (b := none) (lo := k + 1) (hi := W.length) (.inr ⟨_, rfl⟩) (.inl ⟨rfl, rfl⟩) (by omega) (Nat.le_refl _)
   rw [List.take_length] at hq'
   simp only [List.drop_zero] at hp
   simp -dsimp only [ep, add1 (show k < 4611686018427387904 by omega), eq, B.ze]
   refine ((Owns.start h6).sz 3).appW 0 rfl hp (by omega) (by simp; omega) (by simp [maxLen]; omega) fun p' h7 o7 _ => ?_
   simp only [List.nil_append, List.set_cons_zero] at o7
   refine o7.appW 0 rfl (hq'.mono o7.le) (by omega) (by simp; omega) (by simp [maxLen]; omega) fun q' h8 o8 _ => ?_
   simp only [List.set_cons_zero, ← List.map_append] at o8
   have g8 := za.le_trans g6 o8.le
   refine more_tail hD s2 s3 s4 (hx.mono g8) (hy.mono g8) (hz.mono g8) (hn.mono hy g8) (hx'.mono o8.le) (o8.slAt 0 rfl) ?_ (lv.mono (za.le_trans o6.le o8.le)) (by omega) (by omega) (by omega) nl (by simp; omega) (fun d hd => hm _ d (canHad_less hkW hd)) hq
   refine znc g8 fun id hf => ?_
   have := (o8.own _ (List.mem_singleton_self _) id hf).1
   cases e : h id with
   | none => rfl
   | some c => rw [g6 id c e] at this; cases this
  ·exact more_tail hD s2 s3 s4 (hx.mono g6) (hy.mono g6) (hz.mono g6) (hn.mono hy g6) hx' (hy.mono g6) (zpi.znc g6 hn) (lv.mono o6.le) (by omega) (by omega) (by omega) nl (by omega) (fun d hd => hm W d hd) hq
 simp -dsimp only [zu.k3]
 refine s7 _ _ _ (L ++ [m]) [] [] _ [] [] _ _ lw (SlX.nils _ _) (SlX.nils _ _) (by simp; omega) (by simp) (by simp) ?_
 simp -dsimp only [V.zfv, B.ze]
 refine B.zt (fun hb => ?_) (fun hb => ?_)
 ·exact key x L R (hx.mono g6) (by omega) fun _ _ h => h
 ·have hc : ziv (L ++ [m]) [] [] = true := by simpa using hb
  exact key z6 (L ++ [m]) [] lw (by simp; omega) fun _ _ h => canHad_more hc h
end Go.Ab
namespace Go.Ab
theorem dWants {H : za} {v : AVal} (h : zhq H (.sl 32 3 tyWant) [v]) : ∃ L : List Want, SlIs H 3 v (L.map Want.cs) ∧ L.length < 4611686018427387904 := by
 obtain ⟨L, h1, h2⟩ := zq3 Want.cs (fun p hp => dWant hp) h
 exact ⟨L, h1, by unfold reach at h2; omega⟩
end Go.Ab
namespace Go.Ab
theorem dParts {H : za} {v : AVal} (h : zhq H (.sl 24 2 tyPart) [v]) : ∃ L : List Part, SlIs H 2 v (L.map Part.cs) ∧ L.length < 4611686018427387904 := by
 obtain ⟨L, h1, h2⟩ := zq3 Part.cs (fun p hp => dPart hp) h
 exact ⟨L, h1, by unfold reach at h2; omega⟩
end Go.Ab
