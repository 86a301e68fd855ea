/- What is proved: a part of the way to the statement: Crow9. No conditions. -/
import Derived.Test.YtljejbplojnnpaaGreatQ8
import Derived.Test.YtljejbplojnnpaaGreatQ6
import Derived.Test.YtljejbplojnnpaaGreatQ7
import Derived.Test.YtljejbplojnnpaaGreatQ3
set_option linter.unusedVariables false
set_option linter.unusedSimpArgs false
namespace Go.Ab
variable {C : CSem} {N : zN}
theorem All_lots (s1 : zcl.Spec C N) (s2 : zen.Spec C N) (s3 : zfg.Spec C N) (s4 : zfc.Spec C N) {h0 h : za} {s : Sta} {p x y z out : AVal} {R R2 : List (List AVal)} {P : List (Row × (AVal × AVal))} {Q : zQ} (hy : SlX h0 6 y (s.Lots.map Lot.cs) R) (hn : SlX h0 8 z (s.zgp.map Line.cs) R2)
  (hl : P.length + s.Lots.length + s.zgp.length <= 1000000) (ho : Owns h0 h (zja p out P)) (hq : ∀ out' P' h', P'.map (·.1) = P.map (·.1) ++ (s.Lots.map zwl ++ s.zgp.map zqo) -> Owns h0 h' (zja p out' P') -> Q out' h') :
  zd (zw.l7 C N Q p (.fn (N 425) [] [p]) y (.int .i64 s.Lots.length) (.agg (ztb s x y z))) [.int .i64 0] h := by
 refine zd.intro (fun n vs hh => ∃ (k : Nat) (out : AVal) (P' : List (Row × (AVal × AVal))), k + n = s.Lots.length ∧ vs = [.int .i64 (k : Int)] ∧ P'.map (·.1) = P.map (·.1) ++ (s.Lots.take k).map zwl ∧ Owns h0 hh (zja p out P')) s.Lots.length ?_ ⟨0, out, P, by simp, rfl, by simp, ho⟩
 rintro Y n vs hh ⟨k, out, P', hk, rfl, hP', ho⟩ hY
 have hPl := congrArg List.length hP'
 simp only [List.length_map, List.length_append, List.length_take] at hPl
 simp -dsimp only [zw.l7, zw.k6, lssN, B.zi]
 refine B.ze (fun hc => ?_) (fun hc => ?_)
 ·rw [decide_eq_true_eq] at hc
  obtain ⟨w, hw⟩ := zdz hc
  have hkl : k < (s.Lots.map Lot.cs).length := by simpa using hc
  have e1 : V.idxS 6 y (.int .i64 (k : Int)) = some (elp 6 y k 0) := hy.idxN hkl
  have e2 := (hy.mono ho.le).elem (get_map hw)
  have tail : ∀ (here : AVal) (b0 : za) (hh : za), h0.le b0 -> Owns b0 hh (zja p out P') -> Pcs b0 [here] [[bif w.znt then 1 else 0]] ->
    zw.k3 C N Q Y p (.fn (N 425) [] [p]) here y (.int .i64 s.Lots.length) (.int .i64 (k : Int)) (.agg (ztb s x y z)) (.agg w.cs) hh := by
   intro here b0 hh m0 ho p0
   simp -dsimp
   refine s1 w.Id 8 _ _ (by omega) fun a1 h1 o1 => ?_
   obtain ⟨b1, m1, ho1, p1⟩ := zew ho p0 o1
   simp -dsimp
   refine zhl 1 (s := [108]) rfl rfl fun i153 h2 o2 => ?_
   refine zrr o2 (by simp) ?_
   obtain ⟨b2, m2, ho2, p2⟩ := zew ho1 p1 o2
   generalize AVal.sl i153 0 0 1 1 1 = a2 at *
   have c1 := (p2.get 1 a1 _ rfl rfl).elim fun _ r => r.zm
   have c2 := (p2.get 2 a2 _ rfl rfl).elim fun _ r => r.zm
   simp -dsimp [c1, c2]
   refine zsz 2 ho2 rfl (ys := [a2, a1]) fun i158 h3 hle3 o3 => ?_
   generalize AVal.sl i158 0 0 2 1 2 = a3 at *
   have p3 := p2.mono (za.le_trans ho2.le hle3)
   refine s4 a3 [a2, a1] [[108], be w.Id 8] [] _ _ (o3.is (.sl 1 a3 ([a2, a1].map fun y => [y]) []) (by simp)) ⟨p3.2.2.1, p3.2.1, trivial⟩ (by simp) (by simp) fun key h4 o4 => ?_
   have ho4 : Owns b2 h4 (zja p out P' ++ [bOb false key ([[108], be w.Id 8].flatten)]) := (o3.join o4).sub ((List.sublist_append_left _ _).append_right _)
   refine s3 w.Item _ _ fun a5 h5 o5 => ?_
   obtain ⟨b5, m5, ho5, p5⟩ := zew (xs := [here]) (L := [[bif w.znt then 1 else 0]]) ho4 ⟨p2.1, trivial⟩ o5
   refine s1 w.From 2 _ _ (by omega) fun a6 h6 o6 => ?_
   obtain ⟨b6, m6, ho6, p6⟩ := zew ho5 p5 o6
   refine s1 w.zrx 2 _ _ (by omega) fun a7 h7 o7 => ?_
   obtain ⟨b7, m7, ho7, p7⟩ := zew ho6 p6 o7
   refine s1 w.Qty 4 _ _ (by omega) fun a8 h8 o8 => ?_
   obtain ⟨b8, m8, ho8, p8⟩ := zew ho7 p7 o8
   have c0 := (p8.get 0 here _ rfl rfl).elim fun _ r => r.zm
   have c5 := (p8.get 1 a5 _ rfl rfl).elim fun _ r => r.zm
   have c6 := (p8.get 2 a6 _ rfl rfl).elim fun _ r => r.zm
   have c7 := (p8.get 3 a7 _ rfl rfl).elim fun _ r => r.zm
   have c8 := (p8.get 4 a8 _ rfl rfl).elim fun _ r => r.zm
   simp -dsimp [c0, c5, c6, c7, c8]
   refine zsz 5 ho8 rfl (ys := [a5, a6, a7, a8, here]) fun i182 h11 hle11 o11 => ?_
   generalize AVal.sl i182 0 0 5 1 5 = a11 at *
   have p11 := p8.mono (za.le_trans ho8.le hle11)
   simp -dsimp only [B.zrt, List.nil_append, List.cons_append]
   refine s2 b8 h11 p out key P' _ a11 [a5, a6, a7, a8, here] [zeo w.Item, be w.From 2, be w.zrx 2, be w.Qty 4, [bif w.znt then 1 else 0]] [] _ (o11.sub (List.sublist_append_left _ _)) (o11.is (.sl 1 a11 ([a5, a6, a7, a8, here].map fun y => [y]) []) (by simp)) ⟨p11.2.1, p11.2.2.1, p11.2.2.2.1, p11.2.2.2.2.1, p11.1, trivial⟩ (by simp) ?_ (by omega) fun out' v h12 o12 => ?_
   ·have h1 := zev w.Item
    simp
    omega
   ·simp -dsimp only [add1 (show k < 4611686018427387904 by omega), B.zi]
    refine hY (s.Lots.length - (k + 1)) _ _ (by omega) ⟨k + 1, out', _, by omega, rfl, ?_, o12.back ?_⟩
    ·rw [List.map_append, hP', take_succ hw, List.map_append, List.append_assoc]
     simp [zwl, lotVal]
    ·exact za.le_trans m0 (za.le_trans m1 (za.le_trans m2 (za.le_trans m5 (za.le_trans m6 (za.le_trans m7 m8)))))
  simp -dsimp only [zw.k5]
  simp -dsimp [e1, e2]
  refine zhl 1 (s := [0]) rfl rfl fun i114 h2 o2 => ?_
  generalize AVal.sl i114 0 0 1 1 1 = here at *
  have ho2 := ho.join o2
  refine B.ze (fun hb => ?_) (fun hb => ?_)
  ·have hx := ho2.slAt (zja p out P').length zko
   have e5 : V.idxS 1 here (.int .i64 0) = some (elp 1 here 0 0) := hx.idxN (i := 0) (by simp)
   simp -dsimp only [e5, B.zi]
   refine ho2.st (zja p out P').length zko (i := 0) (c := bc 0) rfl (by omega) rfl fun h3 o3 _ => ?_
   rw [zvi] at o3
   obtain ⟨b0, m0, _, o4, a⟩ := o3.lay
   refine tail here b0 h3 m0 o4 ⟨⟨[], ?_⟩, trivial⟩
   rw [hb]
   exact a _ (List.mem_singleton_self _)
  ·obtain ⟨b0, m0, _, o4, a⟩ := ho2.lay
   refine tail here b0 h2 m0 o4 ⟨⟨[], ?_⟩, trivial⟩
   rw [hb]
   exact a _ (List.mem_singleton_self _)
 ·rw [decide_eq_false_iff_not] at hc
  have : k = s.Lots.length := by omega
  subst this
  rw [List.take_length] at hP'
  have l3 := hn.zj
  rw [List.length_map] at l3
  simp -dsimp [l3]
  refine All_lines s1 s2 s3 s4 hn (by omega) ho fun out' P2 h' e o => hq out' P2 h' ?_ o
  rw [e, hP', List.append_assoc]
theorem V.bin_sadd (a b : List UInt8) (h : a.length + b.length <= 140737488355328) : V.bin .add (.str a) (.str b) = some (.str (a ++ b)) := by
 simp only [V.bin, V.strOp]
 rw [if_neg]
 simp only [IntKind.max, IntKind.bits, IntKind.signed]
 simp; omega
theorem flat2M {T : Type} (f g : T -> List UInt8) : ∀ l : List T, (l.flatMap fun p => [f p, g p]).flatten = l.flatMap fun p => f p ++ g p
 | [] => rfl
 | a :: l => by simp only [List.flatMap_cons, List.flatten_append, flat2M f g l]; simp
theorem flat1M {T : Type} (f : T -> List UInt8) (l : List T) : (l.map f).flatten = l.flatMap f := rfl
abbrev pcsOb (v : AVal) (xs : List AVal) : Ob := .sl 1 v (xs.map fun y => [y]) []
theorem All_items (s1 : zcl.Spec C N) (s2 : zen.Spec C N) (s3 : zfg.Spec C N) (s4 : zfc.Spec C N) {h0 h : za} {s : Sta} {p x y z out : AVal} {P : List (Row × (AVal × AVal))} {Q : zQ} (ha : zry h0 s x y z) (hk : ∀ t ∈ s.zgy, znf t = true)
  (hl : P.length + s.zgy.length + s.Lots.length + s.zgp.length <= 1000000) (ho : Owns h0 h (zja p out P)) (hq : ∀ out' P' h', P'.map (·.1) = P.map (·.1) ++ (s.zgy.map itemRow ++ (s.Lots.map zwl ++ s.zgp.map zqo)) -> Owns h0 h' (zja p out' P') -> Q out' h') :
  zd (zw.l19 C N Q p (.fn (N 425) [] [p]) x (.int .i64 s.zgy.length) (.agg (ztb s x y z))) [.int .i64 0] h := by
 obtain ⟨hi, ⟨R, hy⟩, ⟨R2, hn⟩, n1, n2, n3⟩ := ha
 refine zd.intro (fun n vs hh => ∃ (k : Nat) (out : AVal) (P' : List (Row × (AVal × AVal))), k + n = s.zgy.length ∧ vs = [.int .i64 (k : Int)] ∧ P'.map (·.1) = P.map (·.1) ++ (s.zgy.take k).map itemRow ∧ Owns h0 hh (zja p out P')) s.zgy.length ?_ ⟨0, out, P, by simp, rfl, by simp, ho⟩
 rintro Y n vs hh ⟨k, out, P', hkn, rfl, hP', ho⟩ hY
 have hPl := congrArg List.length hP'
 simp only [List.length_map, List.length_append, List.length_take] at hPl
 simp -dsimp only [zw.l19, zw.k18, lssN, B.zi]
 refine B.ze (fun hc => ?_) (fun hc => ?_)
 ·rw [decide_eq_true_eq] at hc
  obtain ⟨w, hw⟩ := zdz hc
  obtain ⟨P0, R0, eP0, s0, at0⟩ := hi
  obtain ⟨a, hq0⟩ : ∃ a, P0[k]? = some (w, a) := by
   rw [<- eP0, List.getElem?_map] at hw
   obtain ⟨q, h1, h2⟩ := Option.map_eq_some_iff.1 hw
   exact ⟨q.2, by rw [h1, <- h2]⟩
  have ea := slX_el (s0.mono ho.le) (fun p hp => zh2.mono ho.le (at0 p hp)) hq0
  simp only at ea
  obtain ⟨f1, f2, f3, f4, f5⟩ := zwp (hk w (List.mem_of_getElem? hw))
  obtain ⟨⟨Ra, ha1⟩, ⟨Rb, ha2⟩, _⟩ : (∃ R, SlX h0 2 a.1 (w.zf2.map Part.cs) R) ∧ (∃ R, SlX h0 1 a.2 (w.zfk.map tc) R) ∧ w.ok := at0 _ (List.mem_of_getElem? hq0)
  have l1 := ha1.zj
  have l2 := ha2.zj
  rw [List.length_map] at l1 l2
  have e1 : V.idxS 4 x (.int .i64 (k : Int)) = some (elp 4 x k 0) := ea.idx
  have e2 : A.ldnv hh (elp 4 x k 0) 4 = some (.agg (zh2.cells w a)) := ea.ldn
  have e3 : V.setN 0 4 (.agg (zh2.cells w a)) (.agg [.str [], .int .i64 0, .nils, .nils]) = some (.agg (zh2.cells w a)) := zlh zh2 w a
  have u1 : IntKind.u8.wrap (w.zf2.length : Int) = ((byt w.zf2.length).toNat : Int) := zld _
  have u2 : IntKind.u8.wrap (w.zfk.length : Int) = ((byt w.zfk.length).toNat : Int) := zld _
  simp -dsimp only [zw.k17, e1, e2, e3, B.zk3, B.zi]
  simp -dsimp [zh2, l1, u1]
  refine s1 w.Life 2 _ _ (by omega) fun a1 h1 o1 => ?_
  obtain ⟨b1, m1, ho1, p1⟩ := zew (xs := []) (L := []) ho trivial o1
  simp -dsimp
  refine zhl 1 (s := [byt w.zf2.length]) rfl rfl fun i59 h2 o2 => ?_
  obtain ⟨b2, m2, ho2, p2⟩ := zew ho1 p1 o2
  generalize AVal.sl i59 0 0 1 1 1 = a2 at *
  have c1 := (p2.get 0 a1 _ rfl rfl).elim fun _ r => r.zm
  have c2 := (p2.get 1 a2 _ rfl rfl).elim fun _ r => r.zm
  simp -dsimp [c1, c2]
  refine zsz 2 ho2 rfl (ys := [a1, a2]) fun i60 h3 hle3 ho3 => ?_
  generalize AVal.sl i60 0 0 2 1 2 = v0 at *
  have m03 : h0.le b2 := za.le_trans m1 m2
  simp -dsimp [zh2, l1]
  have ep3 : Pcs b2 [a1, a2] ([be w.Life 2, [byt w.zf2.length]] ++ (w.zf2.take 0).flatMap fun p => [zeo p.Item, be p.Qty 4]) := p2
  refine zd.intro (fun t vs hh => ∃ (j : Nat) (v : AVal) (xs : List AVal) (b : za), j + t = w.zf2.length ∧ vs = [v, .int .i64 (j : Int)] ∧ h0.le b ∧ Owns b hh (zja p out P' ++ [pcsOb v xs]) ∧ Pcs b xs ([be w.Life 2, [byt w.zf2.length]] ++ (w.zf2.take j).flatMap fun p => [zeo p.Item, be p.Qty 4])) w.zf2.length ?_ ⟨0, v0, [a1, a2], b2, by omega, rfl, m03, ho3, ep3⟩
  rintro Y5 t vs h4 ⟨j, v, xs, b, hj, rfl, m4, ho4, p4⟩ hY5
  have hxl := p4.len
  have hcnt : ∀ j, (([be w.Life 2, [byt w.zf2.length]] ++ (w.zf2.take j).flatMap fun p => [zeo p.Item, be p.Qty 4]) : List (List UInt8)).length <= 2 + 2 * j := fun j => by
   have : ∀ l : List Part, (l.flatMap fun p => [zeo p.Item, be p.Qty 4]).length = 2 * l.length := fun l => by
    induction l with
    | nil => rfl
    | cons a l ih => rw [List.flatMap_cons, List.length_append, ih]; simp; omega
   rw [List.length_append, this, List.length_take]
   simp; omega
  simp -dsimp only [zw.l14, zw.k13, lssN, B.zi]
  refine B.ze (fun hd => ?_) (fun hd => ?_)
  ·rw [decide_eq_true_eq] at hd
   obtain ⟨q, hq⟩ := zdz hd
   have hjl : j < (w.zf2.map Part.cs).length := by simpa using hd
   have g1 : V.idxS 2 a.1 (.int .i64 (j : Int)) = some (elp 2 a.1 j 0) := ha1.idxN hjl
   have g2 := (ha1.mono (za.le_trans m4 ho4.le)).elem (get_map hq)
   simp -dsimp [g1, g2]
   refine s3 q.Item _ _ fun a5 h5 o5 => ?_
   obtain ⟨b5, m5, ho5, p5⟩ := zew ho4 p4 o5
   refine s1 q.Qty 4 _ _ (by omega) fun a6 h6 o6 => ?_
   obtain ⟨b6, m6, ho6, p6⟩ := zew ho5 p5 o6
   have c5 : a5.zm = true := (o5.slAt 0 rfl).zm
   have c6 : a6.zm = true := (o6.slAt 0 rfl).zm
   simp -dsimp [c5, c6]
   have := hcnt j
   refine appLit (ys := [a5, a6]) ho6 rfl (by simp; omega) fun v' h7 ho7 => ?_
   simp -dsimp only [add1 (show j < 4611686018427387904 by omega), B.zi]
   refine hY5 (t - 1) _ _ (by omega) ⟨j + 1, v', xs ++ [a5, a6], b6, by omega, rfl, za.le_trans m4 (za.le_trans m5 m6), ho7, ?_⟩
   rw [take_succ hq, List.flatMap_append]
   simpa using p6
  ·rw [decide_eq_false_iff_not] at hd
   have : j = w.zf2.length := by omega
   subst this
   rw [List.take_length] at p4
   have hc0 := hcnt w.zf2.length
   rw [List.take_length] at hc0
   generalize hL : ([be w.Life 2, [byt w.zf2.length]] ++ w.zf2.flatMap fun p => [zeo p.Item, be p.Qty 4] : List (List UInt8)) = L0 at *
   have hxl := p4.len
   simp -dsimp [l2, u2]
   refine zhl 1 (s := [byt w.zfk.length]) rfl rfl fun i83 h5 o5 => ?_
   obtain ⟨b5, m5, ho5, p5⟩ := zew ho4 p4 o5
   generalize AVal.sl i83 0 0 1 1 1 = a3 at *
   have c3 : a3.zm = true := (o5.slAt 0 rfl).zm
   simp -dsimp [c3]
   refine appLit (ys := [a3]) ho5 rfl (by simp; omega) fun v1 h6 ho6 => ?_
   simp -dsimp [l2]
   refine zd.intro (fun t vs hh => ∃ (j : Nat) (v : AVal) (xs : List AVal) (b : za), j + t = w.zfk.length ∧ vs = [v, .int .i64 (j : Int)] ∧ h0.le b ∧ Owns b hh (zja p out P' ++ [pcsOb v xs]) ∧ Pcs b xs (L0 ++ [[byt w.zfk.length]] ++ (w.zfk.take j).map zeo)) w.zfk.length ?_ ⟨0, v1, xs ++ [a3], b5, by omega, rfl, za.le_trans m4 m5, ho6, by simpa using p5⟩
   rintro Y6 t2 vs h7 ⟨j, v, xs, b, hj2, rfl, m7, ho7, p7⟩ hY6
   have hxl := p7.len
   simp only [List.length_append, List.length_map, List.length_take, List.length_cons, List.length_nil] at hxl
   simp -dsimp only [zw.l10, zw.k9, lssN, B.zi]
   refine B.ze (fun he => ?_) (fun he => ?_)
   ·rw [decide_eq_true_eq] at he
    obtain ⟨q, hq⟩ := zdz he
    have hjl : j < (w.zfk.map tc).length := by simpa using he
    have g1 : V.idxS 1 a.2 (.int .i64 (j : Int)) = some (elp 1 a.2 j 0) := ha2.idxN hjl
    have g2 : A.ldv h7 (elp 1 a.2 j 0) = some (.str q) := (ha2.mono (za.le_trans m7 ho7.le)).cell (get_map hq)
    simp -dsimp only [g1, g2, B.zii, B.zi]
    refine s3 q _ _ fun a5 h8 o8 => ?_
    obtain ⟨b8, m8, ho8, p8⟩ := zew ho7 p7 o8
    have c5 : a5.zm = true := (o8.slAt 0 rfl).zm
    simp -dsimp [c5]
    refine appLit (ys := [a5]) ho8 rfl (by simp; omega) fun v' h9 ho9 => ?_
    simp -dsimp only [add1 (show j < 4611686018427387904 by omega), B.zi]
    refine hY6 (t2 - 1) _ _ (by omega) ⟨j + 1, v', xs ++ [a5], b8, by omega, rfl, za.le_trans m7 m8, ho9, ?_⟩
    rw [take_succ hq, List.map_append, <- List.append_assoc]
    exact p8
   ·rw [decide_eq_false_iff_not] at he
    have : j = w.zfk.length := by omega
    subst this
    rw [List.take_length] at p7
    have ef : (L0 ++ [[byt w.zfk.length]] ++ w.zfk.map zeo).flatten = zqq w := by
     rw [<- hL]
     simp only [List.flatten_append, flat2M, flat1M, zqq]
     simp
    have g1 := zij (f := fun p : Part => zeo p.Item ++ be p.Qty 4) (m := 17) (fun p => by have := zev p.Item; simp; omega) w.zf2
    have g2 := zij (f := zeo) (m := 13) zev w.zfk
    have el : (zqq w).length <= 1000 := by
     unfold zqq
     simp only [List.length_append, List.length_cons, zfh]
     omega
    have fc : (105 :: w.Code).length <= far := by
     have : w.Code.length <= 12 := by
      unfold zcc at f4
      simp only [Bool.and_eq_true, decide_eq_true_eq] at f4
      exact f4.1.2
     unfold far; simp; omega
    have es : V.bin .add (.str [105]) (.str w.Code) = some (.str (105 :: w.Code)) := V.bin_sadd [105] w.Code (by unfold far at fc; simp at fc ⊢; omega)
    simp -dsimp [es]
    refine strBytes_own (s := 105 :: w.Code) fc fun key h8 o8 => ?_
    have ho8 : Owns b h8 (zja p out P' ++ [bOb false key (105 :: w.Code)]) := (ho7.join o8).sub ((List.sublist_append_left _ _).append_right _)
    have hv8 : SlX h8 1 v (xs.map fun y => [y]) [] := (ho7.join o8).is (pcsOb v xs) (by simp)
    simp -dsimp only [B.zrt, List.nil_append, List.cons_append]
    refine s2 b h8 p out key P' _ v xs _ [] _ ho8 hv8 (p7.mono ho8.le) (by simp; omega) (by rw [ef]; omega) (by omega) fun out' u h9 o9 => ?_
    simp -dsimp only [add1 (show k < 4611686018427387904 by omega), B.zi]
    rw [ef] at o9
    refine hY (n - 1) _ _ (by omega) ⟨k + 1, out', _, by omega, rfl, ?_, o9.back m7⟩
    rw [List.map_append, hP', take_succ hw, List.map_append, List.append_assoc]
    rfl
 ·rw [decide_eq_false_iff_not] at hc
  have : k = s.zgy.length := by omega
  subst this
  rw [List.take_length] at hP'
  have l2 := hy.zj
  rw [List.length_map] at l2
  simp -dsimp [l2]
  refine All_lots s1 s2 s3 s4 hy hn (by omega) ho fun out' P2 h' e o => hq out' P2 h' ?_ o
  rw [e, hP', List.append_assoc]
end Go.Ab
namespace Go.Ab
variable {C : CSem} {N : zN}
def zw.Spec (C : CSem) (N : zN) : Prop := ∀ (s : Sta) (x y z : AVal) (h : za) (Q : zQ), zry h s x y z -> s.zgy.length + s.Lots.length + s.zgp.length <= 100000 ->
 (∀ x' P h', P.map (·.1) = allRows s -> Df rowK h h' x' P -> Q x' h') -> C (N 412) [.agg (ztb s x y z)] h Q
theorem zw.spec (i : zw.Imp C N) (s0 : zbu.Spec C N) (s1 : zcl.Spec C N) (s2 : zen.Spec C N) (s3 : zfg.Spec C N) (s4 : zfc.Spec C N) : zw.Spec C N := by
 intro s x y z h Q ha hlen hq
 have hx := ha.items.zm
 have hy : y.zm = true := ha.lots.elim fun _ r => r.zm
 have hz : z.zm = true := ha.lines.elim fun _ r => r.zm
 have l1 := ha.items.zj
 apply i
 simp -dsimp
 refine s0 s x y z h _ ha ?_
 simp -dsimp
 refine B.ze (fun hb => ?_) (fun hb => ?_)
 ·have hb : zo5 s = false := by simpa using hb
  refine zk (hq .nils [] h (by unfold allRows; rw [hb]; rfl) (by simpa [Df, DK.os] using (Owns.start h).nils rowK.n))
 ·have hb : zo5 s = true := by simpa using hb
  intro i3 hi3
  have o0 := ((Owns.start h).zlr hi3 [.nils]).nils 2
  generalize upd h i3 (zej [.nils]) = h1 at *
  generalize hp : AVal.ptr i3 0 0 = p at *
  have o0 : Owns h h1 (zja p .nils []) := o0
  simp -dsimp
  refine zhl 4 (s := [42, 100, 97, 121]) rfl rfl fun i22 h2 o2 => ?_
  refine zrr o2 (by simp) ?_
  generalize AVal.sl i22 0 0 4 1 4 = k1 at *
  have o3 : Owns h h2 (zja p .nils [] ++ [bOb false k1 [42, 100, 97, 121]]) := o0.join o2
  simp -dsimp
  refine numPut (j := 2) s1 s2 o3 (by omega) (by simp) fun out1 v1 h3 o4 => ?_
  simp -dsimp
  refine zhl 5 (s := [42, 108, 105, 110, 101]) rfl rfl fun i30 h4 o5 => ?_
  refine zrr o5 (by simp) ?_
  generalize AVal.sl i30 0 0 5 1 5 = k2 at *
  have o6 := o4.join o5
  simp -dsimp
  refine numPut (j := 8) s1 s2 o6 (by omega) (by simp) fun out2 v2 h5 o7 => ?_
  simp -dsimp
  refine zhl 4 (s := [42, 108, 111, 116]) rfl rfl fun i38 h6 o8 => ?_
  refine zrr o8 (by simp) ?_
  generalize AVal.sl i38 0 0 4 1 4 = k3 at *
  have o9 := o7.join o8
  simp -dsimp
  refine numPut (j := 8) s1 s2 o9 (by omega) (by simp) fun out3 v3 h7 o10 => ?_
  simp -dsimp [l1]
  have hk : ∀ t ∈ s.zgy, znf t = true := by
   unfold zo5 itemsB at hb
   simp only [Bool.and_eq_true] at hb
   exact ordB_all hb.2.1
  refine All_items s1 s2 s3 s4 ha hk (by simp; omega) o10 fun out' P' h8 e o => zk (hq out' P' h8 ?_ (o.sub (List.sublist_cons_self _ _)))
  rw [e]
  unfold allRows
  rw [hb]
  rfl
end Go.Ab
namespace Go.Ab
def zhb : Sta := ⟨0, 0, 0, [], [], []⟩
def zvw (x : Row) (s : Sta) : Sta × Bool :=
 if x.Key = [42, 100, 97, 121] then ({ s with Now := (rNum x.Value 2 ⟨0, false⟩).1 }, (rNum x.Value 2 ⟨0, false⟩).2.bad)
 else if x.Key = [42, 108, 111, 116] then ({ s with zlc := (rNum x.Value 8 ⟨0, false⟩).1 }, (rNum x.Value 8 ⟨0, false⟩).2.bad)
 else if x.Key = [42, 108, 105, 110, 101] then ({ s with zjl := (rNum x.Value 8 ⟨0, false⟩).1 }, (rNum x.Value 8 ⟨0, false⟩).2.bad)
 else if x.Key.head? = some 105 then ({ s with zgy := s.zgy ++ [(zr9 x.Value (x.Key.drop 1) ⟨0, false⟩).1] }, (zr9 x.Value (x.Key.drop 1) ⟨0, false⟩).2.bad)
 else if x.Key.head? = some 108 then ({ s with Lots := s.Lots ++ [(zuf x.Value (rNum (x.Key.drop 1) 8 ⟨0, false⟩).1 ⟨0, false⟩).1] }, (zuf x.Value (rNum (x.Key.drop 1) 8 ⟨0, false⟩).1 ⟨0, false⟩).2.bad || (rNum (x.Key.drop 1) 8 ⟨0, false⟩).2.bad)
 else if x.Key.head? = some 111 then ({ s with zgp := s.zgp ++ [(zqz x.Value (rNum (x.Key.drop 1) 8 ⟨0, false⟩).1 ⟨0, false⟩).1] }, (zqz x.Value (rNum (x.Key.drop 1) 8 ⟨0, false⟩).1 ⟨0, false⟩).2.bad || (rNum (x.Key.drop 1) 8 ⟨0, false⟩).2.bad)
 else (s, true)
def outB (p : Option Row) (x : Row) : Bool := (match p with | some q => decide (0 <= cmpB q.Key x.Key) | none => false) || decide (x.Key = [])
def zud : List Row -> Option Row -> Sta -> List Row -> Option (Sta × List Row)
 | [], _, s, m => some (s, m)
 | x :: l, p, s, m => if outB p x = true then none else if x.Key.head? = some 97 then zud l (some x) s m else if (zvw x s).2 = true then none else zud l (some x) (zvw x s).1 (m ++ [x])
def stEnd : Option (Sta × List Row) -> Sta × Int
 | some (s, m) => if allRows s = m ∧ m ≠ [] then (s, 0) else (zhb, 4)
 | none => (zhb, 4)
def zjt (l : List Row) : Sta × Int := stEnd (zud l none zhb [])
end Go.Ab
namespace Go.Ab
variable {C : CSem} {N : zN}
def zd8.Spec (C : CSem) (N : zN) : Prop := SameE rowK C (N 430)
theorem zd8.spec (i : zd8.Imp C N) (s1 : zd4.Spec C N) : zd8.Spec C N := by
 intro t u a b h Q ha hb hq
 obtain ⟨a1, a2⟩ : Bs h a.1 t.Key ∧ Bs h a.2 t.Value := ha
 obtain ⟨b1, b2⟩ : Bs h b.1 u.Key ∧ Bs h b.2 u.Value := hb
 apply i
 simp -dsimp [rowK]
 refine s1 _ _ _ _ _ _ a1 b1 ?_
 simp +contextual -dsimp
 refine B.zee (v := .bool (decide (t.Value = u.Value))) (fun _ Q hq => s1 _ _ _ _ _ _ a2 b2 hq) ?_
 simp -dsimp
 refine zk ?_
 have : decide (t = u) = (decide (t.Key = u.Key) && decide (t.Value = u.Value)) := by
  cases t; cases u; simp [Row.mk.injEq]
 rw [this] at hq
 exact hq
def zb.Spec (C : CSem) (N : zN) : Prop := ∀ (x y : AVal) (L M : List Row) (h : za) (Q : zQ), Dl rowK h x L -> Dl rowK h y M -> L.length < 4611686018427387904 -> Q (.bool (decide (L = M))) h -> C (N 431) [x, y, .fn (N 430) [] []] h Q
theorem zb.spec (i : zb.Imp C N) (s1 : zd8.Spec C N) : zb.Spec C N := by
 intro x y L M h Q hx hy hlen hq
 have hlx := hx.zj
 have hly := hy.zj
 apply i
 simp -dsimp [hlx, hly]
 refine B.ze (fun hb => ?_) (fun hb => ?_) <;> simp -dsimp at hb ⊢
 ·rw [decide_eq_false fun e => hb (by rw [e])] at hq
  exact zk hq
 ·simp -dsimp only [hlx, B.zi]
  refine zd.intro (fun n vs hh => ∃ k : Nat, k + n = L.length ∧ vs = [.int .i64 (k : Int)] ∧ hh = h ∧ L.take k = M.take k) L.length ?_ ⟨0, by simp, rfl, rfl, by simp⟩
  rintro Y n vs hh ⟨k, hn, rfl, rfl, he⟩ hY
  simp -dsimp only [zb.l2, zb.k1, lssN, B.zi]
  refine B.ze (fun hc => ?_) (fun hc => ?_)
  ·rw [decide_eq_true_eq] at hc
   obtain ⟨w, hw⟩ := zdz hc
   obtain ⟨u, hu⟩ := zdz (L := M) (k := k) (by omega)
   obtain ⟨a, ea⟩ := hx.get hw
   obtain ⟨b, eb⟩ := hy.get hu
   have e1 : V.idxS 2 x (.int .i64 (k : Int)) = some (elp 2 x k 0) := ea.idx
   have e2 : A.ldnv hh (elp 2 x k 0) 2 = some (.agg (rowK.cells w a)) := ea.ldn
   have e3 : V.idxS 2 y (.int .i64 (k : Int)) = some (elp 2 y k 0) := eb.idx
   have e4 : A.ldnv hh (elp 2 y k 0) 2 = some (.agg (rowK.cells u b)) := eb.ldn
   have f1 : V.setN 0 2 (.agg (rowK.cells w a)) (.agg [.nils, .nils]) = some (.agg (rowK.cells w a)) := zlh rowK w a
   have f2 : V.setN 0 2 (.agg (rowK.cells u b)) (.agg [.nils, .nils]) = some (.agg (rowK.cells u b)) := zlh rowK u b
   have f3 : V.zbv 0 2 (.agg (rowK.cells w a)) = some (.agg (rowK.cells w a)) := znj rowK w a
   have f4 : V.zbv 0 2 (.agg (rowK.cells u b)) = some (.agg (rowK.cells u b)) := znj rowK u b
   simp -dsimp only [e1, e2, e3, e4, f1, f2, f3, f4, B.zi, B.zk3, B.zrt, List.nil_append, List.append_nil]
   refine s1 _ _ _ _ _ _ ea.at_ eb.at_ ?_
   simp -dsimp only [V.zv6, B.zi]
   refine B.ze (fun hd => ?_) (fun hd => ?_) <;> simp -dsimp at hd
   ·rw [decide_eq_false fun e => by subst e; rw [hw] at hu; cases hu; exact hd rfl] at hq
    exact zk hq
   ·simp -dsimp only [add1 (show k < 4611686018427387904 by omega), B.zi]
    refine hY (L.length - (k + 1)) _ _ (by omega) ⟨k + 1, by omega, rfl, rfl, ?_⟩
    rw [take_succ hw, take_succ hu, he, hd]
  ·rw [decide_eq_false_iff_not] at hc
   rw [List.take_of_length_le (by omega), List.take_of_length_le (by omega)] at he
   rw [decide_eq_true he] at hq
   exact zk hq
end Go.Ab
namespace Go.Ab
variable {C : CSem} {N : zN}
abbrev StaO (s : Sta) (x : AVal) (P : List (Itm × (AVal × AVal))) (y z : AVal) : List Ob := .sl 4 x (P.map zh2.cs) [] :: .sl 6 y (s.Lots.map Lot.cs) [] :: .sl 8 z (s.zgp.map Line.cs) [] :: zh2.os false P
structure StaN (s : Sta) (k : Nat) : Prop where
 n : s.zgy.length + s.Lots.length + s.zgp.length <= k
 ok : ∀ t ∈ s.zgy, t.ok
theorem StaO.at {h0 h : za} {s : Sta} {x y z : AVal} {P : List (Itm × (AVal × AVal))} {l : List Ob} (ho : Owns h0 h l) (hl : ∀ o ∈ StaO s x P y z, o ∈ l) (e : P.map (·.1) = s.zgy) {k : Nat} (hn : StaN s k) (hk : k <= 100000000) : zry h s x y z := by
 obtain ⟨n, ok⟩ := hn
 refine ⟨?_, ⟨[], ho.is (.sl 6 y (s.Lots.map Lot.cs) []) (hl _ (by simp))⟩, ⟨[], ho.is (.sl 8 z (s.zgp.map Line.cs) []) (hl _ (by simp))⟩, by omega, by omega, by omega⟩
 rw [<- e]
 refine dl_of (K := zh2) (b := false) (l := l) (R := []) (fun p hp => ok _ (by rw [<- e]; exact List.mem_map.2 ⟨p, hp, rfl⟩)) ho.is (hl _ (List.mem_cons_self ..)) fun o hm => hl _ ?_
 simp only [StaO, List.mem_cons]
 exact .inr (.inr (.inr hm))
theorem itemVal_len {t : Itm} (h1 : t.zf2.length <= 8) (h2 : t.zfk.length <= 4) : (zqq t).length <= 192 := by
 have g1 := zij (f := fun p : Part => zeo p.Item ++ be p.Qty 4) (m := 17) (fun p => by have := zev p.Item; simp; omega) t.zf2
 have g2 := zij (f := zeo) (m := 13) zev t.zfk
 unfold zqq
 simp only [List.length_append, List.length_cons, zfh]
 omega
theorem allRows_small {s : Sta} : ∀ r ∈ allRows s, 1 <= r.Key.length ∧ r.Key.length <= 13 ∧ r.Key.length + r.Value.length <= 205 := by
 unfold allRows
 cases hb : zo5 s with
 | false => simp
 | true =>
  unfold zo5 itemsB at hb
  simp only [Bool.and_eq_true] at hb
  intro r hr
  simp only [cond_true, staRows, headRows, List.cons_append, List.nil_append, List.mem_cons, List.mem_append, List.mem_map] at hr
  rcases hr with rfl | rfl | rfl | ⟨t, ht, rfl⟩ | ⟨t, _, rfl⟩ | ⟨t, _, rfl⟩
  ·simp
  ·simp
  ·simp
  ·obtain ⟨k1, k2, k3, k4, k5⟩ := zwp (ordB_all hb.2.1 t ht)
   have := zrs k4
   have := itemVal_len k1 k2
   simp only [itemRow, List.length_cons]
   omega
  ·have := zev t.Item
   simp [zwl, lotVal]
   omega
  ·have := zev t.Item
   have := zev t.Code
   simp [zqo, lineVal]
   omega
theorem zw8 {s : Sta} : ∀ r ∈ allRows s, rowK.ok r := fun r hr => by
 have := allRows_small r hr
 show r.Key.length <= far ∧ r.Value.length <= far
 unfold far
 omega
theorem ztd {S : List Ob} {a b : Ob} : ((S ++ [a]) ++ [b]).Perm ((S ++ [b]) ++ [a]) := by
 rw [List.append_assoc, List.append_assoc]
 exact List.Perm.append_left S (List.Perm.swap ..)
theorem permI {U V : List Ob} {a b : Ob} : (U ++ [a] ++ (V ++ [b])).Perm (U ++ V ++ [b] ++ [a]) := by
 have h : (U ++ ([a] ++ (V ++ [b]))).Perm (U ++ ((V ++ [b]) ++ [a])) := List.Perm.append_left U List.perm_append_comm
 simpa only [List.append_assoc] using h
theorem rList_cnt {T : Type} (one : Rdr -> T × Rdr) (n : Int) (r : Rdr) (h : n <= 255) : (zdm one n.toNat r).1.length <= few := by
 have := zjn one n.toNat r
 unfold few
 omega
theorem rItem_ok (b c : List UInt8) (r : Rdr) : (zr9 b c r).1.ok := ⟨rList_cnt _ _ _ (rNum_1 _ _).2, rList_cnt _ _ _ (rNum_1 _ _).2⟩
def zbc.Spec (C : CSem) (N : zN) : Prop := ∀ (x : AVal) (L : List Row) (h : za) (Q : zQ), Dl rowK h x L -> L.length <= 100000 ->
 (∀ x' P y' z' h', P.map (·.1) = (zjt L).1.zgy -> StaN (zjt L).1 L.length -> Owns h h' (StaO (zjt L).1 x' P y' z') -> Q (.tup [.agg (ztb (zjt L).1 x' y' z'), .int .i64 (zjt L).2]) h') -> C (N 413) [x] h Q
theorem V.cutStr1 (s : List UInt8) : s ≠ [] -> V.zvk (.str s) (some (.int .i64 1)) none = some (.str (s.drop 1)) := fun h => by
 have : 1 <= s.length := List.length_pos_iff.2 h
 simp [V.zvk, V.ends, V.endsC, V.asNat, this]
def prevR (L : List Row) (k : Nat) : Option Row := if k = 0 then none else L[k - 1]?
theorem zbc.spec (i : zbc.Imp C N) (s1 : zdu.Spec C N) (s2 : zp.Spec C N) (s3 : zz.Spec C N) (s4 : zco.Spec C N) (s5 : zch.Spec C N) (s6 : zw.Spec C N) (s7 : zb.Spec C N) : zbc.Spec C N := by
 intro x L h Q hx hlen hq
 apply i
 have hlx := hx.zj
 simp -dsimp only [zbc.cps, zbc.k10, hlx, B.zi]
 have o0 : Owns h h (.sl 2 .nils [] [] :: StaO zhb .nils [] .nils .nils) := (((Owns.start h).nils 2).nils 4).nils 6 |>.nils 8
 refine zd.intro (fun n vs hh => ∃ (k : Nat) (mine : AVal) (M : List (Row × (AVal × AVal))) (s : Sta) (X : AVal) (P : List (Itm × (AVal × AVal))) (Y Z : AVal), k + n = L.length ∧ vs = [mine, .int .i64 (k : Int), .agg [.int .i64 0, .int .i64 0, .int .i64 0, .nils, .nils, .nils], .agg (ztb s X Y Z)] ∧ P.map (·.1) = s.zgy ∧ StaN s k ∧ M.length <= k ∧ (∀ q ∈ M, rowK.at_ h q.1 q.2) ∧
   Owns h hh (.sl 2 mine (M.map rowK.cs) [] :: StaO s X P Y Z) ∧ zud (L.drop k) (prevR L k) s (M.map (·.1)) = zud L none zhb []) L.length ?_ ⟨0, .nils, [], zhb, .nils, [], .nils, .nils, by simp, rfl, rfl, ⟨by simp [zhb], by simp [zhb]⟩, by simp, by simp, o0, rfl⟩
 rintro Y n vs hh ⟨k, mine, M, s, X, P, Ys, Z, hk, rfl, hP, hN, hM, hat, ho, hst⟩ hY
 have zero : ∀ h', h.le h' -> zjt L = (zhb, 4) -> dn Q (.tup [.agg [.int .i64 0, .int .i64 0, .int .i64 0, .nils, .nils, .nils], .int .i64 4]) h' := fun h' hle e => by
  rw [e] at hq
  exact zrp hle (hq .nils [] .nils .nils h rfl ⟨by simp [zhb], by simp [zhb]⟩ (((Owns.start h).nils 4).nils 6 |>.nils 8))
 simp -dsimp only [zbc.l9, lssN, B.zi]
 refine B.ze (fun hc => ?_) (fun hc => ?_)
 ·rw [decide_eq_true_eq] at hc
  obtain ⟨w, hw⟩ := zdz hc
  have hxx := hx.mono ho.le
  obtain ⟨P0, R0, eP0, sx, at0⟩ := id hx
  obtain ⟨⟨kx, vx⟩, hq0⟩ : ∃ a, P0[k]? = some (w, a) := by
   rw [<- eP0, List.getElem?_map] at hw
   obtain ⟨q, h1, h2⟩ := Option.map_eq_some_iff.1 hw
   exact ⟨q.2, by rw [h1, <- h2]⟩
  have ea := slX_el (sx.mono ho.le) (fun p hp => rowK.mono ho.le (at0 p hp)) hq0
  have e1 : V.idxS 2 x (.int .i64 (k : Int)) = some (elp 2 x k 0) := ea.idx
  have e2 : A.ldnv hh (elp 2 x k 0) 2 = some (.agg [kx, vx]) := ea.ldn
  obtain ⟨d1, d2⟩ : Bs h kx w.Key ∧ Bs h vx w.Value := at0 _ (List.mem_of_getElem? hq0)
  have a1 := d1.mono ho.le
  have cv := d2.zm
  have hd : L.drop k = w :: L.drop (k + 1) := by
   rw [List.drop_eq_getElem_cons hc]
   congr 1
   rw [List.getElem?_eq_getElem hc] at hw
   exact Option.some.inj hw
  have hprev : prevR L (k + 1) = some w := by unfold prevR; simpa using hw
  rw [hd, zud] at hst
  have no : outB (prevR L k) w = true -> dn Q (.tup [.agg [.int .i64 0, .int .i64 0, .int .i64 0, .nils, .nils, .nils], .int .i64 4]) hh := fun e => zero hh ho.le (by
   unfold zjt; rw [<- hst, if_pos e]; rfl)
  have go : outB (prevR L k) w = false -> zbc.k6 C N (dn Q) Y x mine x (.int .i64 (L.length : Int)) (.int .i64 (k : Int)) (.agg [.int .i64 0, .int .i64 0, .int .i64 0, .nils, .nils, .nils]) (.agg (ztb s X Ys Z)) (.agg [kx, vx]) hh := by
   intro e
   rw [if_neg (by rw [e]; exact Bool.false_ne_true)] at hst
   obtain ⟨c, r, hkey⟩ : ∃ c r, w.Key = c :: r := by
    cases hh : w.Key with
    | nil => unfold outB at e; rw [hh] at e; simp at e
    | cons c r => exact ⟨c, r, rfl⟩
   obtain ⟨Rk, b0⟩ := d1.1
   have b1 := b0.mono ho.le
   have g1 : V.idxS 1 kx (.int .i64 0) = some (elp 1 kx 0 0) := b1.idxN (i := 0) (by rw [hkey]; simp)
   have g2 : A.ldv hh (elp 1 kx 0 0) = some (.int .u8 (c.toNat : Int)) := b1.cell (by rw [hkey]; rfl)
   simp -dsimp [g1, g2]
   refine B.ze (fun hb => ?_) (fun hb => ?_)
   ·have hb : (c.toNat : Int) = 97 := by simpa using hb
    have hc97 : w.Key.head? = some 97 := by
     rw [hkey]
     have h1 : c.toNat = 97 := by omega
     have : c = 97 := UInt8.toNat_inj.1 h1
     rw [this]; rfl
    rw [if_pos hc97] at hst
    simp -dsimp only [add1 (show k < 4611686018427387904 by omega), B.zi]
    exact hY (L.length - (k + 1)) _ _ (by omega) ⟨k + 1, mine, M, s, X, P, Ys, Z, by omega, rfl, hP, ⟨by have := hN.n; omega, hN.ok⟩, by omega, hat, ho, by rw [hprev]; exact hst⟩
   ·have hb : ¬ (c.toNat : Int) = 97 := by simpa using hb
    have hc97 : ¬ w.Key.head? = some 97 := by
     rw [hkey]
     intro e
     have e : c = 97 := Option.some.inj e
     rw [e] at hb
     exact hb rfl
    rw [if_neg hc97] at hst
    simp -dsimp only [zbc.k5]
    simp -dsimp
    refine ho.push 0 rfl (cs := [kx, vx]) rfl (by omega) (by simp; omega) (by simp [maxLen]; omega) fun mine' h2 o2 _ => ?_
    obtain ⟨kt, Rt, t1, t2, _⟩ := b0.zh0 (by omega) (lo := 1) (hi := w.Key.length) (a := some (.int .i64 1)) (b := none) (.inr ⟨_, rfl⟩) (.inl ⟨rfl, rfl⟩) (by rw [hkey]; simp) (by omega)
    rw [List.take_length] at t2
    have ct := t2.zm
    simp -dsimp [cv, t1, ct]
    intro i52 h52
    have o3 := o2.zlr h52 [vx, .bool false]
    generalize upd h2 i52 (zej [vx, .bool false]) = h3 at *
    simp -dsimp
    intro i57 h57
    have o4 := o3.zlr h57 [kt, .bool false]
    generalize upd h3 i57 (zej [kt, .bool false]) = h4 at *
    have o4 : Owns h h4 (((.sl 2 mine' ((M ++ [(w, (kx, vx))]).map rowK.cs) [] :: StaO s X P Ys Z) ++ [.box (.ptr i52 0 0) [vx, .bool false]]) ++ [.box (.ptr i57 0 0) [kt, .bool false]]) := by
     rw [List.map_append]; exact o4
    have after : ∀ (s' : Sta) (X' : AVal) (P' : List (Itm × (AVal × AVal))) (Y' Z' u1 u2 : AVal) (b1 b2 : Bool) (h' : za), Owns h h' (((.sl 2 mine' ((M ++ [(w, (kx, vx))]).map rowK.cs) [] :: StaO s' X' P' Y' Z') ++ [.box (.ptr i52 0 0) [u1, .bool b1]]) ++ [.box (.ptr i57 0 0) [u2, .bool b2]]) ->
      zvw w s = (s', b1 || b2) -> P'.map (·.1) = s'.zgy -> StaN s' (k + 1) -> zbc.k2 C N (dn Q) Y x mine' (.ptr i52 0 0) (.ptr i57 0 0) x (.int .i64 (L.length : Int)) (.int .i64 (k : Int)) (.agg [.int .i64 0, .int .i64 0, .int .i64 0, .nils, .nils, .nils]) (.agg (ztb s' X' Y' Z')) h' := by
     intro s' X' P' Y' Z' u1 u2 b1 b2 h' o' er eP hN'
     obtain ⟨_, e, w1⟩ := (o'.perm ztd).zgr _ zko
     cases e
     obtain ⟨_, e, w2⟩ := o'.zgr _ zko
     cases e
     simp +contextual -dsimp [zd3 w1, zd3 w2]
     rw [er] at hst
     refine B.ze (fun hb => ?_) (fun hb => ?_)
     ·have hbb : (b1 || b2) = true := by cases b1 <;> cases b2 <;> simp at hb ⊢
      simp -dsimp
      refine zero h' o'.le ?_
      unfold zjt
      rw [<- hst, if_pos hbb]; rfl
     ·have hbb : ¬ (b1 || b2) = true := by cases b1 <;> cases b2 <;> simp at hb ⊢
      rw [if_neg hbb] at hst
      simp -dsimp only [add1 (show k < 4611686018427387904 by omega), B.zi]
      refine hY (L.length - (k + 1)) _ _ (by omega) ⟨k + 1, mine', M ++ [(w, (kx, vx))], s', X', P', Y', Z', by omega, rfl, eP, hN', by simp; omega, ?_, o'.sub (by rw [List.append_assoc]; exact List.sublist_append_left _ _), ?_⟩
      ·intro q hq
       rcases List.mem_append.1 hq with hq | hq
       ·exact hat q hq
       ·rw [List.mem_singleton.1 hq]; exact ⟨d1, d2⟩
      ·rw [hprev, List.map_append]; exact hst
    have hkl : w.Key.length <= far := d1.2
    have hvl : w.Value.length <= far := d2.2
    unfold far at hkl hvl
    have rv : RwL h h h4 ((.sl 2 mine' ((M ++ [(w, (kx, vx))]).map rowK.cs) [] :: StaO s X P Ys Z) ++ [.box (.ptr i57 0 0) [kt, .bool false]]) (.ptr i52 0 0) w.Value ⟨0, false⟩ := by
     obtain ⟨Rv, hv⟩ := d2.1
     exact ⟨vx, Rv, hv, o4.perm ztd, za.le_refl h, Nat.zero_le _, by omega⟩
    have ri : RwL h h h4 ((.sl 2 mine' ((M ++ [(w, (kx, vx))]).map rowK.cs) [] :: StaO s X P Ys Z) ++ [.box (.ptr i52 0 0) [vx, .bool false]]) (.ptr i57 0 0) (w.Key.drop 1) ⟨0, false⟩ :=
     ⟨kt, Rt, t2, o4, za.le_refl h, Nat.zero_le _, by simp; omega⟩
    have es := fun K => zei (b0.mono o4.le) K
    have ei : V.zkn (.str w.Key) (.int .i64 0) = some (.int .u8 (c.toNat : Int)) := idxStr_at (k := 0) (by rw [hkey]; rfl)
    have ec := V.cutStr1 w.Key (by rw [hkey]; exact List.cons_ne_nil _ _)
    have hN1 : StaN s (k + 1) := ⟨by have := hN.n; omega, hN.ok⟩
    simp -dsimp only [zbc.k3, B.al_agg, V.field1_agg, List.getElem?_cons_zero, B.zi, es, V.zn8]
    refine B.ze (fun hk1 => ?_) (fun hk1 => ?_)
    ·rw [decide_eq_true_eq] at hk1
     refine s2 _ _ _ _ _ _ _ 2 _ rv (by omega) fun h5 r5 => ?_
     obtain ⟨u, _, _, o5, _⟩ := r5
     simp -dsimp
     exact after { s with Now := (rNum w.Value 2 ⟨0, false⟩).1 } X P Ys Z u kt _ false h5 (o5.perm ztd) (by unfold zvw; rw [if_pos hk1, Bool.or_false]) hP ⟨hN1.n, hN1.ok⟩
    rw [decide_eq_false_iff_not] at hk1
    simp -dsimp only [B.zi, V.zn8]
    refine B.ze (fun hk2 => ?_) (fun hk2 => ?_)
    ·rw [decide_eq_true_eq] at hk2
     refine s2 _ _ _ _ _ _ _ 8 _ rv (by omega) fun h5 r5 => ?_
     obtain ⟨u, _, _, o5, _⟩ := r5
     simp -dsimp
     exact after { s with zlc := (rNum w.Value 8 ⟨0, false⟩).1 } X P Ys Z u kt _ false h5 (o5.perm ztd) (by unfold zvw; rw [if_neg hk1, if_pos hk2, Bool.or_false]) hP ⟨hN1.n, hN1.ok⟩
    rw [decide_eq_false_iff_not] at hk2
    simp -dsimp only [B.zi, V.zn8]
    refine B.ze (fun hk3 => ?_) (fun hk3 => ?_)
    ·rw [decide_eq_true_eq] at hk3
     refine s2 _ _ _ _ _ _ _ 8 _ rv (by omega) fun h5 r5 => ?_
     obtain ⟨u, _, _, o5, _⟩ := r5
     simp -dsimp
     exact after { s with zjl := (rNum w.Value 8 ⟨0, false⟩).1 } X P Ys Z u kt _ false h5 (o5.perm ztd) (by unfold zvw; rw [if_neg hk1, if_neg hk2, if_pos hk3, Bool.or_false]) hP ⟨hN1.n, hN1.ok⟩
    rw [decide_eq_false_iff_not] at hk3
    have hd0 : w.Key.head? = some c := by rw [hkey]; rfl
    have toc : ∀ n : Nat, n < 256 -> ((c.toNat : Int) = n ↔ w.Key.head? = some (UInt8.ofNat n)) := fun n hn => by
     rw [hd0]
     constructor
     ·intro e
      have e : c.toNat = n := by omega
      rw [<- e]; simp
     ·intro e
      have e : c = UInt8.ofNat n := Option.some.inj e
      rw [e]; simp; omega
    simp -dsimp only [ei, B.zi, V.zvq]
    refine B.ze (fun hk4 => ?_) (fun hk4 => ?_)
    ·rw [decide_eq_true_eq] at hk4
     have hk4 : w.Key.head? = some 105 := (toc 105 (by omega)).1 hk4
     simp -dsimp [ec, - List.drop_one]
     obtain ⟨q1, q2⟩ := (o4.perm ztd).out
     obtain ⟨Rv, hv⟩ := d2.1
     refine s3 h _ h4 _ w.Value (w.Key.drop 1) ⟨0, false⟩ _ ⟨vx, Rv, hv, q2, q1.le, Nat.zero_le _, by omega⟩ fun a h5 r5 => ?_
     obtain ⟨u, _, _, o5, _⟩ := r5
     have o6 := q1.join o5
     have hf := zrn zh2 (zr9 w.Value (w.Key.drop 1) ⟨0, false⟩).1 a
     simp -dsimp only [show zc0 [(0, some 4, AVal.agg (zh2.cells (zr9 w.Value (w.Key.drop 1) ⟨0, false⟩).1 a))] (repL 1 [.str [], .int .i64 0, .nils, .nils]) = some (zh2.cells (zr9 w.Value (w.Key.drop 1) ⟨0, false⟩).1 a) from hf]
     have hPl : P.length <= k := by have := hN.n; rw [<- hP, List.length_map] at this; omega
     refine o6.push 1 rfl (zh2.len _ a) (by decide) (by simp; omega) (by simp [maxLen]; omega) fun X' h6 o7 _ => ?_
     have cX : X'.zm = true := (o7.slAt 1 rfl).zm
     simp -dsimp [cX]
     refine after { s with zgy := s.zgy ++ [(zr9 w.Value (w.Key.drop 1) ⟨0, false⟩).1] } X' (P ++ [((zr9 w.Value (w.Key.drop 1) ⟨0, false⟩).1, a)]) Ys Z u kt (zr9 w.Value (w.Key.drop 1) ⟨0, false⟩).2.bad false h6 (o7.perm ?_) (by unfold zvw; rw [if_neg hk1, if_neg hk2, if_neg hk3, if_pos hk4, Bool.or_false]) (by rw [List.map_append, hP]; rfl) ⟨by simp; have := hN.n; omega, fun t ht => ?_⟩
     ·unfold StaO
      rw [DK.zlq, DK.zwh]
      simp only [List.map_append, List.map_cons, List.map_nil]
      exact (((permI.cons _).cons _).cons _).cons _
     ·rcases List.mem_append.1 ht with ht | ht
      ·exact hN.ok t ht
      ·rw [List.mem_singleton.1 ht]; exact rItem_ok _ _ _
    rw [decide_eq_false_iff_not] at hk4
    have hk4 : ¬ w.Key.head? = some 105 := fun e => hk4 ((toc 105 (by omega)).2 e)
    simp -dsimp only [ei, B.zi, V.zvq]
    refine B.ze (fun hk5 => ?_) (fun hk5 => ?_)
    ·rw [decide_eq_true_eq] at hk5
     have hk5 : w.Key.head? = some 108 := (toc 108 (by omega)).1 hk5
     simp -dsimp [- List.drop_one]
     refine s2 _ _ _ _ _ _ _ 8 _ ri (by omega) fun h5 r5 => ?_
     obtain ⟨u2, _, _, o5, _⟩ := r5
     obtain ⟨Rv, hv⟩ := d2.1
     refine s4 h h h5 _ _ w.Value _ ⟨0, false⟩ _ ⟨vx, Rv, hv, o5.perm ztd, za.le_refl h, Nat.zero_le _, by omega⟩ fun h6 r6 => ?_
     obtain ⟨u, _, _, o6, _⟩ := r6
     simp -dsimp [- List.drop_one]
     refine (o6.perm ztd).push 2 rfl rfl (by decide) (by simp; have := hN.n; omega) (by simp [maxLen]; have := hN.n; omega) fun X' h7 o7 _ => ?_
     have cX : X'.zm = true := (o7.slAt 2 rfl).zm
     simp -dsimp [cX, - List.drop_one]
     refine after { s with Lots := s.Lots ++ [(zuf w.Value (rNum (w.Key.drop 1) 8 ⟨0, false⟩).1 ⟨0, false⟩).1] } X P X' Z u u2 _ _ h7 (o7.perm ?_) (by unfold zvw; rw [if_neg hk1, if_neg hk2, if_neg hk3, if_neg hk4, if_pos hk5]) hP ⟨by simp; have := hN.n; omega, hN1.ok⟩
     unfold StaO
     simp only [List.map_append, List.map_cons, List.map_nil]
     exact List.Perm.refl _
    rw [decide_eq_false_iff_not] at hk5
    have hk5 : ¬ w.Key.head? = some 108 := fun e => hk5 ((toc 108 (by omega)).2 e)
    simp -dsimp only [ei, B.zi, V.zvq]
    refine B.ze (fun hk6 => ?_) (fun hk6 => ?_)
    ·rw [decide_eq_true_eq] at hk6
     have hk6 : w.Key.head? = some 111 := (toc 111 (by omega)).1 hk6
     simp -dsimp [- List.drop_one]
     refine s2 _ _ _ _ _ _ _ 8 _ ri (by omega) fun h5 r5 => ?_
     obtain ⟨u2, _, _, o5, _⟩ := r5
     obtain ⟨Rv, hv⟩ := d2.1
     refine s5 h h h5 _ _ w.Value _ ⟨0, false⟩ _ ⟨vx, Rv, hv, o5.perm ztd, za.le_refl h, Nat.zero_le _, by omega⟩ fun h6 r6 => ?_
     obtain ⟨u, _, _, o6, _⟩ := r6
     simp -dsimp [- List.drop_one]
     refine (o6.perm ztd).push 3 rfl rfl (by decide) (by simp; have := hN.n; omega) (by simp [maxLen]; have := hN.n; omega) fun X' h7 o7 _ => ?_
     have cX : X'.zm = true := (o7.slAt 3 rfl).zm
     simp -dsimp [cX, - List.drop_one]
     refine after { s with zgp := s.zgp ++ [(zqz w.Value (rNum (w.Key.drop 1) 8 ⟨0, false⟩).1 ⟨0, false⟩).1] } X P Ys X' u u2 _ _ h7 (o7.perm ?_) (by unfold zvw; rw [if_neg hk1, if_neg hk2, if_neg hk3, if_neg hk4, if_neg hk5, if_pos hk6]) hP ⟨by simp; have := hN.n; omega, hN1.ok⟩
     unfold StaO
     simp only [List.map_append, List.map_cons, List.map_nil]
     exact List.Perm.refl _
    rw [decide_eq_false_iff_not] at hk6
    have hk6 : ¬ w.Key.head? = some 111 := fun e => hk6 ((toc 111 (by omega)).2 e)
    simp -dsimp only [B.zf9, V.zfy, B.zi, Nat.zero_add]
    have o4' := o4.perm ztd
    refine o4'.zm0 _ zko rfl (by simp) fun h5 o5 _ => ?_
    rw [zvi] at o5
    exact after s X P Ys Z vx kt true false h5 (o5.perm ztd) (by unfold zvw; rw [if_neg hk1, if_neg hk2, if_neg hk3, if_neg hk4, if_neg hk5, if_neg hk6]; rfl) hP hN1
  simp -dsimp only [zbc.k8, e1, e2, B.zk3, B.zi]
  by_cases h0 : k = 0
  ·subst h0
   simp -dsimp [a1.zj, lenZ, - zbc.k6]
   refine B.ze (fun hb => ?_) (fun hb => ?_)
   ·simp -dsimp
    exact no (by unfold outB prevR; simpa using hb)
   ·exact go (by unfold outB prevR; simpa using hb)
  ·obtain ⟨u, hu⟩ := zdz (L := L) (k := k - 1) (by omega)
   obtain ⟨kp, vp, f1, f2, f3, f4, f5, f6, c1, c2⟩ := zm4 hxx hu
   have sk := sub1 (a := k) (by omega) (by omega)
   have hk0 : 0 < k := by omega
   have hpv : prevR L k = some u := by unfold prevR; rw [if_neg h0]; exact hu
   simp -dsimp [sk, f1, f3, f5, hk0, - V.zkq, - zbc.k6]
   refine s1 _ _ _ _ _ _ c1 a1 ?_
   simp +contextual -dsimp [a1.zj, lenZ, - zbc.k6]
   refine B.ze (fun hb => ?_) (fun hb => ?_)
   ·simp -dsimp
    refine no ?_
    unfold outB
    rw [hpv]
    simpa using hb
   ·refine go ?_
    unfold outB
    rw [hpv]
    simpa using hb
 ·rw [decide_eq_false_iff_not] at hc
  have : k = L.length := by omega
  subst this
  rw [List.drop_length, zud] at hst
  have ha : zry hh s X Ys Z := StaO.at ho (fun o hm => List.mem_cons_of_mem _ hm) hP hN (by omega)
  have cx := ha.items.zm
  have cy : Ys.zm = true := ha.lots.elim fun _ r => r.zm
  have cz : Z.zm = true := ha.lines.elim fun _ r => r.zm
  simp -dsimp
  refine s6 s X Ys Z hh _ ha (by have := hN.n; omega) fun x' P' h1 eP o1 => ?_
  have dx : Dl rowK h1 x' (allRows s) := by
   rw [<- eP]
   exact Df.dl o1 fun p hp => zw8 _ (by rw [<- eP]; exact List.mem_map.2 ⟨p, hp, rfl⟩)
  have dm : Dl rowK h1 mine (M.map (·.1)) := ⟨M, [], rfl, (ho.slAt 0 rfl).mono o1.le, fun q hq => rowK.mono (za.le_trans ho.le o1.le) (hat q hq)⟩
  have hal : (allRows s).length < 4611686018427387904 := by
   unfold allRows
   cases zo5 s <;> simp [staRows, headRows]
   have := hN.n
   omega
  refine s7 x' mine _ _ h1 _ dx dm hal ?_
  have lm := dm.zj
  have hle : h.le h1 := za.le_trans ho.le o1.le
  simp +contextual -dsimp [lm, - List.length_map]
  refine B.ze (fun hb => ?_) (fun hb => ?_)
  ·simp -dsimp
   refine zero h1 hle ?_
   unfold zjt
   rw [<- hst]
   show (if allRows s = M.map (·.1) ∧ M.map (·.1) ≠ [] then _ else _) = _
   rw [if_neg]
   intro e
   simp [e.1] at hb
   exact e.2 (by rw [hb]; rfl)
  ·simp -dsimp
   have e : zjt L = (s, 0) := by
    unfold zjt
    rw [<- hst]
    show (if allRows s = M.map (·.1) ∧ M.map (·.1) ≠ [] then _ else _) = _
    rw [if_pos]
    simp only [Bool.or_eq_false_iff, Bool.not_eq_false', decide_eq_true_eq, decide_eq_false_iff_not] at hb
    exact ⟨hb.1, fun e => hb.2 (List.map_eq_nil_iff.1 e)⟩
   rw [e] at hq
   exact zrp o1.le (hq X P Ys Z hh hP hN (ho.sub (List.sublist_cons_self _ _)))
end Go.Ab
namespace Go.Ab
def zgs (s r k : Int) : Bool := ((((decide (s < 0) || decide (4 <= s)) || decide (r < 1)) || decide (4611686018427387904 < r)) || decide (k < 0)) || decide (1000 <= k)
def keyP (s r k : Int) : List UInt8 := bif zgs s r k then [] else 97 :: byt s :: (be r 8 ++ be k 2)
def ze9 (b : List UInt8) : Nat := (b.length + 179) / 180
def zjb (b : List UInt8) (i : Nat) : List UInt8 := (b.drop (180 * i)).take 180
def zfi (s r : Int) (b : List UInt8) (i : Nat) : Row := ⟨keyP s r i, zjb b i⟩
def zek (s r : Int) (t : zdk) : List Row × Int := if (zdc t).2 ≠ 0 ∨ keyP s r 0 = [] then ([], 2) else ((List.range (ze9 (zdc t).1)).map (zfi s r (zdc t).1), 0)
def zi0 (s r : Int) (x : Row) : Bool := decide (x.Key.length = 12) && decide (x.Key.take 10 = (keyP s r 0).take 10)
def zv5 (s r : Int) (b : List UInt8) (n : Nat) (x : Row) : Bool := ((decide (x.Key = keyP s r n) && decide (b.length = n * 180)) && decide (0 < x.Value.length)) && decide (x.Value.length <= 180)
def zgk (s r : Int) : List Row -> List UInt8 -> Nat -> Bool -> List UInt8 × Bool
 | [], b, _, w => (b, w)
 | x :: l, b, n, w => if zi0 s r x = true then zgk s r l (b ++ x.Value) (n + 1) (w && zv5 s r b n x) else zgk s r l b n w
def zs7 (q : List UInt8 × Bool) : zdk × Bool := if q.2 = true ∧ (zdd q.1).2.2 = 0 ∧ (zdd q.1).2.1 = q.1.length then ((zdd q.1).1, true) else (zhd, false)
def zef (s r : Int) (l : List Row) : zdk × Bool := if keyP s r 0 = [] then (zhd, false) else zs7 (zgk s r l [] 0 true)
end Go.Ab
namespace Go.Ab
variable {C : CSem} {N : zN}
theorem eqSl_no {h : za} {es : Nat} {x : AVal} {L R : List (List AVal)} (hx : SlX h es x L R) (hL : L ≠ []) : V.eqSl .eql x .nils = some (.bool false) := by
 rcases hx.at_ with ⟨e, _⟩ | ⟨id, g, off, cp, b, hi, h1, _⟩
 ·exact absurd e hL
 ·subst h1; rfl
def zgq.Spec (C : CSem) (N : zN) : Prop := ∀ (s r k : Int) (h : za) (Q : zQ), (∀ x' h', Owns h h' [bOb false x' (keyP s r k)] -> (keyP s r k = [] -> x' = .nils) -> Q x' h') -> C (N 427) [.int .i64 s, .int .i64 r, .int .i64 k] h Q
theorem zrg {s r k : Int} (h : zgs s r k = false) : (keyP s r k).length = 12 := by simp [keyP, h]
theorem zgq.spec (i : zgq.Imp C N) (s1 : zcl.Spec C N) (s2 : zfc.Spec C N) : zgq.Spec C N := by
 intro s r k h Q hq
 apply i
 simp +contextual -dsimp
 have eb : (((((decide (s < 0) || decide (4 <= s)) || decide (r < 1)) || decide (4611686018427387904 < r)) || decide (k < 0)) || decide (1000 <= k)) = zgs s r k := rfl
 try rw [eb]
 refine B.ze (fun hb => ?_) (fun hb => ?_)
 ·have e : keyP s r k = [] := by unfold keyP; rw [hb]; rfl
  rw [e] at hq
  exact zk (hq .nils h ((Owns.start h).nils 1) fun _ => rfl)
 ·have e : keyP s r k = 97 :: byt s :: (be r 8 ++ be k 2) := by unfold keyP; rw [hb]; rfl
  simp -dsimp [zld]
  refine zhl 2 (s := [97, byt s]) rfl rfl fun i31 h1 o1 => ?_
  obtain ⟨b1, m1, ho1, p1⟩ := zew (xs := []) (L := []) (Owns.start h) trivial o1
  generalize AVal.sl i31 0 0 2 1 2 = a1 at *
  refine s1 r 8 _ _ (by omega) fun a2 h2 o2 => ?_
  obtain ⟨b2, m2, ho2, p2⟩ := zew ho1 p1 o2
  refine s1 k 2 _ _ (by omega) fun a3 h3 o3 => ?_
  obtain ⟨b3, m3, ho3, p3⟩ := zew ho2 p2 o3
  have c1 := (p3.get 0 a1 _ rfl rfl).elim fun _ r => r.zm
  have c2 := (p3.get 1 a2 _ rfl rfl).elim fun _ r => r.zm
  have c3 := (p3.get 2 a3 _ rfl rfl).elim fun _ r => r.zm
  simp -dsimp [c1, c2, c3]
  refine zsz 3 ho3 rfl (ys := [a1, a2, a3]) fun i36 h4 hle4 o4 => ?_
  generalize AVal.sl i36 0 0 3 1 3 = a4 at *
  refine s2 a4 [a1, a2, a3] [[97, byt s], be r 8, be k 2] [] _ _ (o4.is (.sl 1 a4 ([a1, a2, a3].map fun y => [y]) []) (by simp)) (p3.mono (za.le_trans ho3.le hle4)) (by simp) (by simp) fun x' h5 o5 => zk (hq x' h5 ?_ ?_)
  ·rw [e]
   have : ([[97, byt s], be r 8, be k 2] : List (List UInt8)).flatten = 97 :: byt s :: (be r 8 ++ be k 2) := by simp
   rw [this] at o5
   exact o5.back (za.le_trans m1 (za.le_trans m2 (za.le_trans m3 o4.le)))
  ·rw [e]; simp
def zeh.Spec (C : CSem) (N : zN) : Prop := ∀ (x : AVal) (s : List UInt8) (h : za) (Q : zQ), Bs h x s -> (∀ x' h', Owns h h' [bOb false x' s] -> Q x' h') -> C (N 428) [x] h Q
theorem zeh.spec (i : zeh.Imp C N) : zeh.Spec C N := by
 intro x s h Q hx hq
 apply i
 obtain ⟨⟨R, hx⟩, hs⟩ := hx
 have cp : B.appW h 1 1 .sz x (fun v7 h => dn Q v7 h) := by
  refine Owns.appW ((Owns.start h).sz 1) 0 rfl hx (by omega) (by simp; unfold far at hs; omega) (by simp [maxLen]; unfold far at hs; omega) fun x' h' h1 _ => zk (hq x' h' ?_)
  simpa [bOb] using h1
 simp -dsimp only [zeh.cps]
 rcases hx.at_ with ⟨e1, e2, rfl | rfl⟩ | ⟨id, g, off, cp', b, hi, rfl, h3⟩
 ·simp -dsimp [V.eqSl]
  have e1 : s = [] := List.map_eq_nil_iff.1 e1
  rw [e1] at hq
  exact zk (hq _ _ ((Owns.start h).nils 1))
 ·simp -dsimp [V.eqSl]
  exact cp
 ·simp -dsimp [V.eqSl]
  rw [List.length_map] at cp
  exact cp
def zck.Spec (C : CSem) (N : zN) : Prop := ∀ (x y : AVal) (a b : List UInt8) (h : za) (Q : zQ), Bs h x a -> Bs h y b -> Q (.bool (decide (a.take b.length = b))) h -> C (N 436) [x, y] h Q
theorem zck.spec (i : zck.Imp C N) (s1 : zd4.Spec C N) : zck.Spec C N := by
 intro x y a b h Q hx hy hq
 apply i
 have lx := hx.zj
 have ly := hy.zj
 by_cases hl : b.length <= a.length
 ·obtain ⟨⟨R, hx1⟩, ha⟩ := hx
  obtain ⟨z, R', e1, e2, _⟩ := hx1.zh0 (by omega) (lo := 0) (hi := b.length) (a := none) (b := some (.int .i64 (b.length : Int))) (.inl ⟨rfl, rfl⟩) (.inr ⟨_, rfl⟩) (by omega) hl
  rw [List.drop_zero] at e2
  simp +contextual -dsimp [lx, ly, hl, e1]
  refine s1 z y _ b h _ ⟨⟨R', e2⟩, by simp; unfold far at *; omega⟩ hy ?_
  simp -dsimp
  exact zk hq
 ·simp +contextual -dsimp [lx, ly, hl]
  have : decide (a.take b.length = b) = false := decide_eq_false fun e => by
   have := congrArg List.length e
   simp at this
   omega
  rw [this] at hq
  exact zk hq
theorem SlX.cut3m {h : za} {es : Nat} {x : AVal} {L R : List (List AVal)} (hs : SlX h es x L R) {lo hi : Nat} {j1 j2 j3 : IntKind} (h1 : lo < hi) (h2 : hi <= L.length) :
  ∃ x', V.cut3 es x (.int j1 (lo : Int)) (.int j2 (hi : Int)) (.int j3 (hi : Int)) = some x' ∧ SlX h es x' ((L.take hi).drop lo) [] := by
 rcases hs.at_ with ⟨e, e', e''⟩ | ⟨id, g, off, cp, bk, hh, k1, k1', k2, k3, k4, k5, k6⟩
 ·subst e; simp at h2; omega
 ·subst k1
  refine ⟨.sl id g (off + lo * es) (hi - lo) es 0, ?_, ⟨fun p hp => hs.len p (List.mem_append_left _ (List.mem_of_mem_take (List.mem_of_mem_drop (by simpa using hp)))), .inr ⟨id, g, off + lo * es, 0, bk, hh, ?_, ?_, k2, k3, ?_, k5, ?_⟩⟩⟩
  ·simp only [V.cut3, V.asNat]
   rw [if_pos (by omega), if_pos (by omega)]
   simp only [Int.toNat_natCast]
   rw [if_pos ⟨by omega, Nat.le_refl _, by omega, trivial⟩, if_neg (by omega)]
   simp
  ·simp [Nat.min_eq_left h2]
  ·simp [Nat.min_eq_left h2]
  ·have h3 : lo * es + (hi - lo) * es = hi * es := by rw [<- Nat.add_mul]; congr 1; omega
   have h4 : hi * es <= (L.length + R.length) * es := Nat.mul_le_mul_right _ (by omega)
   simp only [List.length_drop, List.length_take, Nat.min_eq_left h2, List.length_nil, Nat.add_zero]
   omega
  ·have h3 : lo * es + (hi - lo) * es = hi * es := by rw [<- Nat.add_mul]; congr 1; omega
   have h4 : hi * es <= (L.length + R.length) * es := Nat.mul_le_mul_right _ (by omega)
   simp only [List.length_drop, List.length_take, Nat.min_eq_left h2, List.length_nil, Nat.add_zero, List.append_nil]
   have e1 : ((L.take hi).drop lo).flatten = ((L ++ R).flatten.take (hi * es)).drop (lo * es) := by
    rw [flat_drop (fun p hp => hs.len p (List.mem_append_left _ (List.mem_of_mem_take hp))), flat_take (fun p hp => hs.len p (List.mem_append_left _ hp)), <- List.take_append_of_le_length (l₂ := R.flatten) (by rw [zk6 (fun p hp => hs.len p (List.mem_append_left _ hp))]; exact Nat.mul_le_mul_right _ h2), <- List.flatten_append]
   rw [e1, <- k6, List.take_take, Nat.min_eq_left h4, <- List.drop_drop]
   rw [List.drop_take, <- h3, Nat.add_sub_cancel_left]
end Go.Ab
namespace Go.Ab
variable {C : CSem} {N : zN}
def zg4 (b : List UInt8) (i : Nat) : Nat := min (180 * i + 180) b.length
def zuq (v : AVal) (b : List UInt8) (i : Nat) : AVal := (V.cut3 1 v (.int .i64 ((180 * i : Nat) : Int)) (.int .i64 (zg4 b i : Int)) (.int .i64 (zg4 b i : Int))).getD .nils
theorem zlj {b : List UInt8} {i : Nat} : i < ze9 b ↔ 180 * i < b.length := by unfold ze9; omega
theorem pieceV_at {h : za} {v : AVal} {b : List UInt8} {R : List (List AVal)} (hv : SlX h 1 v (b.map bc) R) {i : Nat} (hi : i < ze9 b) :
  V.cut3 1 v (.int .i64 ((180 * i : Nat) : Int)) (.int .i64 (zg4 b i : Int)) (.int .i64 (zg4 b i : Int)) = some (zuq v b i) ∧ SlX h 1 (zuq v b i) ((zjb b i).map bc) [] := by
 rw [zlj] at hi
 obtain ⟨x', e1, e2⟩ := hv.cut3m (lo := 180 * i) (hi := zg4 b i) (j1 := .i64) (j2 := .i64) (j3 := .i64) (by unfold zg4; omega) (by rw [List.length_map]; unfold zg4; omega)
 have e3 : zuq v b i = x' := by unfold zuq; rw [e1]; rfl
 refine ⟨by rw [e3]; exact e1, ?_⟩
 rw [e3]
 have e4 : ((b.map bc).take (zg4 b i)).drop (180 * i) = (zjb b i).map bc := by
  unfold zjb zg4
  rw [<- List.map_take, <- List.map_drop, List.drop_take]
  congr 1
  by_cases hh : 180 * i + 180 <= b.length
  ·rw [Nat.min_eq_left hh]; congr 1; omega
  ·rw [Nat.min_eq_right (by omega), List.take_of_length_le (by simp), List.take_of_length_le (by simp; omega)]
 rw [<- e4]; exact e2
def zm6 (v : AVal) (b : List UInt8) : List (List AVal) := (List.range (ze9 b)).map fun i => [zuq v b i]
theorem zq.iter (hC : zj4 C) (i : zq.Imp C N) {p q v : AVal} {b : List UInt8} {R : List (List AVal)} (hl : b.length <= 100000000) : Iter C (N 443) [] [p, q] (fun h => A.ldv h p = some v ∧ A.ldv h q = some (.int .i64 180) ∧ SlX h 1 v (b.map bc) R) (zm6 v b) := by
 intro id I Z h Q hD hr h0 hend hZ
 refine i (.yld id) p q h Q ?_
 have pl : (zm6 v b).length = ze9 b := by simp [zm6]
 simp -dsimp only [zq.cps]
 refine zd.intro (fun t vs hh => ∃ k : Nat, k + t = ze9 b ∧ vs = [.int .i64 ((180 * k : Nat) : Int)] ∧ I k hh) (ze9 b) ?_ ⟨0, by omega, rfl, h0⟩
 rintro Y t vs hh ⟨k, hkt, rfl, hI⟩ hY
 obtain ⟨d1, d2, d3⟩ := hD k hh hI
 have el := d3.zj
 rw [List.length_map] at el
 simp -dsimp only [zq.l2, zq.k1, B.zii, d1, d2, el, lssN, B.zi]
 refine B.ze (fun hb => ?_) (fun hb => ?_)
 ·rw [decide_eq_true_eq] at hb
  have hk : k < ze9 b := zlj.2 hb
  obtain ⟨w, R2, f2, f3, _⟩ := d3.zh0 (by omega) (lo := 180 * k) (hi := b.length) (a := some (.int .i64 ((180 * k : Nat) : Int))) (b := none) (.inr ⟨_, rfl⟩) (.inl ⟨rfl, rfl⟩) (by omega) (by omega)
  have lw := f3.zj
  rw [List.take_length, List.length_map, List.length_drop] at lw
  obtain ⟨g1, g2⟩ := pieceV_at d3 hk
  have em : V.min2 (.int .i64 180) (.int .i64 ((b.length - 180 * k : Nat) : Int)) = some (.int .i64 ((zg4 b k - 180 * k : Nat) : Int)) := by
   rw [V.min2_int]; congr 2; unfold zg4; omega
  have ea : V.bin .add (.int .i64 ((180 * k : Nat) : Int)) (.int .i64 ((zg4 b k - 180 * k : Nat) : Int)) = some (.int .i64 (zg4 b k : Int)) := by
   rw [addNN (by unfold zg4; omega)]; congr 3; unfold zg4; omega
  have en : V.bin .add (.int .i64 ((180 * k : Nat) : Int)) (.int .i64 180) = some (.int .i64 ((180 * (k + 1) : Nat) : Int)) := by
   have := addNN (a := 180 * k) (b := 180) (by omega)
   rw [show ((180 : Nat) : Int) = 180 from rfl] at this
   rw [this]; congr 3
  simp -dsimp only [B.zii, d1, d2, f2, lw, em, ea, g1, B.zi, B.callv_yld]
  refine hC _ _ _ _ _ (fun v h' hv => ?_) (hr k _ hh (by unfold zm6; rw [List.getElem?_map, List.getElem?_range hk]; rfl) hI)
  rcases hv with ⟨e, h1⟩ | ⟨e, h1⟩
  ·obtain ⟨c1, c2, c3⟩ := hD (k + 1) h' h1
   simp -dsimp only [e, V.zv6, Bool.not_true, B.cond_false, B.zii, c2, en, B.zi]
   exact hY (t - 1) _ _ (by omega) ⟨k + 1, by omega, rfl, h1⟩
  ·simp -dsimp only [e, V.zv6, Bool.not_false, B.cond_true, B.zi]
   exact zk (hZ h' h1)
 ·rw [decide_eq_false_iff_not] at hb
  have : ¬ k < ze9 b := fun h => hb (zlj.1 h)
  have : k = ze9 b := by omega
  exact zk (hend hh (by rw [pl, <- this]; exact hI))
end Go.Ab
namespace Go.Ab
variable {C : CSem} {N : zN}
def zbj.Spec (C : CSem) (N : zN) : Prop := ∀ (v : AVal) (h : za) (Q : zQ), v.zm = true -> (∀ i j h', Owns h h' [.box (.ptr i 0 0) [v], .box (.ptr j 0 0) [.int .i64 180]] -> Q (.fn (N 443) [] [.ptr i 0 0, .ptr j 0 0]) h') -> C (N 429) [v, .int .i64 180] h Q
theorem zbj.spec (i : zbj.Imp C N) : zbj.Spec C N := by
 intro v h Q hv hq
 apply i
 simp -dsimp [zbj.cps, hv]
 intro i2 h2
 have o1 := (Owns.start h).zlr h2 [v]
 generalize upd h i2 (zej [v]) = h1 at *
 simp -dsimp
 intro i3 h3
 have o2 := o1.zlr h3 [.int .i64 180]
 obtain ⟨_, e, hb⟩ := o2.zgr 1 rfl
 cases e
 simp -dsimp [zd3 hb]
 exact zk (hq _ _ _ o2)
theorem zpl (t : zdk) : (zdc t).1.length <= 100000 := by
 unfold zdc
 split
 ·simp
 ·rename_i h
  have hr : zem t = true := by cases h' : zem t <;> simp_all
  split
  ·simp
  ·rename_i h2
   obtain ⟨_, _, h3⟩ := zis hr
   obtain ⟨_, h4, h5, _⟩ := h3 h2
   have a1 := lots_len t.Lots t.Lots.length h4
   have a2 := uses_len t.Uses t.Uses.length h5
   rw [List.take_length] at a1 a2
   have a3 := zev t.Code
   simp only [zka, List.length_append, zfh, List.length_cons, List.length_nil]
   omega
def zb1.Spec (C : CSem) (N : zN) : Prop := ∀ (s r : Int) (t : zdk) (x y : AVal) (h : za) (Q : zQ), zin h t x y -> t.Lots.length <= 100000000 -> t.Uses.length <= 100000000 ->
 (∀ x' P h', P.map (·.1) = (zek s r t).1 -> Df rowK h h' x' P -> Q (.tup [x', .int .i64 (zek s r t).2]) h') -> C (N 415) [.int .i64 s, .int .i64 r, .agg (t.cs x y)] h Q
theorem zb1.spec (i : zb1.Imp C N) (hC : zj4 C) (s1 : zb2.Spec C N) (s2 : zgq.Spec C N) (s3 : zbj.Spec C N) (i4 : zq.Imp C N) (s5 : zeh.Spec C N) : zb1.Spec C N := by
 intro s r t x y h Q ht hl1 hl2 hq
 have cx := ht.lots.elim fun _ r => r.zm
 have cy := ht.uses.elim fun _ r => r.zm
 apply i
 simp -dsimp
 intro i3 h3
 have o1 := (Owns.start h).zlr h3 [.int .i64 s]
 generalize upd h i3 (zej [.int .i64 s]) = h1 at *
 simp -dsimp
 intro i4' h4
 have o2 := o1.zlr h4 [.int .i64 r]
 generalize upd h1 i4' (zej [.int .i64 r]) = h2 at *
 simp -dsimp
 refine s1 t x y h2 _ (ht.mono o2.le) hl1 hl2 fun v h5 o3 => ?_
 have o4 := o2.join o3
 obtain ⟨_, e, b3⟩ := o4.zgr 0 rfl
 cases e
 obtain ⟨_, e, b4⟩ := o4.zgr 1 rfl
 cases e
 simp -dsimp
 have bad : ∀ h', h.le h' -> zek s r t = ([], 2) -> dn Q (.tup [.nils, .int .i64 2]) h' := fun h' hle e => by
  rw [e] at hq
  exact zrp hle (hq .nils [] h rfl (by simpa [Df, DK.os] using (Owns.start h).nils rowK.n))
 by_cases he : (zdc t).2 = 0
 ·simp -dsimp [he, zd3 b3, zd3 b4]
  refine s2 s r 0 h5 _ fun k0 h6 o5 hk => ?_
  have o6 := o4.join o5
  by_cases hkn : keyP s r 0 = []
  ·rw [hk hkn]
   simp -dsimp [V.eqSl]
   exact bad h6 o6.le (by unfold zek; rw [if_pos (.inr hkn)])
  ·have hno := eqSl_no (o5.slAt 0 rfl : SlX h6 1 k0 ((keyP s r 0).map bc) []) (by simpa using hkn)
   simp -dsimp [hno, he]
   intro i10 h10
   have o7 := (o6.zlr h10 [.nils]).nils 2
   generalize upd h6 i10 (zej [.nils]) = h7 at *
   have hv : v.zm = true := (o3.slAt 0 rfl).zm
   simp -dsimp
   refine s3 v h7 _ hv fun i2 j2 h8 o8 => ?_
   have o9 := o7.join o8
   have o10 : Owns h h8 (zja (.ptr i10 0 0) .nils [] ++ ([.box (.ptr i3 0 0) [.int .i64 s], .box (.ptr i4' 0 0) [.int .i64 r], .sl 1 v ((zdc t).1.map bc) [], bOb false k0 (keyP s r 0)] ++ [.box (.ptr i2 0 0) [v], .box (.ptr j2 0 0) [.int .i64 180]])) := by
    have o9 : Owns h h8 (([.box (.ptr i3 0 0) [.int .i64 s], .box (.ptr i4' 0 0) [.int .i64 r], .sl 1 v ((zdc t).1.map bc) [], bOb false k0 (keyP s r 0)] ++ zja (.ptr i10 0 0) .nils []) ++ [.box (.ptr i2 0 0) [v], .box (.ptr j2 0 0) [.int .i64 180]]) := o9
    rw [<- List.append_assoc]
    exact o9.perm (List.perm_append_comm.append_right _)
   obtain ⟨hb, m1, m2, o11, at1⟩ := o10.lay
   obtain ⟨_, e, c3⟩ := at1 (.box (.ptr i3 0 0) [.int .i64 s]) (by simp)
   cases e
   obtain ⟨_, e, c4⟩ := at1 (.box (.ptr i4' 0 0) [.int .i64 r]) (by simp)
   cases e
   obtain ⟨_, e, c2⟩ := at1 (.box (.ptr i2 0 0) [v]) (by simp)
   cases e
   obtain ⟨_, e, d2⟩ := at1 (.box (.ptr j2 0 0) [.int .i64 180]) (by simp)
   cases e
   have hsv : SlX hb 1 v ((zdc t).1.map bc) [] := at1 (.sl 1 v ((zdc t).1.map bc) []) (by simp)
   have hbl := zpl t
   have hans : zek s r t = ((List.range (ze9 (zdc t).1)).map (zfi s r (zdc t).1), 0) := by
    unfold zek
    rw [if_neg]
    rintro (e | e)
    ·exact e he
    ·exact hkn e
   rw [hans] at hq
   generalize hB : (zdc t).1 = b at *
   have hpn : ze9 b <= 1000 := by unfold ze9; omega
   refine range_iter (zq.iter hC i4 (p := .ptr i2 0 0) (q := .ptr j2 0 0) (v := v) (b := b) (R := []) (by omega)) (fun h1 h2 hle d => ?_)
    (fun k hh => ∃ out P, P.map (·.1) = (List.range k).map (zfi s r b) ∧ Owns hb hh (zja (.ptr i10 0 0) out P)) (fun _ _ => False) ?_ ?_ ⟨.nils, [], rfl, o11⟩ ?_ (fun j hh e => e.elim)
   ·exact ⟨zs0 hle d.1, zs0 hle d.2.1, d.2.2.mono hle⟩
   ·rintro k hh ⟨out, P, e, o⟩
    exact ⟨by rw [zd3 (o.le _ _ c2)]; rfl, by rw [zd3 (o.le _ _ d2)]; rfl, hsv.mono o.le⟩
   ·rintro k xx hh E hxx ⟨out, P, eP, o⟩ hE0 _
    have hk : k < ze9 b := by
     have := (List.getElem?_eq_some_iff.1 hxx).1
     simpa [zm6] using this
    have hxx : xx = [zuq v b k] := by
     unfold zm6 at hxx
     rw [List.getElem?_map, List.getElem?_range hk] at hxx
     exact (Option.some.inj hxx).symm
    subst hxx
    have hPl : P.length = k := by have := congrArg List.length eP; simpa using this
    obtain ⟨_, e, w10⟩ := o.zgr 0 rfl
    cases e
    have lo := (o.slAt 1 rfl : SlX hh 2 out (P.map rowK.cs) []).zj
    rw [List.length_map, hPl] at lo
    have r3 : A.ldv hh (.ptr i3 0 0) = some (.int .i64 s) := by rw [zd3 (o.le _ _ c3)]; rfl
    have r4 : A.ldv hh (.ptr i4' 0 0) = some (.int .i64 r) := by rw [zd3 (o.le _ _ c4)]; rfl
    have r10 : A.ldv hh (.ptr i10 0 0) = some out := by rw [zd3 w10]; rfl
    simp -dsimp only [W1, zb1.r2, zb1.k1, B.zii, r3, r4, r10, lo, B.zi]
    refine s2 s r k hh _ fun kv h11 q1 _ => ?_
    have q2 := o.join q1
    obtain ⟨_, e, w11⟩ := q2.zgr 0 rfl
    cases e
    refine keepD1 ⟨out, r10, by rw [zd3 w11]; rfl⟩ ?_
    have hpc : Bs h11 (zuq v b k) (zjb b k) := ⟨⟨[], ((pieceV_at hsv hk).2).mono q2.le⟩, by unfold zjb far; simp; omega⟩
    refine s5 _ _ _ _ hpc fun vv h12 q3 => ?_
    have q4 := q2.join q3
    obtain ⟨_, e, w12⟩ := q4.zgr 0 rfl
    cases e
    refine keepD1 ⟨out, by rw [zd3 w11]; rfl, by rw [zd3 w12]; rfl⟩ ?_
    have ck : kv.zm = true := (q1.slAt 0 rfl : SlX h11 1 kv ((keyP s r k).map bc) []).zm
    have cvv : vv.zm = true := (q3.slAt 0 rfl : SlX h12 1 vv ((zjb b k).map bc) []).zm
    simp -dsimp [ck, cvv]
    refine q4.push 1 rfl (cs := [kv, vv]) rfl (by omega) (by simp; omega) (by simp [maxLen]; omega) fun out' h13 q5 _ => ?_
    have co : out'.zm = true := (q5.slAt 1 rfl).zm
    refine q5.zm0 0 (off := 0) rfl co (by simp) fun h14 q6 _ => ?_
    refine hE0 h14 ⟨out', P ++ [(zfi s r b k, (kv, vv))], ?_, ?_⟩
    ·rw [List.map_append, eP, List.range_succ, List.map_append]; rfl
    ·unfold zja
     rw [DK.zlq, DK.zwh, List.map_append]
     simpa [rowK, zfi] using q6
   ·rintro hh ⟨out, P, e, o⟩
    have pl : (zm6 v b).length = ze9 b := by simp [zm6]
    rw [pl] at e
    refine RK.here ?_
    obtain ⟨_, e2, w10⟩ := o.zgr 0 rfl
    cases e2
    have r10 : A.ldv hh (.ptr i10 0 0) = some out := by rw [zd3 w10]; rfl
    simp -dsimp only [B.zii, r10, B.zi]
    exact zk (hq out P hh e ((o.back m1).sub (List.sublist_cons_self _ _)))
 ·simp -dsimp [he]
  exact bad h5 o4.le (by unfold zek; rw [if_pos (.inl he)])
end Go.Ab
namespace Go.Ab
variable {C : CSem} {N : zN}
def zj9 (L : List Row) : Nat := (L.flatMap Row.Value).length
abbrev TellO (t : zdk) (x y : AVal) : List Ob := [.sl 6 x (t.Lots.map Lot.cs) [], .sl 3 y (t.Uses.map Use.cs) []]
def zbg.Spec (C : CSem) (N : zN) : Prop := ∀ (s r : Int) (x : AVal) (L : List Row) (h : za) (Q : zQ), Dl rowK h x L -> L.length <= 1000000 -> zj9 L <= 10000000 ->
 (∀ x' y' h', Owns h h' (TellO (zef s r L).1 x' y') -> Q (.tup [.agg ((zef s r L).1.cs x' y'), .bool (zef s r L).2]) h') -> C (N 414) [.int .i64 s, .int .i64 r, x] h Q
theorem zt5 {L : List Row} {k : Nat} {w : Row} (hw : L[k]? = some w) : zj9 (L.take (k + 1)) = zj9 (L.take k) + w.Value.length := by
 unfold zj9
 rw [take_succ hw, List.flatMap_append, List.length_append]
 simp
theorem zqv (L : List Row) (k : Nat) : zj9 (L.take k) <= zj9 L := by
 unfold zj9
 conv => rhs; rw [<- List.take_append_drop k L, List.flatMap_append, List.length_append]
 omega
theorem zbg.spec (i : zbg.Imp C N) (s1 : zgq.Spec C N) (s2 : zck.Spec C N) (s3 : zd4.Spec C N) (s4 : zdx.Spec C N) : zbg.Spec C N := by
 intro s r x L h Q hx hl hv hq
 apply i
 simp -dsimp only [zbg.cps, zbg.k5]
 refine s1 s r 0 h _ fun k0 h1 o1 hk => ?_
 have zero : ∀ h', h.le h' -> zef s r L = (zhd, false) -> dn Q (.tup [.agg [.int .i64 0, .int .i64 0, .int .i64 0, .str [], .int .u8 0, .nils, .nils], .bool false]) h' := fun h' hle e => by
  rw [e] at hq
  exact zrp hle (hq .nils .nils h (((Owns.start h).nils 6).nils 3))
 by_cases hkn : keyP s r 0 = []
 ·rw [hk hkn]
  simp -dsimp [V.eqSl]
  exact zero h1 o1.le (by unfold zef; rw [if_pos hkn])
 ·have b0 : SlX h1 1 k0 ((keyP s r 0).map bc) [] := o1.slAt 0 rfl
  have hno := eqSl_no b0 (by simpa using hkn)
  have hkb : zgs s r 0 = false := by
   cases hb : zgs s r 0 with
   | false => rfl
   | true => exact absurd (by unfold keyP; rw [hb]; rfl) hkn
  have k12 := zrg hkb
  have l0 := b0.zj
  rw [List.length_map, k12] at l0
  have hans : zef s r L = zs7 (zgk s r L [] 0 true) := by unfold zef; rw [if_neg hkn]
  have hlx := hx.zj
  simp -dsimp only [zbg.k4, hno, hlx, B.zi, B.cond_false]
  refine zd.intro (fun t vs hh => ∃ (k n : Nat) (y : AVal) (b : List UInt8) (w : Bool), k + t = L.length ∧ vs = [y, .int .i64 (n : Int), .bool w, .int .i64 (k : Int)] ∧ n <= k ∧ b.length <= zj9 (L.take k) ∧ Owns h1 hh [.sl 1 y (b.map bc) []] ∧ zgk s r (L.drop k) b n w = zgk s r L [] 0 true) L.length ?_ ⟨0, 0, .nils, [], true, by simp, rfl, by omega, by simp, (Owns.start h1).nils 1, rfl⟩
  rintro Y t vs hh ⟨k, n, y, b, w, hkt, rfl, hnk, hbl, o, hf⟩ hY
  have hle : h.le hh := za.le_trans o1.le o.le
  have hxx := hx.mono hle
  have vle := zqv L k
  simp -dsimp only [zbg.l3, zbg.k2, lssN, B.zi]
  refine B.ze (fun hc => ?_) (fun hc => ?_)
  ·rw [decide_eq_true_eq] at hc
   obtain ⟨z, hz⟩ := zdz hc
   obtain ⟨kx, vx, e1, e2, e3, e4, e5, e6, a1, a2⟩ := zm4 hxx hz
   have hd : L.drop k = z :: L.drop (k + 1) := by
    rw [List.drop_eq_getElem_cons hc]
    congr 1
    rw [List.getElem?_eq_getElem hc] at hz
    exact Option.some.inj hz
   rw [hd, zgk] at hf
   have vst := zt5 hz
   have vle1 := zqv L (k + 1)
   have l1 := a1.zj
   have l2 := a2.zj
   have ly := (o.slAt 0 rfl : SlX hh 1 y (b.map bc) []).zj
   rw [List.length_map] at ly
   obtain ⟨z0, R0, f1, f2, _⟩ := b0.zh0 (by omega) (lo := 0) (hi := 10) (a := none) (b := some (.int .i64 ((10 : Nat) : Int))) (.inl ⟨rfl, rfl⟩) (.inr ⟨_, rfl⟩) (by omega) (by omega)
   rw [List.drop_zero] at f2
   have f1 : V.zf1 1 k0 none (some (.int .i64 10)) = some z0 := f1
   have hpre : Bs hh z0 ((keyP s r 0).take 10) := ⟨⟨R0, f2.mono o.le⟩, by unfold far; simp; omega⟩
   have h10 : ((keyP s r 0).take 10).length = 10 := by simp; omega
   have skip : zi0 s r z = false -> Y [y, .int .i64 (n : Int), .bool w, .int .i64 ((k + 1 : Nat) : Int)] hh := fun e => by
    rw [if_neg (by rw [e]; exact Bool.false_ne_true)] at hf
    exact hY (L.length - (k + 1)) _ _ (by omega) ⟨k + 1, n, y, b, w, by omega, rfl, by omega, by omega, o, hf⟩
   by_cases h12 : z.Key.length = 12
   ·have h12' : decide ((z.Key.length : Int) = 12) = true := by rw [decide_eq_true_eq]; omega
    simp -dsimp [e1, e2, l1, l0, h12', f1]
    refine s2 kx z0 z.Key _ hh _ a1 hpre ?_
    rw [h10]
    simp -dsimp
    refine B.ze (fun hp => ?_) (fun hp => ?_)
    ·simp -dsimp only [add1 (show k < 4611686018427387904 by omega), B.zi]
     exact skip (by unfold zi0; rw [Bool.not_eq_true'] at hp; rw [hp, Bool.and_false])
    ·rw [Bool.not_eq_false'] at hp
     have hm : zi0 s r z = true := by unfold zi0; rw [decide_eq_true h12, hp]; rfl
     rw [if_pos hm] at hf
     have em : V.bin .mul (.int .i64 (n : Int)) (.int .i64 180) = some (.int .i64 ((n * 180 : Nat) : Int)) := by rw [V.zvp, wrap_i64 (by omega) (by omega)]; simp
     have ee : decide (((b.length : Nat) : Int) = ((n * 180 : Nat) : Int)) = decide (b.length = n * 180) := decide_eq_decide.2 (by omega)
     have fin : ∀ (c : Bool) (h2 : za), hh.le h2 -> Owns h1 h2 [.sl 1 y (b.map bc) []] -> c = (w && zv5 s r b n z) ->
       B.appW h2 1 1 y vx fun v75 h => B.pv (V.bin .add (.int .i64 (n : Int)) (.int .i64 1)) fun v77 => B.pv (V.bin .add (.int .i64 (k : Int)) (.int .i64 1)) fun v78 => Y [v75, v77, .bool c, v78] h := by
      intro c h2 hle2 o2 ec
      obtain ⟨⟨Rv, hvv⟩, _⟩ := a2.mono hle2
      refine o2.appW 0 rfl hvv (by omega) (by simp; omega) (by simp [maxLen]; omega) fun y' h3 o3 _ => ?_
      simp -dsimp only [add1 (show n < 4611686018427387904 by omega), add1 (show k < 4611686018427387904 by omega), B.zi]
      refine hY (L.length - (k + 1)) _ _ (by omega) ⟨k + 1, n + 1, y', b ++ z.Value, c, by omega, rfl, by omega, by simp; omega, by rw [List.map_append]; exact o3, ?_⟩
      rw [<- hf, ec]
     have hnb : n + 1 < 4611686018427387904 := by omega
     cases w with
     | false =>
      simp -dsimp [- V.zep, - V.zvp]
      exact fin false hh (za.le_refl _) o rfl
     | true =>
      simp -dsimp
      refine s1 s r n hh _ fun kv h2 o2 _ => ?_
      have bk : Bs h2 kv (keyP s r n) := ⟨⟨[], o2.slAt 0 rfl⟩, by unfold keyP far; cases zgs s r n <;> simp⟩
      simp -dsimp
      refine s3 kx kv _ _ h2 _ (a1.mono o2.le) bk ?_
      have l2' := l2
      simp +contextual -dsimp [ly, l2, em, - V.zvp, - V.zep]
      refine fin _ h2 o2.le (o.grow o2.le) ?_
      unfold zv5
      have q1 : ((b.length : Int) = (n : Int) * 180) ↔ b.length = n * 180 := by omega
      have q2 : ((z.Value.length : Int) <= 180) ↔ z.Value.length <= 180 := by omega
      rw [decide_eq_decide.2 q1, decide_eq_decide.2 q2, Bool.true_and]
      cases decide (z.Key = keyP s r n) <;> cases decide (b.length = n * 180) <;> cases decide (0 < z.Value.length) <;> rfl
   ·have h12' : decide ((z.Key.length : Int) = 12) = false := by rw [decide_eq_false_iff_not]; omega
    simp -dsimp [e1, e2, l1, l0, h12', - V.zep, add1 (show k < 4611686018427387904 by omega)]
    exact skip (by unfold zi0; rw [decide_eq_false h12]; rfl)
  ·rw [decide_eq_false_iff_not] at hc
   have : k = L.length := by omega
   subst this
   rw [List.drop_length, zgk] at hf
   rw [<- hf] at hans
   have hy := o.slAt 0 rfl
   have ly : V.zj y = some (.int .i64 (b.length : Int)) := by have := hy.zj; rwa [List.length_map] at this
   simp -dsimp only [zbg.k1]
   refine s4 y b hh _ ⟨⟨[], hy⟩, by omega⟩ fun x' y' h2 o2 => ?_
   have cx : x'.zm = true := (o2.slAt 0 rfl).zm
   have cy : y'.zm = true := (o2.slAt 1 rfl).zm
   have hle2 : h.le h2 := za.le_trans hle o2.le
   cases w with
   | false =>
    simp -dsimp [zdk.val]
    exact zero h2 hle2 (by rw [hans]; unfold zs7; rw [if_neg]; rintro ⟨e, _⟩; cases e)
   | true =>
    by_cases g1 : (zdd b).2.2 = 0
    ·by_cases g2 : (zdd b).2.1 = b.length
     ·simp -dsimp [zdk.val, g1, g2, ly]
      have : zef s r L = ((zdd b).1, true) := by rw [hans]; unfold zs7; rw [if_pos ⟨rfl, g1, g2⟩]
      rw [this] at hq
      exact zk (hq x' y' h2 (o2.back hle))
     ·have g2' : ¬ ((zdd b).2.1 : Int) = b.length := by omega
      simp -dsimp [zdk.val, g1, g2', ly]
      exact zero h2 hle2 (by rw [hans]; unfold zs7; rw [if_neg]; rintro ⟨_, _, e⟩; exact g2 e)
    ·simp -dsimp [zdk.val, g1]
     exact zero h2 hle2 (by rw [hans]; unfold zs7; rw [if_neg]; rintro ⟨_, e, _⟩; exact g1 e)
end Go.Ab
namespace Go.Ab
variable {C : CSem} {N : zN}
def zc1.Spec (C : CSem) (N : zN) : Prop := ∀ (s t : Sta) (x y z u v w : AVal) (h : za) (Q : zQ), zry h s x y z -> zry h t u v w -> Q (.bool (decide (s = t))) h -> C (N 116) [.agg (ztb s x y z), .agg (ztb t u v w)] h Q
theorem Sta.eq_iff (s t : Sta) : s = t ↔ ((((s.Now = t.Now ∧ s.zlc = t.zlc) ∧ s.zjl = t.zjl) ∧ s.zgy = t.zgy) ∧ s.Lots = t.Lots) ∧ s.zgp = t.zgp := by
 cases s; cases t; simp [Sta.mk.injEq, and_assoc]
theorem zc1.spec (i : zc1.Imp C N) (s1 : zbx.Spec C N) (s2 : zc4.Spec C N) (s3 : zcv.Spec C N) : zc1.Spec C N := by
 intro s t x y z u v w h Q hs ht hq
 obtain ⟨a1, ⟨R2, a2⟩, ⟨R3, a3⟩, n1, n2, n3⟩ := hs
 obtain ⟨b1, ⟨S2, b2⟩, ⟨S3, b3⟩, m1, m2, m3⟩ := ht
 apply i
 simp +contextual -dsimp
 refine B.zee (v := .bool (decide (s.zgy = t.zgy))) (fun _ Q hq => s1 _ _ _ _ _ _ a1 b1 (by omega) hq) ?_
 simp +contextual -dsimp
 refine B.zee (v := .bool (decide (s.Lots = t.Lots))) (fun _ Q hq => s2 _ _ _ _ _ _ _ _ a2 b2 (by omega) hq) ?_
 simp +contextual -dsimp
 refine B.zee (v := .bool (decide (s.zgp = t.zgp))) (fun _ Q hq => s3 _ _ _ _ _ _ _ _ a3 b3 (by omega) hq) ?_
 simp -dsimp
 refine zk ?_
 have : decide (s = t) = (((((decide (s.Now = t.Now) && decide (s.zlc = t.zlc)) && decide (s.zjl = t.zjl)) && decide (s.zgy = t.zgy)) && decide (s.Lots = t.Lots)) && decide (s.zgp = t.zgp)) := by
  rw [Bool.eq_iff_iff]
  simp only [decide_eq_true_eq, Bool.and_eq_true]
  exact Sta.eq_iff s t
 rw [this] at hq
 exact hq
structure RowsB (L : List Row) : Prop where
 n : L.length <= 2000
 v : zj9 L <= 200000
def zcp.Spec (C : CSem) (N : zN) : Prop := ∀ (x : AVal) (L : List Row) (h : za) (Q : zQ), Dl rowK h x L -> L.length < 4000000000000 -> (∀ b : Bool, (b = false -> RowsB L) -> Q (.bool b) h) -> C (N 417) [x] h Q
theorem zcp.spec (i : zcp.Imp C N) : zcp.Spec C N := by
 intro x L h Q hx hl hq
 have lx := hx.zj
 apply i
 refine zd.intro (fun t vs hh => hh = h ∧ ∃ k n : Nat, k + t = L.length ∧ vs = [.int .i64 (n : Int), .int .i64 (k : Int)] ∧ n < 4000000000000000000 ∧ zj9 (L.take k) <= n) L.length ?_ ⟨rfl, 0, 0, by omega, rfl, by omega, by simp [zj9]⟩
 rintro Y t vs h ⟨rfl, k, n, ht, rfl, hn, hsum⟩ hY
 simp -dsimp only [zcp.l3, zcp.k2]
 by_cases hk : k < L.length
 ·by_cases h4 : n <= 200000
  ·have h4' : (n : Int) <= 200000 := by omega
   obtain ⟨r, hr⟩ := zdz hk
   obtain ⟨kx, vx, e1, e2, e3, e4, e5, e6, a1, a2⟩ := zm4 hx hr
   have f1 := a1.2
   have f2 := a2.2
   unfold far at f1 f2
   have c1 := add1 (show n < 4611686018427387904 by omega)
   have c2 := addNN (a := n + 1) (b := r.Key.length) (by omega)
   have c3 := addNN (a := n + 1 + r.Key.length) (b := r.Value.length) (by omega)
   have c4 := add1 (show k < 4611686018427387904 by omega)
   simp -dsimp [lx, hk, h4', - V.zep]
   simp -dsimp only [B.zii, B.zi, e1, e3, e4, e5, e6, a1.zj, a2.zj, c1, c2, c3, c4]
   refine hY (t - 1) _ _ (by omega) ⟨rfl, k + 1, n + 1 + r.Key.length + r.Value.length, by omega, rfl, by omega, ?_⟩
   have := zt5 hr
   omega
  ·have h4' : ¬ (n : Int) <= 200000 := by omega
   have h4'' : (200000 : Int) < n := by omega
   simp -dsimp [lx, hk, h4', h4'']
   exact zk (hq true fun e => by cases e)
 ·have hkk : k = L.length := by omega
  subst hkk
  rw [List.take_length] at hsum
  simp -dsimp [lx]
  by_cases h4 : n <= 200000
  ·have h4' : ¬ (200000 : Int) < n := by omega
   have e7 : decide ((2000 : Int) < L.length) = decide (2000 < L.length) := decide_eq_decide.2 (by omega)
   simp -dsimp [h4', lx]
   first | rw [e7] | skip
   exact zk (hq _ fun e => ⟨by simpa using e, by omega⟩)
  ·have h4' : (200000 : Int) < n := by omega
   simp -dsimp [h4']
   exact zk (hq true fun e => by cases e)
end Go.Ab
namespace Go.Ab
theorem lessB_pre (p a b : List UInt8) : zoy (p ++ a) (p ++ b) = zoy a b := by
 induction p with
 | nil => rfl
 | cons c p ih => rw [List.cons_append, List.cons_append, zty, ih]; simp
theorem zw5 (n k : Nat) : be (n : Int) (k + 1) = UInt8.ofNat (n / 256 ^ k % 256) :: be (n : Int) k := by
 rw [be]
 congr 1
 have e1 : (2 : Int) ^ (8 * k) = ((256 ^ k : Nat) : Int) := by rw [Int.pow_mul]; simp
 rw [e1, Int.fdiv_eq_ediv_of_nonneg _ (Int.natCast_nonneg _), <- Int.natCast_ediv]
 apply UInt8.toNat_inj.1
 have h1 := byt_nat ((n / 256 ^ k : Nat) : Int)
 have h2 : (UInt8.ofNat (n / 256 ^ k % 256)).toNat = n / 256 ^ k % 256 := by simp
 rw [h2]
 omega
theorem lessB_be : ∀ (k a b : Nat), zoy (be (a : Int) k) (be (b : Int) k) = decide (a % 256 ^ k < b % 256 ^ k)
 | 0, a, b => by simp [be, lessB_nil, Nat.mod_one]
 | k + 1, a, b => by
  rw [zw5, zw5, zty, lessB_be k a b]
  have e1 : a % 256 ^ (k + 1) = a % 256 ^ k + 256 ^ k * (a / 256 ^ k % 256) := by rw [Nat.pow_succ, Nat.mod_mul]
  have e2 : b % 256 ^ (k + 1) = b % 256 ^ k + 256 ^ k * (b / 256 ^ k % 256) := by rw [Nat.pow_succ, Nat.mod_mul]
  rw [e1, e2]
  have hp : 0 < 256 ^ k := Nat.pow_pos (by omega)
  have ha := Nat.mod_lt a hp
  have hb := Nat.mod_lt b hp
  have hu : a / 256 ^ k % 256 < 256 := Nat.mod_lt _ (by omega)
  have hv : b / 256 ^ k % 256 < 256 := Nat.mod_lt _ (by omega)
  generalize a / 256 ^ k % 256 = u at *
  generalize b / 256 ^ k % 256 = v at *
  generalize a % 256 ^ k = x at *
  generalize b % 256 ^ k = y at *
  generalize 256 ^ k = m at *
  have lt : (UInt8.ofNat u < UInt8.ofNat v) ↔ u < v := by
   rw [UInt8.lt_iff_toNat_lt]; simp; omega
  have eq : (UInt8.ofNat u == UInt8.ofNat v) = decide (u = v) := by
   rw [Bool.eq_iff_iff, beq_iff_eq, decide_eq_true_eq, <- UInt8.toNat_inj]; simp; omega
  rw [eq, decide_eq_decide.2 lt]
  rcases Nat.lt_trichotomy u v with h | h | h
  ·have h2 : m * (u + 1) <= m * v := Nat.mul_le_mul_left _ h
   rw [Nat.mul_add, Nat.mul_one] at h2
   rw [decide_eq_true h, decide_eq_true (show x + m * u < y + m * v by omega)]; rfl
  ·subst h
   rw [decide_eq_false (Nat.lt_irrefl _), decide_eq_true rfl, Bool.false_or, Bool.true_and]
   exact decide_eq_decide.2 (by omega)
  ·have h2 : m * (v + 1) <= m * u := Nat.mul_le_mul_left _ h
   rw [Nat.mul_add, Nat.mul_one] at h2
   rw [decide_eq_false (show ¬ u < v by omega), decide_eq_false (show ¬ u = v by omega), decide_eq_false (show ¬ x + m * u < y + m * v by omega)]; rfl
theorem pw_map {T : Type} {R : Row -> Row -> Prop} {f : T -> Row} {S : T -> T -> Prop} {l : List T} (h : l.Pairwise S) (hf : ∀ x ∈ l, ∀ y ∈ l, S x y -> R (f x) (f y)) : (l.map f).Pairwise R := by
 rw [List.pairwise_map]
 exact h.imp_of_mem fun hx hy hs => hf _ hx _ hy hs
theorem zu5 {s r : Int} (h : zgs s r 0 = false) {i : Nat} (hi : i < 1000) : zgs s r (i : Int) = false := by
 unfold zgs at h ⊢
 simp only [Bool.or_eq_false_iff, decide_eq_false_iff_not] at h ⊢
 omega
theorem keyP_at {s r : Int} (h : zgs s r 0 = false) {i : Nat} (hi : i < 1000) : keyP s r (i : Int) = 97 :: byt s :: (be r 8 ++ be (i : Int) 2) := by
 unfold keyP; rw [zu5 h hi]; rfl
theorem keyP_nil {s r : Int} : keyP s r 0 = [] ↔ zgs s r 0 = true := by
 unfold keyP
 cases zgs s r 0 <;> simp
theorem keyP_ten {s r : Int} (h : zgs s r 0 = false) {i : Nat} (hi : i < 1000) : (keyP s r (i : Int)).take 10 = 97 :: byt s :: be r 8 := by
 rw [keyP_at h hi]
 simp [List.take_append]
theorem keyP_ten0 {s r : Int} (h : zgs s r 0 = false) : (keyP s r 0).take 10 = 97 :: byt s :: be r 8 := keyP_ten h (i := 0) (by omega)
theorem mine_piece {s r : Int} (h : zgs s r 0 = false) (b : List UInt8) {i : Nat} (hi : i < 1000) : zi0 s r (zfi s r b i) = true := by
 unfold zi0 zfi
 simp only
 rw [zrg (zu5 h hi), keyP_ten h hi, keyP_ten0 h]
 simp
theorem take_piece (b : List UInt8) (k : Nat) : b.take (180 * k) ++ zjb b k = b.take (180 * (k + 1)) := by
 unfold zjb
 rw [show 180 * (k + 1) = 180 * k + 180 by omega, List.take_add]
theorem zpf {s r : Int} (h : zgs s r 0 = false) {b : List UInt8} (hb : ze9 b <= 1000) : ∀ (m k : Nat) (l : List Row), k + m = ze9 b -> zgk s r ((List.range' k m).map (zfi s r b) ++ l) (b.take (180 * k)) k true = zgk s r l b (k + m) true
 | 0, k, l, hk => by
  have : b.take (180 * k) = b := List.take_of_length_le (by unfold ze9 at hk; omega)
  rw [this]; rfl
 | m + 1, k, l, hk => by
  have hlt : k < ze9 b := by omega
  have hbl := zlj.1 hlt
  rw [List.range'_succ, List.map_cons, List.cons_append, zgk, if_pos (mine_piece h b (by omega))]
  have e1 : b.take (180 * k) ++ (zfi s r b k).Value = b.take (180 * (k + 1)) := take_piece b k
  have e2 : zv5 s r (b.take (180 * k)) k (zfi s r b k) = true := by
   unfold zv5 zfi zjb
   simp only [Bool.and_eq_true, decide_eq_true_eq, List.length_take, List.length_drop]
   refine ⟨⟨⟨?_, ?_⟩, ?_⟩, ?_⟩ <;> first | trivial | omega
  rw [e1, e2, Bool.true_and]
  have := zpf h hb m (k + 1) l (by omega)
  rw [this]
  congr 1
  omega
theorem ans_head {s r : Int} (h : zgs s r 0 = false) {b : List UInt8} (hb : ze9 b <= 1000) : ∀ x ∈ (List.range (ze9 b)).map (zfi s r b), ∃ q, x.Key = 97 :: q := by
 intro x hx
 obtain ⟨i, hi, rfl⟩ := List.mem_map.1 hx
 exact ⟨_, keyP_at h (by have := List.mem_range.1 hi; omega)⟩
theorem ans_pw {s r : Int} (h : zgs s r 0 = false) {b : List UInt8} (hb : ze9 b <= 1000) : ((List.range (ze9 b)).map (zfi s r b)).Pairwise (fun x y => zoy x.Key y.Key = true) := by
 refine pw_map (S := fun a b => a < b) List.pairwise_lt_range fun i hi j hj hij => ?_
 have h1 := List.mem_range.1 hi
 have h2 := List.mem_range.1 hj
 show zoy (keyP s r i) (keyP s r j) = true
 rw [keyP_at h (by omega), keyP_at h (by omega), zty, zty, lessB_pre, lessB_be, Nat.mod_eq_of_lt (by simp; omega), Nat.mod_eq_of_lt (by simp; omega)]
 simp [hij]
theorem tellGet_nil : (zdd []).2.2 ≠ 0 := fun h => by
 obtain ⟨_, _, _, h1, h2⟩ := zv7 h
 simp at h1
 omega
theorem zkd (t : zdk) : ze9 (zdc t).1 <= 1000 := by
 have := zpl t
 unfold ze9; omega
theorem zw7 {s r : Int} {t : zdk} (he : (zdc t).2 = 0) (hk : zgs s r 0 = false) : zek s r t = ((List.range (ze9 (zdc t).1)).map (zfi s r (zdc t).1), 0) := by
 unfold zek
 rw [if_neg]
 rintro (e | e)
 ·exact e he
 ·rw [keyP_nil, hk] at e; cases e
theorem ansRows_bad {s r : Int} {t : zdk} (h : ¬ ((zdc t).2 = 0 ∧ zgs s r 0 = false)) : zek s r t = ([], 2) := by
 unfold zek
 rw [if_pos]
 by_cases he : (zdc t).2 = 0
 ·right
  rw [keyP_nil]
  cases hk : zgs s r 0 with
  | true => rfl
  | false => exact absurd ⟨he, hk⟩ h
 ·exact .inl he
theorem zsq (s r : Int) (t : zdk) : (∀ x ∈ (zek s r t).1, ∃ q, x.Key = 97 :: q) ∧ (zek s r t).1.Pairwise (fun x y => zoy x.Key y.Key = true) ∧ (zek s r t).1.length <= 1000 ∧ (∀ x ∈ (zek s r t).1, x.Key.length = 12 ∧ x.Value.length <= 180) := by
 by_cases h : (zdc t).2 = 0 ∧ zgs s r 0 = false
 ·rw [zw7 h.1 h.2]
  refine ⟨ans_head h.2 (zkd t), ans_pw h.2 (zkd t), by simpa using zkd t, fun x hx => ?_⟩
  obtain ⟨i, hi, rfl⟩ := List.mem_map.1 hx
  have := List.mem_range.1 hi
  have := zkd t
  refine ⟨zrg (zu5 h.2 (by omega)), ?_⟩
  simp only [zfi, zjb, List.length_take]
  omega
 ·rw [ansRows_bad h]
  exact ⟨by simp, .nil, by simp, by simp⟩
end Go.Ab
namespace Go.Ab
variable {C : CSem} {N : zN}
def smallI : Itm := ⟨[65], 5, [], []⟩
def smallL : Lot := ⟨1, [65], 3, 8, 5, true⟩
def zjm : Sta := ⟨3, 2, 1, [smallI], [smallL], []⟩
theorem small_n : StaN zjm 2 := ⟨by simp [zjm], fun t ht => by rw [List.mem_singleton.1 ht]; exact ⟨Nat.zero_le _, Nat.zero_le _⟩⟩
theorem zr4 : allRows zjm = [⟨[42, 100, 97, 121], [0, 3]⟩, ⟨[42, 108, 105, 110, 101], [0, 0, 0, 0, 0, 0, 0, 1]⟩, ⟨[42, 108, 111, 116], [0, 0, 0, 0, 0, 0, 0, 2]⟩, ⟨[105, 65], [0, 5, 0, 0]⟩, ⟨[108, 0, 0, 0, 0, 0, 0, 0, 1], [1, 65, 0, 3, 0, 8, 0, 0, 0, 5, 1]⟩] := by decide +kernel
theorem small_state : zjt (allRows zjm) = (zjm, 0) := by decide +kernel
def zvc : zdk := ⟨5, 0, 0, [], 0, [], []⟩
theorem zng : zek 1 7 zvc = ([⟨[97, 1, 0, 0, 0, 0, 0, 0, 0, 7, 0, 0], [0, 5]⟩], 0) := by decide +kernel
theorem five_back : zef 1 7 (zek 1 7 zvc).1 = (zvc, true) := by decide +kernel
def zea.Spec (C : CSem) (N : zN) : Prop := ∀ (h : za) (Q : zQ), (∀ x P y z h', P.map (·.1) = zjm.zgy -> Owns h h' (StaO zjm x P y z) -> Q (.agg (ztb zjm x y z)) h') -> C (N 422) [] h Q
theorem zea.spec (i : zea.Imp C N) : zea.Spec C N := by
 intro h Q hq
 apply i
 simp -dsimp
 intro i2 h2
 have o1 := (Owns.start h).zl6 (id := i2) (n := 1) (cp := 1) (es := 4) (cs := [.str [65], .int .i64 5, .nils, .nils]) (L := [zh2.cs (smallI, (.nils, .nils))]) (R := []) h2 (fun p hp => by rw [List.mem_singleton.1 hp]; rfl) rfl (by simp) rfl
 generalize upd h i2 (zej _) = h1 at *
 simp -dsimp
 intro i5 h5
 have o2 := o1.zl6 (id := i5) (n := 1) (cp := 1) (es := 6) (cs := smallL.cs) (L := [smallL.cs]) (R := []) h5 (by simp) rfl (by simp) (by simp)
 have o3 := ((o2.nils 8).nils 2).nils 1
 simp -dsimp
 exact zk (hq _ [(smallI, (.nils, .nils))] _ _ _ rfl o3)
def zdv.Spec (C : CSem) (N : zN) : Prop := ∀ (h : za) (Q : zQ), Q (.bool true) h -> C (N 418) [] h Q
theorem zdv.spec (i : zdv.Imp C N) (s1 : zea.Spec C N) (s2 : zw.Spec C N) (s3 : zbc.Spec C N) (s4 : zb1.Spec C N) (s5 : zbg.Spec C N) (s6 : zcn.zns C N) (s7 : zc1.Spec C N) : zdv.Spec C N := by
 intro h Q hq
 apply i
 simp -dsimp only [zdv.cps, zdv.k1]
 refine s1 _ _ fun x P y z h1 eP o1 => ?_
 have a1 : zry h1 zjm x y z := StaO.at o1 (fun o ho => ho) eP small_n (by omega)
 refine s2 _ _ _ _ _ _ a1 (by simp [zjm]) fun r R h2 eR o2 => ?_
 have dr : Dl rowK h2 r (allRows zjm) := by
  rw [<- eR]
  exact Df.dl o2 fun p hp => zw8 (s := zjm) _ (by rw [<- eR]; exact List.mem_map.2 ⟨p, hp, rfl⟩)
 have lr := dr.zj
 rw [show (allRows zjm).length = 5 by rw [zr4]; rfl] at lr
 have hst := small_state
 simp -dsimp [lr]
 refine s3 r _ h2 _ dr (by rw [zr4]; simp) fun x3 P3 y3 z3 h3 eP3 hN3 o3 => ?_
 rw [hst] at eP3 hN3 o3 ⊢
 have a3 : zry h3 zjm x3 y3 z3 := StaO.at o3 (fun o ho => ho) eP3 small_n (by omega)
 have c1 := a3.items.zm
 have c2 : y3.zm = true := a3.lots.elim fun _ r => r.zm
 have c3 : z3.zm = true := a3.lines.elim fun _ r => r.zm
 simp -dsimp
 have ht : zin h3 zvc .nils .nils := ⟨⟨[], SlX.nils h3 6⟩, ⟨[], SlX.nils h3 3⟩⟩
 refine s4 1 7 zvc .nils .nils h3 _ ht (by simp [zvc]) (by simp [zvc]) fun a A h4 eA o4 => ?_
 have da : Dl rowK h4 a (zek 1 7 zvc).1 := by
  rw [<- eA]
  exact Df.dl o4 fun p hp => by
   have : p.1 ∈ (zek 1 7 zvc).1 := by rw [<- eA]; exact List.mem_map.2 ⟨p, hp, rfl⟩
   rw [zng] at this
   rw [List.mem_singleton.1 this]
   exact ⟨by simp [far], by simp [far]⟩
 simp -dsimp
 refine s5 1 7 a _ h4 _ da (by rw [zng]; simp) (by rw [zng]; simp [zj9]) fun u v h5 o5 => ?_
 rw [five_back] at o5 ⊢
 have e5 : (zek 1 7 zvc).2 = 0 := by rw [zng]
 rw [e5]
 rw [zng] at da
 have le35 : h3.le h5 := za.le_trans o4.le o5.le
 have dr5 := dr.mono (za.le_trans o3.le le35)
 rw [zr4] at dr5
 have da5 := da.mono o5.le
 obtain ⟨k0, v0, e01, e02, e03, e04, e05, e06, b01, b02⟩ := zm4 dr5 (i := 0) rfl
 obtain ⟨k4, v4, e41, e42, e43, e44, e45, e46, b41, b42⟩ := zm4 dr5 (i := 4) rfl
 obtain ⟨ka, va, ea1, ea2, ea3, ea4, ea5, ea6, ba1, ba2⟩ := zm4 da5 (i := 0) rfl
 obtain ⟨Rk, q0⟩ := b01.1
 have e01 : V.idxS 2 r (.int .i64 0) = some (elp 2 r 0 0) := e01
 have ea1 : V.idxS 2 a (.int .i64 0) = some (elp 2 a 0 0) := ea1
 have e41 : V.idxS 2 r (.int .i64 4) = some (elp 2 r 4 0) := e41
 have cu : u.zm = true := (o5.slAt 0 rfl).zm
 have cv : v.zm = true := (o5.slAt 1 rfl).zm
 have la := da5.zj
 simp -dsimp [zvc, e01, e03, e05, zei q0, e41, e43, e45]
 refine zhl 9 (s := [108, 0, 0, 0, 0, 0, 0, 0, 1]) rfl rfl fun i39 h6 o6 => ?_
 simp -dsimp
 refine s6 k4 _ _ _ h6 _ (b41.mono o6.le) ⟨⟨[], o6.slAt 0 rfl⟩, by simp [far]⟩ ?_
 have e46 := zs0 o6.le e46
 simp -dsimp [e41, e44, e46]
 refine zhl 11 (s := [1, 65, 0, 3, 0, 8, 0, 0, 0, 5, 1]) rfl rfl fun i47 h7 o7 => ?_
 simp -dsimp
 refine s6 v4 _ _ _ h7 _ ((b42.mono o6.le).mono o7.le) ⟨⟨[], o7.slAt 0 rfl⟩, by simp [far]⟩ ?_
 simp -dsimp
 refine s1 _ _ fun x8 P8 y8 z8 h8 eP8 o8 => ?_
 have a8 : zry h8 zjm x8 y8 z8 := StaO.at o8 (fun o ho => ho) eP8 small_n (by omega)
 have le38 : h3.le h8 := za.le_trans le35 (za.le_trans o6.le (za.le_trans o7.le o8.le))
 simp -dsimp
 refine s7 zjm zjm _ _ _ _ _ _ h8 _ (a3.mono le38) a8 ?_
 have le58 : h5.le h8 := za.le_trans o6.le (za.le_trans o7.le o8.le)
 have ea5 := zs0 le58 ea5
 simp -dsimp [la, ea1, ea3, ea5]
 refine zhl 12 (s := [97, 1, 0, 0, 0, 0, 0, 0, 0, 7, 0, 0]) rfl rfl fun i73 h9 o9 => ?_
 simp -dsimp
 refine s6 ka _ _ _ h9 _ ((ba1.mono le58).mono o9.le) ⟨⟨[], o9.slAt 0 rfl⟩, by simp [far]⟩ ?_
 simp -dsimp
 have az : zry h9 zhb .nils .nils .nils := ⟨Dl.nils zh2 h9, ⟨[], SlX.nils h9 6⟩, ⟨[], SlX.nils h9 8⟩, by simp [zhb], by simp [zhb], by simp [zhb]⟩
 refine s2 zhb _ _ _ h9 _ az (by simp [zhb]) fun r2 R2 h10 eR2 o10 => ?_
 have ez : allRows zhb = [] := by decide +kernel
 rw [ez] at eR2
 have eR2 : R2 = [] := List.map_eq_nil_iff.1 eR2
 subst eR2
 have lz := (o10.slAt 0 rfl : SlX h10 2 r2 [] []).zj
 simp -dsimp [lz]
 refine zrp ?_ hq
 exact za.le_trans o1.le (za.le_trans o2.le (za.le_trans o3.le (za.le_trans le38 (za.le_trans o9.le o10.le))))
end Go.Ab
namespace Go.Ab
abbrev tyRow : Ty := .st [.sl 1 1 (.i .u8), .sl 1 1 (.i .u8)]
theorem dBs {H : za} {v : AVal} (h : zio H (.sl 1 1 (.i .u8)) [v]) : ∃ b : List UInt8, Bs H v b := by
 obtain ⟨L, h1, h2⟩ := zvt bc (fun p hp => dByte hp) h
 exact ⟨L, ⟨[], h1⟩, by unfold reach at h2; unfold far; omega⟩
theorem absSl_one {H : za} {b e : Nat} {t : Ty} {c : List AVal} (h : zio H (.sl b e t) c) : ∃ v, c = [v] := by
 rcases h with h | h | ⟨_, _, h, _⟩ <;> exact ⟨_, h⟩
theorem dRow {H : za} {p : List AVal} (h : zio H tyRow p) : ∃ (t : Row) (a : AVal × AVal), p = rowK.cells t a ∧ rowK.at_ H t a := by
 obtain ⟨a, r, rfl, h1, ⟨b, r2, rfl, h2, hr⟩⟩ := h
 cases hr
 obtain ⟨v, rfl⟩ := absSl_one h1
 obtain ⟨w, rfl⟩ := absSl_one h2
 obtain ⟨s, hs⟩ := dBs h1
 obtain ⟨t, ht⟩ := dBs h2
 exact ⟨⟨s, t⟩, (v, w), rfl, hs, ht⟩
theorem arg_sliceD {T Ad : Type} {K : DK T Ad} {H : za} {bytes : Nat} {e : Ty} {v : AVal} (hd : ∀ p, zio H e p -> ∃ (t : T) (a : Ad), p = K.cells t a ∧ K.at_ H t a) (h : zio H (.sl bytes K.n e) [v]) : ∃ L : List T, Dl K H v L ∧ L.length * bytes <= reach := by
 obtain ⟨G, h1, h2⟩ := zvt (T := { p : T × Ad // K.at_ H p.1 p.2 }) (fun p => K.cells p.1.1 p.1.2) (fun p hp => by obtain ⟨t, a, e, k⟩ := hd p hp; exact ⟨⟨(t, a), k⟩, e⟩) h
 refine ⟨(G.map (·.1)).map (·.1), ⟨G.map (·.1), [], rfl, ?_, fun p hp => ?_⟩, by simpa using h2⟩
 ·rw [List.map_map]; exact h1
 ·obtain ⟨q, _, rfl⟩ := List.mem_map.1 hp; exact q.2
theorem dRows {H : za} {v : AVal} (h : zio H (.sl 48 2 tyRow) [v]) : ∃ L : List Row, Dl rowK H v L ∧ L.length < 4000000000000 := by
 obtain ⟨L, h1, h2⟩ := arg_sliceD (K := rowK) (fun p hp => dRow hp) h
 exact ⟨L, h1, by unfold reach at h2; omega⟩
end Go.Ab
namespace Go.Ab
variable {C : CSem} {N : zN}
@[simp] def zox.k1 (C : CSem) (n fm : Nat) (Q : zQ) (Y1 : zL) (v3 v4 : AVal) (h : za) : Prop :=
 B.pv (V.zj v3) fun v23 =>
  B.pv (V.bin .lss v4 v23) fun v24 =>
  B.cond v24
  (B.call C fm [(.int .i64 2), v4] h fun v30 h =>
  B.pv (V.idxS n v3 v4) fun v31 =>
  B.stn h v31 n v30 fun h =>
  B.pv (V.bin .add v4 (.int .i64 1)) fun v26 =>
  Y1 [v26] h)
  (Q (.tup []) h)
@[simp] def zox.l2 (C : CSem) (n fm : Nat) (Q : zQ) (v3 : AVal) : zG
 | [v4], h, Y1 => zox.k1 C n fm Q Y1 v3 v4 h
 | _, _, _ => False
@[simp] def zox.k3 (C : CSem) (n fm : Nat) (Q : zQ) (v0 : AVal) (h : za) : Prop :=
 B.pv (V.zj v0) fun v18 =>
  B.pv (V.bin .add v18 (.int .i64 12)) fun v19 =>
  B.pv (V.zf1 n v0 none (some v19)) fun v20 =>
  zd (zox.l2 C n fm Q v20) [(.int .i64 0)] h
@[simp] def zox.k4 (C : CSem) (n fo fm : Nat) (Q : zQ) (Y2 : zL) (v0 v2 : AVal) (h : za) : Prop :=
 B.pv (V.zj v0) fun v7 =>
  B.pv (V.bin .lss v2 v7) fun v8 =>
  B.cond v8
  (B.pv (V.idxS n v0 v2) fun v13 =>
  B.ldn h v13 n fun v14 =>
  B.call C fo [v14] h fun v15 h =>
  B.pv (V.bin .add v2 (.int .i64 1)) fun v10 =>
  Y2 [v10] h)
  (zox.k3 C n fm Q v0 h)
@[simp] def zox.l5 (C : CSem) (n fo fm : Nat) (Q : zQ) (v0 : AVal) : zG
 | [v2], h, Y2 => zox.k4 C n fo fm Q Y2 v0 v2 h
 | _, _, _ => False
def zox (C : CSem) (n fo fm : Nat) (v0 : AVal) (h : za) (Q : zQ) : Prop := zd (zox.l5 C n fo fm Q v0) [(.int .i64 0)] h
section
variable {T Ad : Type} (K : DK T Ad)
def OverE (K : DK T Ad) (C : CSem) (f : Nat) : Prop := ∀ (t : T) (a : Ad) (h0 h : za) (Q : zQ), K.ok t -> Owns h0 h (K.obs true t a) -> (∀ h', h0.le h' -> Q (.tup []) h') -> C f [.agg (K.cells t a)] h Q
theorem overD_spec {mk : Int -> Int -> T} {fo fm : Nat} (so : OverE K C fo) (sm : MarkE K mk C fm) {h0 h : za} {x : AVal} {P PM : List (T × Ad)} {Q : zQ} (ho : Owns h0 h (.sl K.n x (P.map K.cs) (PM.map K.cs) :: (K.os true P ++ K.os false PM))) (hok : ∀ p ∈ P, K.ok p.1) (hM : PM.length = 12) (hl : P.length <= 100000000)
  (hq : ∀ h', h0.le h' -> Q (.tup []) h') : zox C K.n fo fm x h Q := by
 have ho1 : Owns h0 h (.sl K.n x (P.map K.cs) (PM.map K.cs) :: K.os true P) := ho.sub (List.Sublist.cons_cons _ (List.sublist_append_left _ _))
 have e1 : IntKind.i64.wrap ((P.length : Int) + 12) = ((P.length + 12 : Nat) : Int) := by rw [wrap_i64 (by omega) (by omega)]; omega
 refine zd.intro (fun n vs hh => ∃ k : Nat, k + n = P.length ∧ vs = [.int .i64 k] ∧ Owns h0 hh (.sl K.n x (P.map K.cs) (PM.map K.cs) :: K.os true (P.drop k))) P.length ?_ ⟨0, by omega, rfl, ho1⟩
 rintro Y n vs hh ⟨k, hk, rfl, o⟩ hY
 have hx := o.slAt 0 rfl
 have hlx := hx.zj
 rw [List.length_map] at hlx
 simp -dsimp only [zox.l5, zox.k4, hlx, lssN, B.zi]
 refine B.ze (fun hb => ?_) (fun hb => ?_)
 ·rw [decide_eq_true_eq] at hb
  have hd : P.drop k = P[k] :: P.drop (k + 1) := List.drop_eq_getElem_cons hb
  have hg : (P.map K.cs)[k]? = some (K.cells P[k].1 P[k].2) := by rw [List.getElem?_map, List.getElem?_eq_getElem hb]; rfl
  have hidx : V.idxS K.n x (.int .i64 (k : Int)) = some (elp K.n x k 0) := hx.idxN (by simpa using hb)
  simp -dsimp only [hidx, B.zk3, hx.elem hg, B.zi]
  rw [hd] at o
  have eo : K.os true (P[k] :: P.drop (k + 1)) = K.obs true P[k].1 P[k].2 ++ K.os true (P.drop (k + 1)) := by simp only [DK.os, List.flatMap_cons]
  rw [eo] at o
  have o' : Owns h0 hh ((.sl K.n x (P.map K.cs) (PM.map K.cs) :: K.os true (P.drop (k + 1))) ++ K.obs true P[k].1 P[k].2) := o.perm (by
   rw [List.cons_append]
   exact List.Perm.cons _ (List.perm_append_comm))
  obtain ⟨o1, o2⟩ := o'.out
  refine so _ _ _ _ _ (hok _ (List.getElem_mem hb)) o2 fun h' hle => ?_
  simp -dsimp only [add1 (show k < 4611686018427387904 by omega), B.zi]
  exact hY (n - 1) _ _ (by omega) ⟨k + 1, by omega, rfl, o1.grow hle⟩
 ·rw [decide_eq_false_iff_not] at hb
  have o1 : Owns h0 hh [.sl K.n x (P.map K.cs) (PM.map K.cs)] := o.sub (List.Sublist.cons_cons _ (List.nil_sublist _))
  obtain ⟨z, e2, e3, e4⟩ := hx.slice K.pos (lo := 0) (hi := P.length + 12) (a := none) (b := some (.int .i64 ((P.length + 12 : Nat) : Int))) (.inl ⟨rfl, rfl⟩) (.inr ⟨_, rfl⟩) (by omega) (by simp; omega)
  have h1 : ((P.map K.cs ++ PM.map K.cs).take (P.length + 12)).drop 0 = P.map K.cs ++ PM.map K.cs := by rw [List.drop_zero, List.take_of_length_le]; simp; omega
  rw [h1] at e3
  simp -dsimp only [zox.k3, hlx, V.zep, e1, e2, B.zi]
  have hoz : Owns h0 hh [.sl K.n z (P.map K.cs ++ PM.map K.cs) ((P.map K.cs ++ PM.map K.cs).drop (P.length + 12))] := o1.turn 0 rfl (o' := .sl K.n z (P.map K.cs ++ PM.map K.cs) ((P.map K.cs ++ PM.map K.cs).drop (P.length + 12))) e3 (fun id b hf hb => o1.zlp 0 rfl id b (by show foot x = some id; rw [<- e4]; exact hf) hb) (fun j b hb _ => hb) (.inl e4)
  refine zd.intro (fun n vs hh => ∃ (k : Nat) (L' : List (List AVal)), k + n = P.length + 12 ∧ vs = [.int .i64 k] ∧ L'.length = P.length + 12 ∧ Owns h0 hh [.sl K.n z L' ((P.map K.cs ++ PM.map K.cs).drop (P.length + 12))]) (P.length + 12) ?_ ⟨0, _, by omega, rfl, by simp [hM], hoz⟩
  rintro Y n vs hh ⟨k, L', hn, rfl, hl', ho'⟩ hY
  have hlz := (ho'.slAt 0 rfl).zj
  rw [hl'] at hlz
  simp -dsimp only [zox.l2, zox.k1, hlz, lssN, B.zi]
  refine B.ze (fun hc => ?_) (fun hc => ?_)
  ·rw [decide_eq_true_eq] at hc
   have hk : k < L'.length := by omega
   refine sm _ _ _ _ fun a' h2 o2 => ?_
   simp -dsimp only [(ho'.slAt 0 rfl).idxN hk, B.zi]
   refine (ho'.grow o2.le).stElem 0 rfl (c := L'[k]) (by simp [hk]) (K.len _ a') fun h3 o3 _ => ?_
   simp -dsimp only [add1 (show k < 4611686018427387904 by omega), B.zi]
   exact hY (P.length + 12 - (k + 1)) _ _ (by omega) ⟨k + 1, _, by omega, rfl, by simp [hl'], o3⟩
  ·exact hq _ ho'.le
end
end Go.Ab
namespace Go.Ab
variable {C : CSem} {N : zN}
def zc2.zns (C : CSem) (N : zN) : Prop := ∀ (h0 h : za) (x : AVal) (s : List UInt8) (Q : zQ), Owns h0 h [bOb true x s] -> s.length <= far -> (∀ h', h0.le h' -> Q (.tup []) h') -> C (N 40) [x] h Q
theorem zc2.spl (i : zc2.Imp C N) (s1 : zcq.Spec C N) : zc2.zns C N := fun h0 h x s Q ho hlen hq =>
 i x h Q (zux (es := 1) (st := fun h p v K => B.st h p v K) (by omega) (v := fun i => .int .u8 ((zgu 2 i).toNat : Int)) (s1 2) (fun ho hi hK => over_stS rfl ho hi hK) (ho : Owns h0 h [.sl 1 x (s.map bc) _]) (by simp [marksByte, marks]) (by rw [List.length_map]; unfold far at hlen; omega) fun h' hle => zk (hq h' hle))
def zbp.SpecO (C : CSem) (N : zN) : Prop := ∀ (x : AVal) (L : List Row) (h : za) (Q : zQ), Dl rowK h x L -> L.length <= 100000000 ->
 (∀ x' P PM h', P.map (·.1) = L -> PM.map (·.1) = mks12 zne -> Owns h h' (.sl 2 x' (P.map rowK.cs) (PM.map rowK.cs) :: (rowK.os true P ++ rowK.os false PM)) -> zvv rowK zne h' x' L -> Q x' h') -> C (N 254) [x] h Q
theorem zbp.spo (i : zbp.Imp C N) (s1 : zdh.Spec C N) (s2 : zec.Spec C N) : zbp.SpecO C N := fun x L h Q hx hl hq =>
 i x h Q (lentD_spec (K := rowK) s1 s2 hx hl fun x' P PM h' e1 e2 ho => zk (hq x' P PM h' e1 e2 ho (zvv.of zsf hx.ok e1 e2 ho)))
def zeb.Spec (C : CSem) (N : zN) : Prop := OverE rowK C (N 468)
theorem zeb.spec (i : zeb.Imp C N) (s1 : zc2.zns C N) : zeb.Spec C N := by
 intro t a h0 h Q hok ho hq
 apply i
 have ho : Owns h0 h ([bOb true a.1 t.Key] ++ [bOb true a.2 t.Value]) := ho
 have ho' := ho.perm (List.perm_append_comm)
 obtain ⟨o1, o2⟩ := ho'.out
 have c1 : a.1.zm = true := (ho.slAt 0 rfl).zm
 have c2 : a.2.zm = true := (ho.slAt 1 rfl).zm
 simp -dsimp [rowK, c1, c2]
 refine s1 _ _ _ _ _ o2 hok.1 fun h1 hle => ?_
 refine s1 _ _ _ _ _ (o1.grow hle) hok.2 fun h2 hle2 => ?_
 exact zk (hq _ hle2)
def zbq.Spec (C : CSem) (N : zN) : Prop := ∀ (x : AVal) (P PM : List (Row × AVal × AVal)) (h0 h : za) (Q : zQ), Owns h0 h (.sl 2 x (P.map rowK.cs) (PM.map rowK.cs) :: (rowK.os true P ++ rowK.os false PM)) -> (∀ p ∈ P, rowK.ok p.1) -> PM.length = 12 -> P.length <= 100000000 ->
 (∀ h', h0.le h' -> Q (.tup []) h') -> C (N 451) [x] h Q
theorem zbq.spec (i : zbq.Imp C N) (s1 : zeb.Spec C N) (s2 : zdh.Spec C N) : zbq.Spec C N := fun x P PM h0 h Q ho hok hM hl hq =>
 i x h Q (overD_spec rowK s1 s2 ho hok hM hl fun h' hle => zk (hq h' hle))
end Go.Ab
set_option maxRecDepth 100000
namespace Go.Ab
variable {C : CSem} {N : zN}
@[simp] def putD.k1 (C : CSem) (n f : Nat) (Q : zQ) (Y1 : zL) (v0 v1 v4 : AVal) (h : za) : Prop :=
 B.pv (V.zj v1) fun v17 =>
  B.pv (V.bin .lss v4 v17) fun v18 =>
  B.cond v18
  (B.pv (V.idxS n v1 v4) fun v24 =>
  B.ldn h v24 n fun v25 =>
  B.call C f [v0, v25] h fun v26 h =>
  B.pv (V.bin .add v4 (.int .i64 1)) fun v20 =>
  Y1 [v20] h)
  (Q (.tup []) h)
@[simp] def putD.l2 (C : CSem) (n f : Nat) (Q : zQ) (v0 v1 : AVal) : zG
 | [v4], h, Y1 => putD.k1 C n f Q Y1 v0 v1 v4 h
 | _, _, _ => False
def putD (C : CSem) (k n f : Nat) (v0 v1 : AVal) (h : za) (Q : zQ) : Prop := putG k v0 v1 h fun _ h => zd (putD.l2 C n f Q v0 v1) [(.int .i64 0)] h
section
variable {T Ad : Type} {K : DK T Ad} {inn : T -> Ad -> LK}
def allOb (K : DK T Ad) (ls : List (AVal × List (T × Ad))) : List Ob := ls.flatMap fun p => .sl K.n p.1 (p.2.map K.cs) [] :: K.os false p.2
end
end Go.Ab
namespace Go.Ab
variable {C : CSem} {N : zN}
def zcd.Spec (C : CSem) (N : zN) : Prop := ∀ (n : Int) (k : Nat) (h : za) (Q : zQ), k <= 8 ->
 (∀ x' h', Owns h h' [.sl 1 x' ((be n k).map bc) []] -> Q x' h') -> C (N 466) [.int .i64 n, .int .i64 (k : Int)] h Q
theorem zcd.spec (i : zcd.Imp C N) : zcd.Spec C N := by
 intro n k h Q hk hq
 apply i
 have e0 : IntKind.i64.wrap ((k : Int) - 1) = (k : Int) - 1 := wrap_i64 (by omega) (by omega)
 simp +contextual -dsimp [e0]
 refine zd.intro (fun t vs hh => ∃ (x : AVal) (pre : List UInt8), t <= k ∧ vs = [x, .int .i64 ((t : Int) - 1)] ∧ pre ++ be n t = be n k ∧ Owns h hh [.sl 1 x (pre.map bc) []]) k ?_ ⟨.nils, [], Nat.le_refl _, rfl, rfl, (Owns.start h).nils 1⟩
 rintro Y t vs hh ⟨x, pre, ht, rfl, he, ho⟩ hY
 simp +contextual -dsimp
 have hpl := congrArg List.length he
 simp only [List.length_append, zfh] at hpl
 refine B.ze (fun hb => ?_) (fun hb => ?_) <;> simp at hb
 ·obtain ⟨t, rfl⟩ : ∃ u, t = u + 1 := ⟨t - 1, by omega⟩
  have e1 : ((t + 1 : Nat) : Int) - 1 = (t : Int) := by omega
  have e2 : IntKind.i64.wrap (8 * (t : Int)) = 8 * (t : Int) := wrap_i64 (by omega) (by omega)
  have e5 : IntKind.u64.wrap (8 * (t : Int)) = 8 * (t : Int) := by rw [wrap_u64]; omega
  have e3 : V.bin .shr (.int .u64 (IntKind.u64.wrap n)) (.int .u64 (8 * (t : Int))) = some (.int .u64 ((n % 18446744073709551616).fdiv (2 ^ (8 * t)))) := by
   rw [wrap_u64, zvo (by omega) (by simp [IntKind.bits]; omega)]
   congr 4
  have e6 : byt ((n % 18446744073709551616).fdiv (2 ^ (8 * t))) = byt (n.fdiv (2 ^ (8 * t))) := zru (zt0 n t (by omega))
  have e4 : IntKind.i64.wrap ((t : Int) - 1) = (t : Int) - 1 := wrap_i64 (by omega) (by omega)
  rw [e1]
  simp +contextual -dsimp [e2, e5, e3, zld, e6]
  refine ho.push 0 rfl rfl (by omega) (by simp; omega) (by simp [maxLen]; omega) fun x' h' ho' _ => ?_
  simp +contextual -dsimp [e4]
  refine hY t _ _ (by omega) ⟨x', pre ++ [byt (n.fdiv (2 ^ (8 * t)))], by omega, rfl, ?_, ?_⟩
  ·rw [<- he, be, List.append_assoc]; rfl
  ·rw [List.map_append]; exact ho'
 ·have : t = 0 := by omega
  subst this
  rw [be, List.append_nil] at he
  subst he
  exact zk (hq _ _ ho)
def zb7.Spec (C : CSem) (N : zN) : Prop := ∀ (x : AVal) (xs : List AVal) (L : List (List UInt8)) (R : List (List AVal)) (h : za) (Q : zQ), SlX h 1 x (xs.map fun y => [y]) R -> Pcs h xs L -> L.length <= 1000 -> L.flatten.length <= 100000000 ->
 (∀ x' h', Owns h h' [bOb false x' L.flatten] -> Q x' h') -> C (N 471) [x] h Q
theorem zb7.spec (i : zb7.Imp C N) : zb7.Spec C N := by
 intro x xs L R h Q hx hp hl1 hl2 hq
 apply i
 have hxl := hp.len
 have lx := hx.zj
 rw [List.length_map, hxl] at lx
 refine zd.intro (fun t vs h2 => ∃ (k : Nat) (y : AVal), k + t = L.length ∧ vs = [y, .int .i64 (k : Int)] ∧ Owns h h2 [.sl 1 y ((L.take k).flatten.map bc) []]) L.length ?_ ⟨0, .nils, by omega, rfl, (Owns.start h).nils 1⟩
 rintro Y t vs h2 ⟨k, y, hk, rfl, o⟩ hY
 simp -dsimp only [zb7.l2, zb7.k1, lx, lssN, B.zi]
 refine B.ze (fun hc => ?_) (fun hc => ?_)
 ·rw [decide_eq_true_eq] at hc
  have hs := zpm hc
  have hle := zt8 L (k + 1)
  have hg : (xs.map fun y => [y])[k]? = some [xs[k]'(by omega)] := by rw [List.getElem?_map, List.getElem?_eq_getElem (by omega)]; rfl
  have hidx : V.idxS 1 x (.int .i64 (k : Int)) = some (elp 1 x k 0) := hx.idxN (by simp; omega)
  obtain ⟨R2, h2'⟩ := hp.get k _ _ (List.getElem?_eq_getElem (by omega)) (List.getElem?_eq_getElem hc)
  simp -dsimp only [hidx, (hx.mono o.le).cell hg, B.zii, B.zi]
  refine o.appW 0 rfl (h2'.mono o.le) Nat.one_pos (by simp only [List.length_map]; omega) (by simp only [List.length_map, maxLen]; omega) fun x' h' o3 _ => ?_
  simp -dsimp only [add1 (show k < 4611686018427387904 by omega), B.zi]
  refine hY (t - 1) _ _ (by omega) ⟨k + 1, x', by omega, rfl, ?_⟩
  rw [List.take_add_one, List.getElem?_eq_getElem hc, Option.toList_some, List.flatten_append, List.flatten_singleton, List.map_append]
  exact o3
 ·rw [decide_eq_false_iff_not] at hc
  have hk : k = L.length := by omega
  subst hk
  rw [List.take_length] at o
  exact zk (hq _ _ o)
end Go.Ab
namespace Go.Ab
variable {C : CSem} {N : zN}
theorem num16 (s : zcd.Spec C N) {n : Int} {k : Nat} (hk : k <= 8) {h : za} (Q : zQ) (hq : ∀ x' h', Owns h h' [.sl 1 x' ((be n k).map bc) []] -> Q x' h') : C (N 466) [.int .i64 n, .int .i64 (k : Int)] h Q := s n k h Q hk hq
end Go.Ab
namespace Go.Ab
variable {C : CSem} {N : zN}
def zex.Spec (C : CSem) (N : zN) : Prop := ∀ (s r k : Int) (h : za) (Q : zQ), (∀ x' h', Owns h h' [bOb false x' (keyP s r k)] -> (keyP s r k = [] -> x' = .nils) -> Q x' h') -> C (N 457) [.int .i64 s, .int .i64 r, .int .i64 k] h Q
theorem zex.spec (i : zex.Imp C N) (s1 : zcd.Spec C N) (s2 : zb7.Spec C N) : zex.Spec C N := by
 intro s r k h Q hq
 apply i
 simp +contextual -dsimp
 have eb : (((((decide (s < 0) || decide (4 <= s)) || decide (r < 1)) || decide (4611686018427387904 < r)) || decide (k < 0)) || decide (999 < k)) = zgs s r k := by
  have : decide (999 < k) = decide (1000 <= k) := decide_eq_decide.2 (by omega)
  rw [this]; rfl
 rw [eb]
 refine B.ze (fun hb => ?_) (fun hb => ?_)
 ·have e : keyP s r k = [] := by unfold keyP; rw [hb]; rfl
  rw [e] at hq
  exact zk (hq .nils h ((Owns.start h).nils 1) fun _ => rfl)
 ·have e : keyP s r k = 97 :: byt s :: (be r 8 ++ be k 2) := by unfold keyP; rw [hb]; rfl
  simp -dsimp [zld]
  refine zhl 2 (s := [97, byt s]) rfl rfl fun i31 h1 o1 => ?_
  obtain ⟨b1, m1, ho1, p1⟩ := zew (xs := []) (L := []) (Owns.start h) trivial o1
  generalize AVal.sl i31 0 0 2 1 2 = a1 at *
  refine num16 s1 (k := 8) (by omega) _ fun a2 h2 o2 => ?_
  obtain ⟨b2, m2, ho2, p2⟩ := zew ho1 p1 o2
  refine num16 s1 (k := 2) (by omega) _ fun a3 h3 o3 => ?_
  obtain ⟨b3, m3, ho3, p3⟩ := zew ho2 p2 o3
  have c1 := (p3.get 0 a1 _ rfl rfl).elim fun _ r => r.zm
  have c2 := (p3.get 1 a2 _ rfl rfl).elim fun _ r => r.zm
  have c3 := (p3.get 2 a3 _ rfl rfl).elim fun _ r => r.zm
  simp -dsimp [c1, c2, c3]
  refine zsz 3 ho3 rfl (ys := [a1, a2, a3]) fun i36 h4 hle4 o4 => ?_
  generalize AVal.sl i36 0 0 3 1 3 = a4 at *
  refine s2 a4 [a1, a2, a3] [[97, byt s], be r 8, be k 2] [] _ _ (o4.is (.sl 1 a4 ([a1, a2, a3].map fun y => [y]) []) (by simp)) (p3.mono (za.le_trans ho3.le hle4)) (by simp) (by simp) fun x' h5 o5 => zk (hq x' h5 ?_ ?_)
  ·rw [e]
   have : ([[97, byt s], be r 8, be k 2] : List (List UInt8)).flatten = 97 :: byt s :: (be r 8 ++ be k 2) := by simp
   rw [this] at o5
   exact o5.back (za.le_trans m1 (za.le_trans m2 (za.le_trans m3 o4.le)))
  ·rw [e]; simp
instance : Inhabited Ob := ⟨.box .nils []⟩
theorem rowPush {h0 h h2 : za} {v : AVal} {P : List (Row × (AVal × AVal))} {r : Row} {b : AVal × AVal} {K : zQ} (ho : Df rowK h0 h v P) (o : Owns h h2 (rowK.obs false r b)) (hl : P.length <= 1000000) (hK : ∀ v' h', Df rowK h0 h' v' (P ++ [(r, b)]) -> K v' h') :
  B.newO h2 (zc0 [(0, some 2, .agg (rowK.cells r b))] (repL 1 [.nils, .nils])) fun i h => B.appW h 2 48 v (.sl i 0 0 1 2 1) K := by
 have hf : zc0 [(0, some 2, .agg (rowK.cells r b))] (repL 1 [.nils, .nils]) = some (rowK.cells r b) := zrn rowK r b
 rw [hf]
 refine (Owns.join ho o).push 0 rfl (rowK.len r b) (by decide) (by simp; omega) (by simp [maxLen]; omega) fun v' h5 o5 _ => ?_
 refine hK v' h5 ?_
 unfold Df
 rw [DK.zlq, DK.zwh, List.map_append]
 simp only [List.cons_append, List.set_cons_zero] at o5
 exact o5
end Go.Ab
set_option maxRecDepth 100000
namespace Go.Ab
variable {C : CSem} {N : zN}
abbrev LKs := Nat -> LK
namespace LKs
def none : LKs := fun _ => []
def one (k : Nat) (q : AVal × List (List AVal)) : LKs := fun i => if i = k then [q] else []
def add (D E : LKs) : LKs := fun i => D i ++ E i
def sum {α : Type} (l : List α) (f : α -> LKs) : LKs := fun i => l.flatMap fun a => f a i
def on (L : Nat -> List AVal) (D : LKs) : Nat -> List AVal := fun i => L i ++ (D i).map (·.1)
theorem on_on (L : Nat -> List AVal) (D E : LKs) : on (on L D) E = on L (D.add E) := by
 funext i; simp [on, add]
theorem on_one (L : Nat -> List AVal) (k : Nat) (q : AVal × List (List AVal)) : upf L k (L k ++ [q.1]) = on L (one k q) := by
 funext i
 unfold upf on one
 by_cases h : i = k
 ·subst h; simp
 ·simp [h]
theorem sum_take {α : Type} {l : List α} {f : α -> LKs} {j : Nat} {a : α} (h : l[j]? = some a) : sum (l.take (j + 1)) f = (sum (l.take j) f).add (f a) := by
 funext i
 simp only [sum, add]
 rw [take_succ h, List.flatMap_append]
 simp
theorem sum_le {α : Type} (l : List α) (f : α -> LKs) (j i : Nat) : (sum (l.take j) f i).length <= (sum l f i).length := by
 have : sum l f i = sum (l.take j) f i ++ (l.drop j).flatMap fun a => f a i := by
  simp only [sum]
  rw [<- List.flatMap_append, List.take_append_drop]
 rw [this, List.length_append]; omega
theorem zv8 {α : Type} {l : List α} {f : α -> LKs} {j : Nat} {a : α} (h : l[j]? = some a) (i : Nat) : (sum (l.take j) f i).length + (f a i).length <= (sum l f i).length := by
 have := sum_le l f (j + 1) i
 rw [sum_take h] at this
 simpa [add] using this
end LKs
theorem zvs (b : BagK) (D E : LKs) (i n : Nat) : (zjh b (D.add E) i n).Perm (zjh b D i n ++ zjh b E i n) := by
 induction n generalizing i with
 | zero => exact List.Perm.refl _
 | succ n ih =>
  rw [zlz, zlz, zlz]
  show ((D i ++ E i).map _ ++ _).Perm _
  rw [List.map_append]
  generalize (D i).map (obK (b.es i)) = p
  generalize (E i).map (obK (b.es i)) = q
  have := ih (i + 1)
  generalize zjh b (D.add E) (i + 1) n = r at *
  generalize zjh b D (i + 1) n = u at *
  generalize zjh b E (i + 1) n = v at *
  rw [List.append_assoc, List.append_assoc]
  refine List.Perm.append_left p ((List.Perm.append_left q this).trans ?_)
  rw [<- List.append_assoc, <- List.append_assoc]
  exact List.perm_append_comm.append_right v
theorem bagOb_none (b : BagK) (i n : Nat) : zjh b LKs.none i n = [] := by simp [zjh, LKs.none]
theorem zvr (b : BagK) {k : Nat} (hk : k < 23) (q : AVal × List (List AVal)) : zjh b (LKs.one k q) 0 23 = [obK (b.es k) q] := by
 have g : ∀ (n i : Nat), zjh b (LKs.one k q) i n = if i <= k ∧ k < i + n then [obK (b.es k) q] else [] := by
  intro n
  induction n with
  | zero => intro i; rw [if_neg (by omega)]; rfl
  | succ n ih =>
   intro i
   rw [zlz, ih]
   by_cases h : i = k
   ·subst h
    rw [if_neg (by omega), if_pos (by omega)]
    simp [LKs.one]
   ·have : LKs.one k q i = [] := by simp [LKs.one, h]
    rw [this]
    by_cases h2 : i + 1 <= k ∧ k < i + 1 + n
    ·rw [if_pos h2, if_pos (by omega)]; rfl
    ·rw [if_neg h2, if_neg (by omega)]; rfl
 rw [g, if_pos (by omega)]
theorem bagOb_sum (b : BagK) {α : Type} (l : List α) (f : α -> LKs) : (zjh b (LKs.sum l f) 0 23).Perm (l.flatMap fun a => zjh b (f a) 0 23) := by
 induction l with
 | nil => rw [show LKs.sum ([] : List α) f = LKs.none from rfl, bagOb_none]; exact List.Perm.refl _
 | cons a l ih =>
  have : LKs.sum (a :: l) f = (f a).add (LKs.sum l f) := by funext i; simp [LKs.sum, LKs.add]
  rw [this, List.flatMap_cons]
  exact (zvs b _ _ _ _).trans (ih.append_left _)
section
variable {T Ad : Type}
def OneG (K : DK T Ad) (inn : T -> Ad -> LKs) (C : CSem) (g : Nat) : Prop := ∀ (h hh : za) (id : Nat) (L : Nat -> List AVal) (t : T) (a : Ad) (Q : zQ), zme h hh id L -> K.at_ h t a -> (∀ i, (L i).length + (inn t a i).length <= 100000000) ->
 (∀ h', zme h h' id (LKs.on L (inn t a)) -> Q (.tup []) h') -> C g [.ptr id 0 0, .agg (K.cells t a)] hh Q
def zls (K : DK T Ad) (inn : T -> Ad -> LKs) (k : Nat) (y : AVal) (P : List (T × Ad)) : LKs := (LKs.one k (y, P.map K.cs)).add (LKs.sum P fun p => inn p.1 p.2)
def PutG (K : DK T Ad) (inn : T -> Ad -> LKs) (k : Nat) (C : CSem) (g : Nat) : Prop := ∀ (h hh : za) (id : Nat) (L : Nat -> List AVal) (y : AVal) (P : List (T × Ad)) (R : List (List AVal)) (Q : zQ), zme h hh id L -> SlX h K.n y (P.map K.cs) R -> (∀ p ∈ P, K.at_ h p.1 p.2) -> P.length <= 100000000 -> (∀ i, (L i).length + (zls K inn k y P i).length <= 100000000) ->
 (∀ h', zme h h' id (LKs.on L (zls K inn k y P)) -> Q (.tup []) h') -> C g [.ptr id 0 0, y] hh Q
variable {K : DK T Ad} {inn : T -> Ad -> LKs}
theorem addL_le {K : DK T Ad} {inn : T -> Ad -> LKs} {k : Nat} {y : AVal} {P : List (T × Ad)} {j : Nat} {p : T × Ad} (hp : P[j]? = some p) (i : Nat) : ((LKs.one k (y, P.map K.cs)).add (LKs.sum (P.take j) fun p => inn p.1 p.2) i).length + (inn p.1 p.2 i).length <= (zls K inn k y P i).length := by
 have := LKs.zv8 (f := fun p : T × Ad => inn p.1 p.2) hp i
 simp only [zls, LKs.add, List.length_append]
 omega
theorem zwf {k f g : Nat} (hk : k < 23) (s1 : OneG K inn C f) (i : ∀ (v0 v1 : AVal) (h : za) (Q : zQ), putD C k K.n f v0 v1 h (dn Q) -> C g [v0, v1] h Q) : PutG K inn k C g := by
 intro h hh id L y P R Q hb hy ha hP hl hq
 refine i _ _ _ _ ?_
 have hl1 : (L k).length <= 100000000 := by have := hl k; omega
 refine zq1 hk hb hy.zm hl1 fun h1 hb1 => ?_
 have e0 : upf L k (L k ++ [y]) = LKs.on L (LKs.one k (y, P.map K.cs)) := LKs.on_one L k (y, P.map K.cs)
 rw [e0] at hb1
 refine zd.intro (fun n vs hh => ∃ j : Nat, j + n = P.length ∧ vs = [.int .i64 (j : Int)] ∧ zme h hh id (LKs.on L ((LKs.one k (y, P.map K.cs)).add (LKs.sum (P.take j) fun p => inn p.1 p.2)))) P.length ?_ ⟨0, by simp, rfl, by
  have : LKs.on L ((LKs.one k (y, P.map K.cs)).add (LKs.sum (P.take 0) fun p => inn p.1 p.2)) = LKs.on L (LKs.one k (y, P.map K.cs)) := by funext i; simp [LKs.on, LKs.add, LKs.sum]
  rw [this]; exact hb1⟩
 rintro Y n vs h2 ⟨j, hj, rfl, hb2⟩ hY
 have hyy := hy.mono hb2.le
 have hly := hyy.zj
 rw [List.length_map] at hly
 simp -dsimp only [putD.l2, putD.k1, hly, V.zmc, B.zi]
 refine B.ze (fun hc => ?_) (fun hc => ?_)
 ·have hjl : j < P.length := by simpa using hc
  obtain ⟨p, hp⟩ := zdz hjl
  have ea := slX_el (K := K) hyy (fun q hq => K.mono hb2.le (ha q hq)) hp
  simp -dsimp only [ea.idx, ea.ldn, B.zi, B.zk3]
  refine s1 h h2 id _ p.1 p.2 _ hb2 (ha p (List.mem_of_getElem? hp)) (fun i => ?_) fun h3 hb3 => ?_
  ·have h1 := hl i
   have h2 := addL_le (K := K) (inn := inn) (k := k) (y := y) hp i
   simp only [LKs.on, List.length_append, List.length_map] at h2 ⊢
   omega
  simp -dsimp only [add1 (show j < 4611686018427387904 by omega), B.zi]
  refine hY (P.length - (j + 1)) _ _ (by omega) ⟨j + 1, by omega, rfl, ?_⟩
  rw [LKs.sum_take hp]
  rw [LKs.on_on] at hb3
  have : ((LKs.one k (y, P.map K.cs)).add (LKs.sum (P.take j) fun p => inn p.1 p.2)).add (inn p.1 p.2) = (LKs.one k (y, P.map K.cs)).add ((LKs.sum (P.take j) fun p => inn p.1 p.2).add (inn p.1 p.2)) := by funext i; simp [LKs.add]
  rw [this] at hb3
  exact hb3
 ·have hjl : j = P.length := by
   have : ¬ (j : Int) < P.length := by simpa using hc
   omega
  rw [hjl, List.take_length] at hb2
  exact zk (hq h2 hb2)
structure Fits (b : BagK) (D : LKs) : Prop where
 none : ∀ i, i < 23 -> b.full i = false -> D i = []
 n_le : ∀ i, (D i).length <= 100000000
 zmi : ∀ i, i < 23 -> ∀ q ∈ D i, q.2.length <= b.lim i
def allL (K : DK T Ad) (inn : T -> Ad -> LKs) (k : Nat) (ls : List (AVal × List (T × Ad))) : LKs := LKs.sum ls fun p => zls K inn k p.1 p.2
def zr0 (K : DK T Ad) (inn : T -> Ad -> LKs) (k : Nat) (b : BagK) (C : CSem) (g : Nat) : Prop := ∀ (ls : List (AVal × List (T × Ad))) (x : AVal) (W : List (List AVal)) (h0 h : za) (Q : zQ), SlX h0 1 x (ls.map fun p => [p.1]) W -> Owns h0 h (allOb K ls) -> (∀ p ∈ ls, ∀ q ∈ p.2, K.ok q.1) -> ls.length <= 100000 -> (∀ p ∈ ls, p.2.length <= 100000000) -> Fits b (allL K inn k ls) ->
 (∀ h', h0.le h' -> Q (.bool true) h') -> C g [x] h Q
theorem listOb_perm {b : BagK} {k : Nat} (hk : k < 23) (he : b.es k = K.n) (hinn : ∀ t a, (K.obs false t a).Perm (zjh b (inn t a) 0 23)) (y : AVal) (P : List (T × Ad)) : (Ob.sl K.n y (P.map K.cs) [] :: K.os false P).Perm (zjh b (zls K inn k y P) 0 23) := by
 refine List.Perm.trans ?_ (zvs b _ _ _ _).symm
 rw [zvr b hk, he]
 refine List.Perm.append (l₁ := [_]) (List.Perm.refl _) ?_
 refine List.Perm.trans ?_ (bagOb_sum b _ _).symm
 induction P with
 | nil => exact List.Perm.refl _
 | cons p P ih => rw [List.flatMap_cons, List.flatMap_cons]; exact (hinn _ _).append ih
theorem allG_perm {b : BagK} {k : Nat} (hk : k < 23) (he : b.es k = K.n) (hinn : ∀ t a, (K.obs false t a).Perm (zjh b (inn t a) 0 23)) (ls : List (AVal × List (T × Ad))) : (allOb K ls).Perm (zjh b (allL K inn k ls) 0 23) := by
 refine List.Perm.trans ?_ (bagOb_sum b _ _).symm
 unfold allOb
 induction ls with
 | nil => exact List.Perm.refl _
 | cons p ls ih => rw [List.flatMap_cons, List.flatMap_cons]; exact (listOb_perm hk he hinn p.1 p.2).append ih
theorem apartG_of {b : BagK} {k fu fb : Nat} (hk : k < 23) (he : b.es k = K.n) (hinn : ∀ t a, (K.obs false t a).Perm (zjh b (inn t a) 0 23)) (s1 : PutG K inn k C fu) (s3 : zta C b fb) {g : Nat} (i : ∀ (v0 : AVal) (h : za) (Q : zQ), zpe C fu fb v0 h (dn Q) -> C g [v0] h Q) : zr0 K inn k b C g := by
 intro ls x W h0 h Q hx ho hok hn hP hf hq
 refine i _ _ _ ?_
 simp -dsimp [zpe]
 intro id hid
 refine zd.intro (fun n vs hh => ∃ j : Nat, j + n = ls.length ∧ vs = [.int .i64 j] ∧ zme h hh id (LKs.on (fun _ => []) (allL K inn k (ls.take j)))) ls.length ?_ ⟨0, by simp, by simp, by
  have := zme.start hid
  have e : LKs.on (fun _ => []) (allL K inn k (ls.take 0)) = fun _ => [] := by funext i; simp [LKs.on, allL, LKs.sum]
  rw [e]; exact this⟩
 rintro Y n vs hh ⟨j, hj, rfl, hb⟩ hY
 have hxx := hx.mono (za.le_trans ho.le hb.le)
 have hlx := hxx.zj
 rw [List.length_map] at hlx
 simp -dsimp only [zpe.l2, zpe.k1, hlx, V.zmc, B.zi]
 refine B.ze (fun hc => ?_) (fun hc => ?_)
 ·have hjl : j < ls.length := by simpa using hc
  obtain ⟨p, hp⟩ := zdz hjl
  have hpm := List.mem_of_getElem? hp
  have hjk : j < (ls.map fun p => [p.1]).length := by simpa using hjl
  have hld : A.ldv hh (elp 1 x j 0) = some p.1 := hxx.cell (by rw [List.getElem?_map, hp]; rfl)
  simp -dsimp only [hxx.idxN hjk, hld, B.zi, B.zii]
  have hsl : SlX h K.n p.1 (p.2.map K.cs) [] := ho.is (.sl K.n p.1 (p.2.map K.cs) []) (List.mem_flatMap.2 ⟨p, hpm, by simp⟩)
  have hat : ∀ q ∈ p.2, K.at_ h q.1 q.2 := fun q hq => K.zv0 (b := false) (hok p hpm q hq) fun o hmo => ho.is o (List.mem_flatMap.2 ⟨p, hpm, List.mem_cons_of_mem _ (List.mem_flatMap.2 ⟨q, hq, hmo⟩)⟩)
  refine s1 h hh id _ p.1 p.2 [] _ hb hsl hat (hP p hpm) (fun i => ?_) fun h3 hb3 => ?_
  ·have h1 := LKs.zv8 (f := fun p : AVal × List (T × Ad) => zls K inn k p.1 p.2) hp i
   have h2 := hf.n_le i
   simp only [LKs.on, allL, List.nil_append, List.length_map] at h1 h2 ⊢
   omega
  ·simp -dsimp only [add1 (show j < 4611686018427387904 by omega), B.zi]
   refine hY (n - 1) _ _ (by omega) ⟨j + 1, by omega, rfl, ?_⟩
   rw [LKs.on_on] at hb3
   have : allL K inn k (ls.take (j + 1)) = (allL K inn k (ls.take j)).add (zls K inn k p.1 p.2) := LKs.sum_take hp
   rw [this]
   exact hb3
 ·have hjl : j = ls.length := by
   have : ¬ (j : Int) < ls.length := by simpa using hc
   omega
  rw [hjl, List.take_length] at hb
  obtain ⟨xs, ob⟩ := hb
  have hp := allG_perm hk he hinn ls
  obtain ⟨q1, q2⟩ := (((ho.perm hp).join ob).perm List.perm_append_comm).out
  obtain ⟨id', e, hbx⟩ := q1.zgr 23 Objs.getL
  cases e
  refine s3 id (allL K inn k ls) xs _ hh _ ⟨hbx, fun i hi => ?_, hf.none, fun i hi => hf.n_le i, hf.zmi⟩ q2 fun h' hle => zk (hq h' (za.le_trans q1.le hle))
  have := q1.slAt i (Objs.getA hi)
  have e : (LKs.on (fun _ => []) (allL K inn k ls) i).map sing = (allL K inn k ls i).map fun q => [q.1] := by
   simp only [LKs.on, List.nil_append, List.map_map]; rfl
  rw [e] at this; exact this
end
end Go.Ab
set_option maxRecDepth 100000
namespace Go.Ab
variable {C : CSem} {N : zN}
namespace LKs
def cap (D : LKs) (c : Nat -> Nat) : Prop := ∀ i, ∀ q ∈ D i, q.2.length <= c i
def cnt (D : LKs) (c : Nat) : Prop := ∀ i, (D i).length <= c
def sup (D : LKs) (S : Nat -> Bool) : Prop := ∀ i, S i = false -> D i = []
theorem zso {k : Nat} {c : Nat -> Nat} {q : AVal × List (List AVal)} (h : q.2.length <= c k) : (one k q).cap c := fun i r hr => by
 unfold one at hr
 split at hr
 ·rename_i e
  subst e
  rw [List.mem_singleton.1 hr]; exact h
 ·cases hr
theorem cap_add {D E : LKs} {c : Nat -> Nat} (h1 : D.cap c) (h2 : E.cap c) : (D.add E).cap c := fun i r hr => by
 rcases List.mem_append.1 hr with h | h
 ·exact h1 i r h
 ·exact h2 i r h
theorem cap_sum {α : Type} {l : List α} {f : α -> LKs} {c : Nat -> Nat} (h : ∀ a ∈ l, (f a).cap c) : (sum l f).cap c := fun i r hr => by
 obtain ⟨a, ha, hr⟩ := List.mem_flatMap.1 hr
 exact h a ha i r hr
theorem fits_of {b : BagK} {D : LKs} {n : Nat} (h1 : D.cap b.lim) (h2 : D.cnt n) (hn : n <= 100000000) (h3 : D.sup b.full) : Fits b D := ⟨fun i _ e => h3 i e, fun i => Nat.le_trans (h2 i) hn, fun i _ q hq => h1 i q hq⟩
theorem zsn (k : Nat) (q : AVal × List (List AVal)) : (one k q).cnt 1 := fun i => by
 unfold one; split <;> simp
theorem cnt_add {D E : LKs} {c d : Nat} (h1 : D.cnt c) (h2 : E.cnt d) : (D.add E).cnt (c + d) := fun i => by
 have := h1 i
 have := h2 i
 simp only [add, List.length_append]; omega
theorem cnt_sum {α : Type} {l : List α} {f : α -> LKs} {c : Nat} (h : ∀ a ∈ l, (f a).cnt c) : (sum l f).cnt (l.length * c) := fun i => by
 induction l with
 | nil => simp [sum]
 | cons a l ih =>
  have h1 := ih fun b hb => h b (List.mem_cons_of_mem _ hb)
  have h2 := h a (List.mem_cons_self ..) i
  simp only [sum, List.flatMap_cons, List.length_append, List.length_cons, Nat.add_mul] at h1 ⊢
  omega
theorem cnt_le {D : LKs} {c d : Nat} (h : D.cnt c) (hd : c <= d) : D.cnt d := fun i => Nat.le_trans (h i) hd
theorem zr1 {k : Nat} {q : AVal × List (List AVal)} {S : Nat -> Bool} (h : S k = true) : (one k q).sup S := fun i hi => by
 unfold one
 rw [if_neg]
 intro e; subst e; rw [h] at hi; cases hi
theorem sup_add {D E : LKs} {S : Nat -> Bool} (h1 : D.sup S) (h2 : E.sup S) : (D.add E).sup S := fun i hi => by
 show D i ++ E i = []
 rw [h1 i hi, h2 i hi]; rfl
theorem sup_sum {α : Type} {l : List α} {f : α -> LKs} {S : Nat -> Bool} (h : ∀ a ∈ l, (f a).sup S) : (sum l f).sup S := fun i hi => by
 show l.flatMap _ = []
 rw [List.flatMap_eq_nil_iff]
 exact fun a ha => h a ha i hi
end LKs
theorem two_puts {k j f g : Nat} (s1 : zji C k f) (s2 : zji C j g) {h hh : za} {id : Nat} {L : Nat -> List AVal} {p q : AVal × List (List AVal)} {K : zQ} (hb : zme h hh id L) (c1 : p.1.zm = true) (c2 : q.1.zm = true)
  (hl : ∀ i, (L i).length + (((LKs.one k p).add (LKs.one j q)) i).length <= 100000000) (hq : ∀ h', zme h h' id (LKs.on L ((LKs.one k p).add (LKs.one j q))) -> K (.tup []) h') :
  B.call C f [.ptr id 0 0, p.1] hh fun _ h => B.call C g [.ptr id 0 0, q.1] h fun _ h => K (.tup []) h := by
 refine s1 h hh id L _ _ hb c1 (by have := hl k; omega) fun h1 hb1 => ?_
 rw [LKs.on_one L k p] at hb1
 refine s2 h h1 id _ _ _ hb1 c2 ?_ fun h2 hb2 => ?_
 ·have := hl j
  simp only [LKs.add, LKs.on, List.length_append, List.length_map] at this ⊢
  omega
 rw [LKs.on_one _ j q, LKs.on_on] at hb2
 exact hq h2 hb2
def zmn : DK zdk (AVal × AVal) where
 n := 7
 bytes := 96
 z := [.int .i64 0, .int .i64 0, .int .i64 0, .str [], .int .u8 0, .nils, .nils]
 pos := by omega
 small := by omega
 zlen := rfl
 cells t a := t.cs a.1 a.2
 len _ _ := rfl
 at_ h t a := SlX h 6 a.1 (t.Lots.map Lot.cs) [] ∧ SlX h 3 a.2 (t.Uses.map Use.cs) []
 mono hle ha := ⟨ha.1.mono hle, ha.2.mono hle⟩
 ok _ := True
 at_ok _ := trivial
 obs b t a := TellO t a.1 a.2
 zv0 {b h t a} hk ha := ⟨ha (.sl 6 a.1 (t.Lots.map Lot.cs) []) (by simp), ha (.sl 3 a.2 (t.Uses.map Use.cs) []) (by simp)⟩
def zhz (t : zdk) (a : AVal × AVal) : LKs := (LKs.one 6 (a.1, t.Lots.map Lot.cs)).add (LKs.one 8 (a.2, t.Uses.map Use.cs))
theorem zc7.spg (i : zc7.Imp C N) (s1 : zji C 6 (N 130)) (s2 : zji C 8 (N 131)) : OneG zmn zhz C (N 105) := by
 intro h hh id L t a Q hb ha hl hq
 obtain ⟨a1, a2⟩ := ha
 have c1 := a1.zm
 have c2 := a2.zm
 apply i
 simp -dsimp [zmn, c1, c2]
 exact two_puts s1 s2 (p := (a.1, t.Lots.map Lot.cs)) (q := (a.2, t.Uses.map Use.cs)) hb c1 c2 hl fun h2 hb2 => zk (hq h2 hb2)
def zoa (t : Row) (a : AVal × AVal) : LKs := (LKs.one 4 (a.1, t.Key.map bc)).add (LKs.one 4 (a.2, t.Value.map bc))
theorem zdw.spg (i : zdw.Imp C N) (s1 : zji C 4 (N 63)) : OneG rowK zoa C (N 315) := by
 intro h hh id L t a Q hb ha hl hq
 obtain ⟨a1, a2⟩ : Bs h a.1 t.Key ∧ Bs h a.2 t.Value := ha
 have c1 := a1.zm
 have c2 := a2.zm
 apply i
 simp -dsimp [rowK, c1, c2]
 exact two_puts s1 s1 (p := (a.1, t.Key.map bc)) (q := (a.2, t.Value.map bc)) hb c1 c2 hl fun h2 hb2 => zk (hq h2 hb2)
theorem zbr.spg (i : zbr.Imp C N) (s1 : OneG zmn zhz C (N 105)) : PutG zmn zhz 13 C (N 76) := zwf (by omega) s1 i
theorem zbz.spg (i : zbz.Imp C N) (s1 : OneG rowK zoa C (N 315)) : PutG rowK zoa 15 C (N 312) := zwf (by omega) s1 i
end Go.Ab
set_option maxRecDepth 100000
namespace Go.Ab
variable {C : CSem} {N : zN}
theorem apartK_spec {b : BagK} {k es fp fa : Nat} (hk : k < 23) (hf : ∀ i, b.full i = false -> i ≠ k) (hone : ∀ Lk : LK, zjh b (fun i => if i = k then Lk else []) 0 23 = Lk.map (obK es)) (hlim : 100000000 <= b.lim k) (s1 : zji C k fp) (s3 : zta C b fa)
  {t : LL} {h0 h : za} {Q : zQ} (ht : t.ok h0) (ho : Owns h0 h (t.obs es)) (hq : ∀ h', h0.le h' -> Q (.bool true) h') : zpe C fp fa t.x h Q := by
 have hn := ht.n_le
 try simp -dsimp [zpe]
 intro id hid
 refine zd.intro (fun n vs hh => ∃ j : Nat, j + n = t.n ∧ vs = [.int .i64 j] ∧ zme h hh id (upf (fun _ => []) k ((List.range j).map t.xs))) t.n ?_ ⟨0, by simp, by simp, by
  have := zme.start hid
  rw [show upf (fun _ => ([] : List AVal)) k ((List.range 0).map t.xs) = fun _ => [] from zqw ..]
  exact this⟩
 rintro Y n vs hh ⟨j, hj, rfl, hb⟩ hY
 have hx := ht.is.mono (za.le_trans ho.le hb.le)
 simp -dsimp [zkj hx]
 refine B.ze (fun h1 => ?_) (fun h1 => ?_) <;> simp at h1
 ·have hc : (t.xs j).zm = true := (ho.slAt j (Objs.get h1)).zm
  simp -dsimp [zgm hx h1, zjp hx h1]
  refine s1 h hh id _ _ _ hb hc (by rw [zd5]; simp; omega) fun h' hb' => ?_
  simp -dsimp [zf8 (n := j) (by omega)]
  refine hY (n - 1) _ _ (by omega) ⟨j + 1, by omega, by simp, ?_⟩
  rw [zd5, zpk] at hb'
  rw [List.range_succ, List.map_append]; exact hb'
 ·have : j = t.n := by omega
  subst this
  let Lk : LK := (List.range t.n).map fun j => (t.xs j, t.D j)
  have hc : Owns h0 h (Lk.map (obK es)) := by
   have ho' : Owns h0 h (Objs es t.n t.xs t.D t.R ++ []) := by rw [List.append_nil]; exact ho
   have := ho'.cutR
   rw [List.append_nil] at this
   have e : Objs es t.n t.xs t.D (fun _ => []) = Lk.map (obK es) := by
    show (List.range t.n).map _ = ((List.range t.n).map _).map _
    rw [List.map_map]; rfl
   rw [<- e]; exact this
  obtain ⟨xs, ob⟩ := hb
  rw [<- hone] at hc
  obtain ⟨q1, q2⟩ := ((hc.join ob).perm List.perm_append_comm).out
  obtain ⟨id', e, hbx⟩ := q1.zgr 23 Objs.getL
  cases e
  refine s3 id (fun i => if i = k then Lk else []) xs _ hh Q ⟨hbx, fun i hi => ?_, fun i hi hfi => ?_, fun i hi => ?_, fun i hi q hq => ?_⟩ q2 fun h' hle => hq h' (za.le_trans q1.le hle)
  ·have := q1.slAt i (Objs.getA hi)
   have e : (upf (fun _ => ([] : List AVal)) k ((List.range t.n).map t.xs) i).map sing = ((fun i => if i = k then Lk else []) i : LK).map fun q => [q.1] := by
    show (if i = k then (List.range t.n).map t.xs else []).map sing = (if i = k then Lk else []).map fun q => [q.1]
    split
    ·rw [List.map_map]
     show _ = ((List.range t.n).map _).map _
     rw [List.map_map]; rfl
    ·rfl
   rw [e] at this; exact this
  ·have := hf i hfi
   show (if i = k then Lk else []) = []
   rw [if_neg this]
  ·show (if i = k then Lk else []).length <= _
   split
   ·show ((List.range t.n).map _).length <= _
    rw [List.length_map, List.length_range]; omega
   ·simp
  ·have hq : q ∈ (if i = k then Lk else []) := hq
   by_cases e : i = k
   ·rw [if_pos e] at hq
    obtain ⟨j, hj, rfl⟩ := List.mem_map.1 hq
    have := ht.zmi j (by simpa using hj)
    rw [e]
    show (t.D j).length <= _
    omega
   ·rw [if_neg e] at hq; cases hq
end Go.Ab
set_option maxRecDepth 100000
namespace Go.Ab
variable {C : CSem} {N : zN}
theorem zhm.toL {es g : Nat} (s : zhm C es g) : zi9 C es 100000000 g := fun t h0 h Q ht ho hq => s t h0 h Q ⟨ht.is, ht.n_le, ht.zmi⟩ ho hq
theorem zmz {b : BagK} {i g : Nat} (h : b.full i = false) (s : zcm C g) : zg0 C b i g := ⟨fun e => (by rw [h] at e; cases e), fun _ => s⟩
theorem kind1 {b : BagK} {i g : Nat} (h : b.full i = true) (s : zi9 C (b.es i) (b.lim i) g) : zg0 C b i g := ⟨fun _ => s, fun e => (by rw [h] at e; cases e)⟩
def bagA : BagK := ⟨fun i => if i = 6 then 6 else if i = 8 then 3 else if i = 13 then 7 else if i = 15 then 2 else 1, fun i => if i = 4 then 140737488351232 else 100000000, fun i => decide (i = 4) || decide (i = 6) || decide (i = 8) || decide (i = 13) || decide (i = 15)⟩
theorem zd0.spa (i : zd0.Imp C N) (f0 : zcm C (N 80)) (f1 : zcm C (N 81)) (f2 : zcm C (N 82)) (f3 : zcm C (N 83)) (f4 : zi9 C 1 140737488351232 (N 84)) (f5 : zcm C (N 85)) (f6 : zhm C 6 (N 86)) (f7 : zcm C (N 87)) (f8 : zhm C 3 (N 88)) (f9 : zcm C (N 89)) (f10 : zcm C (N 90)) (f11 : zcm C (N 91)) (f12 : zcm C (N 92)) (f13 : zhm C 7 (N 93)) (f14 : zcm C (N 94)) (f15 : zi9 C 2 100000000 (N 95)) (f16 : zcm C (N 96)) (f17 : zcm C (N 97)) (f18 : zcm C (N 98)) (f19 : zcm C (N 99)) (f20 : zcm C (N 100)) (f21 : zcm C (N 101)) (f22 : zcm C (N 102)) : zta C bagA (N 62) :=
 bag_apartK i bagA (zmz rfl f0) (zmz rfl f1) (zmz rfl f2) (zmz rfl f3) (kind1 rfl f4) (zmz rfl f5) (kind1 rfl f6.toL) (zmz rfl f7) (kind1 rfl f8.toL) (zmz rfl f9) (zmz rfl f10) (zmz rfl f11) (zmz rfl f12) (kind1 rfl f13.toL) (zmz rfl f14) (kind1 rfl f15) (zmz rfl f16) (zmz rfl f17) (zmz rfl f18) (zmz rfl f19) (zmz rfl f20) (zmz rfl f21) (zmz rfl f22)
theorem pair_perm (b : BagK) {k j : Nat} (hk : k < 23) (hj : j < 23) (p q : AVal × List (List AVal)) : [obK (b.es k) p, obK (b.es j) q].Perm (zjh b ((LKs.one k p).add (LKs.one j q)) 0 23) := by
 refine List.Perm.trans ?_ (zvs b _ _ _ _).symm
 rw [zvr b hk, zvr b hj]
 exact List.Perm.refl _
theorem zb4.spg (i : zb4.Imp C N) (s1 : PutG zmn zhz 13 C (N 76)) (s3 : zta C bagA (N 62)) : zr0 zmn zhz 13 bagA C (N 43) :=
 apartG_of (by omega) rfl (fun t a => pair_perm bagA (k := 6) (j := 8) (by omega) (by omega) (a.1, t.Lots.map Lot.cs) (a.2, t.Uses.map Use.cs)) s1 s3 i
theorem zcj.spg (i : zcj.Imp C N) (s1 : PutG rowK zoa 15 C (N 312)) (s3 : zta C bagA (N 62)) : zr0 rowK zoa 15 bagA C (N 307) :=
 apartG_of (by omega) rfl (fun t a => pair_perm bagA (k := 4) (j := 4) (by omega) (by omega) (a.1, t.Key.map bc) (a.2, t.Value.map bc)) s1 s3 i
theorem one4 (Lk : LK) : zjh bagA (fun i => if i = 4 then Lk else []) 0 23 = Lk.map (obK 1) := by
 have : List.range' 0 23 = [0, 1, 2, 3, 4, 5, 6, 7, 8, 9, 10, 11, 12, 13, 14, 15, 16, 17, 18, 19, 20, 21, 22] := rfl
 unfold zjh
 rw [this]
 simp [bagA]
theorem zb5.spg (i : zb5.Imp C N) (s1 : zji C 4 (N 63)) (s2 : zta C bagA (N 62)) : zhm C 1 (N 35) := fun t h0 h Q ht ho hq => i t.x h Q (apartK_spec (k := 4) (by omega) (fun i h e => by subst e; cases h) one4 (by decide) s1 s2 ht ho fun h' hle => zk (hq h' hle))
end Go.Ab
namespace Go.Ab
abbrev Ents (K T : Type) := List (K × T × Nat)
section
variable {K T : Type} [DecidableEq K]
end
section
variable {kd : KD} {K T : Type} [DecidableEq K] {κ : K -> AVal} {v : T -> AVal}
end
section
variable {h0 h : za} {l : List Ob} {kd : KD} {K T : Type} [DecidableEq K] {κ : K -> AVal} {v : T -> AVal}
end
end Go.Ab
namespace Go.Ab
variable {C : CSem} {N : zN}
theorem ones_apart {T Ad : Type} {K : DK T Ad} {inn : T -> Ad -> LKs} {k g n : Nat} {b : BagK} (hn : K.n = n) (s : zr0 K inn k b C g) {h0 h : za} {t u : T} {a c : Ad} {Q : zQ} (ho : Owns h0 h (K.obs false t a ++ K.obs false u c)) (ht : K.ok t) (hu : K.ok u)
  (hf : ∀ x y, Fits b (allL K inn k [(x, [(t, a)]), (y, [(u, c)])])) {i1 i2 i3 : Nat} (f1 : h i1 = none) (f2 : upd h i1 (zej (K.cells t a)) i2 = none) (f3 : upd (upd h i1 (zej (K.cells t a))) i2 (zej (K.cells u c)) i3 = none) (hq : ∀ h', h0.le h' -> Q (.bool true) h') :
  C g [.sl i3 0 0 2 1 2] (upd (upd (upd h i1 (zej (K.cells t a))) i2 (zej (K.cells u c))) i3 (zej [.sl i1 0 0 1 n 1, .sl i2 0 0 1 n 1])) Q := by
 subst hn
 have o1 := ho.zl6 f1 (n := 1) (cp := 1) (es := K.n) (cs := K.cells t a) (L := [K.cells t a]) (R := []) (fun p hp => by rw [List.append_nil] at hp; rw [List.mem_singleton.1 hp]; exact K.len t a) rfl (by simp) (by simp)
 have o2 := o1.zl6 f2 (n := 1) (cp := 1) (es := K.n) (cs := K.cells u c) (L := [K.cells u c]) (R := []) (fun p hp => by rw [List.append_nil] at hp; rw [List.mem_singleton.1 hp]; exact K.len u c) rfl (by simp) (by simp)
 have o3 := o2.zl6 f3 (n := 2) (cp := 2) (es := 1) (cs := [.sl i1 0 0 1 K.n 1, .sl i2 0 0 1 K.n 1]) (L := [[.sl i1 0 0 1 K.n 1], [.sl i2 0 0 1 K.n 1]]) (R := []) (by simp) rfl (by simp) rfl
 obtain ⟨q1, q2⟩ := (o3.perm List.perm_append_comm).out
 have q2 : Owns _ _ (allOb K [(.sl i1 0 0 1 K.n 1, [(t, a)]), (.sl i2 0 0 1 K.n 1, [(u, c)])]) := q2.perm (by
  simp only [allOb, DK.os, List.flatMap_cons, List.flatMap_nil, List.append_nil, List.map_cons, List.map_nil, List.cons_append]
  generalize K.obs false t a = p
  generalize K.obs false u c = q
  have e1 : (p ++ q ++ [Ob.sl K.n (.sl i1 0 0 1 K.n 1) [K.cells t a] []] ++ [Ob.sl K.n (.sl i2 0 0 1 K.n 1) [K.cells u c] []]).Perm ([Ob.sl K.n (.sl i1 0 0 1 K.n 1) [K.cells t a] []] ++ (p ++ ([Ob.sl K.n (.sl i2 0 0 1 K.n 1) [K.cells u c] []] ++ q))) := by
   refine List.Perm.trans (List.Perm.append_right _ List.perm_append_comm) ?_
   rw [List.append_assoc, List.append_assoc]
   exact List.Perm.append_left _ (List.Perm.append_left _ List.perm_append_comm)
  exact e1)
 refine s _ _ [] _ _ Q (q1.slAt 0 rfl) q2 (fun p hp q hq => ?_) (by simp) (fun p hp => ?_) (hf _ _) fun h' hle => hq h' (za.le_trans q1.le hle)
 ·simp only [List.mem_cons, List.not_mem_nil, or_false] at hp
  rcases hp with rfl | rfl
  ·rw [List.mem_singleton.1 hq]; exact ht
  ·rw [List.mem_singleton.1 hq]; exact hu
 ·simp only [List.mem_cons, List.not_mem_nil, or_false] at hp
  rcases hp with rfl | rfl <;> simp
end Go.Ab
namespace Go.Ab
theorem zla {s r : Int} : ∀ (l : List Row) (b : List UInt8) (n : Nat) (w : Bool), zgk s r l b n w = zgk s r (l.filter (zi0 s r)) b n w
 | [], _, _, _ => rfl
 | x :: l, b, n, w => by
  rw [zgk]
  by_cases h : zi0 s r x = true
  ·rw [if_pos h, List.filter_cons_of_pos h, zgk, if_pos h, zla l]
  ·rw [if_neg h, List.filter_cons_of_neg h, zla l]
theorem zrw {s r : Int} : ∀ (l : List Row) (b : List UInt8) (n : Nat) (w : Bool), (∀ x ∈ l, zi0 s r x = true) -> (zgk s r l b n w).1 = b ++ l.flatMap Row.Value
 | [], b, _, _, _ => by simp [zgk]
 | x :: l, b, n, w, h => by
  rw [zgk, if_pos (h x (by simp)), zrw l _ _ _ fun y hy => h y (by simp [hy])]
  simp
theorem zvu {s r : Int} : ∀ (l : List Row) (b : List UInt8) (n : Nat) (w : Bool), (∀ x ∈ l, zi0 s r x = true) -> (zgk s r l b n w).2 = true ->
  w = true ∧ l = (List.range' n l.length).map (zfi s r (b ++ l.flatMap Row.Value)) ∧ (l ≠ [] -> b.length = n * 180 ∧ ze9 (b ++ l.flatMap Row.Value) = n + l.length)
 | [], b, n, w, _, h => ⟨h, rfl, fun e => absurd rfl e⟩
 | x :: l, b, n, w, hm, h => by
  rw [zgk, if_pos (hm x (by simp))] at h
  obtain ⟨h1, h2, h3⟩ := zvu l _ _ _ (fun y hy => hm y (by simp [hy])) h
  rw [Bool.and_eq_true] at h1
  obtain ⟨hw, hx⟩ := h1
  unfold zv5 at hx
  simp only [Bool.and_eq_true, decide_eq_true_eq] at hx
  obtain ⟨⟨⟨x1, x2⟩, x3⟩, x4⟩ := hx
  have e : b ++ (x :: l).flatMap Row.Value = b ++ x.Value ++ l.flatMap Row.Value := by simp
  rw [e]
  have hp : zfi s r (b ++ x.Value ++ l.flatMap Row.Value) n = x := by
   unfold zfi zjb
   have ed : (b ++ x.Value ++ l.flatMap Row.Value).drop (180 * n) = x.Value ++ l.flatMap Row.Value := by
    rw [List.append_assoc, List.drop_append, List.drop_eq_nil_of_le (by omega), show 180 * n - b.length = 0 by omega]; rfl
   rw [ed]
   have et : (x.Value ++ l.flatMap Row.Value).take 180 = x.Value := by
    by_cases hl : l = []
    ·subst hl
     rw [List.flatMap_nil, List.append_nil]; exact List.take_of_length_le x4
    ·obtain ⟨g1, _⟩ := h3 hl
     rw [List.length_append] at g1
     rw [List.take_append, List.take_of_length_le (by omega), show 180 - x.Value.length = 0 by omega]; simp
   rw [et, <- x1]
  refine ⟨hw, ?_, fun _ => ⟨x2, ?_⟩⟩
  ·rw [List.length_cons, List.range'_succ, List.map_cons, hp, <- h2]
  ·by_cases hl : l = []
   ·subst hl
    unfold ze9
    simp
    omega
   ·obtain ⟨_, g2⟩ := h3 hl
    rw [g2, List.length_cons]
    omega
def zwe (s r : Int) (l : List Row) : zdk × Bool :=
 let b := (l.filter (zi0 s r)).flatMap Row.Value
 if keyP s r 0 = [] then (zhd, false) else if (zdd b).2.2 = 0 ∧ (zdd b).2.1 = b.length ∧ (zek s r (zdd b).1).1 = l.filter (zi0 s r) then ((zdd b).1, true) else (zhd, false)
theorem refAns_eq (s r : Int) (l : List Row) : zwe s r l = zef s r l := by
 unfold zwe zef
 by_cases hk : keyP s r 0 = []
 ·rw [if_pos hk, if_pos hk]
 rw [if_neg hk, if_neg hk, zla]
 have hkb : zgs s r 0 = false := by
  cases h : zgs s r 0 with
  | false => rfl
  | true => exact absurd (keyP_nil.2 h) hk
 have hm : ∀ x ∈ l.filter (zi0 s r), zi0 s r x = true := fun x hx => (List.mem_filter.1 hx).2
 generalize l.filter (zi0 s r) = m at *
 have hb := zrw m [] 0 true hm
 rw [List.nil_append] at hb
 unfold zs7
 rw [hb]
 generalize hB : m.flatMap Row.Value = b at *
 by_cases hc : (zdd b).2.2 = 0 ∧ (zdd b).2.1 = b.length
 rotate_left
 ·rw [if_neg (fun e => hc ⟨e.1, e.2.1⟩), if_neg (fun e => hc e.2)]
 obtain ⟨c1, c2⟩ := hc
 obtain ⟨t1, t2, t3, t4, t5⟩ := zv7 c1
 rw [c2, List.take_length] at t3
 have ea := zw7 (s := s) (r := r) (t := (zdd b).1) (by rw [t3]) hkb
 rw [t3] at ea
 have hpn : ze9 b <= 1000 := by have := zkd (zdd b).1; rw [t3] at this; exact this
 have key : (zek s r (zdd b).1).1 = m ↔ (zgk s r m [] 0 true).2 = true := by
  rw [ea]
  constructor
  ·intro e
   have := zpf (s := s) (r := r) hkb hpn (ze9 b) 0 [] (by omega)
   rw [<- List.range_eq_range', List.append_nil] at this
   rw [<- e]
   simp only [Nat.mul_zero, List.take_zero] at this
   rw [this]; rfl
  ·intro e
   obtain ⟨_, g2, g3⟩ := zvu m [] 0 true hm e
   rw [List.nil_append, hB] at g2 g3
   have hm0 : m ≠ [] := fun e => by
    rw [e] at hB
    have : b = [] := hB.symm
    rw [this] at c1
    exact tellGet_nil c1
   obtain ⟨_, g4⟩ := g3 hm0
   rw [List.range_eq_range', g4, Nat.zero_add]
   exact g2.symm
 by_cases hw : (zgk s r m [] 0 true).2 = true
 ·rw [if_pos ⟨c1, c2, key.2 hw⟩, if_pos ⟨hw, c1, c2⟩]
 ·rw [if_neg (fun e => hw (key.1 e.2.2)), if_neg (fun e => hw e.1)]
end Go.Ab
namespace Go.Ab
variable {C : CSem} {N : zN}
def zbm.Spec (C : CSem) (N : zN) : Prop := ∀ (s r : Int) (t : zdk) (x y : AVal) (h : za) (Q : zQ), zin h t x y -> t.Lots.length <= 100000000 -> t.Uses.length <= 100000000 ->
 (∀ x' P h', P.map (·.1) = (zek s r t).1 -> Df rowK h h' x' P -> Q (.tup [x', .int .i64 (zek s r t).2]) h') -> C (N 455) [.int .i64 s, .int .i64 r, .agg (t.cs x y)] h Q
theorem zbm.spec (i : zbm.Imp C N) (s1 : zbn.Spec C N) (s2 : zex.Spec C N) : zbm.Spec C N := by
 intro s r t x y h Q ht hl1 hl2 hq
 have cx := ht.lots.elim fun _ r => r.zm
 have cy := ht.uses.elim fun _ r => r.zm
 apply i
 simp -dsimp [cx, cy]
 refine s1 t x y h _ ht hl1 hl2 fun v h1 o1 => ?_
 simp -dsimp [- zbm.k1]
 refine s2 s r 0 h1 _ fun k0 h2 o2 hk => ?_
 have hsv : SlX h2 1 v ((zdc t).1.map bc) [] := (o1.slAt 0 rfl).mono o2.le
 have lk := (o2.slAt 0 rfl : SlX h2 1 k0 ((keyP s r 0).map bc) []).zj
 rw [List.length_map] at lk
 have bad : ∀ h', h.le h' -> zek s r t = ([], 2) -> dn Q (.tup [.nils, .int .i64 2]) h' := fun h' hle e => by
  rw [e] at hq
  exact zrp hle (hq .nils [] h rfl (by simpa [Df, DK.os] using (Owns.start h).nils rowK.n))
 have l12 := za.le_trans o1.le o2.le
 by_cases hkn : keyP s r 0 = []
 ·rw [hkn] at lk
  simp -dsimp [lk]
  exact bad h2 l12 (by unfold zek; rw [if_pos (.inr hkn)])
 have hk0 : ¬ ((keyP s r 0).length : Int) = 0 := by have := List.length_pos_iff.2 hkn; omega
 by_cases he : (zdc t).2 = 0
 rotate_left
 ·simp -dsimp [lk, hk0, hkn, he]
  exact bad h2 l12 (by unfold zek; rw [if_pos (.inl he)])
 simp -dsimp [lk, hk0, hkn, he, - zbm.k1, - zbm.l2]
 have hbl := zpl t
 have hans : zek s r t = ((List.range (ze9 (zdc t).1)).map (zfi s r (zdc t).1), 0) := by
  unfold zek
  rw [if_neg]
  rintro (e | e)
  ·exact e he
  ·exact hkn e
 rw [hans] at hq
 generalize hB : (zdc t).1 = b at *
 have hpn : ze9 b <= 1000 := by unfold ze9; omega
 have lv := hsv.zj
 rw [List.length_map] at lv
 refine zd.intro (fun n vs hh => ∃ (k : Nat) (out : AVal) (P : List (Row × (AVal × AVal))), k + n = ze9 b ∧ vs = [out, .int .i64 ((180 * k : Nat) : Int)] ∧ P.map (·.1) = (List.range k).map (zfi s r b) ∧ Df rowK h2 hh out P) (ze9 b) ?_ ⟨0, .nils, [], by simp, rfl, rfl, by simpa [Df, DK.os] using (Owns.start h2).nils rowK.n⟩
 rintro Y n vs hh ⟨k, out, P, hk2, rfl, eP, oP⟩ hY
 have hPl : P.length = k := by have := congrArg List.length eP; simpa using this
 have lo := (oP.slAt 0 rfl : SlX hh 2 out (P.map rowK.cs) []).zj
 rw [List.length_map, hPl] at lo
 simp -dsimp only [zbm.l2, zbm.k1, lv, V.zmc, B.zi]
 refine B.ze (fun hc => ?_) (fun hc => ?_)
 ·rw [decide_eq_true_eq] at hc
  have hc : 180 * k < b.length := by omega
  have hkp : k < ze9 b := zlj.2 hc
  have a180 : V.bin .add (.int .i64 ((180 * k : Nat) : Int)) (.int .i64 180) = some (.int .i64 ((180 * (k + 1) : Nat) : Int)) := by
   simp only [V.zep]
   rw [wrap_i64 (by omega) (by omega)]
   congr 2
  have w180 : IntKind.i64.wrap (((180 * k : Nat) : Int) + 180) = ((180 * (k + 1) : Nat) : Int) := by rw [wrap_i64 (by omega) (by omega)]; omega
  have hmin : min ((180 * (k + 1) : Nat) : Int) (b.length : Int) = ((min (180 * (k + 1)) b.length : Nat) : Int) := by omega
  obtain ⟨y1, R1, c1, c2, _⟩ := (hsv.mono oP.le).zh0 (by omega) (lo := 180 * k) (hi := min (180 * (k + 1)) b.length) (a := some (.int .i64 ((180 * k : Nat) : Int))) (b := some (.int .i64 ((min (180 * (k + 1)) b.length : Nat) : Int))) (.inr ⟨_, rfl⟩) (.inr ⟨_, rfl⟩) (by omega) (by omega)
  have hpc : (b.take (min (180 * (k + 1)) b.length)).drop (180 * k) = zjb b k := by
   unfold zjb
   rw [List.drop_take, List.take_eq_take_iff, List.length_drop]
   omega
  rw [hpc] at c2
  simp -dsimp only [lo, lv, a180, B.zi, V.min2_int, hmin, c1]
  refine s2 s r k hh _ fun kv h3 o3 _ => ?_
  have ck : kv.zm = true := (o3.slAt 0 rfl : SlX h3 1 kv ((keyP s r k).map bc) []).zm
  have o4 : Owns hh h3 (.sl 1 .sz [] [] :: [bOb false kv (keyP s r k)]) := (o3.sz 1).perm List.perm_append_comm
  have hpl : (zjb b k).length <= 180 := by unfold zjb; simp; omega
  refine o4.appW 0 rfl (c2.mono o3.le) (by omega) (by simp; omega) (by simp [maxLen]; omega) fun vv h5 o5 _ => ?_
  have o5 : Owns hh h5 (bOb false vv (zjb b k) :: [bOb false kv (keyP s r k)]) := o5
  have cv : vv.zm = true := (o5.slAt 0 rfl : SlX h5 1 vv ((zjb b k).map bc) []).zm
  have o6 : Owns hh h5 (rowK.obs false (zfi s r b k) (kv, vv)) := o5.perm (List.Perm.swap ..)
  have eb : A.bld [(0, none, kv), (1, none, vv)] [.nils, .nils] = some (.agg [kv, vv]) := by simp -dsimp [ck, cv]
  simp -dsimp only [eb, a180, B.zi]
  refine rowPush (b := (kv, vv)) oP o6 (by omega) fun out' h6 o7 => ?_
  refine hY (ze9 b - (k + 1)) _ _ (by omega) ⟨k + 1, out', P ++ [(zfi s r b k, (kv, vv))], by omega, by rw [w180], ?_, o7⟩
  rw [List.map_append, eP, List.range_succ, List.map_append]; rfl
 ·rw [decide_eq_false_iff_not] at hc
  have hc : k = ze9 b := by
   have : ¬ k < ze9 b := fun e => hc (by have := zlj.1 e; omega)
   omega
  subst hc
  exact zk (hq out P hh eP (Owns.back oP l12))
end Go.Ab
set_option maxRecDepth 100000
namespace Go.Ab
variable {C : CSem} {N : zN}
theorem tellEnd_len {t : zdk} {r : Rdr} {n : Nat} (h1 : t.Lots.length <= n) (h2 : t.Uses.length <= n) : (zg2 t r).1.Lots.length <= n ∧ (zg2 t r).1.Uses.length <= n := by
 unfold zg2
 split
 ·simp [zhd]
 ·exact ⟨h1, h2⟩
theorem zt7 (b : List UInt8) : (zdd b).1.Lots.length <= 65535 ∧ (zdd b).1.Uses.length <= 65535 := by
 rw [znw]
 refine tellEnd_len ?_ ?_
 ·unfold zgh
  split
  ·simp only [zhe]
   have h1 := zjn (rLot b) (rNum b 2 (rNum b 1 (zdy b (rNum b 2 (rNum b 8 (rNum b 2 ⟨0, false⟩).2).2).2).2).2).1.toNat (rNum b 2 (rNum b 1 (zdy b (rNum b 2 (rNum b 8 (rNum b 2 ⟨0, false⟩).2).2).2).2).2).2
   have h2 := zmg b (rNum b 1 (zdy b (rNum b 2 (rNum b 8 (rNum b 2 ⟨0, false⟩).2).2).2).2).2
   omega
  ·simp
 ·unfold zgh
  split
  ·simp only [zhe]
   refine Nat.le_trans (zjn _ _ _) ?_
   have h2 := zmg b (zdm (rLot b) (rNum b 2 (rNum b 1 (zdy b (rNum b 2 (rNum b 8 (rNum b 2 ⟨0, false⟩).2).2).2).2).2).1.toNat (rNum b 2 (rNum b 1 (zdy b (rNum b 2 (rNum b 8 (rNum b 2 ⟨0, false⟩).2).2).2).2).2).2).2
   omega
  ·simp
end Go.Ab
namespace Go.Ab
variable {C : CSem} {N : zN}
def zh.Spec (C : CSem) (N : zN) : Prop := ∀ (s r : Int) (x : AVal) (L : List Row) (h : za) (Q : zQ), Dl rowK h x L -> L.length <= 1000000 -> zj9 L <= 10000000 ->
 (∀ x' y' h', Owns h h' (TellO (zef s r L).1 x' y') -> Q (.tup [.agg ((zef s r L).1.cs x' y'), .bool (zef s r L).2]) h') -> C (N 456) [.int .i64 s, .int .i64 r, x] h Q
theorem zh.spec (i : zh.Imp C N) (s1 : zex.Spec C N) (s2 : zbe.Spec C N) (s3 : zbm.Spec C N) : zh.Spec C N := by
 intro s r x L h Q hx hl hv hq
 rw [<- refAns_eq] at hq
 apply i
 simp -dsimp only [zh.cps, zh.k11, zh.k10]
 refine s1 s r 0 h _ fun k0 h1 o1 _ => ?_
 have zero : ∀ h', h.le h' -> zwe s r L = (zhd, false) -> dn Q (.tup [.agg [.int .i64 0, .int .i64 0, .int .i64 0, .str [], .int .u8 0, .nils, .nils], .bool false]) h' := fun h' hle e => by
  rw [e] at hq
  exact zrp hle (hq .nils .nils h (((Owns.start h).nils 6).nils 3))
 have b0 : SlX h1 1 k0 ((keyP s r 0).map bc) [] := o1.slAt 0 rfl
 have l0 := b0.zj
 rw [List.length_map] at l0
 by_cases hkn : keyP s r 0 = []
 ·rw [hkn] at l0
  simp -dsimp [l0]
  exact zero h1 o1.le (by unfold zwe; simp only; rw [if_pos hkn])
 have hkb : zgs s r 0 = false := by
  cases hb : zgs s r 0 with
  | false => rfl
  | true => exact absurd (by unfold keyP; rw [hb]; rfl) hkn
 have k12 := zrg hkb
 rw [k12] at l0
 have hlx := hx.zj
 simp -dsimp [l0, - zh.l9]
 refine zd.intro (fun t vs hh => ∃ (k : Nat) (mine y : AVal) (M : List (Row × (AVal × AVal))), k + t = L.length ∧ vs = [mine, y, .int .i64 (k : Int)] ∧ M.map (·.1) = (L.take k).filter (zi0 s r) ∧ (∀ q ∈ M, rowK.at_ h q.1 q.2) ∧ Owns h1 hh [.sl 2 mine (M.map rowK.cs) [], .sl 1 y (((M.map (·.1)).flatMap Row.Value).map bc) []]) L.length ?_ ⟨0, .nils, .nils, [], by simp, rfl, by simp, by simp, ((Owns.start h1).nils 2).nils 1⟩
 rintro Y t vs hh ⟨k, mine, y, M, hkt, rfl, eM, hat, o⟩ hY
 have hle : h.le hh := za.le_trans o1.le o.le
 have hMl : M.length <= L.length := by
  have := congrArg List.length eM
  rw [List.length_map] at this
  have := List.length_filter_le (zi0 s r) (L.take k)
  rw [List.length_take] at this
  omega
 have hbl : ∀ j, (((L.take j).filter (zi0 s r)).flatMap Row.Value).length <= zj9 (L.take j) := fun j => by
  unfold zj9
  generalize L.take j = l
  induction l with
  | nil => simp
  | cons a l ih =>
   by_cases ha : zi0 s r a = true
   ·rw [List.filter_cons_of_pos ha]; simp only [List.flatMap_cons, List.length_append]; omega
   ·rw [List.filter_cons_of_neg ha]; simp only [List.flatMap_cons, List.length_append]; omega
 have hb1 := hbl k
 have hb2 := hbl (k + 1)
 have vle := zqv L k
 have vle1 := zqv L (k + 1)
 simp -dsimp only [zh.l9, zh.k8, hlx, V.zmc, B.zi]
 refine B.ze (fun hc => ?_) (fun hc => ?_)
 ·rw [decide_eq_true_eq] at hc
  have hc : k < L.length := by omega
  obtain ⟨w, hw⟩ := zdz hc
  obtain ⟨P0, R0, eP0, sx, at0⟩ := id hx
  obtain ⟨⟨kx, vx⟩, hq0⟩ : ∃ a, P0[k]? = some (w, a) := by
   rw [<- eP0, List.getElem?_map] at hw
   obtain ⟨q, h1, h2⟩ := Option.map_eq_some_iff.1 hw
   exact ⟨q.2, by rw [h1, <- h2]⟩
  obtain ⟨d1, d2⟩ : Bs h kx w.Key ∧ Bs h vx w.Value := at0 _ (List.mem_of_getElem? hq0)
  have ea : ∀ {h' : za}, h.le h' -> DEl rowK h' x k w (kx, vx) := fun hle => slX_el (sx.mono hle) (fun p hp => rowK.mono hle (at0 p hp)) hq0
  have e1 : V.idxS 2 x (.int .i64 (k : Int)) = some (elp 2 x k 0) := (ea hle).idx
  have e2 : V.fieldAddr 0 (elp 2 x k 0) = some (elp 2 x k 0) := (ea hle).fld 0 0
  have e3 : A.ldv hh (elp 2 x k 0) = some kx := (ea hle).ld 0 (by decide)
  have a1 := d1.mono hle
  have l1 := a1.zj
  have tk : (L.take (k + 1)).filter (zi0 s r) = if zi0 s r w = true then M.map (·.1) ++ [w] else M.map (·.1) := by
   rw [take_succ hw, List.filter_append, <- eM]
   by_cases hm : zi0 s r w = true
   ·rw [if_pos hm, List.filter_cons_of_pos hm]; rfl
   ·rw [if_neg hm, List.filter_cons_of_neg hm]; simp
  have a1k := add1 (show k < 4611686018427387904 by omega)
  have skip : zi0 s r w = false -> Y [mine, y, .int .i64 ((k + 1 : Nat) : Int)] hh := fun e => by
   rw [if_neg (by rw [e]; exact Bool.false_ne_true)] at tk
   exact hY (L.length - (k + 1)) _ _ (by omega) ⟨k + 1, mine, y, M, by omega, rfl, tk.symm, hat, o⟩
  by_cases h12 : w.Key.length = 12
  rotate_left
  ·have h12' : ¬ (w.Key.length : Int) = 12 := by omega
   simp -dsimp [e1, e2, e3, l1, l0, h12, h12', a1k, - V.zep]
   exact skip (by unfold zi0; rw [decide_eq_false h12]; rfl)
  have h12' : (w.Key.length : Int) = 12 := by omega
  obtain ⟨z0, S0, f1, f2, _⟩ := b0.zh0 (by omega) (lo := 0) (hi := 10) (a := none) (b := some (.int .i64 ((10 : Nat) : Int))) (.inl ⟨rfl, rfl⟩) (.inr ⟨_, rfl⟩) (by omega) (by omega)
  rw [List.drop_zero] at f2
  have f1 : V.zf1 1 k0 none (some (.int .i64 10)) = some z0 := f1
  obtain ⟨Rk, a1s⟩ := a1.1
  obtain ⟨z1, S1, g1, g2, _⟩ := a1s.zh0 (by omega) (lo := 0) (hi := 10) (a := none) (b := some (.int .i64 ((10 : Nat) : Int))) (.inl ⟨rfl, rfl⟩) (.inr ⟨_, rfl⟩) (by omega) (by omega)
  rw [List.drop_zero] at g2
  have g1 : V.zf1 1 kx none (some (.int .i64 10)) = some z1 := g1
  simp -dsimp [e1, e2, e3, l1, l0, h12', f1, g1, zei (f2.mono o.le), zei g2, - V.zep]
  refine B.ze (fun hp => ?_) (fun hp => ?_)
  ·have hm : zi0 s r w = true := by unfold zi0; rw [decide_eq_true h12, hp]; rfl
   rw [if_pos hm] at tk
   have e4 : A.ldnv hh (elp 2 x k 0) 2 = some (.agg [kx, vx]) := (ea hle).ldn
   have ck := d1.zm
   have cv := d2.zm
   simp -dsimp [e1, e4, ck, cv, - V.zep]
   refine o.push 0 rfl (cs := [kx, vx]) rfl (by omega) (by simp; omega) (by simp [maxLen]; omega) fun mine' h5 o5 _ => ?_
   have hle5 : h.le h5 := za.le_trans o1.le o5.le
   have e5 : A.ldv h5 (elp 2 x k 1) = some vx := (ea hle5).ld 1 (by decide)
   have e6 : V.fieldAddr 1 (elp 2 x k 0) = some (elp 2 x k 1) := (ea hle5).fld 0 1
   simp -dsimp only [e1, e6, e5, B.zi, B.zii]
   obtain ⟨⟨Rv, hvv⟩, _⟩ := d2.mono hle5
   have hbm : ((M.map (·.1)).flatMap Row.Value).length + w.Value.length <= 10000000 := by
    rw [tk, List.flatMap_append, List.length_append] at hb2
    simp only [List.flatMap_cons, List.flatMap_nil, List.append_nil] at hb2
    omega
   refine o5.appW 1 rfl hvv (by omega) (by simp only [List.length_map]; omega) (by simp only [List.length_map, maxLen]; omega) fun y' h6 o6 _ => ?_
   rw [a1k]
   refine hY (L.length - (k + 1)) _ _ (by omega) ⟨k + 1, mine', y', M ++ [(w, (kx, vx))], by omega, rfl, ?_, ?_, ?_⟩
   ·rw [tk, List.map_append]; rfl
   ·intro q hq
    rcases List.mem_append.1 hq with hq | hq
    ·exact hat q hq
    ·rw [List.mem_singleton.1 hq]; exact ⟨d1, d2⟩
   ·rw [List.map_append, List.map_append, List.flatMap_append, List.map_append]
    have e7 : [(w, (kx, vx))].map rowK.cs = [[kx, vx]] := rfl
    rw [e7]
    simpa using o6
  ·simp -dsimp only [a1k, B.zi]
   exact skip (by unfold zi0; rw [hp, Bool.and_false])
 ·rw [decide_eq_false_iff_not] at hc
  have : k = L.length := by omega
  subst this
  rw [List.take_length] at eM hb1
  have hy := o.slAt 1 rfl
  generalize hB : (M.map (·.1)).flatMap Row.Value = b at *
  have hbb : b.length <= 10000000 := by rw [<- hB, eM]; omega
  have ly : V.zj y = some (.int .i64 (b.length : Int)) := by have := hy.zj; rwa [List.length_map] at this
  have hans : zwe s r L = if (zdd b).2.2 = 0 ∧ (zdd b).2.1 = b.length ∧ (zek s r (zdd b).1).1 = M.map (·.1) then ((zdd b).1, true) else (zhd, false) := by
   unfold zwe
   simp only
   rw [if_neg hkn, <- eM, hB]
  simp -dsimp only [zh.k7]
  refine s2 y b hh _ ⟨⟨[], hy⟩, by omega⟩ fun x' y' h2 o2 => ?_
  have cx : x'.zm = true := (o2.slAt 0 rfl).zm
  have cy : y'.zm = true := (o2.slAt 1 rfl).zm
  have hle2 : h.le h2 := za.le_trans hle o2.le
  by_cases g1 : (zdd b).2.2 = 0
  rotate_left
  ·simp -dsimp [zdk.val, g1, cx, cy, - zh.k5]
   exact zero h2 hle2 (by rw [hans, if_neg (fun e => g1 e.1)])
  by_cases g2 : (zdd b).2.1 = b.length
  rotate_left
  ·have g2' : ¬ ((zdd b).2.1 : Int) = b.length := by omega
   simp -dsimp [zdk.val, g1, g2', ly, cx, cy, - zh.k5]
   exact zero h2 hle2 (by rw [hans, if_neg (fun e => g2 e.2.1)])
  have g2' : ((zdd b).2.1 : Int) = b.length := by omega
  simp -dsimp [zdk.val, g1, g2', ly, cx, cy, - zh.k4]
  obtain ⟨t1, t2⟩ := zt7 b
  have ht : zin h2 (zdd b).1 x' y' := ⟨⟨_, o2.slAt 0 rfl⟩, ⟨_, o2.slAt 1 rfl⟩⟩
  refine s3 s r _ x' y' h2 _ ht (by omega) (by omega) fun want W h3 eW oW => ?_
  have hle3 : h.le h3 := za.le_trans hle2 oW.le
  have dW : Dl rowK h3 want (W.map (·.1)) := by
   refine Df.dl oW fun p hp => ?_
   have : p.1 ∈ (zek s r (zdd b).1).1 := by rw [<- eW]; exact List.mem_map.2 ⟨p, hp, rfl⟩
   have := (zsq s r (zdd b).1).2.2.2 p.1 this
   show p.1.Key.length <= far ∧ p.1.Value.length <= far
   unfold far; omega
  have dm : Dl rowK h3 mine (M.map (·.1)) := ⟨M, [], rfl, (o.slAt 0 rfl).mono (za.le_trans o2.le oW.le), fun q hq => rowK.mono hle3 (hat q hq)⟩
  have hA : (W.map (·.1)).length <= 1000 := by rw [eW]; exact (zsq s r (zdd b).1).2.2.1
  rw [<- eW] at hans
  have no : W.map (·.1) ≠ M.map (·.1) -> dn Q (.tup [.agg [.int .i64 0, .int .i64 0, .int .i64 0, .str [], .int .u8 0, .nils, .nils], .bool false]) h3 := fun e => zero h3 hle3 (by rw [hans, if_neg (fun e2 => e e2.2.2)])
  have yes : W.map (·.1) = M.map (·.1) -> dn Q (.tup [.agg ((zdd b).1.cs x' y'), .bool true]) h3 := fun e => by
   rw [hans, if_pos ⟨g1, g2, e⟩] at hq
   exact zrp oW.le (hq x' y' h2 (o2.back hle))
  generalize W.map (·.1) = A at *
  have hMl' : (M.map (·.1)).length <= 1000000 := by rw [List.length_map]; omega
  generalize M.map (·.1) = M' at *
  have lx := dW.zj
  have lm := dm.zj
  by_cases hlen2 : A.length = M'.length
  rotate_left
  ·have hne : ¬ (A.length : Int) = (M'.length : Int) := by omega
   simp -dsimp [lx, lm, hne, hlen2]
   exact no fun e => hlen2 (by rw [e])
  have lx' : V.zj want = some (.int .i64 (M'.length : Int)) := by rw [<- hlen2]; exact lx
  simp -dsimp [lx', lm, - zh.l3, - zh.k2]
  refine zd.intro (fun n vs hh => ∃ k : Nat, k + n = M'.length ∧ vs = [.int .i64 (k : Int), .agg [.int .i64 0, .int .i64 0, .int .i64 0, .str [], .int .u8 0, .nils, .nils]] ∧ hh = h3 ∧ A.take k = M'.take k) M'.length ?_ ⟨0, by simp, rfl, rfl, rfl⟩
  rintro Yc n vs hh2 ⟨k, hk2, rfl, rfl, htk⟩ hYc
  simp -dsimp only [zh.l3, zh.k2, lx', V.zmc, B.zi]
  refine B.ze (fun hd => ?_) (fun hd => ?_)
  ·rw [decide_eq_true_eq] at hd
   obtain ⟨u, hu⟩ := zdz (L := A) (k := k) (by omega)
   obtain ⟨w, hw⟩ := zdz (L := M') (k := k) (by omega)
   obtain ⟨ku, vu, f1, f2, f3, f4, f5, f6, p1, p2⟩ := zm4 dW hu
   obtain ⟨kw, vw, g1, g2, g3, g4, g5, g6, r1, r2⟩ := zm4 dm hw
   obtain ⟨R1, p1⟩ := p1.1
   obtain ⟨R2, p2⟩ := p2.1
   obtain ⟨R3, r1⟩ := r1.1
   obtain ⟨R4, r2⟩ := r2.1
   have bad : u ≠ w -> A ≠ M' := fun hne e => hne (by rw [e] at hu; exact Option.some.inj (hu.symm.trans hw))
   by_cases hkk : u.Key = w.Key
   rotate_left
   ·simp -dsimp [f1, f3, f5, g1, g3, g5, zei p1, zei r1, hkk]
    exact no (bad fun e => hkk (by rw [e]))
   by_cases hvv : u.Value = w.Value
   rotate_left
   ·simp -dsimp [f1, f3, f4, f5, f6, g1, g3, g4, g5, g6, zei p1, zei r1, zei p2, zei r2, hkk, hvv]
    exact no (bad fun e => hvv (by rw [e]))
   have a1 := add1 (show k < 4611686018427387904 by omega)
   simp -dsimp [f1, f3, f4, f5, f6, g1, g3, g4, g5, g6, zei p1, zei r1, zei p2, zei r2, hkk, hvv, - V.zep]
   rw [a1]
   have huw : u = w := by cases u; cases w; simp only at hkk hvv; rw [hkk, hvv]
   refine hYc (M'.length - (k + 1)) _ _ (by omega) ⟨k + 1, by omega, rfl, rfl, ?_⟩
   rw [take_succ hu, take_succ hw, htk, huw]
  ·rw [decide_eq_false_iff_not] at hd
   have : k = M'.length := by omega
   subst this
   rw [List.take_length, <- hlen2, List.take_length] at htk
   simp -dsimp [cx, cy]
   exact yes htk
end Go.Ab
namespace Go.Ab
variable {C : CSem} {N : zN}
theorem Owns.lit2L {h0 h : za} {l : List Ob} (ho : Owns h0 h l) {x y : AVal} {id : Nat} (hid : h id = none) : Owns h0 (upd h id (zej [x, y])) (l ++ [.sl 1 (.sl id 0 0 2 1 2) [[x], [y]] []]) :=
 ho.zl6 hid (by simp) rfl (by simp) rfl
def twoL (α : Type) (a b : α) : Nat -> α := fun j => if j = 0 then a else b
theorem Objs_twoL {es : Nat} {a b : AVal} {A B' R1 R2 : List (List AVal)} : Objs es 2 (twoL _ a b) (twoL _ A B') (twoL _ R1 R2) = [.sl es a A R1, .sl es b B' R2] := rfl
end Go.Ab
namespace Go.Ab
variable {C : CSem} {N : zN}
theorem pair_apart {T Ad : Type} {K : DK T Ad} {inn : T -> Ad -> LKs} {k g : Nat} {b : BagK} (s : zr0 K inn k b C g) {h0 h : za} {x y : AVal} {P1 P2 : List (T × Ad)} {Q : zQ} (ho : Owns h0 h (allOb K [(x, P1), (y, P2)])) (k1 : ∀ q ∈ P1, K.ok q.1) (k2 : ∀ q ∈ P2, K.ok q.1)
  (l1 : P1.length <= 100000000) (l2 : P2.length <= 100000000) (hf : Fits b (allL K inn k [(x, P1), (y, P2)])) (hq : ∀ h', h0.le h' -> Q (.bool true) h') {id : Nat} (hid : h id = none) : C g [.sl id 0 0 2 1 2] (upd h id (zej [x, y])) Q := by
 have o := ho.zl6 hid (n := 2) (cp := 2) (es := 1) (cs := [x, y]) (L := [[x], [y]]) (R := []) (by simp) rfl (by simp) rfl
 obtain ⟨q1, q2⟩ := (o.perm List.perm_append_comm).out
 refine s [(x, P1), (y, P2)] _ [] _ _ Q (q1.slAt 0 rfl) q2 (fun p hp => ?_) (by simp) (fun p hp => ?_) hf fun h' hle => hq h' (za.le_trans q1.le hle)
 ·simp only [List.mem_cons, List.not_mem_nil, or_false] at hp
  rcases hp with rfl | rfl
  ·exact k1
  ·exact k2
 ·simp only [List.mem_cons, List.not_mem_nil, or_false] at hp
  rcases hp with rfl | rfl
  ·exact l1
  ·exact l2
theorem rows_fits {P1 P2 : List (Row × (AVal × AVal))} {L : List Row} (e1 : P1.map (·.1) = L) (e2 : P2.map (·.1) = L) (hok : ∀ r ∈ L, rowK.ok r) (hl : L.length <= 100000) (x y : AVal) : Fits bagA (allL rowK zoa 15 [(x, P1), (y, P2)]) := by
 have one : ∀ (x : AVal) (P : List (Row × (AVal × AVal))), P.map (·.1) = L -> LKs.cap (zls rowK zoa 15 x P) bagA.lim ∧ LKs.cnt (zls rowK zoa 15 x P) 1000000 ∧ LKs.sup (zls rowK zoa 15 x P) bagA.full := by
  intro x P e
  have hPl : P.length <= 100000 := by have := congrArg List.length e; rw [List.length_map] at this; omega
  refine ⟨?_, ?_, ?_⟩
  ·refine LKs.cap_add (LKs.zso (by simp [bagA]; omega)) (LKs.cap_sum fun p hp => ?_)
   obtain ⟨k1, k2⟩ := hok p.1 (by rw [<- e]; exact List.mem_map.2 ⟨p, hp, rfl⟩)
   unfold far at k1 k2
   exact LKs.cap_add (LKs.zso (by simp [bagA]; omega)) (LKs.zso (by simp [bagA]; omega))
  ·exact LKs.cnt_le (LKs.cnt_add (LKs.zsn _ _) (LKs.cnt_sum (c := 2) fun p hp => LKs.cnt_add (LKs.zsn _ _) (LKs.zsn _ _))) (by omega)
  ·exact LKs.sup_add (LKs.zr1 rfl) (LKs.sup_sum fun p hp => LKs.sup_add (LKs.zr1 rfl) (LKs.zr1 rfl))
 have all : ∀ q ∈ [(x, P1), (y, P2)], LKs.cap (zls rowK zoa 15 q.1 q.2) bagA.lim ∧ LKs.cnt (zls rowK zoa 15 q.1 q.2) 1000000 ∧ LKs.sup (zls rowK zoa 15 q.1 q.2) bagA.full := by
  intro q hq
  simp only [List.mem_cons, List.not_mem_nil, or_false] at hq
  rcases hq with rfl | rfl
  ·exact one x P1 e1
  ·exact one y P2 e2
 exact LKs.fits_of (n := 2 * 1000000) (LKs.cap_sum fun q hq => (all q hq).1) (LKs.cnt_sum fun q hq => (all q hq).2.1) (by omega) (LKs.sup_sum fun q hq => (all q hq).2.2)
theorem tell_fits {t : zdk} {a c : AVal × AVal} (h1 : t.Lots.length <= 100000) (h2 : t.Uses.length <= 100000) (x y : AVal) : Fits bagA (allL zmn zhz 13 [(x, [(t, a)]), (y, [(t, c)])]) := by
 have one : ∀ (x : AVal) (a : AVal × AVal), LKs.cap (zls zmn zhz 13 x [(t, a)]) bagA.lim ∧ LKs.cnt (zls zmn zhz 13 x [(t, a)]) 1000000 ∧ LKs.sup (zls zmn zhz 13 x [(t, a)]) bagA.full := by
  intro x a
  refine ⟨?_, ?_, ?_⟩
  ·refine LKs.cap_add (LKs.zso (by simp [bagA])) (LKs.cap_sum fun p hp => ?_)
   rw [List.mem_singleton.1 hp]
   exact LKs.cap_add (LKs.zso (by simp [bagA]; omega)) (LKs.zso (by simp [bagA]; omega))
  ·exact LKs.cnt_le (LKs.cnt_add (LKs.zsn _ _) (LKs.cnt_sum (c := 2) fun p hp => LKs.cnt_add (LKs.zsn _ _) (LKs.zsn _ _))) (by simp)
  ·exact LKs.sup_add (LKs.zr1 rfl) (LKs.sup_sum fun p hp => LKs.sup_add (LKs.zr1 rfl) (LKs.zr1 rfl))
 have all : ∀ q ∈ [(x, [(t, a)]), (y, [(t, c)])], LKs.cap (zls zmn zhz 13 q.1 q.2) bagA.lim ∧ LKs.cnt (zls zmn zhz 13 q.1 q.2) 1000000 ∧ LKs.sup (zls zmn zhz 13 q.1 q.2) bagA.full := by
  intro q hq
  simp only [List.mem_cons, List.not_mem_nil, or_false] at hq
  rcases hq with rfl | rfl
  ·exact one x a
  ·exact one y c
 exact LKs.fits_of (n := 2 * 1000000) (LKs.cap_sum fun q hq => (all q hq).1) (LKs.cnt_sum fun q hq => (all q hq).2.1) (by omega) (LKs.sup_sum fun q hq => (all q hq).2.2)
theorem answered_len (s r : Int) (L : List Row) : (zef s r L).1.Lots.length <= 65535 ∧ (zef s r L).1.Uses.length <= 65535 := by
 unfold zef
 split
 ·simp [zhd]
 ·unfold zs7
  split
  ·exact zt7 _
  ·simp [zhd]
def zcb.Spec (C : CSem) (N : zN) : Prop := ∀ (sn rq pc : Int) (t : zdk) (u v w : AVal) (L : List Row) (h : za) (Q : zQ), zin h t u v -> Dl rowK h w L -> L.length < 4000000000000 ->
 Q (.bool true) h -> C (N 458) [.int .i64 sn, .int .i64 rq, .int .i64 pc, .agg (t.cs u v), w] h Q
theorem zcb.spec (i : zcb.Imp C N) (s0 : zdv.Spec C N) (s1 : zcp.Spec C N) (s2 : zds.Spec C N) (s3 : zbp.SpecO C N) (s4 : zb1.Spec C N) (s5 : zbg.Spec C N) (s6 : zgq.Spec C N) (s7 : zdt.Spec C N) (s8 : zby.Spec C N)
  (s9 : zdq.Spec C N) (s10 : zbq.Spec C N) (s11 : zbm.Spec C N) (s12 : zh.Spec C N) (s13 : zb8.Spec C N) (s14 : zc3.Spec C N) (s15 : zex.Spec C N) (s16 : zcn.zns C N) (s17 : zr0 rowK zoa 15 bagA C (N 307)) (s18 : zr0 zmn zhz 13 bagA C (N 43)) (s19 : zhm C 1 (N 35)) : zcb.Spec C N := by
 intro sn rq pc t u v w L h Q ht hw hl hq
 have cu : u.zm = true := ht.lots.elim fun _ r => r.zm
 have cv : v.zm = true := ht.uses.elim fun _ r => r.zm
 have lu : V.zj u = some (.int .i64 (t.Lots.length : Int)) := ht.lots.elim fun _ r => by have := r.zj; rwa [List.length_map] at this
 have lv : V.zj v = some (.int .i64 (t.Uses.length : Int)) := ht.uses.elim fun _ r => by have := r.zj; rwa [List.length_map] at this
 apply i
 simp -dsimp [cu, cv]
 refine s1 w L h _ hw hl fun b1 hb1 => ?_
 cases b1 with
 | true => simp -dsimp; exact s0 _ _ (zk hq)
 | false =>
 have hR := hb1 rfl
 by_cases g1 : t.Lots.length <= 400
 rotate_left
 ·have g1' : (400 : Int) < t.Lots.length := by omega
  have g1'' : 400 < t.Lots.length := by omega
  simp -dsimp [lu, lv, g1', g1'', cu, cv]
  exact s0 _ _ (zk hq)
 have g1' : ¬ (400 : Int) < t.Lots.length := by omega
 have g1'' : ¬ 400 < t.Lots.length := by omega
 by_cases g2 : t.Uses.length <= 3000
 rotate_left
 ·have g2' : (3000 : Int) < t.Uses.length := by omega
  have g2'' : 3000 < t.Uses.length := by omega
  simp -dsimp [lu, lv, g1', g1'', g2', g2'', cu, cv]
  exact s0 _ _ (zk hq)
 have g2' : ¬ (3000 : Int) < t.Uses.length := by omega
 have g2'' : ¬ 3000 < t.Uses.length := by omega
 by_cases g3 : t.Code.length <= 1000
 rotate_left
 ·have g3' : (1000 : Int) < t.Code.length := by omega
  have g3'' : 1000 < t.Code.length := by omega
  simp -dsimp [lu, lv, g1', g1'', g2', g2'', g3', g3'', cu, cv]
  exact s0 _ _ (zk hq)
 have g3' : ¬ (1000 : Int) < t.Code.length := by omega
 have g3'' : ¬ 1000 < t.Code.length := by omega
 simp -dsimp [lu, lv, g1', g1'', g2', g2'', g3', g3'', cu, cv]
 have hn := hR.n
 have hv := hR.v
 refine s2 t u v h _ ht (by omega) (by omega) fun u1 v1 h1 o1 => ?_
 have k1 : zmd h1 t u1 v1 := ⟨o1.slAt 0 rfl, o1.slAt 1 rfl⟩
 have cu1 := k1.lots.zm
 have cv1 := k1.uses.zm
 refine s3 w L h1 _ (hw.mono o1.le) (by omega) fun x1 P PM h2 eP eM o2 r1 => ?_
 simp -dsimp [cu1, cv1]
 refine s4 sn rq t u1 v1 h2 _ (k1.mono o2.le).at_ (by omega) (by omega) fun a A h3 eA o3 => ?_
 simp -dsimp [cu1, cv1]
 refine s4 sn rq t u1 v1 h3 _ (k1.mono (za.le_trans o2.le o3.le)).at_ (by omega) (by omega) fun c B h4 eB o4 => ?_
 have o34 := o3.join o4
 simp -dsimp [cu1, cv1]
 refine s5 sn rq x1 L h4 _ (r1.mono o34.le).dl (by omega) (by omega) fun ax ay h5 o5 => ?_
 have ca1 : ax.zm = true := (o5.slAt 0 rfl).zm
 have ca2 : ay.zm = true := (o5.slAt 1 rfl).zm
 have o35 := o34.join o5
 simp -dsimp [ca1, ca2]
 refine s5 sn rq x1 L h5 _ (r1.mono o35.le).dl (by omega) (by omega) fun bx bY h6 o6 => ?_
 have cb1 : bx.zm = true := (o6.slAt 0 rfl).zm
 have cb2 : bY.zm = true := (o6.slAt 1 rfl).zm
 have o36 := o35.join o6
 simp -dsimp [cb1, cb2]
 refine s6 sn rq pc h6 _ fun ka h7 o7 _ => ?_
 have o37 := o36.join o7
 refine s6 sn rq pc h7 _ fun kb h8 o8 _ => ?_
 have o38 := o37.join o8
 have h28 := o38.le
 have h18 := za.le_trans o2.le h28
 simp -dsimp [cu1, cv1]
 refine s7 t t u1 v1 u v h8 _ (k1.mono h18) (ht.mono (za.le_trans o1.le h18)) (by omega) (by omega) ?_
 simp -dsimp
 refine s8 x1 w L L h8 _ (r1.mono h28) (hw.mono (za.le_trans o1.le h18)) (by omega) ?_
 simp -dsimp [cu1, cv1]
 have oo := o1.join (o2.join o38)
 obtain ⟨q1, q2⟩ := (oo.perm List.perm_append_comm).out
 refine s9 t u1 v1 _ h8 _ q2 (by omega) (by omega) fun h9 l9 => ?_
 obtain ⟨q3, q4⟩ := ((q1.grow l9).perm List.perm_append_comm).out
 refine s10 x1 P PM _ h9 _ q4 (fun p hp => hw.ok _ (by rw [<- eP]; exact List.mem_map.2 ⟨p, hp, rfl⟩)) (by have := congrArg List.length eM; rw [List.length_map] at this; rw [this]; simp [mks12]) (by have := congrArg List.length eP; rw [List.length_map] at this; omega) fun h10 l10 => ?_
 have p10 := q3.grow l10
 have h010 := p10.le
 simp -dsimp [cu, cv]
 refine s11 sn rq t u v h10 _ (ht.mono h010) (by omega) (by omega) fun d D h11 eD o11 => ?_
 simp -dsimp
 refine s12 sn rq w L h11 _ (hw.mono (za.le_trans h010 o11.le)) (by omega) (by omega) fun zx zy h12 o12 => ?_
 have cz1 : zx.zm = true := (o12.slAt 0 rfl).zm
 have cz2 : zy.zm = true := (o12.slAt 1 rfl).zm
 have p12 := p10.grow (za.le_trans o11.le o12.le)
 simp -dsimp [cz1, cz2]
 obtain ⟨aa1, aa2, aa3, aa4⟩ := zsq sn rq t
 have okL : ∀ r ∈ (zek sn rq t).1, rowK.ok r := fun r hr => by
  have := aa4 r hr
  show r.Key.length <= far ∧ r.Value.length <= far
  unfold far; omega
 have okA : ∀ (P : List (Row × (AVal × AVal))), P.map (·.1) = (zek sn rq t).1 -> ∀ p ∈ P, rowK.ok p.1 := fun P e p hp => okL _ (by rw [<- e]; exact List.mem_map.2 ⟨p, hp, rfl⟩)
 have lenA : ∀ (P : List (Row × (AVal × AVal))), P.map (·.1) = (zek sn rq t).1 -> P.length <= 1000 := fun P e => by have := congrArg List.length e; rw [List.length_map] at this; omega
 have p12' : Owns h h12 ((.sl 2 a (A.map rowK.cs) [] :: rowK.os false A) ++ ((.sl 2 c (B.map rowK.cs) [] :: rowK.os false B) ++ (TellO (zef sn rq L).1 ax ay ++ (TellO (zef sn rq L).1 bx bY ++ [bOb false ka (keyP sn rq pc), bOb false kb (keyP sn rq pc)])))) := by
  have := p12
  simp only [List.append_assoc, List.cons_append, List.nil_append] at this ⊢
  exact this
 have dA : Dl rowK h12 a (zek sn rq t).1 := by rw [<- eA]; exact dl_of (K := rowK) (b := false) (R := []) (okA A eA) p12'.is (List.mem_append_left _ (List.mem_cons_self ..)) (fun o ho => List.mem_append_left _ (List.mem_cons_of_mem _ ho))
 have dD : Dl rowK h12 d (zek sn rq t).1 := by rw [<- eD]; exact (Df.dl o11 (okA D eD)).mono o12.le
 refine s13 a d _ _ h12 _ dA dD (by omega) ?_
 simp -dsimp
 obtain ⟨t1, t2⟩ : (zef sn rq L).1.Lots.length <= 65535 ∧ (zef sn rq L).1.Uses.length <= 65535 := answered_len sn rq L
 have ca := dA.zm
 obtain ⟨m1, m2⟩ := (p12'.perm List.perm_append_comm).out
 have aX : zin h12 (zef sn rq L).1 ax ay := ⟨⟨[], p12'.is (.sl 6 ax ((zef sn rq L).1.Lots.map Lot.cs) []) (by simp)⟩, ⟨[], p12'.is (.sl 3 ay ((zef sn rq L).1.Uses.map Use.cs) []) (by simp)⟩⟩
 have aZ : zin h12 (zef sn rq L).1 zx zy := ⟨⟨[], o12.slAt 0 rfl⟩, ⟨[], o12.slAt 1 rfl⟩⟩
 refine s14 _ _ _ _ _ _ h12 _ aX aZ (by omega) (by omega) ?_
 simp -dsimp
 refine s15 sn rq pc h12 _ fun kc h13 o13 _ => ?_
 have hkl : (keyP sn rq pc).length <= 12 := by
  cases hb : zgs sn rq pc with
  | true => simp [keyP, hb]
  | false => rw [zrg hb]; exact Nat.le_refl _
 have kf : (keyP sn rq pc).length <= far := by unfold far; omega
 have bK : Bs h13 ka (keyP sn rq pc) := (bOb_at (b := false) kf (p12'.is _ (by simp))).mono o13.le
 have bC : Bs h13 kc (keyP sn rq pc) := bOb_at (b := false) kf (o13.is _ (by simp))
 simp -dsimp
 refine s16 ka kc _ _ h13 _ bK bC ?_
 have p13 := p12'.grow o13.le
 have cc : c.zm = true := (p13.is (.sl 2 c (B.map rowK.cs) []) (by simp)).zm
 simp -dsimp [ca, cc, repL]
 intro i1 f1
 simp -dsimp
 have p13' : Owns h h13 (allOb rowK [(a, A), (c, B)] ++ (TellO (zef sn rq L).1 ax ay ++ (TellO (zef sn rq L).1 bx bY ++ [bOb false ka (keyP sn rq pc), bOb false kb (keyP sn rq pc)]))) := by
  simpa [allOb, show rowK.n = 2 from rfl] using p13
 obtain ⟨m1, m2⟩ := (p13'.perm List.perm_append_comm).out
 refine pair_apart s17 m2 (okA A eA) (okA B eB) (by have := lenA A eA; omega) (by have := lenA B eB; omega) (rows_fits eA eB okL (by omega) _ _) (fun h14 l14 => ?_) f1
 have p14 := m1.grow l14
 simp -dsimp [ca1, ca2, repL]
 intro i2 f2
 simp -dsimp [cb1, cb2, repL]
 intro i3 f3
 simp -dsimp [repL]
 intro i4 f4
 simp -dsimp
 have p14' : Owns h h14 ((TellO (zef sn rq L).1 ax ay ++ TellO (zef sn rq L).1 bx bY) ++ [bOb false ka (keyP sn rq pc), bOb false kb (keyP sn rq pc)]) := by
  rw [List.append_assoc]; exact p14
 obtain ⟨m3, m4⟩ := (p14'.perm List.perm_append_comm).out
 refine ones_apart (K := zmn) (t := (zef sn rq L).1) (u := (zef sn rq L).1) (a := (ax, ay)) (c := (bx, bY)) rfl s18 m4 trivial trivial (fun x y => tell_fits (by omega) (by omega) x y) f2 f3 f4 fun h15 l15 => ?_
 have p15 := m3.grow l15
 have ck1 : ka.zm = true := (p15.slAt 0 rfl).zm
 have ck2 : kb.zm = true := (p15.slAt 1 rfl).zm
 simp -dsimp [ck1, ck2, repL]
 intro i5 f5
 simp -dsimp
 have o7 := p15.lit2L (x := ka) (y := kb) f5
 obtain ⟨q5, q6⟩ := (o7.perm List.perm_append_comm).out
 refine s19 ⟨.sl i5 0 0 2 1 2, 2, twoL _ ka kb, twoL _ ((keyP sn rq pc).map bc) ((keyP sn rq pc).map bc), twoL _ [] [], []⟩ _ _ _ ⟨q5.slAt 0 rfl, by simp, fun j hj => by simp only [twoL]; (repeat' split) <;> simp only [List.length_map] <;> omega⟩ (by simp only [LL.obs]; rw [Objs_twoL]; exact q6) fun h16 l16 => ?_
 simp -dsimp
 refine s0 _ _ ?_
 simp -dsimp
 exact zrp (za.le_trans q5.le l16) hq
end Go.Ab
