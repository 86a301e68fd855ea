/- What is proved: a part of the way to the statement: Crow15. No conditions. -/
import Derived.Test.YtljejbplojnnpaaGreatQ8
import Derived.Test.YtljejbplojnnpaaGreatQ6
import Derived.Test.YtljejbplojnnpaaGreatQ7
set_option linter.unusedVariables false
set_option linter.unusedSimpArgs false
namespace Go.Ab
variable {C : CSem} {N : Nat → Nat}
def zbe.Spec (C : CSem) (N : Nat → Nat) : Prop := ∀ (v : AVal) (h : za) (Q : AVal → za → Prop), v.zl = true → (∀ i j h', Owns h h' [.box (.ptr i 0 0) [v], .box (.ptr j 0 0) [.int .i64 180]] → Q (.fn (N 443) [] [.ptr i 0 0, .ptr j 0 0]) h') → C (N 429) [v, .int .i64 180] h Q
theorem zbe.spec (i : zbe.Imp C N) : zbe.Spec C N := by
 intro v h Q hv hq
 apply i
 simp -dsimp [zbe.cps, hv]
 intro i2 h2
 have o1 := (Owns.start h).zmj h2 [v]
 generalize upd h i2 (zel [v]) = h1 at *
 simp -dsimp
 intro i3 h3
 have o2 := o1.zmj h3 [.int .i64 180]
 obtain ⟨_, e, hb⟩ := o2.zhi 1 rfl
 cases e
 simp -dsimp [zeu hb]
 exact zj (hq _ _ _ o2)
theorem tellPut_len (t : zf3) : (zga t).1.length ≤ 100000 := by
 unfold zga
 split
 ·simp
 ·rename_i h
  have hr : zf7 t = true := by cases h' : zf7 t <;> simp_all
  split
  ·simp
  ·rename_i h2
   obtain ⟨_, _, h3⟩ := zl9 hr
   obtain ⟨_, h4, h5, _⟩ := h3 h2
   have a1 := lots_len t.Lots t.Lots.length h4
   have a2 := uses_len t.Uses t.Uses.length h5
   rw [List.take_length] at a1 a2
   have a3 := zdp t.Code
   simp only [zp2, List.length_append, zg5, List.length_cons, List.length_nil]
   omega
def zbw.Spec (C : CSem) (N : Nat → Nat) : Prop := ∀ (s r : Int) (t : zf3) (x y : AVal) (h : za) (Q : AVal → za → Prop), zut h t x y → t.Lots.length ≤ 100000000 → t.Uses.length ≤ 100000000 →
 (∀ x' P h', P.map (·.1) = (zi6 s r t).1 → Df rowK h h' x' P → Q (.tup [x', .int .i64 (zi6 s r t).2]) h') → C (N 415) [.int .i64 s, .int .i64 r, .agg (t.cs x y)] h Q
theorem zbw.spec (i : zbw.Imp C N) (hC : zjk C) (s1 : zbx.Spec C N) (s2 : zgd.Spec C N) (s3 : zbe.Spec C N) (i4 : zo.Imp C N) (s5 : zeb.Spec C N) : zbw.Spec C N := by
 intro s r t x y h Q ht hl1 hl2 hq
 have cx := ht.lots.elim fun _ r => r.zl
 have cy := ht.uses.elim fun _ r => r.zl
 apply i
 simp -dsimp
 intro i3 h3
 have o1 := (Owns.start h).zmj h3 [.int .i64 s]
 generalize upd h i3 (zel [.int .i64 s]) = h1 at *
 simp -dsimp
 intro i4' h4
 have o2 := o1.zmj h4 [.int .i64 r]
 generalize upd h1 i4' (zel [.int .i64 r]) = h2 at *
 simp -dsimp
 refine s1 t x y h2 _ (ht.mono o2.le) hl1 hl2 fun v h5 o3 => ?_
 have o4 := o2.join o3
 obtain ⟨_, e, b3⟩ := o4.zhi 0 rfl
 cases e
 obtain ⟨_, e, b4⟩ := o4.zhi 1 rfl
 cases e
 simp -dsimp
 have bad : ∀ h', h.le h' → zi6 s r t = ([], 2) → dn Q (.tup [.nils, .int .i64 2]) h' := fun h' hle e => by
  rw [e] at hq
  exact zsu hle (hq .nils [] h rfl (by simpa [Df, DK.os] using (Owns.start h).nils rowK.n))
 by_cases he : (zga t).2 = 0
 ·simp -dsimp [he, zeu b3, zeu b4]
  refine s2 s r 0 h5 _ fun k0 h6 o5 hk => ?_
  have o6 := o4.join o5
  by_cases hkn : keyP s r 0 = []
  ·rw [hk hkn]
   simp -dsimp [V.eqSl]
   exact bad h6 o6.le (by unfold zi6; rw [if_pos (.inr hkn)])
  ·have hno := eqSl_no (o5.slAt 0 rfl : SlX h6 1 k0 ((keyP s r 0).map bc) []) (by simpa using hkn)
   simp -dsimp [hno, he]
   intro i10 h10
   have o7 := (o6.zmj h10 [.nils]).nils 2
   generalize upd h6 i10 (zel [.nils]) = h7 at *
   have hv : v.zl = true := (o3.slAt 0 rfl).zl
   simp -dsimp
   refine s3 v h7 _ hv fun i2 j2 h8 o8 => ?_
   have o9 := o7.join o8
   have o10 : Owns h h8 (zii (.ptr i10 0 0) .nils [] ++ ([.box (.ptr i3 0 0) [.int .i64 s], .box (.ptr i4' 0 0) [.int .i64 r], .sl 1 v ((zga t).1.map bc) [], bOb false k0 (keyP s r 0)] ++ [.box (.ptr i2 0 0) [v], .box (.ptr j2 0 0) [.int .i64 180]])) := by
    have o9 : Owns h h8 (([.box (.ptr i3 0 0) [.int .i64 s], .box (.ptr i4' 0 0) [.int .i64 r], .sl 1 v ((zga t).1.map bc) [], bOb false k0 (keyP s r 0)] ++ zii (.ptr i10 0 0) .nils []) ++ [.box (.ptr i2 0 0) [v], .box (.ptr j2 0 0) [.int .i64 180]]) := o9
    rw [← List.append_assoc]
    exact o9.perm (List.perm_append_comm.append_right _)
   obtain ⟨hb, m1, m2, o11, at1⟩ := o10.lay
   obtain ⟨_, e, c3⟩ := at1 (.box (.ptr i3 0 0) [.int .i64 s]) (by simp)
   cases e
   obtain ⟨_, e, c4⟩ := at1 (.box (.ptr i4' 0 0) [.int .i64 r]) (by simp)
   cases e
   obtain ⟨_, e, c2⟩ := at1 (.box (.ptr i2 0 0) [v]) (by simp)
   cases e
   obtain ⟨_, e, d2⟩ := at1 (.box (.ptr j2 0 0) [.int .i64 180]) (by simp)
   cases e
   have hsv : SlX hb 1 v ((zga t).1.map bc) [] := at1 (.sl 1 v ((zga t).1.map bc) []) (by simp)
   have hbl := tellPut_len t
   have hans : zi6 s r t = ((List.range (zi7 (zga t).1)).map (zp9 s r (zga t).1), 0) := by
    unfold zi6
    rw [if_neg]
    rintro (e | e)
    ·exact e he
    ·exact hkn e
   rw [hans] at hq
   generalize hB : (zga t).1 = b at *
   have hpn : zi7 b ≤ 1000 := by unfold zi7; omega
   refine range_iter (zo.iter hC i4 (p := .ptr i2 0 0) (q := .ptr j2 0 0) (v := v) (b := b) (R := []) (by omega)) (fun h1 h2 hle d => ?_)
    (fun k hh => ∃ out P, P.map (·.1) = (List.range k).map (zp9 s r b) ∧ Owns hb hh (zii (.ptr i10 0 0) out P)) (fun _ _ => False) ?_ ?_ ⟨.nils, [], rfl, o11⟩ ?_ (fun j hh e => e.elim)
   ·exact ⟨zr9 hle d.1, zr9 hle d.2.1, d.2.2.mono hle⟩
   ·rintro k hh ⟨out, P, e, o⟩
    exact ⟨by rw [zeu (o.le _ _ c2)]; rfl, by rw [zeu (o.le _ _ d2)]; rfl, hsv.mono o.le⟩
   ·rintro k xx hh E hxx ⟨out, P, eP, o⟩ hE0 _
    have hk : k < zi7 b := by
     have := (List.getElem?_eq_some_iff.1 hxx).1
     simpa [zmd] using this
    have hxx : xx = [ztt v b k] := by
     unfold zmd at hxx
     rw [List.getElem?_map, List.getElem?_range hk] at hxx
     exact (Option.some.inj hxx).symm
    subst hxx
    have hPl : P.length = k := by have := congrArg List.length eP; simpa using this
    obtain ⟨_, e, w10⟩ := o.zhi 0 rfl
    cases e
    have lo := (o.slAt 1 rfl : SlX hh 2 out (P.map rowK.cs) []).zi
    rw [List.length_map, hPl] at lo
    have r3 : A.ldv hh (.ptr i3 0 0) = some (.int .i64 s) := by rw [zeu (o.le _ _ c3)]; rfl
    have r4 : A.ldv hh (.ptr i4' 0 0) = some (.int .i64 r) := by rw [zeu (o.le _ _ c4)]; rfl
    have r10 : A.ldv hh (.ptr i10 0 0) = some out := by rw [zeu w10]; rfl
    simp -dsimp only [W1, zbw.r2, zbw.k1, B.zh0, r3, r4, r10, lo, B.zf]
    refine s2 s r k hh _ fun kv h11 q1 _ => ?_
    have q2 := o.join q1
    obtain ⟨_, e, w11⟩ := q2.zhi 0 rfl
    cases e
    refine keepD1 ⟨out, r10, by rw [zeu w11]; rfl⟩ ?_
    have hpc : Bs h11 (ztt v b k) (ztv b k) := ⟨⟨[], ((pieceV_at hsv hk).2).mono q2.le⟩, by unfold ztv far; simp; omega⟩
    refine s5 _ _ _ _ hpc fun vv h12 q3 => ?_
    have q4 := q2.join q3
    obtain ⟨_, e, w12⟩ := q4.zhi 0 rfl
    cases e
    refine keepD1 ⟨out, by rw [zeu w11]; rfl, by rw [zeu w12]; rfl⟩ ?_
    have ck : kv.zl = true := (q1.slAt 0 rfl : SlX h11 1 kv ((keyP s r k).map bc) []).zl
    have cvv : vv.zl = true := (q3.slAt 0 rfl : SlX h12 1 vv ((ztv b k).map bc) []).zl
    simp -dsimp [ck, cvv]
    refine q4.push 1 rfl (cs := [kv, vv]) rfl (by omega) (by simp; omega) (by simp [maxLen]; omega) fun out' h13 q5 _ => ?_
    have co : out'.zl = true := (q5.slAt 1 rfl).zl
    refine q5.zrr 0 (off := 0) rfl co (by simp) fun h14 q6 _ => ?_
    refine hE0 h14 ⟨out', P ++ [(zp9 s r b k, (kv, vv))], ?_, ?_⟩
    ·rw [List.map_append, eP, List.range_succ, List.map_append]; rfl
    ·unfold zii
     rw [DK.zk2, DK.zu8, List.map_append]
     simpa [rowK, zp9] using q6
   ·rintro hh ⟨out, P, e, o⟩
    have pl : (zmd v b).length = zi7 b := by simp [zmd]
    rw [pl] at e
    refine RK.here ?_
    obtain ⟨_, e2, w10⟩ := o.zhi 0 rfl
    cases e2
    have r10 : A.ldv hh (.ptr i10 0 0) = some out := by rw [zeu w10]; rfl
    simp -dsimp only [B.zh0, r10, B.zf]
    exact zj (hq out P hh e ((o.back m1).sub (List.sublist_cons_self _ _)))
 ·simp -dsimp [he]
  exact bad h5 o4.le (by unfold zi6; rw [if_pos (.inl he)])
def zpz (L : List Row) : Nat := (L.flatMap Row.Value).length
abbrev TellO (t : zf3) (x y : AVal) : List Ob := [.sl 6 x (t.Lots.map Lot.cs) [], .sl 3 y (t.Uses.map Use.cs) []]
def zba.Spec (C : CSem) (N : Nat → Nat) : Prop := ∀ (s r : Int) (x : AVal) (L : List Row) (h : za) (Q : AVal → za → Prop), Dl rowK h x L → L.length ≤ 1000000 → zpz L ≤ 10000000 →
 (∀ x' y' h', Owns h h' (TellO (zjj s r L).1 x' y') → Q (.tup [.agg ((zjj s r L).1.cs x' y'), .bool (zjj s r L).2]) h') → C (N 414) [.int .i64 s, .int .i64 r, x] h Q
theorem valLen_take {L : List Row} {k : Nat} {w : Row} (hw : L[k]? = some w) : zpz (L.take (k + 1)) = zpz (L.take k) + w.Value.length := by
 unfold zpz
 rw [take_succ hw, List.flatMap_append, List.length_append]
 simp
theorem valLen_le (L : List Row) (k : Nat) : zpz (L.take k) ≤ zpz L := by
 unfold zpz
 conv => rhs; rw [← List.take_append_drop k L, List.flatMap_append, List.length_append]
 omega
theorem zba.spec (i : zba.Imp C N) (s1 : zgd.Spec C N) (s2 : zcd.Spec C N) (s3 : zdx.Spec C N) (s4 : zdr.Spec C N) : zba.Spec C N := by
 intro s r x L h Q hx hl hv hq
 apply i
 simp -dsimp only [zba.cps, zba.k5]
 refine s1 s r 0 h _ fun k0 h1 o1 hk => ?_
 have zero : ∀ h', h.le h' → zjj s r L = (zm2, false) → dn Q (.tup [.agg [.int .i64 0, .int .i64 0, .int .i64 0, .str [], .int .u8 0, .nils, .nils], .bool false]) h' := fun h' hle e => by
  rw [e] at hq
  exact zsu hle (hq .nils .nils h (((Owns.start h).nils 6).nils 3))
 by_cases hkn : keyP s r 0 = []
 ·rw [hk hkn]
  simp -dsimp [V.eqSl]
  exact zero h1 o1.le (by unfold zjj; rw [if_pos hkn])
 ·have b0 : SlX h1 1 k0 ((keyP s r 0).map bc) [] := o1.slAt 0 rfl
  have hno := eqSl_no b0 (by simpa using hkn)
  have hkb : zvf s r 0 = false := by
   cases hb : zvf s r 0 with
   | false => rfl
   | true => exact absurd (by unfold keyP; rw [hb]; rfl) hkn
  have k12 := keyP_len hkb
  have l0 := b0.zi
  rw [List.length_map, k12] at l0
  have hans : zjj s r L = zvs (zmw s r L [] 0 true) := by unfold zjj; rw [if_neg hkn]
  have hlx := hx.zi
  simp -dsimp only [zba.k4, hno, hlx, B.zf, B.cond_false]
  refine zg.intro (fun t vs hh => ∃ (k n : Nat) (y : AVal) (b : List UInt8) (w : Bool), k + t = L.length ∧ vs = [y, .int .i64 (n : Int), .bool w, .int .i64 (k : Int)] ∧ n ≤ k ∧ b.length ≤ zpz (L.take k) ∧ Owns h1 hh [.sl 1 y (b.map bc) []] ∧ zmw s r (L.drop k) b n w = zmw s r L [] 0 true) L.length ?_ ⟨0, 0, .nils, [], true, by simp, rfl, by omega, by simp, (Owns.start h1).nils 1, rfl⟩
  rintro Y t vs hh ⟨k, n, y, b, w, hkt, rfl, hnk, hbl, o, hf⟩ hY
  have hle : h.le hh := za.le_trans o1.le o.le
  have hxx := hx.mono hle
  have vle := valLen_le L k
  simp -dsimp only [zba.l3, zba.k2, lssN, B.zf]
  refine B.ze (fun hc => ?_) (fun hc => ?_)
  ·rw [decide_eq_true_eq] at hc
   obtain ⟨z, hz⟩ := zc6 hc
   obtain ⟨kx, vx, e1, e2, e3, e4, e5, e6, a1, a2⟩ := ztl hxx hz
   have hd : L.drop k = z :: L.drop (k + 1) := by
    rw [List.drop_eq_getElem_cons hc]
    congr 1
    rw [List.getElem?_eq_getElem hc] at hz
    exact Option.some.inj hz
   rw [hd, zmw] at hf
   have vst := valLen_take hz
   have vle1 := valLen_le L (k + 1)
   have l1 := a1.zi
   have l2 := a2.zi
   have ly := (o.slAt 0 rfl : SlX hh 1 y (b.map bc) []).zi
   rw [List.length_map] at ly
   obtain ⟨z0, R0, f1, f2, _⟩ := b0.zjq (by omega) (lo := 0) (hi := 10) (a := none) (b := some (.int .i64 ((10 : Nat) : Int))) (.inl ⟨rfl, rfl⟩) (.inr ⟨_, rfl⟩) (by omega) (by omega)
   rw [List.drop_zero] at f2
   have f1 : V.zfs 1 k0 none (some (.int .i64 10)) = some z0 := f1
   have hpre : Bs hh z0 ((keyP s r 0).take 10) := ⟨⟨R0, f2.mono o.le⟩, by unfold far; simp; omega⟩
   have h10 : ((keyP s r 0).take 10).length = 10 := by simp; omega
   have skip : mineB s r z = false → Y [y, .int .i64 (n : Int), .bool w, .int .i64 ((k + 1 : Nat) : Int)] hh := fun e => by
    rw [if_neg (by rw [e]; exact Bool.false_ne_true)] at hf
    exact hY (L.length - (k + 1)) _ _ (by omega) ⟨k + 1, n, y, b, w, by omega, rfl, by omega, by omega, o, hf⟩
   by_cases h12 : z.Key.length = 12
   ·have h12' : decide ((z.Key.length : Int) = 12) = true := by rw [decide_eq_true_eq]; omega
    simp -dsimp [e1, e2, l1, l0, h12', f1]
    refine s2 kx z0 z.Key _ hh _ a1 hpre ?_
    rw [h10]
    simp -dsimp
    refine B.ze (fun hp => ?_) (fun hp => ?_)
    ·simp -dsimp only [add1 (show k < 4611686018427387904 by omega), B.zf]
     exact skip (by unfold mineB; rw [Bool.not_eq_true'] at hp; rw [hp, Bool.and_false])
    ·rw [Bool.not_eq_false'] at hp
     have hm : mineB s r z = true := by unfold mineB; rw [decide_eq_true h12, hp]; rfl
     rw [if_pos hm] at hf
     have em : V.bin .mul (.int .i64 (n : Int)) (.int .i64 180) = some (.int .i64 ((n * 180 : Nat) : Int)) := by rw [V.bin_mul, wrap_i64 (by omega) (by omega)]; simp
     have ee : decide (((b.length : Nat) : Int) = ((n * 180 : Nat) : Int)) = decide (b.length = n * 180) := decide_eq_decide.2 (by omega)
     have fin : ∀ (c : Bool) (h2 : za), hh.le h2 → Owns h1 h2 [.sl 1 y (b.map bc) []] → c = (w && wholeB s r b n z) →
       B.appW h2 1 1 y vx fun v75 h => B.pv (V.bin .add (.int .i64 (n : Int)) (.int .i64 1)) fun v77 => B.pv (V.bin .add (.int .i64 (k : Int)) (.int .i64 1)) fun v78 => Y [v75, v77, .bool c, v78] h := by
      intro c h2 hle2 o2 ec
      obtain ⟨⟨Rv, hvv⟩, _⟩ := a2.mono hle2
      refine o2.appW 0 rfl hvv (by omega) (by simp; omega) (by simp [maxLen]; omega) fun y' h3 o3 _ => ?_
      simp -dsimp only [add1 (show n < 4611686018427387904 by omega), add1 (show k < 4611686018427387904 by omega), B.zf]
      refine hY (L.length - (k + 1)) _ _ (by omega) ⟨k + 1, n + 1, y', b ++ z.Value, c, by omega, rfl, by omega, by simp; omega, by rw [List.map_append]; exact o3, ?_⟩
      rw [← hf, ec]
     have hnb : n + 1 < 4611686018427387904 := by omega
     cases w with
     | false =>
      simp -dsimp [- V.zet, - V.bin_mul]
      exact fin false hh (za.le_refl _) o rfl
     | true =>
      simp -dsimp
      refine s1 s r n hh _ fun kv h2 o2 _ => ?_
      have bk : Bs h2 kv (keyP s r n) := ⟨⟨[], o2.slAt 0 rfl⟩, by unfold keyP far; cases zvf s r n <;> simp⟩
      simp -dsimp
      refine s3 kx kv _ _ h2 _ (a1.mono o2.le) bk ?_
      have l2' := l2
      simp +contextual -dsimp [ly, l2, em, - V.bin_mul, - V.zet]
      refine fin _ h2 o2.le (o.grow o2.le) ?_
      unfold wholeB
      have q1 : ((b.length : Int) = (n : Int) * 180) ↔ b.length = n * 180 := by omega
      have q2 : ((z.Value.length : Int) ≤ 180) ↔ z.Value.length ≤ 180 := by omega
      rw [decide_eq_decide.2 q1, decide_eq_decide.2 q2, Bool.true_and]
      cases decide (z.Key = keyP s r n) <;> cases decide (b.length = n * 180) <;> cases decide (0 < z.Value.length) <;> rfl
   ·have h12' : decide ((z.Key.length : Int) = 12) = false := by rw [decide_eq_false_iff_not]; omega
    simp -dsimp [e1, e2, l1, l0, h12', - V.zet, add1 (show k < 4611686018427387904 by omega)]
    exact skip (by unfold mineB; rw [decide_eq_false h12]; rfl)
  ·rw [decide_eq_false_iff_not] at hc
   have : k = L.length := by omega
   subst this
   rw [List.drop_length, zmw] at hf
   rw [← hf] at hans
   have hy := o.slAt 0 rfl
   have ly : V.zi y = some (.int .i64 (b.length : Int)) := by have := hy.zi; rwa [List.length_map] at this
   simp -dsimp only [zba.k1]
   refine s4 y b hh _ ⟨⟨[], hy⟩, by omega⟩ fun x' y' h2 o2 => ?_
   have cx : x'.zl = true := (o2.slAt 0 rfl).zl
   have cy : y'.zl = true := (o2.slAt 1 rfl).zl
   have hle2 : h.le h2 := za.le_trans hle o2.le
   cases w with
   | false =>
    simp -dsimp [zf3.val]
    exact zero h2 hle2 (by rw [hans]; unfold zvs; rw [if_neg]; rintro ⟨e, _⟩; cases e)
   | true =>
    by_cases g1 : (zjp b).2.2 = 0
    ·by_cases g2 : (zjp b).2.1 = b.length
     ·simp -dsimp [zf3.val, g1, g2, ly]
      have : zjj s r L = ((zjp b).1, true) := by rw [hans]; unfold zvs; rw [if_pos ⟨rfl, g1, g2⟩]
      rw [this] at hq
      exact zj (hq x' y' h2 (o2.back hle))
     ·have g2' : ¬ ((zjp b).2.1 : Int) = b.length := by omega
      simp -dsimp [zf3.val, g1, g2', ly]
      exact zero h2 hle2 (by rw [hans]; unfold zvs; rw [if_neg]; rintro ⟨_, _, e⟩; exact g2 e)
    ·simp -dsimp [zf3.val, g1]
     exact zero h2 hle2 (by rw [hans]; unfold zvs; rw [if_neg]; rintro ⟨_, e, _⟩; exact g1 e)
def itemW : DK Itm (AVal × AVal) where
 n := 4
 bytes := 72
 z := [.str [], .int .i64 0, .nils, .nils]
 pos := by omega
 small := by omega
 zlen := rfl
 cells t a := [.str t.Code, .int .i64 t.Life, a.1, a.2]
 len _ _ := rfl
 at_ h t a := (∃ R, SlX h 2 a.1 (t.zdd.map Part.cs) R) ∧ (∃ R, SlX h 1 a.2 (t.zck.map tc) R)
 mono hle ha := ⟨ha.1.imp fun _ r => r.mono hle, ha.2.imp fun _ r => r.mono hle⟩
 ok _ := True
 at_ok _ := trivial
 obs b t a := [zrb b a.1 t.zdd, zq0 b a.2 t.zck]
 zuy {b h t a} _ ha := ⟨⟨_, show SlX h 2 a.1 (t.zdd.map Part.cs) (bif b then zj0 else []) from ha (zrb b a.1 t.zdd) (by simp)⟩, ⟨_, show SlX h 1 a.2 (t.zck.map tc) (bif b then ziv else []) from ha (zq0 b a.2 t.zck) (by simp)⟩⟩
theorem itemW_K {h : za} {x : AVal} {L : List Itm} (hx : Dl itemW h x L) (hok : ∀ t ∈ L, t.ok) : Dl zd6 h x L := by
 obtain ⟨P, R, rfl, s, ha⟩ := hx
 exact ⟨P, R, rfl, s, fun p hp => ⟨(ha p hp).1, (ha p hp).2, hok p.1 (List.mem_map_of_mem hp)⟩⟩
def Itm.inLen (t : Itm) : Prop := t.Code.length < 4611686018427387904 ∧ (∀ p ∈ t.zdd, p.Item.length < 4611686018427387904) ∧ (∀ o ∈ t.zck, o.length < 4611686018427387904) ∧ t.zdd.length < 100000000000000000 ∧ t.zck.length < 100000000000000000
abbrev tyItem : Ty := .st [.s, .i .i64, .sl 24 2 tyPart, .sl 16 1 .s]
theorem absSl1 {H : za} {b e : Nat} {t : Ty} {c : List AVal} (h : zhc H (.sl b e t) c) : ∃ v, c = [v] := by
 rcases h with h | h | ⟨_, _, h, _⟩ <;> exact ⟨_, h⟩
theorem dPartL {H : za} {p : List AVal} (h : zhc H tyPart p) : ∃ w : Part, p = w.cs ∧ w.Item.length < 4611686018427387904 := by
 obtain ⟨a, r, rfl, ⟨n1, rfl, q1⟩, ⟨b, r2, rfl, ⟨n2, rfl, _⟩, hr⟩⟩ := h
 cases hr
 exact ⟨⟨n1, n2⟩, rfl, by unfold reach at q1; show n1.length < _; omega⟩
theorem dPartsL {H : za} {v : AVal} (h : zhc H (.sl 24 2 tyPart) [v]) : ∃ L : List Part, SlIs H 2 v (L.map Part.cs) ∧ L.length < 100000000000000000 ∧ ∀ l ∈ L, l.Item.length < 4611686018427387904 := by
 obtain ⟨L, h1, h2, h3⟩ := znf Part.cs (fun l => l.Item.length < 4611686018427387904) (fun p hp => dPartL hp) h
 exact ⟨L, h1, by unfold reach at h2; omega, h3⟩
theorem dTextW {H : za} {p : List AVal} (h : zhc H .s p) : ∃ s : List UInt8, p = tc s ∧ s.length < 4611686018427387904 := by
 obtain ⟨s, rfl, q⟩ := h
 exact ⟨s, rfl, by unfold reach at q; omega⟩
theorem dTextsL {H : za} {v : AVal} (h : zhc H (.sl 16 1 .s) [v]) : ∃ L : List (List UInt8), SlIs H 1 v (L.map tc) ∧ L.length < 100000000000000000 ∧ ∀ s ∈ L, s.length < 4611686018427387904 := by
 obtain ⟨L, h1, h2, h3⟩ := znf tc (fun s => s.length < 4611686018427387904) (fun p hp => dTextW hp) h
 exact ⟨L, h1, by unfold reach at h2; omega, h3⟩
theorem dItem {H : za} {p : List AVal} (h : zhc H tyItem p) : ∃ (t : Itm) (a : AVal × AVal), p = itemW.cells t a ∧ itemW.at_ H t a ∧ t.inLen := by
 obtain ⟨a, r, rfl, ⟨n1, rfl, q1⟩, ⟨b, r2, rfl, ⟨n2, rfl, _⟩, ⟨c, r3, rfl, h3, ⟨d, r4, rfl, h4, hr⟩⟩⟩⟩ := h
 cases hr
 obtain ⟨v, rfl⟩ := absSl1 h3
 obtain ⟨w, rfl⟩ := absSl1 h4
 obtain ⟨P, k1, k2, k3⟩ := dPartsL h3
 obtain ⟨O, g1, g2, g3⟩ := dTextsL h4
 exact ⟨⟨n1, n2, P, O⟩, (v, w), rfl, ⟨⟨[], k1⟩, ⟨[], g1⟩⟩, by unfold reach at q1; show n1.length < _; omega, k3, g3, k2, g2⟩
theorem arg_sliceDP {T Ad : Type} {K : DK T Ad} {Pr : T → Prop} {H : za} {bytes : Nat} {e : Ty} {v : AVal} (hd : ∀ p, zhc H e p → ∃ (t : T) (a : Ad), p = K.cells t a ∧ K.at_ H t a ∧ Pr t) (h : zhc H (.sl bytes K.n e) [v]) : ∃ L : List T, Dl K H v L ∧ L.length * bytes ≤ reach ∧ ∀ t ∈ L, Pr t := by
 obtain ⟨G, h1, h2⟩ := arg_slice (T := { p : T × Ad // K.at_ H p.1 p.2 ∧ Pr p.1 }) (fun p => K.cells p.1.1 p.1.2) (fun p hp => by obtain ⟨t, a, e, k⟩ := hd p hp; exact ⟨⟨(t, a), k⟩, e⟩) h
 refine ⟨(G.map (·.1)).map (·.1), ⟨G.map (·.1), [], rfl, ?_, fun p hp => ?_⟩, by simpa using h2, fun t ht => ?_⟩
 ·rw [List.map_map]; exact h1
 ·obtain ⟨q, _, rfl⟩ := List.mem_map.1 hp; exact q.2.1
 ·obtain ⟨q, hq, rfl⟩ := List.mem_map.1 ht
  obtain ⟨q', _, rfl⟩ := List.mem_map.1 hq
  exact q'.2.2
theorem dItems {H : za} {v : AVal} (h : zhc H (.sl 72 4 tyItem) [v]) : ∃ L : List Itm, Dl itemW H v L ∧ L.length < 4611686018427387904 ∧ ∀ t ∈ L, t.inLen := by
 obtain ⟨L, h1, h2, h3⟩ := arg_sliceDP (K := itemW) (fun p hp => dItem hp) h
 exact ⟨L, h1, by unfold reach at h2; omega, h3⟩
def zcm.Spec (C : CSem) (N : Nat → Nat) : Prop := ∀ (s t : Sta) (x y z u v w : AVal) (h : za) (Q : AVal → za → Prop), zla h s x y z → zla h t u v w → Q (.bool (decide (s = t))) h → C (N 116) [.agg (zka s x y z), .agg (zka t u v w)] h Q
theorem Sta.eq_iff (s t : Sta) : s = t ↔ ((((s.Now = t.Now ∧ s.zhx = t.zhx) ∧ s.zgq = t.zgq) ∧ s.zd9 = t.zd9) ∧ s.Lots = t.Lots) ∧ s.zd8 = t.zd8 := by
 cases s; cases t; simp [Sta.mk.injEq, and_assoc]
theorem zcm.spec (i : zcm.Imp C N) (s1 : zbq.Spec C N) (s2 : zda.Spec C N) (s3 : zco.Spec C N) : zcm.Spec C N := by
 intro s t x y z u v w h Q hs ht hq
 obtain ⟨a1, ⟨R2, a2⟩, ⟨R3, a3⟩, n1, n2, n3⟩ := hs
 obtain ⟨b1, ⟨S2, b2⟩, ⟨S3, b3⟩, m1, m2, m3⟩ := ht
 apply i
 simp +contextual -dsimp
 refine B.zea (v := .bool (decide (s.zd9 = t.zd9))) (fun _ Q hq => s1 _ _ _ _ _ _ a1 b1 (by omega) hq) ?_
 simp +contextual -dsimp
 refine B.zea (v := .bool (decide (s.Lots = t.Lots))) (fun _ Q hq => s2 _ _ _ _ _ _ _ _ a2 b2 (by omega) hq) ?_
 simp +contextual -dsimp
 refine B.zea (v := .bool (decide (s.zd8 = t.zd8))) (fun _ Q hq => s3 _ _ _ _ _ _ _ _ a3 b3 (by omega) hq) ?_
 simp -dsimp
 refine zj ?_
 have : decide (s = t) = (((((decide (s.Now = t.Now) && decide (s.zhx = t.zhx)) && decide (s.zgq = t.zgq)) && decide (s.zd9 = t.zd9)) && decide (s.Lots = t.Lots)) && decide (s.zd8 = t.zd8)) := by
  rw [Bool.eq_iff_iff]
  simp only [decide_eq_true_eq, Bool.and_eq_true]
  exact Sta.eq_iff s t
 rw [this] at hq
 exact hq
structure StaW (h : za) (s : Sta) (x y z : AVal) : Prop where
 items : Dl itemW h x s.zd9
 lots : ∃ R, SlX h 6 y (s.Lots.map Lot.cs) R
 lines : ∃ R, SlX h 8 z (s.zd8.map Line.cs) R
 n1 : s.zd9.length < 4611686018427387904
 n2 : s.Lots.length < 1000000000000000000
 n3 : s.zd8.length < 1000000000000000000
 inl : ∀ t ∈ s.zd9, t.inLen
structure StaB (s : Sta) : Prop where
 n : s.zd9.length + s.Lots.length + s.zd8.length ≤ 2000
 ok : ∀ t ∈ s.zd9, t.zdd.length ≤ 2000 ∧ t.zck.length ≤ 2000
theorem StaB.at {h : za} {s : Sta} {x y z : AVal} (b : StaB s) (a : StaW h s x y z) : zla h s x y z :=
 ⟨itemW_K a.items fun t ht => by have := b.ok t ht; unfold Itm.ok few; omega, a.lots, a.lines, by have := b.n; omega, by have := b.n; omega, by have := b.n; omega⟩
theorem itm_getP {h : za} {x : AVal} {L : List Itm} (hx : Dl itemW h x L) {i : Nat} {r : Itm} (hr : L[i]? = some r) : ∃ p o, V.idxS 4 x (.int .i64 (i : Int)) = some (elp 4 x i 0) ∧
  V.fieldAddr 2 (elp 4 x i 0) = some (elp 4 x i 2) ∧ V.fieldAddr 3 (elp 4 x i 0) = some (elp 4 x i 3) ∧ A.ldv h (elp 4 x i 2) = some p ∧ A.ldv h (elp 4 x i 3) = some o ∧ V.zi p = some (.int .i64 (r.zdd.length : Int)) ∧ V.zi o = some (.int .i64 (r.zck.length : Int)) := by
 obtain ⟨a, ea⟩ := hx.get hr
 obtain ⟨⟨R1, a1⟩, ⟨R2, a2⟩⟩ := ea.at_
 have l1 := a1.zi
 have l2 := a2.zi
 rw [List.length_map] at l1 l2
 exact ⟨a.1, a.2, ea.idx, ea.fld 0 2, ea.fld 0 3, ea.ld 2 (by decide), ea.ld 3 (by decide), l1, l2⟩
def zb8.Spec (C : CSem) (N : Nat → Nat) : Prop := ∀ (s : Sta) (x y z : AVal) (h : za) (Q : AVal → za → Prop), StaW h s x y z → (∀ b : Bool, (b = false → StaB s) → Q (.bool b) h) → C (N 416) [.agg (zka s x y z)] h Q
theorem zb8.spec (i : zb8.Imp C N) : zb8.Spec C N := by
 intro s x y z h Q ha hq
 obtain ⟨hx, ⟨R2, hy⟩, ⟨R3, hz⟩, n1, n2, n3, inl⟩ := ha
 have lx := hx.zi
 have ly := hy.zi
 have lz := hz.zi
 rw [List.length_map] at ly lz
 apply i
 have b0 := addNN (a := s.Lots.length) (b := s.zd8.length) (by omega)
 simp -dsimp [ly, lz, b0, - V.zet]
 refine zg.intro (fun t vs hh => hh = h ∧ ∃ k n : Nat, k + t = s.zd9.length ∧ vs = [.int .i64 (n : Int), .int .i64 (k : Int)] ∧ n < 4000000000000000000 ∧ s.Lots.length + s.zd8.length + k ≤ n ∧ (n ≤ 2000 → ∀ t ∈ s.zd9.take k, t.zdd.length ≤ 2000 ∧ t.zck.length ≤ 2000)) s.zd9.length ?_ ⟨rfl, 0, s.Lots.length + s.zd8.length, by omega, rfl, by omega, by omega, fun _ t h => (by simp at h)⟩
 rintro Y t vs h ⟨rfl, k, n, ht, rfl, hn, hsum, hall⟩ hY
 simp -dsimp only [zb8.l2, zb8.k1]
 by_cases hk : k < s.zd9.length
 ·by_cases h4 : n ≤ 2000
  ·have h4' : (n : Int) ≤ 2000 := by omega
   obtain ⟨r, hr⟩ := zc6 hk
   obtain ⟨p, o, e1, e4, e5, e6, e7, e8, e9⟩ := itm_getP hx hr
   obtain ⟨_, _, _, hp, hoo⟩ := inl r (List.mem_of_getElem? hr)
   have c1 := add1 (show n < 4611686018427387904 by omega)
   have c2 := addNN (a := n + 1) (b := r.zdd.length) (by omega)
   have c3 := addNN (a := n + 1 + r.zdd.length) (b := r.zck.length) (by omega)
   have c4 := add1 (show k < 4611686018427387904 by omega)
   simp -dsimp [lx, hk, h4', - V.zet]
   simp -dsimp only [B.zhz, V.zej, List.getElem?_cons_zero, List.getElem?_cons_succ, B.zh0, B.zf, e1, e4, e5, e6, e7, e8, e9, c1, c2, c3, c4]
   refine hY (t - 1) _ _ (by omega) ⟨rfl, k + 1, n + 1 + r.zdd.length + r.zck.length, by omega, rfl, by omega, by omega, fun hle w hw => ?_⟩
   rw [take_succ hr, List.mem_append] at hw
   rcases hw with hw | hw
   ·exact hall h4 w hw
   ·rw [List.mem_singleton.1 hw]; omega
  ·have h4' : ¬ (n : Int) ≤ 2000 := by omega
   have h4'' : (2000 : Int) < n := by omega
   simp -dsimp [lx, hk, h4', h4'']
   exact zj (hq true fun e => by cases e)
 ·have hkk : k = s.zd9.length := by omega
  subst hkk
  rw [List.take_length] at hall
  simp -dsimp [lx]
  by_cases h4 : n ≤ 2000
  ·have h4' : ¬ (2000 : Int) < n := by omega
   simp -dsimp [h4']
   exact zj (hq false fun _ => ⟨by omega, hall h4⟩)
  ·have h4' : (2000 : Int) < n := by omega
   simp -dsimp [h4']
   exact zj (hq true fun e => by cases e)
structure StaOk (s : Sta) : Prop where
 lots : ∀ l ∈ s.Lots, inI64 l.Id
 lines : ∀ l ∈ s.zd8, inI64 l.Id
structure PlainF (s : Sta) : Prop where
 now0 : 0 ≤ s.Now
 now1 : s.Now ≤ 4000
 lot0 : 0 < s.zhx
 lot1 : s.zhx ≤ 4611686018427387904
 line0 : 0 < s.zgq
 line1 : s.zgq ≤ 4611686018427387904
 items : zue s.zd9 = true
 lots : lotsB s.Lots = true
 lines : linesB s.zd8 = true
theorem plain_iff {s : Sta} : zgx s = true ↔ PlainF s := by
 unfold zgx numsB
 simp only [Bool.and_eq_true, decide_eq_true_eq]
 constructor
 ·rintro ⟨⟨⟨⟨⟨⟨a, b⟩, c⟩, d⟩, e⟩, f⟩, g, h, i⟩
  exact ⟨a, b, c, d, e, f, g, h, i⟩
 ·rintro ⟨a, b, c, d, e, f, g, h, i⟩
  exact ⟨⟨⟨⟨⟨⟨a, b⟩, c⟩, d⟩, e⟩, f⟩, g, h, i⟩
def smallI : Itm := ⟨[65], 5, [], []⟩
def smallL : Lot := ⟨1, [65], 3, 8, 5, true⟩
def zit : Sta := ⟨3, 2, 1, [smallI], [smallL], []⟩
theorem small_n : StaN zit 2 := ⟨by simp [zit], fun t ht => by rw [List.mem_singleton.1 ht]; exact ⟨Nat.zero_le _, Nat.zero_le _⟩⟩
theorem zq4 : allRows zit = [⟨[42, 100, 97, 121], [0, 3]⟩, ⟨[42, 108, 105, 110, 101], [0, 0, 0, 0, 0, 0, 0, 1]⟩, ⟨[42, 108, 111, 116], [0, 0, 0, 0, 0, 0, 0, 2]⟩, ⟨[105, 65], [0, 5, 0, 0]⟩, ⟨[108, 0, 0, 0, 0, 0, 0, 0, 1], [1, 65, 0, 3, 0, 8, 0, 0, 0, 5, 1]⟩] := by decide +kernel
theorem small_state : ziz (allRows zit) = (zit, 0) := by decide +kernel
def zuk : zf3 := ⟨5, 0, 0, [], 0, [], []⟩
theorem zmk : zi6 1 7 zuk = ([⟨[97, 1, 0, 0, 0, 0, 0, 0, 0, 7, 0, 0], [0, 5]⟩], 0) := by decide +kernel
theorem five_back : zjj 1 7 (zi6 1 7 zuk).1 = (zuk, true) := by decide +kernel
def zd4.Spec (C : CSem) (N : Nat → Nat) : Prop := ∀ (h : za) (Q : AVal → za → Prop), (∀ x P y z h', P.map (·.1) = zit.zd9 → Owns h h' (StaO zit x P y z) → Q (.agg (zka zit x y z)) h') → C (N 422) [] h Q
theorem zd4.spec (i : zd4.Imp C N) : zd4.Spec C N := by
 intro h Q hq
 apply i
 simp -dsimp
 intro i2 h2
 have o1 := (Owns.start h).zof (id := i2) (n := 1) (cp := 1) (es := 4) (cs := [.str [65], .int .i64 5, .nils, .nils]) (L := [zd6.cs (smallI, (.nils, .nils))]) (R := []) h2 (fun p hp => by rw [List.mem_singleton.1 hp]; rfl) rfl (by simp) rfl
 generalize upd h i2 (zel _) = h1 at *
 simp -dsimp
 intro i5 h5
 have o2 := o1.zof (id := i5) (n := 1) (cp := 1) (es := 6) (cs := smallL.cs) (L := [smallL.cs]) (R := []) h5 (by simp) rfl (by simp) (by simp)
 have o3 := ((o2.nils 8).nils 2).nils 1
 simp -dsimp
 exact zj (hq _ [(smallI, (.nils, .nils))] _ _ _ rfl o3)
def zdm.Spec (C : CSem) (N : Nat → Nat) : Prop := ∀ (h : za) (Q : AVal → za → Prop), Q (.bool true) h → C (N 418) [] h Q
theorem zdm.spec (i : zdm.Imp C N) (s1 : zd4.Spec C N) (s2 : zq.Spec C N) (s3 : zx.Spec C N) (s4 : zbw.Spec C N) (s5 : zba.Spec C N) (s6 : zci.SpecL C N) (s7 : zcm.Spec C N) : zdm.Spec C N := by
 intro h Q hq
 apply i
 simp -dsimp only [zdm.cps, zdm.k1]
 refine s1 _ _ fun x P y z h1 eP o1 => ?_
 have a1 : zla h1 zit x y z := StaO.at o1 (fun o ho => ho) eP small_n (by omega)
 refine s2 _ _ _ _ _ _ a1 (by simp [zit]) fun r R h2 eR o2 => ?_
 have dr : Dl rowK h2 r (allRows zit) := by
  rw [← eR]
  exact Df.dl o2 fun p hp => zry (s := zit) _ (by rw [← eR]; exact List.mem_map.2 ⟨p, hp, rfl⟩)
 have lr := dr.zi
 rw [show (allRows zit).length = 5 by rw [zq4]; rfl] at lr
 have hst := small_state
 simp -dsimp [lr]
 refine s3 r _ h2 _ dr (by rw [zq4]; simp) fun x3 P3 y3 z3 h3 eP3 hN3 o3 => ?_
 rw [hst] at eP3 hN3 o3 ⊢
 have a3 : zla h3 zit x3 y3 z3 := StaO.at o3 (fun o ho => ho) eP3 small_n (by omega)
 have c1 := a3.items.zl
 have c2 : y3.zl = true := a3.lots.elim fun _ r => r.zl
 have c3 : z3.zl = true := a3.lines.elim fun _ r => r.zl
 simp -dsimp
 have ht : zut h3 zuk .nils .nils := ⟨⟨[], SlX.nils h3 6⟩, ⟨[], SlX.nils h3 3⟩⟩
 refine s4 1 7 zuk .nils .nils h3 _ ht (by simp [zuk]) (by simp [zuk]) fun a A h4 eA o4 => ?_
 have da : Dl rowK h4 a (zi6 1 7 zuk).1 := by
  rw [← eA]
  exact Df.dl o4 fun p hp => by
   have : p.1 ∈ (zi6 1 7 zuk).1 := by rw [← eA]; exact List.mem_map.2 ⟨p, hp, rfl⟩
   rw [zmk] at this
   rw [List.mem_singleton.1 this]
   exact ⟨by simp [far], by simp [far]⟩
 simp -dsimp
 refine s5 1 7 a _ h4 _ da (by rw [zmk]; simp) (by rw [zmk]; simp [zpz]) fun u v h5 o5 => ?_
 rw [five_back] at o5 ⊢
 have e5 : (zi6 1 7 zuk).2 = 0 := by rw [zmk]
 rw [e5]
 rw [zmk] at da
 have le35 : h3.le h5 := za.le_trans o4.le o5.le
 have dr5 := dr.mono (za.le_trans o3.le le35)
 rw [zq4] at dr5
 have da5 := da.mono o5.le
 obtain ⟨k0, v0, e01, e02, e03, e04, e05, e06, b01, b02⟩ := ztl dr5 (i := 0) rfl
 obtain ⟨k4, v4, e41, e42, e43, e44, e45, e46, b41, b42⟩ := ztl dr5 (i := 4) rfl
 obtain ⟨ka, va, ea1, ea2, ea3, ea4, ea5, ea6, ba1, ba2⟩ := ztl da5 (i := 0) rfl
 obtain ⟨Rk, q0⟩ := b01.1
 have e01 : V.idxS 2 r (.int .i64 0) = some (elp 2 r 0 0) := e01
 have ea1 : V.idxS 2 a (.int .i64 0) = some (elp 2 a 0 0) := ea1
 have e41 : V.idxS 2 r (.int .i64 4) = some (elp 2 r 4 0) := e41
 have cu : u.zl = true := (o5.slAt 0 rfl).zl
 have cv : v.zl = true := (o5.slAt 1 rfl).zl
 have la := da5.zi
 simp -dsimp [zuk, e01, e03, e05, ziq q0, e41, e43, e45]
 refine zfr 9 (s := [108, 0, 0, 0, 0, 0, 0, 0, 1]) rfl rfl fun i39 h6 o6 => ?_
 simp -dsimp
 refine s6 k4 _ _ _ h6 _ (b41.mono o6.le) ⟨⟨[], o6.slAt 0 rfl⟩, by simp [far]⟩ ?_
 have e46 := zr9 o6.le e46
 simp -dsimp [e41, e44, e46]
 refine zfr 11 (s := [1, 65, 0, 3, 0, 8, 0, 0, 0, 5, 1]) rfl rfl fun i47 h7 o7 => ?_
 simp -dsimp
 refine s6 v4 _ _ _ h7 _ ((b42.mono o6.le).mono o7.le) ⟨⟨[], o7.slAt 0 rfl⟩, by simp [far]⟩ ?_
 simp -dsimp
 refine s1 _ _ fun x8 P8 y8 z8 h8 eP8 o8 => ?_
 have a8 : zla h8 zit x8 y8 z8 := StaO.at o8 (fun o ho => ho) eP8 small_n (by omega)
 have le38 : h3.le h8 := za.le_trans le35 (za.le_trans o6.le (za.le_trans o7.le o8.le))
 simp -dsimp
 refine s7 zit zit _ _ _ _ _ _ h8 _ (a3.mono le38) a8 ?_
 have le58 : h5.le h8 := za.le_trans o6.le (za.le_trans o7.le o8.le)
 have ea5 := zr9 le58 ea5
 simp -dsimp [la, ea1, ea3, ea5]
 refine zfr 12 (s := [97, 1, 0, 0, 0, 0, 0, 0, 0, 7, 0, 0]) rfl rfl fun i73 h9 o9 => ?_
 simp -dsimp
 refine s6 ka _ _ _ h9 _ ((ba1.mono le58).mono o9.le) ⟨⟨[], o9.slAt 0 rfl⟩, by simp [far]⟩ ?_
 simp -dsimp
 have az : zla h9 zgu .nils .nils .nils := ⟨Dl.nils zd6 h9, ⟨[], SlX.nils h9 6⟩, ⟨[], SlX.nils h9 8⟩, by simp [zgu], by simp [zgu], by simp [zgu]⟩
 refine s2 zgu _ _ _ h9 _ az (by simp [zgu]) fun r2 R2 h10 eR2 o10 => ?_
 have ez : allRows zgu = [] := by decide +kernel
 rw [ez] at eR2
 have eR2 : R2 = [] := List.map_eq_nil_iff.1 eR2
 subst eR2
 have lz := (o10.slAt 0 rfl : SlX h10 2 r2 [] []).zi
 simp -dsimp [lz]
 refine zsu ?_ hq
 exact za.le_trans o1.le (za.le_trans o2.le (za.le_trans o3.le (za.le_trans le38 (za.le_trans o9.le o10.le))))
theorem V.bin_sgeq (a b : List UInt8) : V.bin .geq (.str a) (.str b) = some (.bool (!zrj a b)) := rfl
theorem allRows_plain {s : Sta} (h : zgx s = true) : allRows s = zq3 s := by unfold allRows; rw [h]; rfl
theorem dLotA {H : za} {p : List AVal} (h : zhc H tyLot p) : ∃ w : Lot, p = w.cs ∧ w.Item.length < 4611686018427387904 ∧ w.ok := by
 obtain ⟨a, r, rfl, ⟨n1, rfl, m1, m2⟩, ⟨b, r2, rfl, ⟨n2, rfl, k⟩, ⟨c, r3, rfl, hw, ⟨d, r4, rfl, ⟨n4, rfl, m3, m4⟩, ⟨e, r5, rfl, ⟨n5, rfl⟩, hr⟩⟩⟩⟩⟩ := h
 cases hr
 obtain ⟨w, rfl⟩ := dWindow hw
 exact ⟨⟨n1, n2, w.From, w.zog, n4, n5⟩, rfl, by unfold reach at k; show n2.length < _; omega, i64_of m1 m2, i64_of m3 m4⟩
theorem dLotsA {H : za} {v : AVal} (h : zhc H (.sl 56 6 tyLot) [v]) : ∃ L : List Lot, SlIs H 6 v (L.map Lot.cs) ∧ L.length < 1000000000000000000 ∧ ∀ l ∈ L, l.Item.length < 4611686018427387904 ∧ l.ok := by
 obtain ⟨L, h1, h2, h3⟩ := znf Lot.cs (fun l => l.Item.length < 4611686018427387904 ∧ l.ok) (fun p hp => dLotA hp) h
 exact ⟨L, h1, by unfold reach at h2; omega, h3⟩
theorem dLineA {H : za} {p : List AVal} (h : zhc H tyLine p) : ∃ w : Line, p = w.cs ∧ (w.Item.length < 4611686018427387904 ∧ w.Code.length < 4611686018427387904) ∧ inI64 w.Id := by
 obtain ⟨a, r, rfl, ⟨n1, rfl, m1, m2⟩, ⟨b, r2, rfl, ⟨n2, rfl, q1⟩, ⟨c, r3, rfl, ⟨n3, rfl, _⟩, ⟨d, r4, rfl, ⟨n4, rfl, _⟩, ⟨e, r5, rfl, ⟨n5, rfl, _⟩, ⟨f, r6, rfl, ⟨n6, rfl, k1, k2⟩, ⟨g, r7, rfl, ⟨n7, rfl, _⟩, ⟨i, r8, rfl, ⟨n8, rfl, q2⟩, hr⟩⟩⟩⟩⟩⟩⟩⟩ := h
 cases hr
 refine ⟨⟨n1, n2, n3, n4, n5, UInt8.ofNat n6.toNat, n7, n8⟩, ?_, ⟨by unfold reach at q1; show n2.length < _; omega, by unfold reach at q2; show n8.length < _; omega⟩, i64_of m1 m2⟩
 rw [Line.cs, u8_of k1 k2]; rfl
theorem dLinesA {H : za} {v : AVal} (h : zhc H (.sl 80 8 tyLine) [v]) : ∃ L : List Line, SlIs H 8 v (L.map Line.cs) ∧ L.length < 1000000000000000000 ∧ ∀ l ∈ L, (l.Item.length < 4611686018427387904 ∧ l.Code.length < 4611686018427387904) ∧ inI64 l.Id := by
 obtain ⟨L, h1, h2, h3⟩ := znf Line.cs (fun l => (l.Item.length < 4611686018427387904 ∧ l.Code.length < 4611686018427387904) ∧ inI64 l.Id) (fun p hp => dLineA hp) h
 exact ⟨L, h1, by unfold reach at h2; omega, h3⟩
abbrev tySta : List Ty := [.i .i64, .i .i64, .i .i64, .sl 72 4 tyItem, .sl 56 6 tyLot, .sl 80 8 tyLine]
theorem dState {H : za} {p : List AVal} (h : zmy H tySta p) : ∃ (s : Sta) (x y z : AVal), p = zka s x y z ∧ StaW H s x y z ∧ StaOk s := by
 obtain ⟨a, r, rfl, ⟨n1, rfl, _⟩, ⟨b, r2, rfl, ⟨n2, rfl, _⟩, ⟨c, r3, rfl, ⟨n3, rfl, _⟩, ⟨d, r4, rfl, h4, ⟨e, r5, rfl, h5, ⟨f, r6, rfl, h6, hr⟩⟩⟩⟩⟩⟩ := h
 cases hr
 obtain ⟨x, rfl⟩ := absSl1 h4
 obtain ⟨y, rfl⟩ := absSl1 h5
 obtain ⟨z, rfl⟩ := absSl1 h6
 obtain ⟨I, i1, i2, i3⟩ := dItems h4
 obtain ⟨O, j1, j2, j3⟩ := dLotsA h5
 obtain ⟨L, l1, l2, l3⟩ := dLinesA h6
 exact ⟨⟨n1, n2, n3, I, O, L⟩, x, y, z, rfl, ⟨i1, ⟨[], j1⟩, ⟨[], l1⟩, i2, j2, l2, i3⟩, ⟨fun l hl => (j3 l hl).2.1, fun l hl => (l3 l hl).2⟩⟩
@[simp] def zoe.k1 (C : CSem) (n fm : Nat) (Q : AVal → za → Prop) (Y1 : List AVal → za → Prop) (v3 v4 : AVal) (h : za) : Prop :=
 B.pv (V.zi v3) fun v23 =>
  B.pv (V.bin .lss v4 v23) fun v24 =>
  B.cond v24
  (B.call C fm [(.int .i64 2), v4] h fun v30 h =>
  B.pv (V.idxS n v3 v4) fun v31 =>
  B.stn h v31 n v30 fun h =>
  B.pv (V.bin .add v4 (.int .i64 1)) fun v26 =>
  Y1 [v26] h)
  (Q (.tup []) h)
@[simp] def zoe.l2 (C : CSem) (n fm : Nat) (Q : AVal → za → Prop) (v3 : AVal) : List AVal → za → (List AVal → za → Prop) → Prop
 | [v4], h, Y1 => zoe.k1 C n fm Q Y1 v3 v4 h
 | _, _, _ => False
@[simp] def zoe.k3 (C : CSem) (n fm : Nat) (Q : AVal → za → Prop) (v0 : AVal) (h : za) : Prop :=
 B.pv (V.zi v0) fun v18 =>
  B.pv (V.bin .add v18 (.int .i64 12)) fun v19 =>
  B.pv (V.zfs n v0 none (some v19)) fun v20 =>
  zg (zoe.l2 C n fm Q v20) [(.int .i64 0)] h
@[simp] def zoe.k4 (C : CSem) (n fo fm : Nat) (Q : AVal → za → Prop) (Y2 : List AVal → za → Prop) (v0 v2 : AVal) (h : za) : Prop :=
 B.pv (V.zi v0) fun v7 =>
  B.pv (V.bin .lss v2 v7) fun v8 =>
  B.cond v8
  (B.pv (V.idxS n v0 v2) fun v13 =>
  B.ldn h v13 n fun v14 =>
  B.call C fo [v14] h fun v15 h =>
  B.pv (V.bin .add v2 (.int .i64 1)) fun v10 =>
  Y2 [v10] h)
  (zoe.k3 C n fm Q v0 h)
@[simp] def zoe.l5 (C : CSem) (n fo fm : Nat) (Q : AVal → za → Prop) (v0 : AVal) : List AVal → za → (List AVal → za → Prop) → Prop
 | [v2], h, Y2 => zoe.k4 C n fo fm Q Y2 v0 v2 h
 | _, _, _ => False
def zoe (C : CSem) (n fo fm : Nat) (v0 : AVal) (h : za) (Q : AVal → za → Prop) : Prop := zg (zoe.l5 C n fo fm Q v0) [(.int .i64 0)] h
section
variable {T Ad : Type} (K : DK T Ad)
def OverE (K : DK T Ad) (C : CSem) (f : Nat) : Prop := ∀ (t : T) (a : Ad) (h0 h : za) (Q : AVal → za → Prop), K.ok t → Owns h0 h (K.obs true t a) → (∀ h', h0.le h' → Q (.tup []) h') → C f [.agg (K.cells t a)] h Q
theorem overD_spec {mk : Int → Int → T} {fo fm : Nat} (so : OverE K C fo) (sm : MarkE K mk C fm) {h0 h : za} {x : AVal} {P PM : List (T × Ad)} {Q : AVal → za → Prop} (ho : Owns h0 h (.sl K.n x (P.map K.cs) (PM.map K.cs) :: (K.os true P ++ K.os false PM))) (hok : ∀ p ∈ P, K.ok p.1) (hM : PM.length = 12) (hl : P.length ≤ 100000000)
  (hq : ∀ h', h0.le h' → Q (.tup []) h') : zoe C K.n fo fm x h Q := by
 have ho1 : Owns h0 h (.sl K.n x (P.map K.cs) (PM.map K.cs) :: K.os true P) := ho.sub (List.Sublist.cons_cons _ (List.sublist_append_left _ _))
 have e1 : IntKind.i64.wrap ((P.length : Int) + 12) = ((P.length + 12 : Nat) : Int) := by rw [wrap_i64 (by omega) (by omega)]; omega
 refine zg.intro (fun n vs hh => ∃ k : Nat, k + n = P.length ∧ vs = [.int .i64 k] ∧ Owns h0 hh (.sl K.n x (P.map K.cs) (PM.map K.cs) :: K.os true (P.drop k))) P.length ?_ ⟨0, by omega, rfl, ho1⟩
 rintro Y n vs hh ⟨k, hk, rfl, o⟩ hY
 have hx := o.slAt 0 rfl
 have hlx := hx.zi
 rw [List.length_map] at hlx
 simp -dsimp only [zoe.l5, zoe.k4, hlx, lssN, B.zf]
 refine B.ze (fun hb => ?_) (fun hb => ?_)
 ·rw [decide_eq_true_eq] at hb
  have hd : P.drop k = P[k] :: P.drop (k + 1) := List.drop_eq_getElem_cons hb
  have hg : (P.map K.cs)[k]? = some (K.cells P[k].1 P[k].2) := by rw [List.getElem?_map, List.getElem?_eq_getElem hb]; rfl
  have hidx : V.idxS K.n x (.int .i64 (k : Int)) = some (elp K.n x k 0) := hx.idxN (by simpa using hb)
  simp -dsimp only [hidx, B.zij, hx.elem hg, B.zf]
  rw [hd] at o
  have eo : K.os true (P[k] :: P.drop (k + 1)) = K.obs true P[k].1 P[k].2 ++ K.os true (P.drop (k + 1)) := by simp only [DK.os, List.flatMap_cons]
  rw [eo] at o
  have o' : Owns h0 hh ((.sl K.n x (P.map K.cs) (PM.map K.cs) :: K.os true (P.drop (k + 1))) ++ K.obs true P[k].1 P[k].2) := o.perm (by
   rw [List.cons_append]
   exact List.Perm.cons _ (List.perm_append_comm))
  obtain ⟨o1, o2⟩ := o'.out
  refine so _ _ _ _ _ (hok _ (List.getElem_mem hb)) o2 fun h' hle => ?_
  simp -dsimp only [add1 (show k < 4611686018427387904 by omega), B.zf]
  exact hY (n - 1) _ _ (by omega) ⟨k + 1, by omega, rfl, o1.grow hle⟩
 ·rw [decide_eq_false_iff_not] at hb
  have o1 : Owns h0 hh [.sl K.n x (P.map K.cs) (PM.map K.cs)] := o.sub (List.Sublist.cons_cons _ (List.nil_sublist _))
  obtain ⟨z, e2, e3, e4⟩ := hx.slice K.pos (lo := 0) (hi := P.length + 12) (a := none) (b := some (.int .i64 ((P.length + 12 : Nat) : Int))) (.inl ⟨rfl, rfl⟩) (.inr ⟨_, rfl⟩) (by omega) (by simp; omega)
  have h1 : ((P.map K.cs ++ PM.map K.cs).take (P.length + 12)).drop 0 = P.map K.cs ++ PM.map K.cs := by rw [List.drop_zero, List.take_of_length_le]; simp; omega
  rw [h1] at e3
  simp -dsimp only [zoe.k3, hlx, V.zet, e1, e2, B.zf]
  have hoz : Owns h0 hh [.sl K.n z (P.map K.cs ++ PM.map K.cs) ((P.map K.cs ++ PM.map K.cs).drop (P.length + 12))] := o1.turn 0 rfl (o' := .sl K.n z (P.map K.cs ++ PM.map K.cs) ((P.map K.cs ++ PM.map K.cs).drop (P.length + 12))) e3 (fun id b hf hb => o1.zod 0 rfl id b (by show foot x = some id; rw [← e4]; exact hf) hb) (fun j b hb _ => hb) (.inl e4)
  refine zg.intro (fun n vs hh => ∃ (k : Nat) (L' : List (List AVal)), k + n = P.length + 12 ∧ vs = [.int .i64 k] ∧ L'.length = P.length + 12 ∧ Owns h0 hh [.sl K.n z L' ((P.map K.cs ++ PM.map K.cs).drop (P.length + 12))]) (P.length + 12) ?_ ⟨0, _, by omega, rfl, by simp [hM], hoz⟩
  rintro Y n vs hh ⟨k, L', hn, rfl, hl', ho'⟩ hY
  have hlz := (ho'.slAt 0 rfl).zi
  rw [hl'] at hlz
  simp -dsimp only [zoe.l2, zoe.k1, hlz, lssN, B.zf]
  refine B.ze (fun hc => ?_) (fun hc => ?_)
  ·rw [decide_eq_true_eq] at hc
   have hk : k < L'.length := by omega
   refine sm _ _ _ _ fun a' h2 o2 => ?_
   simp -dsimp only [(ho'.slAt 0 rfl).idxN hk, B.zf]
   refine (ho'.grow o2.le).stElem 0 rfl (c := L'[k]) (by simp [hk]) (K.len _ a') fun h3 o3 _ => ?_
   simp -dsimp only [add1 (show k < 4611686018427387904 by omega), B.zf]
   exact hY (P.length + 12 - (k + 1)) _ _ (by omega) ⟨k + 1, _, by omega, rfl, by simp [hl'], o3⟩
  ·exact hq _ ho'.le
end
def zdi.Spec (C : CSem) (N : Nat → Nat) : Prop := OverE zd6 C (N 401)
theorem zdi.spec (i : zdi.Imp C N) (s1 : zcx.Spec C N) (s2 : zcv.Spec C N) : zdi.Spec C N := by
 intro t a h0 h Q hok ho hq
 apply i
 have ho : Owns h0 h ([.sl 2 a.1 (t.zdd.map Part.cs) zj0] ++ [.sl 1 a.2 (t.zck.map tc) ziv]) := ho
 have ho' := ho.perm (List.perm_append_comm)
 obtain ⟨o1, o2⟩ := ho'.out
 simp -dsimp [zd6]
 refine s1 _ _ _ _ _ _ o2 (by simp [marks]) (by rw [List.length_map]; exact hok.1) fun h1 hle => ?_
 refine s2 _ _ _ _ _ _ (o1.grow hle) (by simp [ziv, zgr]) (by rw [List.length_map]; exact hok.2) fun h2 hle2 => ?_
 exact zj (hq _ hle2)
def zbi.Spec (C : CSem) (N : Nat → Nat) : Prop := ∀ (x : AVal) (P PM : List (Itm × AVal × AVal)) (h0 h : za) (Q : AVal → za → Prop), Owns h0 h (.sl 4 x (P.map zd6.cs) (PM.map zd6.cs) :: (zd6.os true P ++ zd6.os false PM)) → (∀ p ∈ P, zd6.ok p.1) → PM.length = 12 → P.length ≤ 100000000 →
 (∀ h', h0.le h' → Q (.tup []) h') → C (N 393) [x] h Q
theorem zbi.spec (i : zbi.Imp C N) (s1 : zdi.Spec C N) (s2 : zc4.Spec C N) : zbi.Spec C N := fun x P PM h0 h Q ho hok hM hl hq =>
 i x h Q (overD_spec zd6 s1 s2 ho hok hM hl fun h' hle => zj (hq h' hle))
abbrev StaL (s : Sta) (x : AVal) (P PM : List (Itm × (AVal × AVal))) (y z : AVal) : List Ob := (.sl 4 x (P.map zd6.cs) (PM.map zd6.cs) :: (zd6.os true P ++ zd6.os false PM)) ++ [.sl 6 y (s.Lots.map Lot.cs) zm6] ++ [.sl 8 z (s.zd8.map Line.cs) zk3]
structure StaK (h : za) (s : Sta) (x y z : AVal) : Prop where
 items : zsw zd6 zh8 h x s.zd9
 lots : SlX h 6 y (s.Lots.map Lot.cs) zm6
 lines : SlX h 8 z (s.zd8.map Line.cs) zk3
 n1 : s.zd9.length ≤ 100000000
 n2 : s.Lots.length ≤ 100000000
 n3 : s.zd8.length ≤ 100000000
theorem StaK.at {h : za} {s : Sta} {x y z : AVal} (k : StaK h s x y z) : zla h s x y z := ⟨k.items.dl, ⟨_, k.lots⟩, ⟨_, k.lines⟩, k.n1, k.n2, k.n3⟩
theorem StaK.mono {h h' : za} {s : Sta} {x y z : AVal} (k : StaK h s x y z) (hle : h.le h') : StaK h' s x y z := ⟨k.items.mono hle, k.lots.mono hle, k.lines.mono hle, k.n1, k.n2, k.n3⟩
def zcz.Spec (C : CSem) (N : Nat → Nat) : Prop := ∀ (s : Sta) (x y z : AVal) (h : za) (Q : AVal → za → Prop), zla h s x y z →
 (∀ x' P PM y' z' h', P.map (·.1) = s.zd9 → PM.map (·.1) = zt6 zh8 → Owns h h' (StaL s x' P PM y' z') → StaK h' s x' y' z' → Q (.agg (zka s x' y' z')) h') → C (N 446) [.agg (zka s x y z)] h Q
theorem zcz.spec (i : zcz.Imp C N) (s1 : zbg.Spec C N) (s2 : zdb.Spec C N) (s3 : zcr.Spec C N) : zcz.Spec C N := by
 intro s x y z h Q hs hq
 obtain ⟨a1, ⟨R2, a2⟩, ⟨R3, a3⟩, n1, n2, n3⟩ := hs
 apply i
 simp -dsimp
 refine s1 _ _ _ _ a1 n1 fun x' P PM h1 e em o1 => ?_
 have c1 : x'.zl = true := (o1.slAt 0 rfl).zl
 simp -dsimp [c1]
 refine s2 _ _ _ _ _ (a2.mono o1.le) n2 fun y' h2 o2 => ?_
 have c2 := (o2.slAt 0 rfl).zl
 have o12 := o1.join o2
 simp -dsimp [c2]
 refine s3 _ _ _ _ _ (a3.mono o12.le) n3 fun z' h3 o3 => ?_
 have c3 := (o3.slAt 0 rfl).zl
 simp -dsimp [c3]
 have o4 := o12.join o3
 have k1 : zsw zd6 zh8 h1 x' s.zd9 := zsw.of zt9 a1.ok e em o1
 refine zj (hq x' P PM y' z' h3 e em o4 ⟨k1.mono (za.le_trans o2.le o3.le), (o2.slAt 0 rfl).mono o3.le, o3.slAt 0 rfl, n1, n2, n3⟩)
def zc0.Spec (C : CSem) (N : Nat → Nat) : Prop := ∀ (s t : Sta) (x y z u v w : AVal) (h : za) (Q : AVal → za → Prop), StaK h s x y z → zla h t u v w → Q (.bool (decide (s = t))) h → C (N 447) [.agg (zka s x y z), .agg (zka t u v w)] h Q
theorem zc0.spec (i : zc0.Imp C N) (s0 : zcm.Spec C N) (s1 : zbl.Spec C N) (s2 : zcj.Spec C N) (s3 : zcb.Spec C N) : zc0.Spec C N := by
 intro s t x y z u v w h Q hs ht hq
 have h0 := hs.at
 obtain ⟨a1, a2, a3, n1, n2, n3⟩ := hs
 have ht' := ht
 obtain ⟨b1, ⟨S2, b2⟩, ⟨S3, b3⟩, m1, m2, m3⟩ := ht
 have c1 := a1.dl.zl
 have c2 := a2.zl
 have c3 := a3.zl
 have d1 := b1.zl
 have d2 := b2.zl
 have d3 := b3.zl
 apply i
 simp +contextual -dsimp [c1, c2, c3, d1, d2, d3]
 refine s0 _ _ _ _ _ _ _ _ _ _ h0 ht' ?_
 simp +contextual -dsimp [c1, c2, c3, d1, d2, d3]
 refine B.zea (v := .bool (decide (s.zd9 = t.zd9))) (fun _ Q hq => s1 _ _ _ _ _ _ a1 b1 (by omega) hq) ?_
 simp +contextual -dsimp [c1, c2, c3, d1, d2, d3]
 refine B.zea (v := .bool (decide (s.Lots = t.Lots))) (fun _ Q hq => s2 _ _ _ _ _ _ _ a2 b2 (by omega) hq) ?_
 simp +contextual -dsimp [c1, c2, c3, d1, d2, d3]
 refine B.zea (v := .bool (decide (s.zd8 = t.zd8))) (fun _ Q hq => s3 _ _ _ _ _ _ _ a3 b3 (by omega) hq) ?_
 simp -dsimp
 refine zj ?_
 have : decide (s = t) = (((decide (s = t) && decide (s.zd9 = t.zd9)) && decide (s.Lots = t.Lots)) && decide (s.zd8 = t.zd8)) := by
  by_cases e : s = t
  ·subst e; simp
  ·simp [e]
 rw [this] at hq
 exact hq
def zcw.Spec (C : CSem) (N : Nat → Nat) : Prop := ∀ (s : Sta) (x y z : AVal) (P PM : List (Itm × (AVal × AVal))) (h0 h : za) (Q : AVal → za → Prop), P.map (·.1) = s.zd9 → PM.map (·.1) = zt6 zh8 → Owns h0 h (StaL s x P PM y z) → (∀ t ∈ s.zd9, t.ok) → s.zd9.length + s.Lots.length + s.zd8.length ≤ 100000000 → (∀ h', h0.le h' → Q (.tup []) h') → C (N 448) [.agg (zka s x y z)] h Q
theorem zcw.spec (i : zcw.Imp C N) (s1 : zbi.Spec C N) (s2 : zdh.Spec C N) (s3 : zcy.Spec C N) : zcw.Spec C N := by
 intro s x y z P PM h0 h Q eP eM ho hok hn hq
 apply i
 have ho : Owns h0 h (((.sl 4 x (P.map zd6.cs) (PM.map zd6.cs) :: (zd6.os true P ++ zd6.os false PM)) ++ [.sl 6 y (s.Lots.map Lot.cs) zm6]) ++ [.sl 8 z (s.zd8.map Line.cs) zk3]) := ho
 have c1 : x.zl = true := (ho.slAt 0 rfl).zl
 have ho := ho.perm List.perm_append_comm
 obtain ⟨q1, q2⟩ := ho.out
 have c3 := (q1.slAt 0 rfl).zl
 have c2 : y.zl = true := ((q2.perm List.perm_append_comm).slAt 0 rfl).zl
 simp -dsimp [c1, c2, c3]
 obtain ⟨w1, w2⟩ := (q2.perm List.perm_append_comm).out
 refine s1 _ _ _ _ _ _ w2 (fun p hp => hok _ (by rw [← eP]; exact List.mem_map.2 ⟨p, hp, rfl⟩)) (by have := congrArg List.length eM; rw [List.length_map] at this; rw [this]; simp [zt6]) (by have := congrArg List.length eP; rw [List.length_map] at this; rw [this]; omega) fun h1 l1 => ?_
 have w1 := w1.grow l1
 refine s2 _ _ _ _ _ _ w1 (by simp [zm6, marks]) (by rw [List.length_map]; omega) fun h2 l2 => ?_
 have q1 := q1.grow l2
 refine s3 _ _ _ _ _ _ q1 (by simp [zk3, marks]) (by rw [List.length_map]; omega) fun h3 l3 => ?_
 exact zj (hq _ l3)
end Go.Ab
set_option maxRecDepth 100000
namespace Go.Ab
variable {C : CSem} {N : Nat → Nat}
@[simp] def putD.k1 (C : CSem) (n f : Nat) (Q : AVal → za → Prop) (Y1 : List AVal → za → Prop) (v0 v1 v4 : AVal) (h : za) : Prop :=
 B.pv (V.zi v1) fun v17 =>
  B.pv (V.bin .lss v4 v17) fun v18 =>
  B.cond v18
  (B.pv (V.idxS n v1 v4) fun v24 =>
  B.ldn h v24 n fun v25 =>
  B.call C f [v0, v25] h fun v26 h =>
  B.pv (V.bin .add v4 (.int .i64 1)) fun v20 =>
  Y1 [v20] h)
  (Q (.tup []) h)
@[simp] def putD.l2 (C : CSem) (n f : Nat) (Q : AVal → za → Prop) (v0 v1 : AVal) : List AVal → za → (List AVal → za → Prop) → Prop
 | [v4], h, Y1 => putD.k1 C n f Q Y1 v0 v1 v4 h
 | _, _, _ => False
def putD (C : CSem) (k n f : Nat) (v0 v1 : AVal) (h : za) (Q : AVal → za → Prop) : Prop := putG k v0 v1 h fun _ h => zg (putD.l2 C n f Q v0 v1) [(.int .i64 0)] h
section
variable {T Ad : Type} {K : DK T Ad} {inn : T → Ad → LK}
abbrev inns (inn : T → Ad → LK) (P : List (T × Ad)) : LK := P.flatMap fun p => inn p.1 p.2
def zuu (K : DK T Ad) (inn : T → Ad → LK) (C : CSem) (g : Nat) : Prop := ∀ (h hh : za) (id : Nat) (L : Nat → List AVal) (t : T) (a : Ad) (Q : AVal → za → Prop), zpx h hh id L → K.at_ hh t a → (L 4).length + (inn t a).length ≤ 100000000 →
 (∀ h', zpx h h' id (upf L 4 (L 4 ++ (inn t a).map (·.1))) → Q (.tup []) h') → C g [.ptr id 0 0, .agg (K.cells t a)] hh Q
theorem putD_spec {k f : Nat} (hk : k < 23) (hk4 : k ≠ 4) (s1 : zuu K inn C f) {h hh : za} {id : Nat} {L : Nat → List AVal} {y : AVal} {P : List (T × Ad)} {R : List (List AVal)} {Q : AVal → za → Prop} (hb : zpx h hh id L) (hy : SlX h K.n y (P.map K.cs) R) (ha : ∀ p ∈ P, K.at_ h p.1 p.2)
  (l1 : (L k).length ≤ 100000000) (l2 : (L 4).length + (inns inn P).length ≤ 100000000) (l3 : P.length ≤ 100000000)
  (hq : ∀ h', zpx h h' id (upf (upf L k (L k ++ [y])) 4 (L 4 ++ (inns inn P).map (·.1))) → Q (.tup []) h') : putD C k K.n f (.ptr id 0 0) y hh Q := by
 refine putG_spec hk hb hy.zl l1 fun h1 hb1 => ?_
 have e4 : upf L k (L k ++ [y]) 4 = L 4 := zkd _ _ (Ne.symm hk4)
 refine zg.intro (fun n vs hh => ∃ j : Nat, j + n = P.length ∧ vs = [.int .i64 (j : Int)] ∧ zpx h hh id (upf (upf L k (L k ++ [y])) 4 (L 4 ++ (inns inn (P.take j)).map (·.1)))) P.length ?_ ⟨0, by simp, rfl, by
  have : upf (upf L k (L k ++ [y])) 4 (L 4 ++ (inns inn (P.take 0)).map (·.1)) = upf L k (L k ++ [y]) := by
   simp only [List.take_zero, List.flatMap_nil, List.map_nil, List.append_nil]
   conv => lhs; rw [← e4]
   exact zm1 _ _
  rw [this]; exact hb1⟩
 rintro Y n vs h2 ⟨j, hj, rfl, hb2⟩ hY
 have hyy := hy.mono hb2.le
 have hly := hyy.zi
 rw [List.length_map] at hly
 simp -dsimp only [putD.l2, putD.k1, hly, V.zrt, B.zf]
 refine B.ze (fun hc => ?_) (fun hc => ?_)
 ·have hjl : j < P.length := by simpa using hc
  obtain ⟨p, hp⟩ := zc6 hjl
  have ea := slX_el (K := K) hyy (fun q hq => K.mono hb2.le (ha q hq)) hp
  have hsplit : P.take (j + 1) = P.take j ++ [p] := take_succ hp
  have hlen : (inns inn (P.take j)).length + (inn p.1 p.2).length ≤ (inns inn P).length := by
   have e : P = P.take (j + 1) ++ P.drop (j + 1) := (List.take_append_drop _ _).symm
   have e2 : inns inn P = inns inn (P.take j) ++ (inn p.1 p.2 ++ inns inn (P.drop (j + 1))) := by
    conv => lhs; rw [e, hsplit]
    simp [inns]
   rw [e2]; simp only [List.length_append]; omega
  simp -dsimp only [ea.idx, ea.ldn, B.zf, B.zij]
  refine s1 h h2 id _ p.1 p.2 _ hb2 ea.at_ (by rw [ze6]; simp only [List.length_append, List.length_map]; omega) fun h3 hb3 => ?_
  simp -dsimp only [add1 (show j < 4611686018427387904 by omega), B.zf]
  refine hY (P.length - (j + 1)) _ _ (by omega) ⟨j + 1, by omega, rfl, ?_⟩
  rw [ztc, ze6, List.append_assoc] at hb3
  rw [hsplit]
  simpa [inns] using hb3
 ·have hjl : j = P.length := by
   have : ¬ (j : Int) < P.length := by simpa using hc
   omega
  rw [hjl, List.take_length] at hb2
  exact hq h2 hb2
def allOb (K : DK T Ad) (ls : List (AVal × List (T × Ad))) : List Ob := ls.flatMap fun p => .sl K.n p.1 (p.2.map K.cs) [] :: K.os false p.2
theorem allOb_perm (hinn : ∀ t a, K.obs false t a = (inn t a).map (obK 1)) (ls : List (AVal × List (T × Ad))) : (allOb K ls).Perm ((ls.flatMap fun p => inns inn p.2).map (obK 1) ++ (ls.map fun p => (p.1, p.2.map K.cs)).map (obK K.n)) := by
 have hos : ∀ P : List (T × Ad), K.os false P = (inns inn P).map (obK 1) := fun P => by
  unfold DK.os inns
  induction P with
  | nil => rfl
  | cons p P ih => rw [List.flatMap_cons, List.flatMap_cons, List.map_append, ← ih, hinn]
 induction ls with
 | nil => exact List.Perm.refl _
 | cons p ls ih =>
  unfold allOb at ih ⊢
  rw [List.flatMap_cons, List.flatMap_cons, List.map_append, List.map_cons, List.map_cons, hos]
  simp only [List.append_assoc]
  have h1 := ih.append_left ((inns inn p.2).map (obK 1))
  refine (List.Perm.cons _ h1).trans ?_
  have : (obK K.n (p.1, p.2.map K.cs)) = Ob.sl K.n p.1 (p.2.map K.cs) [] := rfl
  rw [← this]
  rw [← List.append_assoc, ← List.append_assoc]
  exact List.perm_middle.symm
def ApartD (K : DK T Ad) (C : CSem) (g : Nat) : Prop := ∀ (ls : List (AVal × List (T × Ad))) (x : AVal) (W : List (List AVal)) (h0 h : za) (Q : AVal → za → Prop), SlX h0 1 x (ls.map fun p => [p.1]) W → Owns h0 h (allOb K ls) → (∀ p ∈ ls, ∀ q ∈ p.2, K.ok q.1) → ls.length ≤ 1000 → (∀ p ∈ ls, p.2.length ≤ 3000) →
 (∀ h', h0.le h' → Q (.bool true) h') → C g [x] h Q
theorem inns_len {c : Nat} (hc : ∀ t a, (inn t a).length ≤ c) (P : List (T × Ad)) : (inns inn P).length ≤ P.length * c := by
 induction P with
 | nil => simp [inns]
 | cons p P ih =>
  have := hc p.1 p.2
  simp only [inns, List.flatMap_cons, List.length_append, List.length_cons, Nat.add_mul] at ih ⊢
  omega
theorem apartD_spec {b : BagK} {k fo fu : Nat} (hk : k < 23) (hk4 : k ≠ 4) (hf : ∀ i, b.full i = false → i ≠ k ∧ i ≠ 4) (hlim : b.lim 4 = 140737488351232) (hlimk : 3000 ≤ b.lim k)
  (hone : ∀ (L4 Lk : LK), bagOb b (fun i => if i = k then Lk else if i = 4 then L4 else []) 0 23 = L4.map (obK 1) ++ Lk.map (obK K.n))
  (hinn : ∀ t a, K.obs false t a = (inn t a).map (obK 1)) (hlen : ∀ t a, K.ok t → ∀ q ∈ inn t a, q.2.length ≤ far) (hcnt : ∀ t a, (inn t a).length ≤ 8)
  (s1 : ∀ (v0 v1 : AVal) (h : za) (Q : AVal → za → Prop), putD C k K.n fo v0 v1 h (dn Q) → C fu [v0, v1] h Q) (s2 : zuu K inn C fo) {fb : Nat} (s3 : ApartK C b fb)
  {ls : List (AVal × List (T × Ad))} {x : AVal} {W : List (List AVal)} {h0 h : za} {Q : AVal → za → Prop} (hx : SlX h0 1 x (ls.map fun p => [p.1]) W) (ho : Owns h0 h (allOb K ls)) (hok : ∀ p ∈ ls, ∀ q ∈ p.2, K.ok q.1) (hn : ls.length ≤ 1000) (hl : ∀ p ∈ ls, p.2.length ≤ 3000)
  (hq : ∀ h', h0.le h' → Q (.bool true) h') : zqy C fu fb x h Q := by
 simp -dsimp [zqy]
 intro id hid
 have cnt : ∀ l : List (AVal × List (T × Ad)), (∀ p ∈ l, p.2.length ≤ 3000) → (l.flatMap fun p => inns inn p.2).length ≤ l.length * 24000 := by
  intro l
  induction l with
  | nil => intro _; simp
  | cons p l ih =>
   intro hl
   have h1 := ih fun q hq => hl q (List.mem_cons_of_mem _ hq)
   have h2 := inns_len (inn := inn) hcnt p.2
   have h3 := hl p (by simp)
   have h4 := Nat.mul_le_mul_right 8 h3
   simp only [List.flatMap_cons, List.length_append, List.length_cons, Nat.add_mul] at h1 ⊢
   omega
 let bagOf : List (AVal × List (T × Ad)) → Nat → List AVal := fun l i => if i = k then l.map (·.1) else if i = 4 then (l.flatMap fun p => inns inn p.2).map (·.1) else []
 have step : ∀ (l : List (AVal × List (T × Ad))) (p : AVal × List (T × Ad)), upf (upf (bagOf l) k (bagOf l k ++ [p.1])) 4 (bagOf l 4 ++ (inns inn p.2).map (·.1)) = bagOf (l ++ [p]) := fun l p => by
  funext i
  show upf (upf (bagOf l) k (bagOf l k ++ [p.1])) 4 (bagOf l 4 ++ (inns inn p.2).map (·.1)) i = if i = k then (l ++ [p]).map (·.1) else if i = 4 then ((l ++ [p]).flatMap fun p => inns inn p.2).map (·.1) else []
  unfold upf
  by_cases h1 : i = 4
  ·subst h1
   simp only [if_true, if_neg (Ne.symm hk4)]
   show (if 4 = k then l.map (·.1) else if 4 = 4 then (l.flatMap fun p => inns inn p.2).map (·.1) else []) ++ _ = _
   rw [if_neg (Ne.symm hk4), if_pos rfl]
   simp
  ·by_cases h2 : i = k
   ·subst h2
    simp only [if_neg h1, if_true]
    show (if i = i then l.map (·.1) else _) ++ _ = _
    rw [if_pos rfl]; simp
   ·simp only [if_neg h1, if_neg h2]
    show (if i = k then _ else if i = 4 then _ else []) = []
    rw [if_neg h2, if_neg h1]
 refine zg.intro (fun n vs hh => ∃ j : Nat, j + n = ls.length ∧ vs = [.int .i64 j] ∧ zpx h hh id (bagOf (ls.take j))) ls.length ?_ ⟨0, by simp, by simp, by
  have := zpx.start hid
  have e : bagOf (ls.take 0) = fun _ => [] := by funext i; show (if i = k then _ else if i = 4 then _ else []) = []; split <;> simp
  rw [e]; exact this⟩
 rintro Y n vs hh ⟨j, hj, rfl, hb⟩ hY
 have hxx := hx.mono (za.le_trans ho.le hb.le)
 have hlx := hxx.zi
 rw [List.length_map] at hlx
 simp -dsimp only [zqy.l2, zqy.k1, hlx, V.zrt, B.zf]
 refine B.ze (fun hc => ?_) (fun hc => ?_)
 ·have hjl : j < ls.length := by simpa using hc
  obtain ⟨p, hp⟩ := zc6 hjl
  have hpm := List.mem_of_getElem? hp
  have hjk : j < (ls.map fun p => [p.1]).length := by simpa using hjl
  have hld : A.ldv hh (elp 1 x j 0) = some p.1 := hxx.cell (by rw [List.getElem?_map, hp]; rfl)
  simp -dsimp only [hxx.idxN hjk, hld, B.zf, B.zh0]
  have hsl : SlX h K.n p.1 (p.2.map K.cs) [] := ho.is (.sl K.n p.1 (p.2.map K.cs) []) (List.mem_flatMap.2 ⟨p, hpm, by simp⟩)
  have hat : ∀ q ∈ p.2, K.at_ h q.1 q.2 := fun q hq => K.zuy (b := false) (hok p hpm q hq) fun o hmo => ho.is o (List.mem_flatMap.2 ⟨p, hpm, List.mem_cons_of_mem _ (List.mem_flatMap.2 ⟨q, hq, hmo⟩)⟩)
  have c1 := cnt (ls.take j) fun q hq => hl q (List.mem_of_mem_take hq)
  have c2 := inns_len (inn := inn) hcnt p.2
  have c3 := hl p hpm
  have c4 := Nat.mul_le_mul_right 8 c3
  have c5 : (ls.take j).length * 24000 ≤ 1000 * 24000 := Nat.mul_le_mul_right _ (by rw [List.length_take]; omega)
  refine s1 _ _ _ _ (putD_spec hk hk4 s2 hb hsl hat ?_ ?_ (by omega) fun h3 hb3 => zj ?_)
  ·show (if k = k then (ls.take j).map (·.1) else _).length ≤ _
   rw [if_pos rfl, List.length_map, List.length_take]; omega
  ·show (if 4 = k then _ else if 4 = 4 then ((ls.take j).flatMap fun p => inns inn p.2).map (·.1) else []).length + _ ≤ _
   rw [if_neg (Ne.symm hk4), if_pos rfl, List.length_map]; omega
  ·simp -dsimp only [add1 (show j < 4611686018427387904 by omega), B.zf]
   refine hY (n - 1) _ _ (by omega) ⟨j + 1, by omega, rfl, ?_⟩
   rw [step] at hb3
   rw [take_succ hp]; exact hb3
 ·have hjl : j = ls.length := by
   have : ¬ (j : Int) < ls.length := by simpa using hc
   omega
  rw [hjl, List.take_length] at hb
  let L4 : LK := ls.flatMap fun p => inns inn p.2
  let Lk : LK := ls.map fun p => (p.1, p.2.map K.cs)
  obtain ⟨xs, ob⟩ := hb
  have hp := allOb_perm hinn ls
  rw [← hone] at hp
  obtain ⟨q1, q2⟩ := (((ho.perm hp).join ob).perm List.perm_append_comm).out
  obtain ⟨id', e, hbx⟩ := q1.zhi 23 Objs.getL
  cases e
  have c1 := cnt ls hl
  have c5 : ls.length * 24000 ≤ 1000 * 24000 := Nat.mul_le_mul_right _ hn
  refine s3 id (fun i => if i = k then Lk else if i = 4 then L4 else []) xs _ hh Q ⟨hbx, fun i hi => ?_, fun i hi hfi => ?_, fun i hi => ?_, fun i hi q hq => ?_⟩ q2 fun h' hle => hq h' (za.le_trans q1.le hle)
  ·have := q1.slAt i (Objs.getA hi)
   have e : (bagOf ls i).map sing = ((fun i => if i = k then Lk else if i = 4 then L4 else []) i : LK).map fun q => [q.1] := by
    show (if i = k then ls.map (·.1) else if i = 4 then L4.map (·.1) else []).map sing = (if i = k then Lk else if i = 4 then L4 else []).map fun q => [q.1]
    split
    ·rw [List.map_map, List.map_map]; rfl
    ·split
     ·rw [List.map_map]; rfl
     ·rfl
   rw [e] at this; exact this
  ·have := hf i hfi
   show (if i = k then Lk else if i = 4 then L4 else []) = []
   rw [if_neg this.1, if_neg this.2]
  ·show (if i = k then Lk else if i = 4 then L4 else []).length ≤ _
   split
   ·show (ls.map _).length ≤ _
    rw [List.length_map]; omega
   ·split
    ·show (ls.flatMap _).length ≤ _
     omega
    ·simp
  ·have hq : q ∈ (if i = k then Lk else if i = 4 then L4 else []) := hq
   by_cases e : i = k
   ·rw [if_pos e] at hq
    obtain ⟨p, hp, rfl⟩ := List.mem_map.1 hq
    have := hl p hp
    rw [e]
    simp only [List.length_map]; omega
   ·rw [if_neg e] at hq
    by_cases e4 : i = 4
    ·rw [if_pos e4] at hq
     obtain ⟨p, hp, hq⟩ := List.mem_flatMap.1 hq
     obtain ⟨r, hr, hq⟩ := List.mem_flatMap.1 hq
     rw [e4, hlim]
     exact hlen r.1 r.2 (hok p hp r hr) q hq
    ·rw [if_neg e4] at hq; cases hq
end
def zr5 (t : Row) (a : AVal × AVal) : LK := [(a.1, t.Key.map bc), (a.2, t.Value.map bc)]
theorem zdo.spec (i : zdo.Imp C N) (s1 : PutSpec C 4 (N 63)) : zuu rowK zr5 C (N 315) := by
 intro h hh id L t a Q hb ha hl hq
 obtain ⟨a1, a2⟩ : Bs hh a.1 t.Key ∧ Bs hh a.2 t.Value := ha
 simp only [zr5, List.length_cons, List.length_nil] at hl
 apply i
 simp -dsimp [rowK]
 refine s1 h hh id L _ _ hb a1.zl (by omega) fun h1 hb1 => ?_
 refine s1 h h1 id _ _ _ hb1 a2.zl (by rw [ze6]; simp; omega) fun h2 hb2 => ?_
 rw [ze6, ztc, List.append_assoc] at hb2
 exact zj (hq h2 hb2)
theorem rowInn_len (t : Row) (a : AVal × AVal) (hk : rowK.ok t) : ∀ q ∈ zr5 t a, q.2.length ≤ far := by
 intro q hq
 simp only [zr5, List.mem_cons, List.not_mem_nil, or_false] at hq
 rcases hq with rfl | rfl
 ·simpa using hk.1
 ·simpa using hk.2
def zdv.Spec (C : CSem) (N : Nat → Nat) : Prop := ∀ (s : List UInt8) (c : UInt8) (h : za) (Q : AVal → za → Prop), s.length < 4611686018427387904 → Q (.bool (decide (c ∈ s))) h → C (N 477) [.str s, .int .u8 (c.toNat : Int)] h Q
theorem u8_dec (a b : UInt8) : decide ((a.toNat : Int) = (b.toNat : Int)) = decide (a = b) := by
 rw [Bool.eq_iff_iff]; simp only [decide_eq_true_eq]
 exact ⟨fun h => UInt8.toNat_inj.1 (by omega), fun h => by rw [h]⟩
theorem zdv.spec (i : zdv.Imp C N) : zdv.Spec C N := by
 intro s c h Q hl hq
 apply i
 have ls : V.zki (.str s) = some (.int .i64 (s.length : Int)) := rfl
 refine zg.intro (fun n vs hh => hh = h ∧ ∃ k : Nat, k + n = s.length ∧ vs = [.int .i64 (k : Int)] ∧ c ∉ s.take k) s.length ?_ ⟨rfl, 0, by omega, rfl, by simp⟩
 rintro Y n vs hh ⟨rfl, k, hk, rfl, hno⟩ hY
 simp -dsimp only [zdv.l2, zdv.k1, ls, lssN, B.zf]
 refine B.ze (fun hc => ?_) (fun hc => ?_)
 ·rw [decide_eq_true_eq] at hc
  obtain ⟨b, hb⟩ := zc6 hc
  simp -dsimp only [zug hb, V.zrv, u8_dec, B.zf]
  refine B.ze (fun hd => ?_) (fun hd => ?_)
  ·rw [decide_eq_true_eq] at hd
   subst hd
   rw [decide_eq_true (List.mem_of_getElem? hb)] at hq
   exact zj hq
  ·rw [decide_eq_false_iff_not] at hd
   simp -dsimp only [add1 (show k < 4611686018427387904 by omega), B.zf]
   refine hY (n - 1) _ _ (by omega) ⟨rfl, k + 1, by omega, rfl, ?_⟩
   rw [take_succ hb]
   simp [hno, Ne.symm hd]
 ·rw [decide_eq_false_iff_not] at hc
  rw [List.take_of_length_le (by omega)] at hno
  rw [decide_eq_false hno] at hq
  exact zj hq
def zi2 (l : List (List UInt8)) (c : List UInt8) : Bool := (l.all fun o => zbb o && !decide (o = c)) && (decide l.Nodup && decide (l.length ≤ 4))
def zlr (l : List Part) : Bool := (l.all fun p => zbb p.Item && (decide (1 ≤ p.Qty) && decide (p.Qty ≤ 1073741824))) && (decide (l.map Part.Item).Nodup && (decide (1 ≤ l.length) && decide (l.length ≤ 8)))
theorem zvb {T : Type} {l : List T} {x : T} (h : l.Nodup) (hx : x ∉ l) : (l ++ [x]).Nodup := by
 rw [List.nodup_append]
 exact ⟨h, by simp, fun a ha b hb e => by rw [List.mem_singleton.1 hb] at e; subst e; exact hx ha⟩
theorem not_nodup {T : Type} {l : List T} {k : Nat} {x : T} (hk : l[k]? = some x) (hx : x ∈ l.take k) : ¬ l.Nodup := fun h => by
 have h4 : (l.take (k + 1)).Nodup := h.sublist (List.take_sublist _ _)
 rw [take_succ hk, List.nodup_append] at h4
 exact h4.2.2 x hx x (by simp) rfl
def zbf.Spec (C : CSem) (N : Nat → Nat) : Prop := ∀ (x : AVal) (L : List (List UInt8)) (R : List (List AVal)) (c : List UInt8) (h : za) (Q : AVal → za → Prop), SlX h 1 x (L.map tc) R → L.length < 4611686018427387904 → Q (.bool (zi2 L c)) h → C (N 479) [x, .str c] h Q
theorem zbf.spec (i : zbf.Imp C N) (s1 : zbu.Spec C N) : zbf.Spec C N := by
 intro x L R c h Q hx hl hq
 apply i
 have lx := hx.zi
 rw [List.length_map] at lx
 refine zg.intro (fun n vs hh => hh = h ∧ ∃ k : Nat, k + n = L.length ∧ vs = [.int .i64 (k : Int)] ∧ ((L.take k).all fun o => zbb o && !decide (o = c)) = true ∧ (L.take k).Nodup) L.length ?_ ⟨rfl, 0, by omega, rfl, rfl, by simp⟩
 rintro Y n vs hh ⟨rfl, k, hk, rfl, hall, hnd⟩ hY
 simp -dsimp only [zbf.l5, zbf.k4, lx, lssN, B.zf]
 refine B.ze (fun hc => ?_) (fun hc => ?_)
 ·rw [decide_eq_true_eq] at hc
  obtain ⟨w, hw⟩ := zc6 hc
  have hkl : k < (L.map tc).length := by simpa using hc
  have e1 : V.idxS 1 x (.int .i64 (k : Int)) = some (elp 1 x k 0) := hx.idxN hkl
  have e2 : A.ldv hh (elp 1 x k 0) = some (.str w) := hx.cell (get_map hw)
  simp -dsimp only [zbf.k3, e1, e2, B.zh0, B.zf]
  refine s1 w hh _ ?_
  simp +contextual -dsimp [e1, e2]
  refine B.ze (fun hb => ?_) (fun hb => ?_)
  ·have hb : (zbb w && !decide (w = c)) = false := by
    revert hb; cases zbb w <;> cases decide (w = c) <;> simp
   have : zi2 L c = false := by
    unfold zi2
    rw [all_bad hw hb]; rfl
   rw [this] at hq
   exact zj hq
  ·have hb : (zbb w && !decide (w = c)) = true := by
    revert hb; cases zbb w <;> cases decide (w = c) <;> simp
   refine zg.intro (fun m vs h3 => h3 = hh ∧ ∃ j : Nat, j + m = k ∧ vs = [.int .i64 (j : Int)] ∧ w ∉ L.take j) k ?_ ⟨rfl, 0, by omega, rfl, by simp⟩
   rintro Z m vs h3 ⟨rfl, j, hj, rfl, hno⟩ hZ
   simp -dsimp only [zbf.l2, zbf.k1, lssN, B.zf]
   refine B.ze (fun hd => ?_) (fun hd => ?_)
   ·rw [decide_eq_true_eq] at hd
    obtain ⟨u, hu⟩ := zc6 (L := L) (k := j) (by omega)
    have hjl : j < (L.map tc).length := by simp; omega
    have f1 : V.idxS 1 x (.int .i64 (j : Int)) = some (elp 1 x j 0) := hx.idxN hjl
    have f2 : A.ldv h3 (elp 1 x j 0) = some (.str u) := hx.cell (get_map hu)
    simp -dsimp only [e1, e2, f1, f2, B.zh0, B.zf, V.zko]
    refine B.ze (fun he => ?_) (fun he => ?_)
    ·rw [decide_eq_true_eq] at he
     subst he
     have : zi2 L c = false := by
      unfold zi2
      rw [decide_eq_false (not_nodup hw (List.mem_of_getElem? (by rw [List.getElem?_take_of_lt hd]; exact hu)))]
      simp
     rw [this] at hq
     exact zj hq
    ·rw [decide_eq_false_iff_not] at he
     simp -dsimp only [add1 (show j < 4611686018427387904 by omega), B.zf]
     refine hZ (m - 1) _ _ (by omega) ⟨rfl, j + 1, by omega, rfl, ?_⟩
     rw [take_succ hu]
     simp [hno, Ne.symm he]
   ·rw [decide_eq_false_iff_not] at hd
    have : j = k := by omega
    subst this
    simp -dsimp only [add1 (show j < 4611686018427387904 by omega), B.zf]
    refine hY (n - 1) _ _ (by omega) ⟨rfl, j + 1, by omega, rfl, zs9 hall hw hb, ?_⟩
    rw [take_succ hw]
    exact zvb hnd hno
 ·rw [decide_eq_false_iff_not] at hc
  have : k = L.length := by omega
  subst this
  rw [List.take_length] at hall hnd
  have e : V.bin .leq (.int .i64 (L.length : Int)) (.int .i64 4) = some (.bool (decide (L.length ≤ 4))) := leqN (b := 4)
  simp -dsimp only [lx, e, B.zf]
  have : zi2 L c = decide (L.length ≤ 4) := by unfold zi2; rw [hall, decide_eq_true hnd]; rfl
  rw [this] at hq
  exact zj hq
def zbj.Spec (C : CSem) (N : Nat → Nat) : Prop := ∀ (x : AVal) (L : List Part) (R : List (List AVal)) (h : za) (Q : AVal → za → Prop), SlX h 2 x (L.map Part.cs) R → L.length < 4611686018427387904 → Q (.bool (zlr L)) h → C (N 478) [x] h Q
theorem zbj.spec (i : zbj.Imp C N) (s1 : zbu.Spec C N) : zbj.Spec C N := by
 intro x L R h Q hx hl hq
 apply i
 have lx := hx.zi
 rw [List.length_map] at lx
 refine zg.intro (fun n vs hh => hh = h ∧ ∃ k : Nat, k + n = L.length ∧ vs = [.int .i64 (k : Int)] ∧ ((L.take k).all fun p => zbb p.Item && (decide (1 ≤ p.Qty) && decide (p.Qty ≤ 1073741824))) = true ∧ ((L.take k).map Part.Item).Nodup) L.length ?_ ⟨rfl, 0, by omega, rfl, rfl, by simp⟩
 rintro Y n vs hh ⟨rfl, k, hk, rfl, hall, hnd⟩ hY
 simp -dsimp only [zbj.l5, lx, lssN, B.zf]
 refine B.ze (fun hc => ?_) (fun hc => ?_)
 ·rw [decide_eq_true_eq] at hc
  obtain ⟨w, hw⟩ := zc6 hc
  have hkl : k < (L.map Part.cs).length := by simpa using hc
  have e1 : V.idxS 2 x (.int .i64 (k : Int)) = some (elp 2 x k 0) := hx.idxN hkl
  have e3 : V.fieldAddr 0 (elp 2 x k 0) = some (elp 2 x k 0) := hx.zlv hkl 0 0
  have e4 : V.fieldAddr 1 (elp 2 x k 0) = some (elp 2 x k 1) := hx.zlv hkl 0 1
  have e2 : A.ldv hh (elp 2 x k 0) = some (.str w.Item) := hx.ldv (get_map hw) (by omega)
  have e5 : A.ldv hh (elp 2 x k 1) = some (.int .i64 w.Qty) := hx.ldv (get_map hw) (by omega)
  simp -dsimp only [zbj.k4, e1, e2, e3, B.zh0, B.zf]
  refine s1 w.Item hh _ ?_
  simp +contextual -dsimp [e1, e4, e5]
  have eb : (zbb w.Item && (decide (1 ≤ w.Qty) && decide (w.Qty ≤ 1073741824))) = !((!zbb w.Item || decide (w.Qty < 1)) || decide (1073741824 < w.Qty)) := by
   have q1 : decide (w.Qty < 1) = !decide (1 ≤ w.Qty) := by rw [Bool.eq_iff_iff]; simp
   have q2 : decide (1073741824 < w.Qty) = !decide (w.Qty ≤ 1073741824) := by rw [Bool.eq_iff_iff]; simp
   rw [q1, q2]
   cases zbb w.Item <;> cases decide (1 ≤ w.Qty) <;> cases decide (w.Qty ≤ 1073741824) <;> rfl
  refine B.ze (fun hb => ?_) (fun hb => ?_)
  ·have : zlr L = false := by
    unfold zlr
    rw [all_bad hw (by rw [eb, hb]; rfl)]; rfl
   rw [this] at hq
   exact zj hq
  ·refine zg.intro (fun m vs h3 => h3 = hh ∧ ∃ j : Nat, j + m = k ∧ vs = [.int .i64 (j : Int)] ∧ w.Item ∉ (L.take j).map Part.Item) k ?_ ⟨rfl, 0, by omega, rfl, by simp⟩
   rintro Z m vs h3 ⟨rfl, j, hj, rfl, hno⟩ hZ
   simp -dsimp only [zbj.l3, zbj.k2, lssN, B.zf]
   refine B.ze (fun hd => ?_) (fun hd => ?_)
   ·rw [decide_eq_true_eq] at hd
    obtain ⟨u, hu⟩ := zc6 (L := L) (k := j) (by omega)
    have hjl : j < (L.map Part.cs).length := by simp; omega
    have f1 : V.idxS 2 x (.int .i64 (j : Int)) = some (elp 2 x j 0) := hx.idxN hjl
    have f3 : V.fieldAddr 0 (elp 2 x j 0) = some (elp 2 x j 0) := hx.zlv hjl 0 0
    have f2 : A.ldv h3 (elp 2 x j 0) = some (.str u.Item) := hx.ldv (get_map hu) (by omega)
    simp -dsimp only [e1, e2, e3, f1, f2, f3, B.zh0, B.zf, V.zko]
    refine B.ze (fun he => ?_) (fun he => ?_)
    ·rw [decide_eq_true_eq] at he
     have hm : w.Item ∈ (L.map Part.Item).take k := by
      refine List.mem_of_getElem? (i := j) ?_
      rw [List.getElem?_take_of_lt hd, List.getElem?_map, hu, ← he]; rfl
     have : zlr L = false := by
      unfold zlr
      rw [decide_eq_false (not_nodup (by rw [List.getElem?_map, hw]; rfl) hm)]
      simp
     rw [this] at hq
     exact zj hq
    ·rw [decide_eq_false_iff_not] at he
     simp -dsimp only [add1 (show j < 4611686018427387904 by omega), B.zf]
     refine hZ (m - 1) _ _ (by omega) ⟨rfl, j + 1, by omega, rfl, ?_⟩
     rw [take_succ hu, List.map_append, List.mem_append]
     rintro (h | h)
     ·exact hno h
     ·exact he (List.mem_singleton.1 h).symm
   ·rw [decide_eq_false_iff_not] at hd
    have : j = k := by omega
    subst this
    simp -dsimp only [add1 (show j < 4611686018427387904 by omega), B.zf]
    refine hY (n - 1) _ _ (by omega) ⟨rfl, j + 1, by omega, rfl, zs9 hall hw (by rw [eb, hb]; rfl), ?_⟩
    rw [take_succ hw, List.map_append]
    exact zvb hnd hno
 ·rw [decide_eq_false_iff_not] at hc
  have : k = L.length := by omega
  subst this
  rw [List.take_length] at hall hnd
  have f1 : decide ((1 : Int) ≤ L.length) = decide (1 ≤ L.length) := decide_eq_decide.2 (by omega)
  have f2 : decide ((L.length : Int) ≤ 8) = decide (L.length ≤ 8) := decide_eq_decide.2 (by omega)
  have e : V.bin .geq (.int .i64 (L.length : Int)) (.int .i64 1) = some (.bool (decide (1 ≤ L.length))) := by rw [V.zru, f1]
  have e' : V.bin .leq (.int .i64 (L.length : Int)) (.int .i64 8) = some (.bool (decide (L.length ≤ 8))) := leqN (b := 8)
  have hp : zlr L = (decide (1 ≤ L.length) && decide (L.length ≤ 8)) := by unfold zlr; rw [hall, decide_eq_true hnd]; rfl
  rw [hp] at hq
  by_cases h1 : 1 ≤ L.length
  ·simp +contextual -dsimp [lx, e, e', h1, - V.zru, - V.bin_leq]
   rw [decide_eq_true h1, Bool.true_and] at hq
   exact zj hq
  ·simp +contextual -dsimp [lx, e, e', h1, - V.zru, - V.bin_leq]
   rw [decide_eq_false h1, Bool.false_and] at hq
   exact zj hq
structure zz.Spec (C : CSem) (N : Nat → Nat) : Prop where
 io : ∀ (h : za) (Q : AVal → za → Prop), Q (.tup [.str [105, 111], .bool true]) h → C (N 476) [.int .u8 3] h Q
 ip : ∀ (h : za) (Q : AVal → za → Prop), Q (.tup [.str [105, 112], .bool true]) h → C (N 476) [.int .u8 2] h Q
theorem zz.spec (i : zz.Imp C N) : zz.Spec C N := ⟨fun h Q hq => by
 apply i
 simp -dsimp
 exact zj hq, fun h Q hq => by
 apply i
 simp -dsimp
 exact zj hq⟩
structure zd1.Spec (C : CSem) (N : Nat → Nat) : Prop where
 io : ∀ (c : List UInt8) (y : AVal) (L : List (List UInt8)) (R : List (List AVal)) (h : za) (Q : AVal → za → Prop), SlX h 1 y (L.map tc) R → L.length < 4611686018427387904 → Q (.bool (zbb c && zi2 L c)) h →
  C (N 474) [.agg [.int .u8 3, .int .i64 0, .str c, .int .i64 0, .int .i64 0, .int .i64 0, .int .i64 0, .int .i64 0, .int .i64 0, .nils, y]] h Q
 ip : ∀ (c : List UInt8) (y : AVal) (L : List Part) (R : List (List AVal)) (h : za) (Q : AVal → za → Prop), SlX h 2 y (L.map Part.cs) R → L.length < 4611686018427387904 → Q (.bool (zbb c && zlr L)) h →
  C (N 474) [.agg [.int .u8 2, .int .i64 0, .str c, .int .i64 0, .int .i64 0, .int .i64 0, .int .i64 0, .int .i64 0, .int .i64 0, y, .nils]] h Q
theorem hasU (s1 : zdv.Spec C N) {s : List UInt8} {c : UInt8} {n : Int} (hn : n = (c.toNat : Int)) {h : za} {Q : AVal → za → Prop} (hl : s.length < 100) (hq : Q (.bool (decide (c ∈ s))) h) : C (N 477) [.str s, .int .u8 n] h Q := by
 rw [hn]; exact s1 s c h Q (by omega) hq
theorem zd1.spec (i : zd1.Imp C N) (s1 : zz.Spec C N) (s2 : zdv.Spec C N) (s3 : zbu.Spec C N) (s4 : zbj.Spec C N) (s5 : zbf.Spec C N) : zd1.Spec C N := by
 constructor
 ·intro c y L R h Q hy hl hq
  have ly := hy.zi
  rw [List.length_map] at ly
  have cy := hy.zl
  apply i
  simp -dsimp
  refine s1.io _ _ ?_
  simp -dsimp
  refine hasU s2 (c := 105) rfl (by simp) ?_
  by_cases hc : c = []
  ·subst hc
   simp -dsimp
   exact zj hq
  simp -dsimp [hc]
  refine s3 c _ _ ?_
  cases hr : zbb c with
  | false =>
   rw [hr] at hq
   simp -dsimp
   exact zj hq
  | true =>
  rw [hr] at hq
  simp -dsimp
  refine hasU s2 (c := 113) rfl (by simp) ?_
  simp -dsimp
  refine hasU s2 (c := 113) rfl (by simp) ?_
  simp -dsimp
  refine hasU s2 (c := 100) rfl (by simp) ?_
  simp -dsimp
  refine hasU s2 (c := 108) rfl (by simp) ?_
  simp -dsimp
  refine hasU s2 (c := 108) rfl (by simp) ?_
  simp -dsimp
  refine hasU s2 (c := 114) rfl (by simp) ?_
  simp -dsimp
  refine hasU s2 (c := 116) rfl (by simp) ?_
  simp -dsimp
  refine hasU s2 (c := 116) rfl (by simp) ?_
  simp -dsimp
  refine hasU s2 (c := 110) rfl (by simp) ?_
  simp -dsimp
  refine hasU s2 (c := 110) rfl (by simp) ?_
  simp -dsimp
  refine hasU s2 (c := 112) rfl (by simp) ?_
  simp -dsimp
  refine hasU s2 (c := 112) rfl (by simp) ?_
  simp -dsimp
  refine hasU s2 (c := 111) rfl (by simp) ?_
  simp -dsimp
  refine s5 y L R c h _ hy hl ?_
  simp -dsimp
  cases hO : zi2 L c with
  | true =>
   rw [hO] at hq
   simp -dsimp
   exact zj hq
  | false =>
   rw [hO] at hq
   simp -dsimp
   refine hasU s2 (c := 111) rfl (by simp) ?_
   simp -dsimp
   exact zj hq
 ·intro c y L R h Q hy hl hq
  have ly := hy.zi
  rw [List.length_map] at ly
  have cy := hy.zl
  apply i
  simp -dsimp
  refine s1.ip _ _ ?_
  simp -dsimp
  refine hasU s2 (c := 105) rfl (by simp) ?_
  by_cases hc : c = []
  ·subst hc
   simp -dsimp
   exact zj hq
  simp -dsimp [hc]
  refine s3 c _ _ ?_
  cases hr : zbb c with
  | false =>
   rw [hr] at hq
   simp -dsimp
   exact zj hq
  | true =>
  rw [hr] at hq
  simp -dsimp
  refine hasU s2 (c := 113) rfl (by simp) ?_
  simp -dsimp
  refine hasU s2 (c := 113) rfl (by simp) ?_
  simp -dsimp
  refine hasU s2 (c := 100) rfl (by simp) ?_
  simp -dsimp
  refine hasU s2 (c := 108) rfl (by simp) ?_
  simp -dsimp
  refine hasU s2 (c := 108) rfl (by simp) ?_
  simp -dsimp
  refine hasU s2 (c := 114) rfl (by simp) ?_
  simp -dsimp
  refine hasU s2 (c := 116) rfl (by simp) ?_
  simp -dsimp
  refine hasU s2 (c := 116) rfl (by simp) ?_
  simp -dsimp
  refine hasU s2 (c := 110) rfl (by simp) ?_
  simp -dsimp
  refine hasU s2 (c := 110) rfl (by simp) ?_
  simp -dsimp
  refine hasU s2 (c := 112) rfl (by simp) ?_
  simp -dsimp
  refine s4 y L R h _ hy hl ?_
  simp -dsimp
  cases hO : zlr L with
  | true =>
   rw [hO] at hq
   simp -dsimp
   refine hasU s2 (c := 112) rfl (by simp) ?_
   simp -dsimp
   refine hasU s2 (c := 111) rfl (by simp) ?_
   simp -dsimp
   refine hasU s2 (c := 111) rfl (by simp) ?_
   simp -dsimp
   exact zj hq
  | false =>
   rw [hO] at hq
   simp -dsimp
   exact zj hq
theorem kept_eq (t : Itm) : zia t = (zbb t.Code && ((zbb t.Code && zi2 t.zck t.Code) && bif decide (t.zdd = []) then decide (1 ≤ t.Life) && decide (t.Life ≤ 2000) else decide (t.Life = 0) && (zbb t.Code && zlr t.zdd))) := by
 unfold zia zk8 zi2 zlr qtyB ztx
 rw [Bool.eq_iff_iff]
 by_cases hp : t.zdd = []
 ·rw [hp]
  simp only [decide_true, cond_true, Bool.and_eq_true, List.all_eq_true, decide_eq_true_eq, List.length_cons, List.nodup_cons, List.mem_cons, Bool.not_eq_true', decide_eq_false_iff_not]
  constructor
  ·rintro ⟨⟨h1, ⟨h2, h3⟩, h4⟩, h5, h6⟩
   have hc := h1 _ (.inl rfl)
   exact ⟨hc, ⟨hc, fun o ho => ⟨h1 o (.inr ho), fun e => by subst e; exact h2 ho⟩, h3, by omega⟩, by omega, h6⟩
  ·rintro ⟨hc, ⟨_, h1, h2, h3⟩, h4, h5⟩
   exact ⟨⟨fun x hx => hx.elim (fun e => by rw [e]; exact hc) fun hx => (h1 x hx).1, ⟨fun hm => (h1 _ hm).2 rfl, h2⟩, by omega⟩, by omega, h5⟩
 ·rw [decide_eq_false hp]
  have hpl : 1 ≤ t.zdd.length := List.length_pos_iff.2 hp
  simp only [cond_false, Bool.and_eq_true, List.all_eq_true, decide_eq_true_eq, List.length_cons, List.nodup_cons, List.mem_cons, Bool.not_eq_true', decide_eq_false_iff_not, List.mem_map, List.length_map]
  constructor
  ·rintro ⟨⟨h1, ⟨h2, h3⟩, h4⟩, h5, h6, h7, h8, h9⟩
   have hc := h1 _ (.inl rfl)
   exact ⟨hc, ⟨hc, fun o ho => ⟨h1 o (.inr ho), fun e => by subst e; exact h2 ho⟩, h3, by omega⟩, h6, hc, fun p hp => ⟨h7 _ ⟨p, hp, rfl⟩, h5 p hp⟩, h8, hpl, h9⟩
  ·rintro ⟨hc, ⟨_, h1, h2, h3⟩, h4, _, h5, h6, h7, h8⟩
   exact ⟨⟨fun x hx => hx.elim (fun e => by rw [e]; exact hc) fun hx => (h1 x hx).1, ⟨fun hm => (h1 _ hm).2 rfl, h2⟩, by omega⟩, fun p hp => (h5 p hp).2, h4, fun x ⟨p, hp, e⟩ => by rw [← e]; exact (h5 p hp).1, h6, h8⟩
def zbr.Spec (C : CSem) (N : Nat → Nat) : Prop := ∀ (n : Int) (k : Nat) (h : za) (Q : AVal → za → Prop), k ≤ 8 →
 (∀ x' h', Owns h h' [.sl 1 x' ((be n k).map bc) []] → Q x' h') → C (N 466) [.int .i64 n, .int .i64 (k : Int)] h Q
theorem zbr.spec (i : zbr.Imp C N) : zbr.Spec C N := by
 intro n k h Q hk hq
 apply i
 have e0 : IntKind.i64.wrap ((k : Int) - 1) = (k : Int) - 1 := wrap_i64 (by omega) (by omega)
 simp +contextual -dsimp [e0]
 refine zg.intro (fun t vs hh => ∃ (x : AVal) (pre : List UInt8), t ≤ k ∧ vs = [x, .int .i64 ((t : Int) - 1)] ∧ pre ++ be n t = be n k ∧ Owns h hh [.sl 1 x (pre.map bc) []]) k ?_ ⟨.nils, [], Nat.le_refl _, rfl, rfl, (Owns.start h).nils 1⟩
 rintro Y t vs hh ⟨x, pre, ht, rfl, he, ho⟩ hY
 simp +contextual -dsimp
 have hpl := congrArg List.length he
 simp only [List.length_append, zg5] at hpl
 refine B.ze (fun hb => ?_) (fun hb => ?_) <;> simp at hb
 ·obtain ⟨t, rfl⟩ : ∃ u, t = u + 1 := ⟨t - 1, by omega⟩
  have e1 : ((t + 1 : Nat) : Int) - 1 = (t : Int) := by omega
  have e2 : IntKind.i64.wrap (8 * (t : Int)) = 8 * (t : Int) := wrap_i64 (by omega) (by omega)
  have e5 : IntKind.u64.wrap (8 * (t : Int)) = 8 * (t : Int) := by rw [wrap_u64]; omega
  have e3 : V.bin .shr (.int .u64 (IntKind.u64.wrap n)) (.int .u64 (8 * (t : Int))) = some (.int .u64 ((n % 18446744073709551616).fdiv (2 ^ (8 * t)))) := by
   rw [wrap_u64, zrs (by omega) (by simp [IntKind.bits]; omega)]
   congr 4
  have e6 : byt ((n % 18446744073709551616).fdiv (2 ^ (8 * t))) = byt (n.fdiv (2 ^ (8 * t))) := byt_congr (fdiv_u64 n t (by omega))
  have e4 : IntKind.i64.wrap ((t : Int) - 1) = (t : Int) - 1 := wrap_i64 (by omega) (by omega)
  rw [e1]
  simp +contextual -dsimp [e2, e5, e3, zke, e6]
  refine ho.push 0 rfl rfl (by omega) (by simp; omega) (by simp [maxLen]; omega) fun x' h' ho' _ => ?_
  simp +contextual -dsimp [e4]
  refine hY t _ _ (by omega) ⟨x', pre ++ [byt (n.fdiv (2 ^ (8 * t)))], by omega, rfl, ?_, ?_⟩
  ·rw [← he, be, List.append_assoc]; rfl
  ·rw [List.map_append]; exact ho'
 ·have : t = 0 := by omega
  subst this
  rw [be, List.append_nil] at he
  subst he
  exact zj (hq _ _ ho)
def zbz.Spec (C : CSem) (N : Nat → Nat) : Prop := ∀ (x : AVal) (xs : List AVal) (L : List (List UInt8)) (R : List (List AVal)) (h : za) (Q : AVal → za → Prop), SlX h 1 x (xs.map fun y => [y]) R → Pcs h xs L → L.length ≤ 1000 → L.flatten.length ≤ 100000000 →
 (∀ x' h', Owns h h' [bOb false x' L.flatten] → Q x' h') → C (N 471) [x] h Q
theorem zbz.spec (i : zbz.Imp C N) : zbz.Spec C N := by
 intro x xs L R h Q hx hp hl1 hl2 hq
 apply i
 have hxl := hp.len
 have lx := hx.zi
 rw [List.length_map, hxl] at lx
 refine zg.intro (fun t vs h2 => ∃ (k : Nat) (y : AVal), k + t = L.length ∧ vs = [y, .int .i64 (k : Int)] ∧ Owns h h2 [.sl 1 y ((L.take k).flatten.map bc) []]) L.length ?_ ⟨0, .nils, by omega, rfl, (Owns.start h).nils 1⟩
 rintro Y t vs h2 ⟨k, y, hk, rfl, o⟩ hY
 simp -dsimp only [zbz.l2, zbz.k1, lx, lssN, B.zf]
 refine B.ze (fun hc => ?_) (fun hc => ?_)
 ·rw [decide_eq_true_eq] at hc
  have hs := zoy hc
  have hle := zte L (k + 1)
  have hg : (xs.map fun y => [y])[k]? = some [xs[k]'(by omega)] := by rw [List.getElem?_map, List.getElem?_eq_getElem (by omega)]; rfl
  have hidx : V.idxS 1 x (.int .i64 (k : Int)) = some (elp 1 x k 0) := hx.idxN (by simp; omega)
  obtain ⟨R2, h2'⟩ := hp.get k _ _ (List.getElem?_eq_getElem (by omega)) (List.getElem?_eq_getElem hc)
  simp -dsimp only [hidx, (hx.mono o.le).cell hg, B.zh0, B.zf]
  refine o.appW 0 rfl (h2'.mono o.le) Nat.one_pos (by simp only [List.length_map]; omega) (by simp only [List.length_map, maxLen]; omega) fun x' h' o3 _ => ?_
  simp -dsimp only [add1 (show k < 4611686018427387904 by omega), B.zf]
  refine hY (t - 1) _ _ (by omega) ⟨k + 1, x', by omega, rfl, ?_⟩
  rw [List.take_add_one, List.getElem?_eq_getElem hc, Option.toList_some, List.flatten_append, List.flatten_singleton, List.map_append]
  exact o3
 ·rw [decide_eq_false_iff_not] at hc
  have hk : k = L.length := by omega
  subst hk
  rw [List.take_length] at o
  exact zj (hq _ _ o)
def zef.Spec (C : CSem) (N : Nat → Nat) : Prop := ∀ (t : Itm) (a : AVal × AVal) (h : za) (Q : AVal → za → Prop), zd6.at_ h t a → Q (.bool (zia t)) h → C (N 472) [.agg (zd6.cells t a)] h Q
theorem zef.spec (i : zef.Imp C N) (s1 : zbu.Spec C N) (s2 : zd1.Spec C N) : zef.Spec C N := by
 intro t a h Q ha hq
 obtain ⟨⟨R1, a1⟩, ⟨R2, a2⟩, a3, a4⟩ : (∃ R, SlX h 2 a.1 (t.zdd.map Part.cs) R) ∧ (∃ R, SlX h 1 a.2 (t.zck.map tc) R) ∧ t.ok := ha
 unfold few at a3 a4
 have l1 := a1.zi
 rw [List.length_map] at l1
 have c1 := a1.zl
 have c2 := a2.zl
 rw [kept_eq] at hq
 apply i
 simp -dsimp [zd6]
 refine s1 _ _ _ ?_
 cases hr : zbb t.Code with
 | false =>
  rw [hr] at hq
  simp -dsimp
  exact zj hq
 | true =>
 rw [hr] at hq
 simp -dsimp [c2]
 refine s2.io _ _ _ _ _ _ a2 (by omega) ?_
 rw [hr]
 simp -dsimp [l1]
 cases hO : zi2 t.zck t.Code with
 | false =>
  rw [hO] at hq
  simp -dsimp
  exact zj hq
 | true =>
 rw [hO] at hq
 simp -dsimp [l1]
 by_cases hp : t.zdd = []
 ·rw [decide_eq_true hp] at hq
  simp +contextual -dsimp [hp]
  exact zj hq
 ·rw [decide_eq_false hp] at hq
  simp +contextual -dsimp [hp, c1]
  refine B.zea (v := .bool (zbb t.Code && zlr t.zdd)) (fun _ Q hq => s2.ip _ _ _ _ _ _ a1 (by omega) hq) ?_
  rw [hr]
  simp -dsimp
  refine zj ?_
  simpa using hq
def z9.Spec (C : CSem) (N : Nat → Nat) : Prop := ∀ (s : Sta) (x y z : AVal) (h : za) (Q : AVal → za → Prop), zla h s x y z → Q (.bool (zgx s)) h → C (N 467) [.agg (zka s x y z)] h Q
theorem ordB_bad {T : Type} {ok : T → Bool} {lt : T → T → Bool} {l : List T} {k : Nat} {x : T} (hx : l[k]? = some x) (hb : (ok x && (decide (k = 0) || zje lt x l[k - 1]?)) = false) : ordB ok lt none l = false := by
 have key : ∀ (b : List T) (a : List T) (p : Option T), ordB ok lt p a = false → ordB ok lt p (a ++ b) = false := by
  intro b a
  induction a with
  | nil => intro p h; cases h
  | cons c a ih =>
   intro p h
   rw [ordB] at h
   rw [List.cons_append, ordB]
   cases h1 : (ok c && zje lt c p) with
   | false => rfl
   | true =>
    rw [h1, Bool.true_and] at h
    rw [Bool.true_and]
    exact ih _ h
 have h1 := zjy (ok := ok) (lt := lt) hx
 rw [hb, Bool.and_false] at h1
 have := key (l.drop (k + 1)) _ _ h1
 rwa [List.take_append_drop] at this
theorem z9.spec (i : z9.Imp C N) (s1 : zef.Spec C N) (s2 : zd3.Spec C N) (s3 : zd2.Spec C N) : z9.Spec C N := by
 intro s x y z h Q ha hq
 obtain ⟨hi, ⟨R1, hl⟩, ⟨R2, hn⟩, n1, n2, n3⟩ := ha
 have l1 := hi.zi
 have l2 := hl.zi
 have l3 := hn.zi
 rw [List.length_map] at l2 l3
 have hx := hi.zl
 have hy := hl.zl
 have hz := hn.zl
 have no : zgx s = false → dn Q (.bool false) h := fun e => by rw [e] at hq; exact zj hq
 have hnum : numsB s = !(((((decide (s.Now < 0) || decide (4000 < s.Now)) || decide (s.zhx < 1)) || decide (4611686018427387904 < s.zhx)) || decide (s.zgq < 1)) || decide (4611686018427387904 < s.zgq)) := by
  unfold numsB
  rw [Bool.eq_iff_iff]
  simp only [Bool.and_eq_true, decide_eq_true_eq, Bool.not_eq_true', Bool.or_eq_false_iff, decide_eq_false_iff_not]
  omega
 apply i
 simp +contextual -dsimp
 refine B.ze (fun hb => ?_) (fun hb => ?_)
 ·refine no ?_
  unfold zgx
  rw [hnum, hb]; rfl
 ·have hN : numsB s = true := by rw [hnum, hb]; rfl
  refine zg.intro (fun n vs hh => hh = h ∧ ∃ k : Nat, k + n = s.zd9.length ∧ vs = [.int .i64 (k : Int)] ∧ ordB zia (fun a b => zrj a.Code b.Code) none (s.zd9.take k) = true) s.zd9.length ?_ ⟨rfl, 0, by omega, rfl, rfl⟩
  rintro Y n vs hh ⟨rfl, k, hk, rfl, hord⟩ hY
  simp -dsimp only [z9.l6, z9.k5, B.zhz, V.zej, List.getElem?_cons_succ, List.getElem?_cons_zero, l1, lssN, B.zf]
  refine B.ze (fun hc => ?_) (fun hc => ?_)
  ·rw [decide_eq_true_eq] at hc
   obtain ⟨w, hw⟩ := zc6 hc
   obtain ⟨a, ea⟩ := hi.get hw
   have e1 : V.idxS 4 x (.int .i64 (k : Int)) = some (elp 4 x k 0) := ea.idx
   have e2 : A.ldnv hh (elp 4 x k 0) 4 = some (.agg (zd6.cells w a)) := ea.ldn
   have e3 : V.fieldAddr 0 (elp 4 x k 0) = some (elp 4 x k 0) := ea.fld 0 0
   have e4 : A.ldv hh (elp 4 x k 0) = some (.str w.Code) := ea.ld 0 (by decide)
   have hk1 := add1 (show k < 4611686018427387904 by omega)
   have step := zjy (ok := zia) (lt := fun a b : Itm => zrj a.Code b.Code) hw
   have stop : (zia w && (decide (k = 0) || zje (fun a b : Itm => zrj a.Code b.Code) w s.zd9[k - 1]?)) = false → dn Q (.bool false) hh := fun e => no (by
    have := ordB_bad (ok := zia) (lt := fun a b : Itm => zrj a.Code b.Code) hw e
    unfold zgx zue
    rw [this, Bool.false_and, Bool.and_false])
   have next : (zia w && (decide (k = 0) || zje (fun a b : Itm => zrj a.Code b.Code) w s.zd9[k - 1]?)) = true → Y [.int .i64 ((k + 1 : Nat) : Int)] hh := fun e =>
    hY (n - 1) _ _ (by omega) ⟨rfl, k + 1, by omega, rfl, by rw [step, hord, e]; rfl⟩
   simp -dsimp only [B.zhz, V.zej, List.getElem?_cons_succ, List.getElem?_cons_zero, e1, e2, B.zij, B.zf]
   refine s1 w a hh _ ea.at_ ?_
   cases hkw : zia w with
   | false =>
    simp -dsimp
    exact stop (by rw [hkw]; rfl)
   | true =>
   by_cases h0 : k = 0
   ·subst h0
    simp -dsimp only [V.zp1, Bool.not_true, B.zf, B.gd_f, Bool.not_false, B.zjh]
    simp -dsimp [- V.zet]
    simp -dsimp only [add0, B.zf]
    exact next (by rw [hkw]; rfl)
   ·obtain ⟨u, hu⟩ := zc6 (L := s.zd9) (k := k - 1) (by omega)
    obtain ⟨c, ec⟩ := hi.get hu
    have sk := sub1 (a := k) (by omega) (by omega)
    have f1 : V.idxS 4 x (.int .i64 ((k - 1 : Nat) : Int)) = some (elp 4 x (k - 1) 0) := ec.idx
    have f2 : V.fieldAddr 0 (elp 4 x (k - 1) 0) = some (elp 4 x (k - 1) 0) := ec.fld 0 0
    have f3 : A.ldv hh (elp 4 x (k - 1) 0) = some (.str u.Code) := ec.ld 0 (by decide)
    have hk0 : (0 : Int) < k := by omega
    have hk0' : 0 < k := by omega
    simp -dsimp [hk0, hk0', sk, f1, f2, f3, e1, e3, e4, V.bin_sgeq, - V.zet, - V.zi5]
    refine B.ze (fun hd => ?_) (fun hd => ?_)
    ·refine stop ?_
     rw [hkw, hu, decide_eq_false h0]
     simpa [zje] using hd
    ·simp -dsimp only [hk1, B.zf]
     refine next ?_
     rw [hkw, hu, decide_eq_false h0]
     simpa [zje] using hd
  ·rw [decide_eq_false_iff_not] at hc
   have : k = s.zd9.length := by omega
   subst this
   rw [List.take_length] at hord
   refine zg.intro (fun n vs h2 => h2 = hh ∧ ∃ k : Nat, k + n = s.Lots.length ∧ vs = [.int .i64 (k : Int)] ∧ ordB zfm (fun a b => decide (a.Id < b.Id)) none (s.Lots.take k) = true) s.Lots.length ?_ ⟨rfl, 0, by omega, rfl, rfl⟩
   rintro Y2 n vs h2 ⟨rfl, k, hk, rfl, hord2⟩ hY
   simp -dsimp only [z9.l4, z9.k3, B.zhz, V.zej, List.getElem?_cons_succ, List.getElem?_cons_zero, l2, lssN, B.zf]
   refine B.ze (fun hc => ?_) (fun hc => ?_)
   ·rw [decide_eq_true_eq] at hc
    obtain ⟨w, hw⟩ := zc6 hc
    have hkl : k < (s.Lots.map Lot.cs).length := by simpa using hc
    have e1 : V.idxS 6 y (.int .i64 (k : Int)) = some (elp 6 y k 0) := hl.idxN hkl
    have e2 := hl.elem (get_map hw)
    have e3 : V.fieldAddr 0 (elp 6 y k 0) = some (elp 6 y k 0) := hl.zlv hkl 0 0
    have e4 : A.ldv h2 (elp 6 y k 0) = some (.int .i64 w.Id) := hl.ldv (get_map hw) (by omega)
    have hk1 := add1 (show k < 4611686018427387904 by omega)
    have step := zjy (ok := zfm) (lt := fun a b : Lot => decide (a.Id < b.Id)) hw
    have stop : (zfm w && (decide (k = 0) || zje (fun a b : Lot => decide (a.Id < b.Id)) w s.Lots[k - 1]?)) = false → dn Q (.bool false) h2 := fun e => no (by
     have := ordB_bad (ok := zfm) (lt := fun a b : Lot => decide (a.Id < b.Id)) hw e
     unfold zgx lotsB
     rw [this, Bool.false_and, Bool.and_false, Bool.and_false])
    have next : (zfm w && (decide (k = 0) || zje (fun a b : Lot => decide (a.Id < b.Id)) w s.Lots[k - 1]?)) = true → Y2 [.int .i64 ((k + 1 : Nat) : Int)] h2 := fun e =>
     hY (n - 1) _ _ (by omega) ⟨rfl, k + 1, by omega, rfl, by rw [step, hord2, e]; rfl⟩
    simp -dsimp only [B.zhz, V.zej, List.getElem?_cons_succ, List.getElem?_cons_zero, e1, e2, B.zij, B.zf]
    refine s2 w h2 _ ?_
    cases hkw : zfm w with
    | false =>
     simp -dsimp
     exact stop (by rw [hkw]; rfl)
    | true =>
    by_cases h0 : k = 0
    ·subst h0
     simp -dsimp only [V.zp1, Bool.not_true, B.zf, B.gd_f, Bool.not_false, B.zjh]
     simp -dsimp [- V.zet]
     simp -dsimp only [add0, B.zf]
     exact next (by rw [hkw]; rfl)
    ·obtain ⟨u, hu⟩ := zc6 (L := s.Lots) (k := k - 1) (by omega)
     have sk := sub1 (a := k) (by omega) (by omega)
     have hku : k - 1 < (s.Lots.map Lot.cs).length := by simp; omega
     have f1 : V.idxS 6 y (.int .i64 ((k - 1 : Nat) : Int)) = some (elp 6 y (k - 1) 0) := hl.idxN hku
     have f2 : V.fieldAddr 0 (elp 6 y (k - 1) 0) = some (elp 6 y (k - 1) 0) := hl.zlv hku 0 0
     have f3 : A.ldv h2 (elp 6 y (k - 1) 0) = some (.int .i64 u.Id) := hl.ldv (get_map hu) (by omega)
     have hk0 : (0 : Int) < k := by omega
     have hk0' : 0 < k := by omega
     simp -dsimp [hk0, hk0', sk, f1, f2, f3, e1, e3, e4, - V.zet, - V.zi5]
     refine B.ze (fun hd => ?_) (fun hd => ?_)
     ·refine stop ?_
      rw [hkw, hu, decide_eq_false h0]
      simpa [zje] using hd
     ·simp -dsimp only [hk1, B.zf]
      refine next ?_
      rw [hkw, hu, decide_eq_false h0]
      simpa [zje] using hd
   ·rw [decide_eq_false_iff_not] at hc
    have : k = s.Lots.length := by omega
    subst this
    rw [List.take_length] at hord2
    refine zg.intro (fun n vs h3 => h3 = h2 ∧ ∃ k : Nat, k + n = s.zd8.length ∧ vs = [.int .i64 (k : Int)] ∧ ordB zem (fun a b => decide (a.Id < b.Id)) none (s.zd8.take k) = true) s.zd8.length ?_ ⟨rfl, 0, by omega, rfl, rfl⟩
    rintro Y3 n vs h3 ⟨rfl, k, hk, rfl, hord3⟩ hY
    simp -dsimp only [z9.l2, z9.k1, B.zhz, V.zej, List.getElem?_cons_succ, List.getElem?_cons_zero, l3, lssN, B.zf]
    refine B.ze (fun hc => ?_) (fun hc => ?_)
    ·rw [decide_eq_true_eq] at hc
     obtain ⟨w, hw⟩ := zc6 hc
     have hkl : k < (s.zd8.map Line.cs).length := by simpa using hc
     have e1 : V.idxS 8 z (.int .i64 (k : Int)) = some (elp 8 z k 0) := hn.idxN hkl
     have e2 := hn.elem (get_map hw)
     have e3 : V.fieldAddr 0 (elp 8 z k 0) = some (elp 8 z k 0) := hn.zlv hkl 0 0
     have e4 : A.ldv h3 (elp 8 z k 0) = some (.int .i64 w.Id) := hn.ldv (get_map hw) (by omega)
     have hk1 := add1 (show k < 4611686018427387904 by omega)
     have step := zjy (ok := zem) (lt := fun a b : Line => decide (a.Id < b.Id)) hw
     have stop : (zem w && (decide (k = 0) || zje (fun a b : Line => decide (a.Id < b.Id)) w s.zd8[k - 1]?)) = false → dn Q (.bool false) h3 := fun e => no (by
      have := ordB_bad (ok := zem) (lt := fun a b : Line => decide (a.Id < b.Id)) hw e
      unfold zgx linesB
      rw [this, Bool.and_false, Bool.and_false, Bool.and_false])
     have next : (zem w && (decide (k = 0) || zje (fun a b : Line => decide (a.Id < b.Id)) w s.zd8[k - 1]?)) = true → Y3 [.int .i64 ((k + 1 : Nat) : Int)] h3 := fun e =>
      hY (n - 1) _ _ (by omega) ⟨rfl, k + 1, by omega, rfl, by rw [step, hord3, e]; rfl⟩
     simp -dsimp only [B.zhz, V.zej, List.getElem?_cons_succ, List.getElem?_cons_zero, e1, e2, B.zij, B.zf]
     refine s3 w h3 _ ?_
     cases hkw : zem w with
     | false =>
      simp -dsimp
      exact stop (by rw [hkw]; rfl)
     | true =>
     by_cases h0 : k = 0
     ·subst h0
      simp -dsimp only [V.zp1, Bool.not_true, B.zf, B.gd_f, Bool.not_false, B.zjh]
      simp -dsimp [- V.zet]
      simp -dsimp only [add0, B.zf]
      exact next (by rw [hkw]; rfl)
     ·obtain ⟨u, hu⟩ := zc6 (L := s.zd8) (k := k - 1) (by omega)
      have sk := sub1 (a := k) (by omega) (by omega)
      have hku : k - 1 < (s.zd8.map Line.cs).length := by simp; omega
      have f1 : V.idxS 8 z (.int .i64 ((k - 1 : Nat) : Int)) = some (elp 8 z (k - 1) 0) := hn.idxN hku
      have f2 : V.fieldAddr 0 (elp 8 z (k - 1) 0) = some (elp 8 z (k - 1) 0) := hn.zlv hku 0 0
      have f3 : A.ldv h3 (elp 8 z (k - 1) 0) = some (.int .i64 u.Id) := hn.ldv (get_map hu) (by omega)
      have hk0 : (0 : Int) < k := by omega
      have hk0' : 0 < k := by omega
      simp -dsimp [hk0, hk0', sk, f1, f2, f3, e1, e3, e4, - V.zet, - V.zi5]
      refine B.ze (fun hd => ?_) (fun hd => ?_)
      ·refine stop ?_
       rw [hkw, hu, decide_eq_false h0]
       simpa [zje] using hd
      ·simp -dsimp only [hk1, B.zf]
       refine next ?_
       rw [hkw, hu, decide_eq_false h0]
       simpa [zje] using hd
    ·rw [decide_eq_false_iff_not] at hc
     have : k = s.zd8.length := by omega
     subst this
     rw [List.take_length] at hord3
     have e : zgx s = true := by
      unfold zgx zue lotsB linesB
      rw [hN, hord, hord2, hord3]; rfl
     rw [e] at hq
     exact zj hq
theorem zsr (s : zbr.Spec C N) {n : Int} {k : Nat} (hk : k ≤ 8) {h : za} (Q : AVal → za → Prop) (hq : ∀ x' h', Owns h h' [.sl 1 x' ((be n k).map bc) []] → Q x' h') : C (N 466) [.int .i64 n, .int .i64 (k : Int)] h Q := s n k h Q hk hq
def zy.Spec (C : CSem) (N : Nat → Nat) : Prop := ∀ (t : Itm) (a : AVal × AVal) (h : za) (Q : AVal → za → Prop), zd6.at_ h t a → zia t = true → (∀ b h', Owns h h' (rowK.obs false (zll t) b) → Q (.agg (rowK.cells (zll t) b)) h') → C (N 465) [.agg (zd6.cells t a)] h Q
theorem zy.spec (i : zy.Imp C N) (s1 : zbr.Spec C N) (s2 : zen.Spec C N) : zy.Spec C N := by
 intro w a h Q ha hkp hq
 obtain ⟨f1, f2, f3, f4, f5⟩ := zrl hkp
 obtain ⟨⟨Ra, ha1⟩, ⟨Rb, ha2⟩, _⟩ : (∃ R, SlX h 2 a.1 (w.zdd.map Part.cs) R) ∧ (∃ R, SlX h 1 a.2 (w.zck.map tc) R) ∧ w.ok := ha
 have l1 := ha1.zi
 have l2 := ha2.zi
 rw [List.length_map] at l1 l2
 have u1 : IntKind.u8.wrap (w.zdd.length : Int) = ((byt w.zdd.length).toNat : Int) := zke _
 have u2 : IntKind.u8.wrap (w.zck.length : Int) = ((byt w.zck.length).toNat : Int) := zke _
 have g1 := fun j => zgn (f := fun p : Part => zdq p.Item ++ be p.Qty 4) (m := 17) (fun p => by have := zdp p.Item; simp; omega) (w.zdd.take j)
 have g2 := fun j => zgn (f := zdq) (m := 13) zdp (w.zck.take j)
 apply i
 simp -dsimp [zd6, l1, u1]
 refine zsr s1 (k := 2) (by omega) _ fun v8 h1 o1 => ?_
 simp -dsimp
 refine byteLit o1 (by simp) fun v14 h2 o2 => ?_
 refine zg.intro (fun t vs hh => ∃ (j : Nat) (v : AVal), j + t = w.zdd.length ∧ vs = [v, .int .i64 (j : Int)] ∧ Owns h hh [.sl 1 v (((be w.Life 2 ++ [byt w.zdd.length]) ++ (w.zdd.take j).flatMap fun p => zdq p.Item ++ be p.Qty 4).map bc) []]) w.zdd.length ?_ ⟨0, v14, by omega, rfl, by simpa using o2⟩
 rintro Y t vs h3 ⟨j, v, hj, rfl, o3⟩ hY
 simp -dsimp only [zy.l6, zy.k5, B.zhz, V.zej, List.getElem?_cons_succ, List.getElem?_cons_zero, l1, lssN, B.zf]
 have b1 := g1 j
 rw [List.length_take] at b1
 refine B.ze (fun hc => ?_) (fun hc => ?_)
 ·rw [decide_eq_true_eq] at hc
  obtain ⟨q, hqj⟩ := zc6 hc
  have hjl : j < (w.zdd.map Part.cs).length := by simpa using hc
  have e1 : V.idxS 2 a.1 (.int .i64 (j : Int)) = some (elp 2 a.1 j 0) := ha1.idxN hjl
  have e2 : V.fieldAddr 0 (elp 2 a.1 j 0) = some (elp 2 a.1 j 0) := ha1.zlv hjl 0 0
  have e3 : V.fieldAddr 1 (elp 2 a.1 j 0) = some (elp 2 a.1 j 1) := ha1.zlv hjl 0 1
  have e4 : A.ldv h3 (elp 2 a.1 j 0) = some (.str q.Item) := (ha1.mono o3.le).ldv (get_map hqj) (by omega)
  simp -dsimp only [B.zhz, V.zej, List.getElem?_cons_succ, List.getElem?_cons_zero, e1, e2, e4, B.zh0, B.zf]
  have hcl := zdp q.Item
  refine zqx (fun Q hq => s2 q.Item h3 Q hq) o3 (by simp only [List.length_append, zg5, List.length_cons, List.length_nil]; omega) fun v30 h4 o4 => ?_
  have e5 : A.ldv h4 (elp 2 a.1 j 1) = some (.int .i64 q.Qty) := (ha1.mono o4.le).ldv (get_map hqj) (by omega)
  simp -dsimp only [B.zhz, V.zej, List.getElem?_cons_succ, List.getElem?_cons_zero, e1, e3, e5, B.zh0, B.zf]
  refine zqx (fun Q hq => zsr s1 (k := 4) (by omega) Q hq) o4 (by simp only [List.length_append, zg5, List.length_cons, List.length_nil]; omega) fun v39 h5 o5 => ?_
  simp -dsimp only [add1 (show j < 4611686018427387904 by omega), B.zf]
  refine hY (t - 1) _ _ (by omega) ⟨j + 1, v39, by omega, rfl, ?_⟩
  rw [take_succ hqj, List.flatMap_append]
  simpa using o5
 ·rw [decide_eq_false_iff_not] at hc
  have : j = w.zdd.length := by omega
  subst this
  rw [List.take_length] at o3
  simp -dsimp [l2, u2]
  refine byteLit o3 (by simp only [List.length_append, zg5, List.length_cons, List.length_nil]; rw [List.take_length] at b1; omega) fun v46 h4 o4 => ?_
  generalize hD : (((be w.Life 2 ++ [byt w.zdd.length]) ++ w.zdd.flatMap fun p => zdq p.Item ++ be p.Qty 4) ++ [byt w.zck.length]) = D at *
  have hDl : D.length ≤ 200 := by
   rw [List.take_length] at b1
   rw [← hD]
   simp only [List.length_append, zg5, List.length_cons, List.length_nil]
   omega
  refine zg.intro (fun t vs hh => ∃ (j : Nat) (v : AVal), j + t = w.zck.length ∧ vs = [v, .int .i64 (j : Int)] ∧ Owns h hh [.sl 1 v ((D ++ (w.zck.take j).flatMap zdq).map bc) []]) w.zck.length ?_ ⟨0, v46, by omega, rfl, by simpa using o4⟩
  rintro Z t2 vs h5 ⟨j, v, hj2, rfl, o5⟩ hZ
  simp -dsimp only [zy.l3, zy.k2, B.zhz, V.zej, List.getElem?_cons_succ, List.getElem?_cons_zero, l2, lssN, B.zf]
  have b2 := g2 j
  rw [List.length_take] at b2
  refine B.ze (fun hd => ?_) (fun hd => ?_)
  ·rw [decide_eq_true_eq] at hd
   obtain ⟨q, hqj⟩ := zc6 hd
   have hjl : j < (w.zck.map tc).length := by simpa using hd
   have e1 : V.idxS 1 a.2 (.int .i64 (j : Int)) = some (elp 1 a.2 j 0) := ha2.idxN hjl
   have e4 : A.ldv h5 (elp 1 a.2 j 0) = some (.str q) := (ha2.mono o5.le).cell (get_map hqj)
   simp -dsimp only [B.zhz, V.zej, List.getElem?_cons_succ, List.getElem?_cons_zero, e1, e4, B.zh0, B.zf]
   have hcl := zdp q
   refine zqx (fun Q hq => s2 q h5 Q hq) o5 (by simp only [List.length_append]; omega) fun v6 h6 o6 => ?_
   simp -dsimp only [add1 (show j < 4611686018427387904 by omega), B.zf]
   refine hZ (t2 - 1) _ _ (by omega) ⟨j + 1, v6, by omega, rfl, ?_⟩
   rw [take_succ hqj, List.flatMap_append]
   simpa using o6
  ·rw [decide_eq_false_iff_not] at hd
   have : j = w.zck.length := by omega
   subst this
   rw [List.take_length] at o5
   have ev : D ++ w.zck.flatMap zdq = zlk w := by rw [← hD]; unfold zlk; simp
   rw [ev] at o5
   have fc : (105 :: w.Code).length ≤ far := by
    have := zln f4
    unfold far; simp; omega
   have es : V.bin .add (.str [105]) (.str w.Code) = some (.str (105 :: w.Code)) := V.bin_sadd [105] w.Code (by unfold far at fc; simp at fc ⊢; omega)
   have cv := (o5.slAt 0 rfl).zl
   simp -dsimp [es]
   refine zr1 (s := 105 :: w.Code) fc fun key h6 o6 => ?_
   have ck : key.zl = true := (o6.slAt 0 rfl : SlX h6 1 key ((105 :: w.Code).map bc) []).zl
   simp -dsimp [ck, cv]
   exact zj (hq (key, v) h6 ((o5.join o6).perm (List.Perm.swap ..)))
theorem keyNum (s1 : zbr.Spec C N) {hb h : za} {c : UInt8} {n : Int} {l : List Ob} {K : AVal → za → Prop} (ho : Owns hb h l) (hK : ∀ k h', Owns hb h' (l ++ [bOb false k (c :: be n 8)]) → K k h') :
  B.newO h (some [.int .u8 (c.toNat : Int)]) fun i h => B.conv h (.sl i 0 0 1 1 1) fun v => B.call C (N 466) [.int .i64 n, .int .i64 8] h fun v29 h => B.appW h 1 1 v v29 K := by
 refine zfr 1 (s := [c]) rfl rfl fun i h2 o2 => ?_
 refine zji o2 (by simp) ?_
 generalize AVal.sl i 0 0 1 1 1 = v at *
 refine zsr s1 (k := 8) (by omega) _ fun x' h3 o3 => ?_
 have hmid : ((l ++ [.sl 1 v ([c].map bc) []]) ++ [.sl 1 x' ((be n 8).map bc) []])[l.length]? = some (.sl 1 v ([c].map bc) []) := by
  rw [List.getElem?_append_left (by simp)]; exact zjc
 refine ((ho.join o2).join o3).appW l.length hmid (o3.slAt 0 rfl) (by omega) (by simp) (by simp [maxLen]) fun k h4 o4 _ => hK k h4 ?_
 rw [List.set_append_left _ _ (by simp), zse, ← List.map_append] at o4
 exact o4.sub (List.sublist_append_left _ _)
def zbt.Spec (C : CSem) (N : Nat → Nat) : Prop := ∀ (w : Lot) (h : za) (Q : AVal → za → Prop), (∀ b h', Owns h h' (rowK.obs false (zlt w) b) → Q (.agg (rowK.cells (zlt w) b)) h') → C (N 464) [.agg w.cs] h Q
theorem zbt.spec (i : zbt.Imp C N) (s1 : zbr.Spec C N) (s2 : zen.Spec C N) (s3 : zbz.Spec C N) : zbt.Spec C N := by
 intro w h Q hq
 apply i
 have tail : zbt.k1 C N (dn Q) (.int .u8 ((bif w.zj7 then (1 : UInt8) else 0).toNat : Int)) (.agg w.cs) (.agg [.nils, .nils]) h := by
  simp -dsimp
  refine s2 w.Item _ _ fun a5 h1 o1 => ?_
  obtain ⟨b1, m1, ho1, p1⟩ := zds (xs := []) (L := []) (Owns.start h) trivial o1
  refine zsr s1 (k := 2) (by omega) _ fun a6 h2 o2 => ?_
  obtain ⟨b2, m2, ho2, p2⟩ := zds ho1 p1 o2
  refine zsr s1 (k := 2) (by omega) _ fun a7 h3 o3 => ?_
  obtain ⟨b3, m3, ho3, p3⟩ := zds ho2 p2 o3
  refine zsr s1 (k := 4) (by omega) _ fun a8 h4 o4 => ?_
  obtain ⟨b4, m4, ho4, p4⟩ := zds ho3 p3 o4
  simp -dsimp
  refine zfr 1 (s := [bif w.zj7 then 1 else 0]) rfl rfl fun i22 h5 o5 => ?_
  obtain ⟨b5, m5, ho5, p5⟩ := zds ho4 p4 o5
  generalize AVal.sl i22 0 0 1 1 1 = a9 at *
  have c5 := (p5.get 0 a5 _ rfl rfl).elim fun _ r => r.zl
  have c6 := (p5.get 1 a6 _ rfl rfl).elim fun _ r => r.zl
  have c7 := (p5.get 2 a7 _ rfl rfl).elim fun _ r => r.zl
  have c8 := (p5.get 3 a8 _ rfl rfl).elim fun _ r => r.zl
  have c9 := (p5.get 4 a9 _ rfl rfl).elim fun _ r => r.zl
  simp -dsimp [c5, c6, c7, c8, c9]
  refine zqo 5 ho5 rfl (ys := [a5, a6, a7, a8, a9]) fun i23 h6 hle6 o6 => ?_
  generalize AVal.sl i23 0 0 5 1 5 = a10 at *
  refine s3 a10 [a5, a6, a7, a8, a9] [zdq w.Item, be w.From 2, be w.zog 2, be w.Qty 4, [bif w.zj7 then 1 else 0]] [] h6 _ (o6.is (.sl 1 a10 ([a5, a6, a7, a8, a9].map fun y => [y]) []) (by simp)) (p5.mono (za.le_trans ho5.le hle6)) (by simp) (by have h1 := zdp w.Item; simp; omega) fun val h7 o7 => ?_
  have cval : val.zl = true := (o7.slAt 0 rfl : SlX h7 1 val _ []).zl
  have ev : ([zdq w.Item, be w.From 2, be w.zog 2, be w.Qty 4, [bif w.zj7 then 1 else 0]] : List (List UInt8)).flatten = (zlt w).Value := by simp [zlt, lotVal]
  rw [ev] at o7
  simp -dsimp
  refine keyNum s1 (c := 108) o7 fun key h8 o8 => ?_
  have ck : key.zl = true := (o8.slAt 1 rfl : SlX h8 1 key _ []).zl
  simp -dsimp [ck, cval]
  have hle : h.le h6 := za.le_trans m1 (za.le_trans m2 (za.le_trans m3 (za.le_trans m4 (za.le_trans m5 o6.le))))
  exact zj (hq (key, val) h8 ((o8.back hle).perm (List.Perm.swap ..)))
 simp -dsimp only [zbt.cps, zbt.k2]
 simp -dsimp [- zbt.k1]
 refine B.ze (fun hb => ?_) (fun hb => ?_)
 ·rw [hb] at tail; simpa [- zbt.k1, hb] using tail
 ·rw [hb] at tail; simpa [- zbt.k1, hb] using tail
def zdg.Spec (C : CSem) (N : Nat → Nat) : Prop := ∀ (w : Line) (h : za) (Q : AVal → za → Prop), (∀ b h', Owns h h' (rowK.obs false (zi4 w) b) → Q (.agg (rowK.cells (zi4 w) b)) h') → C (N 463) [.agg w.cs] h Q
theorem zdg.spec (i : zdg.Imp C N) (s1 : zbr.Spec C N) (s2 : zen.Spec C N) (s3 : zbz.Spec C N) : zdg.Spec C N := by
 intro w h Q hq
 apply i
 have e3 : IntKind.u8.wrap w.Rank = ((byt w.Rank).toNat : Int) := zke _
 simp -dsimp [e3]
 refine s2 w.Item _ _ fun a5 h1 o1 => ?_
 obtain ⟨b1, m1, ho1, p1⟩ := zds (xs := []) (L := []) (Owns.start h) trivial o1
 refine zsr s1 (k := 4) (by omega) _ fun a6 h2 o2 => ?_
 obtain ⟨b2, m2, ho2, p2⟩ := zds ho1 p1 o2
 refine zsr s1 (k := 2) (by omega) _ fun a7 h3 o3 => ?_
 obtain ⟨b3, m3, ho3, p3⟩ := zds ho2 p2 o3
 refine zsr s1 (k := 2) (by omega) _ fun a8 h4 o4 => ?_
 obtain ⟨b4, m4, ho4, p4⟩ := zds ho3 p3 o4
 refine s2 w.Code _ _ fun a9 h5 o5 => ?_
 obtain ⟨b5, m5, ho5, p5⟩ := zds ho4 p4 o5
 simp -dsimp
 refine zfr 2 (s := [byt w.Rank, w.State]) rfl rfl fun i18 h6 o6 => ?_
 obtain ⟨b6, m6, ho6, p6⟩ := zds ho5 p5 o6
 generalize AVal.sl i18 0 0 2 1 2 = a10 at *
 have c5 := (p6.get 0 a5 _ rfl rfl).elim fun _ r => r.zl
 have c6 := (p6.get 1 a6 _ rfl rfl).elim fun _ r => r.zl
 have c7 := (p6.get 2 a7 _ rfl rfl).elim fun _ r => r.zl
 have c8 := (p6.get 3 a8 _ rfl rfl).elim fun _ r => r.zl
 have c9 := (p6.get 4 a9 _ rfl rfl).elim fun _ r => r.zl
 have c10 := (p6.get 5 a10 _ rfl rfl).elim fun _ r => r.zl
 simp -dsimp [c5, c6, c7, c8, c9, c10]
 refine zqo 6 ho6 rfl (ys := [a5, a6, a7, a10, a8, a9]) fun i26 h7 hle7 o7 => ?_
 generalize AVal.sl i26 0 0 6 1 6 = a11 at *
 have p7 := p6.mono (za.le_trans ho6.le hle7)
 refine s3 a11 [a5, a6, a7, a10, a8, a9] [zdq w.Item, be w.Qty 4, be w.zu1 2, [byt w.Rank, w.State], be (IntKind.i64.wrap (w.Day + 1)) 2, zdq w.Code] [] h7 _ (o7.is (.sl 1 a11 ([a5, a6, a7, a10, a8, a9].map fun y => [y]) []) (by simp)) ⟨p7.1, p7.2.1, p7.2.2.1, p7.2.2.2.2.2.1, p7.2.2.2.1, p7.2.2.2.2.1, trivial⟩ (by simp) (by have h1 := zdp w.Item; have h2 := zdp w.Code; simp; omega) fun val h8 o8 => ?_
 have cval : val.zl = true := (o8.slAt 0 rfl : SlX h8 1 val _ []).zl
 have e : be (IntKind.i64.wrap (w.Day + 1)) 2 = be (w.Day + 1) 2 := be_congr (by rw [IntKind.wrap_i64]; omega) 2 (by omega)
 have ev : ([zdq w.Item, be w.Qty 4, be w.zu1 2, [byt w.Rank, w.State], be (IntKind.i64.wrap (w.Day + 1)) 2, zdq w.Code] : List (List UInt8)).flatten = (zi4 w).Value := by rw [e]; simp [zi4, lineVal]
 rw [ev] at o8
 simp -dsimp
 refine keyNum s1 (c := 111) o8 fun key h9 o9 => ?_
 have ck : key.zl = true := (o9.slAt 1 rfl : SlX h9 1 key _ []).zl
 simp -dsimp [ck, cval]
 have hle : h.le h7 := za.le_trans m1 (za.le_trans m2 (za.le_trans m3 (za.le_trans m4 (za.le_trans m5 (za.le_trans m6 o7.le)))))
 exact zj (hq (key, val) h9 ((o9.back hle).perm (List.Perm.swap ..)))
theorem perm7 {α : Type} [Inhabited α] (a b c d e f g : α) : [a, b, c, d, e, f, g].Perm [g, d, a, e, b, f, c] :=
 List.Perm.map (fun i => [a, b, c, d, e, f, g].getD i default) (by decide : [0, 1, 2, 3, 4, 5, 6].Perm [6, 3, 0, 4, 1, 5, 2])
instance : Inhabited Ob := ⟨.box .nils []⟩
theorem rowPush {h0 h h2 : za} {v : AVal} {P : List (Row × (AVal × AVal))} {r : Row} {b : AVal × AVal} {K : AVal → za → Prop} (ho : Df rowK h0 h v P) (o : Owns h h2 (rowK.obs false r b)) (hl : P.length ≤ 1000000) (hK : ∀ v' h', Df rowK h0 h' v' (P ++ [(r, b)]) → K v' h') :
  B.newO h2 (zc7 [(0, some 2, .agg (rowK.cells r b))] (repL 1 [.nils, .nils])) fun i h => B.appW h 2 48 v (.sl i 0 0 1 2 1) K := by
 have hf : zc7 [(0, some 2, .agg (rowK.cells r b))] (repL 1 [.nils, .nils]) = some (rowK.cells r b) := zqt rowK r b
 rw [hf]
 refine (Owns.join ho o).push 0 rfl (rowK.len r b) (by decide) (by simp; omega) (by simp [maxLen]; omega) fun v' h5 o5 _ => ?_
 refine hK v' h5 ?_
 unfold Df
 rw [DK.zk2, DK.zu8, List.map_append]
 simp only [List.cons_append, List.set_cons_zero] at o5
 exact o5
def zbm.Spec (C : CSem) (N : Nat → Nat) : Prop := ∀ (s : Sta) (x y z : AVal) (h : za) (Q : AVal → za → Prop), zla h s x y z → s.zd9.length + s.Lots.length + s.zd8.length ≤ 100000 →
 (∀ x' P h', P.map (·.1) = allRows s → Df rowK h h' x' P → Q x' h') → C (N 449) [.agg (zka s x y z)] h Q
theorem zbm.spec (i : zbm.Imp C N) (s0 : z9.Spec C N) (s1 : zbr.Spec C N) (s2 : zy.Spec C N) (s3 : zbt.Spec C N) (s4 : zdg.Spec C N) : zbm.Spec C N := by
 intro s x y z h Q ha hlen hq
 have hx := ha.items.zl
 have hy : y.zl = true := ha.lots.elim fun _ r => r.zl
 have hz : z.zl = true := ha.lines.elim fun _ r => r.zl
 have l1 := ha.items.zi
 have l2 : V.zi y = some (.int .i64 (s.Lots.length : Int)) := ha.lots.elim fun _ r => by have := r.zi; rwa [List.length_map] at this
 have l3 : V.zi z = some (.int .i64 (s.zd8.length : Int)) := ha.lines.elim fun _ r => by have := r.zi; rwa [List.length_map] at this
 apply i
 simp -dsimp
 refine s0 s x y z h _ ha ?_
 simp -dsimp
 refine B.ze (fun hb => ?_) (fun hb => ?_)
 ·have hb : zgx s = false := by simpa using hb
  refine zj (hq .nils [] h (by unfold allRows; rw [hb]; rfl) (by simpa [Df, DK.os] using (Owns.start h).nils rowK.n))
 ·have hb : zgx s = true := by simpa using hb
  have hpl := plain_iff.1 hb
  have hk : ∀ t ∈ s.zd9, zia t = true := zs4 (ok := zia) hpl.items
  simp -dsimp
  refine zsr s1 (k := 2) (by omega) _ fun n1 h1 o1 => ?_
  refine zsr s1 (k := 8) (by omega) _ fun n2 h2 o2 => ?_
  refine zsr s1 (k := 8) (by omega) _ fun n3 h3 o3 => ?_
  have o123 := (o1.join o2).join o3
  simp -dsimp
  refine zfr 4 (s := [42, 100, 97, 121]) rfl rfl fun i10 h4 o4 => ?_
  refine zji o4 (by simp) ?_
  generalize AVal.sl i10 0 0 4 1 4 = k1 at *
  have c1 := (o4.slAt 0 rfl).zl
  have d1 := (o1.slAt 0 rfl).zl
  simp -dsimp [c1, d1]
  refine zfr 5 (s := [42, 108, 105, 110, 101]) rfl rfl fun i16 h5 o5 => ?_
  refine zji o5 (by simp) ?_
  generalize AVal.sl i16 0 0 5 1 5 = k2 at *
  have c2 := (o5.slAt 0 rfl).zl
  have d2 := (o2.slAt 0 rfl).zl
  simp -dsimp [c2, d2]
  refine zfr 4 (s := [42, 108, 111, 116]) rfl rfl fun i22 h6 o6 => ?_
  refine zji o6 (by simp) ?_
  generalize AVal.sl i22 0 0 4 1 4 = k3 at *
  have c3 := (o6.slAt 0 rfl).zl
  have d3 := (o3.slAt 0 rfl).zl
  simp -dsimp [c3, d3]
  intro i28 h28
  have o7 := (((o123.join o4).join o5).join o6).zof h28 (n := 3) (cp := 3) (es := 2) (cs := [k1, n1, k2, n2, k3, n3]) (L := [[k1, n1], [k2, n2], [k3, n3]]) (R := []) (by simp) rfl (by simp) rfl
  generalize upd h6 i28 (zel [k1, n1, k2, n2, k3, n3]) = h7 at *
  generalize AVal.sl i28 0 0 3 2 3 = v0 at *
  have o8 : Df rowK h h7 v0 [(⟨[42, 100, 97, 121], be s.Now 2⟩, (k1, n1)), (⟨[42, 108, 105, 110, 101], be s.zgq 8⟩, (k2, n2)), (⟨[42, 108, 111, 116], be s.zhx 8⟩, (k3, n3))] := o7.perm (perm7 ..)
  obtain ⟨hi, ⟨R2, hl⟩, ⟨R3, hn⟩, q1, q2, q3⟩ := ha
  refine zg.intro (fun t vs hh => ∃ (k : Nat) (v : AVal) (P : List (Row × (AVal × AVal))), k + t = s.zd9.length ∧ vs = [v, .int .i64 (k : Int)] ∧ P.map (·.1) = zid s ++ (s.zd9.take k).map zll ∧ Df rowK h hh v P) s.zd9.length ?_ ⟨0, v0, _, by omega, rfl, by simp [zid], o8⟩
  rintro Y t vs hh ⟨k, v, P, hkt, rfl, eP, o⟩ hY
  have hPl := congrArg List.length eP
  simp only [List.length_map, List.length_append, List.length_take, zid, List.length_cons, List.length_nil] at hPl
  simp -dsimp only [zbm.l6, zbm.k5, B.zhz, V.zej, List.getElem?_cons_succ, List.getElem?_cons_zero, l1, lssN, B.zf]
  refine B.ze (fun hc => ?_) (fun hc => ?_)
  ·rw [decide_eq_true_eq] at hc
   obtain ⟨w, hw⟩ := zc6 hc
   obtain ⟨a, ea⟩ := (hi.mono o.le).get hw
   have e1 : V.idxS 4 x (.int .i64 (k : Int)) = some (elp 4 x k 0) := ea.idx
   have e2 : A.ldnv hh (elp 4 x k 0) 4 = some (.agg (zd6.cells w a)) := ea.ldn
   simp -dsimp only [B.zhz, V.zej, List.getElem?_cons_succ, List.getElem?_cons_zero, e1, e2, B.zij, B.zf]
   refine s2 w a hh _ ea.at_ (hk w (List.mem_of_getElem? hw)) fun b h9 o9 => ?_
   refine rowPush o o9 (by omega) fun v' h10 o10 => ?_
   simp -dsimp only [add1 (show k < 4611686018427387904 by omega), B.zf]
   refine hY (t - 1) _ _ (by omega) ⟨k + 1, v', _, by omega, rfl, ?_, o10⟩
   rw [List.map_append, eP, take_succ hw, List.map_append, List.append_assoc]; rfl
  ·rw [decide_eq_false_iff_not] at hc
   have : k = s.zd9.length := by omega
   subst this
   rw [List.take_length] at eP
   refine zg.intro (fun t vs hh => ∃ (k : Nat) (v : AVal) (P : List (Row × (AVal × AVal))), k + t = s.Lots.length ∧ vs = [v, .int .i64 (k : Int)] ∧ P.map (·.1) = (zid s ++ s.zd9.map zll) ++ (s.Lots.take k).map zlt ∧ Df rowK h hh v P) s.Lots.length ?_ ⟨0, v, P, by omega, rfl, by simpa using eP, o⟩
   rintro Y2 t vs hh ⟨k, v, P, hkt, rfl, eP, o⟩ hY
   have hPl := congrArg List.length eP
   simp only [List.length_map, List.length_append, List.length_take, zid, List.length_cons, List.length_nil] at hPl
   simp -dsimp only [zbm.l4, zbm.k3, B.zhz, V.zej, List.getElem?_cons_succ, List.getElem?_cons_zero, l2, lssN, B.zf]
   refine B.ze (fun hc => ?_) (fun hc => ?_)
   ·rw [decide_eq_true_eq] at hc
    obtain ⟨w, hw⟩ := zc6 hc
    have hkl : k < (s.Lots.map Lot.cs).length := by simpa using hc
    have e1 : V.idxS 6 y (.int .i64 (k : Int)) = some (elp 6 y k 0) := hl.idxN hkl
    have e2 := (hl.mono o.le).elem (get_map hw)
    simp -dsimp only [B.zhz, V.zej, List.getElem?_cons_succ, List.getElem?_cons_zero, e1, e2, B.zij, B.zf]
    refine s3 w hh _ fun b h9 o9 => ?_
    refine rowPush o o9 (by omega) fun v' h10 o10 => ?_
    simp -dsimp only [add1 (show k < 4611686018427387904 by omega), B.zf]
    refine hY (t - 1) _ _ (by omega) ⟨k + 1, v', _, by omega, rfl, ?_, o10⟩
    rw [List.map_append, eP, take_succ hw, List.map_append, ← List.append_assoc]; rfl
   ·rw [decide_eq_false_iff_not] at hc
    have : k = s.Lots.length := by omega
    subst this
    rw [List.take_length] at eP
    refine zg.intro (fun t vs hh => ∃ (k : Nat) (v : AVal) (P : List (Row × (AVal × AVal))), k + t = s.zd8.length ∧ vs = [v, .int .i64 (k : Int)] ∧ P.map (·.1) = ((zid s ++ s.zd9.map zll) ++ s.Lots.map zlt) ++ (s.zd8.take k).map zi4 ∧ Df rowK h hh v P) s.zd8.length ?_ ⟨0, v, P, by omega, rfl, by simpa using eP, o⟩
    rintro Y3 t vs hh ⟨k, v, P, hkt, rfl, eP, o⟩ hY
    have hPl := congrArg List.length eP
    simp only [List.length_map, List.length_append, List.length_take, zid, List.length_cons, List.length_nil] at hPl
    simp -dsimp only [zbm.l2, zbm.k1, B.zhz, V.zej, List.getElem?_cons_succ, List.getElem?_cons_zero, l3, lssN, B.zf]
    refine B.ze (fun hc => ?_) (fun hc => ?_)
    ·rw [decide_eq_true_eq] at hc
     obtain ⟨w, hw⟩ := zc6 hc
     have hkl : k < (s.zd8.map Line.cs).length := by simpa using hc
     have e1 : V.idxS 8 z (.int .i64 (k : Int)) = some (elp 8 z k 0) := hn.idxN hkl
     have e2 := (hn.mono o.le).elem (get_map hw)
     simp -dsimp only [B.zhz, V.zej, List.getElem?_cons_succ, List.getElem?_cons_zero, e1, e2, B.zij, B.zf]
     refine s4 w hh _ fun b h9 o9 => ?_
     refine rowPush o o9 (by omega) fun v' h10 o10 => ?_
     simp -dsimp only [add1 (show k < 4611686018427387904 by omega), B.zf]
     refine hY (t - 1) _ _ (by omega) ⟨k + 1, v', _, by omega, rfl, ?_, o10⟩
     rw [List.map_append, eP, take_succ hw, List.map_append, ← List.append_assoc]; rfl
    ·rw [decide_eq_false_iff_not] at hc
     have : k = s.zd8.length := by omega
     subst this
     rw [List.take_length] at eP
     refine zj (hq v P hh ?_ o)
     rw [eP, allRows_plain hb]
     unfold zq3
     simp only [List.append_assoc]
theorem apart_two {T Ad : Type} {K : DK T Ad} {g : Nat} (s : ApartD K C g) {h0 h : za} {a b : AVal} {P1 P2 : List (T × Ad)} {Q : AVal → za → Prop} (ho : Owns h0 h (allOb K [(a, P1), (b, P2)])) (k1 : ∀ q ∈ P1, K.ok q.1) (k2 : ∀ q ∈ P2, K.ok q.1)
  (l1 : P1.length ≤ 3000) (l2 : P2.length ≤ 3000) (hq : ∀ h', h0.le h' → Q (.bool true) h') {id : Nat} (hid : h id = none) : C g [.sl id 0 0 2 1 2] (upd h id (zel [a, b])) Q := by
 have o := ho.zof hid (n := 2) (cp := 2) (es := 1) (cs := [a, b]) (L := [[a], [b]]) (R := []) (by simp) rfl (by simp) rfl
 obtain ⟨q1, q2⟩ := (o.perm List.perm_append_comm).out
 refine s [(a, P1), (b, P2)] _ [] _ _ Q (q1.slAt 0 rfl) q2 (fun p hp => ?_) (by simp) (fun p hp => ?_) fun h' hle => hq h' (za.le_trans q1.le hle)
 ·simp only [List.mem_cons, List.not_mem_nil, or_false] at hp
  rcases hp with rfl | rfl
  ·exact k1
  ·exact k2
 ·simp only [List.mem_cons, List.not_mem_nil, or_false] at hp
  rcases hp with rfl | rfl
  ·exact l1
  ·exact l2
def zcg.Spec (C : CSem) (N : Nat → Nat) : Prop := ∀ (s : Sta) (x y z : AVal) (h : za) (Q : AVal → za → Prop), StaW h s x y z → Q (.bool true) h → C (N 450) [.agg (zka s x y z)] h Q
theorem zcg.spec (i : zcg.Imp C N) (s0 : zdm.Spec C N) (s1 : zb8.Spec C N) (s2 : zcz.Spec C N) (s3 : zq.Spec C N) (s4 : zc0.Spec C N) (s5 : zcw.Spec C N) (s6 : zbm.Spec C N) (s7 : zb2.Spec C N) (s8 : ApartD rowK C (N 307)) : zcg.Spec C N := by
 intro s x y z h Q hW hq
 have cx := hW.items.zl
 have cy : y.zl = true := hW.lots.elim fun _ r => r.zl
 have cz : z.zl = true := hW.lines.elim fun _ r => r.zl
 apply i
 simp -dsimp [cx, cy, cz]
 refine s1 s x y z h _ hW fun b1 hb1 => ?_
 cases b1 with
 | true => simp -dsimp; exact s0 _ _ (zj hq)
 | false =>
 have hB := hb1 rfl
 have hn := hB.n
 have ha := hB.at hW
 simp -dsimp
 refine s2 _ _ _ _ _ _ ha fun x1 P PM y1 z1 h1 eP eM o1 k1 => ?_
 have c1 := k1.items.dl.zl
 have c2 := k1.lots.zl
 have c3 := k1.lines.zl
 simp -dsimp [c1, c2, c3]
 refine s3 _ _ _ _ _ _ k1.at (by omega) fun a A h2 eA o2 => ?_
 refine s3 _ _ _ _ _ _ (k1.mono o2.le).at (by omega) fun b B h3 eB o3 => ?_
 have o23 := o2.join o3
 have h13 := o23.le
 refine s4 _ _ _ _ _ _ _ _ _ _ (k1.mono h13) (ha.mono (za.le_trans o1.le h13)) ?_
 simp -dsimp
 have oo := o1.join o23
 obtain ⟨q1, q2⟩ := (oo.perm List.perm_append_comm).out
 refine s5 _ _ _ _ _ _ _ _ _ eP eM q2 (fun t ht => by have := hB.ok t ht; unfold Itm.ok few; omega) (by omega) fun h4 l4 => ?_
 have p4 := q1.grow l4
 have h04 := p4.le
 simp -dsimp
 refine s6 _ _ _ _ _ _ (ha.mono h04) (by omega) fun c D h5 eD o5 => ?_
 have p5 := p4.grow o5.le
 have okA : ∀ L : List (Row × (AVal × AVal)), L.map (·.1) = allRows s → ∀ p ∈ L, rowK.ok p.1 := fun L e p hp => zry _ (by rw [← e]; exact List.mem_map.2 ⟨p, hp, rfl⟩)
 obtain ⟨p6, _⟩ := id p5.out
 have d1 : Dl rowK h5 a (allRows s) := by rw [← eA]; exact dl_of (K := rowK) (b := false) (R := []) (okA A eA) p5.is (by simp) (fun o ho => by simp [ho])
 have d2 : Dl rowK h5 b (allRows s) := by rw [← eB]; exact dl_of (K := rowK) (b := false) (R := []) (okA B eB) p5.is (by simp) (fun o ho => by simp [ho])
 have d3 : Dl rowK h5 c (allRows s) := by rw [← eD]; exact Df.dl o5 (okA D eD)
 have hlen : (allRows s).length ≤ 2003 := by
  unfold allRows
  cases zgx s <;> simp [zq3, zid]
  omega
 refine s7 _ _ _ _ _ _ d1 d3 (by omega) ?_
 simp -dsimp
 refine s7 _ _ _ _ _ _ d2 d3 (by omega) ?_
 have g1 := d1.zl
 have g2 := d2.zl
 simp -dsimp [g1, g2, repL]
 intro id hid
 simp -dsimp
 refine apart_two s8 (P1 := A) (P2 := B) (by simpa [allOb] using p5) (okA A eA) (okA B eB) (by have := congrArg List.length eA; rw [List.length_map] at this; omega) (by have := congrArg List.length eB; rw [List.length_map] at this; omega) (fun h6 l6 => ?_) hid
 simp -dsimp
 refine s0 _ _ ?_
 simp -dsimp
 exact zsu l6 hq
end Go.Ab
set_option maxRecDepth 100000
namespace Go.Ab
variable {C : CSem} {N : Nat → Nat}
def bagR : BagK := ⟨fun i => if i = 15 then 2 else 1, fun i => if i = 4 then 140737488351232 else 100000000, fun i => decide (i = 4) || decide (i = 15)⟩
theorem zkr {i g : Nat} (h : bagR.full i = false) (s : zbv C g) : zgi C bagR i g := ⟨fun e => (by rw [h] at e; cases e), fun _ => s⟩
theorem kFullR {i g : Nat} (h : bagR.full i = true) (s : ziy C (bagR.es i) (bagR.lim i) g) : zgi C bagR i g := ⟨fun _ => s, fun e => (by rw [h] at e; cases e)⟩
theorem zdt.spr (i : zdt.Imp C N) (f0 : zbv C (N 80)) (f1 : zbv C (N 81)) (f2 : zbv C (N 82)) (f3 : zbv C (N 83)) (f4 : ziy C 1 140737488351232 (N 84)) (f5 : zbv C (N 85)) (f6 : zbv C (N 86)) (f7 : zbv C (N 87)) (f8 : zbv C (N 88)) (f9 : zbv C (N 89))
  (f10 : zbv C (N 90)) (f11 : zbv C (N 91)) (f12 : zbv C (N 92)) (f13 : zbv C (N 93)) (f14 : zbv C (N 94)) (f15 : ziy C 2 100000000 (N 95)) (f16 : zbv C (N 96)) (f17 : zbv C (N 97)) (f18 : zbv C (N 98)) (f19 : zbv C (N 99)) (f20 : zbv C (N 100)) (f21 : zbv C (N 101)) (f22 : zbv C (N 102)) : ApartK C bagR (N 62) := by
 exact bag_apartK i bagR (zkr rfl f0) (zkr rfl f1) (zkr rfl f2) (zkr rfl f3) (kFullR rfl f4) (zkr rfl f5) (zkr rfl f6) (zkr rfl f7) (zkr rfl f8) (zkr rfl f9) (zkr rfl f10) (zkr rfl f11) (zkr rfl f12) (zkr rfl f13) (zkr rfl f14) (kFullR rfl f15) (zkr rfl f16) (zkr rfl f17) (zkr rfl f18) (zkr rfl f19) (zkr rfl f20) (zkr rfl f21) (zkr rfl f22)
theorem one15R (L4 Lk : LK) : bagOb bagR (fun i => if i = 15 then Lk else if i = 4 then L4 else []) 0 23 = L4.map (obK 1) ++ Lk.map (obK 2) := by
 have e : List.range' 0 23 = [0, 1, 2, 3, 4, 5, 6, 7, 8, 9, 10, 11, 12, 13, 14, 15, 16, 17, 18, 19, 20, 21, 22] := rfl
 unfold bagOb
 rw [e]
 simp [bagR]
theorem full15R (i : Nat) (h : bagR.full i = false) : i ≠ 15 ∧ i ≠ 4 := by
 simp only [bagR, Bool.or_eq_false_iff, decide_eq_false_iff_not] at h; omega
theorem zcc.spr (i : zcc.Imp C N) (s1 : zb1.Imp C N) (s2 : zuu rowK zr5 C (N 315)) (s3 : ApartK C bagR (N 62)) : ApartD rowK C (N 307) := by
 intro ls x W h0 h Q hx ho hok hn hl hq
 refine i x h Q ?_
 show zqy C (N 312) (N 62) x h (dn Q)
 exact apartD_spec (K := rowK) (inn := zr5) (b := bagR) (k := 15) (fo := N 315) (fu := N 312) (fb := N 62) (by omega) (by omega) full15R rfl (by simp [bagR]) one15R (fun t a => rfl) rowInn_len (fun t a => by simp [zr5]) s1 s2 s3 hx ho hok hn hl fun h' hle => zj (hq h' hle)
end Go.Ab
