/- What is proved: a part of the way to the statement: Crow11. No conditions. -/
import Derived.Test.YtljejbplojnnpaaGreatQ8
import Derived.Test.YtljejbplojnnpaaGreatQ6
import Derived.Test.YtljejbplojnnpaaGreatQ7
import Derived.Test.YtljejbplojnnpaaGreatQ3
set_option linter.unusedVariables false
set_option linter.unusedSimpArgs false
namespace Go.Ab
variable {C : CSem} {N : zN}
def zd5.Spec (C : CSem) (N : zN) : Prop := SameE rowK C (N 430)
theorem zd5.spec (i : zd5.Imp C N) (s1 : zdy.Spec C N) : zd5.Spec C N := by
 intro t u a b h Q ha hb hq
 obtain ⟨a1, a2⟩ : Bs h a.1 t.Key /\ Bs h a.2 t.Value := ha
 obtain ⟨b1, b2⟩ : Bs h b.1 u.Key /\ Bs h b.2 u.Value := hb
 apply i
 simp -dsimp [rowK]
 refine s1 _ _ _ _ _ _ a1 b1 ?_
 simp +contextual -dsimp
 refine B.zeo (v := .bool (decide (t.Value = u.Value))) (fun _ Q hq => s1 _ _ _ _ _ _ a2 b2 hq) ?_
 simp -dsimp
 refine zk ?_
 have : decide (t = u) = (decide (t.Key = u.Key) && decide (t.Value = u.Value)) := by
  cases t; cases u; simp [Row.mk.injEq]
 rw [this] at hq
 exact hq
def zb.Spec (C : CSem) (N : zN) : Prop := ∀ (x y : AVal) (L M : List Row) (h : za) (Q : zQ), Dl rowK h x L -> Dl rowK h y M -> L.length < 4611686018427387904 -> Q (.bool (decide (L = M))) h -> C (N 431) [x, y, .fn (N 430) [] []] h Q
theorem zb.spec (i : zb.Imp C N) (s1 : zd5.Spec C N) : zb.Spec C N := by
 intro x y L M h Q hx hy hlen hq
 have hlx := hx.zj
 have hly := hy.zj
 apply i
 simp -dsimp [hlx, hly]
 refine B.zd (fun hb => ?_) (fun hb => ?_) <;> simp -dsimp at hb ⊢
 ·rw [decide_eq_false fun e => hb (by rw [e])] at hq
  exact zk hq
 ·simp -dsimp only [hlx, B.zf]
  refine ze.intro (fun n vs hh => ∃ k : Nat, k + n = L.length /\ vs = [.int .i64 (k : Int)] /\ hh = h /\ L.take k = M.take k) L.length ?_ ⟨0, by simp, rfl, rfl, by simp⟩
  rintro Y n vs hh ⟨k, hn, rfl, rfl, he⟩ hY
  simp -dsimp only [zb.l2, zb.k1, lssN, B.zf]
  refine B.zd (fun hc => ?_) (fun hc => ?_)
  ·rw [decide_eq_true_eq] at hc
   obtain ⟨w, hw⟩ := zc5 hc
   obtain ⟨u, hu⟩ := zc5 (L := M) (k := k) (by omega)
   obtain ⟨a, ea⟩ := hx.get hw
   obtain ⟨b, eb⟩ := hy.get hu
   have e1 : V.idxS 2 x (.int .i64 (k : Int)) = some (elp 2 x k 0) := ea.idx
   have e2 : A.ldnv hh (elp 2 x k 0) 2 = some (.agg (rowK.cells w a)) := ea.ldn
   have e3 : V.idxS 2 y (.int .i64 (k : Int)) = some (elp 2 y k 0) := eb.idx
   have e4 : A.ldnv hh (elp 2 y k 0) 2 = some (.agg (rowK.cells u b)) := eb.ldn
   have f1 : V.setN 0 2 (.agg (rowK.cells w a)) (.agg [.nils, .nils]) = some (.agg (rowK.cells w a)) := zlc rowK w a
   have f2 : V.setN 0 2 (.agg (rowK.cells u b)) (.agg [.nils, .nils]) = some (.agg (rowK.cells u b)) := zlc rowK u b
   have f3 : V.zcd 0 2 (.agg (rowK.cells w a)) = some (.agg (rowK.cells w a)) := zk1 rowK w a
   have f4 : V.zcd 0 2 (.agg (rowK.cells u b)) = some (.agg (rowK.cells u b)) := zk1 rowK u b
   simp -dsimp only [e1, e2, e3, e4, f1, f2, f3, f4, B.zf, B.zhn, B.zrn, List.nil_append, List.append_nil]
   refine s1 _ _ _ _ _ _ ea.at_ eb.at_ ?_
   simp -dsimp only [V.zo1, B.zf]
   refine B.zd (fun hd => ?_) (fun hd => ?_) <;> simp -dsimp at hd
   ·rw [decide_eq_false fun e => by subst e; rw [hw] at hu; cases hu; exact hd rfl] at hq
    exact zk hq
   ·simp -dsimp only [add1 (show k < 4611686018427387904 by omega), B.zf]
    refine hY (L.length - (k + 1)) _ _ (by omega) ⟨k + 1, by omega, rfl, rfl, ?_⟩
    rw [take_succ hw, take_succ hu, he, hd]
  ·rw [decide_eq_false_iff_not] at hc
   rw [List.take_of_length_le (by omega), List.take_of_length_le (by omega)] at he
   rw [decide_eq_true he] at hq
   exact zk hq
end Go.Ab
namespace Go.Ab
variable {C : CSem} {N : zN}
abbrev StaO (s : Sta) (x : AVal) (P : List (Itm × (AVal × AVal))) (y z : AVal) : List Ob := .sl 4 x (P.map ze3.cs) [] :: .sl 6 y (s.Lots.map Lot.cs) [] :: .sl 8 z (s.zel.map Line.cs) [] :: ze3.os false P
structure StaN (s : Sta) (k : Nat) : Prop where
 n : s.zem.length + s.Lots.length + s.zel.length <= k
 ok : ∀ t ∈ s.zem, t.ok
theorem StaO.at {h0 h : za} {s : Sta} {x y z : AVal} {P : List (Itm × (AVal × AVal))} {l : List Ob} (ho : Owns h0 h l) (hl : ∀ o ∈ StaO s x P y z, o ∈ l) (e : P.map (·.1) = s.zem) {k : Nat} (hn : StaN s k) (hk : k <= 100000000) : zk8 h s x y z := by
 obtain ⟨n, ok⟩ := hn
 refine ⟨?_, ⟨[], ho.is (.sl 6 y (s.Lots.map Lot.cs) []) (hl _ (by simp))⟩, ⟨[], ho.is (.sl 8 z (s.zel.map Line.cs) []) (hl _ (by simp))⟩, by omega, by omega, by omega⟩
 rw [<- e]
 refine dl_of (K := ze3) (b := false) (l := l) (R := []) (fun p hp => ok _ (by rw [<- e]; exact List.mem_map.2 ⟨p, hp, rfl⟩)) ho.is (hl _ (List.mem_cons_self ..)) fun o hm => hl _ ?_
 simp only [StaO, List.mem_cons]
 exact .inr (.inr (.inr hm))
theorem itemVal_len {t : Itm} (h1 : t.zek.length <= 8) (h2 : t.zd0.length <= 4) : (zl6 t).length <= 192 := by
 have g1 := zg2 (f := fun p : Part => zdr p.Item ++ be p.Qty 4) (m := 17) (fun p => by have := zdq p.Item; simp; omega) t.zek
 have g2 := zg2 (f := zdr) (m := 13) zdq t.zd0
 unfold zl6
 simp only [List.length_append, List.length_cons, zhi]
 omega
theorem allRows_small {s : Sta} : ∀ r ∈ allRows s, 1 <= r.Key.length /\ r.Key.length <= 13 /\ r.Key.length + r.Value.length <= 205 := by
 unfold allRows
 cases hb : zg5 s with
 | false => simp
 | true =>
  unfold zg5 zu1 at hb
  simp only [Bool.and_eq_true] at hb
  intro r hr
  simp only [cond_true, zpm, zhx, List.cons_append, List.nil_append, List.mem_cons, List.mem_append, List.mem_map] at hr
  rcases hr with rfl | rfl | rfl | ⟨t, ht, rfl⟩ | ⟨t, _, rfl⟩ | ⟨t, _, rfl⟩
  ·simp
  ·simp
  ·simp
  ·obtain ⟨k1, k2, k3, k4, k5⟩ := zsb (ztp hb.2.1 t ht)
   have := zl8 k4
   have := itemVal_len k1 k2
   simp only [zk6, List.length_cons]
   omega
  ·have := zdq t.Item
   simp [zlk, lotVal]
   omega
  ·have := zdq t.Item
   have := zdq t.Code
   simp [zi1, lineVal]
   omega
theorem zsl {s : Sta} : ∀ r ∈ allRows s, rowK.ok r := fun r hr => by
 have := allRows_small r hr
 show r.Key.length <= far /\ r.Value.length <= far
 unfold far
 omega
theorem zs7 {S : List Ob} {a b : Ob} : ((S ++ [a]) ++ [b]).Perm ((S ++ [b]) ++ [a]) := by
 rw [List.append_assoc, List.append_assoc]
 exact List.Perm.append_left S (List.Perm.swap ..)
theorem permI {U V : List Ob} {a b : Ob} : (U ++ [a] ++ (V ++ [b])).Perm (U ++ V ++ [b] ++ [a]) := by
 have h : (U ++ ([a] ++ (V ++ [b]))).Perm (U ++ ((V ++ [b]) ++ [a])) := List.Perm.append_left U List.perm_append_comm
 simpa only [List.append_assoc] using h
theorem rList_cnt {T : Type} (one : Rdr -> T × Rdr) (n : Int) (r : Rdr) (h : n <= 255) : (ze8 one n.toNat r).1.length <= few := by
 have := zld one n.toNat r
 unfold few
 omega
theorem rItem_ok (b c : List UInt8) (r : Rdr) : (zmn b c r).1.ok := ⟨rList_cnt _ _ _ (zvy _ _).2, rList_cnt _ _ _ (zvy _ _).2⟩
def zbd.Spec (C : CSem) (N : zN) : Prop := ∀ (x : AVal) (L : List Row) (h : za) (Q : zQ), Dl rowK h x L -> L.length <= 100000 ->
 (∀ x' P y' z' h', P.map (·.1) = (zfg L).1.zem -> StaN (zfg L).1 L.length -> Owns h h' (StaO (zfg L).1 x' P y' z') -> Q (.tup [.agg (zhq (zfg L).1 x' y' z'), .int .i64 (zfg L).2]) h') -> C (N 413) [x] h Q
theorem V.cutStr1 (s : List UInt8) : s ≠ [] -> V.zrm (.str s) (some (.int .i64 1)) none = some (.str (s.drop 1)) := fun h => by
 have : 1 <= s.length := List.length_pos_iff.2 h
 simp [V.zrm, V.ends, V.endsC, V.asNat, this]
def zm8 (L : List Row) (k : Nat) : Option Row := if k = 0 then none else L[k - 1]?
theorem zbd.spec (i : zbd.Imp C N) (s1 : zdn.Spec C N) (s2 : zn.Spec C N) (s3 : zba.Spec C N) (s4 : zco.Spec C N) (s5 : zcj.Spec C N) (s6 : z9.Spec C N) (s7 : zb.Spec C N) : zbd.Spec C N := by
 intro x L h Q hx hlen hq
 apply i
 have hlx := hx.zj
 simp -dsimp only [zbd.cps, zbd.k10, hlx, B.zf]
 have o0 : Owns h h (.sl 2 .nils [] [] :: StaO zew .nils [] .nils .nils) := (((Owns.start h).nils 2).nils 4).nils 6 |>.nils 8
 refine ze.intro (fun n vs hh => ∃ (k : Nat) (mine : AVal) (M : List (Row × (AVal × AVal))) (s : Sta) (X : AVal) (P : List (Itm × (AVal × AVal))) (Y Z : AVal), k + n = L.length /\ vs = [mine, .int .i64 (k : Int), .agg [.int .i64 0, .int .i64 0, .int .i64 0, .nils, .nils, .nils], .agg (zhq s X Y Z)] /\ P.map (·.1) = s.zem /\ StaN s k /\ M.length <= k /\ (∀ q ∈ M, rowK.at_ h q.1 q.2) /\
   Owns h hh (.sl 2 mine (M.map rowK.cs) [] :: StaO s X P Y Z) /\ zmd (L.drop k) (zm8 L k) s (M.map (·.1)) = zmd L none zew []) L.length ?_ ⟨0, .nils, [], zew, .nils, [], .nils, .nils, by simp, rfl, rfl, ⟨by simp [zew], by simp [zew]⟩, by simp, by simp, o0, rfl⟩
 rintro Y n vs hh ⟨k, mine, M, s, X, P, Ys, Z, hk, rfl, hP, hN, hM, hat, ho, hst⟩ hY
 have zero : ∀ h', h.le h' -> zfg L = (zew, 4) -> dn Q (.tup [.agg [.int .i64 0, .int .i64 0, .int .i64 0, .nils, .nils, .nils], .int .i64 4]) h' := fun h' hle e => by
  rw [e] at hq
  exact zrk hle (hq .nils [] .nils .nils h rfl ⟨by simp [zew], by simp [zew]⟩ (((Owns.start h).nils 4).nils 6 |>.nils 8))
 simp -dsimp only [zbd.l9, lssN, B.zf]
 refine B.zd (fun hc => ?_) (fun hc => ?_)
 ·rw [decide_eq_true_eq] at hc
  obtain ⟨w, hw⟩ := zc5 hc
  have hxx := hx.mono ho.le
  obtain ⟨P0, R0, eP0, sx, at0⟩ := id hx
  obtain ⟨⟨kx, vx⟩, hq0⟩ : ∃ a, P0[k]? = some (w, a) := by
   rw [<- eP0, List.getElem?_map] at hw
   obtain ⟨q, h1, h2⟩ := Option.map_eq_some_iff.1 hw
   exact ⟨q.2, by rw [h1, <- h2]⟩
  have ea := slX_el (sx.mono ho.le) (fun p hp => rowK.mono ho.le (at0 p hp)) hq0
  have e1 : V.idxS 2 x (.int .i64 (k : Int)) = some (elp 2 x k 0) := ea.idx
  have e2 : A.ldnv hh (elp 2 x k 0) 2 = some (.agg [kx, vx]) := ea.ldn
  obtain ⟨d1, d2⟩ : Bs h kx w.Key /\ Bs h vx w.Value := at0 _ (List.mem_of_getElem? hq0)
  have a1 := d1.mono ho.le
  have cv := d2.zi
  have hd : L.drop k = w :: L.drop (k + 1) := by
   rw [List.drop_eq_getElem_cons hc]
   congr 1
   rw [List.getElem?_eq_getElem hc] at hw
   exact Option.some.inj hw
  have hprev : zm8 L (k + 1) = some w := by unfold zm8; simpa using hw
  rw [hd, zmd] at hst
  have no : outB (zm8 L k) w = true -> dn Q (.tup [.agg [.int .i64 0, .int .i64 0, .int .i64 0, .nils, .nils, .nils], .int .i64 4]) hh := fun e => zero hh ho.le (by
   unfold zfg; rw [<- hst, if_pos e]; rfl)
  have go : outB (zm8 L k) w = false -> zbd.k6 C N (dn Q) Y x mine x (.int .i64 (L.length : Int)) (.int .i64 (k : Int)) (.agg [.int .i64 0, .int .i64 0, .int .i64 0, .nils, .nils, .nils]) (.agg (zhq s X Ys Z)) (.agg [kx, vx]) hh := by
   intro e
   rw [if_neg (by rw [e]; exact Bool.false_ne_true)] at hst
   obtain ⟨c, r, hkey⟩ : ∃ c r, w.Key = c :: r := by
    cases hh : w.Key with
    | nil => unfold outB at e; rw [hh] at e; simp at e
    | cons c r => exact ⟨c, r, rfl⟩
   obtain ⟨Rk, b0⟩ := d1.1
   have b1 := b0.mono ho.le
   have g1 : V.idxS 1 kx (.int .i64 0) = some (elp 1 kx 0 0) := b1.idxN (i := 0) (by rw [hkey]; simp)
   have g2 : A.ldv hh (elp 1 kx 0 0) = some (.int .u8 (c.toNat : Int)) := b1.cell (by rw [hkey]; rfl)
   simp -dsimp [g1, g2]
   refine B.zd (fun hb => ?_) (fun hb => ?_)
   ·have hb : (c.toNat : Int) = 97 := by simpa using hb
    have hc97 : w.Key.head? = some 97 := by
     rw [hkey]
     have h1 : c.toNat = 97 := by omega
     have : c = 97 := UInt8.toNat_inj.1 h1
     rw [this]; rfl
    rw [if_pos hc97] at hst
    simp -dsimp only [add1 (show k < 4611686018427387904 by omega), B.zf]
    exact hY (L.length - (k + 1)) _ _ (by omega) ⟨k + 1, mine, M, s, X, P, Ys, Z, by omega, rfl, hP, ⟨by have := hN.n; omega, hN.ok⟩, by omega, hat, ho, by rw [hprev]; exact hst⟩
   ·have hb : ¬ (c.toNat : Int) = 97 := by simpa using hb
    have hc97 : ¬ w.Key.head? = some 97 := by
     rw [hkey]
     intro e
     have e : c = 97 := Option.some.inj e
     rw [e] at hb
     exact hb rfl
    rw [if_neg hc97] at hst
    simp -dsimp only [zbd.k5]
    simp -dsimp
    refine ho.push 0 rfl (cs := [kx, vx]) rfl (by omega) (by simp; omega) (by simp [maxLen]; omega) fun mine' h2 o2 _ => ?_
    obtain ⟨kt, Rt, t1, t2, _⟩ := b0.zic (by omega) (lo := 1) (hi := w.Key.length) (a := some (.int .i64 1)) (b := none) (.inr ⟨_, rfl⟩) (.inl ⟨rfl, rfl⟩) (by rw [hkey]; simp) (by omega)
    rw [List.take_length] at t2
    have ct := t2.zi
    simp -dsimp [cv, t1, ct]
    intro i52 h52
    have o3 := o2.zkd h52 [vx, .bool false]
    generalize upd h2 i52 (zee [vx, .bool false]) = h3 at *
    simp -dsimp
    intro i57 h57
    have o4 := o3.zkd h57 [kt, .bool false]
    generalize upd h3 i57 (zee [kt, .bool false]) = h4 at *
    have o4 : Owns h h4 (((.sl 2 mine' ((M ++ [(w, (kx, vx))]).map rowK.cs) [] :: StaO s X P Ys Z) ++ [.box (.ptr i52 0 0) [vx, .bool false]]) ++ [.box (.ptr i57 0 0) [kt, .bool false]]) := by
     rw [List.map_append]; exact o4
    have after : ∀ (s' : Sta) (X' : AVal) (P' : List (Itm × (AVal × AVal))) (Y' Z' u1 u2 : AVal) (b1 b2 : Bool) (h' : za), Owns h h' (((.sl 2 mine' ((M ++ [(w, (kx, vx))]).map rowK.cs) [] :: StaO s' X' P' Y' Z') ++ [.box (.ptr i52 0 0) [u1, .bool b1]]) ++ [.box (.ptr i57 0 0) [u2, .bool b2]]) ->
      zpn w s = (s', b1 || b2) -> P'.map (·.1) = s'.zem -> StaN s' (k + 1) -> zbd.k2 C N (dn Q) Y x mine' (.ptr i52 0 0) (.ptr i57 0 0) x (.int .i64 (L.length : Int)) (.int .i64 (k : Int)) (.agg [.int .i64 0, .int .i64 0, .int .i64 0, .nils, .nils, .nils]) (.agg (zhq s' X' Y' Z')) h' := by
     intro s' X' P' Y' Z' u1 u2 b1 b2 h' o' er eP hN'
     obtain ⟨_, e, w1⟩ := (o'.perm zs7).zgp _ ziv
     cases e
     obtain ⟨_, e, w2⟩ := o'.zgp _ ziv
     cases e
     simp +contextual -dsimp [zd2 w1, zd2 w2]
     rw [er] at hst
     refine B.zd (fun hb => ?_) (fun hb => ?_)
     ·have hbb : (b1 || b2) = true := by cases b1 <;> cases b2 <;> simp at hb ⊢
      simp -dsimp
      refine zero h' o'.le ?_
      unfold zfg
      rw [<- hst, if_pos hbb]; rfl
     ·have hbb : ¬ (b1 || b2) = true := by cases b1 <;> cases b2 <;> simp at hb ⊢
      rw [if_neg hbb] at hst
      simp -dsimp only [add1 (show k < 4611686018427387904 by omega), B.zf]
      refine hY (L.length - (k + 1)) _ _ (by omega) ⟨k + 1, mine', M ++ [(w, (kx, vx))], s', X', P', Y', Z', by omega, rfl, eP, hN', by simp; omega, ?_, o'.sub (by rw [List.append_assoc]; exact List.sublist_append_left _ _), ?_⟩
      ·intro q hq
       rcases List.mem_append.1 hq with hq | hq
       ·exact hat q hq
       ·rw [List.mem_singleton.1 hq]; exact ⟨d1, d2⟩
      ·rw [hprev, List.map_append]; exact hst
    have hkl : w.Key.length <= far := d1.2
    have hvl : w.Value.length <= far := d2.2
    unfold far at hkl hvl
    have rv : RwL h h h4 ((.sl 2 mine' ((M ++ [(w, (kx, vx))]).map rowK.cs) [] :: StaO s X P Ys Z) ++ [.box (.ptr i57 0 0) [kt, .bool false]]) (.ptr i52 0 0) w.Value ⟨0, false⟩ := by
     obtain ⟨Rv, hv⟩ := d2.1
     exact ⟨vx, Rv, hv, o4.perm zs7, za.le_refl h, Nat.zero_le _, by omega⟩
    have ri : RwL h h h4 ((.sl 2 mine' ((M ++ [(w, (kx, vx))]).map rowK.cs) [] :: StaO s X P Ys Z) ++ [.box (.ptr i52 0 0) [vx, .bool false]]) (.ptr i57 0 0) (w.Key.drop 1) ⟨0, false⟩ :=
     ⟨kt, Rt, t2, o4, za.le_refl h, Nat.zero_le _, by simp; omega⟩
    have es := fun K => zdz (b0.mono o4.le) K
    have ei : V.zh8 (.str w.Key) (.int .i64 0) = some (.int .u8 (c.toNat : Int)) := zri (k := 0) (by rw [hkey]; rfl)
    have ec := V.cutStr1 w.Key (by rw [hkey]; exact List.cons_ne_nil _ _)
    have hN1 : StaN s (k + 1) := ⟨by have := hN.n; omega, hN.ok⟩
    simp -dsimp only [zbd.k3, B.zhp, V.zeh, List.getElem?_cons_zero, B.zf, es, V.zhz]
    refine B.zd (fun hk1 => ?_) (fun hk1 => ?_)
    ·rw [decide_eq_true_eq] at hk1
     refine s2 _ _ _ _ _ _ _ 2 _ rv (by omega) fun h5 r5 => ?_
     obtain ⟨u, _, _, o5, _⟩ := r5
     simp -dsimp
     exact after { s with Now := (rNum w.Value 2 ⟨0, false⟩).1 } X P Ys Z u kt _ false h5 (o5.perm zs7) (by unfold zpn; rw [if_pos hk1, Bool.or_false]) hP ⟨hN1.n, hN1.ok⟩
    rw [decide_eq_false_iff_not] at hk1
    simp -dsimp only [B.zf, V.zhz]
    refine B.zd (fun hk2 => ?_) (fun hk2 => ?_)
    ·rw [decide_eq_true_eq] at hk2
     refine s2 _ _ _ _ _ _ _ 8 _ rv (by omega) fun h5 r5 => ?_
     obtain ⟨u, _, _, o5, _⟩ := r5
     simp -dsimp
     exact after { s with zg3 := (rNum w.Value 8 ⟨0, false⟩).1 } X P Ys Z u kt _ false h5 (o5.perm zs7) (by unfold zpn; rw [if_neg hk1, if_pos hk2, Bool.or_false]) hP ⟨hN1.n, hN1.ok⟩
    rw [decide_eq_false_iff_not] at hk2
    simp -dsimp only [B.zf, V.zhz]
    refine B.zd (fun hk3 => ?_) (fun hk3 => ?_)
    ·rw [decide_eq_true_eq] at hk3
     refine s2 _ _ _ _ _ _ _ 8 _ rv (by omega) fun h5 r5 => ?_
     obtain ⟨u, _, _, o5, _⟩ := r5
     simp -dsimp
     exact after { s with zf3 := (rNum w.Value 8 ⟨0, false⟩).1 } X P Ys Z u kt _ false h5 (o5.perm zs7) (by unfold zpn; rw [if_neg hk1, if_neg hk2, if_pos hk3, Bool.or_false]) hP ⟨hN1.n, hN1.ok⟩
    rw [decide_eq_false_iff_not] at hk3
    have hd0 : w.Key.head? = some c := by rw [hkey]; rfl
    have toc : ∀ n : Nat, n < 256 -> ((c.toNat : Int) = n ↔ w.Key.head? = some (UInt8.ofNat n)) := fun n hn => by
     rw [hd0]
     constructor
     ·intro e
      have e : c.toNat = n := by omega
      rw [<- e]; simp
     ·intro e
      have e : c = UInt8.ofNat n := Option.some.inj e
      rw [e]; simp; omega
    simp -dsimp only [ei, B.zf, V.zmb]
    refine B.zd (fun hk4 => ?_) (fun hk4 => ?_)
    ·rw [decide_eq_true_eq] at hk4
     have hk4 : w.Key.head? = some 105 := (toc 105 (by omega)).1 hk4
     simp -dsimp [ec, - List.drop_one]
     obtain ⟨q1, q2⟩ := (o4.perm zs7).out
     obtain ⟨Rv, hv⟩ := d2.1
     refine s3 h _ h4 _ w.Value (w.Key.drop 1) ⟨0, false⟩ _ ⟨vx, Rv, hv, q2, q1.le, Nat.zero_le _, by omega⟩ fun a h5 r5 => ?_
     obtain ⟨u, _, _, o5, _⟩ := r5
     have o6 := q1.join o5
     have hf := zn7 ze3 (zmn w.Value (w.Key.drop 1) ⟨0, false⟩).1 a
     simp -dsimp only [show zcr [(0, some 4, AVal.agg (ze3.cells (zmn w.Value (w.Key.drop 1) ⟨0, false⟩).1 a))] (repL 1 [.str [], .int .i64 0, .nils, .nils]) = some (ze3.cells (zmn w.Value (w.Key.drop 1) ⟨0, false⟩).1 a) from hf]
     have hPl : P.length <= k := by have := hN.n; rw [<- hP, List.length_map] at this; omega
     refine o6.push 1 rfl (ze3.len _ a) (by decide) (by simp; omega) (by simp [maxLen]; omega) fun X' h6 o7 _ => ?_
     have cX : X'.zi = true := (o7.slAt 1 rfl).zi
     simp -dsimp [cX]
     refine after { s with zem := s.zem ++ [(zmn w.Value (w.Key.drop 1) ⟨0, false⟩).1] } X' (P ++ [((zmn w.Value (w.Key.drop 1) ⟨0, false⟩).1, a)]) Ys Z u kt (zmn w.Value (w.Key.drop 1) ⟨0, false⟩).2.bad false h6 (o7.perm ?_) (by unfold zpn; rw [if_neg hk1, if_neg hk2, if_neg hk3, if_pos hk4, Bool.or_false]) (by rw [List.map_append, hP]; rfl) ⟨by simp; have := hN.n; omega, fun t ht => ?_⟩
     ·unfold StaO
      rw [DK.zka, DK.zur]
      simp only [List.map_append, List.map_cons, List.map_nil]
      exact (((permI.cons _).cons _).cons _).cons _
     ·rcases List.mem_append.1 ht with ht | ht
      ·exact hN.ok t ht
      ·rw [List.mem_singleton.1 ht]; exact rItem_ok _ _ _
    rw [decide_eq_false_iff_not] at hk4
    have hk4 : ¬ w.Key.head? = some 105 := fun e => hk4 ((toc 105 (by omega)).2 e)
    simp -dsimp only [ei, B.zf, V.zmb]
    refine B.zd (fun hk5 => ?_) (fun hk5 => ?_)
    ·rw [decide_eq_true_eq] at hk5
     have hk5 : w.Key.head? = some 108 := (toc 108 (by omega)).1 hk5
     simp -dsimp [- List.drop_one]
     refine s2 _ _ _ _ _ _ _ 8 _ ri (by omega) fun h5 r5 => ?_
     obtain ⟨u2, _, _, o5, _⟩ := r5
     obtain ⟨Rv, hv⟩ := d2.1
     refine s4 h h h5 _ _ w.Value _ ⟨0, false⟩ _ ⟨vx, Rv, hv, o5.perm zs7, za.le_refl h, Nat.zero_le _, by omega⟩ fun h6 r6 => ?_
     obtain ⟨u, _, _, o6, _⟩ := r6
     simp -dsimp [- List.drop_one]
     refine (o6.perm zs7).push 2 rfl rfl (by decide) (by simp; have := hN.n; omega) (by simp [maxLen]; have := hN.n; omega) fun X' h7 o7 _ => ?_
     have cX : X'.zi = true := (o7.slAt 2 rfl).zi
     simp -dsimp [cX, - List.drop_one]
     refine after { s with Lots := s.Lots ++ [(zk4 w.Value (rNum (w.Key.drop 1) 8 ⟨0, false⟩).1 ⟨0, false⟩).1] } X P X' Z u u2 _ _ h7 (o7.perm ?_) (by unfold zpn; rw [if_neg hk1, if_neg hk2, if_neg hk3, if_neg hk4, if_pos hk5]) hP ⟨by simp; have := hN.n; omega, hN1.ok⟩
     unfold StaO
     simp only [List.map_append, List.map_cons, List.map_nil]
     exact List.Perm.refl _
    rw [decide_eq_false_iff_not] at hk5
    have hk5 : ¬ w.Key.head? = some 108 := fun e => hk5 ((toc 108 (by omega)).2 e)
    simp -dsimp only [ei, B.zf, V.zmb]
    refine B.zd (fun hk6 => ?_) (fun hk6 => ?_)
    ·rw [decide_eq_true_eq] at hk6
     have hk6 : w.Key.head? = some 111 := (toc 111 (by omega)).1 hk6
     simp -dsimp [- List.drop_one]
     refine s2 _ _ _ _ _ _ _ 8 _ ri (by omega) fun h5 r5 => ?_
     obtain ⟨u2, _, _, o5, _⟩ := r5
     obtain ⟨Rv, hv⟩ := d2.1
     refine s5 h h h5 _ _ w.Value _ ⟨0, false⟩ _ ⟨vx, Rv, hv, o5.perm zs7, za.le_refl h, Nat.zero_le _, by omega⟩ fun h6 r6 => ?_
     obtain ⟨u, _, _, o6, _⟩ := r6
     simp -dsimp [- List.drop_one]
     refine (o6.perm zs7).push 3 rfl rfl (by decide) (by simp; have := hN.n; omega) (by simp [maxLen]; have := hN.n; omega) fun X' h7 o7 _ => ?_
     have cX : X'.zi = true := (o7.slAt 3 rfl).zi
     simp -dsimp [cX, - List.drop_one]
     refine after { s with zel := s.zel ++ [(zi7 w.Value (rNum (w.Key.drop 1) 8 ⟨0, false⟩).1 ⟨0, false⟩).1] } X P Ys X' u u2 _ _ h7 (o7.perm ?_) (by unfold zpn; rw [if_neg hk1, if_neg hk2, if_neg hk3, if_neg hk4, if_neg hk5, if_pos hk6]) hP ⟨by simp; have := hN.n; omega, hN1.ok⟩
     unfold StaO
     simp only [List.map_append, List.map_cons, List.map_nil]
     exact List.Perm.refl _
    rw [decide_eq_false_iff_not] at hk6
    have hk6 : ¬ w.Key.head? = some 111 := fun e => hk6 ((toc 111 (by omega)).2 e)
    simp -dsimp only [B.zd1, V.zdm, B.zf, Nat.zero_add]
    have o4' := o4.perm zs7
    refine o4'.zkj _ ziv rfl (by simp) fun h5 o5 _ => ?_
    rw [zs0] at o5
    exact after s X P Ys Z vx kt true false h5 (o5.perm zs7) (by unfold zpn; rw [if_neg hk1, if_neg hk2, if_neg hk3, if_neg hk4, if_neg hk5, if_neg hk6]; rfl) hP hN1
  simp -dsimp only [zbd.k8, e1, e2, B.zhn, B.zf]
  by_cases h0 : k = 0
  ·subst h0
   simp -dsimp [a1.zj, lenZ, - zbd.k6]
   refine B.zd (fun hb => ?_) (fun hb => ?_)
   ·simp -dsimp
    exact no (by unfold outB zm8; simpa using hb)
   ·exact go (by unfold outB zm8; simpa using hb)
  ·obtain ⟨u, hu⟩ := zc5 (L := L) (k := k - 1) (by omega)
   obtain ⟨kp, vp, f1, f2, f3, f4, f5, f6, c1, c2⟩ := zj4 hxx hu
   have sk := sub1 (a := k) (by omega) (by omega)
   have hk0 : 0 < k := by omega
   have hpv : zm8 L k = some u := by unfold zm8; rw [if_neg h0]; exact hu
   simp -dsimp [sk, f1, f3, f5, hk0, - V.zi3, - zbd.k6]
   refine s1 _ _ _ _ _ _ c1 a1 ?_
   simp +contextual -dsimp [a1.zj, lenZ, - zbd.k6]
   refine B.zd (fun hb => ?_) (fun hb => ?_)
   ·simp -dsimp
    refine no ?_
    unfold outB
    rw [hpv]
    simpa using hb
   ·refine go ?_
    unfold outB
    rw [hpv]
    simpa using hb
 ·rw [decide_eq_false_iff_not] at hc
  have : k = L.length := by omega
  subst this
  rw [List.drop_length, zmd] at hst
  have ha : zk8 hh s X Ys Z := StaO.at ho (fun o hm => List.mem_cons_of_mem _ hm) hP hN (by omega)
  have cx := ha.items.zi
  have cy : Ys.zi = true := ha.lots.elim fun _ r => r.zi
  have cz : Z.zi = true := ha.lines.elim fun _ r => r.zi
  simp -dsimp
  refine s6 s X Ys Z hh _ ha (by have := hN.n; omega) fun x' P' h1 eP o1 => ?_
  have dx : Dl rowK h1 x' (allRows s) := by
   rw [<- eP]
   exact Df.dl o1 fun p hp => zsl _ (by rw [<- eP]; exact List.mem_map.2 ⟨p, hp, rfl⟩)
  have dm : Dl rowK h1 mine (M.map (·.1)) := ⟨M, [], rfl, (ho.slAt 0 rfl).mono o1.le, fun q hq => rowK.mono (za.le_trans ho.le o1.le) (hat q hq)⟩
  have hal : (allRows s).length < 4611686018427387904 := by
   unfold allRows
   cases zg5 s <;> simp [zpm, zhx]
   have := hN.n
   omega
  refine s7 x' mine _ _ h1 _ dx dm hal ?_
  have lm := dm.zj
  have hle : h.le h1 := za.le_trans ho.le o1.le
  simp +contextual -dsimp [lm, - List.length_map]
  refine B.zd (fun hb => ?_) (fun hb => ?_)
  ·simp -dsimp
   refine zero h1 hle ?_
   unfold zfg
   rw [<- hst]
   show (if allRows s = M.map (·.1) /\ M.map (·.1) ≠ [] then _ else _) = _
   rw [if_neg]
   intro e
   simp [e.1] at hb
   exact e.2 (by rw [hb]; rfl)
  ·simp -dsimp
   have e : zfg L = (s, 0) := by
    unfold zfg
    rw [<- hst]
    show (if allRows s = M.map (·.1) /\ M.map (·.1) ≠ [] then _ else _) = _
    rw [if_pos]
    simp only [Bool.or_eq_false_iff, Bool.not_eq_false', decide_eq_true_eq, decide_eq_false_iff_not] at hb
    exact ⟨hb.1, fun e => hb.2 (List.map_eq_nil_iff.1 e)⟩
   rw [e] at hq
   exact zrk o1.le (hq X P Ys Z hh hP hN (ho.sub (List.sublist_cons_self _ _)))
end Go.Ab
namespace Go.Ab
def zv7 (s r k : Int) : Bool := ((((decide (s < 0) || decide (4 <= s)) || decide (r < 1)) || decide (4611686018427387904 < r)) || decide (k < 0)) || decide (1000 <= k)
def keyP (s r k : Int) : List UInt8 := bif zv7 s r k then [] else 97 :: byt s :: (be r 8 ++ be k 2)
def zjl (b : List UInt8) : Nat := (b.length + 179) / 180
def zui (b : List UInt8) (i : Nat) : List UInt8 := (b.drop (180 * i)).take 180
def zqr (s r : Int) (b : List UInt8) (i : Nat) : Row := ⟨keyP s r i, zui b i⟩
def zjk (s r : Int) (t : zgd) : List Row × Int := if (zgl t).2 ≠ 0 \/ keyP s r 0 = [] then ([], 2) else ((List.range (zjl (zgl t).1)).map (zqr s r (zgl t).1), 0)
def mineB (s r : Int) (x : Row) : Bool := decide (x.Key.length = 12) && decide (x.Key.take 10 = (keyP s r 0).take 10)
def wholeB (s r : Int) (b : List UInt8) (n : Nat) (x : Row) : Bool := ((decide (x.Key = keyP s r n) && decide (b.length = n * 180)) && decide (0 < x.Value.length)) && decide (x.Value.length <= 180)
def znw (s r : Int) : List Row -> List UInt8 -> Nat -> Bool -> List UInt8 × Bool
 | [], b, _, w => (b, w)
 | x :: l, b, n, w => if mineB s r x = true then znw s r l (b ++ x.Value) (n + 1) (w && wholeB s r b n x) else znw s r l b n w
def zwj (q : List UInt8 × Bool) : zgd × Bool := if q.2 = true /\ (zj2 q.1).2.2 = 0 /\ (zj2 q.1).2.1 = q.1.length then ((zj2 q.1).1, true) else (zn0, false)
def zjv (s r : Int) (l : List Row) : zgd × Bool := if keyP s r 0 = [] then (zn0, false) else zwj (znw s r l [] 0 true)
end Go.Ab
namespace Go.Ab
variable {C : CSem} {N : zN}
theorem eqSl_no {h : za} {es : Nat} {x : AVal} {L R : List (List AVal)} (hx : SlX h es x L R) (hL : L ≠ []) : V.eqSl .eql x .nils = some (.bool false) := by
 rcases hx.at_ with ⟨e, _⟩ | ⟨id, g, off, cp, b, hi, h1, _⟩
 ·exact absurd e hL
 ·subst h1; rfl
def zgq.Spec (C : CSem) (N : zN) : Prop := ∀ (s r k : Int) (h : za) (Q : zQ), (∀ x' h', Owns h h' [bOb false x' (keyP s r k)] -> (keyP s r k = [] -> x' = .nils) -> Q x' h') -> C (N 427) [.int .i64 s, .int .i64 r, .int .i64 k] h Q
theorem keyP_len {s r k : Int} (h : zv7 s r k = false) : (keyP s r k).length = 12 := by simp [keyP, h]
theorem zgq.spec (i : zgq.Imp C N) (s1 : zcm.Spec C N) (s2 : zfb.Spec C N) : zgq.Spec C N := by
 intro s r k h Q hq
 apply i
 simp +contextual -dsimp
 have eb : (((((decide (s < 0) || decide (4 <= s)) || decide (r < 1)) || decide (4611686018427387904 < r)) || decide (k < 0)) || decide (1000 <= k)) = zv7 s r k := rfl
 try rw [eb]
 refine B.zd (fun hb => ?_) (fun hb => ?_)
 ·have e : keyP s r k = [] := by unfold keyP; rw [hb]; rfl
  rw [e] at hq
  exact zk (hq .nils h ((Owns.start h).nils 1) fun _ => rfl)
 ·have e : keyP s r k = 97 :: byt s :: (be r 8 ++ be k 2) := by unfold keyP; rw [hb]; rfl
  simp -dsimp [zj1]
  refine zf2 2 (s := [97, byt s]) rfl rfl fun i31 h1 o1 => ?_
  obtain ⟨b1, m1, ho1, p1⟩ := zdt (xs := []) (L := []) (Owns.start h) trivial o1
  generalize AVal.sl i31 0 0 2 1 2 = a1 at *
  refine s1 r 8 _ _ (by omega) fun a2 h2 o2 => ?_
  obtain ⟨b2, m2, ho2, p2⟩ := zdt ho1 p1 o2
  refine s1 k 2 _ _ (by omega) fun a3 h3 o3 => ?_
  obtain ⟨b3, m3, ho3, p3⟩ := zdt ho2 p2 o3
  have c1 := (p3.get 0 a1 _ rfl rfl).elim fun _ r => r.zi
  have c2 := (p3.get 1 a2 _ rfl rfl).elim fun _ r => r.zi
  have c3 := (p3.get 2 a3 _ rfl rfl).elim fun _ r => r.zi
  simp -dsimp [c1, c2, c3]
  refine zrb 3 ho3 rfl (ys := [a1, a2, a3]) fun i36 h4 hle4 o4 => ?_
  generalize AVal.sl i36 0 0 3 1 3 = a4 at *
  refine s2 a4 [a1, a2, a3] [[97, byt s], be r 8, be k 2] [] _ _ (o4.is (.sl 1 a4 ([a1, a2, a3].map fun y => [y]) []) (by simp)) (p3.mono (za.le_trans ho3.le hle4)) (by simp) (by simp) fun x' h5 o5 => zk (hq x' h5 ?_ ?_)
  ·rw [e]
   have : ([[97, byt s], be r 8, be k 2] : List (List UInt8)).flatten = 97 :: byt s :: (be r 8 ++ be k 2) := by simp
   rw [this] at o5
   exact o5.back (za.le_trans m1 (za.le_trans m2 (za.le_trans m3 o4.le)))
  ·rw [e]; simp
def zei.Spec (C : CSem) (N : zN) : Prop := ∀ (x : AVal) (s : List UInt8) (h : za) (Q : zQ), Bs h x s -> (∀ x' h', Owns h h' [bOb false x' s] -> Q x' h') -> C (N 428) [x] h Q
theorem zei.spec (i : zei.Imp C N) : zei.Spec C N := by
 intro x s h Q hx hq
 apply i
 obtain ⟨⟨R, hx⟩, hs⟩ := hx
 have cp : B.appW h 1 1 .sz x (fun v7 h => dn Q v7 h) := by
  refine Owns.appW ((Owns.start h).sz 1) 0 rfl hx (by omega) (by simp; unfold far at hs; omega) (by simp [maxLen]; unfold far at hs; omega) fun x' h' h1 _ => zk (hq x' h' ?_)
  simpa [bOb] using h1
 simp -dsimp only [zei.cps]
 rcases hx.at_ with ⟨e1, e2, rfl | rfl⟩ | ⟨id, g, off, cp', b, hi, rfl, h3⟩
 ·simp -dsimp [V.eqSl]
  have e1 : s = [] := List.map_eq_nil_iff.1 e1
  rw [e1] at hq
  exact zk (hq _ _ ((Owns.start h).nils 1))
 ·simp -dsimp [V.eqSl]
  exact cp
 ·simp -dsimp [V.eqSl]
  rw [List.length_map] at cp
  exact cp
def zcl.Spec (C : CSem) (N : zN) : Prop := ∀ (x y : AVal) (a b : List UInt8) (h : za) (Q : zQ), Bs h x a -> Bs h y b -> Q (.bool (decide (a.take b.length = b))) h -> C (N 436) [x, y] h Q
theorem zcl.spec (i : zcl.Imp C N) (s1 : zdy.Spec C N) : zcl.Spec C N := by
 intro x y a b h Q hx hy hq
 apply i
 have lx := hx.zj
 have ly := hy.zj
 by_cases hl : b.length <= a.length
 ·obtain ⟨⟨R, hx1⟩, ha⟩ := hx
  obtain ⟨z, R', e1, e2, _⟩ := hx1.zic (by omega) (lo := 0) (hi := b.length) (a := none) (b := some (.int .i64 (b.length : Int))) (.inl ⟨rfl, rfl⟩) (.inr ⟨_, rfl⟩) (by omega) hl
  rw [List.drop_zero] at e2
  simp +contextual -dsimp [lx, ly, hl, e1]
  refine s1 z y _ b h _ ⟨⟨R', e2⟩, by simp; unfold far at *; omega⟩ hy ?_
  simp -dsimp
  exact zk hq
 ·simp +contextual -dsimp [lx, ly, hl]
  have : decide (a.take b.length = b) = false := decide_eq_false fun e => by
   have := congrArg List.length e
   simp at this
   omega
  rw [this] at hq
  exact zk hq
theorem SlX.cut3m {h : za} {es : Nat} {x : AVal} {L R : List (List AVal)} (hs : SlX h es x L R) {lo hi : Nat} {j1 j2 j3 : IntKind} (h1 : lo < hi) (h2 : hi <= L.length) :
  ∃ x', V.cut3 es x (.int j1 (lo : Int)) (.int j2 (hi : Int)) (.int j3 (hi : Int)) = some x' /\ SlX h es x' ((L.take hi).drop lo) [] := by
 rcases hs.at_ with ⟨e, e', e''⟩ | ⟨id, g, off, cp, bk, hh, k1, k1', k2, k3, k4, k5, k6⟩
 ·subst e; simp at h2; omega
 ·subst k1
  refine ⟨.sl id g (off + lo * es) (hi - lo) es 0, ?_, ⟨fun p hp => hs.len p (List.mem_append_left _ (List.mem_of_mem_take (List.mem_of_mem_drop (by simpa using hp)))), .inr ⟨id, g, off + lo * es, 0, bk, hh, ?_, ?_, k2, k3, ?_, k5, ?_⟩⟩⟩
  ·simp only [V.cut3, V.asNat]
   rw [if_pos (by omega), if_pos (by omega)]
   simp only [Int.toNat_natCast]
   rw [if_pos ⟨by omega, Nat.le_refl _, by omega, trivial⟩, if_neg (by omega)]
   simp
  ·simp [Nat.min_eq_left h2]
  ·simp [Nat.min_eq_left h2]
  ·have h3 : lo * es + (hi - lo) * es = hi * es := by rw [<- Nat.add_mul]; congr 1; omega
   have h4 : hi * es <= (L.length + R.length) * es := Nat.mul_le_mul_right _ (by omega)
   simp only [List.length_drop, List.length_take, Nat.min_eq_left h2, List.length_nil, Nat.add_zero]
   omega
  ·have h3 : lo * es + (hi - lo) * es = hi * es := by rw [<- Nat.add_mul]; congr 1; omega
   have h4 : hi * es <= (L.length + R.length) * es := Nat.mul_le_mul_right _ (by omega)
   simp only [List.length_drop, List.length_take, Nat.min_eq_left h2, List.length_nil, Nat.add_zero, List.append_nil]
   have e1 : ((L.take hi).drop lo).flatten = ((L ++ R).flatten.take (hi * es)).drop (lo * es) := by
    rw [flat_drop (fun p hp => hs.len p (List.mem_append_left _ (List.mem_of_mem_take hp))), flat_take (fun p hp => hs.len p (List.mem_append_left _ hp)), <- List.take_append_of_le_length (l₂ := R.flatten) (by rw [zk0 (fun p hp => hs.len p (List.mem_append_left _ hp))]; exact Nat.mul_le_mul_right _ h2), <- List.flatten_append]
   rw [e1, <- k6, List.take_take, Nat.min_eq_left h4, <- List.drop_drop]
   rw [List.drop_take, <- h3, Nat.add_sub_cancel_left]
end Go.Ab
namespace Go.Ab
variable {C : CSem} {N : zN}
def zgz (b : List UInt8) (i : Nat) : Nat := min (180 * i + 180) b.length
def zug (v : AVal) (b : List UInt8) (i : Nat) : AVal := (V.cut3 1 v (.int .i64 ((180 * i : Nat) : Int)) (.int .i64 (zgz b i : Int)) (.int .i64 (zgz b i : Int))).getD .nils
theorem zuh {b : List UInt8} {i : Nat} : i < zjl b ↔ 180 * i < b.length := by unfold zjl; omega
theorem pieceV_at {h : za} {v : AVal} {b : List UInt8} {R : List (List AVal)} (hv : SlX h 1 v (b.map bc) R) {i : Nat} (hi : i < zjl b) :
  V.cut3 1 v (.int .i64 ((180 * i : Nat) : Int)) (.int .i64 (zgz b i : Int)) (.int .i64 (zgz b i : Int)) = some (zug v b i) /\ SlX h 1 (zug v b i) ((zui b i).map bc) [] := by
 rw [zuh] at hi
 obtain ⟨x', e1, e2⟩ := hv.cut3m (lo := 180 * i) (hi := zgz b i) (j1 := .i64) (j2 := .i64) (j3 := .i64) (by unfold zgz; omega) (by rw [List.length_map]; unfold zgz; omega)
 have e3 : zug v b i = x' := by unfold zug; rw [e1]; rfl
 refine ⟨by rw [e3]; exact e1, ?_⟩
 rw [e3]
 have e4 : ((b.map bc).take (zgz b i)).drop (180 * i) = (zui b i).map bc := by
  unfold zui zgz
  rw [<- List.map_take, <- List.map_drop, List.drop_take]
  congr 1
  by_cases hh : 180 * i + 180 <= b.length
  ·rw [Nat.min_eq_left hh]; congr 1; omega
  ·rw [Nat.min_eq_right (by omega), List.take_of_length_le (by simp), List.take_of_length_le (by simp; omega)]
 rw [<- e4]; exact e2
def zm9 (v : AVal) (b : List UInt8) : List (List AVal) := (List.range (zjl b)).map fun i => [zug v b i]
theorem zt.iter (hC : zjd C) (i : zt.Imp C N) {p q v : AVal} {b : List UInt8} {R : List (List AVal)} (hl : b.length <= 100000000) : Iter C (N 443) [] [p, q] (fun h => A.ldv h p = some v /\ A.ldv h q = some (.int .i64 180) /\ SlX h 1 v (b.map bc) R) (zm9 v b) := by
 intro id I Z h Q hD hr h0 hend hZ
 refine i (.yld id) p q h Q ?_
 have pl : (zm9 v b).length = zjl b := by simp [zm9]
 simp -dsimp only [zt.cps]
 refine ze.intro (fun t vs hh => ∃ k : Nat, k + t = zjl b /\ vs = [.int .i64 ((180 * k : Nat) : Int)] /\ I k hh) (zjl b) ?_ ⟨0, by omega, rfl, h0⟩
 rintro Y t vs hh ⟨k, hkt, rfl, hI⟩ hY
 obtain ⟨d1, d2, d3⟩ := hD k hh hI
 have el := d3.zj
 rw [List.length_map] at el
 simp -dsimp only [zt.l2, zt.k1, B.zg6, d1, d2, el, lssN, B.zf]
 refine B.zd (fun hb => ?_) (fun hb => ?_)
 ·rw [decide_eq_true_eq] at hb
  have hk : k < zjl b := zuh.2 hb
  obtain ⟨w, R2, f2, f3, _⟩ := d3.zic (by omega) (lo := 180 * k) (hi := b.length) (a := some (.int .i64 ((180 * k : Nat) : Int))) (b := none) (.inr ⟨_, rfl⟩) (.inl ⟨rfl, rfl⟩) (by omega) (by omega)
  have lw := f3.zj
  rw [List.take_length, List.length_map, List.length_drop] at lw
  obtain ⟨g1, g2⟩ := pieceV_at d3 hk
  have em : V.min2 (.int .i64 180) (.int .i64 ((b.length - 180 * k : Nat) : Int)) = some (.int .i64 ((zgz b k - 180 * k : Nat) : Int)) := by
   rw [V.min2_int]; congr 2; unfold zgz; omega
  have ea : V.bin .add (.int .i64 ((180 * k : Nat) : Int)) (.int .i64 ((zgz b k - 180 * k : Nat) : Int)) = some (.int .i64 (zgz b k : Int)) := by
   rw [addNN (by unfold zgz; omega)]; congr 3; unfold zgz; omega
  have en : V.bin .add (.int .i64 ((180 * k : Nat) : Int)) (.int .i64 180) = some (.int .i64 ((180 * (k + 1) : Nat) : Int)) := by
   have := addNN (a := 180 * k) (b := 180) (by omega)
   rw [show ((180 : Nat) : Int) = 180 from rfl] at this
   rw [this]; congr 3
  simp -dsimp only [B.zg6, d1, d2, f2, lw, em, ea, g1, B.zf, B.callv_yld]
  refine hC _ _ _ _ _ (fun v h' hv => ?_) (hr k _ hh (by unfold zm9; rw [List.getElem?_map, List.getElem?_range hk]; rfl) hI)
  rcases hv with ⟨e, h1⟩ | ⟨e, h1⟩
  ·obtain ⟨c1, c2, c3⟩ := hD (k + 1) h' h1
   simp -dsimp only [e, V.zo1, Bool.not_true, B.cond_false, B.zg6, c2, en, B.zf]
   exact hY (t - 1) _ _ (by omega) ⟨k + 1, by omega, rfl, h1⟩
  ·simp -dsimp only [e, V.zo1, Bool.not_false, B.cond_true, B.zf]
   exact zk (hZ h' h1)
 ·rw [decide_eq_false_iff_not] at hb
  have : ¬ k < zjl b := fun h => hb (zuh.1 h)
  have : k = zjl b := by omega
  exact zk (hend hh (by rw [pl, <- this]; exact hI))
end Go.Ab
namespace Go.Ab
variable {C : CSem} {N : zN}
def zbp.Spec (C : CSem) (N : zN) : Prop := ∀ (v : AVal) (h : za) (Q : zQ), v.zi = true -> (∀ i j h', Owns h h' [.box (.ptr i 0 0) [v], .box (.ptr j 0 0) [.int .i64 180]] -> Q (.fn (N 443) [] [.ptr i 0 0, .ptr j 0 0]) h') -> C (N 429) [v, .int .i64 180] h Q
theorem zbp.spec (i : zbp.Imp C N) : zbp.Spec C N := by
 intro v h Q hv hq
 apply i
 simp -dsimp [zbp.cps, hv]
 intro i2 h2
 have o1 := (Owns.start h).zkd h2 [v]
 generalize upd h i2 (zee [v]) = h1 at *
 simp -dsimp
 intro i3 h3
 have o2 := o1.zkd h3 [.int .i64 180]
 obtain ⟨_, e, hb⟩ := o2.zgp 1 rfl
 cases e
 simp -dsimp [zd2 hb]
 exact zk (hq _ _ _ o2)
theorem tellPut_len (t : zgd) : (zgl t).1.length <= 100000 := by
 unfold zgl
 split
 ·simp
 ·rename_i h
  have hr : zgi t = true := by cases h' : zgi t <;> simp_all
  split
  ·simp
  ·rename_i h2
   obtain ⟨_, _, h3⟩ := zm1 hr
   obtain ⟨_, h4, h5, _⟩ := h3 h2
   have a1 := lots_len t.Lots t.Lots.length h4
   have a2 := uses_len t.Uses t.Uses.length h5
   rw [List.take_length] at a1 a2
   have a3 := zdq t.Code
   simp only [zqn, List.length_append, zhi, List.length_cons, List.length_nil]
   omega
def zca.Spec (C : CSem) (N : zN) : Prop := ∀ (s r : Int) (t : zgd) (x y : AVal) (h : za) (Q : zQ), zvj h t x y -> t.Lots.length <= 100000000 -> t.Uses.length <= 100000000 ->
 (∀ x' P h', P.map (·.1) = (zjk s r t).1 -> Df rowK h h' x' P -> Q (.tup [x', .int .i64 (zjk s r t).2]) h') -> C (N 415) [.int .i64 s, .int .i64 r, .agg (t.cs x y)] h Q
theorem zca.spec (i : zca.Imp C N) (hC : zjd C) (s1 : zcb.Spec C N) (s2 : zgq.Spec C N) (s3 : zbp.Spec C N) (i4 : zt.Imp C N) (s5 : zei.Spec C N) : zca.Spec C N := by
 intro s r t x y h Q ht hl1 hl2 hq
 have cx := ht.lots.elim fun _ r => r.zi
 have cy := ht.uses.elim fun _ r => r.zi
 apply i
 simp -dsimp
 intro i3 h3
 have o1 := (Owns.start h).zkd h3 [.int .i64 s]
 generalize upd h i3 (zee [.int .i64 s]) = h1 at *
 simp -dsimp
 intro i4' h4
 have o2 := o1.zkd h4 [.int .i64 r]
 generalize upd h1 i4' (zee [.int .i64 r]) = h2 at *
 simp -dsimp
 refine s1 t x y h2 _ (ht.mono o2.le) hl1 hl2 fun v h5 o3 => ?_
 have o4 := o2.join o3
 obtain ⟨_, e, b3⟩ := o4.zgp 0 rfl
 cases e
 obtain ⟨_, e, b4⟩ := o4.zgp 1 rfl
 cases e
 simp -dsimp
 have bad : ∀ h', h.le h' -> zjk s r t = ([], 2) -> dn Q (.tup [.nils, .int .i64 2]) h' := fun h' hle e => by
  rw [e] at hq
  exact zrk hle (hq .nils [] h rfl (by simpa [Df, DK.os] using (Owns.start h).nils rowK.n))
 by_cases he : (zgl t).2 = 0
 ·simp -dsimp [he, zd2 b3, zd2 b4]
  refine s2 s r 0 h5 _ fun k0 h6 o5 hk => ?_
  have o6 := o4.join o5
  by_cases hkn : keyP s r 0 = []
  ·rw [hk hkn]
   simp -dsimp [V.eqSl]
   exact bad h6 o6.le (by unfold zjk; rw [if_pos (.inr hkn)])
  ·have hno := eqSl_no (o5.slAt 0 rfl : SlX h6 1 k0 ((keyP s r 0).map bc) []) (by simpa using hkn)
   simp -dsimp [hno, he]
   intro i10 h10
   have o7 := (o6.zkd h10 [.nils]).nils 2
   generalize upd h6 i10 (zee [.nils]) = h7 at *
   have hv : v.zi = true := (o3.slAt 0 rfl).zi
   simp -dsimp
   refine s3 v h7 _ hv fun i2 j2 h8 o8 => ?_
   have o9 := o7.join o8
   have o10 : Owns h h8 (ziu (.ptr i10 0 0) .nils [] ++ ([.box (.ptr i3 0 0) [.int .i64 s], .box (.ptr i4' 0 0) [.int .i64 r], .sl 1 v ((zgl t).1.map bc) [], bOb false k0 (keyP s r 0)] ++ [.box (.ptr i2 0 0) [v], .box (.ptr j2 0 0) [.int .i64 180]])) := by
    have o9 : Owns h h8 (([.box (.ptr i3 0 0) [.int .i64 s], .box (.ptr i4' 0 0) [.int .i64 r], .sl 1 v ((zgl t).1.map bc) [], bOb false k0 (keyP s r 0)] ++ ziu (.ptr i10 0 0) .nils []) ++ [.box (.ptr i2 0 0) [v], .box (.ptr j2 0 0) [.int .i64 180]]) := o9
    rw [<- List.append_assoc]
    exact o9.perm (List.perm_append_comm.append_right _)
   obtain ⟨hb, m1, m2, o11, at1⟩ := o10.lay
   obtain ⟨_, e, c3⟩ := at1 (.box (.ptr i3 0 0) [.int .i64 s]) (by simp)
   cases e
   obtain ⟨_, e, c4⟩ := at1 (.box (.ptr i4' 0 0) [.int .i64 r]) (by simp)
   cases e
   obtain ⟨_, e, c2⟩ := at1 (.box (.ptr i2 0 0) [v]) (by simp)
   cases e
   obtain ⟨_, e, d2⟩ := at1 (.box (.ptr j2 0 0) [.int .i64 180]) (by simp)
   cases e
   have hsv : SlX hb 1 v ((zgl t).1.map bc) [] := at1 (.sl 1 v ((zgl t).1.map bc) []) (by simp)
   have hbl := tellPut_len t
   have hans : zjk s r t = ((List.range (zjl (zgl t).1)).map (zqr s r (zgl t).1), 0) := by
    unfold zjk
    rw [if_neg]
    rintro (e | e)
    ·exact e he
    ·exact hkn e
   rw [hans] at hq
   generalize hB : (zgl t).1 = b at *
   have hpn : zjl b <= 1000 := by unfold zjl; omega
   refine range_iter (zt.iter hC i4 (p := .ptr i2 0 0) (q := .ptr j2 0 0) (v := v) (b := b) (R := []) (by omega)) (fun h1 h2 hle d => ?_)
    (fun k hh => ∃ out P, P.map (·.1) = (List.range k).map (zqr s r b) /\ Owns hb hh (ziu (.ptr i10 0 0) out P)) (fun _ _ => False) ?_ ?_ ⟨.nils, [], rfl, o11⟩ ?_ (fun j hh e => e.elim)
   ·exact ⟨zsv hle d.1, zsv hle d.2.1, d.2.2.mono hle⟩
   ·rintro k hh ⟨out, P, e, o⟩
    exact ⟨by rw [zd2 (o.le _ _ c2)]; rfl, by rw [zd2 (o.le _ _ d2)]; rfl, hsv.mono o.le⟩
   ·rintro k xx hh E hxx ⟨out, P, eP, o⟩ hE0 _
    have hk : k < zjl b := by
     have := (List.getElem?_eq_some_iff.1 hxx).1
     simpa [zm9] using this
    have hxx : xx = [zug v b k] := by
     unfold zm9 at hxx
     rw [List.getElem?_map, List.getElem?_range hk] at hxx
     exact (Option.some.inj hxx).symm
    subst hxx
    have hPl : P.length = k := by have := congrArg List.length eP; simpa using this
    obtain ⟨_, e, w10⟩ := o.zgp 0 rfl
    cases e
    have lo := (o.slAt 1 rfl : SlX hh 2 out (P.map rowK.cs) []).zj
    rw [List.length_map, hPl] at lo
    have r3 : A.ldv hh (.ptr i3 0 0) = some (.int .i64 s) := by rw [zd2 (o.le _ _ c3)]; rfl
    have r4 : A.ldv hh (.ptr i4' 0 0) = some (.int .i64 r) := by rw [zd2 (o.le _ _ c4)]; rfl
    have r10 : A.ldv hh (.ptr i10 0 0) = some out := by rw [zd2 w10]; rfl
    simp -dsimp only [W1, zca.r2, zca.k1, B.zg6, r3, r4, r10, lo, B.zf]
    refine s2 s r k hh _ fun kv h11 q1 _ => ?_
    have q2 := o.join q1
    obtain ⟨_, e, w11⟩ := q2.zgp 0 rfl
    cases e
    refine keepD1 ⟨out, r10, by rw [zd2 w11]; rfl⟩ ?_
    have hpc : Bs h11 (zug v b k) (zui b k) := ⟨⟨[], ((pieceV_at hsv hk).2).mono q2.le⟩, by unfold zui far; simp; omega⟩
    refine s5 _ _ _ _ hpc fun vv h12 q3 => ?_
    have q4 := q2.join q3
    obtain ⟨_, e, w12⟩ := q4.zgp 0 rfl
    cases e
    refine keepD1 ⟨out, by rw [zd2 w11]; rfl, by rw [zd2 w12]; rfl⟩ ?_
    have ck : kv.zi = true := (q1.slAt 0 rfl : SlX h11 1 kv ((keyP s r k).map bc) []).zi
    have cvv : vv.zi = true := (q3.slAt 0 rfl : SlX h12 1 vv ((zui b k).map bc) []).zi
    simp -dsimp [ck, cvv]
    refine q4.push 1 rfl (cs := [kv, vv]) rfl (by omega) (by simp; omega) (by simp [maxLen]; omega) fun out' h13 q5 _ => ?_
    have co : out'.zi = true := (q5.slAt 1 rfl).zi
    refine q5.zkj 0 (off := 0) rfl co (by simp) fun h14 q6 _ => ?_
    refine hE0 h14 ⟨out', P ++ [(zqr s r b k, (kv, vv))], ?_, ?_⟩
    ·rw [List.map_append, eP, List.range_succ, List.map_append]; rfl
    ·unfold ziu
     rw [DK.zka, DK.zur, List.map_append]
     simpa [rowK, zqr] using q6
   ·rintro hh ⟨out, P, e, o⟩
    have pl : (zm9 v b).length = zjl b := by simp [zm9]
    rw [pl] at e
    refine RK.here ?_
    obtain ⟨_, e2, w10⟩ := o.zgp 0 rfl
    cases e2
    have r10 : A.ldv hh (.ptr i10 0 0) = some out := by rw [zd2 w10]; rfl
    simp -dsimp only [B.zg6, r10, B.zf]
    exact zk (hq out P hh e ((o.back m1).sub (List.sublist_cons_self _ _)))
 ·simp -dsimp [he]
  exact bad h5 o4.le (by unfold zjk; rw [if_pos (.inl he)])
end Go.Ab
namespace Go.Ab
variable {C : CSem} {N : zN}
def zmc (L : List Row) : Nat := (L.flatMap Row.Value).length
abbrev TellO (t : zgd) (x y : AVal) : List Ob := [.sl 6 x (t.Lots.map Lot.cs) [], .sl 3 y (t.Uses.map Use.cs) []]
def zbl.Spec (C : CSem) (N : zN) : Prop := ∀ (s r : Int) (x : AVal) (L : List Row) (h : za) (Q : zQ), Dl rowK h x L -> L.length <= 1000000 -> zmc L <= 10000000 ->
 (∀ x' y' h', Owns h h' (TellO (zjv s r L).1 x' y') -> Q (.tup [.agg ((zjv s r L).1.cs x' y'), .bool (zjv s r L).2]) h') -> C (N 414) [.int .i64 s, .int .i64 r, x] h Q
theorem zty {L : List Row} {k : Nat} {w : Row} (hw : L[k]? = some w) : zmc (L.take (k + 1)) = zmc (L.take k) + w.Value.length := by
 unfold zmc
 rw [take_succ hw, List.flatMap_append, List.length_append]
 simp
theorem valLen_le (L : List Row) (k : Nat) : zmc (L.take k) <= zmc L := by
 unfold zmc
 conv => rhs; rw [<- List.take_append_drop k L, List.flatMap_append, List.length_append]
 omega
theorem zbl.spec (i : zbl.Imp C N) (s1 : zgq.Spec C N) (s2 : zcl.Spec C N) (s3 : zdy.Spec C N) (s4 : zds.Spec C N) : zbl.Spec C N := by
 intro s r x L h Q hx hl hv hq
 apply i
 simp -dsimp only [zbl.cps, zbl.k5]
 refine s1 s r 0 h _ fun k0 h1 o1 hk => ?_
 have zero : ∀ h', h.le h' -> zjv s r L = (zn0, false) -> dn Q (.tup [.agg [.int .i64 0, .int .i64 0, .int .i64 0, .str [], .int .u8 0, .nils, .nils], .bool false]) h' := fun h' hle e => by
  rw [e] at hq
  exact zrk hle (hq .nils .nils h (((Owns.start h).nils 6).nils 3))
 by_cases hkn : keyP s r 0 = []
 ·rw [hk hkn]
  simp -dsimp [V.eqSl]
  exact zero h1 o1.le (by unfold zjv; rw [if_pos hkn])
 ·have b0 : SlX h1 1 k0 ((keyP s r 0).map bc) [] := o1.slAt 0 rfl
  have hno := eqSl_no b0 (by simpa using hkn)
  have hkb : zv7 s r 0 = false := by
   cases hb : zv7 s r 0 with
   | false => rfl
   | true => exact absurd (by unfold keyP; rw [hb]; rfl) hkn
  have k12 := keyP_len hkb
  have l0 := b0.zj
  rw [List.length_map, k12] at l0
  have hans : zjv s r L = zwj (znw s r L [] 0 true) := by unfold zjv; rw [if_neg hkn]
  have hlx := hx.zj
  simp -dsimp only [zbl.k4, hno, hlx, B.zf, B.cond_false]
  refine ze.intro (fun t vs hh => ∃ (k n : Nat) (y : AVal) (b : List UInt8) (w : Bool), k + t = L.length /\ vs = [y, .int .i64 (n : Int), .bool w, .int .i64 (k : Int)] /\ n <= k /\ b.length <= zmc (L.take k) /\ Owns h1 hh [.sl 1 y (b.map bc) []] /\ znw s r (L.drop k) b n w = znw s r L [] 0 true) L.length ?_ ⟨0, 0, .nils, [], true, by simp, rfl, by omega, by simp, (Owns.start h1).nils 1, rfl⟩
  rintro Y t vs hh ⟨k, n, y, b, w, hkt, rfl, hnk, hbl, o, hf⟩ hY
  have hle : h.le hh := za.le_trans o1.le o.le
  have hxx := hx.mono hle
  have vle := valLen_le L k
  simp -dsimp only [zbl.l3, zbl.k2, lssN, B.zf]
  refine B.zd (fun hc => ?_) (fun hc => ?_)
  ·rw [decide_eq_true_eq] at hc
   obtain ⟨z, hz⟩ := zc5 hc
   obtain ⟨kx, vx, e1, e2, e3, e4, e5, e6, a1, a2⟩ := zj4 hxx hz
   have hd : L.drop k = z :: L.drop (k + 1) := by
    rw [List.drop_eq_getElem_cons hc]
    congr 1
    rw [List.getElem?_eq_getElem hc] at hz
    exact Option.some.inj hz
   rw [hd, znw] at hf
   have vst := zty hz
   have vle1 := valLen_le L (k + 1)
   have l1 := a1.zj
   have l2 := a2.zj
   have ly := (o.slAt 0 rfl : SlX hh 1 y (b.map bc) []).zj
   rw [List.length_map] at ly
   obtain ⟨z0, R0, f1, f2, _⟩ := b0.zic (by omega) (lo := 0) (hi := 10) (a := none) (b := some (.int .i64 ((10 : Nat) : Int))) (.inl ⟨rfl, rfl⟩) (.inr ⟨_, rfl⟩) (by omega) (by omega)
   rw [List.drop_zero] at f2
   have f1 : V.zgo 1 k0 none (some (.int .i64 10)) = some z0 := f1
   have hpre : Bs hh z0 ((keyP s r 0).take 10) := ⟨⟨R0, f2.mono o.le⟩, by unfold far; simp; omega⟩
   have h10 : ((keyP s r 0).take 10).length = 10 := by simp; omega
   have skip : mineB s r z = false -> Y [y, .int .i64 (n : Int), .bool w, .int .i64 ((k + 1 : Nat) : Int)] hh := fun e => by
    rw [if_neg (by rw [e]; exact Bool.false_ne_true)] at hf
    exact hY (L.length - (k + 1)) _ _ (by omega) ⟨k + 1, n, y, b, w, by omega, rfl, by omega, by omega, o, hf⟩
   by_cases h12 : z.Key.length = 12
   ·have h12' : decide ((z.Key.length : Int) = 12) = true := by rw [decide_eq_true_eq]; omega
    simp -dsimp [e1, e2, l1, l0, h12', f1]
    refine s2 kx z0 z.Key _ hh _ a1 hpre ?_
    rw [h10]
    simp -dsimp
    refine B.zd (fun hp => ?_) (fun hp => ?_)
    ·simp -dsimp only [add1 (show k < 4611686018427387904 by omega), B.zf]
     exact skip (by unfold mineB; rw [Bool.not_eq_true'] at hp; rw [hp, Bool.and_false])
    ·rw [Bool.not_eq_false'] at hp
     have hm : mineB s r z = true := by unfold mineB; rw [decide_eq_true h12, hp]; rfl
     rw [if_pos hm] at hf
     have em : V.bin .mul (.int .i64 (n : Int)) (.int .i64 180) = some (.int .i64 ((n * 180 : Nat) : Int)) := by rw [V.zvh, wrap_i64 (by omega) (by omega)]; simp
     have ee : decide (((b.length : Nat) : Int) = ((n * 180 : Nat) : Int)) = decide (b.length = n * 180) := decide_eq_decide.2 (by omega)
     have fin : ∀ (c : Bool) (h2 : za), hh.le h2 -> Owns h1 h2 [.sl 1 y (b.map bc) []] -> c = (w && wholeB s r b n z) ->
       B.appW h2 1 1 y vx fun v75 h => B.pv (V.bin .add (.int .i64 (n : Int)) (.int .i64 1)) fun v77 => B.pv (V.bin .add (.int .i64 (k : Int)) (.int .i64 1)) fun v78 => Y [v75, v77, .bool c, v78] h := by
      intro c h2 hle2 o2 ec
      obtain ⟨⟨Rv, hvv⟩, _⟩ := a2.mono hle2
      refine o2.appW 0 rfl hvv (by omega) (by simp; omega) (by simp [maxLen]; omega) fun y' h3 o3 _ => ?_
      simp -dsimp only [add1 (show n < 4611686018427387904 by omega), add1 (show k < 4611686018427387904 by omega), B.zf]
      refine hY (L.length - (k + 1)) _ _ (by omega) ⟨k + 1, n + 1, y', b ++ z.Value, c, by omega, rfl, by omega, by simp; omega, by rw [List.map_append]; exact o3, ?_⟩
      rw [<- hf, ec]
     have hnb : n + 1 < 4611686018427387904 := by omega
     cases w with
     | false =>
      simp -dsimp [- V.zej, - V.zvh]
      exact fin false hh (za.le_refl _) o rfl
     | true =>
      simp -dsimp
      refine s1 s r n hh _ fun kv h2 o2 _ => ?_
      have bk : Bs h2 kv (keyP s r n) := ⟨⟨[], o2.slAt 0 rfl⟩, by unfold keyP far; cases zv7 s r n <;> simp⟩
      simp -dsimp
      refine s3 kx kv _ _ h2 _ (a1.mono o2.le) bk ?_
      have l2' := l2
      simp +contextual -dsimp [ly, l2, em, - V.zvh, - V.zej]
      refine fin _ h2 o2.le (o.grow o2.le) ?_
      unfold wholeB
      have q1 : ((b.length : Int) = (n : Int) * 180) ↔ b.length = n * 180 := by omega
      have q2 : ((z.Value.length : Int) <= 180) ↔ z.Value.length <= 180 := by omega
      rw [decide_eq_decide.2 q1, decide_eq_decide.2 q2, Bool.true_and]
      cases decide (z.Key = keyP s r n) <;> cases decide (b.length = n * 180) <;> cases decide (0 < z.Value.length) <;> rfl
   ·have h12' : decide ((z.Key.length : Int) = 12) = false := by rw [decide_eq_false_iff_not]; omega
    simp -dsimp [e1, e2, l1, l0, h12', - V.zej, add1 (show k < 4611686018427387904 by omega)]
    exact skip (by unfold mineB; rw [decide_eq_false h12]; rfl)
  ·rw [decide_eq_false_iff_not] at hc
   have : k = L.length := by omega
   subst this
   rw [List.drop_length, znw] at hf
   rw [<- hf] at hans
   have hy := o.slAt 0 rfl
   have ly : V.zj y = some (.int .i64 (b.length : Int)) := by have := hy.zj; rwa [List.length_map] at this
   simp -dsimp only [zbl.k1]
   refine s4 y b hh _ ⟨⟨[], hy⟩, by omega⟩ fun x' y' h2 o2 => ?_
   have cx : x'.zi = true := (o2.slAt 0 rfl).zi
   have cy : y'.zi = true := (o2.slAt 1 rfl).zi
   have hle2 : h.le h2 := za.le_trans hle o2.le
   cases w with
   | false =>
    simp -dsimp [zgd.val]
    exact zero h2 hle2 (by rw [hans]; unfold zwj; rw [if_neg]; rintro ⟨e, _⟩; cases e)
   | true =>
    by_cases g1 : (zj2 b).2.2 = 0
    ·by_cases g2 : (zj2 b).2.1 = b.length
     ·simp -dsimp [zgd.val, g1, g2, ly]
      have : zjv s r L = ((zj2 b).1, true) := by rw [hans]; unfold zwj; rw [if_pos ⟨rfl, g1, g2⟩]
      rw [this] at hq
      exact zk (hq x' y' h2 (o2.back hle))
     ·have g2' : ¬ ((zj2 b).2.1 : Int) = b.length := by omega
      simp -dsimp [zgd.val, g1, g2', ly]
      exact zero h2 hle2 (by rw [hans]; unfold zwj; rw [if_neg]; rintro ⟨_, _, e⟩; exact g2 e)
    ·simp -dsimp [zgd.val, g1]
     exact zero h2 hle2 (by rw [hans]; unfold zwj; rw [if_neg]; rintro ⟨_, e, _⟩; exact g1 e)
end Go.Ab
namespace Go.Ab
variable {C : CSem} {N : zN}
def zcp.Spec (C : CSem) (N : zN) : Prop := ∀ (s t : Sta) (x y z u v w : AVal) (h : za) (Q : zQ), zk8 h s x y z -> zk8 h t u v w -> Q (.bool (decide (s = t))) h -> C (N 116) [.agg (zhq s x y z), .agg (zhq t u v w)] h Q
theorem Sta.eq_iff (s t : Sta) : s = t ↔ ((((s.Now = t.Now /\ s.zg3 = t.zg3) /\ s.zf3 = t.zf3) /\ s.zem = t.zem) /\ s.Lots = t.Lots) /\ s.zel = t.zel := by
 cases s; cases t; simp [Sta.mk.injEq, and_assoc]
theorem zcp.spec (i : zcp.Imp C N) (s1 : zb5.Spec C N) (s2 : zdc.Spec C N) (s3 : zcw.Spec C N) : zcp.Spec C N := by
 intro s t x y z u v w h Q hs ht hq
 obtain ⟨a1, ⟨R2, a2⟩, ⟨R3, a3⟩, n1, n2, n3⟩ := hs
 obtain ⟨b1, ⟨S2, b2⟩, ⟨S3, b3⟩, m1, m2, m3⟩ := ht
 apply i
 simp +contextual -dsimp
 refine B.zeo (v := .bool (decide (s.zem = t.zem))) (fun _ Q hq => s1 _ _ _ _ _ _ a1 b1 (by omega) hq) ?_
 simp +contextual -dsimp
 refine B.zeo (v := .bool (decide (s.Lots = t.Lots))) (fun _ Q hq => s2 _ _ _ _ _ _ _ _ a2 b2 (by omega) hq) ?_
 simp +contextual -dsimp
 refine B.zeo (v := .bool (decide (s.zel = t.zel))) (fun _ Q hq => s3 _ _ _ _ _ _ _ _ a3 b3 (by omega) hq) ?_
 simp -dsimp
 refine zk ?_
 have : decide (s = t) = (((((decide (s.Now = t.Now) && decide (s.zg3 = t.zg3)) && decide (s.zf3 = t.zf3)) && decide (s.zem = t.zem)) && decide (s.Lots = t.Lots)) && decide (s.zel = t.zel)) := by
  rw [Bool.eq_iff_iff]
  simp only [decide_eq_true_eq, Bool.and_eq_true]
  exact Sta.eq_iff s t
 rw [this] at hq
 exact hq
structure RowsB (L : List Row) : Prop where
 n : L.length <= 2000
 v : zmc L <= 200000
def zct.Spec (C : CSem) (N : zN) : Prop := ∀ (x : AVal) (L : List Row) (h : za) (Q : zQ), Dl rowK h x L -> L.length < 4000000000000 -> (∀ b : Bool, (b = false -> RowsB L) -> Q (.bool b) h) -> C (N 417) [x] h Q
theorem zct.spec (i : zct.Imp C N) : zct.Spec C N := by
 intro x L h Q hx hl hq
 have lx := hx.zj
 apply i
 refine ze.intro (fun t vs hh => hh = h /\ ∃ k n : Nat, k + t = L.length /\ vs = [.int .i64 (n : Int), .int .i64 (k : Int)] /\ n < 4000000000000000000 /\ zmc (L.take k) <= n) L.length ?_ ⟨rfl, 0, 0, by omega, rfl, by omega, by simp [zmc]⟩
 rintro Y t vs h ⟨rfl, k, n, ht, rfl, hn, hsum⟩ hY
 simp -dsimp only [zct.l3, zct.k2]
 by_cases hk : k < L.length
 ·by_cases h4 : n <= 200000
  ·have h4' : (n : Int) <= 200000 := by omega
   obtain ⟨r, hr⟩ := zc5 hk
   obtain ⟨kx, vx, e1, e2, e3, e4, e5, e6, a1, a2⟩ := zj4 hx hr
   have f1 := a1.2
   have f2 := a2.2
   unfold far at f1 f2
   have c1 := add1 (show n < 4611686018427387904 by omega)
   have c2 := addNN (a := n + 1) (b := r.Key.length) (by omega)
   have c3 := addNN (a := n + 1 + r.Key.length) (b := r.Value.length) (by omega)
   have c4 := add1 (show k < 4611686018427387904 by omega)
   simp -dsimp [lx, hk, h4', - V.zej]
   simp -dsimp only [B.zg6, B.zf, e1, e3, e4, e5, e6, a1.zj, a2.zj, c1, c2, c3, c4]
   refine hY (t - 1) _ _ (by omega) ⟨rfl, k + 1, n + 1 + r.Key.length + r.Value.length, by omega, rfl, by omega, ?_⟩
   have := zty hr
   omega
  ·have h4' : ¬ (n : Int) <= 200000 := by omega
   have h4'' : (200000 : Int) < n := by omega
   simp -dsimp [lx, hk, h4', h4'']
   exact zk (hq true fun e => by cases e)
 ·have hkk : k = L.length := by omega
  subst hkk
  rw [List.take_length] at hsum
  simp -dsimp [lx]
  by_cases h4 : n <= 200000
  ·have h4' : ¬ (200000 : Int) < n := by omega
   have e7 : decide ((2000 : Int) < L.length) = decide (2000 < L.length) := decide_eq_decide.2 (by omega)
   simp -dsimp [h4', lx]
   first | rw [e7] | skip
   exact zk (hq _ fun e => ⟨by simpa using e, by omega⟩)
  ·have h4' : (200000 : Int) < n := by omega
   simp -dsimp [h4']
   exact zk (hq true fun e => by cases e)
end Go.Ab
namespace Go.Ab
def zrh (x : Row) : Bool := decide (x.Key.head? = some 97)
def ordK : Option Row -> List Row -> Bool
 | _, [] => true
 | p, x :: l => !outB p x && ordK (some x) l
def stFold : List Row -> Sta -> Option Sta
 | [], s => some s
 | x :: l, s => if (zpn x s).2 = true then none else stFold l (zpn x s).1
abbrev zga (l : List Row) : List Row := l.filter fun x => !zrh x
theorem zrx : ∀ (l : List Row) (p : Option Row) (s s' : Sta) (m m' : List Row), zmd l p s m = some (s', m') -> ordK p l = true /\ m' = m ++ zga l /\ stFold (zga l) s = some s'
 | [], p, s, s', m, m', h => by
  cases h
  simp [ordK, stFold]
 | x :: l, p, s, s', m, m', h => by
  rw [zmd] at h
  by_cases ho : outB p x = true
  ·rw [if_pos ho] at h; cases h
  ·rw [if_neg ho] at h
   have ho : outB p x = false := by simpa using ho
   by_cases ha : x.Key.head? = some 97
   ·rw [if_pos ha] at h
    have e : zga (x :: l) = zga l := by simp [zga, zrh, ha]
    obtain ⟨h1, h2, h3⟩ := zrx l (some x) s s' m m' h
    rw [e]
    exact ⟨by simp [ordK, ho, h1], h2, h3⟩
   ·rw [if_neg ha] at h
    have e : zga (x :: l) = x :: zga l := by simp [zga, zrh, ha]
    by_cases hb : (zpn x s).2 = true
    ·rw [if_pos hb] at h; cases h
    ·rw [if_neg hb] at h
     obtain ⟨h1, h2, h3⟩ := zrx l (some x) _ s' _ m' h
     rw [e]
     refine ⟨by simp [ordK, ho, h1], by rw [h2, List.append_assoc]; rfl, ?_⟩
     rw [stFold, if_neg hb]; exact h3
structure PlainF (s : Sta) : Prop where
 now0 : 0 <= s.Now
 now1 : s.Now <= 4000
 lot0 : 0 < s.zg3
 lot1 : s.zg3 <= 4611686018427387904
 line0 : 0 < s.zf3
 line1 : s.zf3 <= 4611686018427387904
 items : zu1 s.zem = true
 lots : lotsB s.Lots = true
 lines : linesB s.zel = true
theorem plain_iff {s : Sta} : zg5 s = true ↔ PlainF s := by
 unfold zg5 numsB
 simp only [Bool.and_eq_true, decide_eq_true_eq]
 constructor
 ·rintro ⟨⟨⟨⟨⟨⟨a, b⟩, c⟩, d⟩, e⟩, f⟩, g, h, i⟩
  exact ⟨a, b, c, d, e, f, g, h, i⟩
 ·rintro ⟨a, b, c, d, e, f, g, h, i⟩
  exact ⟨⟨⟨⟨⟨⟨a, b⟩, c⟩, d⟩, e⟩, f⟩, g, h, i⟩
end Go.Ab
namespace Go.Ab
variable {C : CSem} {N : zN}
def smallI : Itm := ⟨[65], 5, [], []⟩
def smallL : Lot := ⟨1, [65], 3, 8, 5, true⟩
def zi8 : Sta := ⟨3, 2, 1, [smallI], [smallL], []⟩
theorem small_n : StaN zi8 2 := ⟨by simp [zi8], fun t ht => by rw [List.mem_singleton.1 ht]; exact ⟨Nat.zero_le _, Nat.zero_le _⟩⟩
theorem zry : allRows zi8 = [⟨[42, 100, 97, 121], [0, 3]⟩, ⟨[42, 108, 105, 110, 101], [0, 0, 0, 0, 0, 0, 0, 1]⟩, ⟨[42, 108, 111, 116], [0, 0, 0, 0, 0, 0, 0, 2]⟩, ⟨[105, 65], [0, 5, 0, 0]⟩, ⟨[108, 0, 0, 0, 0, 0, 0, 0, 1], [1, 65, 0, 3, 0, 8, 0, 0, 0, 5, 1]⟩] := by decide +kernel
theorem small_state : zfg (allRows zi8) = (zi8, 0) := by decide +kernel
def zu6 : zgd := ⟨5, 0, 0, [], 0, [], []⟩
theorem znl : zjk 1 7 zu6 = ([⟨[97, 1, 0, 0, 0, 0, 0, 0, 0, 7, 0, 0], [0, 5]⟩], 0) := by decide +kernel
theorem five_back : zjv 1 7 (zjk 1 7 zu6).1 = (zu6, true) := by decide +kernel
def zd9.Spec (C : CSem) (N : zN) : Prop := ∀ (h : za) (Q : zQ), (∀ x P y z h', P.map (·.1) = zi8.zem -> Owns h h' (StaO zi8 x P y z) -> Q (.agg (zhq zi8 x y z)) h') -> C (N 422) [] h Q
theorem zd9.spec (i : zd9.Imp C N) : zd9.Spec C N := by
 intro h Q hq
 apply i
 simp -dsimp
 intro i2 h2
 have o1 := (Owns.start h).zmz (id := i2) (n := 1) (cp := 1) (es := 4) (cs := [.str [65], .int .i64 5, .nils, .nils]) (L := [ze3.cs (smallI, (.nils, .nils))]) (R := []) h2 (fun p hp => by rw [List.mem_singleton.1 hp]; rfl) rfl (by simp) rfl
 generalize upd h i2 (zee _) = h1 at *
 simp -dsimp
 intro i5 h5
 have o2 := o1.zmz (id := i5) (n := 1) (cp := 1) (es := 6) (cs := smallL.cs) (L := [smallL.cs]) (R := []) h5 (by simp) rfl (by simp) (by simp)
 have o3 := ((o2.nils 8).nils 2).nils 1
 simp -dsimp
 exact zk (hq _ [(smallI, (.nils, .nils))] _ _ _ rfl o3)
def zdo.Spec (C : CSem) (N : zN) : Prop := ∀ (h : za) (Q : zQ), Q (.bool true) h -> C (N 418) [] h Q
theorem zdo.spec (i : zdo.Imp C N) (s1 : zd9.Spec C N) (s2 : z9.Spec C N) (s3 : zbd.Spec C N) (s4 : zca.Spec C N) (s5 : zbl.Spec C N) (s6 : zcq.zoy C N) (s7 : zcp.Spec C N) : zdo.Spec C N := by
 intro h Q hq
 apply i
 simp -dsimp only [zdo.cps, zdo.k1]
 refine s1 _ _ fun x P y z h1 eP o1 => ?_
 have a1 : zk8 h1 zi8 x y z := StaO.at o1 (fun o ho => ho) eP small_n (by omega)
 refine s2 _ _ _ _ _ _ a1 (by simp [zi8]) fun r R h2 eR o2 => ?_
 have dr : Dl rowK h2 r (allRows zi8) := by
  rw [<- eR]
  exact Df.dl o2 fun p hp => zsl (s := zi8) _ (by rw [<- eR]; exact List.mem_map.2 ⟨p, hp, rfl⟩)
 have lr := dr.zj
 rw [show (allRows zi8).length = 5 by rw [zry]; rfl] at lr
 have hst := small_state
 simp -dsimp [lr]
 refine s3 r _ h2 _ dr (by rw [zry]; simp) fun x3 P3 y3 z3 h3 eP3 hN3 o3 => ?_
 rw [hst] at eP3 hN3 o3 ⊢
 have a3 : zk8 h3 zi8 x3 y3 z3 := StaO.at o3 (fun o ho => ho) eP3 small_n (by omega)
 have c1 := a3.items.zi
 have c2 : y3.zi = true := a3.lots.elim fun _ r => r.zi
 have c3 : z3.zi = true := a3.lines.elim fun _ r => r.zi
 simp -dsimp
 have ht : zvj h3 zu6 .nils .nils := ⟨⟨[], SlX.nils h3 6⟩, ⟨[], SlX.nils h3 3⟩⟩
 refine s4 1 7 zu6 .nils .nils h3 _ ht (by simp [zu6]) (by simp [zu6]) fun a A h4 eA o4 => ?_
 have da : Dl rowK h4 a (zjk 1 7 zu6).1 := by
  rw [<- eA]
  exact Df.dl o4 fun p hp => by
   have : p.1 ∈ (zjk 1 7 zu6).1 := by rw [<- eA]; exact List.mem_map.2 ⟨p, hp, rfl⟩
   rw [znl] at this
   rw [List.mem_singleton.1 this]
   exact ⟨by simp [far], by simp [far]⟩
 simp -dsimp
 refine s5 1 7 a _ h4 _ da (by rw [znl]; simp) (by rw [znl]; simp [zmc]) fun u v h5 o5 => ?_
 rw [five_back] at o5 ⊢
 have e5 : (zjk 1 7 zu6).2 = 0 := by rw [znl]
 rw [e5]
 rw [znl] at da
 have le35 : h3.le h5 := za.le_trans o4.le o5.le
 have dr5 := dr.mono (za.le_trans o3.le le35)
 rw [zry] at dr5
 have da5 := da.mono o5.le
 obtain ⟨k0, v0, e01, e02, e03, e04, e05, e06, b01, b02⟩ := zj4 dr5 (i := 0) rfl
 obtain ⟨k4, v4, e41, e42, e43, e44, e45, e46, b41, b42⟩ := zj4 dr5 (i := 4) rfl
 obtain ⟨ka, va, ea1, ea2, ea3, ea4, ea5, ea6, ba1, ba2⟩ := zj4 da5 (i := 0) rfl
 obtain ⟨Rk, q0⟩ := b01.1
 have e01 : V.idxS 2 r (.int .i64 0) = some (elp 2 r 0 0) := e01
 have ea1 : V.idxS 2 a (.int .i64 0) = some (elp 2 a 0 0) := ea1
 have e41 : V.idxS 2 r (.int .i64 4) = some (elp 2 r 4 0) := e41
 have cu : u.zi = true := (o5.slAt 0 rfl).zi
 have cv : v.zi = true := (o5.slAt 1 rfl).zi
 have la := da5.zj
 simp -dsimp [zu6, e01, e03, e05, zdz q0, e41, e43, e45]
 refine zf2 9 (s := [108, 0, 0, 0, 0, 0, 0, 0, 1]) rfl rfl fun i39 h6 o6 => ?_
 simp -dsimp
 refine s6 k4 _ _ _ h6 _ (b41.mono o6.le) ⟨⟨[], o6.slAt 0 rfl⟩, by simp [far]⟩ ?_
 have e46 := zsv o6.le e46
 simp -dsimp [e41, e44, e46]
 refine zf2 11 (s := [1, 65, 0, 3, 0, 8, 0, 0, 0, 5, 1]) rfl rfl fun i47 h7 o7 => ?_
 simp -dsimp
 refine s6 v4 _ _ _ h7 _ ((b42.mono o6.le).mono o7.le) ⟨⟨[], o7.slAt 0 rfl⟩, by simp [far]⟩ ?_
 simp -dsimp
 refine s1 _ _ fun x8 P8 y8 z8 h8 eP8 o8 => ?_
 have a8 : zk8 h8 zi8 x8 y8 z8 := StaO.at o8 (fun o ho => ho) eP8 small_n (by omega)
 have le38 : h3.le h8 := za.le_trans le35 (za.le_trans o6.le (za.le_trans o7.le o8.le))
 simp -dsimp
 refine s7 zi8 zi8 _ _ _ _ _ _ h8 _ (a3.mono le38) a8 ?_
 have le58 : h5.le h8 := za.le_trans o6.le (za.le_trans o7.le o8.le)
 have ea5 := zsv le58 ea5
 simp -dsimp [la, ea1, ea3, ea5]
 refine zf2 12 (s := [97, 1, 0, 0, 0, 0, 0, 0, 0, 7, 0, 0]) rfl rfl fun i73 h9 o9 => ?_
 simp -dsimp
 refine s6 ka _ _ _ h9 _ ((ba1.mono le58).mono o9.le) ⟨⟨[], o9.slAt 0 rfl⟩, by simp [far]⟩ ?_
 simp -dsimp
 have az : zk8 h9 zew .nils .nils .nils := ⟨Dl.nils ze3 h9, ⟨[], SlX.nils h9 6⟩, ⟨[], SlX.nils h9 8⟩, by simp [zew], by simp [zew], by simp [zew]⟩
 refine s2 zew _ _ _ h9 _ az (by simp [zew]) fun r2 R2 h10 eR2 o10 => ?_
 have ez : allRows zew = [] := by decide +kernel
 rw [ez] at eR2
 have eR2 : R2 = [] := List.map_eq_nil_iff.1 eR2
 subst eR2
 have lz := (o10.slAt 0 rfl : SlX h10 2 r2 [] []).zj
 simp -dsimp [lz]
 refine zrk ?_ hq
 exact za.le_trans o1.le (za.le_trans o2.le (za.le_trans o3.le (za.le_trans le38 (za.le_trans o9.le o10.le))))
end Go.Ab
namespace Go.Ab
variable {C : CSem} {N : zN}
theorem V.bin_sgeq (a b : List UInt8) : V.bin .geq (.str a) (.str b) = some (.bool (!zkf a b)) := rfl
end Go.Ab
namespace Go.Ab
theorem allRows_plain {s : Sta} (h : zg5 s = true) : allRows s = zpm s := by unfold allRows; rw [h]; rfl
abbrev tyRow : Ty := .st [.sl 1 1 (.i .u8), .sl 1 1 (.i .u8)]
theorem dBs {H : za} {v : AVal} (h : zjw H (.sl 1 1 (.i .u8)) [v]) : ∃ b : List UInt8, Bs H v b := by
 obtain ⟨L, h1, h2⟩ := arg_slice bc (fun p hp => dByte hp) h
 exact ⟨L, ⟨[], h1⟩, by unfold reach at h2; unfold far; omega⟩
theorem absSl_one {H : za} {b e : Nat} {t : Ty} {c : List AVal} (h : zjw H (.sl b e t) c) : ∃ v, c = [v] := by
 rcases h with h | h | ⟨_, _, h, _⟩ <;> exact ⟨_, h⟩
theorem dRow {H : za} {p : List AVal} (h : zjw H tyRow p) : ∃ (t : Row) (a : AVal × AVal), p = rowK.cells t a /\ rowK.at_ H t a := by
 obtain ⟨a, r, rfl, h1, ⟨b, r2, rfl, h2, hr⟩⟩ := h
 cases hr
 obtain ⟨v, rfl⟩ := absSl_one h1
 obtain ⟨w, rfl⟩ := absSl_one h2
 obtain ⟨s, hs⟩ := dBs h1
 obtain ⟨t, ht⟩ := dBs h2
 exact ⟨⟨s, t⟩, (v, w), rfl, hs, ht⟩
theorem arg_sliceD {T Ad : Type} {K : DK T Ad} {H : za} {bytes : Nat} {e : Ty} {v : AVal} (hd : ∀ p, zjw H e p -> ∃ (t : T) (a : Ad), p = K.cells t a /\ K.at_ H t a) (h : zjw H (.sl bytes K.n e) [v]) : ∃ L : List T, Dl K H v L /\ L.length * bytes <= reach := by
 obtain ⟨G, h1, h2⟩ := arg_slice (T := { p : T × Ad // K.at_ H p.1 p.2 }) (fun p => K.cells p.1.1 p.1.2) (fun p hp => by obtain ⟨t, a, e, k⟩ := hd p hp; exact ⟨⟨(t, a), k⟩, e⟩) h
 refine ⟨(G.map (·.1)).map (·.1), ⟨G.map (·.1), [], rfl, ?_, fun p hp => ?_⟩, by simpa using h2⟩
 ·rw [List.map_map]; exact h1
 ·obtain ⟨q, _, rfl⟩ := List.mem_map.1 hp; exact q.2
theorem dRows {H : za} {v : AVal} (h : zjw H (.sl 48 2 tyRow) [v]) : ∃ L : List Row, Dl rowK H v L /\ L.length < 4000000000000 := by
 obtain ⟨L, h1, h2⟩ := arg_sliceD (K := rowK) (fun p hp => dRow hp) h
 exact ⟨L, h1, by unfold reach at h2; omega⟩
end Go.Ab
namespace Go.Ab
variable {C : CSem} {N : zN}
@[simp] def zow.k1 (C : CSem) (n fm : Nat) (Q : zQ) (Y1 : zL) (v3 v4 : AVal) (h : za) : Prop :=
 B.pv (V.zj v3) fun v23 =>
  B.pv (V.bin .lss v4 v23) fun v24 =>
  B.cond v24
  (B.call C fm [(.int .i64 2), v4] h fun v30 h =>
  B.pv (V.idxS n v3 v4) fun v31 =>
  B.stn h v31 n v30 fun h =>
  B.pv (V.bin .add v4 (.int .i64 1)) fun v26 =>
  Y1 [v26] h)
  (Q (.tup []) h)
@[simp] def zow.l2 (C : CSem) (n fm : Nat) (Q : zQ) (v3 : AVal) : zG
 | [v4], h, Y1 => zow.k1 C n fm Q Y1 v3 v4 h
 | _, _, _ => False
@[simp] def zow.k3 (C : CSem) (n fm : Nat) (Q : zQ) (v0 : AVal) (h : za) : Prop :=
 B.pv (V.zj v0) fun v18 =>
  B.pv (V.bin .add v18 (.int .i64 12)) fun v19 =>
  B.pv (V.zgo n v0 none (some v19)) fun v20 =>
  ze (zow.l2 C n fm Q v20) [(.int .i64 0)] h
@[simp] def zow.k4 (C : CSem) (n fo fm : Nat) (Q : zQ) (Y2 : zL) (v0 v2 : AVal) (h : za) : Prop :=
 B.pv (V.zj v0) fun v7 =>
  B.pv (V.bin .lss v2 v7) fun v8 =>
  B.cond v8
  (B.pv (V.idxS n v0 v2) fun v13 =>
  B.ldn h v13 n fun v14 =>
  B.call C fo [v14] h fun v15 h =>
  B.pv (V.bin .add v2 (.int .i64 1)) fun v10 =>
  Y2 [v10] h)
  (zow.k3 C n fm Q v0 h)
@[simp] def zow.l5 (C : CSem) (n fo fm : Nat) (Q : zQ) (v0 : AVal) : zG
 | [v2], h, Y2 => zow.k4 C n fo fm Q Y2 v0 v2 h
 | _, _, _ => False
def zow (C : CSem) (n fo fm : Nat) (v0 : AVal) (h : za) (Q : zQ) : Prop := ze (zow.l5 C n fo fm Q v0) [(.int .i64 0)] h
section
variable {T Ad : Type} (K : DK T Ad)
def OverE (K : DK T Ad) (C : CSem) (f : Nat) : Prop := ∀ (t : T) (a : Ad) (h0 h : za) (Q : zQ), K.ok t -> Owns h0 h (K.obs true t a) -> (∀ h', h0.le h' -> Q (.tup []) h') -> C f [.agg (K.cells t a)] h Q
theorem overD_spec {mk : Int -> Int -> T} {fo fm : Nat} (so : OverE K C fo) (sm : MarkE K mk C fm) {h0 h : za} {x : AVal} {P PM : List (T × Ad)} {Q : zQ} (ho : Owns h0 h (.sl K.n x (P.map K.cs) (PM.map K.cs) :: (K.os true P ++ K.os false PM))) (hok : ∀ p ∈ P, K.ok p.1) (hM : PM.length = 12) (hl : P.length <= 100000000)
  (hq : ∀ h', h0.le h' -> Q (.tup []) h') : zow C K.n fo fm x h Q := by
 have ho1 : Owns h0 h (.sl K.n x (P.map K.cs) (PM.map K.cs) :: K.os true P) := ho.sub (List.Sublist.cons_cons _ (List.sublist_append_left _ _))
 have e1 : IntKind.i64.wrap ((P.length : Int) + 12) = ((P.length + 12 : Nat) : Int) := by rw [wrap_i64 (by omega) (by omega)]; omega
 refine ze.intro (fun n vs hh => ∃ k : Nat, k + n = P.length /\ vs = [.int .i64 k] /\ Owns h0 hh (.sl K.n x (P.map K.cs) (PM.map K.cs) :: K.os true (P.drop k))) P.length ?_ ⟨0, by omega, rfl, ho1⟩
 rintro Y n vs hh ⟨k, hk, rfl, o⟩ hY
 have hx := o.slAt 0 rfl
 have hlx := hx.zj
 rw [List.length_map] at hlx
 simp -dsimp only [zow.l5, zow.k4, hlx, lssN, B.zf]
 refine B.zd (fun hb => ?_) (fun hb => ?_)
 ·rw [decide_eq_true_eq] at hb
  have hd : P.drop k = P[k] :: P.drop (k + 1) := List.drop_eq_getElem_cons hb
  have hg : (P.map K.cs)[k]? = some (K.cells P[k].1 P[k].2) := by rw [List.getElem?_map, List.getElem?_eq_getElem hb]; rfl
  have hidx : V.idxS K.n x (.int .i64 (k : Int)) = some (elp K.n x k 0) := hx.idxN (by simpa using hb)
  simp -dsimp only [hidx, B.zhn, hx.elem hg, B.zf]
  rw [hd] at o
  have eo : K.os true (P[k] :: P.drop (k + 1)) = K.obs true P[k].1 P[k].2 ++ K.os true (P.drop (k + 1)) := by simp only [DK.os, List.flatMap_cons]
  rw [eo] at o
  have o' : Owns h0 hh ((.sl K.n x (P.map K.cs) (PM.map K.cs) :: K.os true (P.drop (k + 1))) ++ K.obs true P[k].1 P[k].2) := o.perm (by
   rw [List.cons_append]
   exact List.Perm.cons _ (List.perm_append_comm))
  obtain ⟨o1, o2⟩ := o'.out
  refine so _ _ _ _ _ (hok _ (List.getElem_mem hb)) o2 fun h' hle => ?_
  simp -dsimp only [add1 (show k < 4611686018427387904 by omega), B.zf]
  exact hY (n - 1) _ _ (by omega) ⟨k + 1, by omega, rfl, o1.grow hle⟩
 ·rw [decide_eq_false_iff_not] at hb
  have o1 : Owns h0 hh [.sl K.n x (P.map K.cs) (PM.map K.cs)] := o.sub (List.Sublist.cons_cons _ (List.nil_sublist _))
  obtain ⟨z, e2, e3, e4⟩ := hx.slice K.pos (lo := 0) (hi := P.length + 12) (a := none) (b := some (.int .i64 ((P.length + 12 : Nat) : Int))) (.inl ⟨rfl, rfl⟩) (.inr ⟨_, rfl⟩) (by omega) (by simp; omega)
  have h1 : ((P.map K.cs ++ PM.map K.cs).take (P.length + 12)).drop 0 = P.map K.cs ++ PM.map K.cs := by rw [List.drop_zero, List.take_of_length_le]; simp; omega
  rw [h1] at e3
  simp -dsimp only [zow.k3, hlx, V.zej, e1, e2, B.zf]
  have hoz : Owns h0 hh [.sl K.n z (P.map K.cs ++ PM.map K.cs) ((P.map K.cs ++ PM.map K.cs).drop (P.length + 12))] := o1.turn 0 rfl (o' := .sl K.n z (P.map K.cs ++ PM.map K.cs) ((P.map K.cs ++ PM.map K.cs).drop (P.length + 12))) e3 (fun id b hf hb => o1.zl1 0 rfl id b (by show foot x = some id; rw [<- e4]; exact hf) hb) (fun j b hb _ => hb) (.inl e4)
  refine ze.intro (fun n vs hh => ∃ (k : Nat) (L' : List (List AVal)), k + n = P.length + 12 /\ vs = [.int .i64 k] /\ L'.length = P.length + 12 /\ Owns h0 hh [.sl K.n z L' ((P.map K.cs ++ PM.map K.cs).drop (P.length + 12))]) (P.length + 12) ?_ ⟨0, _, by omega, rfl, by simp [hM], hoz⟩
  rintro Y n vs hh ⟨k, L', hn, rfl, hl', ho'⟩ hY
  have hlz := (ho'.slAt 0 rfl).zj
  rw [hl'] at hlz
  simp -dsimp only [zow.l2, zow.k1, hlz, lssN, B.zf]
  refine B.zd (fun hc => ?_) (fun hc => ?_)
  ·rw [decide_eq_true_eq] at hc
   have hk : k < L'.length := by omega
   refine sm _ _ _ _ fun a' h2 o2 => ?_
   simp -dsimp only [(ho'.slAt 0 rfl).idxN hk, B.zf]
   refine (ho'.grow o2.le).stElem 0 rfl (c := L'[k]) (by simp [hk]) (K.len _ a') fun h3 o3 _ => ?_
   simp -dsimp only [add1 (show k < 4611686018427387904 by omega), B.zf]
   exact hY (P.length + 12 - (k + 1)) _ _ (by omega) ⟨k + 1, _, by omega, rfl, by simp [hl'], o3⟩
  ·exact hq _ ho'.le
end
end Go.Ab
namespace Go.Ab
variable {C : CSem} {N : zN}
def zc7.zoy (C : CSem) (N : zN) : Prop := ∀ (h0 h : za) (x : AVal) (s : List UInt8) (Q : zQ), Owns h0 h [bOb true x s] -> s.length <= far -> (∀ h', h0.le h' -> Q (.tup []) h') -> C (N 40) [x] h Q
theorem zc7.spl (i : zc7.Imp C N) (s1 : zc2.Spec C N) : zc7.zoy C N := fun h0 h x s Q ho hlen hq =>
 i x h Q (overG_specL (es := 1) (st := fun h p v K => B.st h p v K) (by omega) (v := fun i => .int .u8 ((zjs 2 i).toNat : Int)) (s1 2) (fun ho hi hK => over_stS rfl ho hi hK) (ho : Owns h0 h [.sl 1 x (s.map bc) _]) (by simp [marksByte, marks]) (by rw [List.length_map]; unfold far at hlen; omega) fun h' hle => zk (hq h' hle))
def zbv.SpecO (C : CSem) (N : zN) : Prop := ∀ (x : AVal) (L : List Row) (h : za) (Q : zQ), Dl rowK h x L -> L.length <= 100000000 ->
 (∀ x' P PM h', P.map (·.1) = L -> PM.map (·.1) = mks12 zni -> Owns h h' (.sl 2 x' (P.map rowK.cs) (PM.map rowK.cs) :: (rowK.os true P ++ rowK.os false PM)) -> zvk rowK zni h' x' L -> Q x' h') -> C (N 254) [x] h Q
theorem zbv.spo (i : zbv.Imp C N) (s1 : zdp.Spec C N) (s2 : zec.Spec C N) : zbv.SpecO C N := fun x L h Q hx hl hq =>
 i x h Q (lentD_spec (K := rowK) s1 s2 hx hl fun x' P PM h' e1 e2 ho => zk (hq x' P PM h' e1 e2 ho (zvk.of zv4 hx.ok e1 e2 ho)))
def zeb.Spec (C : CSem) (N : zN) : Prop := OverE rowK C (N 468)
theorem zeb.spec (i : zeb.Imp C N) (s1 : zc7.zoy C N) : zeb.Spec C N := by
 intro t a h0 h Q hok ho hq
 apply i
 have ho : Owns h0 h ([bOb true a.1 t.Key] ++ [bOb true a.2 t.Value]) := ho
 have ho' := ho.perm (List.perm_append_comm)
 obtain ⟨o1, o2⟩ := ho'.out
 have c1 : a.1.zi = true := (ho.slAt 0 rfl).zi
 have c2 : a.2.zi = true := (ho.slAt 1 rfl).zi
 simp -dsimp [rowK, c1, c2]
 refine s1 _ _ _ _ _ o2 hok.1 fun h1 hle => ?_
 refine s1 _ _ _ _ _ (o1.grow hle) hok.2 fun h2 hle2 => ?_
 exact zk (hq _ hle2)
def zbx.Spec (C : CSem) (N : zN) : Prop := ∀ (x : AVal) (P PM : List (Row × AVal × AVal)) (h0 h : za) (Q : zQ), Owns h0 h (.sl 2 x (P.map rowK.cs) (PM.map rowK.cs) :: (rowK.os true P ++ rowK.os false PM)) -> (∀ p ∈ P, rowK.ok p.1) -> PM.length = 12 -> P.length <= 100000000 ->
 (∀ h', h0.le h' -> Q (.tup []) h') -> C (N 451) [x] h Q
theorem zbx.spec (i : zbx.Imp C N) (s1 : zeb.Spec C N) (s2 : zdp.Spec C N) : zbx.Spec C N := fun x P PM h0 h Q ho hok hM hl hq =>
 i x h Q (overD_spec rowK s1 s2 ho hok hM hl fun h' hle => zk (hq h' hle))
end Go.Ab
set_option maxRecDepth 100000
namespace Go.Ab
variable {C : CSem} {N : zN}
@[simp] def putD.k1 (C : CSem) (n f : Nat) (Q : zQ) (Y1 : zL) (v0 v1 v4 : AVal) (h : za) : Prop :=
 B.pv (V.zj v1) fun v17 =>
  B.pv (V.bin .lss v4 v17) fun v18 =>
  B.cond v18
  (B.pv (V.idxS n v1 v4) fun v24 =>
  B.ldn h v24 n fun v25 =>
  B.call C f [v0, v25] h fun v26 h =>
  B.pv (V.bin .add v4 (.int .i64 1)) fun v20 =>
  Y1 [v20] h)
  (Q (.tup []) h)
@[simp] def putD.l2 (C : CSem) (n f : Nat) (Q : zQ) (v0 v1 : AVal) : zG
 | [v4], h, Y1 => putD.k1 C n f Q Y1 v0 v1 v4 h
 | _, _, _ => False
def putD (C : CSem) (k n f : Nat) (v0 v1 : AVal) (h : za) (Q : zQ) : Prop := putG k v0 v1 h fun _ h => ze (putD.l2 C n f Q v0 v1) [(.int .i64 0)] h
section
variable {T Ad : Type} {K : DK T Ad} {inn : T -> Ad -> LK}
def allOb (K : DK T Ad) (ls : List (AVal × List (T × Ad))) : List Ob := ls.flatMap fun p => .sl K.n p.1 (p.2.map K.cs) [] :: K.os false p.2
end
end Go.Ab
namespace Go.Ab
variable {C : CSem} {N : zN}
def zdw.Spec (C : CSem) (N : zN) : Prop := ∀ (s : List UInt8) (c : UInt8) (h : za) (Q : zQ), s.length < 4611686018427387904 -> Q (.bool (decide (c ∈ s))) h -> C (N 477) [.str s, .int .u8 (c.toNat : Int)] h Q
theorem u8_dec (a b : UInt8) : decide ((a.toNat : Int) = (b.toNat : Int)) = decide (a = b) := by
 rw [Bool.eq_iff_iff]; simp only [decide_eq_true_eq]
 exact ⟨fun h => UInt8.toNat_inj.1 (by omega), fun h => by rw [h]⟩
theorem zdw.spec (i : zdw.Imp C N) : zdw.Spec C N := by
 intro s c h Q hl hq
 apply i
 have ls : V.zij (.str s) = some (.int .i64 (s.length : Int)) := rfl
 refine ze.intro (fun n vs hh => hh = h /\ ∃ k : Nat, k + n = s.length /\ vs = [.int .i64 (k : Int)] /\ c ∉ s.take k) s.length ?_ ⟨rfl, 0, by omega, rfl, by simp⟩
 rintro Y n vs hh ⟨rfl, k, hk, rfl, hno⟩ hY
 simp -dsimp only [zdw.l2, zdw.k1, ls, lssN, B.zf]
 refine B.zd (fun hc => ?_) (fun hc => ?_)
 ·rw [decide_eq_true_eq] at hc
  obtain ⟨b, hb⟩ := zc5 hc
  simp -dsimp only [zri hb, V.zmb, u8_dec, B.zf]
  refine B.zd (fun hd => ?_) (fun hd => ?_)
  ·rw [decide_eq_true_eq] at hd
   subst hd
   rw [decide_eq_true (List.mem_of_getElem? hb)] at hq
   exact zk hq
  ·rw [decide_eq_false_iff_not] at hd
   simp -dsimp only [add1 (show k < 4611686018427387904 by omega), B.zf]
   refine hY (n - 1) _ _ (by omega) ⟨rfl, k + 1, by omega, rfl, ?_⟩
   rw [take_succ hb]
   simp [hno, Ne.symm hd]
 ·rw [decide_eq_false_iff_not] at hc
  rw [List.take_of_length_le (by omega)] at hno
  rw [decide_eq_false hno] at hq
  exact zk hq
def zjg (l : List (List UInt8)) (c : List UInt8) : Bool := (l.all fun o => zbm o && !decide (o = c)) && (decide l.Nodup && decide (l.length <= 4))
def zmf (l : List Part) : Bool := (l.all fun p => zbm p.Item && (decide (1 <= p.Qty) && decide (p.Qty <= 1073741824))) && (decide (l.map Part.Item).Nodup && (decide (1 <= l.length) && decide (l.length <= 8)))
theorem zv2 {T : Type} {l : List T} {x : T} (h : l.Nodup) (hx : x ∉ l) : (l ++ [x]).Nodup := by
 rw [List.nodup_append]
 exact ⟨h, by simp, fun a ha b hb e => by rw [List.mem_singleton.1 hb] at e; subst e; exact hx ha⟩
theorem not_nodup {T : Type} {l : List T} {k : Nat} {x : T} (hk : l[k]? = some x) (hx : x ∈ l.take k) : ¬ l.Nodup := fun h => by
 have h4 : (l.take (k + 1)).Nodup := h.sublist (List.take_sublist _ _)
 rw [take_succ hk, List.nodup_append] at h4
 exact h4.2.2 x hx x (by simp) rfl
def zbq.Spec (C : CSem) (N : zN) : Prop := ∀ (x : AVal) (L : List (List UInt8)) (R : List (List AVal)) (c : List UInt8) (h : za) (Q : zQ), SlX h 1 x (L.map tc) R -> L.length < 4611686018427387904 -> Q (.bool (zjg L c)) h -> C (N 479) [x, .str c] h Q
theorem zbq.spec (i : zbq.Imp C N) (s1 : zb4.Spec C N) : zbq.Spec C N := by
 intro x L R c h Q hx hl hq
 apply i
 have lx := hx.zj
 rw [List.length_map] at lx
 refine ze.intro (fun n vs hh => hh = h /\ ∃ k : Nat, k + n = L.length /\ vs = [.int .i64 (k : Int)] /\ ((L.take k).all fun o => zbm o && !decide (o = c)) = true /\ (L.take k).Nodup) L.length ?_ ⟨rfl, 0, by omega, rfl, rfl, by simp⟩
 rintro Y n vs hh ⟨rfl, k, hk, rfl, hall, hnd⟩ hY
 simp -dsimp only [zbq.l5, zbq.k4, lx, lssN, B.zf]
 refine B.zd (fun hc => ?_) (fun hc => ?_)
 ·rw [decide_eq_true_eq] at hc
  obtain ⟨w, hw⟩ := zc5 hc
  have hkl : k < (L.map tc).length := by simpa using hc
  have e1 : V.idxS 1 x (.int .i64 (k : Int)) = some (elp 1 x k 0) := hx.idxN hkl
  have e2 : A.ldv hh (elp 1 x k 0) = some (.str w) := hx.cell (get_map hw)
  simp -dsimp only [zbq.k3, e1, e2, B.zg6, B.zf]
  refine s1 w hh _ ?_
  simp +contextual -dsimp [e1, e2]
  refine B.zd (fun hb => ?_) (fun hb => ?_)
  ·have hb : (zbm w && !decide (w = c)) = false := by
    revert hb; cases zbm w <;> cases decide (w = c) <;> simp
   have : zjg L c = false := by
    unfold zjg
    rw [all_bad hw hb]; rfl
   rw [this] at hq
   exact zk hq
  ·have hb : (zbm w && !decide (w = c)) = true := by
    revert hb; cases zbm w <;> cases decide (w = c) <;> simp
   refine ze.intro (fun m vs h3 => h3 = hh /\ ∃ j : Nat, j + m = k /\ vs = [.int .i64 (j : Int)] /\ w ∉ L.take j) k ?_ ⟨rfl, 0, by omega, rfl, by simp⟩
   rintro Z m vs h3 ⟨rfl, j, hj, rfl, hno⟩ hZ
   simp -dsimp only [zbq.l2, zbq.k1, lssN, B.zf]
   refine B.zd (fun hd => ?_) (fun hd => ?_)
   ·rw [decide_eq_true_eq] at hd
    obtain ⟨u, hu⟩ := zc5 (L := L) (k := j) (by omega)
    have hjl : j < (L.map tc).length := by simp; omega
    have f1 : V.idxS 1 x (.int .i64 (j : Int)) = some (elp 1 x j 0) := hx.idxN hjl
    have f2 : A.ldv h3 (elp 1 x j 0) = some (.str u) := hx.cell (get_map hu)
    simp -dsimp only [e1, e2, f1, f2, B.zg6, B.zf, V.zhz]
    refine B.zd (fun he => ?_) (fun he => ?_)
    ·rw [decide_eq_true_eq] at he
     subst he
     have : zjg L c = false := by
      unfold zjg
      rw [decide_eq_false (not_nodup hw (List.mem_of_getElem? (by rw [List.getElem?_take_of_lt hd]; exact hu)))]
      simp
     rw [this] at hq
     exact zk hq
    ·rw [decide_eq_false_iff_not] at he
     simp -dsimp only [add1 (show j < 4611686018427387904 by omega), B.zf]
     refine hZ (m - 1) _ _ (by omega) ⟨rfl, j + 1, by omega, rfl, ?_⟩
     rw [take_succ hu]
     simp [hno, Ne.symm he]
   ·rw [decide_eq_false_iff_not] at hd
    have : j = k := by omega
    subst this
    simp -dsimp only [add1 (show j < 4611686018427387904 by omega), B.zf]
    refine hY (n - 1) _ _ (by omega) ⟨rfl, j + 1, by omega, rfl, ztv hall hw hb, ?_⟩
    rw [take_succ hw]
    exact zv2 hnd hno
 ·rw [decide_eq_false_iff_not] at hc
  have : k = L.length := by omega
  subst this
  rw [List.take_length] at hall hnd
  have e : V.bin .leq (.int .i64 (L.length : Int)) (.int .i64 4) = some (.bool (decide (L.length <= 4))) := leqN (b := 4)
  simp -dsimp only [lx, e, B.zf]
  have : zjg L c = decide (L.length <= 4) := by unfold zjg; rw [hall, decide_eq_true hnd]; rfl
  rw [this] at hq
  exact zk hq
def zbt.Spec (C : CSem) (N : zN) : Prop := ∀ (x : AVal) (L : List Part) (R : List (List AVal)) (h : za) (Q : zQ), SlX h 2 x (L.map Part.cs) R -> L.length < 4611686018427387904 -> Q (.bool (zmf L)) h -> C (N 478) [x] h Q
theorem zbt.spec (i : zbt.Imp C N) (s1 : zb4.Spec C N) : zbt.Spec C N := by
 intro x L R h Q hx hl hq
 apply i
 have lx := hx.zj
 rw [List.length_map] at lx
 refine ze.intro (fun n vs hh => hh = h /\ ∃ k : Nat, k + n = L.length /\ vs = [.int .i64 (k : Int)] /\ ((L.take k).all fun p => zbm p.Item && (decide (1 <= p.Qty) && decide (p.Qty <= 1073741824))) = true /\ ((L.take k).map Part.Item).Nodup) L.length ?_ ⟨rfl, 0, by omega, rfl, rfl, by simp⟩
 rintro Y n vs hh ⟨rfl, k, hk, rfl, hall, hnd⟩ hY
 simp -dsimp only [zbt.l5, lx, lssN, B.zf]
 refine B.zd (fun hc => ?_) (fun hc => ?_)
 ·rw [decide_eq_true_eq] at hc
  obtain ⟨w, hw⟩ := zc5 hc
  have hkl : k < (L.map Part.cs).length := by simpa using hc
  have e1 : V.idxS 2 x (.int .i64 (k : Int)) = some (elp 2 x k 0) := hx.idxN hkl
  have e3 : V.fieldAddr 0 (elp 2 x k 0) = some (elp 2 x k 0) := hx.zmk hkl 0 0
  have e4 : V.fieldAddr 1 (elp 2 x k 0) = some (elp 2 x k 1) := hx.zmk hkl 0 1
  have e2 : A.ldv hh (elp 2 x k 0) = some (.str w.Item) := hx.ldv (get_map hw) (by omega)
  have e5 : A.ldv hh (elp 2 x k 1) = some (.int .i64 w.Qty) := hx.ldv (get_map hw) (by omega)
  simp -dsimp only [zbt.k4, e1, e2, e3, B.zg6, B.zf]
  refine s1 w.Item hh _ ?_
  simp +contextual -dsimp [e1, e4, e5]
  have eb : (zbm w.Item && (decide (1 <= w.Qty) && decide (w.Qty <= 1073741824))) = !((!zbm w.Item || decide (w.Qty < 1)) || decide (1073741824 < w.Qty)) := by
   have q1 : decide (w.Qty < 1) = !decide (1 <= w.Qty) := by rw [Bool.eq_iff_iff]; simp
   have q2 : decide (1073741824 < w.Qty) = !decide (w.Qty <= 1073741824) := by rw [Bool.eq_iff_iff]; simp
   rw [q1, q2]
   cases zbm w.Item <;> cases decide (1 <= w.Qty) <;> cases decide (w.Qty <= 1073741824) <;> rfl
  refine B.zd (fun hb => ?_) (fun hb => ?_)
  ·have : zmf L = false := by
    unfold zmf
    rw [all_bad hw (by rw [eb, hb]; rfl)]; rfl
   rw [this] at hq
   exact zk hq
  ·refine ze.intro (fun m vs h3 => h3 = hh /\ ∃ j : Nat, j + m = k /\ vs = [.int .i64 (j : Int)] /\ w.Item ∉ (L.take j).map Part.Item) k ?_ ⟨rfl, 0, by omega, rfl, by simp⟩
   rintro Z m vs h3 ⟨rfl, j, hj, rfl, hno⟩ hZ
   simp -dsimp only [zbt.l3, zbt.k2, lssN, B.zf]
   refine B.zd (fun hd => ?_) (fun hd => ?_)
   ·rw [decide_eq_true_eq] at hd
    obtain ⟨u, hu⟩ := zc5 (L := L) (k := j) (by omega)
    have hjl : j < (L.map Part.cs).length := by simp; omega
    have f1 : V.idxS 2 x (.int .i64 (j : Int)) = some (elp 2 x j 0) := hx.idxN hjl
    have f3 : V.fieldAddr 0 (elp 2 x j 0) = some (elp 2 x j 0) := hx.zmk hjl 0 0
    have f2 : A.ldv h3 (elp 2 x j 0) = some (.str u.Item) := hx.ldv (get_map hu) (by omega)
    simp -dsimp only [e1, e2, e3, f1, f2, f3, B.zg6, B.zf, V.zhz]
    refine B.zd (fun he => ?_) (fun he => ?_)
    ·rw [decide_eq_true_eq] at he
     have hm : w.Item ∈ (L.map Part.Item).take k := by
      refine List.mem_of_getElem? (i := j) ?_
      rw [List.getElem?_take_of_lt hd, List.getElem?_map, hu, <- he]; rfl
     have : zmf L = false := by
      unfold zmf
      rw [decide_eq_false (not_nodup (by rw [List.getElem?_map, hw]; rfl) hm)]
      simp
     rw [this] at hq
     exact zk hq
    ·rw [decide_eq_false_iff_not] at he
     simp -dsimp only [add1 (show j < 4611686018427387904 by omega), B.zf]
     refine hZ (m - 1) _ _ (by omega) ⟨rfl, j + 1, by omega, rfl, ?_⟩
     rw [take_succ hu, List.map_append, List.mem_append]
     rintro (h | h)
     ·exact hno h
     ·exact he (List.mem_singleton.1 h).symm
   ·rw [decide_eq_false_iff_not] at hd
    have : j = k := by omega
    subst this
    simp -dsimp only [add1 (show j < 4611686018427387904 by omega), B.zf]
    refine hY (n - 1) _ _ (by omega) ⟨rfl, j + 1, by omega, rfl, ztv hall hw (by rw [eb, hb]; rfl), ?_⟩
    rw [take_succ hw, List.map_append]
    exact zv2 hnd hno
 ·rw [decide_eq_false_iff_not] at hc
  have : k = L.length := by omega
  subst this
  rw [List.take_length] at hall hnd
  have f1 : decide ((1 : Int) <= L.length) = decide (1 <= L.length) := decide_eq_decide.2 (by omega)
  have f2 : decide ((L.length : Int) <= 8) = decide (L.length <= 8) := decide_eq_decide.2 (by omega)
  have e : V.bin .geq (.int .i64 (L.length : Int)) (.int .i64 1) = some (.bool (decide (1 <= L.length))) := by rw [V.zsj, f1]
  have e' : V.bin .leq (.int .i64 (L.length : Int)) (.int .i64 8) = some (.bool (decide (L.length <= 8))) := leqN (b := 8)
  have hp : zmf L = (decide (1 <= L.length) && decide (L.length <= 8)) := by unfold zmf; rw [hall, decide_eq_true hnd]; rfl
  rw [hp] at hq
  by_cases h1 : 1 <= L.length
  ·simp +contextual -dsimp [lx, e, e', h1, - V.zsj, - V.bin_leq]
   rw [decide_eq_true h1, Bool.true_and] at hq
   exact zk hq
  ·simp +contextual -dsimp [lx, e, e', h1, - V.zsj, - V.bin_leq]
   rw [decide_eq_false h1, Bool.false_and] at hq
   exact zk hq
end Go.Ab
namespace Go.Ab
variable {C : CSem} {N : zN}
structure zbi.Spec (C : CSem) (N : zN) : Prop where
 io : ∀ (h : za) (Q : zQ), Q (.tup [.str [105, 111], .bool true]) h -> C (N 476) [.int .u8 3] h Q
 ip : ∀ (h : za) (Q : zQ), Q (.tup [.str [105, 112], .bool true]) h -> C (N 476) [.int .u8 2] h Q
theorem zbi.spec (i : zbi.Imp C N) : zbi.Spec C N := ⟨fun h Q hq => by
 apply i
 simp -dsimp
 exact zk hq, fun h Q hq => by
 apply i
 simp -dsimp
 exact zk hq⟩
structure zd6.Spec (C : CSem) (N : zN) : Prop where
 io : ∀ (c : List UInt8) (y : AVal) (L : List (List UInt8)) (R : List (List AVal)) (h : za) (Q : zQ), SlX h 1 y (L.map tc) R -> L.length < 4611686018427387904 -> Q (.bool (zbm c && zjg L c)) h ->
  C (N 474) [.agg [.int .u8 3, .int .i64 0, .str c, .int .i64 0, .int .i64 0, .int .i64 0, .int .i64 0, .int .i64 0, .int .i64 0, .nils, y]] h Q
 ip : ∀ (c : List UInt8) (y : AVal) (L : List Part) (R : List (List AVal)) (h : za) (Q : zQ), SlX h 2 y (L.map Part.cs) R -> L.length < 4611686018427387904 -> Q (.bool (zbm c && zmf L)) h ->
  C (N 474) [.agg [.int .u8 2, .int .i64 0, .str c, .int .i64 0, .int .i64 0, .int .i64 0, .int .i64 0, .int .i64 0, .int .i64 0, y, .nils]] h Q
theorem hasU (s1 : zdw.Spec C N) {s : List UInt8} {c : UInt8} {n : Int} (hn : n = (c.toNat : Int)) {h : za} {Q : zQ} (hl : s.length < 100) (hq : Q (.bool (decide (c ∈ s))) h) : C (N 477) [.str s, .int .u8 n] h Q := by
 rw [hn]; exact s1 s c h Q (by omega) hq
theorem zd6.spec (i : zd6.Imp C N) (s1 : zbi.Spec C N) (s2 : zdw.Spec C N) (s3 : zb4.Spec C N) (s4 : zbt.Spec C N) (s5 : zbq.Spec C N) : zd6.Spec C N := by
 constructor
 ·intro c y L R h Q hy hl hq
  have ly := hy.zj
  rw [List.length_map] at ly
  have cy := hy.zi
  apply i
  simp -dsimp
  refine s1.io _ _ ?_
  simp -dsimp
  refine hasU s2 (c := 105) rfl (by simp) ?_
  by_cases hc : c = []
  ·subst hc
   simp -dsimp
   exact zk hq
  simp -dsimp [hc]
  refine s3 c _ _ ?_
  cases hr : zbm c with
  | false =>
   rw [hr] at hq
   simp -dsimp
   exact zk hq
  | true =>
  rw [hr] at hq
  simp -dsimp
  refine hasU s2 (c := 113) rfl (by simp) ?_
  simp -dsimp
  refine hasU s2 (c := 113) rfl (by simp) ?_
  simp -dsimp
  refine hasU s2 (c := 100) rfl (by simp) ?_
  simp -dsimp
  refine hasU s2 (c := 108) rfl (by simp) ?_
  simp -dsimp
  refine hasU s2 (c := 108) rfl (by simp) ?_
  simp -dsimp
  refine hasU s2 (c := 114) rfl (by simp) ?_
  simp -dsimp
  refine hasU s2 (c := 116) rfl (by simp) ?_
  simp -dsimp
  refine hasU s2 (c := 116) rfl (by simp) ?_
  simp -dsimp
  refine hasU s2 (c := 110) rfl (by simp) ?_
  simp -dsimp
  refine hasU s2 (c := 110) rfl (by simp) ?_
  simp -dsimp
  refine hasU s2 (c := 112) rfl (by simp) ?_
  simp -dsimp
  refine hasU s2 (c := 112) rfl (by simp) ?_
  simp -dsimp
  refine hasU s2 (c := 111) rfl (by simp) ?_
  simp -dsimp
  refine s5 y L R c h _ hy hl ?_
  simp -dsimp
  cases hO : zjg L c with
  | true =>
   rw [hO] at hq
   simp -dsimp
   exact zk hq
  | false =>
   rw [hO] at hq
   simp -dsimp
   refine hasU s2 (c := 111) rfl (by simp) ?_
   simp -dsimp
   exact zk hq
 ·intro c y L R h Q hy hl hq
  have ly := hy.zj
  rw [List.length_map] at ly
  have cy := hy.zi
  apply i
  simp -dsimp
  refine s1.ip _ _ ?_
  simp -dsimp
  refine hasU s2 (c := 105) rfl (by simp) ?_
  by_cases hc : c = []
  ·subst hc
   simp -dsimp
   exact zk hq
  simp -dsimp [hc]
  refine s3 c _ _ ?_
  cases hr : zbm c with
  | false =>
   rw [hr] at hq
   simp -dsimp
   exact zk hq
  | true =>
  rw [hr] at hq
  simp -dsimp
  refine hasU s2 (c := 113) rfl (by simp) ?_
  simp -dsimp
  refine hasU s2 (c := 113) rfl (by simp) ?_
  simp -dsimp
  refine hasU s2 (c := 100) rfl (by simp) ?_
  simp -dsimp
  refine hasU s2 (c := 108) rfl (by simp) ?_
  simp -dsimp
  refine hasU s2 (c := 108) rfl (by simp) ?_
  simp -dsimp
  refine hasU s2 (c := 114) rfl (by simp) ?_
  simp -dsimp
  refine hasU s2 (c := 116) rfl (by simp) ?_
  simp -dsimp
  refine hasU s2 (c := 116) rfl (by simp) ?_
  simp -dsimp
  refine hasU s2 (c := 110) rfl (by simp) ?_
  simp -dsimp
  refine hasU s2 (c := 110) rfl (by simp) ?_
  simp -dsimp
  refine hasU s2 (c := 112) rfl (by simp) ?_
  simp -dsimp
  refine s4 y L R h _ hy hl ?_
  simp -dsimp
  cases hO : zmf L with
  | true =>
   rw [hO] at hq
   simp -dsimp
   refine hasU s2 (c := 112) rfl (by simp) ?_
   simp -dsimp
   refine hasU s2 (c := 111) rfl (by simp) ?_
   simp -dsimp
   refine hasU s2 (c := 111) rfl (by simp) ?_
   simp -dsimp
   exact zk hq
  | false =>
   rw [hO] at hq
   simp -dsimp
   exact zk hq
theorem kept_eq (t : Itm) : zil t = (zbm t.Code && ((zbm t.Code && zjg t.zd0 t.Code) && bif decide (t.zek = []) then decide (1 <= t.Life) && decide (t.Life <= 2000) else decide (t.Life = 0) && (zbm t.Code && zmf t.zek))) := by
 unfold zil zlr zjg zmf qtyB zul
 rw [Bool.eq_iff_iff]
 by_cases hp : t.zek = []
 ·rw [hp]
  simp only [decide_true, cond_true, Bool.and_eq_true, List.all_eq_true, decide_eq_true_eq, List.length_cons, List.nodup_cons, List.mem_cons, Bool.not_eq_true', decide_eq_false_iff_not]
  constructor
  ·rintro ⟨⟨h1, ⟨h2, h3⟩, h4⟩, h5, h6⟩
   have hc := h1 _ (.inl rfl)
   exact ⟨hc, ⟨hc, fun o ho => ⟨h1 o (.inr ho), fun e => by subst e; exact h2 ho⟩, h3, by omega⟩, by omega, h6⟩
  ·rintro ⟨hc, ⟨_, h1, h2, h3⟩, h4, h5⟩
   exact ⟨⟨fun x hx => hx.elim (fun e => by rw [e]; exact hc) fun hx => (h1 x hx).1, ⟨fun hm => (h1 _ hm).2 rfl, h2⟩, by omega⟩, by omega, h5⟩
 ·rw [decide_eq_false hp]
  have hpl : 1 <= t.zek.length := List.length_pos_iff.2 hp
  simp only [cond_false, Bool.and_eq_true, List.all_eq_true, decide_eq_true_eq, List.length_cons, List.nodup_cons, List.mem_cons, Bool.not_eq_true', decide_eq_false_iff_not, List.mem_map, List.length_map]
  constructor
  ·rintro ⟨⟨h1, ⟨h2, h3⟩, h4⟩, h5, h6, h7, h8, h9⟩
   have hc := h1 _ (.inl rfl)
   exact ⟨hc, ⟨hc, fun o ho => ⟨h1 o (.inr ho), fun e => by subst e; exact h2 ho⟩, h3, by omega⟩, h6, hc, fun p hp => ⟨h7 _ ⟨p, hp, rfl⟩, h5 p hp⟩, h8, hpl, h9⟩
  ·rintro ⟨hc, ⟨_, h1, h2, h3⟩, h4, _, h5, h6, h7, h8⟩
   exact ⟨⟨fun x hx => hx.elim (fun e => by rw [e]; exact hc) fun hx => (h1 x hx).1, ⟨fun hm => (h1 _ hm).2 rfl, h2⟩, by omega⟩, fun p hp => (h5 p hp).2, h4, fun x ⟨p, hp, e⟩ => by rw [<- e]; exact (h5 p hp).1, h6, h8⟩
end Go.Ab
namespace Go.Ab
variable {C : CSem} {N : zN}
def zb6.Spec (C : CSem) (N : zN) : Prop := ∀ (n : Int) (k : Nat) (h : za) (Q : zQ), k <= 8 ->
 (∀ x' h', Owns h h' [.sl 1 x' ((be n k).map bc) []] -> Q x' h') -> C (N 466) [.int .i64 n, .int .i64 (k : Int)] h Q
theorem zb6.spec (i : zb6.Imp C N) : zb6.Spec C N := by
 intro n k h Q hk hq
 apply i
 have e0 : IntKind.i64.wrap ((k : Int) - 1) = (k : Int) - 1 := wrap_i64 (by omega) (by omega)
 simp +contextual -dsimp [e0]
 refine ze.intro (fun t vs hh => ∃ (x : AVal) (pre : List UInt8), t <= k /\ vs = [x, .int .i64 ((t : Int) - 1)] /\ pre ++ be n t = be n k /\ Owns h hh [.sl 1 x (pre.map bc) []]) k ?_ ⟨.nils, [], Nat.le_refl _, rfl, rfl, (Owns.start h).nils 1⟩
 rintro Y t vs hh ⟨x, pre, ht, rfl, he, ho⟩ hY
 simp +contextual -dsimp
 have hpl := congrArg List.length he
 simp only [List.length_append, zhi] at hpl
 refine B.zd (fun hb => ?_) (fun hb => ?_) <;> simp at hb
 ·obtain ⟨t, rfl⟩ : ∃ u, t = u + 1 := ⟨t - 1, by omega⟩
  have e1 : ((t + 1 : Nat) : Int) - 1 = (t : Int) := by omega
  have e2 : IntKind.i64.wrap (8 * (t : Int)) = 8 * (t : Int) := wrap_i64 (by omega) (by omega)
  have e5 : IntKind.u64.wrap (8 * (t : Int)) = 8 * (t : Int) := by rw [wrap_u64]; omega
  have e3 : V.bin .shr (.int .u64 (IntKind.u64.wrap n)) (.int .u64 (8 * (t : Int))) = some (.int .u64 ((n % 18446744073709551616).fdiv (2 ^ (8 * t)))) := by
   rw [wrap_u64, zsi (by omega) (by simp [IntKind.bits]; omega)]
   congr 4
  have e6 : byt ((n % 18446744073709551616).fdiv (2 ^ (8 * t))) = byt (n.fdiv (2 ^ (8 * t))) := byt_congr (fdiv_u64 n t (by omega))
  have e4 : IntKind.i64.wrap ((t : Int) - 1) = (t : Int) - 1 := wrap_i64 (by omega) (by omega)
  rw [e1]
  simp +contextual -dsimp [e2, e5, e3, zj1, e6]
  refine ho.push 0 rfl rfl (by omega) (by simp; omega) (by simp [maxLen]; omega) fun x' h' ho' _ => ?_
  simp +contextual -dsimp [e4]
  refine hY t _ _ (by omega) ⟨x', pre ++ [byt (n.fdiv (2 ^ (8 * t)))], by omega, rfl, ?_, ?_⟩
  ·rw [<- he, be, List.append_assoc]; rfl
  ·rw [List.map_append]; exact ho'
 ·have : t = 0 := by omega
  subst this
  rw [be, List.append_nil] at he
  subst he
  exact zk (hq _ _ ho)
def zce.Spec (C : CSem) (N : zN) : Prop := ∀ (x : AVal) (xs : List AVal) (L : List (List UInt8)) (R : List (List AVal)) (h : za) (Q : zQ), SlX h 1 x (xs.map fun y => [y]) R -> Pcs h xs L -> L.length <= 1000 -> L.flatten.length <= 100000000 ->
 (∀ x' h', Owns h h' [bOb false x' L.flatten] -> Q x' h') -> C (N 471) [x] h Q
theorem zce.spec (i : zce.Imp C N) : zce.Spec C N := by
 intro x xs L R h Q hx hp hl1 hl2 hq
 apply i
 have hxl := hp.len
 have lx := hx.zj
 rw [List.length_map, hxl] at lx
 refine ze.intro (fun t vs h2 => ∃ (k : Nat) (y : AVal), k + t = L.length /\ vs = [y, .int .i64 (k : Int)] /\ Owns h h2 [.sl 1 y ((L.take k).flatten.map bc) []]) L.length ?_ ⟨0, .nils, by omega, rfl, (Owns.start h).nils 1⟩
 rintro Y t vs h2 ⟨k, y, hk, rfl, o⟩ hY
 simp -dsimp only [zce.l2, zce.k1, lx, lssN, B.zf]
 refine B.zd (fun hc => ?_) (fun hc => ?_)
 ·rw [decide_eq_true_eq] at hc
  have hs := zpk hc
  have hle := zt2 L (k + 1)
  have hg : (xs.map fun y => [y])[k]? = some [xs[k]'(by omega)] := by rw [List.getElem?_map, List.getElem?_eq_getElem (by omega)]; rfl
  have hidx : V.idxS 1 x (.int .i64 (k : Int)) = some (elp 1 x k 0) := hx.idxN (by simp; omega)
  obtain ⟨R2, h2'⟩ := hp.get k _ _ (List.getElem?_eq_getElem (by omega)) (List.getElem?_eq_getElem hc)
  simp -dsimp only [hidx, (hx.mono o.le).cell hg, B.zg6, B.zf]
  refine o.appW 0 rfl (h2'.mono o.le) Nat.one_pos (by simp only [List.length_map]; omega) (by simp only [List.length_map, maxLen]; omega) fun x' h' o3 _ => ?_
  simp -dsimp only [add1 (show k < 4611686018427387904 by omega), B.zf]
  refine hY (t - 1) _ _ (by omega) ⟨k + 1, x', by omega, rfl, ?_⟩
  rw [List.take_add_one, List.getElem?_eq_getElem hc, Option.toList_some, List.flatten_append, List.flatten_singleton, List.map_append]
  exact o3
 ·rw [decide_eq_false_iff_not] at hc
  have hk : k = L.length := by omega
  subst hk
  rw [List.take_length] at o
  exact zk (hq _ _ o)
def zer.Spec (C : CSem) (N : zN) : Prop := ∀ (t : Itm) (a : AVal × AVal) (h : za) (Q : zQ), ze3.at_ h t a -> Q (.bool (zil t)) h -> C (N 472) [.agg (ze3.cells t a)] h Q
theorem zer.spec (i : zer.Imp C N) (s1 : zb4.Spec C N) (s2 : zd6.Spec C N) : zer.Spec C N := by
 intro t a h Q ha hq
 obtain ⟨⟨R1, a1⟩, ⟨R2, a2⟩, a3, a4⟩ : (∃ R, SlX h 2 a.1 (t.zek.map Part.cs) R) /\ (∃ R, SlX h 1 a.2 (t.zd0.map tc) R) /\ t.ok := ha
 unfold few at a3 a4
 have l1 := a1.zj
 rw [List.length_map] at l1
 have c1 := a1.zi
 have c2 := a2.zi
 rw [kept_eq] at hq
 apply i
 simp -dsimp [ze3]
 refine s1 _ _ _ ?_
 cases hr : zbm t.Code with
 | false =>
  rw [hr] at hq
  simp -dsimp
  exact zk hq
 | true =>
 rw [hr] at hq
 simp -dsimp [c2]
 refine s2.io _ _ _ _ _ _ a2 (by omega) ?_
 rw [hr]
 simp -dsimp [l1]
 cases hO : zjg t.zd0 t.Code with
 | false =>
  rw [hO] at hq
  simp -dsimp
  exact zk hq
 | true =>
 rw [hO] at hq
 simp -dsimp [l1]
 by_cases hp : t.zek = []
 ·rw [decide_eq_true hp] at hq
  simp +contextual -dsimp [hp]
  exact zk hq
 ·rw [decide_eq_false hp] at hq
  simp +contextual -dsimp [hp, c1]
  refine B.zeo (v := .bool (zbm t.Code && zmf t.zek)) (fun _ Q hq => s2.ip _ _ _ _ _ _ a1 (by omega) hq) ?_
  rw [hr]
  simp -dsimp
  refine zk ?_
  simpa using hq
def zbk.Spec (C : CSem) (N : zN) : Prop := ∀ (s : Sta) (x y z : AVal) (h : za) (Q : zQ), zk8 h s x y z -> Q (.bool (zg5 s)) h -> C (N 467) [.agg (zhq s x y z)] h Q
theorem ordB_bad {T : Type} {ok : T -> Bool} {lt : T -> T -> Bool} {l : List T} {k : Nat} {x : T} (hx : l[k]? = some x) (hb : (ok x && (decide (k = 0) || zjq lt x l[k - 1]?)) = false) : ordB ok lt none l = false := by
 have key : ∀ (b : List T) (a : List T) (p : Option T), ordB ok lt p a = false -> ordB ok lt p (a ++ b) = false := by
  intro b a
  induction a with
  | nil => intro p h; cases h
  | cons c a ih =>
   intro p h
   rw [ordB] at h
   rw [List.cons_append, ordB]
   cases h1 : (ok c && zjq lt c p) with
   | false => rfl
   | true =>
    rw [h1, Bool.true_and] at h
    rw [Bool.true_and]
    exact ih _ h
 have h1 := zkb (ok := ok) (lt := lt) hx
 rw [hb, Bool.and_false] at h1
 have := key (l.drop (k + 1)) _ _ h1
 rwa [List.take_append_drop] at this
theorem zbk.spec (i : zbk.Imp C N) (s1 : zer.Spec C N) (s2 : zd8.Spec C N) (s3 : zd7.Spec C N) : zbk.Spec C N := by
 intro s x y z h Q ha hq
 obtain ⟨hi, ⟨R1, hl⟩, ⟨R2, hn⟩, n1, n2, n3⟩ := ha
 have l1 := hi.zj
 have l2 := hl.zj
 have l3 := hn.zj
 rw [List.length_map] at l2 l3
 have hx := hi.zi
 have hy := hl.zi
 have hz := hn.zi
 have no : zg5 s = false -> dn Q (.bool false) h := fun e => by rw [e] at hq; exact zk hq
 have hnum : numsB s = !(((((decide (s.Now < 0) || decide (4000 < s.Now)) || decide (s.zg3 < 1)) || decide (4611686018427387904 < s.zg3)) || decide (s.zf3 < 1)) || decide (4611686018427387904 < s.zf3)) := by
  unfold numsB
  rw [Bool.eq_iff_iff]
  simp only [Bool.and_eq_true, decide_eq_true_eq, Bool.not_eq_true', Bool.or_eq_false_iff, decide_eq_false_iff_not]
  omega
 apply i
 simp +contextual -dsimp
 refine B.zd (fun hb => ?_) (fun hb => ?_)
 ·refine no ?_
  unfold zg5
  rw [hnum, hb]; rfl
 ·have hN : numsB s = true := by rw [hnum, hb]; rfl
  refine ze.intro (fun n vs hh => hh = h /\ ∃ k : Nat, k + n = s.zem.length /\ vs = [.int .i64 (k : Int)] /\ ordB zil (fun a b => zkf a.Code b.Code) none (s.zem.take k) = true) s.zem.length ?_ ⟨rfl, 0, by omega, rfl, rfl⟩
  rintro Y n vs hh ⟨rfl, k, hk, rfl, hord⟩ hY
  simp -dsimp only [zbk.l6, zbk.k5, B.zhp, V.zeh, List.getElem?_cons_succ, List.getElem?_cons_zero, l1, lssN, B.zf]
  refine B.zd (fun hc => ?_) (fun hc => ?_)
  ·rw [decide_eq_true_eq] at hc
   obtain ⟨w, hw⟩ := zc5 hc
   obtain ⟨a, ea⟩ := hi.get hw
   have e1 : V.idxS 4 x (.int .i64 (k : Int)) = some (elp 4 x k 0) := ea.idx
   have e2 : A.ldnv hh (elp 4 x k 0) 4 = some (.agg (ze3.cells w a)) := ea.ldn
   have e3 : V.fieldAddr 0 (elp 4 x k 0) = some (elp 4 x k 0) := ea.fld 0 0
   have e4 : A.ldv hh (elp 4 x k 0) = some (.str w.Code) := ea.ld 0 (by decide)
   have hk1 := add1 (show k < 4611686018427387904 by omega)
   have step := zkb (ok := zil) (lt := fun a b : Itm => zkf a.Code b.Code) hw
   have stop : (zil w && (decide (k = 0) || zjq (fun a b : Itm => zkf a.Code b.Code) w s.zem[k - 1]?)) = false -> dn Q (.bool false) hh := fun e => no (by
    have := ordB_bad (ok := zil) (lt := fun a b : Itm => zkf a.Code b.Code) hw e
    unfold zg5 zu1
    rw [this, Bool.false_and, Bool.and_false])
   have next : (zil w && (decide (k = 0) || zjq (fun a b : Itm => zkf a.Code b.Code) w s.zem[k - 1]?)) = true -> Y [.int .i64 ((k + 1 : Nat) : Int)] hh := fun e =>
    hY (n - 1) _ _ (by omega) ⟨rfl, k + 1, by omega, rfl, by rw [step, hord, e]; rfl⟩
   simp -dsimp only [B.zhp, V.zeh, List.getElem?_cons_succ, List.getElem?_cons_zero, e1, e2, B.zhn, B.zf]
   refine s1 w a hh _ ea.at_ ?_
   cases hkw : zil w with
   | false =>
    simp -dsimp
    exact stop (by rw [hkw]; rfl)
   | true =>
   by_cases h0 : k = 0
   ·subst h0
    simp -dsimp only [V.zo1, Bool.not_true, B.zf, B.gd_f, Bool.not_false, B.zhk]
    simp -dsimp [- V.zej]
    simp -dsimp only [add0, B.zf]
    exact next (by rw [hkw]; rfl)
   ·obtain ⟨u, hu⟩ := zc5 (L := s.zem) (k := k - 1) (by omega)
    obtain ⟨c, ec⟩ := hi.get hu
    have sk := sub1 (a := k) (by omega) (by omega)
    have f1 : V.idxS 4 x (.int .i64 ((k - 1 : Nat) : Int)) = some (elp 4 x (k - 1) 0) := ec.idx
    have f2 : V.fieldAddr 0 (elp 4 x (k - 1) 0) = some (elp 4 x (k - 1) 0) := ec.fld 0 0
    have f3 : A.ldv hh (elp 4 x (k - 1) 0) = some (.str u.Code) := ec.ld 0 (by decide)
    have hk0 : (0 : Int) < k := by omega
    have hk0' : 0 < k := by omega
    simp -dsimp [hk0, hk0', sk, f1, f2, f3, e1, e3, e4, V.bin_sgeq, - V.zej, - V.zi3]
    refine B.zd (fun hd => ?_) (fun hd => ?_)
    ·refine stop ?_
     rw [hkw, hu, decide_eq_false h0]
     simpa [zjq] using hd
    ·simp -dsimp only [hk1, B.zf]
     refine next ?_
     rw [hkw, hu, decide_eq_false h0]
     simpa [zjq] using hd
  ·rw [decide_eq_false_iff_not] at hc
   have : k = s.zem.length := by omega
   subst this
   rw [List.take_length] at hord
   refine ze.intro (fun n vs h2 => h2 = hh /\ ∃ k : Nat, k + n = s.Lots.length /\ vs = [.int .i64 (k : Int)] /\ ordB zfy (fun a b => decide (a.Id < b.Id)) none (s.Lots.take k) = true) s.Lots.length ?_ ⟨rfl, 0, by omega, rfl, rfl⟩
   rintro Y2 n vs h2 ⟨rfl, k, hk, rfl, hord2⟩ hY
   simp -dsimp only [zbk.l4, zbk.k3, B.zhp, V.zeh, List.getElem?_cons_succ, List.getElem?_cons_zero, l2, lssN, B.zf]
   refine B.zd (fun hc => ?_) (fun hc => ?_)
   ·rw [decide_eq_true_eq] at hc
    obtain ⟨w, hw⟩ := zc5 hc
    have hkl : k < (s.Lots.map Lot.cs).length := by simpa using hc
    have e1 : V.idxS 6 y (.int .i64 (k : Int)) = some (elp 6 y k 0) := hl.idxN hkl
    have e2 := hl.elem (get_map hw)
    have e3 : V.fieldAddr 0 (elp 6 y k 0) = some (elp 6 y k 0) := hl.zmk hkl 0 0
    have e4 : A.ldv h2 (elp 6 y k 0) = some (.int .i64 w.Id) := hl.ldv (get_map hw) (by omega)
    have hk1 := add1 (show k < 4611686018427387904 by omega)
    have step := zkb (ok := zfy) (lt := fun a b : Lot => decide (a.Id < b.Id)) hw
    have stop : (zfy w && (decide (k = 0) || zjq (fun a b : Lot => decide (a.Id < b.Id)) w s.Lots[k - 1]?)) = false -> dn Q (.bool false) h2 := fun e => no (by
     have := ordB_bad (ok := zfy) (lt := fun a b : Lot => decide (a.Id < b.Id)) hw e
     unfold zg5 lotsB
     rw [this, Bool.false_and, Bool.and_false, Bool.and_false])
    have next : (zfy w && (decide (k = 0) || zjq (fun a b : Lot => decide (a.Id < b.Id)) w s.Lots[k - 1]?)) = true -> Y2 [.int .i64 ((k + 1 : Nat) : Int)] h2 := fun e =>
     hY (n - 1) _ _ (by omega) ⟨rfl, k + 1, by omega, rfl, by rw [step, hord2, e]; rfl⟩
    simp -dsimp only [B.zhp, V.zeh, List.getElem?_cons_succ, List.getElem?_cons_zero, e1, e2, B.zhn, B.zf]
    refine s2 w h2 _ ?_
    cases hkw : zfy w with
    | false =>
     simp -dsimp
     exact stop (by rw [hkw]; rfl)
    | true =>
    by_cases h0 : k = 0
    ·subst h0
     simp -dsimp only [V.zo1, Bool.not_true, B.zf, B.gd_f, Bool.not_false, B.zhk]
     simp -dsimp [- V.zej]
     simp -dsimp only [add0, B.zf]
     exact next (by rw [hkw]; rfl)
    ·obtain ⟨u, hu⟩ := zc5 (L := s.Lots) (k := k - 1) (by omega)
     have sk := sub1 (a := k) (by omega) (by omega)
     have hku : k - 1 < (s.Lots.map Lot.cs).length := by simp; omega
     have f1 : V.idxS 6 y (.int .i64 ((k - 1 : Nat) : Int)) = some (elp 6 y (k - 1) 0) := hl.idxN hku
     have f2 : V.fieldAddr 0 (elp 6 y (k - 1) 0) = some (elp 6 y (k - 1) 0) := hl.zmk hku 0 0
     have f3 : A.ldv h2 (elp 6 y (k - 1) 0) = some (.int .i64 u.Id) := hl.ldv (get_map hu) (by omega)
     have hk0 : (0 : Int) < k := by omega
     have hk0' : 0 < k := by omega
     simp -dsimp [hk0, hk0', sk, f1, f2, f3, e1, e3, e4, - V.zej, - V.zi3]
     refine B.zd (fun hd => ?_) (fun hd => ?_)
     ·refine stop ?_
      rw [hkw, hu, decide_eq_false h0]
      simpa [zjq] using hd
     ·simp -dsimp only [hk1, B.zf]
      refine next ?_
      rw [hkw, hu, decide_eq_false h0]
      simpa [zjq] using hd
   ·rw [decide_eq_false_iff_not] at hc
    have : k = s.Lots.length := by omega
    subst this
    rw [List.take_length] at hord2
    refine ze.intro (fun n vs h3 => h3 = h2 /\ ∃ k : Nat, k + n = s.zel.length /\ vs = [.int .i64 (k : Int)] /\ ordB zev (fun a b => decide (a.Id < b.Id)) none (s.zel.take k) = true) s.zel.length ?_ ⟨rfl, 0, by omega, rfl, rfl⟩
    rintro Y3 n vs h3 ⟨rfl, k, hk, rfl, hord3⟩ hY
    simp -dsimp only [zbk.l2, zbk.k1, B.zhp, V.zeh, List.getElem?_cons_succ, List.getElem?_cons_zero, l3, lssN, B.zf]
    refine B.zd (fun hc => ?_) (fun hc => ?_)
    ·rw [decide_eq_true_eq] at hc
     obtain ⟨w, hw⟩ := zc5 hc
     have hkl : k < (s.zel.map Line.cs).length := by simpa using hc
     have e1 : V.idxS 8 z (.int .i64 (k : Int)) = some (elp 8 z k 0) := hn.idxN hkl
     have e2 := hn.elem (get_map hw)
     have e3 : V.fieldAddr 0 (elp 8 z k 0) = some (elp 8 z k 0) := hn.zmk hkl 0 0
     have e4 : A.ldv h3 (elp 8 z k 0) = some (.int .i64 w.Id) := hn.ldv (get_map hw) (by omega)
     have hk1 := add1 (show k < 4611686018427387904 by omega)
     have step := zkb (ok := zev) (lt := fun a b : Line => decide (a.Id < b.Id)) hw
     have stop : (zev w && (decide (k = 0) || zjq (fun a b : Line => decide (a.Id < b.Id)) w s.zel[k - 1]?)) = false -> dn Q (.bool false) h3 := fun e => no (by
      have := ordB_bad (ok := zev) (lt := fun a b : Line => decide (a.Id < b.Id)) hw e
      unfold zg5 linesB
      rw [this, Bool.and_false, Bool.and_false, Bool.and_false])
     have next : (zev w && (decide (k = 0) || zjq (fun a b : Line => decide (a.Id < b.Id)) w s.zel[k - 1]?)) = true -> Y3 [.int .i64 ((k + 1 : Nat) : Int)] h3 := fun e =>
      hY (n - 1) _ _ (by omega) ⟨rfl, k + 1, by omega, rfl, by rw [step, hord3, e]; rfl⟩
     simp -dsimp only [B.zhp, V.zeh, List.getElem?_cons_succ, List.getElem?_cons_zero, e1, e2, B.zhn, B.zf]
     refine s3 w h3 _ ?_
     cases hkw : zev w with
     | false =>
      simp -dsimp
      exact stop (by rw [hkw]; rfl)
     | true =>
     by_cases h0 : k = 0
     ·subst h0
      simp -dsimp only [V.zo1, Bool.not_true, B.zf, B.gd_f, Bool.not_false, B.zhk]
      simp -dsimp [- V.zej]
      simp -dsimp only [add0, B.zf]
      exact next (by rw [hkw]; rfl)
     ·obtain ⟨u, hu⟩ := zc5 (L := s.zel) (k := k - 1) (by omega)
      have sk := sub1 (a := k) (by omega) (by omega)
      have hku : k - 1 < (s.zel.map Line.cs).length := by simp; omega
      have f1 : V.idxS 8 z (.int .i64 ((k - 1 : Nat) : Int)) = some (elp 8 z (k - 1) 0) := hn.idxN hku
      have f2 : V.fieldAddr 0 (elp 8 z (k - 1) 0) = some (elp 8 z (k - 1) 0) := hn.zmk hku 0 0
      have f3 : A.ldv h3 (elp 8 z (k - 1) 0) = some (.int .i64 u.Id) := hn.ldv (get_map hu) (by omega)
      have hk0 : (0 : Int) < k := by omega
      have hk0' : 0 < k := by omega
      simp -dsimp [hk0, hk0', sk, f1, f2, f3, e1, e3, e4, - V.zej, - V.zi3]
      refine B.zd (fun hd => ?_) (fun hd => ?_)
      ·refine stop ?_
       rw [hkw, hu, decide_eq_false h0]
       simpa [zjq] using hd
      ·simp -dsimp only [hk1, B.zf]
       refine next ?_
       rw [hkw, hu, decide_eq_false h0]
       simpa [zjq] using hd
    ·rw [decide_eq_false_iff_not] at hc
     have : k = s.zel.length := by omega
     subst this
     rw [List.take_length] at hord3
     have e : zg5 s = true := by
      unfold zg5 zu1 lotsB linesB
      rw [hN, hord, hord2, hord3]; rfl
     rw [e] at hq
     exact zk hq
end Go.Ab
namespace Go.Ab
variable {C : CSem} {N : zN}
theorem zte (s : zb6.Spec C N) {n : Int} {k : Nat} (hk : k <= 8) {h : za} (Q : zQ) (hq : ∀ x' h', Owns h h' [.sl 1 x' ((be n k).map bc) []] -> Q x' h') : C (N 466) [.int .i64 n, .int .i64 (k : Int)] h Q := s n k h Q hk hq
def zbh.Spec (C : CSem) (N : zN) : Prop := ∀ (t : Itm) (a : AVal × AVal) (h : za) (Q : zQ), ze3.at_ h t a -> zil t = true -> (∀ b h', Owns h h' (rowK.obs false (zk6 t) b) -> Q (.agg (rowK.cells (zk6 t) b)) h') -> C (N 465) [.agg (ze3.cells t a)] h Q
theorem zbh.spec (i : zbh.Imp C N) (s1 : zb6.Spec C N) (s2 : zey.Spec C N) : zbh.Spec C N := by
 intro w a h Q ha hkp hq
 obtain ⟨f1, f2, f3, f4, f5⟩ := zsb hkp
 obtain ⟨⟨Ra, ha1⟩, ⟨Rb, ha2⟩, _⟩ : (∃ R, SlX h 2 a.1 (w.zek.map Part.cs) R) /\ (∃ R, SlX h 1 a.2 (w.zd0.map tc) R) /\ w.ok := ha
 have l1 := ha1.zj
 have l2 := ha2.zj
 rw [List.length_map] at l1 l2
 have u1 : IntKind.u8.wrap (w.zek.length : Int) = ((byt w.zek.length).toNat : Int) := zj1 _
 have u2 : IntKind.u8.wrap (w.zd0.length : Int) = ((byt w.zd0.length).toNat : Int) := zj1 _
 have g1 := fun j => zg2 (f := fun p : Part => zdr p.Item ++ be p.Qty 4) (m := 17) (fun p => by have := zdq p.Item; simp; omega) (w.zek.take j)
 have g2 := fun j => zg2 (f := zdr) (m := 13) zdq (w.zd0.take j)
 apply i
 simp -dsimp [ze3, l1, u1]
 refine zte s1 (k := 2) (by omega) _ fun v8 h1 o1 => ?_
 simp -dsimp
 refine byteLit o1 (by simp) fun v14 h2 o2 => ?_
 refine ze.intro (fun t vs hh => ∃ (j : Nat) (v : AVal), j + t = w.zek.length /\ vs = [v, .int .i64 (j : Int)] /\ Owns h hh [.sl 1 v (((be w.Life 2 ++ [byt w.zek.length]) ++ (w.zek.take j).flatMap fun p => zdr p.Item ++ be p.Qty 4).map bc) []]) w.zek.length ?_ ⟨0, v14, by omega, rfl, by simpa using o2⟩
 rintro Y t vs h3 ⟨j, v, hj, rfl, o3⟩ hY
 simp -dsimp only [zbh.l6, zbh.k5, B.zhp, V.zeh, List.getElem?_cons_succ, List.getElem?_cons_zero, l1, lssN, B.zf]
 have b1 := g1 j
 rw [List.length_take] at b1
 refine B.zd (fun hc => ?_) (fun hc => ?_)
 ·rw [decide_eq_true_eq] at hc
  obtain ⟨q, hqj⟩ := zc5 hc
  have hjl : j < (w.zek.map Part.cs).length := by simpa using hc
  have e1 : V.idxS 2 a.1 (.int .i64 (j : Int)) = some (elp 2 a.1 j 0) := ha1.idxN hjl
  have e2 : V.fieldAddr 0 (elp 2 a.1 j 0) = some (elp 2 a.1 j 0) := ha1.zmk hjl 0 0
  have e3 : V.fieldAddr 1 (elp 2 a.1 j 0) = some (elp 2 a.1 j 1) := ha1.zmk hjl 0 1
  have e4 : A.ldv h3 (elp 2 a.1 j 0) = some (.str q.Item) := (ha1.mono o3.le).ldv (get_map hqj) (by omega)
  simp -dsimp only [B.zhp, V.zeh, List.getElem?_cons_succ, List.getElem?_cons_zero, e1, e2, e4, B.zg6, B.zf]
  have hcl := zdq q.Item
  refine zrp (fun Q hq => s2 q.Item h3 Q hq) o3 (by simp only [List.length_append, zhi, List.length_cons, List.length_nil]; omega) fun v30 h4 o4 => ?_
  have e5 : A.ldv h4 (elp 2 a.1 j 1) = some (.int .i64 q.Qty) := (ha1.mono o4.le).ldv (get_map hqj) (by omega)
  simp -dsimp only [B.zhp, V.zeh, List.getElem?_cons_succ, List.getElem?_cons_zero, e1, e3, e5, B.zg6, B.zf]
  refine zrp (fun Q hq => zte s1 (k := 4) (by omega) Q hq) o4 (by simp only [List.length_append, zhi, List.length_cons, List.length_nil]; omega) fun v39 h5 o5 => ?_
  simp -dsimp only [add1 (show j < 4611686018427387904 by omega), B.zf]
  refine hY (t - 1) _ _ (by omega) ⟨j + 1, v39, by omega, rfl, ?_⟩
  rw [take_succ hqj, List.flatMap_append]
  simpa using o5
 ·rw [decide_eq_false_iff_not] at hc
  have : j = w.zek.length := by omega
  subst this
  rw [List.take_length] at o3
  simp -dsimp [l2, u2]
  refine byteLit o3 (by simp only [List.length_append, zhi, List.length_cons, List.length_nil]; rw [List.take_length] at b1; omega) fun v46 h4 o4 => ?_
  generalize hD : (((be w.Life 2 ++ [byt w.zek.length]) ++ w.zek.flatMap fun p => zdr p.Item ++ be p.Qty 4) ++ [byt w.zd0.length]) = D at *
  have hDl : D.length <= 200 := by
   rw [List.take_length] at b1
   rw [<- hD]
   simp only [List.length_append, zhi, List.length_cons, List.length_nil]
   omega
  refine ze.intro (fun t vs hh => ∃ (j : Nat) (v : AVal), j + t = w.zd0.length /\ vs = [v, .int .i64 (j : Int)] /\ Owns h hh [.sl 1 v ((D ++ (w.zd0.take j).flatMap zdr).map bc) []]) w.zd0.length ?_ ⟨0, v46, by omega, rfl, by simpa using o4⟩
  rintro Z t2 vs h5 ⟨j, v, hj2, rfl, o5⟩ hZ
  simp -dsimp only [zbh.l3, zbh.k2, B.zhp, V.zeh, List.getElem?_cons_succ, List.getElem?_cons_zero, l2, lssN, B.zf]
  have b2 := g2 j
  rw [List.length_take] at b2
  refine B.zd (fun hd => ?_) (fun hd => ?_)
  ·rw [decide_eq_true_eq] at hd
   obtain ⟨q, hqj⟩ := zc5 hd
   have hjl : j < (w.zd0.map tc).length := by simpa using hd
   have e1 : V.idxS 1 a.2 (.int .i64 (j : Int)) = some (elp 1 a.2 j 0) := ha2.idxN hjl
   have e4 : A.ldv h5 (elp 1 a.2 j 0) = some (.str q) := (ha2.mono o5.le).cell (get_map hqj)
   simp -dsimp only [B.zhp, V.zeh, List.getElem?_cons_succ, List.getElem?_cons_zero, e1, e4, B.zg6, B.zf]
   have hcl := zdq q
   refine zrp (fun Q hq => s2 q h5 Q hq) o5 (by simp only [List.length_append]; omega) fun v6 h6 o6 => ?_
   simp -dsimp only [add1 (show j < 4611686018427387904 by omega), B.zf]
   refine hZ (t2 - 1) _ _ (by omega) ⟨j + 1, v6, by omega, rfl, ?_⟩
   rw [take_succ hqj, List.flatMap_append]
   simpa using o6
  ·rw [decide_eq_false_iff_not] at hd
   have : j = w.zd0.length := by omega
   subst this
   rw [List.take_length] at o5
   have ev : D ++ w.zd0.flatMap zdr = zl6 w := by rw [<- hD]; unfold zl6; simp
   rw [ev] at o5
   have fc : (105 :: w.Code).length <= far := by
    have := zl8 f4
    unfold far; simp; omega
   have es : V.bin .add (.str [105]) (.str w.Code) = some (.str (105 :: w.Code)) := V.bin_sadd [105] w.Code (by unfold far at fc; simp at fc ⊢; omega)
   have cv := (o5.slAt 0 rfl).zi
   simp -dsimp [es]
   refine zso (s := 105 :: w.Code) fc fun key h6 o6 => ?_
   have ck : key.zi = true := (o6.slAt 0 rfl : SlX h6 1 key ((105 :: w.Code).map bc) []).zi
   simp -dsimp [ck, cv]
   exact zk (hq (key, v) h6 ((o5.join o6).perm (List.Perm.swap ..)))
theorem keyNum (s1 : zb6.Spec C N) {hb h : za} {c : UInt8} {n : Int} {l : List Ob} {K : zQ} (ho : Owns hb h l) (hK : ∀ k h', Owns hb h' (l ++ [bOb false k (c :: be n 8)]) -> K k h') :
  B.newO h (some [.int .u8 (c.toNat : Int)]) fun i h => B.conv h (.sl i 0 0 1 1 1) fun v => B.call C (N 466) [.int .i64 n, .int .i64 8] h fun v29 h => B.appW h 1 1 v v29 K := by
 refine zf2 1 (s := [c]) rfl rfl fun i h2 o2 => ?_
 refine zju o2 (by simp) ?_
 generalize AVal.sl i 0 0 1 1 1 = v at *
 refine zte s1 (k := 8) (by omega) _ fun x' h3 o3 => ?_
 have hmid : ((l ++ [.sl 1 v ([c].map bc) []]) ++ [.sl 1 x' ((be n 8).map bc) []])[l.length]? = some (.sl 1 v ([c].map bc) []) := by
  rw [List.getElem?_append_left (by simp)]; exact ziv
 refine ((ho.join o2).join o3).appW l.length hmid (o3.slAt 0 rfl) (by omega) (by simp) (by simp [maxLen]) fun k h4 o4 _ => hK k h4 ?_
 rw [List.set_append_left _ _ (by simp), zs0, <- List.map_append] at o4
 exact o4.sub (List.sublist_append_left _ _)
def zb9.Spec (C : CSem) (N : zN) : Prop := ∀ (w : Lot) (h : za) (Q : zQ), (∀ b h', Owns h h' (rowK.obs false (zlk w) b) -> Q (.agg (rowK.cells (zlk w) b)) h') -> C (N 464) [.agg w.cs] h Q
theorem zb9.spec (i : zb9.Imp C N) (s1 : zb6.Spec C N) (s2 : zey.Spec C N) (s3 : zce.Spec C N) : zb9.Spec C N := by
 intro w h Q hq
 apply i
 have tail : zb9.k1 C N (dn Q) (.int .u8 ((bif w.zkn then (1 : UInt8) else 0).toNat : Int)) (.agg w.cs) (.agg [.nils, .nils]) h := by
  simp -dsimp
  refine s2 w.Item _ _ fun a5 h1 o1 => ?_
  obtain ⟨b1, m1, ho1, p1⟩ := zdt (xs := []) (L := []) (Owns.start h) trivial o1
  refine zte s1 (k := 2) (by omega) _ fun a6 h2 o2 => ?_
  obtain ⟨b2, m2, ho2, p2⟩ := zdt ho1 p1 o2
  refine zte s1 (k := 2) (by omega) _ fun a7 h3 o3 => ?_
  obtain ⟨b3, m3, ho3, p3⟩ := zdt ho2 p2 o3
  refine zte s1 (k := 4) (by omega) _ fun a8 h4 o4 => ?_
  obtain ⟨b4, m4, ho4, p4⟩ := zdt ho3 p3 o4
  simp -dsimp
  refine zf2 1 (s := [bif w.zkn then 1 else 0]) rfl rfl fun i22 h5 o5 => ?_
  obtain ⟨b5, m5, ho5, p5⟩ := zdt ho4 p4 o5
  generalize AVal.sl i22 0 0 1 1 1 = a9 at *
  have c5 := (p5.get 0 a5 _ rfl rfl).elim fun _ r => r.zi
  have c6 := (p5.get 1 a6 _ rfl rfl).elim fun _ r => r.zi
  have c7 := (p5.get 2 a7 _ rfl rfl).elim fun _ r => r.zi
  have c8 := (p5.get 3 a8 _ rfl rfl).elim fun _ r => r.zi
  have c9 := (p5.get 4 a9 _ rfl rfl).elim fun _ r => r.zi
  simp -dsimp [c5, c6, c7, c8, c9]
  refine zrb 5 ho5 rfl (ys := [a5, a6, a7, a8, a9]) fun i23 h6 hle6 o6 => ?_
  generalize AVal.sl i23 0 0 5 1 5 = a10 at *
  refine s3 a10 [a5, a6, a7, a8, a9] [zdr w.Item, be w.From 2, be w.zrq 2, be w.Qty 4, [bif w.zkn then 1 else 0]] [] h6 _ (o6.is (.sl 1 a10 ([a5, a6, a7, a8, a9].map fun y => [y]) []) (by simp)) (p5.mono (za.le_trans ho5.le hle6)) (by simp) (by have h1 := zdq w.Item; simp; omega) fun val h7 o7 => ?_
  have cval : val.zi = true := (o7.slAt 0 rfl : SlX h7 1 val _ []).zi
  have ev : ([zdr w.Item, be w.From 2, be w.zrq 2, be w.Qty 4, [bif w.zkn then 1 else 0]] : List (List UInt8)).flatten = (zlk w).Value := by simp [zlk, lotVal]
  rw [ev] at o7
  simp -dsimp
  refine keyNum s1 (c := 108) o7 fun key h8 o8 => ?_
  have ck : key.zi = true := (o8.slAt 1 rfl : SlX h8 1 key _ []).zi
  simp -dsimp [ck, cval]
  have hle : h.le h6 := za.le_trans m1 (za.le_trans m2 (za.le_trans m3 (za.le_trans m4 (za.le_trans m5 o6.le))))
  exact zk (hq (key, val) h8 ((o8.back hle).perm (List.Perm.swap ..)))
 simp -dsimp only [zb9.cps, zb9.k2]
 simp -dsimp [- zb9.k1]
 refine B.zd (fun hb => ?_) (fun hb => ?_)
 ·rw [hb] at tail; simpa [- zb9.k1, hb] using tail
 ·rw [hb] at tail; simpa [- zb9.k1, hb] using tail
def zdh.Spec (C : CSem) (N : zN) : Prop := ∀ (w : Line) (h : za) (Q : zQ), (∀ b h', Owns h h' (rowK.obs false (zi1 w) b) -> Q (.agg (rowK.cells (zi1 w) b)) h') -> C (N 463) [.agg w.cs] h Q
theorem zdh.spec (i : zdh.Imp C N) (s1 : zb6.Spec C N) (s2 : zey.Spec C N) (s3 : zce.Spec C N) : zdh.Spec C N := by
 intro w h Q hq
 apply i
 have e3 : IntKind.u8.wrap w.Rank = ((byt w.Rank).toNat : Int) := zj1 _
 simp -dsimp [e3]
 refine s2 w.Item _ _ fun a5 h1 o1 => ?_
 obtain ⟨b1, m1, ho1, p1⟩ := zdt (xs := []) (L := []) (Owns.start h) trivial o1
 refine zte s1 (k := 4) (by omega) _ fun a6 h2 o2 => ?_
 obtain ⟨b2, m2, ho2, p2⟩ := zdt ho1 p1 o2
 refine zte s1 (k := 2) (by omega) _ fun a7 h3 o3 => ?_
 obtain ⟨b3, m3, ho3, p3⟩ := zdt ho2 p2 o3
 refine zte s1 (k := 2) (by omega) _ fun a8 h4 o4 => ?_
 obtain ⟨b4, m4, ho4, p4⟩ := zdt ho3 p3 o4
 refine s2 w.Code _ _ fun a9 h5 o5 => ?_
 obtain ⟨b5, m5, ho5, p5⟩ := zdt ho4 p4 o5
 simp -dsimp
 refine zf2 2 (s := [byt w.Rank, w.State]) rfl rfl fun i18 h6 o6 => ?_
 obtain ⟨b6, m6, ho6, p6⟩ := zdt ho5 p5 o6
 generalize AVal.sl i18 0 0 2 1 2 = a10 at *
 have c5 := (p6.get 0 a5 _ rfl rfl).elim fun _ r => r.zi
 have c6 := (p6.get 1 a6 _ rfl rfl).elim fun _ r => r.zi
 have c7 := (p6.get 2 a7 _ rfl rfl).elim fun _ r => r.zi
 have c8 := (p6.get 3 a8 _ rfl rfl).elim fun _ r => r.zi
 have c9 := (p6.get 4 a9 _ rfl rfl).elim fun _ r => r.zi
 have c10 := (p6.get 5 a10 _ rfl rfl).elim fun _ r => r.zi
 simp -dsimp [c5, c6, c7, c8, c9, c10]
 refine zrb 6 ho6 rfl (ys := [a5, a6, a7, a10, a8, a9]) fun i26 h7 hle7 o7 => ?_
 generalize AVal.sl i26 0 0 6 1 6 = a11 at *
 have p7 := p6.mono (za.le_trans ho6.le hle7)
 refine s3 a11 [a5, a6, a7, a10, a8, a9] [zdr w.Item, be w.Qty 4, be w.zvr 2, [byt w.Rank, w.State], be (IntKind.i64.wrap (w.Day + 1)) 2, zdr w.Code] [] h7 _ (o7.is (.sl 1 a11 ([a5, a6, a7, a10, a8, a9].map fun y => [y]) []) (by simp)) ⟨p7.1, p7.2.1, p7.2.2.1, p7.2.2.2.2.2.1, p7.2.2.2.1, p7.2.2.2.2.1, trivial⟩ (by simp) (by have h1 := zdq w.Item; have h2 := zdq w.Code; simp; omega) fun val h8 o8 => ?_
 have cval : val.zi = true := (o8.slAt 0 rfl : SlX h8 1 val _ []).zi
 have e : be (IntKind.i64.wrap (w.Day + 1)) 2 = be (w.Day + 1) 2 := be_congr (by rw [IntKind.wrap_i64]; omega) 2 (by omega)
 have ev : ([zdr w.Item, be w.Qty 4, be w.zvr 2, [byt w.Rank, w.State], be (IntKind.i64.wrap (w.Day + 1)) 2, zdr w.Code] : List (List UInt8)).flatten = (zi1 w).Value := by rw [e]; simp [zi1, lineVal]
 rw [ev] at o8
 simp -dsimp
 refine keyNum s1 (c := 111) o8 fun key h9 o9 => ?_
 have ck : key.zi = true := (o9.slAt 1 rfl : SlX h9 1 key _ []).zi
 simp -dsimp [ck, cval]
 have hle : h.le h7 := za.le_trans m1 (za.le_trans m2 (za.le_trans m3 (za.le_trans m4 (za.le_trans m5 (za.le_trans m6 o7.le)))))
 exact zk (hq (key, val) h9 ((o9.back hle).perm (List.Perm.swap ..)))
end Go.Ab
namespace Go.Ab
variable {C : CSem} {N : zN}
theorem perm7 {α : Type} [Inhabited α] (a b c d e f g : α) : [a, b, c, d, e, f, g].Perm [g, d, a, e, b, f, c] :=
 List.Perm.map (fun i => [a, b, c, d, e, f, g].getD i default) (by decide : [0, 1, 2, 3, 4, 5, 6].Perm [6, 3, 0, 4, 1, 5, 2])
instance : Inhabited Ob := ⟨.box .nils []⟩
theorem rowPush {h0 h h2 : za} {v : AVal} {P : List (Row × (AVal × AVal))} {r : Row} {b : AVal × AVal} {K : zQ} (ho : Df rowK h0 h v P) (o : Owns h h2 (rowK.obs false r b)) (hl : P.length <= 1000000) (hK : ∀ v' h', Df rowK h0 h' v' (P ++ [(r, b)]) -> K v' h') :
  B.newO h2 (zcr [(0, some 2, .agg (rowK.cells r b))] (repL 1 [.nils, .nils])) fun i h => B.appW h 2 48 v (.sl i 0 0 1 2 1) K := by
 have hf : zcr [(0, some 2, .agg (rowK.cells r b))] (repL 1 [.nils, .nils]) = some (rowK.cells r b) := zn7 rowK r b
 rw [hf]
 refine (Owns.join ho o).push 0 rfl (rowK.len r b) (by decide) (by simp; omega) (by simp [maxLen]; omega) fun v' h5 o5 _ => ?_
 refine hK v' h5 ?_
 unfold Df
 rw [DK.zka, DK.zur, List.map_append]
 simp only [List.cons_append, List.set_cons_zero] at o5
 exact o5
def zbw.Spec (C : CSem) (N : zN) : Prop := ∀ (s : Sta) (x y z : AVal) (h : za) (Q : zQ), zk8 h s x y z -> s.zem.length + s.Lots.length + s.zel.length <= 100000 ->
 (∀ x' P h', P.map (·.1) = allRows s -> Df rowK h h' x' P -> Q x' h') -> C (N 449) [.agg (zhq s x y z)] h Q
theorem zbw.spec (i : zbw.Imp C N) (s0 : zbk.Spec C N) (s1 : zb6.Spec C N) (s2 : zbh.Spec C N) (s3 : zb9.Spec C N) (s4 : zdh.Spec C N) : zbw.Spec C N := by
 intro s x y z h Q ha hlen hq
 have hx := ha.items.zi
 have hy : y.zi = true := ha.lots.elim fun _ r => r.zi
 have hz : z.zi = true := ha.lines.elim fun _ r => r.zi
 have l1 := ha.items.zj
 have l2 : V.zj y = some (.int .i64 (s.Lots.length : Int)) := ha.lots.elim fun _ r => by have := r.zj; rwa [List.length_map] at this
 have l3 : V.zj z = some (.int .i64 (s.zel.length : Int)) := ha.lines.elim fun _ r => by have := r.zj; rwa [List.length_map] at this
 apply i
 simp -dsimp
 refine s0 s x y z h _ ha ?_
 simp -dsimp
 refine B.zd (fun hb => ?_) (fun hb => ?_)
 ·have hb : zg5 s = false := by simpa using hb
  refine zk (hq .nils [] h (by unfold allRows; rw [hb]; rfl) (by simpa [Df, DK.os] using (Owns.start h).nils rowK.n))
 ·have hb : zg5 s = true := by simpa using hb
  have hpl := plain_iff.1 hb
  have hk : ∀ t ∈ s.zem, zil t = true := ztp (ok := zil) hpl.items
  simp -dsimp
  refine zte s1 (k := 2) (by omega) _ fun n1 h1 o1 => ?_
  refine zte s1 (k := 8) (by omega) _ fun n2 h2 o2 => ?_
  refine zte s1 (k := 8) (by omega) _ fun n3 h3 o3 => ?_
  have o123 := (o1.join o2).join o3
  simp -dsimp
  refine zf2 4 (s := [42, 100, 97, 121]) rfl rfl fun i10 h4 o4 => ?_
  refine zju o4 (by simp) ?_
  generalize AVal.sl i10 0 0 4 1 4 = k1 at *
  have c1 := (o4.slAt 0 rfl).zi
  have d1 := (o1.slAt 0 rfl).zi
  simp -dsimp [c1, d1]
  refine zf2 5 (s := [42, 108, 105, 110, 101]) rfl rfl fun i16 h5 o5 => ?_
  refine zju o5 (by simp) ?_
  generalize AVal.sl i16 0 0 5 1 5 = k2 at *
  have c2 := (o5.slAt 0 rfl).zi
  have d2 := (o2.slAt 0 rfl).zi
  simp -dsimp [c2, d2]
  refine zf2 4 (s := [42, 108, 111, 116]) rfl rfl fun i22 h6 o6 => ?_
  refine zju o6 (by simp) ?_
  generalize AVal.sl i22 0 0 4 1 4 = k3 at *
  have c3 := (o6.slAt 0 rfl).zi
  have d3 := (o3.slAt 0 rfl).zi
  simp -dsimp [c3, d3]
  intro i28 h28
  have o7 := (((o123.join o4).join o5).join o6).zmz h28 (n := 3) (cp := 3) (es := 2) (cs := [k1, n1, k2, n2, k3, n3]) (L := [[k1, n1], [k2, n2], [k3, n3]]) (R := []) (by simp) rfl (by simp) rfl
  generalize upd h6 i28 (zee [k1, n1, k2, n2, k3, n3]) = h7 at *
  generalize AVal.sl i28 0 0 3 2 3 = v0 at *
  have o8 : Df rowK h h7 v0 [(⟨[42, 100, 97, 121], be s.Now 2⟩, (k1, n1)), (⟨[42, 108, 105, 110, 101], be s.zf3 8⟩, (k2, n2)), (⟨[42, 108, 111, 116], be s.zg3 8⟩, (k3, n3))] := o7.perm (perm7 ..)
  obtain ⟨hi, ⟨R2, hl⟩, ⟨R3, hn⟩, q1, q2, q3⟩ := ha
  refine ze.intro (fun t vs hh => ∃ (k : Nat) (v : AVal) (P : List (Row × (AVal × AVal))), k + t = s.zem.length /\ vs = [v, .int .i64 (k : Int)] /\ P.map (·.1) = zhx s ++ (s.zem.take k).map zk6 /\ Df rowK h hh v P) s.zem.length ?_ ⟨0, v0, _, by omega, rfl, by simp [zhx], o8⟩
  rintro Y t vs hh ⟨k, v, P, hkt, rfl, eP, o⟩ hY
  have hPl := congrArg List.length eP
  simp only [List.length_map, List.length_append, List.length_take, zhx, List.length_cons, List.length_nil] at hPl
  simp -dsimp only [zbw.l6, zbw.k5, B.zhp, V.zeh, List.getElem?_cons_succ, List.getElem?_cons_zero, l1, lssN, B.zf]
  refine B.zd (fun hc => ?_) (fun hc => ?_)
  ·rw [decide_eq_true_eq] at hc
   obtain ⟨w, hw⟩ := zc5 hc
   obtain ⟨a, ea⟩ := (hi.mono o.le).get hw
   have e1 : V.idxS 4 x (.int .i64 (k : Int)) = some (elp 4 x k 0) := ea.idx
   have e2 : A.ldnv hh (elp 4 x k 0) 4 = some (.agg (ze3.cells w a)) := ea.ldn
   simp -dsimp only [B.zhp, V.zeh, List.getElem?_cons_succ, List.getElem?_cons_zero, e1, e2, B.zhn, B.zf]
   refine s2 w a hh _ ea.at_ (hk w (List.mem_of_getElem? hw)) fun b h9 o9 => ?_
   refine rowPush o o9 (by omega) fun v' h10 o10 => ?_
   simp -dsimp only [add1 (show k < 4611686018427387904 by omega), B.zf]
   refine hY (t - 1) _ _ (by omega) ⟨k + 1, v', _, by omega, rfl, ?_, o10⟩
   rw [List.map_append, eP, take_succ hw, List.map_append, List.append_assoc]; rfl
  ·rw [decide_eq_false_iff_not] at hc
   have : k = s.zem.length := by omega
   subst this
   rw [List.take_length] at eP
   refine ze.intro (fun t vs hh => ∃ (k : Nat) (v : AVal) (P : List (Row × (AVal × AVal))), k + t = s.Lots.length /\ vs = [v, .int .i64 (k : Int)] /\ P.map (·.1) = (zhx s ++ s.zem.map zk6) ++ (s.Lots.take k).map zlk /\ Df rowK h hh v P) s.Lots.length ?_ ⟨0, v, P, by omega, rfl, by simpa using eP, o⟩
   rintro Y2 t vs hh ⟨k, v, P, hkt, rfl, eP, o⟩ hY
   have hPl := congrArg List.length eP
   simp only [List.length_map, List.length_append, List.length_take, zhx, List.length_cons, List.length_nil] at hPl
   simp -dsimp only [zbw.l4, zbw.k3, B.zhp, V.zeh, List.getElem?_cons_succ, List.getElem?_cons_zero, l2, lssN, B.zf]
   refine B.zd (fun hc => ?_) (fun hc => ?_)
   ·rw [decide_eq_true_eq] at hc
    obtain ⟨w, hw⟩ := zc5 hc
    have hkl : k < (s.Lots.map Lot.cs).length := by simpa using hc
    have e1 : V.idxS 6 y (.int .i64 (k : Int)) = some (elp 6 y k 0) := hl.idxN hkl
    have e2 := (hl.mono o.le).elem (get_map hw)
    simp -dsimp only [B.zhp, V.zeh, List.getElem?_cons_succ, List.getElem?_cons_zero, e1, e2, B.zhn, B.zf]
    refine s3 w hh _ fun b h9 o9 => ?_
    refine rowPush o o9 (by omega) fun v' h10 o10 => ?_
    simp -dsimp only [add1 (show k < 4611686018427387904 by omega), B.zf]
    refine hY (t - 1) _ _ (by omega) ⟨k + 1, v', _, by omega, rfl, ?_, o10⟩
    rw [List.map_append, eP, take_succ hw, List.map_append, <- List.append_assoc]; rfl
   ·rw [decide_eq_false_iff_not] at hc
    have : k = s.Lots.length := by omega
    subst this
    rw [List.take_length] at eP
    refine ze.intro (fun t vs hh => ∃ (k : Nat) (v : AVal) (P : List (Row × (AVal × AVal))), k + t = s.zel.length /\ vs = [v, .int .i64 (k : Int)] /\ P.map (·.1) = ((zhx s ++ s.zem.map zk6) ++ s.Lots.map zlk) ++ (s.zel.take k).map zi1 /\ Df rowK h hh v P) s.zel.length ?_ ⟨0, v, P, by omega, rfl, by simpa using eP, o⟩
    rintro Y3 t vs hh ⟨k, v, P, hkt, rfl, eP, o⟩ hY
    have hPl := congrArg List.length eP
    simp only [List.length_map, List.length_append, List.length_take, zhx, List.length_cons, List.length_nil] at hPl
    simp -dsimp only [zbw.l2, zbw.k1, B.zhp, V.zeh, List.getElem?_cons_succ, List.getElem?_cons_zero, l3, lssN, B.zf]
    refine B.zd (fun hc => ?_) (fun hc => ?_)
    ·rw [decide_eq_true_eq] at hc
     obtain ⟨w, hw⟩ := zc5 hc
     have hkl : k < (s.zel.map Line.cs).length := by simpa using hc
     have e1 : V.idxS 8 z (.int .i64 (k : Int)) = some (elp 8 z k 0) := hn.idxN hkl
     have e2 := (hn.mono o.le).elem (get_map hw)
     simp -dsimp only [B.zhp, V.zeh, List.getElem?_cons_succ, List.getElem?_cons_zero, e1, e2, B.zhn, B.zf]
     refine s4 w hh _ fun b h9 o9 => ?_
     refine rowPush o o9 (by omega) fun v' h10 o10 => ?_
     simp -dsimp only [add1 (show k < 4611686018427387904 by omega), B.zf]
     refine hY (t - 1) _ _ (by omega) ⟨k + 1, v', _, by omega, rfl, ?_, o10⟩
     rw [List.map_append, eP, take_succ hw, List.map_append, <- List.append_assoc]; rfl
    ·rw [decide_eq_false_iff_not] at hc
     have : k = s.zel.length := by omega
     subst this
     rw [List.take_length] at eP
     refine zk (hq v P hh ?_ o)
     rw [eP, allRows_plain hb]
     unfold zpm
     simp only [List.append_assoc]
end Go.Ab
set_option maxRecDepth 100000
namespace Go.Ab
variable {C : CSem} {N : zN}
abbrev LKs := Nat -> LK
namespace LKs
def none : LKs := fun _ => []
def one (k : Nat) (q : AVal × List (List AVal)) : LKs := fun i => if i = k then [q] else []
def add (D E : LKs) : LKs := fun i => D i ++ E i
def sum {α : Type} (l : List α) (f : α -> LKs) : LKs := fun i => l.flatMap fun a => f a i
def on (L : Nat -> List AVal) (D : LKs) : Nat -> List AVal := fun i => L i ++ (D i).map (·.1)
theorem on_on (L : Nat -> List AVal) (D E : LKs) : on (on L D) E = on L (D.add E) := by
 funext i; simp [on, add]
theorem on_one (L : Nat -> List AVal) (k : Nat) (q : AVal × List (List AVal)) : upf L k (L k ++ [q.1]) = on L (one k q) := by
 funext i
 unfold upf on one
 by_cases h : i = k
 ·subst h; simp
 ·simp [h]
theorem sum_take {α : Type} {l : List α} {f : α -> LKs} {j : Nat} {a : α} (h : l[j]? = some a) : sum (l.take (j + 1)) f = (sum (l.take j) f).add (f a) := by
 funext i
 simp only [sum, add]
 rw [take_succ h, List.flatMap_append]
 simp
theorem sum_le {α : Type} (l : List α) (f : α -> LKs) (j i : Nat) : (sum (l.take j) f i).length <= (sum l f i).length := by
 have : sum l f i = sum (l.take j) f i ++ (l.drop j).flatMap fun a => f a i := by
  simp only [sum]
  rw [<- List.flatMap_append, List.take_append_drop]
 rw [this, List.length_append]; omega
theorem zvt {α : Type} {l : List α} {f : α -> LKs} {j : Nat} {a : α} (h : l[j]? = some a) (i : Nat) : (sum (l.take j) f i).length + (f a i).length <= (sum l f i).length := by
 have := sum_le l f (j + 1) i
 rw [sum_take h] at this
 simpa [add] using this
end LKs
theorem zro (b : BagK) (D E : LKs) (i n : Nat) : (zjj b (D.add E) i n).Perm (zjj b D i n ++ zjj b E i n) := by
 induction n generalizing i with
 | zero => exact List.Perm.refl _
 | succ n ih =>
  rw [zls, zls, zls]
  show ((D i ++ E i).map _ ++ _).Perm _
  rw [List.map_append]
  generalize (D i).map (obK (b.es i)) = p
  generalize (E i).map (obK (b.es i)) = q
  have := ih (i + 1)
  generalize zjj b (D.add E) (i + 1) n = r at *
  generalize zjj b D (i + 1) n = u at *
  generalize zjj b E (i + 1) n = v at *
  rw [List.append_assoc, List.append_assoc]
  refine List.Perm.append_left p ((List.Perm.append_left q this).trans ?_)
  rw [<- List.append_assoc, <- List.append_assoc]
  exact List.perm_append_comm.append_right v
theorem bagOb_none (b : BagK) (i n : Nat) : zjj b LKs.none i n = [] := by simp [zjj, LKs.none]
theorem zvi (b : BagK) {k : Nat} (hk : k < 23) (q : AVal × List (List AVal)) : zjj b (LKs.one k q) 0 23 = [obK (b.es k) q] := by
 have g : ∀ (n i : Nat), zjj b (LKs.one k q) i n = if i <= k /\ k < i + n then [obK (b.es k) q] else [] := by
  intro n
  induction n with
  | zero => intro i; rw [if_neg (by omega)]; rfl
  | succ n ih =>
   intro i
   rw [zls, ih]
   by_cases h : i = k
   ·subst h
    rw [if_neg (by omega), if_pos (by omega)]
    simp [LKs.one]
   ·have : LKs.one k q i = [] := by simp [LKs.one, h]
    rw [this]
    by_cases h2 : i + 1 <= k /\ k < i + 1 + n
    ·rw [if_pos h2, if_pos (by omega)]; rfl
    ·rw [if_neg h2, if_neg (by omega)]; rfl
 rw [g, if_pos (by omega)]
theorem bagOb_sum (b : BagK) {α : Type} (l : List α) (f : α -> LKs) : (zjj b (LKs.sum l f) 0 23).Perm (l.flatMap fun a => zjj b (f a) 0 23) := by
 induction l with
 | nil => rw [show LKs.sum ([] : List α) f = LKs.none from rfl, bagOb_none]; exact List.Perm.refl _
 | cons a l ih =>
  have : LKs.sum (a :: l) f = (f a).add (LKs.sum l f) := by funext i; simp [LKs.sum, LKs.add]
  rw [this, List.flatMap_cons]
  exact (zro b _ _ _ _).trans (ih.append_left _)
section
variable {T Ad : Type}
def OneG (K : DK T Ad) (inn : T -> Ad -> LKs) (C : CSem) (g : Nat) : Prop := ∀ (h hh : za) (id : Nat) (L : Nat -> List AVal) (t : T) (a : Ad) (Q : zQ), znx h hh id L -> K.at_ h t a -> (∀ i, (L i).length + (inn t a i).length <= 100000000) ->
 (∀ h', znx h h' id (LKs.on L (inn t a)) -> Q (.tup []) h') -> C g [.ptr id 0 0, .agg (K.cells t a)] hh Q
def zox (K : DK T Ad) (inn : T -> Ad -> LKs) (k : Nat) (y : AVal) (P : List (T × Ad)) : LKs := (LKs.one k (y, P.map K.cs)).add (LKs.sum P fun p => inn p.1 p.2)
def PutG (K : DK T Ad) (inn : T -> Ad -> LKs) (k : Nat) (C : CSem) (g : Nat) : Prop := ∀ (h hh : za) (id : Nat) (L : Nat -> List AVal) (y : AVal) (P : List (T × Ad)) (R : List (List AVal)) (Q : zQ), znx h hh id L -> SlX h K.n y (P.map K.cs) R -> (∀ p ∈ P, K.at_ h p.1 p.2) -> P.length <= 100000000 -> (∀ i, (L i).length + (zox K inn k y P i).length <= 100000000) ->
 (∀ h', znx h h' id (LKs.on L (zox K inn k y P)) -> Q (.tup []) h') -> C g [.ptr id 0 0, y] hh Q
variable {K : DK T Ad} {inn : T -> Ad -> LKs}
theorem addL_le {K : DK T Ad} {inn : T -> Ad -> LKs} {k : Nat} {y : AVal} {P : List (T × Ad)} {j : Nat} {p : T × Ad} (hp : P[j]? = some p) (i : Nat) : ((LKs.one k (y, P.map K.cs)).add (LKs.sum (P.take j) fun p => inn p.1 p.2) i).length + (inn p.1 p.2 i).length <= (zox K inn k y P i).length := by
 have := LKs.zvt (f := fun p : T × Ad => inn p.1 p.2) hp i
 simp only [zox, LKs.add, List.length_append]
 omega
theorem zvz {k f g : Nat} (hk : k < 23) (s1 : OneG K inn C f) (i : ∀ (v0 v1 : AVal) (h : za) (Q : zQ), putD C k K.n f v0 v1 h (dn Q) -> C g [v0, v1] h Q) : PutG K inn k C g := by
 intro h hh id L y P R Q hb hy ha hP hl hq
 refine i _ _ _ _ ?_
 have hl1 : (L k).length <= 100000000 := by have := hl k; omega
 refine zm7 hk hb hy.zi hl1 fun h1 hb1 => ?_
 have e0 : upf L k (L k ++ [y]) = LKs.on L (LKs.one k (y, P.map K.cs)) := LKs.on_one L k (y, P.map K.cs)
 rw [e0] at hb1
 refine ze.intro (fun n vs hh => ∃ j : Nat, j + n = P.length /\ vs = [.int .i64 (j : Int)] /\ znx h hh id (LKs.on L ((LKs.one k (y, P.map K.cs)).add (LKs.sum (P.take j) fun p => inn p.1 p.2)))) P.length ?_ ⟨0, by simp, rfl, by
  have : LKs.on L ((LKs.one k (y, P.map K.cs)).add (LKs.sum (P.take 0) fun p => inn p.1 p.2)) = LKs.on L (LKs.one k (y, P.map K.cs)) := by funext i; simp [LKs.on, LKs.add, LKs.sum]
  rw [this]; exact hb1⟩
 rintro Y n vs h2 ⟨j, hj, rfl, hb2⟩ hY
 have hyy := hy.mono hb2.le
 have hly := hyy.zj
 rw [List.length_map] at hly
 simp -dsimp only [putD.l2, putD.k1, hly, V.znt, B.zf]
 refine B.zd (fun hc => ?_) (fun hc => ?_)
 ·have hjl : j < P.length := by simpa using hc
  obtain ⟨p, hp⟩ := zc5 hjl
  have ea := slX_el (K := K) hyy (fun q hq => K.mono hb2.le (ha q hq)) hp
  simp -dsimp only [ea.idx, ea.ldn, B.zf, B.zhn]
  refine s1 h h2 id _ p.1 p.2 _ hb2 (ha p (List.mem_of_getElem? hp)) (fun i => ?_) fun h3 hb3 => ?_
  ·have h1 := hl i
   have h2 := addL_le (K := K) (inn := inn) (k := k) (y := y) hp i
   simp only [LKs.on, List.length_append, List.length_map] at h2 ⊢
   omega
  simp -dsimp only [add1 (show j < 4611686018427387904 by omega), B.zf]
  refine hY (P.length - (j + 1)) _ _ (by omega) ⟨j + 1, by omega, rfl, ?_⟩
  rw [LKs.sum_take hp]
  rw [LKs.on_on] at hb3
  have : ((LKs.one k (y, P.map K.cs)).add (LKs.sum (P.take j) fun p => inn p.1 p.2)).add (inn p.1 p.2) = (LKs.one k (y, P.map K.cs)).add ((LKs.sum (P.take j) fun p => inn p.1 p.2).add (inn p.1 p.2)) := by funext i; simp [LKs.add]
  rw [this] at hb3
  exact hb3
 ·have hjl : j = P.length := by
   have : ¬ (j : Int) < P.length := by simpa using hc
   omega
  rw [hjl, List.take_length] at hb2
  exact zk (hq h2 hb2)
structure Fits (b : BagK) (D : LKs) : Prop where
 none : ∀ i, i < 23 -> b.full i = false -> D i = []
 n_le : ∀ i, (D i).length <= 100000000
 zmi : ∀ i, i < 23 -> ∀ q ∈ D i, q.2.length <= b.lim i
def allL (K : DK T Ad) (inn : T -> Ad -> LKs) (k : Nat) (ls : List (AVal × List (T × Ad))) : LKs := LKs.sum ls fun p => zox K inn k p.1 p.2
def ApartG (K : DK T Ad) (inn : T -> Ad -> LKs) (k : Nat) (b : BagK) (C : CSem) (g : Nat) : Prop := ∀ (ls : List (AVal × List (T × Ad))) (x : AVal) (W : List (List AVal)) (h0 h : za) (Q : zQ), SlX h0 1 x (ls.map fun p => [p.1]) W -> Owns h0 h (allOb K ls) -> (∀ p ∈ ls, ∀ q ∈ p.2, K.ok q.1) -> ls.length <= 100000 -> (∀ p ∈ ls, p.2.length <= 100000000) -> Fits b (allL K inn k ls) ->
 (∀ h', h0.le h' -> Q (.bool true) h') -> C g [x] h Q
theorem zuy {b : BagK} {k : Nat} (hk : k < 23) (he : b.es k = K.n) (hinn : ∀ t a, (K.obs false t a).Perm (zjj b (inn t a) 0 23)) (y : AVal) (P : List (T × Ad)) : (Ob.sl K.n y (P.map K.cs) [] :: K.os false P).Perm (zjj b (zox K inn k y P) 0 23) := by
 refine List.Perm.trans ?_ (zro b _ _ _ _).symm
 rw [zvi b hk, he]
 refine List.Perm.append (l₁ := [_]) (List.Perm.refl _) ?_
 refine List.Perm.trans ?_ (bagOb_sum b _ _).symm
 induction P with
 | nil => exact List.Perm.refl _
 | cons p P ih => rw [List.flatMap_cons, List.flatMap_cons]; exact (hinn _ _).append ih
theorem allG_perm {b : BagK} {k : Nat} (hk : k < 23) (he : b.es k = K.n) (hinn : ∀ t a, (K.obs false t a).Perm (zjj b (inn t a) 0 23)) (ls : List (AVal × List (T × Ad))) : (allOb K ls).Perm (zjj b (allL K inn k ls) 0 23) := by
 refine List.Perm.trans ?_ (bagOb_sum b _ _).symm
 unfold allOb
 induction ls with
 | nil => exact List.Perm.refl _
 | cons p ls ih => rw [List.flatMap_cons, List.flatMap_cons]; exact (zuy hk he hinn p.1 p.2).append ih
theorem apartG_of {b : BagK} {k fu fb : Nat} (hk : k < 23) (he : b.es k = K.n) (hinn : ∀ t a, (K.obs false t a).Perm (zjj b (inn t a) 0 23)) (s1 : PutG K inn k C fu) (s3 : ApartK C b fb) {g : Nat} (i : ∀ (v0 : AVal) (h : za) (Q : zQ), zs3 C fu fb v0 h (dn Q) -> C g [v0] h Q) : ApartG K inn k b C g := by
 intro ls x W h0 h Q hx ho hok hn hP hf hq
 refine i _ _ _ ?_
 simp -dsimp [zs3]
 intro id hid
 refine ze.intro (fun n vs hh => ∃ j : Nat, j + n = ls.length /\ vs = [.int .i64 j] /\ znx h hh id (LKs.on (fun _ => []) (allL K inn k (ls.take j)))) ls.length ?_ ⟨0, by simp, by simp, by
  have := znx.start hid
  have e : LKs.on (fun _ => []) (allL K inn k (ls.take 0)) = fun _ => [] := by funext i; simp [LKs.on, allL, LKs.sum]
  rw [e]; exact this⟩
 rintro Y n vs hh ⟨j, hj, rfl, hb⟩ hY
 have hxx := hx.mono (za.le_trans ho.le hb.le)
 have hlx := hxx.zj
 rw [List.length_map] at hlx
 simp -dsimp only [zs3.l2, zs3.k1, hlx, V.znt, B.zf]
 refine B.zd (fun hc => ?_) (fun hc => ?_)
 ·have hjl : j < ls.length := by simpa using hc
  obtain ⟨p, hp⟩ := zc5 hjl
  have hpm := List.mem_of_getElem? hp
  have hjk : j < (ls.map fun p => [p.1]).length := by simpa using hjl
  have hld : A.ldv hh (elp 1 x j 0) = some p.1 := hxx.cell (by rw [List.getElem?_map, hp]; rfl)
  simp -dsimp only [hxx.idxN hjk, hld, B.zf, B.zg6]
  have hsl : SlX h K.n p.1 (p.2.map K.cs) [] := ho.is (.sl K.n p.1 (p.2.map K.cs) []) (List.mem_flatMap.2 ⟨p, hpm, by simp⟩)
  have hat : ∀ q ∈ p.2, K.at_ h q.1 q.2 := fun q hq => K.zuu (b := false) (hok p hpm q hq) fun o hmo => ho.is o (List.mem_flatMap.2 ⟨p, hpm, List.mem_cons_of_mem _ (List.mem_flatMap.2 ⟨q, hq, hmo⟩)⟩)
  refine s1 h hh id _ p.1 p.2 [] _ hb hsl hat (hP p hpm) (fun i => ?_) fun h3 hb3 => ?_
  ·have h1 := LKs.zvt (f := fun p : AVal × List (T × Ad) => zox K inn k p.1 p.2) hp i
   have h2 := hf.n_le i
   simp only [LKs.on, allL, List.nil_append, List.length_map] at h1 h2 ⊢
   omega
  ·simp -dsimp only [add1 (show j < 4611686018427387904 by omega), B.zf]
   refine hY (n - 1) _ _ (by omega) ⟨j + 1, by omega, rfl, ?_⟩
   rw [LKs.on_on] at hb3
   have : allL K inn k (ls.take (j + 1)) = (allL K inn k (ls.take j)).add (zox K inn k p.1 p.2) := LKs.sum_take hp
   rw [this]
   exact hb3
 ·have hjl : j = ls.length := by
   have : ¬ (j : Int) < ls.length := by simpa using hc
   omega
  rw [hjl, List.take_length] at hb
  obtain ⟨xs, ob⟩ := hb
  have hp := allG_perm hk he hinn ls
  obtain ⟨q1, q2⟩ := (((ho.perm hp).join ob).perm List.perm_append_comm).out
  obtain ⟨id', e, hbx⟩ := q1.zgp 23 Objs.getL
  cases e
  refine s3 id (allL K inn k ls) xs _ hh _ ⟨hbx, fun i hi => ?_, hf.none, fun i hi => hf.n_le i, hf.zmi⟩ q2 fun h' hle => zk (hq h' (za.le_trans q1.le hle))
  have := q1.slAt i (Objs.getA hi)
  have e : (LKs.on (fun _ => []) (allL K inn k ls) i).map sing = (allL K inn k ls i).map fun q => [q.1] := by
   simp only [LKs.on, List.nil_append, List.map_map]; rfl
  rw [e] at this; exact this
end
end Go.Ab
set_option maxRecDepth 100000
namespace Go.Ab
variable {C : CSem} {N : zN}
namespace LKs
def cap (D : LKs) (c : Nat -> Nat) : Prop := ∀ i, ∀ q ∈ D i, q.2.length <= c i
def cnt (D : LKs) (c : Nat) : Prop := ∀ i, (D i).length <= c
def sup (D : LKs) (S : Nat -> Bool) : Prop := ∀ i, S i = false -> D i = []
theorem zsh {k : Nat} {c : Nat -> Nat} {q : AVal × List (List AVal)} (h : q.2.length <= c k) : (one k q).cap c := fun i r hr => by
 unfold one at hr
 split at hr
 ·rename_i e
  subst e
  rw [List.mem_singleton.1 hr]; exact h
 ·cases hr
theorem zvf {D E : LKs} {c : Nat -> Nat} (h1 : D.cap c) (h2 : E.cap c) : (D.add E).cap c := fun i r hr => by
 rcases List.mem_append.1 hr with h | h
 ·exact h1 i r h
 ·exact h2 i r h
theorem cap_sum {α : Type} {l : List α} {f : α -> LKs} {c : Nat -> Nat} (h : ∀ a ∈ l, (f a).cap c) : (sum l f).cap c := fun i r hr => by
 obtain ⟨a, ha, hr⟩ := List.mem_flatMap.1 hr
 exact h a ha i r hr
theorem fits_of {b : BagK} {D : LKs} {n : Nat} (h1 : D.cap b.lim) (h2 : D.cnt n) (hn : n <= 100000000) (h3 : D.sup b.full) : Fits b D := ⟨fun i _ e => h3 i e, fun i => Nat.le_trans (h2 i) hn, fun i _ q hq => h1 i q hq⟩
theorem zsg (k : Nat) (q : AVal × List (List AVal)) : (one k q).cnt 1 := fun i => by
 unfold one; split <;> simp
theorem zve {D E : LKs} {c d : Nat} (h1 : D.cnt c) (h2 : E.cnt d) : (D.add E).cnt (c + d) := fun i => by
 have := h1 i
 have := h2 i
 simp only [add, List.length_append]; omega
theorem cnt_sum {α : Type} {l : List α} {f : α -> LKs} {c : Nat} (h : ∀ a ∈ l, (f a).cnt c) : (sum l f).cnt (l.length * c) := fun i => by
 induction l with
 | nil => simp [sum]
 | cons a l ih =>
  have h1 := ih fun b hb => h b (List.mem_cons_of_mem _ hb)
  have h2 := h a (List.mem_cons_self ..) i
  simp only [sum, List.flatMap_cons, List.length_append, List.length_cons, Nat.add_mul] at h1 ⊢
  omega
theorem cnt_le {D : LKs} {c d : Nat} (h : D.cnt c) (hd : c <= d) : D.cnt d := fun i => Nat.le_trans (h i) hd
theorem zru {k : Nat} {q : AVal × List (List AVal)} {S : Nat -> Bool} (h : S k = true) : (one k q).sup S := fun i hi => by
 unfold one
 rw [if_neg]
 intro e; subst e; rw [h] at hi; cases hi
theorem zt1 {D E : LKs} {S : Nat -> Bool} (h1 : D.sup S) (h2 : E.sup S) : (D.add E).sup S := fun i hi => by
 show D i ++ E i = []
 rw [h1 i hi, h2 i hi]; rfl
theorem sup_sum {α : Type} {l : List α} {f : α -> LKs} {S : Nat -> Bool} (h : ∀ a ∈ l, (f a).sup S) : (sum l f).sup S := fun i hi => by
 show l.flatMap _ = []
 rw [List.flatMap_eq_nil_iff]
 exact fun a ha => h a ha i hi
end LKs
theorem two_puts {k j f g : Nat} (s1 : zit C k f) (s2 : zit C j g) {h hh : za} {id : Nat} {L : Nat -> List AVal} {p q : AVal × List (List AVal)} {K : zQ} (hb : znx h hh id L) (c1 : p.1.zi = true) (c2 : q.1.zi = true)
  (hl : ∀ i, (L i).length + (((LKs.one k p).add (LKs.one j q)) i).length <= 100000000) (hq : ∀ h', znx h h' id (LKs.on L ((LKs.one k p).add (LKs.one j q))) -> K (.tup []) h') :
  B.call C f [.ptr id 0 0, p.1] hh fun _ h => B.call C g [.ptr id 0 0, q.1] h fun _ h => K (.tup []) h := by
 refine s1 h hh id L _ _ hb c1 (by have := hl k; omega) fun h1 hb1 => ?_
 rw [LKs.on_one L k p] at hb1
 refine s2 h h1 id _ _ _ hb1 c2 ?_ fun h2 hb2 => ?_
 ·have := hl j
  simp only [LKs.add, LKs.on, List.length_append, List.length_map] at this ⊢
  omega
 rw [LKs.on_one _ j q, LKs.on_on] at hb2
 exact hq h2 hb2
def zrf (t : Itm) (a : AVal × AVal) : LKs := (LKs.one 9 (a.1, t.zek.map Part.cs)).add (LKs.one 3 (a.2, t.zd0.map tc))
theorem zcz.spec (i : zcz.Imp C N) : zit C 9 (N 481) := fun h hh id B y Q hb hy hl hq => i _ _ hh Q (zm7 (k := 9) (by omega) hb hy hl fun h' hb' => zk (hq h' hb'))
theorem zc9.spg (i : zc9.Imp C N) (s1 : zit C 9 (N 481)) (s2 : zit C 3 (N 405)) : OneG ze3 zrf C (N 480) := by
 intro h hh id L t a Q hb ha hl hq
 obtain ⟨⟨R1, a1⟩, ⟨R2, a2⟩, hok⟩ := ha
 have c1 := a1.zi
 have c2 := a2.zi
 apply i
 simp -dsimp [ze3, c1, c2]
 exact two_puts s1 s2 (p := (a.1, t.zek.map Part.cs)) (q := (a.2, t.zd0.map tc)) hb c1 c2 hl fun h2 hb2 => zk (hq h2 hb2)
theorem zby.spg (i : zby.Imp C N) (s1 : OneG ze3 zrf C (N 480)) : PutG ze3 zrf 10 C (N 475) := zvz (by omega) s1 i
abbrev StaP := { p : Sta × List (Itm × (AVal × AVal)) // p.2.map (·.1) = p.1.zem }
def zib : DK StaP (AVal × AVal × AVal) where
 n := 6
 bytes := 96
 z := [.int .i64 0, .int .i64 0, .int .i64 0, .nils, .nils, .nils]
 pos := by omega
 small := by omega
 zlen := rfl
 cells t a := zhq t.1.1 a.1 a.2.1 a.2.2
 len _ _ := rfl
 at_ h t a := (SlX h 4 a.1 (t.1.2.map ze3.cs) [] /\ ∀ p ∈ t.1.2, ze3.at_ h p.1 p.2) /\ (SlX h 6 a.2.1 (t.1.1.Lots.map Lot.cs) [] /\ SlX h 8 a.2.2 (t.1.1.zel.map Line.cs) []) /\ ∀ i ∈ t.1.1.zem, i.ok
 mono hle ha := ⟨⟨ha.1.1.mono hle, fun p hp => ze3.mono hle (ha.1.2 p hp)⟩, ⟨ha.2.1.1.mono hle, ha.2.1.2.mono hle⟩, ha.2.2⟩
 ok t := ∀ i ∈ t.1.1.zem, i.ok
 at_ok ha := ha.2.2
 obs b t a := StaO t.1.1 a.1 t.1.2 a.2.1 a.2.2
 zuu {b h t a} hk ha := ⟨⟨ha (.sl 4 a.1 (t.1.2.map ze3.cs) []) (by simp), fun p hp => ze3.zuu (b := false) (hk _ (by rw [<- t.2]; exact List.mem_map.2 ⟨p, hp, rfl⟩)) fun o ho => ha o (by simp only [StaO, List.mem_cons]; exact .inr (.inr (.inr (List.mem_flatMap.2 ⟨p, hp, ho⟩))))⟩,
  ⟨ha (.sl 6 a.2.1 (t.1.1.Lots.map Lot.cs) []) (by simp), ha (.sl 8 a.2.2 (t.1.1.zel.map Line.cs) []) (by simp)⟩, hk⟩
def zk3 (t : StaP) (a : AVal × AVal × AVal) : LKs := (zox ze3 zrf 10 a.1 t.1.2).add ((LKs.one 6 (a.2.1, t.1.1.Lots.map Lot.cs)).add (LKs.one 11 (a.2.2, t.1.1.zel.map Line.cs)))
theorem zc1.spg (i : zc1.Imp C N) (s1 : PutG ze3 zrf 10 C (N 475)) (s2 : zit C 6 (N 130)) (s3 : zit C 11 (N 207)) : OneG zib zk3 C (N 473) := by
 intro h hh id L t a Q hb ha hl hq
 obtain ⟨⟨a1, a1'⟩, ⟨a2, a3⟩, hok⟩ := ha
 have c1 := a1.zi
 have c2 := a2.zi
 have c3 := a3.zi
 apply i
 simp -dsimp [zib, c1, c2, c3]
 have hP : t.1.2.length <= 100000000 := by
  have := hl 9
  have e : (zk3 t a 9).length = t.1.2.length := by
   have g : ∀ l : List (Itm × (AVal × AVal)), (l.map fun _ => 1).sum = l.length := fun l => by
    induction l with
    | nil => rfl
    | cons a l ih => rw [List.map_cons, List.sum_cons, ih, List.length_cons]; omega
   simp [zk3, zox, LKs.add, LKs.one, LKs.sum, zrf, g]
  omega
 refine s1 h hh id L a.1 t.1.2 [] _ hb a1 a1' hP (fun i => ?_) fun h1 hb1 => ?_
 ·have := hl i
  simp only [zk3, LKs.add, List.length_append] at this
  omega
 refine two_puts s2 s3 (p := (a.2.1, t.1.1.Lots.map Lot.cs)) (q := (a.2.2, t.1.1.zel.map Line.cs)) hb1 c2 c3 (fun i => ?_) fun h2 hb2 => zk (hq h2 ?_)
 ·have := hl i
  simp only [zk3, LKs.add, LKs.on, List.length_append, List.length_map] at this ⊢
  omega
 rw [LKs.on_on] at hb2
 exact hb2
theorem zbs.spg (i : zbs.Imp C N) (s1 : OneG zib zk3 C (N 473)) : PutG zib zk3 14 C (N 470) := zvz (by omega) s1 i
end Go.Ab
set_option maxRecDepth 100000
namespace Go.Ab
variable {C : CSem} {N : zN}
theorem zcy.spec (i : zcy.Imp C N) : zit C 3 (N 405) := fun h hh id B y Q hb hy hl hq => i _ _ hh Q (zm7 (k := 3) (by omega) hb hy hl fun h' hb' => zk (hq h' hb'))
end Go.Ab
set_option maxRecDepth 100000
namespace Go.Ab
variable {C : CSem} {N : zN}
theorem zgk.toL {es g : Nat} (s : zgk C es g) : zlt C es 100000000 g := fun t h0 h Q ht ho hq => s t h0 h Q ⟨ht.is, ht.n_le, ht.zmi⟩ ho hq
theorem znj {b : BagK} {i g : Nat} (h : b.full i = false) (s : zcs C g) : zgw C b i g := ⟨fun e => (by rw [h] at e; cases e), fun _ => s⟩
theorem kind1 {b : BagK} {i g : Nat} (h : b.full i = true) (s : zlt C (b.es i) (b.lim i) g) : zgw C b i g := ⟨fun _ => s, fun e => (by rw [h] at e; cases e)⟩
theorem pair_perm (b : BagK) {k j : Nat} (hk : k < 23) (hj : j < 23) (p q : AVal × List (List AVal)) : [obK (b.es k) p, obK (b.es j) q].Perm (zjj b ((LKs.one k p).add (LKs.one j q)) 0 23) := by
 refine List.Perm.trans ?_ (zro b _ _ _ _).symm
 rw [zvi b hk, zvi b hj]
 exact List.Perm.refl _
def bagS : BagK := ⟨fun i => if i = 6 then 6 else if i = 9 then 2 else if i = 10 then 4 else if i = 11 then 8 else if i = 14 then 6 else 1, fun _ => 100000000, fun i => decide (i = 3) || decide (i = 6) || decide (i = 9) || decide (i = 10) || decide (i = 11) || decide (i = 14)⟩
theorem zdu.sps (i : zdu.Imp C N) (f0 : zcs C (N 80)) (f1 : zcs C (N 81)) (f2 : zcs C (N 82)) (f3 : zgk C 1 (N 83)) (f4 : zcs C (N 84)) (f5 : zcs C (N 85)) (f6 : zgk C 6 (N 86)) (f7 : zcs C (N 87)) (f8 : zcs C (N 88)) (f9 : zgk C 2 (N 89)) (f10 : zlt C 4 100000000 (N 90)) (f11 : zgk C 8 (N 91)) (f12 : zcs C (N 92)) (f13 : zcs C (N 93)) (f14 : zgk C 6 (N 94)) (f15 : zcs C (N 95)) (f16 : zcs C (N 96)) (f17 : zcs C (N 97)) (f18 : zcs C (N 98)) (f19 : zcs C (N 99)) (f20 : zcs C (N 100)) (f21 : zcs C (N 101)) (f22 : zcs C (N 102)) : ApartK C bagS (N 62) :=
 bag_apartK i bagS (znj rfl f0) (znj rfl f1) (znj rfl f2) (kind1 rfl f3.toL) (znj rfl f4) (znj rfl f5) (kind1 rfl f6.toL) (znj rfl f7) (znj rfl f8) (kind1 rfl f9.toL) (kind1 rfl f10) (kind1 rfl f11.toL) (znj rfl f12) (znj rfl f13) (kind1 rfl f14.toL) (znj rfl f15) (znj rfl f16) (znj rfl f17) (znj rfl f18) (znj rfl f19) (znj rfl f20) (znj rfl f21) (znj rfl f22)
theorem z7.spec (i : z7.Imp C N) (s1 : zdl.Spec C N) (s2 : zdd.Spec C N) : zlt C 4 100000000 (N 90) := fun t h0 h Q ht ho hq =>
 i t.x h Q (flatD_spec ze3 markItem_ok s1 s2 t ht ho fun h' hle => zk (hq h' hle))
def znh (k i : Int) : Sta := ⟨mark k i, 0, 0, [], [], []⟩
def zc6.Spec (C : CSem) (N : zN) : Prop := ∀ (k i : Int) (h : za) (Q : zQ), Q (.agg (zhq (znh k i) .nils .nils .nils)) h -> C (N 115) [.int .i64 k, .int .i64 i] h Q
theorem zc6.spec (i : zc6.Imp C N) (s1 : zfh.Spec C N) : zc6.Spec C N := by
 intro k j h Q hq
 apply i
 simp +contextual -dsimp
 refine s1 _ _ _ _ ?_
 simp +contextual -dsimp
 exact zk hq
theorem staNil (k i : Int) (h : za) : zk8 h (znh k i) .nils .nils .nils := ⟨Dl.nils ze3 h, ⟨[], SlX.nils h 6⟩, ⟨[], SlX.nils h 8⟩, by simp [znh], by simp [znh], by simp [znh]⟩
theorem zq.spec (i : zq.Imp C N) (s1 : zc6.Spec C N) (s2 : zcp.Spec C N) : zgk C 6 (N 94) := fun t h0 h Q ht ho hq =>
 i t.x h Q (zlo (elD (m := fun k i => zhq (znh k i) .nils .nils .nils) (bytes := 96) (by omega) (fun _ _ => rfl) rfl (by omega) s1 (fun k i h Q hq => s2 (znh k i) (znh k i) _ _ _ _ _ _ h Q (staNil k i h) (staNil k i h) (by simpa using hq))) ht.is ho ht.n_le ht.zmi fun h' hle => zk (hq h' hle))
theorem state_perm (t : StaP) (a : AVal × AVal × AVal) : (zib.obs false t a).Perm (zjj bagS (zk3 t a) 0 23) := by
 refine List.Perm.trans ?_ (zro bagS _ _ _ _).symm
 have e1 := zuy (b := bagS) (k := 10) (K := ze3) (inn := zrf) (by omega) rfl (fun t a => pair_perm bagS (k := 9) (j := 3) (by omega) (by omega) (a.1, t.zek.map Part.cs) (a.2, t.zd0.map tc)) a.1 t.1.2
 have e2 := pair_perm bagS (k := 6) (j := 11) (by omega) (by omega) (a.2.1, t.1.1.Lots.map Lot.cs) (a.2.2, t.1.1.zel.map Line.cs)
 refine List.Perm.trans ?_ (e1.append e2)
 exact (List.perm_append_comm (l₁ := [Ob.sl 6 a.2.1 (t.1.1.Lots.map Lot.cs) [], Ob.sl 8 a.2.2 (t.1.1.zel.map Line.cs) []])).cons _
theorem zb2.spg (i : zb2.Imp C N) (s1 : PutG zib zk3 14 C (N 470)) (s3 : ApartK C bagS (N 62)) : ApartG zib zk3 14 bagS C (N 453) :=
 apartG_of (by omega) rfl state_perm s1 s3 i
end Go.Ab
namespace Go.Ab
variable {C : CSem} {N : zN}
def RfL (hb h0 h : za) (l : List Ob) (p x : AVal) (b : List UInt8) (r : Rdr) : Prop := Owns h0 h (l ++ [.box p [x, .int .i64 (r.at_ : Int), .bool r.bad]]) /\ (∃ R, SlX hb 1 x (b.map bc) R) /\ hb.le h0 /\ r.at_ <= b.length /\ b.length < 4611686018427387904
section
variable {hb h0 h : za} {l : List Ob} {p x : AVal} {b : List UInt8} {r : Rdr}
theorem RfL.ptr (s : RfL hb h0 h l p x b r) : ∃ id, p = .ptr id 0 0 /\ A.ldv h (.ptr id 0 2) = some (.bool r.bad) := by
 obtain ⟨ho, _⟩ := s
 obtain ⟨id, rfl, hbx⟩ := ho.zgp l.length ziv
 exact ⟨id, rfl, by simp [zd2 hbx]⟩
theorem RfL.num (s1 : zo.Spec C N) (s : RfL hb h0 h l p x b r) {k : Nat} (hk : k <= 8) {Q : zQ} (hq : ∀ h', RfL hb h0 h' l p x b (rNum b k r).2 -> Q (.int .i64 (rNum b k r).1) h') : C (N 71) [p, .int .i64 (k : Int)] h Q := by
 obtain ⟨ho, ⟨R, hx⟩, hle, hr, hl⟩ := s
 obtain ⟨q1, q2⟩ := ho.out
 refine s1 _ h p x b R r k Q (hx.mono (za.le_trans hle q1.le)) hl hr hk q2 fun h' o => hq h' ⟨q1.join o, ⟨R, hx⟩, hle, zgg hr, hl⟩
theorem RfL.code (s1 : zb0.Spec C N) (s : RfL hb h0 h l p x b r) {Q : zQ} (hq : ∀ h', RfL hb h0 h' l p x b (zfu b r).2 -> Q (.str (zfu b r).1) h') : C (N 73) [p] h Q := by
 obtain ⟨ho, ⟨R, hx⟩, hle, hr, hl⟩ := s
 obtain ⟨q1, q2⟩ := ho.out
 refine s1 _ h p x b R r Q (hx.mono (za.le_trans hle q1.le)) hl hr q2 fun h' o => hq h' ⟨q1.join o, ⟨R, hx⟩, hle, ztn hr, hl⟩
theorem RfL.push {es bytes k : Nat} {y : AVal} {L : List (List AVal)} {cs : List AVal} {K : zQ} (s : RfL hb h0 h l p x b r) (hk : l[k]? = some (.sl es y L [])) (hcs : cs.length = es) (hes : 0 < es) (hbm : (L.length + 1) * bytes <= 140737488355328) (hm : L.length + 1 <= maxLen)
  (hK : ∀ y' h', RfL hb h0 h' (l.set k (.sl es y' (L ++ [cs]) [])) p x b r -> K y' h') : B.newO h (some cs) fun id h => B.appW h es bytes y (.sl id 0 0 1 es 1) K := by
 obtain ⟨ho, hx, hle⟩ := s
 have hl : k < l.length := (List.getElem?_eq_some_iff.1 hk).1
 have hk' : (l ++ [.box p [x, .int .i64 (r.at_ : Int), .bool r.bad]])[k]? = some (.sl es y L []) := by rw [List.getElem?_append_left hl]; exact hk
 refine ho.push k hk' hcs hes hbm hm fun y' h' o1 _ => hK y' h' ⟨?_, hx, hle⟩
 rw [List.set_append_left _ _ hl] at o1
 exact o1
end
def zie (x : Row) (s : Sta) : Sta × Bool :=
 if x.Key = [42, 100, 97, 121] then ({ s with Now := (rNum x.Value 2 ⟨0, false⟩).1 }, (rNum x.Value 2 ⟨0, false⟩).2.bad)
 else if x.Key = [42, 108, 111, 116] then ({ s with zg3 := (rNum x.Value 8 ⟨0, false⟩).1 }, (rNum x.Value 8 ⟨0, false⟩).2.bad)
 else if x.Key = [42, 108, 105, 110, 101] then ({ s with zf3 := (rNum x.Value 8 ⟨0, false⟩).1 }, (rNum x.Value 8 ⟨0, false⟩).2.bad)
 else if x.Key.head? = some 105 then ({ s with zem := s.zem ++ [(zmn x.Value (x.Key.drop 1) ⟨0, false⟩).1] }, (zmn x.Value (x.Key.drop 1) ⟨0, false⟩).2.bad)
 else if x.Key.length = 9 /\ x.Key.head? = some 108 then ({ s with Lots := s.Lots ++ [(zk4 x.Value (rNum (x.Key.drop 1) 8 ⟨0, false⟩).1 ⟨0, false⟩).1] }, (zk4 x.Value (rNum (x.Key.drop 1) 8 ⟨0, false⟩).1 ⟨0, false⟩).2.bad)
 else if x.Key.length = 9 /\ x.Key.head? = some 111 then ({ s with zel := s.zel ++ [(zi7 x.Value (rNum (x.Key.drop 1) 8 ⟨0, false⟩).1 ⟨0, false⟩).1] }, (zi7 x.Value (rNum (x.Key.drop 1) 8 ⟨0, false⟩).1 ⟨0, false⟩).2.bad)
 else (s, true)
def zp.Spec (C : CSem) (N : zN) : Prop := ∀ (h0 h : za) (p : AVal) (s : Sta) (X : AVal) (P : List (Itm × (AVal × AVal))) (Y Z : AVal) (w : Row) (k v : AVal) (n : Nat) (Q : zQ), Owns h0 h (.box p (zhq s X Y Z) :: StaO s X P Y Z) -> P.map (·.1) = s.zem -> StaN s n -> n <= 1000000 -> Bs h0 k w.Key -> Bs h0 v w.Value ->
 (∀ s' X' P' Y' Z' h', Owns h0 h' (.box p (zhq s' X' Y' Z') :: StaO s' X' P' Y' Z') -> P'.map (·.1) = s'.zem -> StaN s' (n + 1) -> ((zie w s).2 = false -> s' = (zie w s).1) -> Q (.bool !(zie w s).2) h') -> C (N 469) [p, .agg [k, v]] h Q
theorem zp.spec (i : zp.Imp C N) (s1 : zo.Spec C N) (s2 : zb0.Spec C N) : zp.Spec C N := by
 intro h0 h p s X P Y Z w k v n Q ho hP hN hn hk hv hq
 apply i
 have ck := hk.zi
 have cv := hv.zi
 have ls : V.zij (.str w.Key) = some (.int .i64 (w.Key.length : Int)) := rfl
 have hkl : w.Key.length <= far := hk.2
 have hvl : w.Value.length <= far := hv.2
 unfold far at hkl hvl
 simp -dsimp [cv]
 intro i18 h18
 have o1 := ho.zkd h18 [v, .int .i64 0, .bool false]
 generalize upd h i18 (zee [v, .int .i64 0, .bool false]) = h1 at *
 have rv : RfL h0 h0 h1 (.box p (zhq s X Y Z) :: StaO s X P Y Z) (.ptr i18 0 0) v w.Value ⟨0, false⟩ := ⟨o1, hv.1, za.le_refl _, Nat.zero_le _, by omega⟩
 have hN1 : StaN s (n + 1) := ⟨by have := hN.n; omega, hN.ok⟩
 obtain ⟨pid, e, hb⟩ := ho.zgp 0 rfl
 subst e
 obtain ⟨Rk, b0⟩ := hk.1
 have es := fun K => zdz (b0.mono (za.le_trans o1.le (za.le_refl _))) K
 have cX : X.zi = true := (ho.slAt 1 rfl).zi
 have cY : Y.zi = true := (ho.slAt 2 rfl).zi
 have cZ : Z.zi = true := (ho.slAt 3 rfl).zi
 have fin : ∀ (s' : Sta) (X' : AVal) (P' : List (Itm × (AVal × AVal))) (Y' Z' : AVal) (r : Rdr) (h' : za), Owns h0 h' ((.box (.ptr pid 0 0) (zhq s' X' Y' Z') :: StaO s' X' P' Y' Z') ++ [.box (.ptr i18 0 0) [v, .int .i64 (r.at_ : Int), .bool r.bad]]) -> zie w s = (s', r.bad) -> P'.map (·.1) = s'.zem -> StaN s' (n + 1) ->
   (B.nilCheck (.ptr i18 0 0) fun v209 => B.pv (V.fieldAddr 2 v209) fun v210 => B.ld h' v210 fun v211 => B.pv (V.un .not v211) fun v212 => dn Q v212 h') := by
  intro s' X' P' Y' Z' r h' o er eP hN'
  obtain ⟨_, e, hbd⟩ := o.zgp _ ziv
  cases e
  simp -dsimp [zd2 hbd]
  refine zk ?_
  have := hq s' X' P' Y' Z' h' (o.sub (List.sublist_append_left _ _)) eP hN' (fun _ => by rw [er])
  rw [er] at this
  exact this
 simp -dsimp only [zp.k13, B.zhp, V.zeh, List.getElem?_cons_zero, B.zf, es, V.zhz]
 refine B.zd (fun hk1 => ?_) (fun hk1 => ?_)
 ·rw [decide_eq_true_eq] at hk1
  have er : zie w s = ({ s with Now := (rNum w.Value 2 ⟨0, false⟩).1 }, (rNum w.Value 2 ⟨0, false⟩).2.bad) := by unfold zie; rw [if_pos hk1]
  simp -dsimp only [zp.k1]
  refine rv.num s1 (k := 2) (by omega) fun h2 rv2 => ?_
  obtain ⟨o2, _⟩ := rv2
  simp -dsimp only [B.zd1, V.zdm, B.zf, Nat.zero_add]
  refine o2.zkj 0 (off := 0) rfl rfl (by simp) fun h3 o3 _ => ?_
  exact fin { s with Now := (rNum w.Value 2 ⟨0, false⟩).1 } X P Y Z _ h3 o3 er hP ⟨hN1.n, hN1.ok⟩
 rw [decide_eq_false_iff_not] at hk1
 simp -dsimp only [zp.k12, B.zf, V.zhz]
 refine B.zd (fun hk2 => ?_) (fun hk2 => ?_)
 ·rw [decide_eq_true_eq] at hk2
  have er : zie w s = ({ s with zg3 := (rNum w.Value 8 ⟨0, false⟩).1 }, (rNum w.Value 8 ⟨0, false⟩).2.bad) := by unfold zie; rw [if_neg hk1, if_pos hk2]
  simp -dsimp only [zp.k2]
  refine rv.num s1 (k := 8) (by omega) fun h2 rv2 => ?_
  obtain ⟨o2, _⟩ := rv2
  simp -dsimp only [B.zd1, V.zdm, B.zf, Nat.zero_add]
  refine o2.zkj 0 (off := 1) rfl rfl (by simp) fun h3 o3 _ => ?_
  exact fin { s with zg3 := (rNum w.Value 8 ⟨0, false⟩).1 } X P Y Z _ h3 o3 er hP ⟨hN1.n, hN1.ok⟩
 rw [decide_eq_false_iff_not] at hk2
 simp -dsimp only [B.zf, V.zhz]
 refine B.zd (fun hk3 => ?_) (fun hk3 => ?_)
 ·rw [decide_eq_true_eq] at hk3
  have er : zie w s = ({ s with zf3 := (rNum w.Value 8 ⟨0, false⟩).1 }, (rNum w.Value 8 ⟨0, false⟩).2.bad) := by unfold zie; rw [if_neg hk1, if_neg hk2, if_pos hk3]
  simp -dsimp only [zp.k3]
  refine rv.num s1 (k := 8) (by omega) fun h2 rv2 => ?_
  obtain ⟨o2, _⟩ := rv2
  simp -dsimp only [B.zd1, V.zdm, B.zf, Nat.zero_add]
  refine o2.zkj 0 (off := 2) rfl rfl (by simp) fun h3 o3 _ => ?_
  exact fin { s with zf3 := (rNum w.Value 8 ⟨0, false⟩).1 } X P Y Z _ h3 o3 er hP ⟨hN1.n, hN1.ok⟩
 rw [decide_eq_false_iff_not] at hk3
 have hT : zie w s = (s, true) -> dn Q (.bool false) h1 := fun er => by
  have := hq s X P Y Z h1 (o1.sub (List.sublist_append_left _ _)) hP hN1 (fun e => by rw [er] at e; cases e)
  rw [er] at this
  exact zk this
 cases hkey : w.Key with
 | nil =>
  simp -dsimp
  exact hT (by unfold zie; rw [hkey]; rfl)
 | cons c q =>
 have ei : V.zh8 (.str (c :: q)) (.int .i64 0) = some (.int .u8 (c.toNat : Int)) := zri (k := 0) rfl
 have ec : V.zrm (.str (c :: q)) (some (.int .i64 1)) none = some (.str q) := V.cutStr1 (c :: q) (List.cons_ne_nil _ _)
 have ls : V.zij (.str (c :: q)) = some (.int .i64 ((q.length + 1 : Nat) : Int)) := rfl
 have hd0 : w.Key.head? = some c := by rw [hkey]; rfl
 have lp : (0 : Int) < ((q.length + 1 : Nat) : Int) := by omega
 by_cases h105 : c = 105
 ·have h105' : ((c.toNat : Nat) : Int) = 105 := by rw [h105]; rfl
  have er : zie w s = ({ s with zem := s.zem ++ [(zmn w.Value q ⟨0, false⟩).1] }, (zmn w.Value q ⟨0, false⟩).2.bad) := by unfold zie; rw [if_neg hk1, if_neg hk2, if_neg hk3, if_pos (by rw [hd0, h105]), hkey]; rfl
  simp -dsimp only [zp.k11, ls, V.bin_gtr, lp, decide_true, B.gd_t, B.zhk, znk, ei, V.zmb, h105', B.zuj, B.zf, B.cond_true, zp.k9, ec]
  refine rv.num s1 (k := 2) (by omega) fun h2 rv2 => ?_
  simp -dsimp
  refine rv2.num s1 (k := 1) (by omega) fun h3 rv3 => ?_
  have n3 := zvy w.Value (rNum w.Value 2 ⟨0, false⟩).2
  unfold zmn at er
  generalize rNum w.Value 2 ⟨0, false⟩ = f at *
  obtain ⟨life, r1⟩ := f
  simp only at n3 rv3 er ⊢
  generalize rNum w.Value 1 r1 = g at *
  obtain ⟨m, r2⟩ := g
  simp only at n3 rv3 er ⊢
  have rv4 : RfL h0 h0 h3 (.sl 2 .nils [] [] :: .box (.ptr pid 0 0) (zhq s X Y Z) :: StaO s X P Y Z) (.ptr i18 0 0) v w.Value r2 := by
   obtain ⟨ho, hle⟩ := rv3
   exact ⟨(ho.nils 2).perm List.perm_append_comm, hle⟩
  refine ze.intro (fun t vs hh => ∃ (x : AVal) (acc : List Part) (r : Rdr), vs = [.int .i64 (t : Int), .agg [.str q, .int .i64 life, x, .nils]] /\ acc.length + t <= 255 /\ acc ++ (ze8 (zob w.Value) t r).1 = (ze8 (zob w.Value) m.toNat r2).1 /\ (ze8 (zob w.Value) t r).2 = (ze8 (zob w.Value) m.toNat r2).2 /\ RfL h0 h0 hh (.sl 2 x (acc.map Part.cs) [] :: .box (.ptr pid 0 0) (zhq s X Y Z) :: StaO s X P Y Z) (.ptr i18 0 0) v w.Value r) m.toNat ?_
   ⟨.nils, [], r2, by rw [Int.toNat_of_nonneg n3.1], by simp; omega, rfl, rfl, rv4⟩
  rintro Yc t vs hh ⟨x, acc, r, rfl, hal, e1, e2, hs⟩ hY
  obtain ⟨_, e, hbad⟩ := hs.ptr
  cases e
  simp +contextual -dsimp [hbad]
  refine B.zd (fun hc => ?_) (fun hc => ?_) <;> simp at hc
  ·obtain ⟨t, rfl⟩ : ∃ u, t = u + 1 := ⟨t - 1, by omega⟩
   simp only [ze8, hc.2, Bool.false_eq_true, if_false] at e1 e2
   refine hs.code s2 fun h4 rv5 => ?_
   simp +contextual -dsimp
   refine rv5.num s1 (k := 4) (by omega) fun h5 rv6 => ?_
   simp +contextual -dsimp
   refine rv6.push (k := 0) rfl rfl (by omega) (by simp; omega) (by simp [maxLen]; omega) fun x' h6 rv7 => ?_
   have e4 : IntKind.i64.wrap (t : Int) = (t : Int) := by rw [wrap_i64 (by omega) (by omega)]
   have c5 : x'.zi = true := (rv7.1.slAt 0 rfl).zi
   simp +contextual -dsimp [e4, c5]
   refine hY t _ _ (by omega) ⟨x', acc ++ [(zob w.Value r).1], (zob w.Value r).2, rfl, by simp; omega, ?_, e2, ?_⟩
   ·rw [<- e1, List.append_assoc]; rfl
   ·rw [List.map_append]; exact rv7
  ·rw [zi9 (by simpa using hc), List.append_nil] at e1
   rw [zi9 (by simpa using hc)] at e2
   simp only at e2
   subst e1
   rw [<- e2] at er
   refine hs.num s1 (k := 1) (by omega) fun h4 rv5 => ?_
   have n4 := zvy w.Value r
   generalize hps : (ze8 (zob w.Value) m.toNat r2).1 = ps at *
   generalize rNum w.Value 1 r = g at *
   obtain ⟨m2, r3⟩ := g
   simp only at n4 rv5 er ⊢
   have rv6 : RfL h0 h0 h4 (.sl 1 .nils [] [] :: .sl 2 x (ps.map Part.cs) [] :: .box (.ptr pid 0 0) (zhq s X Y Z) :: StaO s X P Y Z) (.ptr i18 0 0) v w.Value r3 := by
    obtain ⟨ho, hle⟩ := rv5
    exact ⟨(ho.nils 1).perm List.perm_append_comm, hle⟩
   refine ze.intro (fun t vs hh => ∃ (y : AVal) (acc : List (List UInt8)) (r : Rdr), vs = [.int .i64 (t : Int), .agg [.str q, .int .i64 life, x, y]] /\ acc.length + t <= 255 /\ acc ++ (ze8 (zfu w.Value) t r).1 = (ze8 (zfu w.Value) m2.toNat r3).1 /\ (ze8 (zfu w.Value) t r).2 = (ze8 (zfu w.Value) m2.toNat r3).2 /\ RfL h0 h0 hh (.sl 1 y (acc.map tc) [] :: .sl 2 x (ps.map Part.cs) [] :: .box (.ptr pid 0 0) (zhq s X Y Z) :: StaO s X P Y Z) (.ptr i18 0 0) v w.Value r) m2.toNat ?_
    ⟨.nils, [], r3, by rw [Int.toNat_of_nonneg n4.1], by simp; omega, rfl, rfl, rv6⟩
   rintro Zc t2 vs h5 ⟨y, acc, r', rfl, hal2, e3, e4, hs5⟩ hZ
   obtain ⟨_, e, hbad⟩ := hs5.ptr
   cases e
   simp +contextual -dsimp [hbad, - zp.k4]
   refine B.zd (fun hd => ?_) (fun hd => ?_) <;> simp -dsimp at hd
   ·obtain ⟨t2, rfl⟩ : ∃ u, t2 = u + 1 := ⟨t2 - 1, by omega⟩
    simp only [ze8, hd.2, Bool.false_eq_true, if_false] at e3 e4
    refine hs5.code s2 fun h6 rv7 => ?_
    simp +contextual -dsimp
    refine rv7.push (k := 0) rfl rfl (by omega) (by simp; omega) (by simp [maxLen]; omega) fun x' h7 rv8 => ?_
    have e6 : IntKind.i64.wrap (t2 : Int) = (t2 : Int) := by rw [wrap_i64 (by omega) (by omega)]
    have c5 : x'.zi = true := (rv8.1.slAt 0 rfl).zi
    simp +contextual -dsimp [e6, c5]
    refine hZ t2 _ _ (by omega) ⟨x', acc ++ [(zfu w.Value r').1], (zfu w.Value r').2, rfl, by simp; omega, ?_, e4, ?_⟩
    ·rw [<- e3, List.append_assoc]; rfl
    ·rw [List.map_append]; exact rv8
   ·rw [zi9 (by simpa using hd), List.append_nil] at e3
    rw [zi9 (by simpa using hd)] at e4
    simp only at e4
    subst e3
    rw [<- e4] at er
    generalize hos : (ze8 (zfu w.Value) m2.toNat r3).1 = os at *
    have ok1 : ps.length <= few := by rw [<- hps]; have := zld (zob w.Value) m.toNat r2; unfold few; omega
    have ok2 : os.length <= few := by rw [<- hos]; have := zld (zfu w.Value) m2.toNat r3; unfold few; omega
    obtain ⟨o5, _⟩ := hs5
    obtain ⟨_, e, hb5⟩ := o5.zgp 2 rfl
    cases e
    have hPl : P.length <= n := by have := hN.n; rw [<- hP, List.length_map] at this; omega
    simp -dsimp only [zp.k4, B.zd1, V.zdm, B.zf, Nat.zero_add, B.zg6, zd2 hb5, List.getElem?_cons_succ, List.getElem?_cons_zero]
    have hf := zn7 ze3 (⟨q, life, ps, os⟩ : Itm) (x, y)
    have hfn := zk1 ze3 (⟨q, life, ps, os⟩ : Itm) (x, y)
    have hf : zcr [(0, some 4, AVal.agg [.str q, .int .i64 life, x, y])] (repL 1 [.str [], .int .i64 0, .nils, .nils]) = some [.str q, .int .i64 life, x, y] := hf
    have hfn : V.zcd 0 4 (AVal.agg [.str q, .int .i64 life, x, y]) = some (.agg [.str q, .int .i64 life, x, y]) := hfn
    simp -dsimp only [hfn, hf, B.zf]
    refine o5.push 3 rfl rfl (by decide) (by simp; omega) (by simp [maxLen]; omega) fun X' h6 o6 _ => ?_
    have cX' : X'.zi = true := (o6.slAt 3 rfl).zi
    simp -dsimp only [B.zd1, V.zdm, B.zf, Nat.zero_add]
    refine o6.zkj 2 (off := 3) rfl cX' (by simp) fun h7 o7 _ => ?_
    refine fin { s with zem := s.zem ++ [⟨q, life, ps, os⟩] } X' (P ++ [(⟨q, life, ps, os⟩, (x, y))]) Y Z r' h7 (o7.perm ?_) er (by rw [List.map_append, hP]; rfl) ⟨by simp; have := hN.n; omega, fun t ht => ?_⟩
    ·unfold StaO
     rw [DK.zka, DK.zur]
     simp only [List.map_append, List.map_cons, List.map_nil]
     have pm : ∀ (a b : Ob) (M : List Ob) (r : List Ob), ((a :: b :: M) ++ r).Perm ((M ++ [b, a]) ++ r) := fun a b M r => ((List.Perm.swap b a M).trans (List.perm_append_comm (l₁ := [b, a]))).append_right r
     exact pm (.sl 1 y (os.map tc) []) (.sl 2 x (ps.map Part.cs) []) (.box (.ptr pid 0 0) [.int .i64 s.Now, .int .i64 s.zg3, .int .i64 s.zf3, X', Y, Z] :: .sl 4 X' (P.map ze3.cs ++ [[.str q, .int .i64 life, x, y]]) [] :: .sl 6 Y (s.Lots.map Lot.cs) [] :: .sl 8 Z (s.zel.map Line.cs) [] :: ze3.os false P) [.box (.ptr i18 0 0) [v, .int .i64 (r'.at_ : Int), .bool r'.bad]]
    ·rcases List.mem_append.1 ht with ht | ht
     ·exact hN.ok t ht
     ·rw [List.mem_singleton.1 ht]; exact ⟨ok1, ok2⟩
 ·have h105' : ¬ ((c.toNat : Nat) : Int) = 105 := fun e => h105 (UInt8.toNat_inj.1 (by have : (105 : UInt8).toNat = 105 := rfl; omega))
  have n105 : ¬ w.Key.head? = some 105 := fun e => by rw [hd0] at e; exact h105 (Option.some.inj e)
  simp -dsimp only [zp.k11, ls, V.bin_gtr, lp, decide_true, B.gd_t, B.zhk, znk, ei, V.zmb, h105', decide_false, B.zuj, B.zf, B.cond_false, zp.k10]
  by_cases h9 : q.length = 8
  rotate_left
  ·have h9' : ¬ (q.length : Int) + 1 = 9 := by omega
   simp -dsimp [h9', ls]
   refine hT ?_
   unfold zie
   rw [if_neg hk1, if_neg hk2, if_neg hk3, if_neg n105, if_neg (by rw [hkey]; simp [h9]), if_neg (by rw [hkey]; simp [h9])]
  have h9' : ((q.length + 1 : Nat) : Int) = 9 := by omega
  obtain ⟨kt, Rt, t1, t2, _⟩ := b0.zic (by omega) (lo := 1) (hi := w.Key.length) (a := some (.int .i64 1)) (b := none) (.inr ⟨_, rfl⟩) (.inl ⟨rfl, rfl⟩) (by rw [hkey]; simp) (by omega)
  rw [List.take_length] at t2
  have ct := t2.zi
  rw [hkey] at t2
  have t2 : SlX h0 1 kt (q.map bc) Rt := t2
  have hql : q.length < 4611686018427387904 := by omega
  by_cases h108 : c = 108
  ·have h108' : ((c.toNat : Nat) : Int) = 108 := by rw [h108]; rfl
   have er : zie w s = ({ s with Lots := s.Lots ++ [(zk4 w.Value (rNum q 8 ⟨0, false⟩).1 ⟨0, false⟩).1] }, (zk4 w.Value (rNum q 8 ⟨0, false⟩).1 ⟨0, false⟩).2.bad) := by
    unfold zie; rw [if_neg hk1, if_neg hk2, if_neg hk3, if_neg n105, if_pos ⟨by rw [hkey]; simp [h9], by rw [hd0, h108]⟩, hkey]; rfl
   simp -dsimp only [h9', h108', decide_true, B.gd_t, B.zhk, znk, ei, V.zmb, B.zuj, B.zf, B.cond_true, B.zhp, V.zeh, List.getElem?_cons_zero, t1]
   simp -dsimp [ct]
   intro i128 h128
   have o2 := rv.1.zkd h128 [kt, .int .i64 0, .bool false]
   generalize upd h1 i128 (zee [kt, .int .i64 0, .bool false]) = h2 at *
   have ri : RfL h0 h0 h2 ((.box (.ptr pid 0 0) (zhq s X Y Z) :: StaO s X P Y Z) ++ [.box (.ptr i18 0 0) [v, .int .i64 0, .bool false]]) (.ptr i128 0 0) kt q ⟨0, false⟩ := ⟨o2, ⟨Rt, t2⟩, za.le_refl _, Nat.zero_le _, hql⟩
   refine ri.num s1 (k := 8) (by omega) fun h3 ri2 => ?_
   have rv2 : RfL h0 h0 h3 (.box (.ptr pid 0 0) (zhq s X Y Z) :: StaO s X P Y Z) (.ptr i18 0 0) v w.Value ⟨0, false⟩ := ⟨ri2.1.sub (List.sublist_append_left _ _), hv.1, za.le_refl _, Nat.zero_le _, by omega⟩
   generalize (rNum q 8 ⟨0, false⟩).1 = id0 at *
   unfold zk4 at er
   refine rv2.code s2 fun h4 rv3 => ?_
   simp -dsimp
   refine rv3.num s1 (k := 2) (by omega) fun h5 rv4 => ?_
   simp -dsimp
   refine rv4.num s1 (k := 2) (by omega) fun h6 rv5 => ?_
   simp -dsimp
   refine rv5.num s1 (k := 4) (by omega) fun h7 rv6 => ?_
   simp -dsimp
   refine rv6.num s1 (k := 1) (by omega) fun h8 rv7 => ?_
   obtain ⟨o7, _⟩ := rv7
   obtain ⟨_, e, hb7⟩ := o7.zgp 0 rfl
   cases e
   simp -dsimp [zd2 hb7]
   refine o7.push 2 rfl rfl (by decide) (by simp; have := hN.n; omega) (by simp [maxLen]; have := hN.n; omega) fun Y' h9 o8 _ => ?_
   have cY' : Y'.zi = true := (o8.slAt 2 rfl).zi
   simp -dsimp only [B.zd1, V.zdm, B.zf, Nat.zero_add]
   refine o8.zkj 0 (off := 4) rfl cY' (by simp) fun h10 o9 _ => ?_
   refine fin { s with Lots := s.Lots ++ [_] } X P Y' Z _ h10 (o9.perm ?_) er hP ⟨by simp; have := hN.n; omega, hN.ok⟩
   unfold StaO
   simp only [List.map_append, List.map_cons, List.map_nil]
   exact List.Perm.refl _
  ·have h108' : ¬ ((c.toNat : Nat) : Int) = 108 := fun e => h108 (UInt8.toNat_inj.1 (by have : (108 : UInt8).toNat = 108 := rfl; omega))
   have n108 : ¬ w.Key.head? = some 108 := fun e => by rw [hd0] at e; exact h108 (Option.some.inj e)
   by_cases h111 : c = 111
   ·have h111' : ((c.toNat : Nat) : Int) = 111 := by rw [h111]; rfl
    have er : zie w s = ({ s with zel := s.zel ++ [(zi7 w.Value (rNum q 8 ⟨0, false⟩).1 ⟨0, false⟩).1] }, (zi7 w.Value (rNum q 8 ⟨0, false⟩).1 ⟨0, false⟩).2.bad) := by
     unfold zie; rw [if_neg hk1, if_neg hk2, if_neg hk3, if_neg n105, if_neg (fun e => n108 e.2), if_pos ⟨by rw [hkey]; simp [h9], by rw [hd0, h111]⟩, hkey]; rfl
    simp -dsimp only [h9', h111', show ¬ (111 : Int) = 108 by decide, decide_true, decide_false, B.gd_t, B.zhk, znk, ls, ei, V.zmb, B.zuj, B.zf, B.cond_true, B.cond_false, B.zhp, V.zeh, List.getElem?_cons_zero, t1]
    simp -dsimp [ct]
    intro i128 h128
    have o2 := rv.1.zkd h128 [kt, .int .i64 0, .bool false]
    generalize upd h1 i128 (zee [kt, .int .i64 0, .bool false]) = h2 at *
    have ri : RfL h0 h0 h2 ((.box (.ptr pid 0 0) (zhq s X Y Z) :: StaO s X P Y Z) ++ [.box (.ptr i18 0 0) [v, .int .i64 0, .bool false]]) (.ptr i128 0 0) kt q ⟨0, false⟩ := ⟨o2, ⟨Rt, t2⟩, za.le_refl _, Nat.zero_le _, hql⟩
    refine ri.num s1 (k := 8) (by omega) fun h3 ri2 => ?_
    have rv2 : RfL h0 h0 h3 (.box (.ptr pid 0 0) (zhq s X Y Z) :: StaO s X P Y Z) (.ptr i18 0 0) v w.Value ⟨0, false⟩ := ⟨ri2.1.sub (List.sublist_append_left _ _), hv.1, za.le_refl _, Nat.zero_le _, by omega⟩
    generalize (rNum q 8 ⟨0, false⟩).1 = id0 at *
    unfold zi7 at er
    refine rv2.code s2 fun h4 rv3 => ?_
    simp -dsimp
    refine rv3.num s1 (k := 4) (by omega) fun h5 rv4 => ?_
    simp -dsimp
    refine rv4.num s1 (k := 2) (by omega) fun h6 rv5 => ?_
    simp -dsimp
    refine rv5.num s1 (k := 1) (by omega) fun h7 rv6 => ?_
    simp -dsimp
    refine rv6.num s1 (k := 1) (by omega) fun h8 rv7 => ?_
    simp -dsimp [zj1]
    refine rv7.num s1 (k := 2) (by omega) fun h9 rv8 => ?_
    simp -dsimp
    refine rv8.code s2 fun h10 rv9 => ?_
    obtain ⟨o7, _⟩ := rv9
    obtain ⟨_, e, hb7⟩ := o7.zgp 0 rfl
    cases e
    simp -dsimp [zd2 hb7]
    refine o7.push 3 rfl rfl (by decide) (by simp; have := hN.n; omega) (by simp [maxLen]; have := hN.n; omega) fun Y' h11 o8 _ => ?_
    have cY' : Y'.zi = true := (o8.slAt 3 rfl).zi
    simp -dsimp only [B.zd1, V.zdm, B.zf, Nat.zero_add]
    refine o8.zkj 0 (off := 5) rfl cY' (by simp) fun h12 o9 _ => ?_
    refine fin { s with zel := s.zel ++ [_] } X P Y Y' _ h12 (o9.perm ?_) er hP ⟨by simp; have := hN.n; omega, hN.ok⟩
    unfold StaO
    simp only [List.map_append, List.map_cons, List.map_nil]
    exact List.Perm.refl _
   ·have h111' : ¬ ((c.toNat : Nat) : Int) = 111 := fun e => h111 (UInt8.toNat_inj.1 (by have : (111 : UInt8).toNat = 111 := rfl; omega))
    have n111 : ¬ w.Key.head? = some 111 := fun e => by rw [hd0] at e; exact h111 (Option.some.inj e)
    have h9'' : (q.length : Int) + 1 = 9 := by omega
    simp -dsimp [h9'', h108', h111', ls, ei]
    refine hT ?_
    unfold zie
    rw [if_neg hk1, if_neg hk2, if_neg hk3, if_neg n105, if_neg (fun e => n108 e.2), if_neg (fun e => n111 e.2)]
end Go.Ab
namespace Go.Ab
def outR (p : Option Row) (x : Row) : Bool := match p with | some q => !zkf q.Key x.Key | none => false
theorem outB_eq (p : Option Row) (x : Row) : outB p x = (outR p x || decide (x.Key = [])) := by
 unfold outB outR
 cases p with
 | none => rfl
 | some q =>
  have : decide (0 <= cmpB q.Key x.Key) = !zkf q.Key x.Key := by
   have := cmpB_neg (a := q.Key) (b := x.Key)
   cases h : zkf q.Key x.Key with
   | true => have := this.2 h; simp; omega
   | false =>
    have : ¬ cmpB q.Key x.Key < 0 := fun e => by rw [this.1 e] at h; cases h
    simp; omega
  show (decide (0 <= cmpB q.Key x.Key) || _) = (!zkf q.Key x.Key || _)
  rw [this]
def ziy : List Row -> Option Row -> Sta -> List Row -> Option (Sta × List Row)
 | [], _, s, m => some (s, m)
 | x :: l, p, s, m => if outR p x = true then none else if x.Key.head? = some 97 then ziy l (some x) s m else if (zie x s).2 = true then none else ziy l (some x) (zie x s).1 (m ++ [x])
def ztf (x : Row) : Bool := decide (x.Key.length = 9) || !(decide (x.Key.head? = some 108) || decide (x.Key.head? = some 111))
theorem rNum_ok {b : List UInt8} (h : b.length = 8) : (rNum b 8 ⟨0, false⟩).2.bad = false := by
 simp [rNum, h]
theorem rfRow_nine {x : Row} {s : Sta} (h : ztf x = true) : zie x s = zpn x s := by
 unfold zie zpn
 by_cases h1 : x.Key = [42, 100, 97, 121]
 ·rw [if_pos h1, if_pos h1]
 rw [if_neg h1, if_neg h1]
 by_cases h2 : x.Key = [42, 108, 111, 116]
 ·rw [if_pos h2, if_pos h2]
 rw [if_neg h2, if_neg h2]
 by_cases h3 : x.Key = [42, 108, 105, 110, 101]
 ·rw [if_pos h3, if_pos h3]
 rw [if_neg h3, if_neg h3]
 by_cases h4 : x.Key.head? = some 105
 ·rw [if_pos h4, if_pos h4]
 rw [if_neg h4, if_neg h4]
 unfold ztf at h
 by_cases h5 : x.Key.head? = some 108
 ·have h9 : x.Key.length = 9 := by simpa [h5] using h
  rw [if_pos ⟨h9, h5⟩, if_pos h5, rNum_ok (b := x.Key.drop 1) (by simp [h9]), Bool.or_false]
 rw [if_neg h5, if_neg fun e => h5 e.2]
 by_cases h6 : x.Key.head? = some 111
 ·have h9 : x.Key.length = 9 := by simpa [h6] using h
  rw [if_pos ⟨h9, h6⟩, if_pos h6, rNum_ok (b := x.Key.drop 1) (by simp [h9]), Bool.or_false]
 rw [if_neg h6, if_neg fun e => h6 e.2]
theorem rfRow_not {x : Row} {s : Sta} (h : ztf x = false) : (zie x s).2 = true := by
 unfold ztf at h
 simp only [Bool.or_eq_false_iff, decide_eq_false_iff_not, Bool.not_eq_false', Bool.or_eq_true, decide_eq_true_eq] at h
 obtain ⟨h9, h0⟩ := h
 unfold zie
 rw [if_neg (fun e => by rw [e] at h0; simp at h0), if_neg (fun e => by rw [e] at h0; simp at h0), if_neg (fun e => by rw [e] at h0; simp at h0), if_neg (fun e => by rw [e] at h0; simp at h0), if_neg fun e => h9 e.1, if_neg fun e => h9 e.1]
theorem rfRow_nil {x : Row} {s : Sta} (h : x.Key = []) : (zie x s).2 = true := by
 unfold zie
 rw [h]; rfl
theorem zm6 : ∀ (l : List Row) (p : Option Row) (s : Sta) (m : List Row), (∀ x ∈ zga l, ztf x = true) -> ziy l p s m = zmd l p s m
 | [], p, s, m, _ => rfl
 | x :: l, p, s, m, h => by
  rw [ziy, zmd, outB_eq]
  by_cases ho : outR p x = true
  ·rw [if_pos ho, if_pos (by rw [ho]; rfl)]
  rw [if_neg ho]
  have ho : outR p x = false := by simpa using ho
  by_cases ha : x.Key.head? = some 97
  ·have hk : ¬ x.Key = [] := fun e => by rw [e] at ha; cases ha
   have e : zga (x :: l) = zga l := by simp [zga, zrh, ha]
   have hob : ¬ (outR p x || decide (x.Key = [])) = true := by simp [ho, hk]
   rw [if_neg hob, if_pos ha, if_pos ha]
   exact zm6 l _ s m (by rw [<- e]; exact h)
  ·have e : zga (x :: l) = x :: zga l := by simp [zga, zrh, ha]
   rw [e] at h
   rw [if_neg ha, if_neg ha]
   by_cases hk : x.Key = []
   ·have hob : (outR p x || decide (x.Key = [])) = true := by simp [hk]
    rw [if_pos hob, if_pos (rfRow_nil hk)]
   have hob : ¬ (outR p x || decide (x.Key = [])) = true := by simp [ho, hk]
   rw [if_neg hob, rfRow_nine (h x (by simp))]
   rw [zm6 l _ _ _ fun y hy => h y (by simp [hy])]
theorem zm5 : ∀ (l : List Row) (p : Option Row) (s : Sta) (m : List Row) (r : Sta × List Row), ziy l p s m = some r -> ∀ x ∈ zga l, ztf x = true
 | [], p, s, m, _, _ => by simp
 | x :: l, p, s, m, r, h => by
  rw [ziy] at h
  by_cases ho : outR p x = true
  ·rw [if_pos ho] at h; cases h
  rw [if_neg ho] at h
  by_cases ha : x.Key.head? = some 97
  ·have e : zga (x :: l) = zga l := by simp [zga, zrh, ha]
   rw [if_pos ha] at h
   rw [e]
   exact zm5 l _ _ _ r h
  ·have e : zga (x :: l) = x :: zga l := by simp [zga, zrh, ha]
   rw [if_neg ha] at h
   by_cases hb : (zie x s).2 = true
   ·rw [if_pos hb] at h; cases h
   rw [if_neg hb] at h
   rw [e]
   intro y hy
   rcases List.mem_cons.1 hy with rfl | hy
   ·cases hn : ztf y with
    | true => rfl
    | false => exact absurd (rfRow_not hn) hb
   ·exact zm5 l _ _ _ r h y hy
theorem all_nine (s : Sta) : ∀ x ∈ allRows s, ztf x = true := by
 unfold allRows
 cases zg5 s with
 | false => simp
 | true =>
  intro x hx
  simp only [cond_true, zpm, zhx, List.cons_append, List.nil_append, List.mem_cons, List.mem_append, List.mem_map] at hx
  rcases hx with rfl | rfl | rfl | ⟨t, ht, rfl⟩ | ⟨t, _, rfl⟩ | ⟨t, _, rfl⟩
  ·rfl
  ·rfl
  ·rfl
  ·simp [ztf, zk6]
  ·simp [ztf, zlk]
  ·simp [ztf, zi1]
theorem zt9 (l : List Row) : stEnd (ziy l none zew []) = zfg l := by
 unfold zfg
 by_cases h : ∀ x ∈ zga l, ztf x = true
 ·rw [zm6 _ _ _ _ h]
 ·have e : ziy l none zew [] = none := by
   cases e : ziy l none zew [] with
   | none => rfl
   | some r => exact absurd (zm5 _ _ _ _ _ e) h
  rw [e]
  cases e2 : zmd l none zew [] with
  | none => rfl
  | some r =>
   obtain ⟨s, m⟩ := r
   obtain ⟨_, h2, _⟩ := zrx _ _ _ _ _ _ e2
   rw [List.nil_append] at h2
   show (zew, (4 : Int)) = (if allRows s = m /\ m ≠ [] then (s, 0) else (zew, 4))
   rw [if_neg]
   rintro ⟨e3, _⟩
   exact h fun x hx => all_nine s x (by rw [e3, h2]; exact hx)
abbrev Ents (K T : Type) := List (K × T × Nat)
section
variable {K T : Type} [DecidableEq K]
end
section
variable {kd : KD} {K T : Type} [DecidableEq K] {κ : K -> AVal} {v : T -> AVal}
end
section
variable {h0 h : za} {l : List Ob} {kd : KD} {K T : Type} [DecidableEq K] {κ : K -> AVal} {v : T -> AVal}
end
end Go.Ab
namespace Go.Ab
variable {C : CSem} {N : zN}
def zbe.Spec (C : CSem) (N : zN) : Prop := ∀ (x : AVal) (L : List Row) (h : za) (Q : zQ), Dl rowK h x L -> L.length <= 100000 ->
 (∀ x' P y' z' h', P.map (·.1) = (zfg L).1.zem -> StaN (zfg L).1 L.length -> Owns h h' (StaO (zfg L).1 x' P y' z') -> Q (.tup [.agg (zhq (zfg L).1 x' y' z'), .int .i64 (zfg L).2]) h') -> C (N 452) [x] h Q
theorem prev_cond {L : List Row} {x : AVal} {hh : za} (hx : Dl rowK hh x L) {k : Nat} {w : Row} (hw : L[k]? = some w) (hk : k < 4611686018427387904) {K : zQ} (hK : K (.bool (outR (zm8 L k) w)) hh) :
  B.pv (V.bin .gtr (.int .i64 (k : Int)) (.int .i64 0)) fun v17 =>
  B.gd hh v17 true (fun K => K x hh) fun v19 h =>
  B.gd h v17 true (fun K => K (.int .i64 (k : Int)) h) fun v20 h =>
  B.gd h v17 true (fun K => B.pv (V.bin .sub v20 (.int .i64 1)) fun v => K v h) fun v21 h =>
  B.gd h v17 true (fun K => B.pv (V.idxS 2 v19 v21) fun v => K v h) fun v22 h =>
  B.gd h v17 true (fun K => B.pv (V.fieldAddr 0 v22) fun v => K v h) fun v23 h =>
  B.gd h v17 true (fun K => B.ld h v23 fun v => K v h) fun v24 h =>
  B.gd h v17 true (fun K => K x h) fun v26 h =>
  B.gd h v17 true (fun K => K (.int .i64 (k : Int)) h) fun v27 h =>
  B.gd h v17 true (fun K => B.pv (V.idxS 2 v26 v27) fun v => K v h) fun v28 h =>
  B.gd h v17 true (fun K => B.pv (V.fieldAddr 0 v28) fun v => K v h) fun v29 h =>
  B.gd h v17 true (fun K => B.ld h v29 fun v => K v h) fun v30 h =>
  B.gd h v17 true (fun K => B.zda h v24 fun v => K v h) fun v25 h =>
  B.gd h v17 true (fun K => B.zda h v30 fun v => K v h) fun v31 h =>
  B.gd h v17 true (fun K => B.pv (V.bin .geq v25 v31) fun v => K v h) fun v32 h =>
  B.pick v17 v32 (.bool false) fun v33 => K v33 h := by
 by_cases h0 : k = 0
 ·subst h0
  have : outR (zm8 L 0) w = false := rfl
  rw [this] at hK
  simp -dsimp
  exact hK
 ·obtain ⟨u, hu⟩ := zc5 (L := L) (k := k - 1) (by have := (List.getElem?_eq_some_iff.1 hw).1; omega)
  obtain ⟨kp, vp, f1, f2, f3, f4, f5, f6, c1, c2⟩ := zj4 hx hu
  obtain ⟨kx, vx, e1, e2, e3, e4, e5, e6, d1, d2⟩ := zj4 hx hw
  obtain ⟨R1, q1⟩ := c1.1
  obtain ⟨R2, q2⟩ := d1.1
  have sk := sub1 (a := k) (by omega) (by omega)
  have hk0 : 0 < k := by omega
  have hk0' : (0 : Int) < (k : Int) := by omega
  have hpv : outR (zm8 L k) w = !zkf u.Key w.Key := by
   have : zm8 L k = some u := by unfold zm8; rw [if_neg h0]; exact hu
   rw [this]; rfl
  rw [hpv] at hK
  simp -dsimp [sk, f1, f3, f5, e1, e3, e5, hk0, hk0', zdz q1, zdz q2, V.bin_sgeq, - V.zi3]
  exact hK
theorem ans_cond {L : List Row} {x : AVal} {hh : za} (hx : Dl rowK hh x L) {k : Nat} {w : Row} (hw : L[k]? = some w) {K : zQ} (hK : K (.bool (zrh w)) hh) :
  B.pv (V.idxS 2 x (.int .i64 (k : Int))) fun v37 =>
  B.pv (V.fieldAddr 0 v37) fun v38 =>
  B.ld hh v38 fun v39 =>
  B.pv (V.zj v39) fun v40 =>
  B.pv (V.bin .gtr v40 (.int .i64 0)) fun v41 =>
  B.gd hh v41 true (fun K => K x hh) fun v43 h =>
  B.gd h v41 true (fun K => K (.int .i64 (k : Int)) h) fun v44 h =>
  B.gd h v41 true (fun K => B.pv (V.idxS 2 v43 v44) fun v => K v h) fun v45 h =>
  B.gd h v41 true (fun K => B.pv (V.fieldAddr 0 v45) fun v => K v h) fun v46 h =>
  B.gd h v41 true (fun K => B.ld h v46 fun v => K v h) fun v47 h =>
  B.gd h v41 true (fun K => B.pv (V.idxS 1 v47 (.int .i64 0)) fun v => K v h) fun v48 h =>
  B.gd h v41 true (fun K => B.ld h v48 fun v => K v h) fun v49 h =>
  B.gd h v41 true (fun K => B.pv (V.bin .eql v49 (.int .u8 97)) fun v => K v h) fun v50 h =>
  B.pick v41 v50 (.bool false) fun v51 => K v51 h := by
 obtain ⟨kx, vx, e1, e2, e3, e4, e5, e6, d1, d2⟩ := zj4 hx hw
 have lk := d1.zj
 cases hkey : w.Key with
 | nil =>
  have : zrh w = false := by unfold zrh; rw [hkey]; rfl
  rw [this] at hK
  rw [hkey] at lk
  simp -dsimp [e1, e3, e5, lk]
  exact hK
 | cons c q =>
  have lp : (0 : Int) < (w.Key.length : Int) := by rw [hkey]; simp
  have lp' : 0 < w.Key.length := by rw [hkey]; simp
  obtain ⟨R2, q2⟩ := d1.1
  have i0 : V.idxS 1 kx (.int .i64 0) = some (elp 1 kx 0 0) := q2.idxN (i := 0) (by simpa using lp')
  have l0 : A.ldv hh (elp 1 kx 0 0) = some (.int .u8 (c.toNat : Int)) := q2.cell (i := 0) (by rw [hkey]; rfl)
  have : zrh w = decide ((c.toNat : Int) = 97) := by
   unfold zrh
   rw [hkey, Bool.eq_iff_iff]
   simp only [List.head?_cons, Option.some.injEq, decide_eq_true_eq]
   constructor
   ·intro e; rw [e]; rfl
   ·intro e
    have : c.toNat = (97 : UInt8).toNat := by show c.toNat = 97; omega
    exact UInt8.toNat_inj.1 this
  rw [this] at hK
  simp -dsimp [e1, e3, e5, lk, lp, lp', i0, l0]
  exact hK
theorem zbe.spec (i : zbe.Imp C N) (s1 : zp.Spec C N) (s2 : zbw.Spec C N) : zbe.Spec C N := by
 intro x L h Q hx hlen hq
 apply i
 have hlx := hx.zj
 simp -dsimp only [zbe.cps, zbe.k7]
 simp -dsimp [- zbe.k5, - zbe.l6]
 intro i4 h4
 have o1 := ((((Owns.start h).zkd h4 [.int .i64 0, .int .i64 0, .int .i64 0, .nils, .nils, .nils]).nils 2).nils 4).nils 6 |>.nils 8
 generalize upd h i4 _ = h1 at *
 refine o1.boxStn 0 rfl rfl rfl fun h2 o2 _ => ?_
 have o2 : Owns h h2 (.box (.ptr i4 0 0) (zhq zew .nils .nils .nils) :: .sl 2 .nils [] [] :: StaO zew .nils [] .nils .nils) := o2
 refine ze.intro (fun n vs hh => ∃ (k : Nat) (mine : AVal) (M : List (Row × (AVal × AVal))) (s : Sta) (X : AVal) (P : List (Itm × (AVal × AVal))) (Y Z : AVal), k + n = L.length /\ vs = [mine, .int .i64 (k : Int), .agg [.int .i64 0, .int .i64 0, .int .i64 0, .nils, .nils, .nils]] /\ P.map (·.1) = s.zem /\ StaN s k /\ M.length <= k /\ (∀ q ∈ M, rowK.at_ h q.1 q.2) /\
   Owns h hh (.box (.ptr i4 0 0) (zhq s X Y Z) :: .sl 2 mine (M.map rowK.cs) [] :: StaO s X P Y Z) /\ ziy (L.drop k) (zm8 L k) s (M.map (·.1)) = ziy L none zew []) L.length ?_ ⟨0, .nils, [], zew, .nils, [], .nils, .nils, by simp, rfl, rfl, ⟨by simp [zew], by simp [zew]⟩, by simp, by simp, o2, rfl⟩
 rintro Y n vs hh ⟨k, mine, M, s, X, P, Ys, Z, hk, rfl, hP, hN, hM, hat, ho, hst⟩ hY
 have zero : ∀ h', h.le h' -> zfg L = (zew, 4) -> dn Q (.tup [.agg [.int .i64 0, .int .i64 0, .int .i64 0, .nils, .nils, .nils], .int .i64 4]) h' := fun h' hle e => by
  rw [e] at hq
  exact zrk hle (hq .nils [] .nils .nils h rfl ⟨by simp [zew], by simp [zew]⟩ (((Owns.start h).nils 4).nils 6 |>.nils 8))
 simp -dsimp only [zbe.l6, zbe.k5, hlx, V.znt, B.zf]
 refine B.zd (fun hc => ?_) (fun hc => ?_)
 ·rw [decide_eq_true_eq] at hc
  have hc : k < L.length := by omega
  obtain ⟨w, hw⟩ := zc5 hc
  have hxx := hx.mono ho.le
  obtain ⟨P0, R0, eP0, sx, at0⟩ := id hx
  obtain ⟨⟨kx, vx⟩, hq0⟩ : ∃ a, P0[k]? = some (w, a) := by
   rw [<- eP0, List.getElem?_map] at hw
   obtain ⟨q, h1, h2⟩ := Option.map_eq_some_iff.1 hw
   exact ⟨q.2, by rw [h1, <- h2]⟩
  obtain ⟨d1, d2⟩ : Bs h kx w.Key /\ Bs h vx w.Value := at0 _ (List.mem_of_getElem? hq0)
  have ea : ∀ {h' : za}, h.le h' -> V.idxS 2 x (.int .i64 (k : Int)) = some (elp 2 x k 0) /\ A.ldnv h' (elp 2 x k 0) 2 = some (.agg [kx, vx]) := fun hle => by
   have ea := slX_el (sx.mono hle) (fun p hp => rowK.mono hle (at0 p hp)) hq0
   exact ⟨ea.idx, ea.ldn⟩
  have hd : L.drop k = w :: L.drop (k + 1) := by
   obtain ⟨h1, h2⟩ := List.getElem?_eq_some_iff.1 hw
   rw [List.drop_eq_getElem_cons h1, h2]
  have hprev : zm8 L (k + 1) = some w := by unfold zm8; rw [if_neg (by omega)]; exact hw
  rw [hd, ziy] at hst
  refine prev_cond hxx hw (by omega) ?_
  refine B.zd (fun hb => ?_) (fun hb => ?_)
  ·rw [if_pos hb] at hst
   simp -dsimp
   refine zero hh ho.le ?_
   rw [<- zt9, <- hst]; rfl
  rw [if_neg (by rw [hb]; exact Bool.false_ne_true)] at hst
  refine ans_cond hxx hw ?_
  refine B.zd (fun ha => ?_) (fun ha => ?_)
  ·rw [if_pos (by simpa [zrh] using ha)] at hst
   simp -dsimp only [add1 (show k < 4611686018427387904 by omega), B.zf]
   exact hY (L.length - (k + 1)) _ _ (by omega) ⟨k + 1, mine, M, s, X, P, Ys, Z, by omega, rfl, hP, ⟨by have := hN.n; omega, hN.ok⟩, by omega, hat, ho, by rw [hprev]; exact hst⟩
  rw [if_neg (by simpa [zrh] using ha)] at hst
  obtain ⟨ei, el⟩ := ea ho.le
  simp -dsimp only [ei, el, B.zf, B.zhn]
  have ho' := ho.perm (List.Perm.swap ..)
  obtain ⟨q1, q2⟩ := (Owns.out (l1 := [_]) ho')
  refine s1 _ _ _ s X P Ys Z w kx vx k _ q2 hP hN (by omega) (d1.mono q1.le) (d2.mono q1.le) fun s' X' P' Y' Z' h3 o3 eP3 hN3 hs3 => ?_
  have o4 := q1.join o3
  simp -dsimp only [V.zo1, B.zf, Bool.not_not]
  refine B.zd (fun hbad => ?_) (fun hbad => ?_)
  ·rw [if_pos hbad] at hst
   simp -dsimp
   refine zero h3 o4.le ?_
   rw [<- zt9, <- hst]; rfl
  rw [if_neg (by rw [hbad]; exact Bool.false_ne_true), <- hs3 hbad] at hst
  obtain ⟨ei, el⟩ := ea o4.le
  have ck := d1.zi
  have cv := d2.zi
  simp -dsimp [ei, el, ck, cv, - V.zej]
  refine o4.push 0 rfl (cs := [kx, vx]) rfl (by omega) (by simp; omega) (by simp [maxLen]; omega) fun mine' h5 o5 _ => ?_
  simp -dsimp only [add1 (show k < 4611686018427387904 by omega), B.zf]
  refine hY (L.length - (k + 1)) _ _ (by omega) ⟨k + 1, mine', M ++ [(w, (kx, vx))], s', X', P', Y', Z', by omega, rfl, eP3, hN3, by simp; omega, ?_, (o5.perm ?_), by rw [hprev, List.map_append]; exact hst⟩
  ·intro q hq
   rcases List.mem_append.1 hq with hq | hq
   ·exact hat q hq
   ·rw [List.mem_singleton.1 hq]; exact ⟨d1, d2⟩
  ·rw [List.map_append]
   exact List.Perm.swap ..
 ·rw [decide_eq_false_iff_not] at hc
  have : k = L.length := by omega
  subst this
  rw [List.drop_length, ziy] at hst
  have hst : stEnd (some (s, M.map (·.1))) = zfg L := by rw [<- zt9, <- hst]
  obtain ⟨_, e, hbx⟩ := ho.zgp 0 rfl
  cases e
  have ha : zk8 hh s X Ys Z := StaO.at ho (fun o hm => List.mem_cons_of_mem _ (List.mem_cons_of_mem _ hm)) hP hN (by omega)
  have cx := ha.items.zi
  have cy : Ys.zi = true := ha.lots.elim fun _ r => r.zi
  have cz : Z.zi = true := ha.lines.elim fun _ r => r.zi
  simp -dsimp only [B.zhn, ldnv_at hbx, List.length_cons, List.length_nil, List.drop_zero, List.take_succ_cons, List.take_zero, Nat.zero_add, Nat.le_refl, if_true, B.zf]
  refine s2 s X Ys Z hh _ ha (by have := hN.n; omega) fun x' P' h1 eP o1 => ?_
  have dx : Dl rowK h1 x' (allRows s) := by
   rw [<- eP]
   exact Df.dl o1 fun p hp => zsl _ (by rw [<- eP]; exact List.mem_map.2 ⟨p, hp, rfl⟩)
  have hle : h.le h1 := za.le_trans ho.le o1.le
  have dm : Dl rowK h1 mine (M.map (·.1)) := ⟨M, [], rfl, (ho.slAt 1 rfl).mono o1.le, fun q hq => rowK.mono hle (hat q hq)⟩
  have hal : (allRows s).length < 200000 := by
   unfold allRows
   cases zg5 s <;> simp [zpm, zhx]
   have := hN.n
   omega
  have lm := dm.zj
  have lx := dx.zj
  have hb1 := ldnv_at (o1.le _ _ hbx) 0 6
  have no : ¬ (allRows s = M.map (·.1) /\ M.map (·.1) ≠ []) -> dn Q (.tup [.agg [.int .i64 0, .int .i64 0, .int .i64 0, .nils, .nils, .nils], .int .i64 4]) h1 := fun e => by
   refine zero h1 hle ?_
   rw [<- hst]
   show (if allRows s = M.map (·.1) /\ M.map (·.1) ≠ [] then _ else _) = _
   rw [if_neg e]
  have yes : (allRows s = M.map (·.1) /\ M.map (·.1) ≠ []) -> dn Q (.tup [.agg (zhq s X Ys Z), .int .i64 0]) h1 := fun e => by
   have e2 : zfg L = (s, 0) := by
    rw [<- hst]
    show (if allRows s = M.map (·.1) /\ M.map (·.1) ≠ [] then _ else _) = _
    rw [if_pos e]
   rw [e2] at hq
   exact zrk o1.le (hq X P Ys Z hh hP hN (ho.sub (List.Sublist.trans (List.sublist_cons_self _ _) (List.sublist_cons_self _ _))))
  generalize hA : allRows s = A at *
  generalize hMM : M.map (·.1) = M' at *
  have hml : M'.length <= 100000 := by rw [<- hMM, List.length_map]; omega
  by_cases hA0 : A = []
  ·subst hA0
   simp -dsimp [lx]
   exact no fun e => e.2 e.1.symm
  have hAl : 0 < A.length := List.length_pos_iff.2 hA0
  have hAl' : ¬ (A.length : Int) = 0 := by omega
  by_cases hlen2 : A.length = M'.length
  rotate_left
  ·have hne : ¬ (A.length : Int) = (M'.length : Int) := by omega
   simp -dsimp [lx, lm, hAl', hne, hA0, hlen2]
   exact no fun e => hlen2 (by rw [e.1])
  have lx' : V.zj x' = some (.int .i64 (M'.length : Int)) := by rw [<- hlen2]; exact lx
  have hm0 : M' ≠ [] := fun e => by rw [e] at hlen2; exact hA0 (List.length_eq_zero_iff.1 hlen2)
  have hm1 : ¬ (M'.length : Int) = 0 := by have := List.length_pos_iff.2 hm0; omega
  simp -dsimp [lx', lm, hm0, hm1, - zbe.l3, - zbe.k2]
  refine ze.intro (fun n vs hh => ∃ k : Nat, k + n = M'.length /\ vs = [.int .i64 (k : Int), .agg [.int .i64 0, .int .i64 0, .int .i64 0, .nils, .nils, .nils]] /\ hh = h1 /\ A.take k = M'.take k) M'.length ?_ ⟨0, by simp, rfl, rfl, rfl⟩
  rintro Yc n vs hh2 ⟨k, hk2, rfl, rfl, htk⟩ hYc
  simp -dsimp only [zbe.l3, zbe.k2, lx', V.znt, B.zf]
  refine B.zd (fun hd => ?_) (fun hd => ?_)
  ·rw [decide_eq_true_eq] at hd
   obtain ⟨u, hu⟩ := zc5 (L := A) (k := k) (by omega)
   obtain ⟨w, hw⟩ := zc5 (L := M') (k := k) (by omega)
   obtain ⟨ku, vu, f1, f2, f3, f4, f5, f6, p1, p2⟩ := zj4 dx hu
   obtain ⟨kw, vw, g1, g2, g3, g4, g5, g6, r1, r2⟩ := zj4 dm hw
   obtain ⟨R1, p1⟩ := p1.1
   obtain ⟨R2, p2⟩ := p2.1
   obtain ⟨R3, r1⟩ := r1.1
   obtain ⟨R4, r2⟩ := r2.1
   have bad : u ≠ w -> ¬ (A = M' /\ M' ≠ []) := fun hne e => hne (by rw [e.1] at hu; exact Option.some.inj (hu.symm.trans hw))
   by_cases hkk : u.Key = w.Key
   rotate_left
   ·simp -dsimp [f1, f3, f5, g1, g3, g5, zdz p1, zdz r1, hkk]
    exact no (bad fun e => hkk (by rw [e]))
   by_cases hvv : u.Value = w.Value
   rotate_left
   ·simp -dsimp [f1, f3, f4, f5, f6, g1, g3, g4, g5, g6, zdz p1, zdz r1, zdz p2, zdz r2, hkk, hvv]
    exact no (bad fun e => hvv (by rw [e]))
   have a1 := add1 (show k < 4611686018427387904 by omega)
   simp -dsimp [f1, f3, f4, f5, f6, g1, g3, g4, g5, g6, zdz p1, zdz r1, zdz p2, zdz r2, hkk, hvv, - V.zej]
   rw [a1]
   have huw : u = w := by cases u; cases w; simp only at hkk hvv; rw [hkk, hvv]
   refine hYc (M'.length - (k + 1)) _ _ (by omega) ⟨k + 1, by omega, rfl, rfl, ?_⟩
   rw [take_succ hu, take_succ hw, htk, huw]
  ·rw [decide_eq_false_iff_not] at hd
   have : k = M'.length := by omega
   subst this
   rw [List.take_length, <- hlen2, List.take_length] at htk
   simp -dsimp [hb1, cx, cy, cz]
   exact yes ⟨htk, hm0⟩
end Go.Ab
namespace Go.Ab
variable {C : CSem} {N : zN}
theorem ones_apart {T Ad : Type} {K : DK T Ad} {inn : T -> Ad -> LKs} {k g n : Nat} {b : BagK} (hn : K.n = n) (s : ApartG K inn k b C g) {h0 h : za} {t u : T} {a c : Ad} {Q : zQ} (ho : Owns h0 h (K.obs false t a ++ K.obs false u c)) (ht : K.ok t) (hu : K.ok u)
  (hf : ∀ x y, Fits b (allL K inn k [(x, [(t, a)]), (y, [(u, c)])])) {i1 i2 i3 : Nat} (f1 : h i1 = none) (f2 : upd h i1 (zee (K.cells t a)) i2 = none) (f3 : upd (upd h i1 (zee (K.cells t a))) i2 (zee (K.cells u c)) i3 = none) (hq : ∀ h', h0.le h' -> Q (.bool true) h') :
  C g [.sl i3 0 0 2 1 2] (upd (upd (upd h i1 (zee (K.cells t a))) i2 (zee (K.cells u c))) i3 (zee [.sl i1 0 0 1 n 1, .sl i2 0 0 1 n 1])) Q := by
 subst hn
 have o1 := ho.zmz f1 (n := 1) (cp := 1) (es := K.n) (cs := K.cells t a) (L := [K.cells t a]) (R := []) (fun p hp => by rw [List.append_nil] at hp; rw [List.mem_singleton.1 hp]; exact K.len t a) rfl (by simp) (by simp)
 have o2 := o1.zmz f2 (n := 1) (cp := 1) (es := K.n) (cs := K.cells u c) (L := [K.cells u c]) (R := []) (fun p hp => by rw [List.append_nil] at hp; rw [List.mem_singleton.1 hp]; exact K.len u c) rfl (by simp) (by simp)
 have o3 := o2.zmz f3 (n := 2) (cp := 2) (es := 1) (cs := [.sl i1 0 0 1 K.n 1, .sl i2 0 0 1 K.n 1]) (L := [[.sl i1 0 0 1 K.n 1], [.sl i2 0 0 1 K.n 1]]) (R := []) (by simp) rfl (by simp) rfl
 obtain ⟨q1, q2⟩ := (o3.perm List.perm_append_comm).out
 have q2 : Owns _ _ (allOb K [(.sl i1 0 0 1 K.n 1, [(t, a)]), (.sl i2 0 0 1 K.n 1, [(u, c)])]) := q2.perm (by
  simp only [allOb, DK.os, List.flatMap_cons, List.flatMap_nil, List.append_nil, List.map_cons, List.map_nil, List.cons_append]
  generalize K.obs false t a = p
  generalize K.obs false u c = q
  have e1 : (p ++ q ++ [Ob.sl K.n (.sl i1 0 0 1 K.n 1) [K.cells t a] []] ++ [Ob.sl K.n (.sl i2 0 0 1 K.n 1) [K.cells u c] []]).Perm ([Ob.sl K.n (.sl i1 0 0 1 K.n 1) [K.cells t a] []] ++ (p ++ ([Ob.sl K.n (.sl i2 0 0 1 K.n 1) [K.cells u c] []] ++ q))) := by
   refine List.Perm.trans (List.Perm.append_right _ List.perm_append_comm) ?_
   rw [List.append_assoc, List.append_assoc]
   exact List.Perm.append_left _ (List.Perm.append_left _ List.perm_append_comm)
  exact e1)
 refine s _ _ [] _ _ Q (q1.slAt 0 rfl) q2 (fun p hp q hq => ?_) (by simp) (fun p hp => ?_) (hf _ _) fun h' hle => hq h' (za.le_trans q1.le hle)
 ·simp only [List.mem_cons, List.not_mem_nil, or_false] at hp
  rcases hp with rfl | rfl
  ·rw [List.mem_singleton.1 hq]; exact ht
  ·rw [List.mem_singleton.1 hq]; exact hu
 ·simp only [List.mem_cons, List.not_mem_nil, or_false] at hp
  rcases hp with rfl | rfl <;> simp
theorem state_fits {s : Sta} {P Q : List (Itm × (AVal × AVal))} {e : P.map (·.1) = s.zem} {f : Q.map (·.1) = s.zem} {a c : AVal × AVal × AVal} (hn : StaN s 100000) (x y : AVal) : Fits bagS (allL zib zk3 14 [(x, [(⟨(s, P), e⟩, a)]), (y, [(⟨(s, Q), f⟩, c)])]) := by
 have one : ∀ (x : AVal) (P : List (Itm × (AVal × AVal))) (e : P.map (·.1) = s.zem) (a : AVal × AVal × AVal), LKs.cap (zox zib zk3 14 x [(⟨(s, P), e⟩, a)]) bagS.lim /\ LKs.cnt (zox zib zk3 14 x [(⟨(s, P), e⟩, a)]) 1000000 /\ LKs.sup (zox zib zk3 14 x [(⟨(s, P), e⟩, a)]) bagS.full := by
  intro x P e a
  have hPl : P.length <= 100000 := by have := congrArg List.length e; rw [List.length_map] at this; have := hn.n; omega
  have hok : ∀ p ∈ P, p.1.ok := fun p hp => hn.ok _ (by rw [<- e]; exact List.mem_map.2 ⟨p, hp, rfl⟩)
  have n2 := hn.n
  refine ⟨?_, ?_, ?_⟩
  ·refine LKs.zvf (LKs.zsh (by simp [bagS])) (LKs.cap_sum fun q hq => ?_)
   rw [List.mem_singleton.1 hq]
   refine LKs.zvf (LKs.zvf (LKs.zsh (by simp [bagS]; omega)) (LKs.cap_sum fun p hp => ?_)) (LKs.zvf (LKs.zsh ?_) (LKs.zsh ?_))
   ·obtain ⟨k1, k2⟩ := hok p hp
    unfold few at k1 k2
    exact LKs.zvf (LKs.zsh (by simp [bagS]; omega)) (LKs.zsh (by simp [bagS]; omega))
   ·simp [bagS]; omega
   ·simp [bagS]; omega
  ·refine LKs.cnt_le (LKs.zve (LKs.zsg _ _) (LKs.cnt_sum (c := 900000) fun q hq => ?_)) (by simp)
   rw [List.mem_singleton.1 hq]
   refine LKs.cnt_le (LKs.zve (LKs.zve (LKs.zsg _ _) (LKs.cnt_sum (c := 2) fun p hp => LKs.zve (LKs.zsg _ _) (LKs.zsg _ _))) (LKs.zve (LKs.zsg _ _) (LKs.zsg _ _))) (by simp only; omega)
  ·refine LKs.zt1 (LKs.zru rfl) (LKs.sup_sum fun q hq => ?_)
   exact LKs.zt1 (LKs.zt1 (LKs.zru rfl) (LKs.sup_sum fun p hp => LKs.zt1 (LKs.zru rfl) (LKs.zru rfl))) (LKs.zt1 (LKs.zru rfl) (LKs.zru rfl))
 have all : ∀ q ∈ [(x, [((⟨(s, P), e⟩ : StaP), a)]), (y, [(⟨(s, Q), f⟩, c)])], LKs.cap (zox zib zk3 14 q.1 q.2) bagS.lim /\ LKs.cnt (zox zib zk3 14 q.1 q.2) 1000000 /\ LKs.sup (zox zib zk3 14 q.1 q.2) bagS.full := by
  intro q hq
  simp only [List.mem_cons, List.not_mem_nil, or_false] at hq
  rcases hq with rfl | rfl
  ·exact one x P e a
  ·exact one y Q f c
 exact LKs.fits_of (n := 2 * 1000000) (LKs.cap_sum fun q hq => (all q hq).1) (LKs.cnt_sum fun q hq => (all q hq).2.1) (by omega) (LKs.sup_sum fun q hq => (all q hq).2.2)
def zcn.Spec (C : CSem) (N : zN) : Prop := ∀ (x : AVal) (L : List Row) (h : za) (Q : zQ), Dl rowK h x L -> L.length < 4000000000000 -> Q (.bool true) h -> C (N 454) [x] h Q
theorem zcn.spec (i : zcn.Imp C N) (s0 : zdo.Spec C N) (s1 : zct.Spec C N) (s2 : zbv.SpecO C N) (s3 : zbd.Spec C N) (s4 : zb7.Spec C N) (s5 : zbx.Spec C N) (s6 : zbe.Spec C N) (s7 : zcp.Spec C N) (s8 : ApartG zib zk3 14 bagS C (N 453)) : zcn.Spec C N := by
 intro x L h Q hx hl hq
 apply i
 simp -dsimp only [zcn.cps, zcn.k1]
 refine s1 x L h _ hx hl fun b1 hb1 => ?_
 cases b1 with
 | true => simp -dsimp; exact s0 _ _ (zk hq)
 | false =>
 have hR := hb1 rfl
 have hn := hR.n
 simp -dsimp
 refine s2 x L h _ hx (by omega) fun x1 P PM h1 eP eM o1 k1 => ?_
 have hLs : L.length <= 100000 := by omega
 refine s3 x1 L h1 _ k1.dl hLs fun ux U uy uz h2 eU nU o2 => ?_
 refine s3 x1 L h2 _ (k1.mono o2.le).dl hLs fun wx W wy wz h3 eW nW o3 => ?_
 have hnS : StaN (zfg L).1 100000 := ⟨by have := nU.n; omega, nU.ok⟩
 have o23 := o2.join o3
 have h13 := o23.le
 have cu1 : ux.zi = true := (o2.slAt 0 rfl).zi
 have cu2 : uy.zi = true := (o2.slAt 1 rfl).zi
 have cu3 : uz.zi = true := (o2.slAt 2 rfl).zi
 have cw1 : wx.zi = true := (o3.slAt 0 rfl).zi
 have cw2 : wy.zi = true := (o3.slAt 1 rfl).zi
 have cw3 : wz.zi = true := (o3.slAt 2 rfl).zi
 simp -dsimp [cu1, cu2, cu3, cw1, cw2, cw3]
 refine s4 x1 x L L h3 _ (k1.mono h13) (hx.mono (za.le_trans o1.le h13)) (by omega) ?_
 simp -dsimp [cu1, cu2, cu3, cw1, cw2, cw3]
 have oo := o1.join o23
 obtain ⟨q1, q2⟩ := (oo.perm List.perm_append_comm).out
 refine s5 x1 P PM _ _ _ q2 (fun p hp => hx.ok _ (by rw [<- eP]; exact List.mem_map.2 ⟨p, hp, rfl⟩)) (by have := congrArg List.length eM; rw [List.length_map] at this; rw [this]; simp [mks12]) (by have := congrArg List.length eP; rw [List.length_map] at this; omega) fun h4 l4 => ?_
 have p4 := q1.grow l4
 have h04 := p4.le
 refine s6 x L h4 _ (hx.mono h04) hLs fun zx Z zy zz h5 eZ nZ o5 => ?_
 have cz1 : zx.zi = true := (o5.slAt 0 rfl).zi
 have cz2 : zy.zi = true := (o5.slAt 1 rfl).zi
 have cz3 : zz.zi = true := (o5.slAt 2 rfl).zi
 have p5 := p4.grow o5.le
 have aU : zk8 h5 (zfg L).1 ux uy uz := StaO.at p5 (fun o ho => List.mem_append_left _ ho) eU hnS (by omega)
 have aW : zk8 h5 (zfg L).1 wx wy wz := StaO.at p5 (fun o ho => List.mem_append_right _ ho) eW hnS (by omega)
 have aZ : zk8 h5 (zfg L).1 zx zy zz := StaO.at o5 (fun o ho => ho) eZ hnS (by omega)
 simp -dsimp [cz1, cz2, cz3]
 refine s7 _ _ _ _ _ _ _ _ h5 _ aU aZ ?_
 simp -dsimp [cz1, cz2, cz3, cw1, cw2, cw3]
 refine s7 _ _ _ _ _ _ _ _ h5 _ aW aZ ?_
 simp -dsimp [cu1, cu2, cu3, cw1, cw2, cw3, repL]
 intro i1 f1
 simp -dsimp [cu1, cu2, cu3, cw1, cw2, cw3, repL]
 intro i2 f2
 simp -dsimp [cu1, cu2, cu3, cw1, cw2, cw3, repL]
 intro i3 f3
 simp -dsimp
 refine ones_apart (K := zib) (t := ⟨((zfg L).1, U), eU⟩) (u := ⟨((zfg L).1, W), eW⟩) (a := (ux, uy, uz)) (c := (wx, wy, wz)) rfl s8 p5 hnS.ok hnS.ok (fun x y => state_fits hnS x y) f1 f2 f3 fun h6 l6 => ?_
 simp -dsimp
 refine s0 _ _ ?_
 simp -dsimp
 exact zrk l6 hq
end Go.Ab
namespace Go.Ab
variable {C : CSem} {N : zN}
theorem zc0.spec (i : zc0.Imp C N) : zit C 11 (N 207) := fun h hh id B y Q hb hy hl hq => i _ _ hh Q (zm7 (k := 11) (by omega) hb hy hl fun h' hb' => zk (hq h' hb'))
end Go.Ab
