/- What is proved: a part of the way to the statement: Ckit7, Ckit8, Ckit9, Ckit10, Cswap, Cswap2, Cref07, Cref07b, Cref07c, Cref08, Pkit2, DbO, DiB, AcT, DbC, Ckit2, Ckit3, Ckit4, CkitD, CkitF, Crank3, Ckit5, Rlaw09, Claw09, Ctell4, Rlaw14, Claw14, P14, P14b, Claw14b, Claw14z, AcR3, AcR4, AcR5, Claw08. No conditions. -/
import Derived.Test.YtmabmeiangoepaaGreatQ8
import Derived.Test.YtmabmeiangoepaaGreatQ7
import Derived.Test.YtmabmeiangoepaaGreatQ6
import Derived.Test.YtmabmeiangoepaaGreatQ3
set_option linter.unusedVariables false
set_option linter.unusedSimpArgs false
namespace Go.Ab
variable {C : CSem} {N : Nat → Nat}
abbrev mStr (s : List UInt8) : AVal := .str s
abbrev mInt (n : Int) : AVal := .int .i64 n
abbrev cntB (ps : Ents (List UInt8) Int) (c : Nat) : Blk := zh2 (encM mStr mInt ps) c
def zdb.Spec (C : CSem) (N : Nat → Nat) : Prop := ∀ (x : Itm) (a : AVal × AVal) (h : zb) (Q : AVal → zb → Prop), zej.at_ h x a → Q (.bool (zhh x)) h → C (N 372) [.agg (zlu x a)] h Q
theorem zho {x : Itm} {k : Nat} (hk : k < x.zb7.length) : (zeq x).take (k + 1) = (zeq x).take k ++ [x.zb7[k].Item] := by
 unfold zeq
 rw [List.take_add_one, List.getElem?_map, List.getElem?_eq_getElem hk]; rfl
theorem zdb.spec (i : zdb.Imp C N) : zdb.Spec C N := by
 intro x a h Q ha hq
 obtain ⟨⟨R1, a1⟩, _, a3, _⟩ : (∃ R, SlX h 2 a.1 (x.zb7.map Part.cs) R) ∧ (∃ R, SlX h 1 a.2 (x.zby.map tc) R) ∧ x.ok := ha
 unfold few at a3
 apply i
 have e1 := a1.zx
 rw [List.length_map] at e1
 simp -dsimp [e1]
 refine B.zm (fun hb => ?_) (fun hb => ?_)
 ·have hp : x.zb7 = [] := by
   have : (x.zb7.length : Int) = 0 := by simpa using hb
   exact List.length_eq_zero_iff.1 (by omega)
  have hk : zhh x = (decide (0 < x.Life) && decide (x.Life ≤ 2000)) := by unfold zhh; rw [hp]; rfl
  by_cases hl : 0 < x.Life
  ·simp -dsimp [hl]
   rw [hk] at hq
   simp [hl] at hq
   exact zbi hq
  ·simp -dsimp [hl]
   rw [hk] at hq
   simp [hl] at hq
   exact zbi hq
 ·have hp : x.zb7 ≠ [] := fun e => by rw [e] at hb; simp at hb
  have hk : zhh x = ((x.zb7.all fun p => decide (1 ≤ p.Qty) && decide (p.Qty ≤ 1073741824)) && (decide (zeq x).Nodup && (decide (x.Life = 0) && decide (x.zb7.length ≤ 8)))) := by unfold zhh; simp [hp]
  refine (Owns.start h).zjl (K := List UInt8) (T := Int) mStr mInt fun id h1 _ o1 _ => ?_
  simp -dsimp [e1]
  refine zd.intro (fun t vs hh => ∃ (k : Nat) (ps : Ents (List UInt8) Int) (c : Nat), k + t = x.zb7.length ∧ vs = [.int .i64 (k : Int)] ∧ Owns h hh [.blk id (cntB ps c)] ∧ (∀ p ∈ x.zb7.take k, 1 ≤ p.Qty ∧ p.Qty ≤ 1073741824) ∧
   ((zeq x).take k).Nodup ∧ ∀ s, getP ps s = if s ∈ (zeq x).take k then some 1 else none) x.zb7.length ?_ ⟨0, [], 0, by omega, rfl, o1, by simp, by simp, by simp [getP]⟩
  rintro Y t vs hh ⟨k, ps, c, ht, rfl, o, hqty, hnd, hget⟩ hY
  simp -dsimp only [zdb.l3, zdb.k2, e1, lssN, B.zg]
  refine B.zm (fun hc => ?_) (fun hc => ?_)
  ·rw [decide_eq_true_eq] at hc
   have hg : (x.zb7.map Part.cs)[k]? = some x.zb7[k].cs := by rw [List.getElem?_map, List.getElem?_eq_getElem hc]; rfl
   have hidx : V.idxS 2 a.1 (.int .i64 (k : Int)) = some (elp 2 a.1 k 0) := a1.idxN (by simpa using hc)
   have hel := (a1.mono o.le).elem hg
   have hlk : A.lkp hh (some .s) (some (.int .i64 0)) false (.mp id) (.str x.zb7[k].Item) = some (.int .i64 ((getP ps x.zb7[k].Item).getD 0)) := o.lkp 0 rfl keyS 0 _
   simp -dsimp [hidx, hel, hlk, - V.zdk]
   have hadd : V.bin .add (.int .i64 ((getP ps x.zb7[k].Item).getD 0)) (.int .i64 1) = some (.int .i64 ((getP ps x.zb7[k].Item).getD 0 + 1)) := by
    rw [hget]
    split <;> rfl
   simp -dsimp [hadd, - V.zdk]
   refine o.mset 0 rfl keyS _ ((getP ps x.zb7[k].Item).getD 0 + 1) fun h2 o2 _ _ => ?_
   have hlk2 : A.lkp h2 (some .s) (some (.int .i64 0)) false (.mp id) (.str x.zb7[k].Item) = some (.int .i64 ((getP ps x.zb7[k].Item).getD 0 + 1)) := by
    have := o2.lkp 0 rfl keyS 0 x.zb7[k].Item
    rw [zfd, if_pos rfl] at this
    exact this
   have hm : x.zb7[k] ∈ x.zb7 := List.getElem_mem hc
   have no : zhh x = false → dn Q (.bool false) h2 := fun e => by rw [e] at hq; exact zkf o2.le hq
   simp -dsimp [hlk2, - V.zdk]
   by_cases q1 : x.zb7[k].Qty < 1
   ·simp -dsimp [q1]
    refine no ?_
    rw [hk, List.all_eq_false.2 ⟨_, hm, by simp; omega⟩]; rfl
   by_cases q2 : 1073741824 < x.zb7[k].Qty
   ·simp -dsimp [q1, q2]
    refine no ?_
    rw [hk, List.all_eq_false.2 ⟨_, hm, by simp; omega⟩]; rfl
   by_cases q3 : x.zb7[k].Item ∈ (zeq x).take k
   ·have : getP ps x.zb7[k].Item = some 1 := by rw [hget, if_pos q3]
    simp -dsimp [q1, q2]
    simp -dsimp [hlk2, this]
    refine no ?_
    have hnn : ¬ (zeq x).Nodup := fun hn => by
     have h3 := hn.sublist (List.take_sublist (k + 1) _)
     rw [zho hc, List.nodup_append] at h3
     exact h3.2.2 _ q3 _ (List.mem_singleton_self _) rfl
    rw [hk]; simp [hnn]
   ·have hz : getP ps x.zb7[k].Item = none := by rw [hget, if_neg q3]
    simp -dsimp [q1, q2]
    simp -dsimp [hlk2, hz, - V.zdk, add1 (show k < 4611686018427387904 by omega)]
    refine hY (t - 1) _ _ (by omega) ⟨k + 1, _, _, by omega, rfl, o2, ?_, ?_, ?_⟩
    ·intro p hp
     rw [List.take_add_one, List.getElem?_eq_getElem hc, List.mem_append] at hp
     rcases hp with hp | hp
     ·exact hqty p hp
     ·have : p = x.zb7[k] := by simpa using hp
      subst this; exact ⟨by omega, by omega⟩
    ·rw [zho hc, List.nodup_append]
     exact ⟨hnd, by simp, fun s hs t ht e => q3 (by rw [List.mem_singleton.1 ht] at e; rw [← e]; exact hs)⟩
    ·intro s
     rw [zfd, hz, hget s, zho hc]
     by_cases hs : s = x.zb7[k].Item <;> simp [hs]
  ·rw [decide_eq_false_iff_not] at hc
   have hke : k = x.zb7.length := by omega
   subst hke
   have h1 : (x.zb7.all fun p => decide (1 ≤ p.Qty) && decide (p.Qty ≤ 1073741824)) = true := by
    rw [List.all_eq_true]
    intro p hp
    have := hqty p (by rw [List.take_length]; exact hp)
    simp; omega
   have h2 : (zeq x).Nodup := by
    rw [List.take_of_length_le (by simp [zeq])] at hnd; exact hnd
   have hk' : zhh x = (decide (x.Life = 0) && decide (x.zb7.length ≤ 8)) := by rw [hk, h1]; simp [h2]
   by_cases hl : x.Life = 0
   ·simp -dsimp [hl, e1]
    rw [hk'] at hq
    simp [hl] at hq
    refine zkf o.le ?_
    rwa [show decide ((x.zb7.length : Int) ≤ 8) = decide (x.zb7.length ≤ 8) from decide_eq_decide.2 (by omega)]
   ·simp -dsimp [hl]
    rw [hk'] at hq
    simp [hl] at hq
    exact zkf o.le hq
abbrev mItm (p : Itm × AVal × AVal) : AVal := .agg (zlu p.1 p.2)
abbrev bookB (A : Ents (List UInt8) (Itm × AVal × AVal)) (c : Nat) : Blk := zh2 (encM mStr mItm A) c
abbrev zItm : Itm × AVal × AVal := (⟨[], 0, [], []⟩, (.nils, .nils))
structure zq9 (h : zb) (L : List Itm) (A : Ents (List UInt8) (Itm × AVal × AVal)) (c : Nat) : Prop where
 znw : zh7 A c
 keys : zmu A = zdq L
 get : ∀ s, (getP A s).map (·.1) = zg0 L s
 at_ : ∀ s p, getP A s = some p → zej.at_ h p.1 p.2
theorem zq9.mono {h h' : zb} {L : List Itm} {A : Ents (List UInt8) (Itm × AVal × AVal)} {c : Nat} (b : zq9 h L A c) (hle : h.le h') : zq9 h' L A c :=
 ⟨b.znw, b.keys, b.get, fun s p hp => zej.mono hle (b.at_ s p hp)⟩
theorem zmy {L : List Itm} {k : Nat} (hk : k < L.length) : zdq (L.take (k + 1)) = zdq (L.take k) ++ [L[k].Code] := by
 unfold zdq
 rw [List.take_add_one, List.getElem?_eq_getElem hk, List.map_append]; rfl
theorem zsb {L : List Itm} (hn : (zdq L).Nodup) {k : Nat} (hk : k < L.length) : L[k].Code ∉ zdq (L.take k) := fun hm => by
 have h3 : (zdq (L.take (k + 1))).Nodup := hn.sublist ((List.take_sublist (k + 1) L).map _)
 rw [zmy hk, List.nodup_append] at h3
 exact h3.2.2 _ hm _ (List.mem_singleton_self _) rfl
theorem Dl.get2 {T Ad : Type} {K : DK T Ad} {h H : zb} {x : AVal} {L : List T} (hd : Dl K h x L) (hle : h.le H) {i : Nat} {t : T} (hi : L[i]? = some t) : ∃ a, DEl K H x i t a ∧ K.at_ h t a := by
 obtain ⟨P, R, rfl, s, ha⟩ := hd
 rw [List.getElem?_map] at hi
 obtain ⟨p, hp, rfl⟩ := Option.map_eq_some_iff.1 hi
 exact ⟨p.2, slX_el (s.mono hle) (fun p h => K.mono hle (ha p h)) hp, ha p (List.mem_of_getElem? hp)⟩
def zef.Spec (C : CSem) (N : Nat → Nat) : Prop := ∀ (x : AVal) (L : List Itm) (h : zb) (Q : AVal → zb → Prop), Dl zej h x L → (zdq L).Nodup → L.length ≤ 1000000 →
 (∀ id h' A c, Owns h h' [.blk id (bookB A c)] → zq9 h L A c → Q (.mp id) h') → C (N 371) [x] h Q
theorem zef.spec (i : zef.Imp C N) : zef.Spec C N := by
 intro x L h Q hx hn hlen hq
 apply i
 refine (Owns.start h).zjl (K := List UInt8) (T := Itm × AVal × AVal) mStr mItm fun id h1 _ o1 _ => ?_
 simp -dsimp [hx.zx]
 refine zd.intro (fun t vs hh => ∃ (k : Nat) (A : Ents (List UInt8) (Itm × AVal × AVal)) (c : Nat), k + t = L.length ∧ vs = [.int .i64 (k : Int)] ∧ Owns h hh [.blk id (bookB A c)] ∧ zq9 h (L.take k) A c) L.length ?_
  ⟨0, [], 0, by omega, rfl, o1, zh7.nil 0, rfl, fun _ => rfl, fun _ _ h => by cases h⟩
 rintro Y t vs hh ⟨k, A, c, ht, rfl, o, hb⟩ hY
 simp -dsimp only [zef.l2, zef.k1, lssN, B.zg]
 refine B.zm (fun hc => ?_) (fun hc => ?_)
 ·rw [decide_eq_true_eq] at hc
  obtain ⟨a, ea, ha⟩ := hx.get2 o.le (List.getElem?_eq_getElem hc)
  have e1 := ea.idx
  have e2 := ea.ldn
  simp only [zej] at e1 e2
  simp -dsimp [e1, e2, - V.zdk]
  refine o.mset 0 rfl keyS L[k].Code (L[k], a) fun h2 o2 _ _ => ?_
  simp -dsimp [- V.zdk, add1 (show k < 4611686018427387904 by omega)]
  have hnew := zsb hn hc
  refine hY (t - 1) _ _ (by omega) ⟨k + 1, _, _, by omega, rfl, o2, hb.znw.put _ _, ?_, ?_, ?_⟩
  ·rw [zqt, hb.keys, if_neg hnew, zmy hc]
  ·intro s
   rw [zfd, List.take_add_one, List.getElem?_eq_getElem hc, Option.toList_some]
   unfold zg0
   rw [List.find?_append]
   by_cases hs : s = L[k].Code
   ·subst hs
    have : (L.take k).find? (fun x => decide (x.Code = L[k].Code)) = none := zit.2 hnew
    rw [this]
    simp
   ·have h1 := hb.get s
    unfold zg0 at h1
    rw [if_neg hs, h1]
    simp [Ne.symm hs]
  ·intro s p hp
   rw [zfd] at hp
   by_cases hs : s = L[k].Code
   ·rw [if_pos hs] at hp; cases hp; exact ha
   ·rw [if_neg hs] at hp; exact hb.at_ s p hp
 ·rw [decide_eq_false_iff_not] at hc
  have hk : k = L.length := by omega
  subst hk
  rw [List.take_length] at hb
  exact zbi (hq _ _ _ _ o hb)
end Go.Ab
namespace Go.Ab
variable {C : CSem} {N : Nat → Nat}
structure LookI (K : List (List UInt8)) (D : List UInt8 → Option Nat) (O : Ents (List UInt8) Int) (co : Nat) : Prop where
 znw : zh7 O co
 nd : (zmu O).Nodup
 val : ∀ s v, getP O s = some v → s ∈ K ∧ (v = -1 ∨ ∃ d : Nat, D s = some d ∧ v = d)
def missing (K : List (List UInt8)) (O : Ents (List UInt8) Int) : Nat := K.countP fun s => (getP O s).isNone
theorem zrv {K : List (List UInt8)} {O O' : Ents (List UInt8) Int} (h : ∀ s v, getP O s = some v → getP O' s = some v) : missing K O' ≤ missing K O := by
 refine List.countP_mono_left fun s _ hs => ?_
 cases e : getP O s with
 | none => rfl
 | some v => rw [h s v e] at hs; cases hs
theorem zqk {O : Ents (List UInt8) Int} {c : List UInt8} {v : Int} {co : Nat} (hc : getP O c = none) : ∀ {K : List (List UInt8)}, c ∈ K → missing K (putP O c v co) < missing K O
 | a :: K, hm => by
  have step : ∀ K, missing K (putP O c v co) ≤ missing K O := fun K => zrv fun s w hs => by
   rw [zfd]
   by_cases e : s = c
   ·subst e; rw [hc] at hs; cases hs
   ·rw [if_neg e]; exact hs
  unfold missing at step ⊢
  rw [List.countP_cons, List.countP_cons]
  by_cases e : a = c
  ·subst e
   have := step K
   simp only [zfd, if_true, hc, Option.isNone_none, Option.isNone_some]
   have h2 : (List.countP (fun s => (if s = a then some v else getP O s).isNone) K) ≤ List.countP (fun s => (getP O s).isNone) K := by
    simpa only [zfd] using this
   simp
   omega
  ·have hm : c ∈ K := by
    rcases List.mem_cons.1 hm with rfl | h
    ·exact absurd rfl e
    ·exact h
   have := zqk (v := v) (co := co) hc hm
   unfold missing at this
   rw [zfd, if_neg e]
   omega
theorem max2N (a b : Nat) : V.max2 (.int .i64 (a : Int)) (.int .i64 (b : Int)) = some (.int .i64 ((max a b : Nat) : Int)) := by
 simp only [V.max2, Option.some.injEq, AVal.int.injEq, true_and]
 split <;> omega
abbrev zjb (N : Nat → Nat) (po pa pl : AVal) (mo : Nat) (O : Ents (List UInt8) Int) (co : Nat) : List Ob := [.box po [.mp mo], .blk mo (cntB O co), .box pl [.fn (N 374) [] [po, pa, pl]]]
def Looks (C : CSem) (N : Nat → Nat) (L : List Itm) (h0 : zb) (po pa pl : AVal) (mo n : Nat) : Prop := ∀ (c : List UInt8) (O : Ents (List UInt8) Int) (co : Nat) (h : zb) (Q : AVal → zb → Prop), c ∈ zdq L → LookI (zdq L) (zfi L) O co → (∀ s, getP O s = some (-1) → Way1 (zji L) s c) → missing (zdq L) O < n → Owns h0 h (zjb N po pa pl mo O co) →
 (∀ (r : Bool) (h' : zb) (O' : Ents (List UInt8) Int) (co' : Nat), Owns h0 h' (zjb N po pa pl mo O' co') → (r = true → LookI (zdq L) (zfi L) O' co' ∧ (∀ s v, getP O s = some v → getP O' s = some v) ∧ (∀ s, getP O' s = some (-1) → getP O s = some (-1)) ∧ ∃ d : Nat, zfi L c = some d ∧ getP O' c = some (d : Int)) → (r = false → zfi L c = none) → Q (.bool r) h') →
 C (N 374) [.str c, po, pa, pl] h Q
theorem zcs.looks (i : zcs.Imp C N) {L : List Itm} {h0 : zb} {Bk : Ents (List UInt8) (Itm × AVal × AVal)} {ca ma ia mo : Nat} {po pl : AVal} (hD : Deep (zji L) (zdq L) (zfi L)) (hB : zq9 h0 L Bk ca) (hma : h0 ma = some (bookB Bk ca)) (hpa : h0 ia = some (zeh [.mp ma])) (hlen : L.length ≤ 1000000) :
  ∀ n, Looks C N L h0 po (.ptr ia 0 0) pl mo n
 | 0 => fun _ _ _ _ _ _ _ _ h => by omega
 | n + 1 => by
  intro c O co h Q hcK hI hway hmis o hq
  have ih := zcs.looks i hD hB hma hpa hlen (po := po) (pl := pl) (mo := mo) n
  apply i
  have ldo : ∀ {hh : zb} {O2 : Ents (List UInt8) Int} {co2 : Nat}, Owns h0 hh (zjb N po (.ptr ia 0 0) pl mo O2 co2) → A.ldv hh po = some (.mp mo) := fun {hh O2 co2} o => by
   obtain ⟨ip, e, hb⟩ := o.zri 0 rfl
   rw [e, zjm hb]; rfl
  have ldl : ∀ {hh : zb} {O2 : Ents (List UInt8) Int} {co2 : Nat}, Owns h0 hh (zjb N po (.ptr ia 0 0) pl mo O2 co2) → A.ldv hh pl = some (.fn (N 374) [] [po, .ptr ia 0 0, pl]) := fun {hh O2 co2} o => by
   obtain ⟨ip, rfl, hb⟩ := o.zri 2 rfl
   rw [zjm hb]; rfl
  have lk : ∀ {hh : zb} {O2 : Ents (List UInt8) Int} {co2 : Nat} (o : Owns h0 hh (zjb N po (.ptr ia 0 0) pl mo O2 co2)) (s : List UInt8), A.lkp hh (some .s) (some (.int .i64 0)) false (.mp mo) (.str s) = some (.int .i64 ((getP O2 s).getD 0)) := fun o s => o.lkp 1 rfl keyS 0 s
  simp -dsimp [ldo o, lk o]
  cases hc : getP O c with
  | some v =>
   obtain ⟨_, hv⟩ := hI.val c v hc
   have hne : v ≠ 0 := by
    rcases hv with rfl | ⟨d, hd, rfl⟩
    ·omega
    ·have := hD.pos hcK hd; omega
   simp -dsimp [hne]
   refine zbi (hq _ h O co o (fun hr => ⟨hI, fun _ _ h => h, fun _ h => h, ?_⟩) fun hr => ?_)
   ·rcases hv with rfl | ⟨d, hd, rfl⟩
    ·simp at hr
    ·exact ⟨d, hd, hc⟩
   ·rcases hv with rfl | ⟨d, hd, rfl⟩
    ·exact hD.round (hway c hc) hcK
    ·have := hD.pos hcK hd
     simp at hr
     omega
  | none =>
   simp -dsimp
   simp -dsimp [ldo o]
   refine o.mset 1 rfl keyS c (-1) fun h1 o1 _ _ => ?_
   have o1 : Owns h0 h1 (zjb N po (.ptr ia 0 0) pl mo (putP O c (-1) co) (clkP O c co)) := o1
   have hI1 : LookI (zdq L) (zfi L) (putP O c (-1) co) (clkP O c co) := ⟨hI.znw.put _ _, nodup_put hI.nd _ _ _, fun s v hs => by
    rw [zfd] at hs
    by_cases e : s = c
    ·subst e; rw [if_pos rfl] at hs; cases hs; exact ⟨hcK, .inl rfl⟩
    ·rw [if_neg e] at hs; exact hI.val s v hs⟩
   obtain ⟨x, hx⟩ : ∃ x, zg0 L c = some x := by
    cases e : zg0 L c with
    | none => exact absurd hcK (zit.1 e)
    | some x => exact ⟨x, rfl⟩
   obtain ⟨p, hp⟩ : ∃ p, getP Bk c = some p := by
    have := hB.get c
    rw [hx] at this
    cases e : getP Bk c with
    | none => rw [e] at this; cases this
    | some p => exact ⟨p, rfl⟩
   obtain ⟨x', a⟩ := p
   have hxx : x' = x := by
    have := hB.get c
    rw [hx, hp] at this
    exact Option.some.inj this
   subst hxx
   have hpe : zji L c = zeq x' := by unfold zji; rw [hx]
   obtain ⟨⟨R1, a1⟩, _, a3, _⟩ : (∃ R, SlX h0 2 a.1 (x'.zb7.map Part.cs) R) ∧ (∃ R, SlX h0 1 a.2 (x'.zby.map tc) R) ∧ x'.ok := hB.at_ c _ hp
   unfold few at a3
   have e1 := a1.zx
   rw [List.length_map] at e1
   have lda : A.ldv h1 (.ptr ia 0 0) = some (.mp ma) := by rw [zjm (o1.le _ _ hpa)]; rfl
   have lka : A.lkp h1 (some .s) (some (.agg [.str [], .int .i64 0, .nils, .nils])) false (.mp ma) (.str c) = some (.agg (zlu x' a)) := by
    have := lkp_blk (v := mItm) (κ := mStr) keyS (o1.le _ _ hma) zItm c false
    rw [hp] at this
    exact this
   simp -dsimp [lda, lka, e1]
   refine zd.intro (fun t vs hh => ∃ (k m : Nat) (O2 : Ents (List UInt8) Int) (co2 : Nat), k + t = x'.zb7.length ∧ vs = [.int .i64 (m : Int), .int .i64 (k : Int)] ∧ Owns h0 hh (zjb N po (.ptr ia 0 0) pl mo O2 co2) ∧ LookI (zdq L) (zfi L) O2 co2 ∧
    (∀ s v, getP (putP O c (-1) co) s = some v → getP O2 s = some v) ∧ (∀ s, getP O2 s = some (-1) → getP (putP O c (-1) co) s = some (-1)) ∧ maxD (zfi L) ((zeq x').take k) 1 = some m) x'.zb7.length ?_
    ⟨0, 1, _, _, by omega, rfl, o1, hI1, fun _ _ h => h, fun _ h => h, rfl⟩
   rintro Y t vs hh ⟨k, m, O2, co2, ht, rfl, o2, hI2, hm1, hm2, hmx⟩ hY
   simp -dsimp only [zcs.l2, zcs.k1, lssN, B.zg]
   refine B.zm (fun hb => ?_) (fun hb => ?_)
   ·rw [decide_eq_true_eq] at hb
    have hg : (x'.zb7.map Part.cs)[k]? = some x'.zb7[k].cs := by rw [List.getElem?_map, List.getElem?_eq_getElem hb]; rfl
    have hidx : V.idxS 2 a.1 (.int .i64 (k : Int)) = some (elp 2 a.1 k 0) := a1.idxN (by simpa using hb)
    have hel := (a1.mono o2.le).elem hg
    have hpm : x'.zb7[k].Item ∈ zji L c := by
     rw [hpe]; exact List.mem_map_of_mem (List.getElem_mem hb)
    simp -dsimp [hidx, hel, ldl o2]
    refine ih _ O2 co2 hh _ (hD.cl c hcK _ hpm) hI2 (fun s hs => ?_) ?_ o2 fun r h3 O3 co3 o3 hr1 hr2 => ?_
    ·have := hm2 s hs
     rw [zfd] at this
     by_cases e : s = c
     ·subst e; exact .one hpm
     ·rw [if_neg e] at this; exact .more (hway s this) hpm
    ·have h1 := zrv (K := zdq L) hm1
     have h2 := zqk (v := -1) (co := co) hc hcK
     omega
    ·cases r with
     | false =>
      simp -dsimp
      exact zbi (hq false h3 O3 co3 o3 (fun h => by cases h) fun _ => hD.no hcK hpm (hr2 rfl))
     | true =>
      obtain ⟨hI3, m1, m2, d, hd, hg3⟩ := hr1 rfl
      have hdl := hD.le _ (hD.cl c hcK _ hpm) d hd
      have hKl : (zdq L).length = L.length := by simp [zdq]
      have ha1 : V.bin .add (.int .i64 1) (.int .i64 (d : Int)) = some (.int .i64 ((1 + d : Nat) : Int)) := zj7 (a := 1) (b := d) (by omega)
      simp -dsimp [ldo o3, - V.zdk, - V.max2_int]
      simp -dsimp only [lk o3, hg3, Option.getD_some, ha1, max2N, add1 (show k < 4611686018427387904 by omega), B.zg]
      refine hY (t - 1) _ _ (by omega) ⟨k + 1, max m (1 + d), O3, co3, by omega, rfl, o3, hI3, fun s v hs => m1 s v (hm1 s v hs), fun s hs => hm2 s (m2 s hs), ?_⟩
      rw [zho hb, zms, hmx]
      show maxD (zfi L) [x'.zb7[k].Item] m = _
      rw [zim, hd]; rfl
   ·rw [decide_eq_false_iff_not] at hb
    have hk : k = x'.zb7.length := by omega
    subst hk
    rw [List.take_of_length_le (by simp [zeq])] at hmx
    have hdc : zfi L c = some m := by rw [hD.eq c hcK, hpe, hmx]
    simp -dsimp [ldo o2]
    refine o2.mset 1 rfl keyS c (m : Int) fun h3 o3 _ _ => ?_
    refine zbi (hq true h3 _ _ o3 (fun _ => ⟨⟨hI2.znw.put _ _, nodup_put hI2.nd _ _ _, fun s v hs => ?_⟩, fun s v hs => ?_, fun s hs => ?_, m, hdc, ?_⟩) fun h => by cases h)
    ·rw [zfd] at hs
     by_cases e : s = c
     ·subst e; rw [if_pos rfl] at hs; cases hs; exact ⟨hcK, .inr ⟨m, hdc, rfl⟩⟩
     ·rw [if_neg e] at hs; exact hI2.val s v hs
    ·rw [zfd]
     by_cases e : s = c
     ·subst e; rw [hc] at hs; cases hs
     ·rw [if_neg e]
      refine hm1 s v ?_
      rw [zfd, if_neg e]; exact hs
    ·rw [zfd] at hs
     by_cases e : s = c
     ·subst e; rw [if_pos rfl] at hs; have := Option.some.inj hs; omega
     ·rw [if_neg e] at hs
      have := hm2 s hs
      rwa [zfd, if_neg e] at this
    ·rw [zfd, if_pos rfl]
end Go.Ab
namespace Go.Ab
variable {C : CSem} {N : Nat → Nat}
structure DeepM (L : List Itm) (O : Ents (List UInt8) Int) (co : Nat) : Prop where
 znw : zh7 O co
 nd : (zmu O).Nodup
 all : ∀ c ∈ zdq L, ∃ d : Nat, zfi L c = some d ∧ getP O c = some (d : Int)
 val : ∀ s v, getP O s = some v → s ∈ zdq L ∧ ∃ d : Nat, zfi L s = some d ∧ v = d
def zc4.Spec (C : CSem) (N : Nat → Nat) : Prop := ∀ (L : List Itm) (Bk : Ents (List UInt8) (Itm × AVal × AVal)) (ca ma : Nat) (h : zb) (Q : AVal → zb → Prop), zq9 h L Bk ca → h ma = some (bookB Bk ca) → ze5 L = true → L.length ≤ 1000000 →
 (∀ h', h.le h' → (∃ c ∈ zdq L, zfi L c = none) → Q (.tup [.nilm, .bool false]) h') → (∀ h' mo O co, Owns h h' [.blk mo (cntB O co)] → DeepM L O co → Q (.tup [.mp mo, .bool true]) h') → C (N 370) [.mp ma] h Q
theorem zc4.spec (i : zc4.Imp C N) (i2 : zcs.Imp C N) : zc4.Spec C N := by
 intro L Bk ca ma h Q hB hma hpt hlen hno hyes
 have hD := zom hpt
 apply i
 intro ia hia
 have hle1 : h.le (upd h ia (zeh [.mp ma])) := zgh _ hia
 have hpa : (upd h ia (zeh [.mp ma])) ia = some (zeh [.mp ma]) := zbu ..
 generalize hg1 : upd h ia (zeh [AVal.mp ma]) = h1 at hle1 hpa
 refine (Owns.start h1).zjl (K := List UInt8) (T := Int) mStr mInt fun mo h2 _ o2 _ => ?_
 intro i4 hi4
 have o3 := o2.zru hi4 [.nilm]
 refine o3.boxSt 1 (off := 0) rfl rfl (by simp) fun h4 o4 _ => ?_
 intro i5 hi5
 have o5 := o4.zru hi5 [.nilf]
 refine o5.boxSt 2 (off := 0) rfl rfl (by simp) fun h6 o6 _ => ?_
 have o6 : Owns h1 h6 [.blk mo (cntB [] 0), .box (.ptr i4 0 0) [.mp mo], .box (.ptr i5 0 0) [.fn (N 374) [] [.ptr i4 0 0, .ptr ia 0 0, .ptr i5 0 0]]] := o6
 have o7 : Owns h1 h6 (zjb N (.ptr i4 0 0) (.ptr ia 0 0) (.ptr i5 0 0) mo [] 0) := o6.perm (List.Perm.swap _ _ _)
 have lda : A.ldv h6 (.ptr ia 0 0) = some (.mp ma) := by rw [zjm (o7.le _ _ hpa)]; rfl
 simp -dsimp [lda]
 have hB1 := hB.mono hle1
 refine o7.rangeLoop (J := fun D l => ∃ O co, l = zjb N (.ptr i4 0 0) (.ptr ia 0 0) (.ptr i5 0 0) mo O co ∧ LookI (zdq L) (zfi L) O co ∧ (∀ s, getP O s ≠ some (-1)) ∧ ∀ q ∈ D, ∃ d : Nat, zfi L q.1 = some d ∧ getP O q.1 = some (d : Int)) (hle1 _ _ hma) hB.znw
  ⟨[], 0, rfl, ⟨zh7.nil 0, List.Pairwise.nil, fun s v h => (by cases h)⟩, fun s h => (by cases h), fun q h => (by cases h)⟩ (fun it hh Y h => by rw [zc4.l2, zc4.k1]; exact h) ?_ ?_
 ·rintro it hh D l b Y ⟨O, co, rfl, hI, hm, hall⟩ hp o
  have ldo : A.ldv hh (.ptr i4 0 0) = some (.mp mo) := by
   obtain ⟨ip, e, hb⟩ := o.zri 0 rfl
   cases e
   rw [zjm hb]; rfl
  simp -dsimp [ldo]
  have ob : Owns h hh [.blk mo (cntB O co)] := (o.sub (l' := [.blk mo (cntB O co)]) (by simp)).back hle1
  refine zbi (hyes hh mo O co ob ⟨hI.znw, hI.nd, fun c hc => ?_, fun s v hs => ?_⟩)
  ·rw [← hB.keys] at hc
   obtain ⟨q, hq, rfl⟩ := List.mem_map.1 hc
   exact hall q (hp.mem_iff.2 hq)
  ·obtain ⟨h1, h2⟩ := hI.val s v hs
   refine ⟨h1, h2.resolve_left fun e => hm s (by rw [hs, e])⟩
 ·rintro it hh D l b Y p hp ⟨O, co, rfl, hI, hm, hall⟩ hD' hpD o he hnext
  have hpK : p.1 ∈ zdq L := by rw [← hB.keys]; exact List.mem_map_of_mem hp
  have ldl : A.ldv hh (.ptr i5 0 0) = some (.fn (N 374) [] [.ptr i4 0 0, .ptr ia 0 0, .ptr i5 0 0]) := by
   obtain ⟨ip, e, hb⟩ := o.zri 2 rfl
   cases e
   rw [zjm hb]; rfl
  have o' : Owns h1 hh ([.blk it b] ++ zjb N (.ptr i4 0 0) (.ptr ia 0 0) (.ptr i5 0 0) mo O co) := o.perm List.perm_append_comm
  obtain ⟨oa, ob⟩ := o'.out
  simp -dsimp [he, ldl]
  refine zcs.looks i2 hD (hB1.mono oa.le) (oa.le _ _ (hle1 _ _ hma)) (oa.le _ _ hpa) hlen (missing (zdq L) O + 1) p.1 O co hh _ hpK hI (fun s hs => absurd hs (hm s)) (by omega) ob fun r h' O' co' o3 hr1 hr2 => ?_
  cases r with
  | false =>
   simp -dsimp
   exact zbi (hno h' (zb.le_trans hle1 (zb.le_trans oa.le o3.le)) ⟨p.1, hpK, hr2 rfl⟩)
  | true =>
   obtain ⟨hI', m1, m2, d, hd, hgd⟩ := hr1 rfl
   simp -dsimp
   refine hnext h' _ ⟨O', co', rfl, hI', fun s hs => hm s (m2 s hs), fun q hq => ?_⟩ ((oa.join o3).perm List.perm_append_comm)
   rcases List.mem_append.1 hq with hq | hq
   ·obtain ⟨e, h1, h2⟩ := hall q hq
    exact ⟨e, h1, m1 _ _ h2⟩
   ·rw [List.mem_singleton.1 hq]; exact ⟨d, hd, hgd⟩
end Go.Ab
namespace Go.Ab
variable {C : CSem} {N : Nat → Nat}
theorem zhx {h : zb} {x : AVal} {L : List Itm} (hx : Dl zej h x L) {i : Nat} {r : Itm} (hr : L[i]? = some r) : ∃ p o, V.idxS 4 x (.int .i64 (i : Int)) = some (elp 4 x i 0) ∧ A.ldnv h (elp 4 x i 0) 4 = some (.agg (zlu r (p, o))) ∧ V.fieldAddr 0 (elp 4 x i 0) = some (elp 4 x i 0) ∧
  V.fieldAddr 2 (elp 4 x i 0) = some (elp 4 x i 2) ∧ V.fieldAddr 3 (elp 4 x i 0) = some (elp 4 x i 3) ∧ A.ldv h (elp 4 x i 0) = some (.str r.Code) ∧ A.ldv h (elp 4 x i 2) = some p ∧ A.ldv h (elp 4 x i 3) = some o ∧ zej.at_ h r (p, o) := by
 obtain ⟨a, ea⟩ := hx.get hr
 exact ⟨a.1, a.2, ea.idx, ea.ldn, ea.fld 0 0, ea.fld 0 2, ea.fld 0 3, ea.ld 0 (by decide), ea.ld 2 (by decide), ea.ld 3 (by decide), ea.at_⟩
theorem itm_get2 {h H : zb} {x : AVal} {L : List Itm} (hx : Dl zej h x L) (hle : h.le H) {i : Nat} {r : Itm} (hr : L[i]? = some r) : ∃ p o, V.idxS 4 x (.int .i64 (i : Int)) = some (elp 4 x i 0) ∧ A.ldnv H (elp 4 x i 0) 4 = some (.agg (zlu r (p, o))) ∧ zej.at_ h r (p, o) := by
 obtain ⟨a, ea, ha⟩ := hx.get2 hle hr
 exact ⟨a.1, a.2, ea.idx, ea.ldn, ha⟩
theorem zqw {h : zb} {r : Itm} {p o : AVal} (ha : zej.at_ h r (p, o)) : (∃ R, SlX h 2 p (r.zb7.map Part.cs) R) ∧ V.zx p = some (.int .i64 (r.zb7.length : Int)) ∧ r.zb7.length ≤ 100000000 := by
 obtain ⟨⟨R1, a1⟩, _, a3, _⟩ : (∃ R, SlX h 2 p (r.zb7.map Part.cs) R) ∧ (∃ R, SlX h 1 o (r.zby.map tc) R) ∧ r.ok := ha
 have e1 := a1.zx
 rw [List.length_map] at e1
 exact ⟨⟨R1, a1⟩, e1, a3⟩
theorem zjp {h : zb} {r : Itm} {p o : AVal} (ha : zej.at_ h r (p, o)) : (∃ R, SlX h 1 o (r.zby.map tc) R) ∧ V.zx o = some (.int .i64 (r.zby.length : Int)) ∧ r.zby.length ≤ 100000000 := by
 obtain ⟨_, ⟨R1, a1⟩, _, a3⟩ : (∃ R, SlX h 2 p (r.zb7.map Part.cs) R) ∧ (∃ R, SlX h 1 o (r.zby.map tc) R) ∧ r.ok := ha
 have e1 := a1.zx
 rw [List.length_map] at e1
 exact ⟨⟨R1, a1⟩, e1, a3⟩
theorem V.bin_sgeq (a b : List UInt8) : V.bin .geq (.str a) (.str b) = some (.bool (!zgm a b)) := rfl
def zbv.Spec (C : CSem) (N : Nat → Nat) : Prop := ∀ (x : AVal) (L : List Itm) (h : zb) (Q : AVal → zb → Prop), Dl zej h x L → L.length ≤ 1000000 → (∀ a b h', h.le h' → Q (.tup [a, b, .int .i64 (zd6 L)]) h') → C (N 362) [x] h Q
theorem zj9 {L : List Itm} {x : Itm} (hx : x ∈ L) {p : Part} (hp : p ∈ x.zb7) (hn : p.Item ∉ zdq L) : ze5 L = false := by
 unfold ze5
 rw [List.all_eq_false]
 refine ⟨x, hx, ?_⟩
 simp only [Bool.not_eq_true, List.all_eq_false]
 exact ⟨p, hp, by simpa using hn⟩
theorem zbv.spec (i : zbv.Imp C N) (s1 : zda.Spec C N) (s2 : zdb.Spec C N) (s3 : zef.Spec C N) (s4 : zc4.Spec C N) : zbv.Spec C N := by
  intro x L h Q hx hlen hq
  apply i
  simp -dsimp only [zbv.cps, zbv.k11, hx.zx, V.zop, B.zg]
  refine B.zm (fun hb => ?_) (fun hb => ?_)
  · have hk : zd6 L = 3 := by
      have : 60 < L.length := by have : (60 : Int) < L.length := by simpa using hb
                                 omega
      unfold zd6; simp [this]
    have := hq .nilm .nilm h (zb.le_refl _)
    rw [hk] at this
    exact zbi this
  have hl60 : ¬ 60 < L.length := by
    have : ¬ (60 : Int) < L.length := by simpa using hb
    omega
  simp -dsimp only [hx.zx, B.zg]
  refine zd.intro (fun t vs hh => hh = h ∧ ∃ k : Nat, k + t = L.length ∧ vs = [.int .i64 (k : Int)] ∧ ∀ j, j < k → zph L j = true) L.length ?_ ⟨rfl, 0, by omega, rfl, fun j hj => by omega⟩
  rintro Y t vs hh ⟨rfl, k, ht, rfl, hall⟩ hY
  simp -dsimp only [zbv.l10, zbv.k9, lssN, B.zg]
  refine B.zm (fun hc => ?_) (fun hc => ?_)
  · rw [decide_eq_true_eq] at hc
    obtain ⟨r, hr⟩ := ze8 hc
    obtain ⟨p, o, e1, e2, e3, _, _, e6, _, _, ha⟩ := zhx hx hr
    have er := zk2 hr
    have no : zph L k = false → dn Q (.tup [.nilm, .nilm, .int .i64 4]) hh := fun e => by
      have hk : zd6 L = 4 := by unfold zd6; simp [hl60, zo1 hc e]
      have := hq .nilm .nilm hh (zb.le_refl _)
      rw [hk] at this
      exact zbi this
    have yes : zph L k = true → Y [.int .i64 ((k + 1 : Nat) : Int)] hh := fun e => hY (t - 1) _ _ (by omega) ⟨rfl, k + 1, by omega, rfl, fun j hj => by
      by_cases h : j = k
      · subst h; exact e
      · exact hall j (by omega)⟩
    have fin : ze3 r.Code = true → ordAt L k r = true → B.gd hh (.bool false) false (fun K => B.pv (V.zfs 0 4 (.agg (zlu r (p, o)))) fun v => K v hh) fun v46 h =>
        B.gd h (.bool false) false (fun K => B.call C (N 372) [v46] h K) fun v47 h =>
        B.gd h (.bool false) false (fun K => B.pv (V.un .not v47) fun v => K v h) fun v48 h =>
        B.pick (.bool false) (.bool true) v48 fun v49 =>
        B.cond v49 (dn Q (.tup [.nilm, .nilm, (.int .i64 4)]) h) (B.pv (V.bin .add (.int .i64 (k : Int)) (.int .i64 1)) fun v50 => Y [v50] h) := fun hcr hor => by
      simp -dsimp
      refine s2 _ _ _ _ ha ?_
      rw [hcr, Bool.true_and, hor, Bool.true_and] at er
      cases hk : zhh r with
      | false =>
        simp -dsimp
        exact no (by rw [er, hk])
      | true =>
        simp -dsimp [- V.zdk, add1 (show k < 4611686018427387904 by omega)]
        exact yes (by rw [er, hk])
    simp -dsimp [e1, e2, - V.zdk, - V.zff]
    refine s1 _ _ _ ?_
    cases hcr : ze3 r.Code with
    | false => simp -dsimp; exact no (by rw [er, hcr]; rfl)
    | true =>
      simp -dsimp [- V.zdk, - V.zff]
      by_cases h0 : k = 0
      · subst h0
        simp -dsimp [- V.zdk, - V.zff]
        have := fin hcr rfl
        simp -dsimp [- V.zdk, - V.zff] at this
        exact this
      · obtain ⟨r2, hr2⟩ := ze8 (L := L) (k := k - 1) (by omega)
        obtain ⟨p2, o2, f1, f2, f3, _, _, f6, _, _, _⟩ := zhx hx hr2
        have sk := sub1 (a := k) (by omega) (by omega)
        have hk0 : 0 < k := by omega
        simp -dsimp [hk0, sk, f1, f3, f6, - V.zdk, - V.zff]
        have eo := zoc (x := r) h0 hr2
        simp -dsimp only [V.bin_sgeq, B.zg]
        cases hle : zgm r2.Code r.Code with
        | false =>
          simp -dsimp [hk0]
          exact no (by rw [er, hcr, eo, hle]; rfl)
        | true =>
          have := fin hcr (by rw [eo, hle])
          simp -dsimp [hk0, - V.zdk, - V.zff] at this ⊢
          exact this
  rw [decide_eq_false_iff_not] at hc
  have hk : k = L.length := by omega
  subst hk
  have hsh : zir L = true := zqs fun j hj => hall j hj
  have hnd := zkq hsh
  refine s3 _ _ _ _ hx hnd hlen fun ma h1 Bk ca o1 hB => ?_
  simp -dsimp only [hx.zx, B.zg]
  have hz : ∀ s, V.bin .eql (.str s) (.str []) = some (.bool (decide (s = []))) := fun s => V.znx s []
  have lka : ∀ {hh : zb} (hle : h1.le hh) (s : List UInt8), ∃ (t : Itm) (a : AVal × AVal), A.lkp hh (some .s) (some (.agg [.str [], .int .i64 0, .nils, .nils])) false (.mp ma) (.str s) = some (.agg (zlu t a)) ∧ decide (t.Code = []) = decide (s ∉ zdq L) := fun {hh} hle s => by
    have h2 := lkp_blk (v := mItm) (κ := mStr) keyS (hle _ _ (o1.at 0 rfl)) zItm s false
    refine ⟨((getP Bk s).getD zItm).1, ((getP Bk s).getD zItm).2, h2, decide_eq_decide.2 ?_⟩
    have hg := hB.get s
    cases e : getP Bk s with
    | none =>
      rw [e] at hg
      have : s ∉ zdq L := zit.1 hg.symm
      simp [this]
    | some q =>
      rw [e] at hg
      have hg : zg0 L s = some q.1 := hg.symm
      obtain ⟨m1, m2⟩ := zj1 hg
      have hin : s ∈ zdq L := by rw [← m2]; exact List.mem_map_of_mem m1
      obtain ⟨j, hj, e2⟩ := List.getElem_of_mem m1
      have := kitAll_at hsh hj
      rw [zk2 (List.getElem?_eq_getElem hj), e2, Bool.and_eq_true] at this
      have hne : q.1.Code ≠ [] := fun e => by rw [e] at this; exact absurd this.1 (by decide)
      simp [hne, hin]
  refine zd.intro (fun t vs hh => hh = h1 ∧ ∃ k : Nat, k + t = L.length ∧ vs = [.int .i64 (k : Int)] ∧ ∀ x ∈ L.take k, ∀ p ∈ x.zb7, p.Item ∈ zdq L) L.length ?_ ⟨rfl, 0, by omega, rfl, fun x h => (by simp at h)⟩
  rintro Y t vs hh ⟨rfl, k, ht, rfl, hall⟩ hY
  simp -dsimp only [zbv.l8, zbv.k7, lssN, B.zg]
  refine B.zm (fun hc => ?_) (fun hc => ?_)
  · rw [decide_eq_true_eq] at hc
    obtain ⟨r, hr⟩ := ze8 hc
    obtain ⟨p, o, e1, e2, _, _, _, _, _, _, ha⟩ := zhx (hx.mono o1.le) hr
    obtain ⟨⟨R1, a1⟩, el, hpl⟩ := zqw ha
    simp -dsimp only [zbv.k6]
    simp -dsimp [e1, e2, el]
    refine zd.intro (fun t vs h2 => h2 = hh ∧ ∃ m : Nat, m + t = r.zb7.length ∧ vs = [.int .i64 (m : Int)] ∧ ∀ p ∈ r.zb7.take m, p.Item ∈ zdq L) r.zb7.length ?_ ⟨rfl, 0, by omega, rfl, fun x h => (by simp at h)⟩
    rintro Z t2 vs h2 ⟨rfl, m, ht2, rfl, hall2⟩ hZ
    simp -dsimp only [zbv.l5, zbv.k4, lssN, B.zg]
    refine B.zm (fun hb => ?_) (fun hb => ?_)
    · rw [decide_eq_true_eq] at hb
      have hg : (r.zb7.map Part.cs)[m]? = some r.zb7[m].cs := by rw [List.getElem?_map, List.getElem?_eq_getElem hb]; rfl
      have hidx : V.idxS 2 p (.int .i64 (m : Int)) = some (elp 2 p m 0) := a1.idxN (by simpa using hb)
      have hel := a1.elem hg
      obtain ⟨t, a, hlk, hcd⟩ := lka (zb.le_refl _) r.zb7[m].Item
      simp -dsimp [hidx, hel, hlk, - V.zdk]
      rw [hcd]
      refine B.zm (fun hd => ?_) (fun hd => ?_)
      · have hd : r.zb7[m].Item ∉ zdq L := by simpa using hd
        have hk : zd6 L = 150 := by
          unfold zd6
          simp [hl60, hsh, zj9 (List.mem_of_getElem? hr) (List.getElem_mem hb) hd]
        have := hq .nilm .nilm h2 o1.le
        rw [hk] at this
        exact zbi this
      · have hd : r.zb7[m].Item ∈ zdq L := by simpa using hd
        simp -dsimp only [add1 (show m < 4611686018427387904 by omega), B.zg]
        refine hZ (t2 - 1) _ _ (by omega) ⟨rfl, m + 1, by omega, rfl, fun p hp => ?_⟩
        rw [List.take_add_one, List.getElem?_eq_getElem hb, List.mem_append] at hp
        rcases hp with hp | hp
        · exact hall2 p hp
        · have : p = r.zb7[m] := by simpa using hp
          rw [this]; exact hd
    · rw [decide_eq_false_iff_not] at hb
      have hk : m = r.zb7.length := by omega
      subst hk
      rw [List.take_length] at hall2
      simp -dsimp only [add1 (show k < 4611686018427387904 by omega), B.zg]
      refine hY (t - 1) _ _ (by omega) ⟨rfl, k + 1, by omega, rfl, fun x hx => ?_⟩
      rw [List.take_add_one, hr, List.mem_append] at hx
      rcases hx with hx | hx
      · exact hall x hx
      · have : x = r := by simpa using hx
        rw [this]; exact hall2
  · rw [decide_eq_false_iff_not] at hc
    have hk : k = L.length := by omega
    subst hk
    rw [List.take_length] at hall
    have hpt : ze5 L = true := by
      unfold ze5
      rw [List.all_eq_true]
      intro x hx
      rw [List.all_eq_true]
      intro p hp
      simpa using hall x hx p hp
    have hany1 : (∃ c ∈ zdq L, zfi L c = none) → zd6 L = 152 := by
      rintro ⟨c, hc, hn⟩
      obtain ⟨x, hx, rfl⟩ := List.mem_map.1 hc
      have : L.any (fun x => decide (zfi L x.Code = none)) = true := List.any_eq_true.2 ⟨x, hx, by simp [hn]⟩
      unfold zd6
      simp only [hl60, hsh, hpt, this, decide_false, Bool.not_true, cond_false, cond_true]
    refine s4 L Bk ca ma _ _ (hB.mono o1.le) (o1.at 0 rfl) hpt hlen (fun h2 hle hno => ?_) fun h2 mo O co o2 hM => ?_
    · simp -dsimp
      have := hq .nilm .nilm h2 (zb.le_trans o1.le hle)
      rw [hany1 hno] at this
      exact zbi this
    · simp -dsimp
      have hny : L.any (fun x => decide (zfi L x.Code = none)) = false := by
        rw [List.any_eq_false]
        intro x hx
        obtain ⟨d, h1, _⟩ := hM.all x.Code (List.mem_map_of_mem hx)
        simp [h1]
      have hkc : zd6 L = bif L.any (fun x => decide (8 < (zfi L x.Code).getD 0)) then 3 else 0 := by
        unfold zd6
        simp only [hl60, hsh, hpt, hny, decide_false, Bool.not_true, cond_false]
      have hbm : h2 mo = some (cntB O co) := o2.at 0 rfl
      refine (Owns.start h2).rangeLoop (J := fun D l => l = [] ∧ ∀ q ∈ D, q.2.1 ≤ 8) hbm hM.znw ⟨rfl, fun q h => (by cases h)⟩ (fun it hh Y h => by rw [zbv.l2, zbv.k1]; exact h) ?_ ?_
      · rintro it h3 D l b Y ⟨rfl, hall⟩ hp o3
        simp -dsimp
        have : L.any (fun x => decide (8 < (zfi L x.Code).getD 0)) = false := by
          rw [List.any_eq_false]
          intro x hx
          obtain ⟨d, h4, h5⟩ := hM.all x.Code (List.mem_map_of_mem hx)
          obtain ⟨n, h6⟩ := getP_mem h5
          have := hall _ (hp.mem_iff.2 h6)
          have : (d : Int) ≤ 8 := this
          simp [h4]; omega
        rw [this] at hkc
        have := hq (.mp ma) (.mp mo) h3 (zb.le_trans o1.le (zb.le_trans o2.le o3.le))
        rw [hkc] at this
        exact zbi this
      · rintro it h3 D l b Y q hq' ⟨rfl, hall⟩ hD' hqD o3 he hnext
        simp -dsimp [he]
        refine B.zm (fun hd => ?_) (fun hd => ?_)
        · have hd : 8 < q.2.1 := by simpa using hd
          obtain ⟨m1, d, m2, m3⟩ := hM.val q.1 q.2.1 (mem_getP hM.nd hq')
          obtain ⟨x, hx, e⟩ := List.mem_map.1 m1
          have : L.any (fun x => decide (8 < (zfi L x.Code).getD 0)) = true := List.any_eq_true.2 ⟨x, hx, by rw [e, m2]; simp; omega⟩
          rw [this] at hkc
          have := hq .nilm .nilm h3 (zb.le_trans o1.le (zb.le_trans o2.le o3.le))
          rw [hkc] at this
          exact zbi this
        · have hd : ¬ 8 < q.2.1 := by simpa using hd
          refine hnext h3 [] ⟨rfl, fun q2 hq2 => ?_⟩ o3
          rcases List.mem_append.1 hq2 with h | h
          · exact hall q2 h
          · rw [List.mem_singleton.1 h]; omega
def zex.Spec (C : CSem) (N : Nat → Nat) : Prop := ∀ (x : AVal) (L : List Itm) (h : zb) (Q : AVal → zb → Prop), Dl zej h x L → L.length ≤ 1000000 → Q (.int .i64 (zd6 L)) h → C (N 356) [x] h Q
theorem zex.spec (i : zex.Imp C N) (s1 : zbv.Spec C N) : zex.Spec C N := by
 intro x L h Q hx hlen hq
 apply i
 refine s1 _ _ _ _ hx hlen fun a b h' hle => ?_
 simp -dsimp
 exact zkf hle hq
end Go.Ab
namespace Go.Ab
variable {C : CSem} {N : Nat → Nat}
def zez.Spec (C : CSem) (N : Nat → Nat) : Prop := ∀ (c : List UInt8) (o : AVal) (l : List (List UInt8)) (R : List (List AVal)) (h : zb) (Q : AVal → zb → Prop), SlX h 1 o (l.map tc) R → l.length ≤ 10000000 →
 (∀ x' R' h', Owns h h' [.sl 1 x' ((c :: l).map tc) R'] → Q x' h') → C (N 363) [.str c, o] h Q
theorem zez.spec (i : zez.Imp C N) (s1 : zbl.Spec C N) : zez.Spec C N := by
 intro c o l R h Q ho hl hq
 apply i
 simp -dsimp [ho.zdz]
 intro i6 h6
 have o1 := (Owns.start h).newSl (id := i6) (n := 1) (cp := 1) (es := 1) (cs := [.str c]) (L := [[.str c]]) (R := []) h6 (by simp) rfl (by simp) rfl
 simp -dsimp [ho.zdz]
 intro i8 h8
 have o2 := o1.newSl (id := i8) (n := 2) (cp := 2) (es := 1) (cs := [.sl i6 0 0 1 1 1, o]) (L := [[.sl i6 0 0 1 1 1], [o]]) (R := []) h8 (by simp) rfl (by simp) rfl
 refine s1 _ [.sl i6 0 0 1 1 1, o] [[c], l] _ _ _ (o2.slAt 1 rfl) rfl (fun j y l' hy hl' => ?_) (by simp) (by simp; omega) fun x' h' R' o3 => ?_
 ·match j with
  | 0 => cases hy; cases hl'; exact ⟨_, o2.slAt 0 rfl⟩
  | 1 => cases hy; cases hl'; exact ⟨_, ho.mono o2.le⟩
  | j + 2 => simp at hy
 ·exact zbi (hq x' R' h' ((by simpa using o3 : Owns _ h' [.sl 1 x' ((c :: l).map tc) R']).back o2.le))
def zg5 (L : List Itm) (c : List UInt8) : List (List UInt8) := match zg0 L c with
 | some x => c :: x.zby
 | none => []
def zjd (L : List Itm) (c : List UInt8) : Int := match L.findIdx? fun x => decide (x.Code = c) with | some i => (i : Int) | none => -1
theorem zpu {L : List Itm} {c : List UInt8} : (zjd L c < 0 ↔ zg0 L c = none) ∧ ∀ k : Nat, zjd L c = k → ∃ x, L[k]? = some x ∧ zg0 L c = some x := by
 unfold zjd zg0
 cases h : L.findIdx? fun x => decide (x.Code = c) with
 | none =>
  have h' := List.findIdx?_eq_none_iff.1 h
  refine ⟨⟨fun _ => List.find?_eq_none.2 fun x hx => by simpa using h' x hx, fun _ => by simp⟩, fun k hk => by
   have hk : (-1 : Int) = k := hk
   omega⟩
 | some i =>
  obtain ⟨hi, hp, hno⟩ := List.findIdx?_eq_some_iff_getElem.1 h
  have hf : L.find? (fun x => decide (x.Code = c)) = some L[i] := by
   rw [List.find?_eq_some_iff_getElem]
   exact ⟨hp, i, hi, rfl, fun j hj => by simpa using hno j hj⟩
  refine ⟨⟨fun h => by simp at h; omega, fun h => by rw [hf] at h; cases h⟩, fun k hk => ?_⟩
  have : k = i := by simp at hk; omega
  subst this
  exact ⟨_, List.getElem?_eq_getElem hi, hf⟩
theorem zr3 {L : List Itm} {c : List UInt8} (h : ∀ x ∈ L, x.Code ≠ c) : zjd L c = -1 := by
 have : L.findIdx? (fun x => decide (x.Code = c)) = none := List.findIdx?_eq_none_iff.2 fun x hx => by simp [h x hx]
 unfold zjd; rw [this]
theorem findI_at {L : List Itm} {c : List UInt8} {k : Nat} (hk : k < L.length) (h : ∀ i, i < k → ∀ a, L[i]? = some a → a.Code ≠ c) (hc : L[k].Code = c) : zjd L c = k := by
 have : L.findIdx? (fun x => decide (x.Code = c)) = some k := zok hk (fun i hi a ha => by simp [h i hi a ha]) (by simp [hc])
 unfold zjd; rw [this]
def zek.Spec (C : CSem) (N : Nat → Nat) : Prop := ∀ (r : Itm) (a : AVal × AVal) (c : List UInt8) (id : Nat) (h : zb) (Q : AVal → zb → Prop), zej.at_ h r a → h id = some (zeh [.str c]) → Q (.bool (decide (r.Code = c))) h → C (N 366) [.agg (zlu r a), .ptr id 0 0] h Q
theorem zek.spec (i : zek.Imp C N) : zek.Spec C N := by
 intro r a c id h Q ha hid hq
 apply i
 have ld : A.ldv h (.ptr id 0 0) = some (.str c) := by rw [zjm hid]; rfl
 obtain ⟨⟨R1, a1⟩, ⟨R2, a2⟩, _⟩ : (∃ R, SlX h 2 a.1 (r.zb7.map Part.cs) R) ∧ (∃ R, SlX h 1 a.2 (r.zby.map tc) R) ∧ r.ok := ha
 simp -dsimp [ld]
 exact zbi hq
def zp.Spec (C : CSem) (N : Nat → Nat) : Prop := ∀ (x : AVal) (c : List UInt8) (id : Nat) (L : List Itm) (h : zb) (Q : AVal → zb → Prop), Dl zej h x L → L.length ≤ 100000000 → h id = some (zeh [.str c]) →
 Q (.int .i64 (zjd L c)) h → C (N 367) [x, .fn (N 366) [] [.ptr id 0 0]] h Q
theorem zp.spec (i : zp.Imp C N) (s1 : zek.Spec C N) : zp.Spec C N := by
 intro x c id L h Q hx hlen hid hq
 refine i _ _ _ _ ?_
 simp -dsimp only [zp.cps, zd1.cps, hx.zx, B.zg]
 refine zd.intro (fun t vs hh => hh = h ∧ ∃ k : Nat, k + t = L.length ∧ vs = [.int .i64 (k : Int)] ∧ ∀ i, i < k → ∀ a, L[i]? = some a → a.Code ≠ c) L.length ?_ ⟨rfl, 0, by omega, rfl, fun i hi => by omega⟩
 rintro Y t vs h ⟨rfl, k, ht, rfl, hno⟩ hY
 simp -dsimp only [zd1.l2, zd1.k1, lssN, B.zg]
 refine B.zm (fun hb => ?_) (fun hb => ?_) <;> simp only [decide_eq_true_eq, decide_eq_false_iff_not] at hb
 ·obtain ⟨p, o, e1, e2, _, _, _, _, _, _, ha⟩ := zhx hx (List.getElem?_eq_getElem hb)
  simp -dsimp only [opsF, e1, B.zg, B.zqr, e2]
  refine s1 _ _ c _ _ _ ha hid ?_
  refine B.zm (fun hc => ?_) (fun hc => ?_)
  ·rw [findI_at hb hno (by simpa using hc)] at hq; exact zbi hq
  ·simp -dsimp only [add1 (show k < 4611686018427387904 by omega), B.zg]
   refine hY (L.length - (k + 1)) _ _ (by omega) ⟨rfl, k + 1, by omega, rfl, fun i hi a hia => ?_⟩
   by_cases e : i = k
   ·subst e; rw [List.getElem?_eq_getElem hb] at hia; cases hia; simpa using hc
   ·exact hno i (by omega) a hia
 ·have : zjd L c = -1 := zr3 fun x hx => by
   obtain ⟨j, hj, rfl⟩ := List.getElem_of_mem hx
   exact hno j (by omega) _ (List.getElem?_eq_getElem hj)
  rw [this] at hq; exact zbi hq
def ze0.Spec (C : CSem) (N : Nat → Nat) : Prop := ∀ (x : AVal) (c : List UInt8) (L : List Itm) (h : zb) (Q : AVal → zb → Prop), Dl zej h x L → L.length ≤ 1000000 → (∀ t ∈ L, t.zby.length ≤ 10000000) →
 (∀ x' R' h', Owns h h' [.sl 1 x' ((zg5 L c).map tc) R'] → Q x' h') → C (N 355) [x, .str c] h Q
theorem ze0.spec (i : ze0.Imp C N) (s1 : zp.Spec C N) (s2 : zez.Spec C N) : ze0.Spec C N := by
 intro x c L h Q hx hlen hof hq
 apply i
 intro i3 h3
 have o1 := (Owns.start h).zru h3 [.str c]
 have hb : (upd h i3 (zeh [AVal.str c])) i3 = some (zeh [.str c]) := zbu ..
 have hx1 := hx.mono o1.le
 refine s1 _ c _ _ _ _ hx1 (by omega) hb ?_
 have ld : A.ldv (upd h i3 (zeh [AVal.str c])) (.ptr i3 0 0) = some (.str c) := by rw [zjm hb]; rfl
 simp -dsimp only [V.zfm, B.zg]
 obtain ⟨f1, f2⟩ := zpu (L := L) (c := c)
 refine B.zm (fun hc => ?_) (fun hc => ?_)
 ·have hn : zg0 L c = none := f1.1 (by simpa using hc)
  have := hq .nils [] h (by unfold zg5; rw [hn]; exact (Owns.start h).nils 1)
  exact zkf o1.le this
 ·have hc : ¬ zjd L c < 0 := by simpa using hc
  obtain ⟨k, hk⟩ : ∃ k : Nat, zjd L c = k := ⟨(zjd L c).toNat, by omega⟩
  obtain ⟨r, hr, hi⟩ := f2 k hk
  obtain ⟨p, o, e1, e2, e3, e4, e5, e6, e7, e8, ha⟩ := zhx hx1 hr
  obtain ⟨⟨R2, a2⟩, el, _⟩ := zjp ha
  simp -dsimp [hk, ld, e1, e5, e8]
  refine s2 _ _ r.zby _ _ _ a2 (hof r (List.mem_of_getElem? hr)) fun x' R' h' o2 => ?_
  have hs : zg5 L c = c :: r.zby := by unfold zg5; rw [hi]
  exact zbi (hq x' R' h' (by rw [hs]; exact o2.back o1.le))
end Go.Ab
namespace Go.Ab
variable {C : CSem} {N : Nat → Nat}
theorem zlz : ∀ {L : List (List UInt8)}, SortedB L → ((zeg L).length = L.length ↔ L.Nodup)
 | [], _ => by simp [zeg]
 | [a], _ => by simp [zeg]
 | a :: b :: r, hs => by
  have hs' : SortedB (b :: r) := (List.pairwise_cons.1 hs).2
  have ih := zlz hs'
  have hle := zo6 (b :: r)
  rw [zeg]
  by_cases e : a = b
  ·rw [if_pos e]
   subst e
   refine ⟨fun h => ?_, fun h => ?_⟩
   ·simp only [List.length_cons] at h hle; omega
   ·exact absurd (List.mem_cons_self ..) (List.nodup_cons.1 h).1
  ·rw [if_neg e, List.length_cons, List.length_cons, List.nodup_cons]
   rw [Nat.add_right_cancel_iff, ih]
   refine ⟨fun h => ⟨fun hm => ?_, h⟩, fun h => h.2⟩
   rcases List.mem_cons.1 hm with h1 | h1
   ·exact e h1
   ·have h2 := (List.pairwise_cons.1 hs).1 b (by simp)
    have h3 := (List.pairwise_cons.1 hs').1 a h1
    exact e (zmt h3 h2)
def zfy (x : Itm) : Bool := decide (x.zby.length ≤ 4) && decide (x.Code :: x.zby).Nodup
def zfx (L : List Itm) : Bool := L.all fun x => x.zby.all fun o => (zdq L).contains o
def zfp (L : List Itm) : Int := bif !decide (zd6 L = 0) then zd6 L else bif !L.all zfy then 4 else bif !zfx L then 150 else 0
theorem kitCheck_zero {L : List Itm} (h : zd6 L = 0) : L.length ≤ 60 ∧ zir L = true ∧ ze5 L = true := by
 unfold zd6 at h
 cases h1 : decide (60 < L.length) with
 | true => rw [h1] at h; cases h
 | false =>
  rw [h1] at h
  cases h2 : zir L with
  | false => rw [h2] at h; cases h
  | true =>
   rw [h2] at h
   cases h3 : ze5 L with
   | false => rw [h3] at h; cases h
   | true => exact ⟨by simpa using h1, rfl, rfl⟩
theorem zjk {L : List Itm} {x : Itm} (hx : x ∈ L) {o : List UInt8} (ho : o ∈ x.zby) (hn : o ∉ zdq L) : zfx L = false := by
 unfold zfx
 rw [List.all_eq_false]
 refine ⟨x, hx, ?_⟩
 simp only [Bool.not_eq_true, List.all_eq_false]
 exact ⟨o, ho, by simpa using hn⟩
def zb1.Spec (C : CSem) (N : Nat → Nat) : Prop := ∀ (x : AVal) (L : List Itm) (h : zb) (Q : AVal → zb → Prop), Dl zej h x L → L.length ≤ 1000000 → (∀ t ∈ L, t.zby.length ≤ 10000000) → Q (.int .i64 (zfp L)) h → C (N 353) [x] h Q
theorem zb1.spec (i : zb1.Imp C N) (s1 : zex.Spec C N) (s2 : zez.Spec C N) (s3 : zbx.Spec C N) (s4 : zbm.Spec C N) : zb1.Spec C N := by
 intro x L h Q hx hlen hof hq
 apply i
 simp -dsimp only [zb1.cps, zb1.k7]
 refine s1 _ _ _ _ hx hlen ?_
 simp -dsimp only [V.bin_neq, B.zg]
 refine B.zm (fun hb => ?_) (fun hb => ?_)
 ·have hb : zd6 L ≠ 0 := by simpa using hb
  have : zfp L = zd6 L := by unfold zfp; simp [hb]
  rw [this] at hq
  exact zbi hq
 have hb : zd6 L = 0 := by simpa using hb
 obtain ⟨hl60, hsh, hpt⟩ := kitCheck_zero hb
 have hnd := zkq hsh
 have hsw : zfp L = bif !L.all zfy then 4 else bif !zfx L then 150 else 0 := by unfold zfp; simp [hb]
 refine (Owns.start h).zjl (K := List UInt8) (T := Int) mStr mInt fun id h1 _ o1 _ => ?_
 simp -dsimp only [hx.zx, B.zg]
 refine zd.intro (fun t vs hh => ∃ (k : Nat) (ps : Ents (List UInt8) Int) (c : Nat), k + t = L.length ∧ vs = [.int .i64 (k : Int)] ∧ Owns h hh [.blk id (cntB ps c)] ∧ (∀ x ∈ L.take k, zfy x = true) ∧ ∀ s, getP ps s = if s ∈ zdq (L.take k) then some 1 else none) L.length ?_
  ⟨0, [], 0, by omega, rfl, o1, by simp, by simp [getP, zdq]⟩
 rintro Y t vs hh ⟨k, ps, c, ht, rfl, o, hok, hget⟩ hY
 simp -dsimp only [zb1.l6, zb1.k5, lssN, B.zg]
 refine B.zm (fun hc => ?_) (fun hc => ?_)
 ·rw [decide_eq_true_eq] at hc
  obtain ⟨r, hr⟩ := ze8 hc
  have hm := List.mem_of_getElem? hr
  have er : L[k] = r := by rw [List.getElem?_eq_getElem hc] at hr; exact Option.some.inj hr
  obtain ⟨p, oo, e1, e2, ha⟩ := itm_get2 hx o.le hr
  obtain ⟨⟨R2, a2⟩, el, _⟩ := zjp ha
  have hof := hof r hm
  have hnew := zsb hnd hc
  rw [er] at hnew
  have hz : getP ps r.Code = none := by rw [hget, if_neg hnew]
  have hlk : A.lkp hh (some .s) (some (.int .i64 0)) false (.mp id) (.str r.Code) = some (.int .i64 0) := by
   have := o.lkp 0 rfl keyS 0 r.Code
   rw [hz] at this
   exact this
  have h01 : V.bin .add (.int .i64 0) (.int .i64 1) = some (.int .i64 1) := rfl
  simp -dsimp [e1, e2, hlk, h01, - V.zdk]
  refine o.mset 0 rfl keyS r.Code 1 fun h2 o2 _ _ => ?_
  have o2 : Owns h h2 [.blk id (cntB (putP ps r.Code 1 c) (clkP ps r.Code c))] := o2
  simp -dsimp
  refine s2 _ _ _ _ _ _ (a2.mono o2.le) hof fun x1 R1 h3 o3 => ?_
  refine s3 _ _ _ _ _ _ o3 (by simp; omega) fun h4 L4 hp4 hs4 o4 => ?_
  have el4 : V.zx x1 = some (.int .i64 ((r.zby.length + 1 : Nat) : Int)) := by
   have := (o4.slAt 0 rfl).zx
   rw [List.length_map, hp4.length_eq] at this
   exact this
  have o5 := (o2.join o4)
  have hlen1 : (r.Code :: r.zby).length = r.zby.length + 1 := rfl
  have no : zfy r = false → ∀ h', h.le h' → dn Q (.int .i64 4) h' := fun e h' hle => by
   have : L.all zfy = false := List.all_eq_false.2 ⟨r, hm, by simp [e]⟩
   rw [this] at hsw
   rw [hsw] at hq
   exact zkf hle hq
  simp -dsimp [el4, - V.zdk]
  by_cases h5 : 5 < r.zby.length + 1
  ·have h5' : (5 : Int) < (r.zby.length : Int) + 1 := by omega
   simp -dsimp [h5']
   exact no (by unfold zfy; simp; omega) h4 o5.le
  have h5' : ¬ (5 : Int) < (r.zby.length : Int) + 1 := by omega
  have e1l : V.bin .add (.int .i64 1) (.int .i64 (r.zby.length : Int)) = some (.int .i64 ((1 + r.zby.length : Nat) : Int)) := zj7 (a := 1) (by omega)
  simp -dsimp [h5', el, e1l, - V.zdk]
  refine s4 _ _ _ _ _ _ o4 (by rw [hp4.length_eq]; simp; omega) fun y h6 R6 o6 => ?_
  have el6 : V.zx y = some (.int .i64 ((zeg L4).length : Int)) := by
   have := (o6.slAt 0 rfl).zx
   rw [List.length_map] at this
   exact this
  have o7 : Owns h h6 [.blk id (cntB (putP ps r.Code 1 c) (clkP ps r.Code c))] := o2.grow o6.le
  have hcn := zlz hs4
  rw [hp4.length_eq, hp4.nodup_iff, hlen1] at hcn
  simp -dsimp [h5', el6, - V.zdk]
  by_cases hn : (r.Code :: r.zby).Nodup
  ·have h8 := hcn.2 hn
   have h9 : decide (((zeg L4).length : Int) = 1 + (r.zby.length : Int)) = true := by simp; omega
   have hro : zfy r = true := by
    unfold zfy
    rw [Bool.and_eq_true]
    exact ⟨by simp; omega, by simpa using hn⟩
   rw [h9]
   simp -dsimp only [Bool.not_true, B.cond_false, add1 (show k < 4611686018427387904 by omega), B.zg]
   refine hY (t - 1) _ _ (by omega) ⟨k + 1, _, _, by omega, rfl, o7, fun x hx => ?_, fun s => ?_⟩
   ·rw [List.take_add_one, hr, List.mem_append] at hx
    rcases hx with hx | hx
    ·exact hok x hx
    ·have : x = r := by simpa using hx
     rw [this]; exact hro
   ·rw [zfd, hget s, zmy hc, er]
    by_cases hs : s = r.Code <;> simp [hs]
  ·have h8 : (zeg L4).length ≠ r.zby.length + 1 := fun e => hn (hcn.1 e)
   have h9 : decide (((zeg L4).length : Int) = 1 + (r.zby.length : Int)) = false := by simp; omega
   rw [h9]
   simp -dsimp only [Bool.not_false, B.cond_true]
   exact no (by unfold zfy; rw [Bool.and_eq_false_iff]; exact .inr (by simpa using hn)) h6 o7.le
 ·rw [decide_eq_false_iff_not] at hc
  have hk : k = L.length := by omega
  subst hk
  rw [List.take_length] at hok hget
  have hall : L.all zfy = true := List.all_eq_true.2 hok
  rw [hall] at hsw
  have hle := o.le
  simp -dsimp only [hx.zx, B.zg]
  refine zd.intro (fun t vs h2 => h2 = hh ∧ ∃ k : Nat, k + t = L.length ∧ vs = [.int .i64 (k : Int)] ∧ ∀ x ∈ L.take k, ∀ s ∈ x.zby, s ∈ zdq L) L.length ?_ ⟨rfl, 0, by omega, rfl, fun x h => (by simp at h)⟩
  rintro Z t2 vs h2 ⟨rfl, k, ht2, rfl, hin⟩ hZ
  simp -dsimp only [zb1.l4, zb1.k3, lssN, B.zg]
  refine B.zm (fun hd => ?_) (fun hd => ?_)
  ·rw [decide_eq_true_eq] at hd
   obtain ⟨r, hr⟩ := ze8 hd
   have hm := List.mem_of_getElem? hr
   obtain ⟨p, oo, e1, e2, ha⟩ := itm_get2 hx hle hr
   obtain ⟨⟨R2, a2⟩, el, hol⟩ := zjp ha
   simp -dsimp [e1, e2, el, - V.zdk]
   refine zd.intro (fun t vs h3 => h3 = h2 ∧ ∃ m : Nat, m + t = r.zby.length ∧ vs = [.int .i64 (m : Int)] ∧ ∀ s ∈ r.zby.take m, s ∈ zdq L) r.zby.length ?_ ⟨rfl, 0, by omega, rfl, fun x h => (by simp at h)⟩
   rintro W t3 vs h3 ⟨rfl, m, ht3, rfl, hin2⟩ hW
   simp -dsimp only [zb1.l2, zb1.k1, lssN, B.zg]
   refine B.zm (fun hf => ?_) (fun hf => ?_)
   ·rw [decide_eq_true_eq] at hf
    have hg : (r.zby.map tc)[m]? = some (tc r.zby[m]) := by rw [List.getElem?_map, List.getElem?_eq_getElem hf]; rfl
    have hidx : V.idxS 1 oo (.int .i64 (m : Int)) = some (elp 1 oo m 0) := a2.idxN (by simpa using hf)
    have hcell : A.ldv h3 (elp 1 oo m 0) = some (.str r.zby[m]) := (a2.mono hle).cell hg
    have hlk : A.lkp h3 (some .s) (some (.int .i64 0)) false (.mp id) (.str r.zby[m]) = some (.int .i64 ((getP ps r.zby[m]).getD 0)) := o.lkp 0 rfl keyS 0 _
    simp -dsimp [hidx, hcell, hlk, hget, - V.zdk]
    by_cases hmem : r.zby[m] ∈ zdq L
    ·simp -dsimp [hmem, - V.zdk, add1 (show m < 4611686018427387904 by omega)]
     refine hW (t3 - 1) _ _ (by omega) ⟨rfl, m + 1, by omega, rfl, fun s hs => ?_⟩
     rw [List.take_add_one, List.getElem?_eq_getElem hf, List.mem_append] at hs
     rcases hs with hs | hs
     ·exact hin2 s hs
     ·have : s = r.zby[m] := by simpa using hs
      rw [this]; exact hmem
    ·simp -dsimp [hmem]
     rw [hsw, zjk hm (List.getElem_mem hf) hmem] at hq
     exact zkf hle hq
   ·rw [decide_eq_false_iff_not] at hf
    have hk : m = r.zby.length := by omega
    subst hk
    rw [List.take_length] at hin2
    simp -dsimp only [add1 (show k < 4611686018427387904 by omega), B.zg]
    refine hZ (t2 - 1) _ _ (by omega) ⟨rfl, k + 1, by omega, rfl, fun x hx => ?_⟩
    rw [List.take_add_one, hr, List.mem_append] at hx
    rcases hx with hx | hx
    ·exact hin x hx
    ·have : x = r := by simpa using hx
     rw [this]; exact hin2
  ·rw [decide_eq_false_iff_not] at hd
   have hk : k = L.length := by omega
   subst hk
   rw [List.take_length] at hin
   have : zfx L = true := by
    unfold zfx
    rw [List.all_eq_true]
    intro x hx
    rw [List.all_eq_true]
    intro s hs
    simpa using hin x hx s hs
   rw [hsw, this] at hq
   exact zkf hle hq
end Go.Ab
namespace Go.Ab
variable {C : CSem} {N : Nat → Nat}
def zdc.Spec (C : CSem) (N : Nat → Nat) : Prop := ∀ (x : AVal) (c : List UInt8) (L : List Itm) (h : zb) (Q : AVal → zb → Prop), Dl zej h x L → L.length ≤ 100000000 → Q (.int .i64 (zjd L c)) h → C (N 402) [x, .str c] h Q
theorem zdc.spec (i : zdc.Imp C N) : zdc.Spec C N := by
 intro x c L h Q hx hlen hq
 apply i
 refine zd.intro (fun t vs hh => hh = h ∧ ∃ k : Nat, k + t = L.length ∧ vs = [.int .i64 (k : Int)] ∧ ∀ i, i < k → ∀ a, L[i]? = some a → a.Code ≠ c) L.length ?_ ⟨rfl, 0, by omega, rfl, fun i hi => by omega⟩
 rintro Y t vs h ⟨rfl, k, ht, rfl, hno⟩ hY
 simp -dsimp only [zdc.l2, zdc.k1, hx.zx, lssN, B.zg]
 refine B.zm (fun hb => ?_) (fun hb => ?_) <;> simp only [decide_eq_true_eq, decide_eq_false_iff_not] at hb
 ·obtain ⟨p, o, e1, e2, e3, _, _, e6, _⟩ := zhx hx (List.getElem?_eq_getElem hb)
  simp -dsimp only [e1, e3, B.zg7, e6, V.znx, B.zg]
  refine B.zm (fun hc => ?_) (fun hc => ?_)
  ·rw [findI_at hb hno (by simpa using hc)] at hq; exact zbi hq
  ·simp -dsimp only [add1 (show k < 4611686018427387904 by omega), B.zg]
   refine hY (L.length - (k + 1)) _ _ (by omega) ⟨rfl, k + 1, by omega, rfl, fun i hi a hia => ?_⟩
   by_cases e : i = k
   ·subst e; rw [List.getElem?_eq_getElem hb] at hia; cases hia; simpa using hc
   ·exact hno i (by omega) a hia
 ·have : zjd L c = -1 := zr3 fun x hx => by
   obtain ⟨j, hj, rfl⟩ := List.getElem_of_mem hx
   exact hno j (by omega) _ (List.getElem?_eq_getElem hj)
  rw [this] at hq; exact zbi hq
theorem zrs {α : Type} [DecidableEq α] {l : List α} (h : ∀ i j : Nat, i < j → ∀ a b, l[i]? = some a → l[j]? = some b → a ≠ b) : l.Nodup := by
 unfold List.Nodup
 rw [List.pairwise_iff_getElem]
 exact fun i j hi hj hij => h i j hij _ _ (List.getElem?_eq_getElem hi) (List.getElem?_eq_getElem hj)
theorem nodup_get {α : Type} {l : List α} (h : l.Nodup) {i j : Nat} {a : α} (hi : l[i]? = some a) (hj : l[j]? = some a) : i = j := by
 obtain ⟨h1, e1⟩ := List.getElem?_eq_some_iff.1 hi
 obtain ⟨h2, e2⟩ := List.getElem?_eq_some_iff.1 hj
 unfold List.Nodup at h
 rw [List.pairwise_iff_getElem] at h
 rcases Nat.lt_trichotomy i j with h3 | h3 | h3
 ·exact absurd (e1.trans e2.symm) (h i j h1 h2 h3)
 ·exact h3
 ·exact absurd (e2.trans e1.symm) (h j i h2 h1 h3)
def zcb.Spec (C : CSem) (N : Nat → Nat) : Prop := ∀ (x : Itm) (a : AVal × AVal) (h : zb) (Q : AVal → zb → Prop), zej.at_ h x a → Q (.bool (zhh x)) h → C (N 411) [.agg (zlu x a)] h Q
theorem zcb.spec (i : zcb.Imp C N) : zcb.Spec C N := by
 intro x a h Q ha hq
 obtain ⟨⟨R1, a1⟩, _, a3, _⟩ : (∃ R, SlX h 2 a.1 (x.zb7.map Part.cs) R) ∧ (∃ R, SlX h 1 a.2 (x.zby.map tc) R) ∧ x.ok := ha
 unfold few at a3
 apply i
 have e1 := a1.zx
 rw [List.length_map] at e1
 simp -dsimp [e1]
 refine B.zm (fun hb => ?_) (fun hb => ?_)
 ·have hp : x.zb7 = [] := by
   have : (x.zb7.length : Int) = 0 := by simpa using hb
   exact List.length_eq_zero_iff.1 (by omega)
  have hk : zhh x = (decide (1 ≤ x.Life) && decide (x.Life ≤ 2000)) := by
   unfold zhh; rw [hp]
   show (decide (0 < x.Life) && decide (x.Life ≤ 2000)) = _
   congr 1
  by_cases hl : 1 ≤ x.Life
  ·simp -dsimp [hl]
   rw [hk] at hq
   simp [hl] at hq
   exact zbi hq
  ·simp -dsimp [hl]
   rw [hk] at hq
   simp [hl] at hq
   exact zbi hq
 ·have hp : x.zb7 ≠ [] := fun e => by rw [e] at hb; simp at hb
  have hk : zhh x = ((x.zb7.all fun p => decide (1 ≤ p.Qty) && decide (p.Qty ≤ 1073741824)) && (decide (zeq x).Nodup && (decide (x.Life = 0) && decide (x.zb7.length ≤ 8)))) := by unfold zhh; simp [hp]
  have no : zhh x = false → dn Q (.bool false) h := fun e => by rw [e] at hq; exact zbi hq
  by_cases hl : x.Life = 0
  rotate_left
  ·simp -dsimp [hl]
   exact no (by rw [hk]; simp [hl])
  by_cases h8 : 8 < x.zb7.length
  ·have h8' : (8 : Int) < (x.zb7.length : Int) := by omega
   simp -dsimp [hl, e1, h8']
   exact no (by rw [hk]; simp [show ¬ x.zb7.length ≤ 8 by omega])
  have h8' : ¬ (8 : Int) < (x.zb7.length : Int) := by omega
  simp -dsimp [hl, e1, h8']
  have get : ∀ {k : Nat} (hk : k < x.zb7.length), V.idxS 2 a.1 (.int .i64 (k : Int)) = some (elp 2 a.1 k 0) ∧ V.fieldAddr 0 (elp 2 a.1 k 0) = some (elp 2 a.1 k 0) ∧ V.fieldAddr 1 (elp 2 a.1 k 0) = some (elp 2 a.1 k 1) ∧ A.ldv h (elp 2 a.1 k 0) = some (.str x.zb7[k].Item) ∧ A.ldv h (elp 2 a.1 k 1) = some (.int .i64 x.zb7[k].Qty) := fun {k} hk => by
   have hg : (x.zb7.map Part.cs)[k]? = some x.zb7[k].cs := by rw [List.getElem?_map, List.getElem?_eq_getElem hk]; rfl
   have hl : k < (x.zb7.map Part.cs).length := by simpa using hk
   exact ⟨a1.idxN hl, a1.zr5 hl 0 0, a1.zr5 hl 0 1, a1.ldv hg (by decide), a1.ldv hg (by decide)⟩
  have gp : ∀ {k : Nat} (hk : k < x.zb7.length), (zeq x)[k]? = some x.zb7[k].Item := fun {k} hk => by
   unfold zeq; rw [List.getElem?_map, List.getElem?_eq_getElem hk]; rfl
  refine zd.intro (fun t vs hh => hh = h ∧ ∃ k : Nat, k + t = x.zb7.length ∧ vs = [.int .i64 (k : Int)] ∧ (∀ j (hj : j < x.zb7.length), j < k → 1 ≤ x.zb7[j].Qty ∧ x.zb7[j].Qty ≤ 1073741824) ∧
   ∀ i j, i < j → j < k → ∀ a b, (zeq x)[i]? = some a → (zeq x)[j]? = some b → a ≠ b) x.zb7.length ?_ ⟨rfl, 0, by omega, rfl, fun j _ hj => by omega, fun i j _ hj => by omega⟩
  rintro Y t vs hh ⟨rfl, k, ht, rfl, hqty, hnd⟩ hY
  simp -dsimp [e1]
  refine B.zm (fun hc => ?_) (fun hc => ?_)
  ·have hc : k < x.zb7.length := by simpa using hc
   obtain ⟨g1, g2, g3, g4, g5⟩ := get hc
   have hm : x.zb7[k] ∈ x.zb7 := List.getElem_mem hc
   by_cases q1 : x.zb7[k].Qty < 1
   ·simp -dsimp [g1, g3, g5, q1]
    refine no ?_
    rw [hk, List.all_eq_false.2 ⟨_, hm, by simp; omega⟩]; rfl
   by_cases q2 : 1073741824 < x.zb7[k].Qty
   ·simp -dsimp [g1, g3, g5, q1, q2]
    refine no ?_
    rw [hk, List.all_eq_false.2 ⟨_, hm, by simp; omega⟩]; rfl
   simp -dsimp [g1, g3, g5, q1, q2]
   refine zd.intro (fun t vs h2 => h2 = hh ∧ ∃ m : Nat, m + t = k ∧ vs = [.int .i64 (m : Int)] ∧ ∀ j, j < m → ∀ b, (zeq x)[j]? = some b → b ≠ x.zb7[k].Item) k ?_ ⟨rfl, 0, by omega, rfl, fun j hj => by omega⟩
   rintro Z t2 vs h2 ⟨rfl, m, ht2, rfl, hne⟩ hZ
   simp -dsimp only [zcb.l2, zcb.k1, lssN, B.zg]
   refine B.zm (fun hd => ?_) (fun hd => ?_)
   ·rw [decide_eq_true_eq] at hd
    have hml : m < x.zb7.length := by omega
    obtain ⟨k1, k2, k3, k4, k5⟩ := get hml
    simp -dsimp [k1, k2, k4, g1, g2, g4, - V.zdk]
    refine B.zm (fun hf => ?_) (fun hf => ?_)
    ·have hf : x.zb7[m].Item = x.zb7[k].Item := by simpa using hf
     refine no ?_
     have : ¬ (zeq x).Nodup := fun hn => by
      have := nodup_get hn (gp hml) (by rw [hf]; exact gp hc)
      omega
     rw [hk]; simp [this]
    ·have hf : x.zb7[m].Item ≠ x.zb7[k].Item := by simpa using hf
     simp -dsimp only [add1 (show m < 4611686018427387904 by omega), B.zg]
     refine hZ (t2 - 1) _ _ (by omega) ⟨rfl, m + 1, by omega, rfl, fun j hj b hb => ?_⟩
     by_cases e : j = m
     ·subst e; rw [gp hml] at hb; cases hb; exact hf
     ·exact hne j (by omega) b hb
   ·rw [decide_eq_false_iff_not] at hd
    have hmk : m = k := by omega
    subst hmk
    simp -dsimp only [add1 (show m < 4611686018427387904 by omega), B.zg]
    refine hY (t - 1) _ _ (by omega) ⟨rfl, m + 1, by omega, rfl, fun j hj hjm => ?_, fun i j hij hj a b h3 h4 => ?_⟩
    ·by_cases e : j = m
     ·subst e; exact ⟨by omega, by omega⟩
     ·exact hqty j hj (by omega)
    ·by_cases e : j = m
     ·subst e; rw [gp hc] at h4; cases h4; exact hne i hij a h3
     ·exact hnd i j hij (by omega) a b h3 h4
  ·have hc : ¬ k < x.zb7.length := by simpa using hc
   have hke : k = x.zb7.length := by omega
   subst hke
   have h1 : (x.zb7.all fun p => decide (1 ≤ p.Qty) && decide (p.Qty ≤ 1073741824)) = true := by
    rw [List.all_eq_true]
    intro p hp
    obtain ⟨j, hj, rfl⟩ := List.getElem_of_mem hp
    have := hqty j hj hj
    simp; omega
   have h2 : (zeq x).Nodup := zrs fun i j hij a b h3 h4 => hnd i j hij (by
    have := (List.getElem?_eq_some_iff.1 h4).1
    simpa [zeq] using this) a b h3 h4
   have : zhh x = true := by rw [hk, h1]; simp [h2, hl]; omega
   rw [this] at hq
   exact zbi hq
end Go.Ab
namespace Go.Ab
variable {C : CSem} {N : Nat → Nat}
def zol (L : List Itm) (i : Nat) : Option Nat := match L[i]? with | some x => zfi L x.Code | none => none
theorem zjr {L : List Itm} {i : Nat} {x : Itm} (h : L[i]? = some x) : zol L i = zfi L x.Code := by unfold zol; rw [h]
abbrev nats (n : Nat) (O : Nat → Nat) : List (List AVal) := zgb n fun j => [.int .i64 (O j : Int)]
def zcg.Spec (C : CSem) (N : Nat → Nat) : Prop := ∀ (x : AVal) (L : List Itm) (h : zb) (Q : AVal → zb → Prop), Dl zej h x L → L.length ≤ 1000000 → zir L = true → ze5 L = true →
 (∀ y h' (O : Nat → Nat), (∀ i, i < L.length → O i = (zol L i).getD 0) → Owns h h' [.sl 1 y (nats L.length O) []] → Q y h') → C (N 410) [x] h Q
structure RoundI (L : List Itm) (r i : Nat) (O : Nat → Nat) : Prop where
 ok : ∀ j, j < L.length → O j = 0 ∨ zol L j = some (O j)
 low : ∀ j, j < L.length → ∀ d, zol L j = some d → d ≤ r → O j = d
 now : ∀ j, j < L.length → j < i → ∀ d, zol L j = some d → d ≤ r + 1 → O j = d
theorem RoundI.set {L : List Itm} {r i : Nat} {O : Nat → Nat} (h : RoundI L r i O) (hi : i < L.length) (v : Nat) (h1 : v = 0 ∨ zol L i = some v) (h2 : ∀ d, zol L i = some d → d ≤ r + 1 → v = d) : RoundI L r (i + 1) (fun j => if j = i then v else O j) where
 ok j hj := by
  by_cases e : j = i
  ·subst e; simpa using h1
  ·simp only [if_neg e]; exact h.ok j hj
 low j hj d hd hr := by
  by_cases e : j = i
  ·subst e; simpa using h2 d hd (by omega)
  ·simp only [if_neg e]; exact h.low j hj d hd hr
 now j hj hji d hd hr := by
  by_cases e : j = i
  ·subst e; simpa using h2 d hd (by omega)
  ·simp only [if_neg e]; exact h.now j hj (by omega) d hd hr
theorem partsL_get {L : List Itm} (hsh : zir L = true) {i : Nat} {x : Itm} (h : L[i]? = some x) : zji L x.Code = zeq x := partsL_mem (zkq hsh) (List.mem_of_getElem? h)
theorem zcg.spec (i : zcg.Imp C N) (s1 : zdc.Spec C N) : zcg.Spec C N := by
 intro x L h Q hx hlen hsh hpt hq
 have hD := zom hpt
 have hKl : (zdq L).length = L.length := by simp [zdq]
 apply i
 simp -dsimp only [zcg.cps, hx.zx, B.zg]
 refine ⟨by omega, ?_⟩
 refine (Owns.start h).mks (bytes := 8) (es := 1) rfl (by omega) (by omega) (by omega) (by omega) fun y h1 o1 => ?_
 simp only [Int.toNat_natCast, Nat.sub_self, zr4] at o1
 refine zd.intro (fun t vs hh => ∃ (r : Nat) (O : Nat → Nat), r + t = L.length + 1 ∧ vs = [.int .i64 (r : Int)] ∧ Owns h hh [.sl 1 y (nats L.length O) []] ∧ RoundI L r 0 O) (L.length + 1) ?_
  ⟨0, fun _ => 0, by omega, rfl, o1, ⟨fun j hj => .inl rfl, fun j hj d hd hr => by
   obtain ⟨w, hw⟩ := ze8 hj
   rw [zjr hw] at hd
   have := hD.pos (List.mem_map_of_mem (List.mem_of_getElem? hw)) hd
   omega, fun j hj h => by omega⟩⟩
 rintro Y t vs hh ⟨r, O, ht, rfl, o, hR⟩ hY
 simp -dsimp only [zcg.l5, hx.zx, V.bin_leq, B.zg]
 refine B.zm (fun hc => ?_) (fun hc => ?_)
 ·have hc : r ≤ L.length := by
   have : (r : Int) ≤ L.length := by simpa using hc
   omega
  refine zd.intro (fun t vs h2 => ∃ (k : Nat) (O2 : Nat → Nat), k + t = L.length ∧ vs = [.int .i64 (k : Int)] ∧ Owns h h2 [.sl 1 y (nats L.length O2) []] ∧ RoundI L r k O2) L.length ?_ ⟨0, O, by omega, rfl, o, hR⟩
  rintro Z t2 vs h2 ⟨k, O2, ht2, rfl, o2, hR2⟩ hZ
  simp -dsimp only [zcg.l4, zcg.k3, hx.zx, lssN, B.zg]
  refine B.zm (fun hd => ?_) (fun hd => ?_)
  ·rw [decide_eq_true_eq] at hd
   obtain ⟨w, hw⟩ := ze8 hd
   have hwK : w.Code ∈ zdq L := List.mem_map_of_mem (List.mem_of_getElem? hw)
   have hdw := zjr hw
   have hpw := partsL_get hsh hw
   obtain ⟨p, oo, e1, e2, e3, e4, e5, e6, e7, e8, ha⟩ := zhx (hx.mono o2.le) hw
   obtain ⟨⟨R1, a1⟩, el, hpl⟩ := zqw ha
   have fin : ∀ v : Nat, (v = 0 ∨ zol L k = some v) → (∀ d, zol L k = some d → d ≤ r + 1 → v = d) → B.pv (V.idxS 1 y (.int .i64 (k : Int))) fun v57 => B.st h2 v57 (.int .i64 (v : Int)) fun h =>
     B.pv (V.bin .add (.int .i64 (k : Int)) (.int .i64 1)) fun v23 => Z [v23] h := fun v g1 g2 => by
    have hidx : V.idxS 1 y (.int .i64 (k : Int)) = some (elp 1 y k 0) := (o2.slAt 0 rfl).idxN (by simpa using hd)
    rw [hidx, B.zg]
    refine o2.st 0 rfl (zhv _ hd) (by omega) rfl fun h3 o3 _ => ?_
    simp -dsimp only [add1 (show k < 4611686018427387904 by omega), B.zg]
    have e0 : (nats L.length O2).set k ([AVal.int .i64 (O2 k : Int)].set 0 (.int .i64 (v : Int))) = nats L.length fun j => if j = k then v else O2 j := by
     rw [fills_set]
     exact zq0 fun j _ => by by_cases e : j = k <;> simp [e]
    refine hZ (t2 - 1) _ _ (by omega) ⟨k + 1, _, by omega, rfl, ?_, hR2.set hd v g1 g2⟩
    rw [← e0]; exact o3
   refine zd.intro (fun t vs h3 => h3 = h2 ∧ ∃ m q : Nat, q + t = w.zb7.length ∧ vs = [.int .i64 (m : Int), .int .i64 (q : Int)] ∧ maxD (zfi L) ((zeq w).take q) 1 = some m) w.zb7.length ?_ ⟨rfl, 1, 0, by omega, rfl, rfl⟩
   rintro W t3 vs h3 ⟨rfl, m, q, ht3, rfl, hmx⟩ hW
   simp -dsimp only [zcg.l2, zcg.k1, e1, e4, B.zg7, e7, el, lssN, B.zg]
   refine B.zm (fun hf => ?_) (fun hf => ?_)
   ·rw [decide_eq_true_eq] at hf
    have hg : (w.zb7.map Part.cs)[q]? = some w.zb7[q].cs := by rw [List.getElem?_map, List.getElem?_eq_getElem hf]; rfl
    have hl : q < (w.zb7.map Part.cs).length := by simpa using hf
    have g1 : V.idxS 2 p (.int .i64 (q : Int)) = some (elp 2 p q 0) := a1.idxN hl
    have g2 : V.fieldAddr 0 (elp 2 p q 0) = some (elp 2 p q 0) := a1.zr5 hl 0 0
    have g3 : A.ldv h3 (elp 2 p q 0) = some (.str w.zb7[q].Item) := a1.ldv hg (by decide)
    have hpm : w.zb7[q].Item ∈ zji L w.Code := by rw [hpw]; exact List.mem_map_of_mem (List.getElem_mem hf)
    have hpK := hD.cl _ hwK _ hpm
    simp -dsimp only [e1, e4, B.zg7, e7, g1, g2, g3, B.zg]
    refine s1 _ _ _ _ _ (hx.mono o2.le) (by omega) ?_
    obtain ⟨f1, f2⟩ := zpu (L := L) (c := w.zb7[q].Item)
    have hno : ¬ zjd L w.zb7[q].Item < 0 := fun h => zit.1 (f1.1 h) hpK
    obtain ⟨s, hs⟩ : ∃ s : Nat, zjd L w.zb7[q].Item = s := ⟨(zjd L w.zb7[q].Item).toNat, by omega⟩
    obtain ⟨z, hz, hiz⟩ := f2 s hs
    have hzc : z.Code = w.zb7[q].Item := (zj1 hiz).2
    have hsl : s < L.length := (List.getElem?_eq_some_iff.1 hz).1
    have hdz : zol L s = zfi L w.zb7[q].Item := by rw [zjr hz, hzc]
    have hidx : V.idxS 1 y (.int .i64 (s : Int)) = some (elp 1 y s 0) := (o2.slAt 0 rfl).idxN (by simpa using hsl)
    have hcell : A.ldv h3 (elp 1 y s 0) = some (.int .i64 (O2 s : Int)) := (o2.slAt 0 rfl).cell (zhv _ hsl)
    simp -dsimp only [hs, hidx, B.zg7, hcell, B.zg, V.zje]
    by_cases h0 : O2 s = 0
    ·have : decide ((O2 s : Int) = 0) = true := by simp [h0]
     simp -dsimp only [this, B.cond_true]
     refine fin 0 (.inl rfl) fun d hd1 hd2 => ?_
     rw [hdw] at hd1
     obtain ⟨e, he1, he2⟩ := hD.step hwK hpm hd1
     have := hR2.low s hsl e (by rw [hdz]; exact he1) (by omega)
     have := hD.pos hpK he1
     omega
    ·have : decide ((O2 s : Int) = 0) = false := by simp; omega
     have hds : zfi L w.zb7[q].Item = some (O2 s) := by
      rw [← hdz]; exact (hR2.ok s hsl).resolve_left h0
     have hle := hD.le _ hpK _ hds
     have ha1 : V.bin .add (.int .i64 (O2 s : Int)) (.int .i64 1) = some (.int .i64 ((O2 s + 1 : Nat) : Int)) := add1 (by omega)
     simp -dsimp only [this, B.cond_false, ha1, max2N, add1 (show q < 4611686018427387904 by omega), B.zg]
     refine hW (t3 - 1) _ _ (by omega) ⟨rfl, max m (O2 s + 1), q + 1, by omega, rfl, ?_⟩
     rw [zho hf, zms, hmx]
     show maxD (zfi L) [w.zb7[q].Item] m = _
     rw [zim, hds, Nat.add_comm]; rfl
   ·rw [decide_eq_false_iff_not] at hf
    have hk : q = w.zb7.length := by omega
    subst hk
    rw [List.take_of_length_le (by simp [zeq])] at hmx
    have hdc : zol L k = some m := by rw [hdw, hD.eq _ hwK, hpw, hmx]
    exact fin m (.inr hdc) fun d hd _ => by rw [hdc] at hd; exact Option.some.inj hd
  ·rw [decide_eq_false_iff_not] at hd
   have hk : k = L.length := by omega
   subst hk
   simp -dsimp only [add1 (show r < 4611686018427387904 by omega), B.zg]
   exact hY (t - 1) _ _ (by omega) ⟨r + 1, O2, by omega, rfl, o2, ⟨hR2.ok, fun j hj => hR2.now j hj hj, fun j hj h => by omega⟩⟩
 ·have hc : ¬ r ≤ L.length := by
   have : ¬ (r : Int) ≤ L.length := by simpa using hc
   omega
  refine zbi (hq y hh O (fun j hj => ?_) o)
  obtain ⟨w, hw⟩ := ze8 hj
  cases hd : zol L j with
  | none =>
   rcases hR.ok j hj with h1 | h1
   ·exact h1
   ·rw [hd] at h1; cases h1
  | some d =>
   have hd' := hd
   rw [zjr hw] at hd'
   have := hD.le _ (List.mem_map_of_mem (List.mem_of_getElem? hw)) d hd'
   exact hR.low j hj d hd (by omega)
end Go.Ab
namespace Go.Ab
variable {C : CSem} {N : Nat → Nat}
theorem findI_neg {L : List Itm} {c : List UInt8} : decide (zjd L c < 0) = decide (c ∉ zdq L) := decide_eq_decide.2 (zpu.1.trans zit)
def z0.Spec (C : CSem) (N : Nat → Nat) : Prop := ∀ (x : AVal) (L : List Itm) (h : zb) (Q : AVal → zb → Prop), Dl zej h x L → L.length ≤ 1000000 → Q (.int .i64 (zd6 L)) h → C (N 404) [x] h Q
theorem z0.spec (i : z0.Imp C N) (s1 : zc8.Spec C N) (s2 : zcb.Spec C N) (s3 : zdc.Spec C N) (s4 : zcg.Spec C N) : z0.Spec C N := by
  intro x L h Q hx hlen hq
  apply i
  simp -dsimp only [z0.cps, z0.k11, hx.zx, V.zop, B.zg]
  refine B.zm (fun hb => ?_) (fun hb => ?_)
  · have hk : zd6 L = 3 := by
      have : 60 < L.length := by have : (60 : Int) < L.length := by simpa using hb
                                 omega
      unfold zd6; simp [this]
    rw [hk] at hq
    exact zbi hq
  have hl60 : ¬ 60 < L.length := by
    have : ¬ (60 : Int) < L.length := by simpa using hb
    omega
  refine zd.intro (fun t vs hh => hh = h ∧ ∃ k : Nat, k + t = L.length ∧ vs = [.int .i64 (k : Int)] ∧ ∀ j, j < k → zph L j = true) L.length ?_ ⟨rfl, 0, by omega, rfl, fun j hj => by omega⟩
  rintro Y t vs hh ⟨rfl, k, ht, rfl, hall⟩ hY
  simp -dsimp only [z0.l10, z0.k9, hx.zx, lssN, B.zg]
  refine B.zm (fun hc => ?_) (fun hc => ?_)
  · rw [decide_eq_true_eq] at hc
    obtain ⟨r, hr⟩ := ze8 hc
    obtain ⟨p, o, e1, e2, e3, _, _, e6, _, _, ha⟩ := zhx hx hr
    have er := zk2 hr
    have no : zph L k = false → dn Q (.int .i64 4) hh := fun e => by
      have hk : zd6 L = 4 := by unfold zd6; simp [hl60, zo1 hc e]
      rw [hk] at hq
      exact zbi hq
    have yes : zph L k = true → Y [.int .i64 ((k + 1 : Nat) : Int)] hh := fun e => hY (t - 1) _ _ (by omega) ⟨rfl, k + 1, by omega, rfl, fun j hj => by
      by_cases h : j = k
      · subst h; exact e
      · exact hall j (by omega)⟩
    have fin : ze3 r.Code = true → ordAt L k r = true → B.gd hh (.bool false) false (fun K => K x hh) fun v44 h =>
        B.gd h (.bool false) false (fun K => K (.int .i64 (k : Int)) h) fun v45 h =>
        B.gd h (.bool false) false (fun K => B.pv (V.idxS 4 v44 v45) fun v => K v h) fun v46 h =>
        B.gd h (.bool false) false (fun K => B.ldn h v46 4 fun v => K v h) fun v47 h =>
        B.gd h (.bool false) false (fun K => B.call C (N 411) [v47] h K) fun v48 h =>
        B.gd h (.bool false) false (fun K => B.pv (V.un .not v48) fun v => K v h) fun v49 h =>
        B.pick (.bool false) (.bool true) v49 fun v50 =>
        B.cond v50 (dn Q (.int .i64 4) h) (B.pv (V.bin .add (.int .i64 (k : Int)) (.int .i64 1)) fun v50 => Y [v50] h) := fun hcr hor => by
      simp -dsimp [e1, e2, - V.zdk]
      refine s2 _ _ _ _ ha ?_
      rw [hcr, Bool.true_and, hor, Bool.true_and] at er
      cases hk : zhh r with
      | false =>
        simp -dsimp
        exact no (by rw [er, hk])
      | true =>
        simp -dsimp [- V.zdk, add1 (show k < 4611686018427387904 by omega)]
        exact yes (by rw [er, hk])
    simp -dsimp [e1, e3, e6, - V.zdk, - V.zff]
    refine s1 _ _ _ ?_
    cases hcr : ze3 r.Code with
    | false =>
      simp -dsimp
      exact no (by rw [er, hcr]; rfl)
    | true =>
      simp -dsimp [- V.zdk, - V.zff]
      by_cases h0 : k = 0
      · subst h0
        simp -dsimp [- V.zdk, - V.zff]
        have := fin hcr rfl
        simp -dsimp [- V.zdk, - V.zff] at this
        exact this
      · obtain ⟨r2, hr2⟩ := ze8 (L := L) (k := k - 1) (by omega)
        obtain ⟨p2, o2, f1, f2, f3, _, _, f6, _, _, _⟩ := zhx hx hr2
        have sk := sub1 (a := k) (by omega) (by omega)
        have hk0 : 0 < k := by omega
        simp -dsimp [hk0, sk, f1, f3, f6, e1, e3, e6, - V.zdk, - V.zff]
        have eo := zoc (x := r) h0 hr2
        simp -dsimp only [V.bin_sgeq, B.zg]
        cases hle : zgm r2.Code r.Code with
        | false =>
          simp -dsimp [hk0]
          exact no (by rw [er, hcr, eo, hle]; rfl)
        | true =>
          have := fin hcr (by rw [eo, hle])
          simp -dsimp [hk0, - V.zdk, - V.zff] at this ⊢
          exact this
  rw [decide_eq_false_iff_not] at hc
  have hk : k = L.length := by omega
  subst hk
  have hsh : zir L = true := zqs fun j hj => hall j hj
  refine zd.intro (fun t vs h1 => h1 = hh ∧ ∃ k : Nat, k + t = L.length ∧ vs = [.int .i64 (k : Int)] ∧ ∀ x ∈ L.take k, ∀ p ∈ x.zb7, p.Item ∈ zdq L) L.length ?_ ⟨rfl, 0, by omega, rfl, fun x h => (by simp at h)⟩
  rintro Y t vs hh ⟨rfl, k, ht, rfl, hall⟩ hY
  simp -dsimp only [z0.l8, z0.k7, hx.zx, lssN, B.zg]
  refine B.zm (fun hc => ?_) (fun hc => ?_)
  · rw [decide_eq_true_eq] at hc
    obtain ⟨r, hr⟩ := ze8 hc
    obtain ⟨p, o, e1, e2, _, e4, _, _, e7, _, ha⟩ := zhx hx hr
    obtain ⟨⟨R1, a1⟩, el, hpl⟩ := zqw ha
    refine zd.intro (fun t vs h2 => h2 = hh ∧ ∃ m : Nat, m + t = r.zb7.length ∧ vs = [.int .i64 (m : Int)] ∧ ∀ p ∈ r.zb7.take m, p.Item ∈ zdq L) r.zb7.length ?_ ⟨rfl, 0, by omega, rfl, fun x h => (by simp at h)⟩
    rintro Z t2 vs h2 ⟨rfl, m, ht2, rfl, hall2⟩ hZ
    simp -dsimp only [z0.l6, z0.k5, e1, e4, B.zg7, e7, el, lssN, B.zg]
    refine B.zm (fun hb => ?_) (fun hb => ?_)
    · rw [decide_eq_true_eq] at hb
      have hg : (r.zb7.map Part.cs)[m]? = some r.zb7[m].cs := by rw [List.getElem?_map, List.getElem?_eq_getElem hb]; rfl
      have hl : m < (r.zb7.map Part.cs).length := by simpa using hb
      have g1 : V.idxS 2 p (.int .i64 (m : Int)) = some (elp 2 p m 0) := a1.idxN hl
      have g2 : V.fieldAddr 0 (elp 2 p m 0) = some (elp 2 p m 0) := a1.zr5 hl 0 0
      have g3 : A.ldv h2 (elp 2 p m 0) = some (.str r.zb7[m].Item) := a1.ldv hg (by decide)
      simp -dsimp only [e1, e4, B.zg7, e7, g1, g2, g3, B.zg]
      refine s3 _ _ _ _ _ hx (by omega) ?_
      simp -dsimp only [V.zfm, B.zg, findI_neg]
      refine B.zm (fun hd => ?_) (fun hd => ?_)
      · have hd : r.zb7[m].Item ∉ zdq L := by simpa using hd
        have hk : zd6 L = 150 := by
          unfold zd6
          simp [hl60, hsh, zj9 (List.mem_of_getElem? hr) (List.getElem_mem hb) hd]
        rw [hk] at hq
        exact zbi hq
      · have hd : r.zb7[m].Item ∈ zdq L := by simpa using hd
        simp -dsimp only [add1 (show m < 4611686018427387904 by omega), B.zg]
        refine hZ (t2 - 1) _ _ (by omega) ⟨rfl, m + 1, by omega, rfl, fun p hp => ?_⟩
        rw [List.take_add_one, List.getElem?_eq_getElem hb, List.mem_append] at hp
        rcases hp with hp | hp
        · exact hall2 p hp
        · have : p = r.zb7[m] := by simpa using hp
          rw [this]; exact hd
    · rw [decide_eq_false_iff_not] at hb
      have hk : m = r.zb7.length := by omega
      subst hk
      rw [List.take_length] at hall2
      simp -dsimp only [add1 (show k < 4611686018427387904 by omega), B.zg]
      refine hY (t - 1) _ _ (by omega) ⟨rfl, k + 1, by omega, rfl, fun x hx => ?_⟩
      rw [List.take_add_one, hr, List.mem_append] at hx
      rcases hx with hx | hx
      · exact hall x hx
      · have : x = r := by simpa using hx
        rw [this]; exact hall2
  rw [decide_eq_false_iff_not] at hc
  have hk : k = L.length := by omega
  subst hk
  rw [List.take_length] at hall
  have hpt : ze5 L = true := by
    unfold ze5
    rw [List.all_eq_true]
    intro x hx
    rw [List.all_eq_true]
    intro p hp
    simpa using hall x hx p hp
  have hD := zom hpt
  have hkc : zd6 L = bif L.any (fun x => decide (zfi L x.Code = none)) then 152 else bif L.any (fun x => decide (8 < (zfi L x.Code).getD 0)) then 3 else 0 := by
    unfold zd6
    simp only [hl60, hsh, hpt, decide_false, Bool.not_true, cond_false]
  refine s4 _ _ _ _ hx hlen hsh hpt fun y h2 O hO o2 => ?_
  have hxo := o2.slAt 0 rfl
  have hly : V.zx y = some (.int .i64 (L.length : Int)) := by simpa using hxo.zx
  have get : ∀ {k : Nat} (hk : k < L.length), V.idxS 1 y (.int .i64 (k : Int)) = some (elp 1 y k 0) ∧ A.ldv h2 (elp 1 y k 0) = some (.int .i64 (O k : Int)) := fun {k} hk =>
    ⟨hxo.idxN (by simpa using hk), hxo.cell (zhv _ hk)⟩
  have hOk : ∀ {k : Nat} {w : Itm}, L[k]? = some w → O k = (zfi L w.Code).getD 0 := fun {k w} hw => by
    rw [hO k (List.getElem?_eq_some_iff.1 hw).1, zjr hw]
  refine zd.intro (fun t vs h3 => h3 = h2 ∧ ∃ k : Nat, k + t = L.length ∧ vs = [.int .i64 (k : Int)] ∧ ∀ x ∈ L.take k, zfi L x.Code ≠ none) L.length ?_ ⟨rfl, 0, by omega, rfl, fun x h => (by simp at h)⟩
  rintro Z t3 vs h3 ⟨rfl, k, ht3, rfl, hz⟩ hZ
  simp -dsimp only [z0.l4, z0.k3, hly, lssN, B.zg]
  refine B.zm (fun hd => ?_) (fun hd => ?_)
  · rw [decide_eq_true_eq] at hd
    obtain ⟨w, hw⟩ := ze8 hd
    have hwm := List.mem_of_getElem? hw
    obtain ⟨g1, g2⟩ := get hd
    simp -dsimp only [g1, B.zg7, g2, V.zje, B.zg, hOk hw]
    cases hdw : zfi L w.Code with
    | none =>
      simp -dsimp
      have : L.any (fun x => decide (zfi L x.Code = none)) = true := List.any_eq_true.2 ⟨w, hwm, by simp [hdw]⟩
      rw [hkc, this] at hq
      exact zkf o2.le hq
    | some d =>
      have hp := hD.pos (List.mem_map_of_mem hwm) hdw
      have h0 : ¬ d = 0 := by omega
      have : ¬ (d : Int) = 0 := by omega
      simp -dsimp [this, h0, - V.zdk, add1 (show k < 4611686018427387904 by omega)]
      refine hZ (t3 - 1) _ _ (by omega) ⟨rfl, k + 1, by omega, rfl, fun x hx => ?_⟩
      rw [List.take_add_one, hw, List.mem_append] at hx
      rcases hx with hx | hx
      · exact hz x hx
      · have : x = w := by simpa using hx
        rw [this, hdw]; simp
  rw [decide_eq_false_iff_not] at hd
  have hk : k = L.length := by omega
  subst hk
  rw [List.take_length] at hz
  have hny : L.any (fun x => decide (zfi L x.Code = none)) = false := by
    rw [List.any_eq_false]
    intro x hx
    simpa using hz x hx
  rw [hny, cond_false] at hkc
  refine zd.intro (fun t vs h4 => h4 = h3 ∧ ∃ k : Nat, k + t = L.length ∧ vs = [.int .i64 (k : Int)] ∧ ∀ x ∈ L.take k, (zfi L x.Code).getD 0 ≤ 8) L.length ?_ ⟨rfl, 0, by omega, rfl, fun x h => (by simp at h)⟩
  rintro W t4 vs h4 ⟨rfl, k, ht4, rfl, hw8⟩ hW
  simp -dsimp only [z0.l2, z0.k1, hly, lssN, B.zg]
  refine B.zm (fun hf => ?_) (fun hf => ?_)
  · rw [decide_eq_true_eq] at hf
    obtain ⟨w, hw⟩ := ze8 hf
    have hwm := List.mem_of_getElem? hw
    obtain ⟨g1, g2⟩ := get hf
    simp -dsimp only [g1, B.zg7, g2, V.zop, B.zg, hOk hw]
    refine B.zm (fun he => ?_) (fun he => ?_)
    · have he : 8 < (zfi L w.Code).getD 0 := by
        have : (8 : Int) < ((zfi L w.Code).getD 0 : Nat) := by simpa using he
        omega
      have : L.any (fun x => decide (8 < (zfi L x.Code).getD 0)) = true := List.any_eq_true.2 ⟨w, hwm, by simp [he]⟩
      rw [hkc, this] at hq
      exact zkf o2.le hq
    · have he : ¬ 8 < (zfi L w.Code).getD 0 := by
        have : ¬ (8 : Int) < ((zfi L w.Code).getD 0 : Nat) := by simpa using he
        omega
      simp -dsimp only [add1 (show k < 4611686018427387904 by omega), B.zg]
      refine hW (t4 - 1) _ _ (by omega) ⟨rfl, k + 1, by omega, rfl, fun x hx => ?_⟩
      rw [List.take_add_one, hw, List.mem_append] at hx
      rcases hx with hx | hx
      · exact hw8 x hx
      · have : x = w := by simpa using hx
        rw [this]; omega
  · rw [decide_eq_false_iff_not] at hf
    have hk : k = L.length := by omega
    subst hk
    rw [List.take_length] at hw8
    have : L.any (fun x => decide (8 < (zfi L x.Code).getD 0)) = false := by
      rw [List.any_eq_false]
      intro x hx
      have := hw8 x hx
      simp; omega
    rw [hkc, this] at hq
    exact zkf o2.le hq
end Go.Ab
namespace Go.Ab
variable {C : CSem} {N : Nat → Nat}
def zcn.Spec (C : CSem) (N : Nat → Nat) : Prop := ∀ (x : Itm) (a : AVal × AVal) (h : zb) (Q : AVal → zb → Prop), zej.at_ h x a → Q (.bool (zfy x)) h → C (N 403) [.agg (zlu x a)] h Q
theorem zcn.spec (i : zcn.Imp C N) : zcn.Spec C N := by
 intro x a h Q ha hq
 obtain ⟨_, ⟨R1, a1⟩, _, a3⟩ : (∃ R, SlX h 2 a.1 (x.zb7.map Part.cs) R) ∧ (∃ R, SlX h 1 a.2 (x.zby.map tc) R) ∧ x.ok := ha
 unfold few at a3
 apply i
 have e1 := a1.zx
 rw [List.length_map] at e1
 simp -dsimp
 have no : ¬ (x.Code :: x.zby).Nodup → dn Q (.bool false) h := fun e => by
  have : zfy x = false := by unfold zfy; rw [Bool.and_eq_false_iff]; exact .inr (by simpa using e)
  rw [this] at hq; exact zbi hq
 have get : ∀ {k : Nat} (hk : k < x.zby.length), V.idxS 1 a.2 (.int .i64 (k : Int)) = some (elp 1 a.2 k 0) ∧ A.ldv h (elp 1 a.2 k 0) = some (.str x.zby[k]) := fun {k} hk => by
  have hg : (x.zby.map tc)[k]? = some (tc x.zby[k]) := by rw [List.getElem?_map, List.getElem?_eq_getElem hk]; rfl
  exact ⟨a1.idxN (by simpa using hk), a1.cell hg⟩
 refine zd.intro (fun t vs hh => hh = h ∧ ∃ k : Nat, k + t = x.zby.length ∧ vs = [.int .i64 (k : Int)] ∧ (∀ s ∈ x.zby.take k, s ≠ x.Code) ∧
  ∀ i j : Nat, i < j → j < k → ∀ a b, x.zby[i]? = some a → x.zby[j]? = some b → a ≠ b) x.zby.length ?_ ⟨rfl, 0, by omega, rfl, fun j h => (by simp at h), fun i j _ hj => by omega⟩
 rintro Y t vs hh ⟨rfl, k, ht, rfl, hne, hnd⟩ hY
 simp -dsimp [e1]
 refine B.zm (fun hc => ?_) (fun hc => ?_)
 ·have hc : k < x.zby.length := by simpa using hc
  obtain ⟨g1, g2⟩ := get hc
  simp -dsimp [g1, g2]
  refine B.zm (fun hb => ?_) (fun hb => ?_)
  ·have hb : x.zby[k] = x.Code := by simpa using hb
   refine no fun hn => ?_
   exact (List.nodup_cons.1 hn).1 (by rw [← hb]; exact List.getElem_mem hc)
  have hb : x.zby[k] ≠ x.Code := by simpa using hb
  refine zd.intro (fun t vs h2 => h2 = hh ∧ ∃ m : Nat, m + t = k ∧ vs = [.int .i64 (m : Int)] ∧ ∀ j : Nat, j < m → ∀ b, x.zby[j]? = some b → b ≠ x.zby[k]) k ?_ ⟨rfl, 0, by omega, rfl, fun j hj => by omega⟩
  rintro Z t2 vs h2 ⟨rfl, m, ht2, rfl, hne2⟩ hZ
  simp -dsimp only [zcn.l2, zcn.k1, lssN, B.zg]
  refine B.zm (fun hd => ?_) (fun hd => ?_)
  ·rw [decide_eq_true_eq] at hd
   have hml : m < x.zby.length := by omega
   obtain ⟨k1, k2⟩ := get hml
   simp -dsimp [k1, k2, g1, g2, - V.zdk]
   refine B.zm (fun hf => ?_) (fun hf => ?_)
   ·have hf : x.zby[m] = x.zby[k] := by simpa using hf
    refine no fun hn => ?_
    have := nodup_get (List.nodup_cons.1 hn).2 (List.getElem?_eq_getElem hml) (by rw [hf]; exact List.getElem?_eq_getElem hc)
    omega
   ·have hf : x.zby[m] ≠ x.zby[k] := by simpa using hf
    simp -dsimp only [add1 (show m < 4611686018427387904 by omega), B.zg]
    refine hZ (t2 - 1) _ _ (by omega) ⟨rfl, m + 1, by omega, rfl, fun j hj b hb => ?_⟩
    by_cases e : j = m
    ·subst e; rw [List.getElem?_eq_getElem hml] at hb; cases hb; exact hf
    ·exact hne2 j (by omega) b hb
  ·rw [decide_eq_false_iff_not] at hd
   have hmk : m = k := by omega
   subst hmk
   simp -dsimp only [add1 (show m < 4611686018427387904 by omega), B.zg]
   refine hY (t - 1) _ _ (by omega) ⟨rfl, m + 1, by omega, rfl, fun s hs => ?_, fun i j hij hj a b h3 h4 => ?_⟩
   ·rw [List.take_add_one, List.getElem?_eq_getElem hc, List.mem_append] at hs
    rcases hs with hs | hs
    ·exact hne s hs
    ·have : s = x.zby[m] := by simpa using hs
     rw [this]; exact hb
   ·by_cases e : j = m
    ·subst e; rw [List.getElem?_eq_getElem hc] at h4; cases h4; exact hne2 i hij a h3
    ·exact hnd i j hij (by omega) a b h3 h4
 ·have hc : ¬ k < x.zby.length := by simpa using hc
  have hke : k = x.zby.length := by omega
  subst hke
  rw [List.take_length] at hne
  have h2 : (x.Code :: x.zby).Nodup := List.nodup_cons.2 ⟨fun hm => hne _ hm rfl, zrs fun i j hij a b h3 h4 => hnd i j hij (List.getElem?_eq_some_iff.1 h4).1 a b h3 h4⟩
  have : zfy x = decide ((x.zby.length : Int) ≤ 4) := by
   unfold zfy
   rw [decide_eq_true h2, Bool.and_true]
   exact decide_eq_decide.2 (by omega)
  rw [this] at hq
  simp -dsimp [e1]
  have e4 : decide ((x.zby.length : Int) ≤ 4) = decide (x.zby.length ≤ 4) := decide_eq_decide.2 (by omega)
  first | exact zbi hq | (rw [e4] at hq; exact zbi hq)
def zbw.Spec (C : CSem) (N : Nat → Nat) : Prop := ∀ (x : AVal) (L : List Itm) (h : zb) (Q : AVal → zb → Prop), Dl zej h x L → L.length ≤ 1000000 → Q (.int .i64 (zfp L)) h → C (N 394) [x] h Q
theorem zbw.spec (i : zbw.Imp C N) (s1 : z0.Spec C N) (s2 : zcn.Spec C N) (s3 : zdc.Spec C N) : zbw.Spec C N := by
 intro x L h Q hx hlen hq
 apply i
 simp -dsimp only [zbw.cps, zbw.k7]
 refine s1 _ _ _ _ hx hlen ?_
 simp -dsimp only [V.bin_neq, B.zg]
 refine B.zm (fun hb => ?_) (fun hb => ?_)
 ·have hb : zd6 L ≠ 0 := by simpa using hb
  have : zfp L = zd6 L := by unfold zfp; simp [hb]
  rw [this] at hq
  exact zbi hq
 have hb : zd6 L = 0 := by simpa using hb
 have hsw : zfp L = bif !L.all zfy then 4 else bif !zfx L then 150 else 0 := by unfold zfp; simp [hb]
 refine zd.intro (fun t vs hh => hh = h ∧ ∃ k : Nat, k + t = L.length ∧ vs = [.int .i64 (k : Int)] ∧ ∀ x ∈ L.take k, zfy x = true) L.length ?_ ⟨rfl, 0, by omega, rfl, by simp⟩
 rintro Y t vs hh ⟨rfl, k, ht, rfl, hok⟩ hY
 simp -dsimp only [zbw.l6, zbw.k5, hx.zx, lssN, B.zg]
 refine B.zm (fun hc => ?_) (fun hc => ?_)
 ·rw [decide_eq_true_eq] at hc
  obtain ⟨r, hr⟩ := ze8 hc
  have hm := List.mem_of_getElem? hr
  obtain ⟨p, oo, e1, e2, ha⟩ := itm_get2 hx (zb.le_refl _) hr
  simp -dsimp only [e1, B.zqr, e2, B.zg]
  refine s2 _ _ _ _ ha ?_
  cases hro : zfy r with
  | false =>
   simp -dsimp
   have : L.all zfy = false := List.all_eq_false.2 ⟨r, hm, by simp [hro]⟩
   rw [hsw, this] at hq
   exact zbi hq
  | true =>
   simp -dsimp [- V.zdk, add1 (show k < 4611686018427387904 by omega)]
   refine hY (t - 1) _ _ (by omega) ⟨rfl, k + 1, by omega, rfl, fun x hx => ?_⟩
   rw [List.take_add_one, hr, List.mem_append] at hx
   rcases hx with hx | hx
   ·exact hok x hx
   ·have : x = r := by simpa using hx
    rw [this]; exact hro
 ·rw [decide_eq_false_iff_not] at hc
  have hk : k = L.length := by omega
  subst hk
  rw [List.take_length] at hok
  rw [List.all_eq_true.2 hok] at hsw
  refine zd.intro (fun t vs h2 => h2 = hh ∧ ∃ k : Nat, k + t = L.length ∧ vs = [.int .i64 (k : Int)] ∧ ∀ x ∈ L.take k, ∀ s ∈ x.zby, s ∈ zdq L) L.length ?_ ⟨rfl, 0, by omega, rfl, fun x h => (by simp at h)⟩
  rintro Z t2 vs h2 ⟨rfl, k, ht2, rfl, hin⟩ hZ
  simp -dsimp only [zbw.l4, zbw.k3, hx.zx, lssN, B.zg]
  refine B.zm (fun hd => ?_) (fun hd => ?_)
  ·rw [decide_eq_true_eq] at hd
   obtain ⟨r, hr⟩ := ze8 hd
   have hm := List.mem_of_getElem? hr
   obtain ⟨p, oo, e1, _, _, _, e5, _, _, e8, ha⟩ := zhx hx hr
   obtain ⟨⟨R2, a2⟩, el, hol⟩ := zjp ha
   refine zd.intro (fun t vs h3 => h3 = h2 ∧ ∃ m : Nat, m + t = r.zby.length ∧ vs = [.int .i64 (m : Int)] ∧ ∀ s ∈ r.zby.take m, s ∈ zdq L) r.zby.length ?_ ⟨rfl, 0, by omega, rfl, fun x h => (by simp at h)⟩
   rintro W t3 vs h3 ⟨rfl, m, ht3, rfl, hin2⟩ hW
   simp -dsimp only [zbw.l2, zbw.k1, e1, e5, B.zg7, e8, el, lssN, B.zg]
   refine B.zm (fun hf => ?_) (fun hf => ?_)
   ·rw [decide_eq_true_eq] at hf
    have hg : (r.zby.map tc)[m]? = some (tc r.zby[m]) := by rw [List.getElem?_map, List.getElem?_eq_getElem hf]; rfl
    have hidx : V.idxS 1 oo (.int .i64 (m : Int)) = some (elp 1 oo m 0) := a2.idxN (by simpa using hf)
    have hcell : A.ldv h3 (elp 1 oo m 0) = some (.str r.zby[m]) := a2.cell hg
    simp -dsimp only [e1, e5, B.zg7, e8, hidx, hcell, B.zg]
    refine s3 _ _ _ _ _ hx (by omega) ?_
    simp -dsimp only [V.zfm, B.zg, findI_neg]
    refine B.zm (fun he => ?_) (fun he => ?_)
    ·have he : r.zby[m] ∉ zdq L := by simpa using he
     rw [hsw, zjk hm (List.getElem_mem hf) he] at hq
     exact zbi hq
    ·have he : r.zby[m] ∈ zdq L := by simpa using he
     simp -dsimp only [add1 (show m < 4611686018427387904 by omega), B.zg]
     refine hW (t3 - 1) _ _ (by omega) ⟨rfl, m + 1, by omega, rfl, fun s hs => ?_⟩
     rw [List.take_add_one, List.getElem?_eq_getElem hf, List.mem_append] at hs
     rcases hs with hs | hs
     ·exact hin2 s hs
     ·have : s = r.zby[m] := by simpa using hs
      rw [this]; exact he
   ·rw [decide_eq_false_iff_not] at hf
    have hk : m = r.zby.length := by omega
    subst hk
    rw [List.take_length] at hin2
    simp -dsimp only [add1 (show k < 4611686018427387904 by omega), B.zg]
    refine hZ (t2 - 1) _ _ (by omega) ⟨rfl, k + 1, by omega, rfl, fun x hx => ?_⟩
    rw [List.take_add_one, hr, List.mem_append] at hx
    rcases hx with hx | hx
    ·exact hin x hx
    ·have : x = r := by simpa using hx
     rw [this]; exact hin2
  ·rw [decide_eq_false_iff_not] at hd
   have hk : k = L.length := by omega
   subst hk
   rw [List.take_length] at hin
   have : zfx L = true := by
    unfold zfx
    rw [List.all_eq_true]
    intro x hx
    rw [List.all_eq_true]
    intro s hs
    simpa using hin x hx s hs
   rw [hsw, this] at hq
   exact zbi hq
def zen.Spec (C : CSem) (N : Nat → Nat) : Prop := ∀ (x : AVal) (c : List UInt8) (L : List Itm) (h : zb) (Q : AVal → zb → Prop), Dl zej h x L → L.length ≤ 1000000 →
 (∀ x' R' h', Owns h h' [.sl 1 x' ((zg5 L c).map tc) R'] → Q x' h') → C (N 395) [x, .str c] h Q
theorem zen.spec (i : zen.Imp C N) (s1 : zdc.Spec C N) : zen.Spec C N := by
 intro x c L h Q hx hlen hq
 apply i
 refine s1 _ _ _ _ _ hx (by omega) ?_
 simp -dsimp only [V.zfm, B.zg]
 obtain ⟨f1, f2⟩ := zpu (L := L) (c := c)
 refine B.zm (fun hc => ?_) (fun hc => ?_)
 ·have hn : zg0 L c = none := f1.1 (by simpa using hc)
  exact zbi (hq .nils [] h (by unfold zg5; rw [hn]; exact (Owns.start h).nils 1))
 ·have hc : ¬ zjd L c < 0 := by simpa using hc
  obtain ⟨k, hk⟩ : ∃ k : Nat, zjd L c = k := ⟨(zjd L c).toNat, by omega⟩
  obtain ⟨r, hr, hi⟩ := f2 k hk
  simp -dsimp
  intro i12 h12
  have o1 := (Owns.start h).newSl (id := i12) (n := 1) (cp := 1) (es := 1) (cs := [.str c]) (L := [[.str c]]) (R := []) h12 (by simp) rfl (by simp) rfl
  obtain ⟨p, o, e1, e2, e3, e4, e5, e6, e7, e8, ha⟩ := zhx (hx.mono o1.le) hr
  obtain ⟨⟨R2, a2⟩, el, hol⟩ := zjp ha
  simp -dsimp [hk, e1, e5, e8]
  refine o1.appW 0 rfl a2 Nat.one_pos (by simp; omega) (by simp [maxLen]; omega) fun x' h' o2 _ => ?_
  have hs : zg5 L c = c :: r.zby := by unfold zg5; rw [hi]
  exact zbi (hq x' [] h' (by rw [hs]; exact o2))
end Go.Ab
namespace Go.Ab
variable {C : CSem} {N : Nat → Nat}
@[simp] def zlm.k1 (C : CSem) (n fm : Nat) (Q : AVal → zb → Prop) (Y1 : List AVal → zb → Prop) (v3 v4 : AVal) (h : zb) : Prop :=
 B.pv (V.zx v3) fun v23 =>
  B.pv (V.bin .lss v4 v23) fun v24 =>
  B.cond v24
  (B.call C fm [(.int .i64 2), v4] h fun v30 h =>
  B.pv (V.idxS n v3 v4) fun v31 =>
  B.stn h v31 n v30 fun h =>
  B.pv (V.bin .add v4 (.int .i64 1)) fun v26 =>
  Y1 [v26] h)
  (Q (.tup []) h)
@[simp] def zlm.l2 (C : CSem) (n fm : Nat) (Q : AVal → zb → Prop) (v3 : AVal) : List AVal → zb → (List AVal → zb → Prop) → Prop
 | [v4], h, Y1 => zlm.k1 C n fm Q Y1 v3 v4 h
 | _, _, _ => False
@[simp] def zlm.k3 (C : CSem) (n fm : Nat) (Q : AVal → zb → Prop) (v0 : AVal) (h : zb) : Prop :=
 B.pv (V.zx v0) fun v18 =>
  B.pv (V.bin .add v18 (.int .i64 12)) fun v19 =>
  B.pv (V.zfj n v0 none (some v19)) fun v20 =>
  zd (zlm.l2 C n fm Q v20) [(.int .i64 0)] h
@[simp] def zlm.k4 (C : CSem) (n fo fm : Nat) (Q : AVal → zb → Prop) (Y2 : List AVal → zb → Prop) (v0 v2 : AVal) (h : zb) : Prop :=
 B.pv (V.zx v0) fun v7 =>
  B.pv (V.bin .lss v2 v7) fun v8 =>
  B.cond v8
  (B.pv (V.idxS n v0 v2) fun v13 =>
  B.ldn h v13 n fun v14 =>
  B.call C fo [v14] h fun v15 h =>
  B.pv (V.bin .add v2 (.int .i64 1)) fun v10 =>
  Y2 [v10] h)
  (zlm.k3 C n fm Q v0 h)
@[simp] def zlm.l5 (C : CSem) (n fo fm : Nat) (Q : AVal → zb → Prop) (v0 : AVal) : List AVal → zb → (List AVal → zb → Prop) → Prop
 | [v2], h, Y2 => zlm.k4 C n fo fm Q Y2 v0 v2 h
 | _, _, _ => False
def zlm (C : CSem) (n fo fm : Nat) (v0 : AVal) (h : zb) (Q : AVal → zb → Prop) : Prop := zd (zlm.l5 C n fo fm Q v0) [(.int .i64 0)] h
section
variable {T Ad : Type} (K : DK T Ad)
def OverE (K : DK T Ad) (C : CSem) (f : Nat) : Prop := ∀ (t : T) (a : Ad) (h0 h : zb) (Q : AVal → zb → Prop), K.ok t → Owns h0 h (K.obs true t a) → (∀ h', h0.le h' → Q (.tup []) h') → C f [.agg (K.cells t a)] h Q
theorem overD_spec {mk : Int → Int → T} {fo fm : Nat} (so : OverE K C fo) (sm : MarkE K mk C fm) {h0 h : zb} {x : AVal} {P PM : List (T × Ad)} {Q : AVal → zb → Prop} (ho : Owns h0 h (.sl K.n x (P.map K.cs) (PM.map K.cs) :: (K.os true P ++ K.os false PM))) (hok : ∀ p ∈ P, K.ok p.1) (hM : PM.length = 12) (hl : P.length ≤ 100000000)
  (hq : ∀ h', h0.le h' → Q (.tup []) h') : zlm C K.n fo fm x h Q := by
 have ho1 : Owns h0 h (.sl K.n x (P.map K.cs) (PM.map K.cs) :: K.os true P) := ho.sub (List.Sublist.cons_cons _ (List.sublist_append_left _ _))
 have e1 : IntKind.i64.wrap ((P.length : Int) + 12) = ((P.length + 12 : Nat) : Int) := by rw [wrap_i64 (by omega) (by omega)]; omega
 refine zd.intro (fun n vs hh => ∃ k : Nat, k + n = P.length ∧ vs = [.int .i64 k] ∧ Owns h0 hh (.sl K.n x (P.map K.cs) (PM.map K.cs) :: K.os true (P.drop k))) P.length ?_ ⟨0, by omega, rfl, ho1⟩
 rintro Y n vs hh ⟨k, hk, rfl, o⟩ hY
 have hx := o.slAt 0 rfl
 have hlx := hx.zx
 rw [List.length_map] at hlx
 simp -dsimp only [zlm.l5, zlm.k4, hlx, lssN, B.zg]
 refine B.zm (fun hb => ?_) (fun hb => ?_)
 ·rw [decide_eq_true_eq] at hb
  have hd : P.drop k = P[k] :: P.drop (k + 1) := List.drop_eq_getElem_cons hb
  have hg : (P.map K.cs)[k]? = some (K.cells P[k].1 P[k].2) := by rw [List.getElem?_map, List.getElem?_eq_getElem hb]; rfl
  have hidx : V.idxS K.n x (.int .i64 (k : Int)) = some (elp K.n x k 0) := hx.idxN (by simpa using hb)
  simp -dsimp only [hidx, B.zqr, hx.elem hg, B.zg]
  rw [hd] at o
  have eo : K.os true (P[k] :: P.drop (k + 1)) = K.obs true P[k].1 P[k].2 ++ K.os true (P.drop (k + 1)) := by simp only [DK.os, List.flatMap_cons]
  rw [eo] at o
  have o' : Owns h0 hh ((.sl K.n x (P.map K.cs) (PM.map K.cs) :: K.os true (P.drop (k + 1))) ++ K.obs true P[k].1 P[k].2) := o.perm (by
   rw [List.cons_append]
   exact List.Perm.cons _ (List.perm_append_comm))
  obtain ⟨o1, o2⟩ := o'.out
  refine so _ _ _ _ _ (hok _ (List.getElem_mem hb)) o2 fun h' hle => ?_
  simp -dsimp only [add1 (show k < 4611686018427387904 by omega), B.zg]
  exact hY (n - 1) _ _ (by omega) ⟨k + 1, by omega, rfl, o1.grow hle⟩
 ·rw [decide_eq_false_iff_not] at hb
  have o1 : Owns h0 hh [.sl K.n x (P.map K.cs) (PM.map K.cs)] := o.sub (List.Sublist.cons_cons _ (List.nil_sublist _))
  obtain ⟨z, e2, e3, e4⟩ := hx.slice K.pos (lo := 0) (hi := P.length + 12) (a := none) (b := some (.int .i64 ((P.length + 12 : Nat) : Int))) (.inl ⟨rfl, rfl⟩) (.inr ⟨_, rfl⟩) (by omega) (by simp; omega)
  have h1 : ((P.map K.cs ++ PM.map K.cs).take (P.length + 12)).drop 0 = P.map K.cs ++ PM.map K.cs := by rw [List.drop_zero, List.take_of_length_le]; simp; omega
  rw [h1] at e3
  simp -dsimp only [zlm.k3, hlx, V.zdk, e1, e2, B.zg]
  have hoz : Owns h0 hh [.sl K.n z (P.map K.cs ++ PM.map K.cs) ((P.map K.cs ++ PM.map K.cs).drop (P.length + 12))] := o1.turn 0 rfl (o' := .sl K.n z (P.map K.cs ++ PM.map K.cs) ((P.map K.cs ++ PM.map K.cs).drop (P.length + 12))) e3 (fun id b hf hb => o1.zng 0 rfl id b (by show foot x = some id; rw [← e4]; exact hf) hb) (fun j b hb _ => hb) (.inl e4)
  refine zd.intro (fun n vs hh => ∃ (k : Nat) (L' : List (List AVal)), k + n = P.length + 12 ∧ vs = [.int .i64 k] ∧ L'.length = P.length + 12 ∧ Owns h0 hh [.sl K.n z L' ((P.map K.cs ++ PM.map K.cs).drop (P.length + 12))]) (P.length + 12) ?_ ⟨0, _, by omega, rfl, by simp [hM], hoz⟩
  rintro Y n vs hh ⟨k, L', hn, rfl, hl', ho'⟩ hY
  have hlz := (ho'.slAt 0 rfl).zx
  rw [hl'] at hlz
  simp -dsimp only [zlm.l2, zlm.k1, hlz, lssN, B.zg]
  refine B.zm (fun hc => ?_) (fun hc => ?_)
  ·rw [decide_eq_true_eq] at hc
   have hk : k < L'.length := by omega
   refine sm _ _ _ _ fun a' h2 o2 => ?_
   simp -dsimp only [(ho'.slAt 0 rfl).idxN hk, B.zg]
   refine (ho'.grow o2.le).stElem 0 rfl (c := L'[k]) (by simp [hk]) (K.len _ a') fun h3 o3 _ => ?_
   simp -dsimp only [add1 (show k < 4611686018427387904 by omega), B.zg]
   exact hY (P.length + 12 - (k + 1)) _ _ (by omega) ⟨k + 1, _, by omega, rfl, by simp [hl'], o3⟩
  ·exact hq _ ho'.le
end
end Go.Ab
namespace Go.Ab
variable {C : CSem} {N : Nat → Nat}
def zdw.Spec (C : CSem) (N : Nat → Nat) : Prop := OverE zej C (N 401)
theorem zdw.spec (i : zdw.Imp C N) (s1 : zdm.Spec C N) (s2 : zdl.Spec C N) : zdw.Spec C N := by
 intro t a h0 h Q hok ho hq
 apply i
 have ho : Owns h0 h ([.sl 2 a.1 (t.zb7.map Part.cs) zin] ++ [.sl 1 a.2 (t.zby.map tc) zhq]) := ho
 have ho' := ho.perm (List.perm_append_comm)
 obtain ⟨o1, o2⟩ := ho'.out
 simp -dsimp [zej]
 refine s1 _ _ _ _ _ _ o2 (by simp [marks]) (by rw [List.length_map]; exact hok.1) fun h1 hle => ?_
 refine s2 _ _ _ _ _ _ (o1.grow hle) (by simp [zhq, zf4]) (by rw [List.length_map]; exact hok.2) fun h2 hle2 => ?_
 exact zbi (hq _ hle2)
def zcc.Spec (C : CSem) (N : Nat → Nat) : Prop := ∀ (x : AVal) (P PM : List (Itm × AVal × AVal)) (h0 h : zb) (Q : AVal → zb → Prop), Owns h0 h (.sl 4 x (P.map zej.cs) (PM.map zej.cs) :: (zej.os true P ++ zej.os false PM)) → (∀ p ∈ P, zej.ok p.1) → PM.length = 12 → P.length ≤ 100000000 →
 (∀ h', h0.le h' → Q (.tup []) h') → C (N 393) [x] h Q
theorem zcc.spec (i : zcc.Imp C N) (s1 : zdw.Spec C N) (s2 : zdo.Spec C N) : zcc.Spec C N := fun x P PM h0 h Q ho hok hM hl hq =>
 i x h Q (overD_spec zej s1 s2 ho hok hM hl fun h' hle => zbi (hq h' hle))
end Go.Ab
set_option maxRecDepth 100000
namespace Go.Ab
variable {C : CSem} {N : Nat → Nat}
abbrev sing (v : AVal) : List AVal := [v]
def zrj (h hh : zb) (id : Nat) (B : Nat → List AVal) : Prop := ∃ xs : Nat → AVal, Owns h hh (Objs 1 23 xs (fun i => (B i).map sing) (fun _ => []) ++ [.box (.ptr id 0 0) (fill 23 xs)])
theorem Owns.nilObjs {h0 h : zb} {l : List Ob} (ho : Owns h0 h l) (es n : Nat) : Owns h0 h (Objs es n (fun _ => .nils) (fun _ => []) (fun _ => []) ++ l) := by
 have mem : ∀ o ∈ Objs es n (fun _ => AVal.nils) (fun _ => []) (fun _ => []), o = .sl es .nils [] [] := fun o hm => by
  obtain ⟨j, _, rfl⟩ := List.mem_map.1 hm; rfl
 refine ⟨ho.le, fun o hm => ?_, fun o hm => ?_, List.pairwise_append.2 ⟨?_, ho.apart, fun a ha b _ id hf => by rw [mem a ha] at hf; cases hf⟩⟩
 ·rcases List.mem_append.1 hm with hm | hm
  ·rw [mem o hm]; exact SlX.nils h es
  ·exact ho.is o hm
 ·rcases List.mem_append.1 hm with hm | hm
  ·intro id hf; rw [mem o hm] at hf; cases hf
  ·exact ho.own o hm
 ·rw [List.pairwise_iff_forall_sublist]
  intro a b hs id hf
  rw [mem a (hs.subset (by simp))] at hf; cases hf
theorem zrj.start {h : zb} {id : Nat} (hid : h id = none) : zrj h (upd h id (zeh (fill 23 fun _ => .nils))) id fun _ => [] := by
 refine ⟨fun _ => .nils, ?_⟩
 have := ((Owns.start h).zru hid (fill 23 fun _ => .nils)).nilObjs 1 23
 simpa using this
def putG (k : Nat) (v0 v1 : AVal) (h : zb) (Q : AVal → zb → Prop) : Prop :=
 B.nilCheck v0 fun v6 =>
  B.pv (V.fieldAddr k v6) fun v7 =>
  B.ld h v7 fun v8 =>
  B.newO h (zfr [(0, none, v1)] (repL 1 [.nils])) fun i10 h =>
  B.appW h 1 24 v8 (.sl i10 0 0 1 1 1) fun v11 h =>
  B.nilCheck v0 fun v12 =>
  B.pv (V.fieldAddr k v12) fun v13 =>
  B.st h v13 v11 fun h =>
  Q (.tup []) h
theorem putG_spec {k : Nat} (hk : k < 23) {h hh : zb} {id : Nat} {B : Nat → List AVal} {y : AVal} {Q : AVal → zb → Prop} (hb : zrj h hh id B) (hy : y.zdz = true) (hl : (B k).length ≤ 100000000) (hq : ∀ h', zrj h h' id (upf B k (B k ++ [y])) → Q (.tup []) h') : putG k (.ptr id 0 0) y hh Q := by
 obtain ⟨xs, ho⟩ := hb
 obtain ⟨id', e, hbx⟩ := ho.zri 23 Objs.getL
 cases e
 have e1 : A.ldv hh (.ptr id 0 k) = some (xs k) := by rw [zjm hbx, zpv _ hk]
 have hrep : repL 1 [AVal.nils] = [AVal.nils] := rfl
 simp -dsimp [putG, e1, hrep, hy]
 refine ho.push k (Objs.getA hk) rfl (by omega) (by simp; omega) (by simp [maxLen]; omega) fun x' h1 ho1 _ => ?_
 rw [Objs.setA hk, zpy] at ho1
 have hcx := (ho1.slAt k (Objs.getA hk)).zdz
 rw [zfo] at hcx
 simp -dsimp
 refine ho1.boxSt 23 Objs.getL hcx (by simpa using hk) fun h2 ho2 _ => ?_
 rw [Objs.setL, fill_set] at ho2
 refine hq h2 ⟨upf xs k x', ?_⟩
 have e2 : upf (fun i => (B i).map sing) k ((B k).map sing ++ [[y]]) = fun i => (upf B k (B k ++ [y]) i).map sing := by
  funext i; unfold upf; split
  ·rename_i e; subst e; simp
  ·rfl
 rw [e2] at ho2
 exact ho2
section
variable {h0 h : zb} {id : Nat} {B : Nat → List AVal} {D R : Nat → Nat → List (List AVal)} {xs : Nat → AVal} {Q : AVal → zb → Prop}
end
end Go.Ab
set_option maxRecDepth 100000
namespace Go.Ab
variable {C : CSem} {N : Nat → Nat}
def PutSpec (C : CSem) (k g : Nat) : Prop := ∀ (h hh : zb) (id : Nat) (B : Nat → List AVal) (y : AVal) (Q : AVal → zb → Prop), zrj h hh id B → y.zdz = true → (B k).length ≤ 100000000 → (∀ h', zrj h h' id (upf B k (B k ++ [y])) → Q (.tup []) h') → C g [.ptr id 0 0, y] hh Q
@[simp] def zsi.k1 (C : CSem) (fp fa : Nat) (Q : AVal → zb → Prop) (Y1 : List AVal → zb → Prop) (v0 v3 v4 : AVal) (h : zb) : Prop :=
 B.pv (V.zx v0) fun v9 =>
  B.pv (V.bin .lss v4 v9) fun v10 =>
  B.cond v10
  (B.pv (V.idxS 1 v0 v4) fun v16 =>
  B.ld h v16 fun v17 =>
  B.call C fp [v3, v17] h fun v18 h =>
  B.pv (V.bin .add v4 (.int .i64 1)) fun v12 =>
  Y1 [v12] h)
  (B.call C fa [v3] h fun v20 h =>
  Q v20 h)
@[simp] def zsi.l2 (C : CSem) (fp fa : Nat) (Q : AVal → zb → Prop) (v0 v3 : AVal) : List AVal → zb → (List AVal → zb → Prop) → Prop
 | [v4], h, Y1 => zsi.k1 C fp fa Q Y1 v0 v3 v4 h
 | _, _, _ => False
def zsi (C : CSem) (fp fa : Nat) (v0 : AVal) (h : zb) (Q : AVal → zb → Prop) : Prop :=
 B.pv (A.bld [] [.nils, .nils, .nils, .nils, .nils, .nils, .nils, .nils, .nils, .nils, .nils, .nils, .nils, .nils, .nils, .nils, .nils, .nils, .nils, .nils, .nils, .nils, .nils]) fun v5 =>
  B.newO h (A.zns 23 v5) fun i6 h =>
  zd (zsi.l2 C fp fa Q v0 (.ptr i6 0 0)) [(.int .i64 0)] h
theorem zrj.le {h hh : zb} {id : Nat} {B : Nat → List AVal} (hb : zrj h hh id B) : h.le hh := by obtain ⟨_, ho⟩ := hb; exact ho.le
@[simp] theorem Objs_zero {es : Nat} {xs : Nat → AVal} {D R : Nat → List (List AVal)} : Objs es 0 xs D R = [] := rfl
end Go.Ab
set_option maxRecDepth 100000
namespace Go.Ab
variable {C : CSem} {N : Nat → Nat}
structure LL.okL (lim : Nat) (t : LL) (h0 : zb) : Prop where
 is : SlX h0 1 t.x (zgb t.n fun j => [t.xs j]) t.W
 n_le : t.n ≤ 100000000
 zrx : ∀ j, j < t.n → (t.D j).length ≤ lim
def FlatSpecL (C : CSem) (es lim g : Nat) : Prop := ∀ (t : LL) (h0 h : zb) (Q : AVal → zb → Prop), t.okL lim h0 → Owns h0 h (t.obs es) → (∀ h', h0.le h' → Q (.bool true) h') → C g [t.x] h Q
structure BagK where
 es : Nat → Nat
 lim : Nat → Nat
 full : Nat → Bool
abbrev LK := List (AVal × List (List AVal))
def obK (es : Nat) (q : AVal × List (List AVal)) : Ob := .sl es q.1 q.2 []
def LK.ll (l : LK) (x : AVal) : LL := ⟨x, l.length, fun j => (l.getD j (.nils, [])).1, fun j => (l.getD j (.nils, [])).2, fun _ => [], []⟩
theorem LK.obs (l : LK) (x : AVal) (es : Nat) : (l.ll x).obs es = l.map (obK es) := by
 apply List.ext_getElem?
 intro j
 unfold LL.obs LK.ll
 by_cases hj : j < l.length
 ·rw [Objs.get hj, List.getElem?_map, List.getElem?_eq_getElem hj]
  simp [obK, hj]
 ·rw [List.getElem?_eq_none (by simp; omega), List.getElem?_eq_none (by simp; omega)]
theorem LK.zgb (l : LK) : zgb l.length (fun j => [(l.getD j (.nils, [])).1]) = l.map fun q => [q.1] := by
 apply List.ext_getElem?
 intro j
 by_cases hj : j < l.length
 ·rw [zhv _ hj, List.getElem?_map, List.getElem?_eq_getElem hj]; simp [hj]
 ·rw [List.getElem?_eq_none (by simp; omega), List.getElem?_eq_none (by simp; omega)]
def zf0 (C : CSem) (b : BagK) (i g : Nat) : Prop := (b.full i = true → FlatSpecL C (b.es i) (b.lim i) g) ∧ (b.full i = false → zdp C g)
structure BagL (b : BagK) (h0 : zb) (id : Nat) (L : Nat → LK) (xs : Nat → AVal) : Prop where
 box : h0 id = some (zeh (fill 23 xs))
 is : ∀ i, i < 23 → SlX h0 1 (xs i) ((L i).map fun q => [q.1]) []
 none : ∀ i, i < 23 → b.full i = false → L i = []
 n_le : ∀ i, i < 23 → (L i).length ≤ 100000000
 zrx : ∀ i, i < 23 → ∀ q ∈ L i, q.2.length ≤ b.lim i
def bagOb (b : BagK) (L : Nat → LK) (i n : Nat) : List Ob := (List.range' i n).flatMap fun i => (L i).map (obK (b.es i))
theorem bagOb_succ (b : BagK) (L : Nat → LK) (i n : Nat) : bagOb b L i (n + 1) = (L i).map (obK (b.es i)) ++ bagOb b L (i + 1) n := by
 simp [bagOb, List.range'_succ]
section
variable {b : BagK} {h0 h : zb} {id : Nat} {L : Nat → LK} {xs : Nat → AVal} {Q : AVal → zb → Prop}
theorem BagL.ld (hb : BagL b h0 id L xs) (hle : h0.le h) {i : Nat} (hi : i < 23) : A.ldv h (.ptr id 0 i) = some (xs i) := by
 rw [zjm (hle _ _ hb.box), zpv _ hi]
theorem ze7 {g : Nat} (i : Nat) (s : zf0 C b i g) (hb : BagL b h0 id L xs) (n : Nat) (hi : i < 23) (ho : Owns h0 h (bagOb b L i (n + 1))) (hq : ∀ h', Owns h0 h' (bagOb b L (i + 1) n) → Q (.bool true) h') : C g [xs i] h Q := by
 rw [bagOb_succ] at ho
 cases hf : b.full i with
 | true =>
  obtain ⟨q1, q2⟩ := (ho.perm List.perm_append_comm).out
  have hx := (hb.is i hi).mono q1.le
  rw [← LK.zgb] at hx
  rw [← LK.obs (L i) (xs i)] at q1 q2
  refine s.1 hf ((L i).ll (xs i)) _ h Q ⟨by rw [← LK.obs (L i) (xs i)] at hx; exact hx, hb.n_le i hi, fun j hj => ?_⟩ q2 fun h' hle => hq h' (q1.grow hle)
  have hj' : j < (L i).length := hj
  show ((L i).getD j (.nils, [])).2.length ≤ _
  rw [List.getD_eq_getElem?_getD, List.getElem?_eq_getElem hj']
  exact hb.zrx i hi _ (List.getElem_mem hj')
 | false =>
  have e := hb.none i hi hf
  have hx := hb.is i hi
  rw [e] at hx ho
  simp only [List.map_nil, List.nil_append] at hx ho
  exact s.2 hf (xs i) [] h h Q (hx.mono ho.le) (zb.le_refl h) fun h' hle => hq h' (ho.grow hle)
end
def ApartK (C : CSem) (b : BagK) (g : Nat) : Prop := ∀ (id : Nat) (L : Nat → LK) (xs : Nat → AVal) (h0 h : zb) (Q : AVal → zb → Prop), BagL b h0 id L xs → Owns h0 h (bagOb b L 0 23) → (∀ h', h0.le h' → Q (.bool true) h') → C g [.ptr id 0 0] h Q
theorem bag_apartK (i : zd0.Imp C N) (b : BagK) (f0 : zf0 C b 0 (N 80)) (f1 : zf0 C b 1 (N 81)) (f2 : zf0 C b 2 (N 82)) (f3 : zf0 C b 3 (N 83)) (f4 : zf0 C b 4 (N 84)) (f5 : zf0 C b 5 (N 85)) (f6 : zf0 C b 6 (N 86)) (f7 : zf0 C b 7 (N 87)) (f8 : zf0 C b 8 (N 88))
  (f9 : zf0 C b 9 (N 89)) (f10 : zf0 C b 10 (N 90)) (f11 : zf0 C b 11 (N 91)) (f12 : zf0 C b 12 (N 92)) (f13 : zf0 C b 13 (N 93)) (f14 : zf0 C b 14 (N 94)) (f15 : zf0 C b 15 (N 95)) (f16 : zf0 C b 16 (N 96)) (f17 : zf0 C b 17 (N 97)) (f18 : zf0 C b 18 (N 98)) (f19 : zf0 C b 19 (N 99))
  (f20 : zf0 C b 20 (N 100)) (f21 : zf0 C b 21 (N 101)) (f22 : zf0 C b 22 (N 102)) : ApartK C b (N 62) := by
 intro id L xs h0 h Q hb ho hq
 apply i
 simp -dsimp [hb.ld ho.le (i := 0) (by omega)]
 refine ze7 0 f0 hb 22 (by omega) ho fun h ho => ?_
 simp -dsimp [hb.ld ho.le (i := 1) (by omega)]
 refine ze7 1 f1 hb 21 (by omega) ho fun h ho => ?_
 simp -dsimp [hb.ld ho.le (i := 2) (by omega)]
 refine ze7 2 f2 hb 20 (by omega) ho fun h ho => ?_
 simp -dsimp [hb.ld ho.le (i := 3) (by omega)]
 refine ze7 3 f3 hb 19 (by omega) ho fun h ho => ?_
 simp -dsimp [hb.ld ho.le (i := 4) (by omega)]
 refine ze7 4 f4 hb 18 (by omega) ho fun h ho => ?_
 simp -dsimp [hb.ld ho.le (i := 5) (by omega)]
 refine ze7 5 f5 hb 17 (by omega) ho fun h ho => ?_
 simp -dsimp [hb.ld ho.le (i := 6) (by omega)]
 refine ze7 6 f6 hb 16 (by omega) ho fun h ho => ?_
 simp -dsimp [hb.ld ho.le (i := 7) (by omega)]
 refine ze7 7 f7 hb 15 (by omega) ho fun h ho => ?_
 simp -dsimp [hb.ld ho.le (i := 8) (by omega)]
 refine ze7 8 f8 hb 14 (by omega) ho fun h ho => ?_
 simp -dsimp [hb.ld ho.le (i := 9) (by omega)]
 refine ze7 9 f9 hb 13 (by omega) ho fun h ho => ?_
 simp -dsimp [hb.ld ho.le (i := 10) (by omega)]
 refine ze7 10 f10 hb 12 (by omega) ho fun h ho => ?_
 simp -dsimp [hb.ld ho.le (i := 11) (by omega)]
 refine ze7 11 f11 hb 11 (by omega) ho fun h ho => ?_
 simp -dsimp [hb.ld ho.le (i := 12) (by omega)]
 refine ze7 12 f12 hb 10 (by omega) ho fun h ho => ?_
 simp -dsimp [hb.ld ho.le (i := 13) (by omega)]
 refine ze7 13 f13 hb 9 (by omega) ho fun h ho => ?_
 simp -dsimp [hb.ld ho.le (i := 14) (by omega)]
 refine ze7 14 f14 hb 8 (by omega) ho fun h ho => ?_
 simp -dsimp [hb.ld ho.le (i := 15) (by omega)]
 refine ze7 15 f15 hb 7 (by omega) ho fun h ho => ?_
 simp -dsimp [hb.ld ho.le (i := 16) (by omega)]
 refine ze7 16 f16 hb 6 (by omega) ho fun h ho => ?_
 simp -dsimp [hb.ld ho.le (i := 17) (by omega)]
 refine ze7 17 f17 hb 5 (by omega) ho fun h ho => ?_
 simp -dsimp [hb.ld ho.le (i := 18) (by omega)]
 refine ze7 18 f18 hb 4 (by omega) ho fun h ho => ?_
 simp -dsimp [hb.ld ho.le (i := 19) (by omega)]
 refine ze7 19 f19 hb 3 (by omega) ho fun h ho => ?_
 simp -dsimp [hb.ld ho.le (i := 20) (by omega)]
 refine ze7 20 f20 hb 2 (by omega) ho fun h ho => ?_
 simp -dsimp [hb.ld ho.le (i := 21) (by omega)]
 refine ze7 21 f21 hb 1 (by omega) ho fun h ho => ?_
 simp -dsimp [hb.ld ho.le (i := 22) (by omega)]
 refine ze7 22 f22 hb 0 (by omega) ho fun h ho => ?_
 try simp -dsimp
 exact zbi (hq _ ho.le)
end Go.Ab
set_option maxRecDepth 100000
namespace Go.Ab
variable {C : CSem} {N : Nat → Nat}
theorem zj4 {E : z4} {g : Nat} (i : ∀ (v0 : AVal) (h : zb) (Q : AVal → zb → Prop), ze E C v0 h (dn Q) → C g [v0] h Q) : zdp C g := fun x W h0 h Q hx hle hq => i x h Q (zfh hx hle fun h' hle => zbi (hq h' hle))
theorem apartK_spec {b : BagK} {k es fp fa : Nat} (hk : k < 23) (hf : ∀ i, b.full i = false → i ≠ k) (hone : ∀ Lk : LK, bagOb b (fun i => if i = k then Lk else []) 0 23 = Lk.map (obK es)) (hlim : 100000000 ≤ b.lim k) (s1 : PutSpec C k fp) (s3 : ApartK C b fa)
  {t : LL} {h0 h : zb} {Q : AVal → zb → Prop} (ht : t.ok h0) (ho : Owns h0 h (t.obs es)) (hq : ∀ h', h0.le h' → Q (.bool true) h') : zsi C fp fa t.x h Q := by
 have hn := ht.n_le
 try simp -dsimp [zsi]
 intro id hid
 refine zd.intro (fun n vs hh => ∃ j : Nat, j + n = t.n ∧ vs = [.int .i64 j] ∧ zrj h hh id (upf (fun _ => []) k ((List.range j).map t.xs))) t.n ?_ ⟨0, by simp, by simp, by
  have := zrj.start hid
  rw [show upf (fun _ => ([] : List AVal)) k ((List.range 0).map t.xs) = fun _ => [] from zpy ..]
  exact this⟩
 rintro Y n vs hh ⟨j, hj, rfl, hb⟩ hY
 have hx := ht.is.mono (zb.le_trans ho.le hb.le)
 simp -dsimp [zo0 hx]
 refine B.zm (fun h1 => ?_) (fun h1 => ?_) <;> simp at h1
 ·have hc : (t.xs j).zdz = true := (ho.slAt j (Objs.get h1)).zdz
  simp -dsimp [zio hx h1, zof hx h1]
  refine s1 h hh id _ _ _ hb hc (by rw [zfo]; simp; omega) fun h' hb' => ?_
  simp -dsimp [zhu (n := j) (by omega)]
  refine hY (n - 1) _ _ (by omega) ⟨j + 1, by omega, by simp, ?_⟩
  rw [zfo, upf_upf] at hb'
  rw [List.range_succ, List.map_append]; exact hb'
 ·have : j = t.n := by omega
  subst this
  let Lk : LK := (List.range t.n).map fun j => (t.xs j, t.D j)
  have hc : Owns h0 h (Lk.map (obK es)) := by
   have ho' : Owns h0 h (Objs es t.n t.xs t.D t.R ++ []) := by rw [List.append_nil]; exact ho
   have := ho'.cutR
   rw [List.append_nil] at this
   have e : Objs es t.n t.xs t.D (fun _ => []) = Lk.map (obK es) := by
    show (List.range t.n).map _ = ((List.range t.n).map _).map _
    rw [List.map_map]; rfl
   rw [← e]; exact this
  obtain ⟨xs, ob⟩ := hb
  rw [← hone] at hc
  obtain ⟨q1, q2⟩ := ((hc.join ob).perm List.perm_append_comm).out
  obtain ⟨id', e, hbx⟩ := q1.zri 23 Objs.getL
  cases e
  refine s3 id (fun i => if i = k then Lk else []) xs _ hh Q ⟨hbx, fun i hi => ?_, fun i hi hfi => ?_, fun i hi => ?_, fun i hi q hq => ?_⟩ q2 fun h' hle => hq h' (zb.le_trans q1.le hle)
  ·have := q1.slAt i (Objs.getA hi)
   have e : (upf (fun _ => ([] : List AVal)) k ((List.range t.n).map t.xs) i).map sing = ((fun i => if i = k then Lk else []) i : LK).map fun q => [q.1] := by
    show (if i = k then (List.range t.n).map t.xs else []).map sing = (if i = k then Lk else []).map fun q => [q.1]
    split
    ·rw [List.map_map]
     show _ = ((List.range t.n).map _).map _
     rw [List.map_map]; rfl
    ·rfl
   rw [e] at this; exact this
  ·have := hf i hfi
   show (if i = k then Lk else []) = []
   rw [if_neg this]
  ·show (if i = k then Lk else []).length ≤ _
   split
   ·show ((List.range t.n).map _).length ≤ _
    rw [List.length_map, List.length_range]; omega
   ·simp
  ·have hq : q ∈ (if i = k then Lk else []) := hq
   by_cases e : i = k
   ·rw [if_pos e] at hq
    obtain ⟨j, hj, rfl⟩ := List.mem_map.1 hq
    have := ht.zrx j (by simpa using hj)
    rw [e]
    show (t.D j).length ≤ _
    omega
   ·rw [if_neg e] at hq; cases hq
def bagTx : BagK := ⟨fun _ => 1, fun _ => 100000000, fun i => decide (i = 3)⟩
theorem zd0.spl (i : zd0.Imp C N) (f0 : zdp C (N 80)) (f1 : zdp C (N 81)) (f2 : zdp C (N 82)) (s3 : zk9 C 1 (N 83)) (i4 : zep.Imp C N) (i5 : zy.Imp C N) (i6 : zbs.Imp C N) (i7 : zbe.Imp C N) (i8 : zbr.Imp C N) (i9 : zbf.Imp C N) (f10 : zdp C (N 90)) (i11 : zbg.Imp C N) (f12 : zdp C (N 92)) (f13 : zdp C (N 93)) (f14 : zdp C (N 94)) (f15 : zdp C (N 95)) (f16 : zdp C (N 96)) (f17 : zdp C (N 97)) (f18 : zdp C (N 98)) (f19 : zdp C (N 99)) (f20 : zdp C (N 100)) (f21 : zdp C (N 101)) (f22 : zdp C (N 102)) : ApartK C bagTx (N 62) := by
 have z : ∀ {j g : Nat}, bagTx.full j = false → zdp C g → zf0 C bagTx j g := fun h s => ⟨fun e => (by rw [h] at e; cases e), fun _ => s⟩
 exact bag_apartK i bagTx (z rfl f0) (z rfl f1) (z rfl f2) ⟨fun _ t h0 h Q ht ho hq => s3 t h0 h Q ⟨ht.is, ht.n_le, ht.zrx⟩ ho hq, fun e => (by cases e)⟩ (z rfl (zj4 i4)) (z rfl (zj4 i5)) (z rfl (zj4 i6)) (z rfl (zj4 i7)) (z rfl (zj4 i8)) (z rfl (zj4 i9)) (z rfl f10) (z rfl (zj4 i11)) (z rfl f12) (z rfl f13) (z rfl f14) (z rfl f15) (z rfl f16) (z rfl f17) (z rfl f18) (z rfl f19) (z rfl f20) (z rfl f21) (z rfl f22)
theorem one3 (Lk : LK) : bagOb bagTx (fun i => if i = 3 then Lk else []) 0 23 = Lk.map (obK 1) := by
 have : List.range' 0 23 = [0, 1, 2, 3, 4, 5, 6, 7, 8, 9, 10, 11, 12, 13, 14, 15, 16, 17, 18, 19, 20, 21, 22] := rfl
 unfold bagOb
 rw [this]
 simp [bagTx]
theorem zdg.spec (i : zdg.Imp C N) : PutSpec C 3 (N 405) := fun h hh id B y Q hb hy hl hq => i _ _ hh Q (putG_spec (k := 3) (by omega) hb hy hl fun h' hb' => zbi (hq h' hb'))
theorem zcv.spec (i : zcv.Imp C N) (s1 : PutSpec C 3 (N 405)) (s2 : ApartK C bagTx (N 62)) : zk9 C 1 (N 396) := fun t h0 h Q ht ho hq => i t.x h Q (apartK_spec (k := 3) (by omega) (fun i h e => by subst e; cases h) one3 (Nat.le_refl _) s1 s2 ht ho fun h' hle => zbi (hq h' hle))
end Go.Ab
namespace Go.Ab
variable {C : CSem} {N : Nat → Nat}
theorem Owns.lit2L {h0 h : zb} {l : List Ob} (ho : Owns h0 h l) {x y : AVal} {id : Nat} (hid : h id = none) : Owns h0 (upd h id (zeh [x, y])) (l ++ [.sl 1 (.sl id 0 0 2 1 2) [[x], [y]] []]) :=
 ho.newSl hid (by simp) rfl (by simp) rfl
def twoL (α : Type) (a b : α) : Nat → α := fun j => if j = 0 then a else b
theorem Objs_twoL {es : Nat} {a b : AVal} {A B' R1 R2 : List (List AVal)} : Objs es 2 (twoL _ a b) (twoL _ A B') (twoL _ R1 R2) = [.sl es a A R1, .sl es b B' R2] := rfl
end Go.Ab
set_option maxRecDepth 100000
namespace Go.Ab
variable {C : CSem} {N : Nat → Nat}
def two {α : Type} (a b : α) : Nat → α := fun j => if j = 0 then a else b
end Go.Ab
set_option maxRecDepth 100000
namespace Go.Ab
variable {C : CSem} {N : Nat → Nat}
theorem litO {h : zb} {es n : Nat} {cs : List AVal} (L : List (List AVal)) {K : Nat → zb → Prop} (hc : cs = L.flatten) (hL : ∀ p ∈ L, p.length = es) (hn : n = L.length) (hK : ∀ i h', Owns h h' [.sl es (.sl i 0 0 n es n) L []] → K i h') : B.newO h (some cs) K :=
 fun i hi => hK i _ ((Owns.start h).newSl hi (by simpa using hL) hn (by simp; omega) (by simpa using hc))
end Go.Ab
namespace Go.Ab
def itemW : DK Itm (AVal × AVal) where
 n := 4
 bytes := 72
 z := [.str [], .int .i64 0, .nils, .nils]
 pos := by omega
 small := by omega
 zlen := rfl
 cells t a := [.str t.Code, .int .i64 t.Life, a.1, a.2]
 len _ _ := rfl
 at_ h t a := (∃ R, SlX h 2 a.1 (t.zb7.map Part.cs) R) ∧ (∃ R, SlX h 1 a.2 (t.zby.map tc) R)
 mono hle ha := ⟨ha.1.imp fun _ r => r.mono hle, ha.2.imp fun _ r => r.mono hle⟩
 ok _ := True
 at_ok _ := trivial
 obs b t a := [zn7 b a.1 t.zb7, znz b a.2 t.zby]
 ofObs {b h t a} _ ha := ⟨⟨_, show SlX h 2 a.1 (t.zb7.map Part.cs) (bif b then zin else []) from ha (zn7 b a.1 t.zb7) (by simp)⟩, ⟨_, show SlX h 1 a.2 (t.zby.map tc) (bif b then zhq else []) from ha (znz b a.2 t.zby) (by simp)⟩⟩
theorem itemW_K {h : zb} {x : AVal} {L : List Itm} (hx : Dl itemW h x L) (hok : ∀ t ∈ L, t.ok) : Dl zej h x L := by
 obtain ⟨P, R, rfl, s, ha⟩ := hx
 exact ⟨P, R, rfl, s, fun p hp => ⟨(ha p hp).1, (ha p hp).2, hok p.1 (List.mem_map_of_mem hp)⟩⟩
def Itm.inLen (t : Itm) : Prop := t.Code.length < 4611686018427387904 ∧ (∀ p ∈ t.zb7, p.Item.length < 4611686018427387904) ∧ (∀ o ∈ t.zby, o.length < 4611686018427387904) ∧ t.zb7.length < 100000000000000000 ∧ t.zby.length < 100000000000000000
abbrev tyItem : Ty := .st [.s, .i .i64, .sl 24 2 tyPart, .sl 16 1 .s]
theorem absSl1 {H : zb} {b e : Nat} {t : Ty} {c : List AVal} (h : zhg H (.sl b e t) c) : ∃ v, c = [v] := by
 rcases h with h | h | ⟨_, _, h, _⟩ <;> exact ⟨_, h⟩
theorem dPartL {H : zb} {p : List AVal} (h : zhg H tyPart p) : ∃ w : Part, p = w.cs ∧ w.Item.length < 4611686018427387904 := by
 obtain ⟨a, r, rfl, ⟨n1, rfl, q1⟩, ⟨b, r2, rfl, ⟨n2, rfl, _⟩, hr⟩⟩ := h
 cases hr
 exact ⟨⟨n1, n2⟩, rfl, by unfold reach at q1; show n1.length < _; omega⟩
theorem dPartsL {H : zb} {v : AVal} (h : zhg H (.sl 24 2 tyPart) [v]) : ∃ L : List Part, SlIs H 2 v (L.map Part.cs) ∧ L.length < 100000000000000000 ∧ ∀ l ∈ L, l.Item.length < 4611686018427387904 := by
 obtain ⟨L, h1, h2, h3⟩ := zsh Part.cs (fun l => l.Item.length < 4611686018427387904) (fun p hp => dPartL hp) h
 exact ⟨L, h1, by unfold reach at h2; omega, h3⟩
theorem dTextW {H : zb} {p : List AVal} (h : zhg H .s p) : ∃ s : List UInt8, p = tc s ∧ s.length < 4611686018427387904 := by
 obtain ⟨s, rfl, q⟩ := h
 exact ⟨s, rfl, by unfold reach at q; omega⟩
theorem dTextsL {H : zb} {v : AVal} (h : zhg H (.sl 16 1 .s) [v]) : ∃ L : List (List UInt8), SlIs H 1 v (L.map tc) ∧ L.length < 100000000000000000 ∧ ∀ s ∈ L, s.length < 4611686018427387904 := by
 obtain ⟨L, h1, h2, h3⟩ := zsh tc (fun s => s.length < 4611686018427387904) (fun p hp => dTextW hp) h
 exact ⟨L, h1, by unfold reach at h2; omega, h3⟩
theorem dItem {H : zb} {p : List AVal} (h : zhg H tyItem p) : ∃ (t : Itm) (a : AVal × AVal), p = itemW.cells t a ∧ itemW.at_ H t a ∧ t.inLen := by
 obtain ⟨a, r, rfl, ⟨n1, rfl, q1⟩, ⟨b, r2, rfl, ⟨n2, rfl, _⟩, ⟨c, r3, rfl, h3, ⟨d, r4, rfl, h4, hr⟩⟩⟩⟩ := h
 cases hr
 obtain ⟨v, rfl⟩ := absSl1 h3
 obtain ⟨w, rfl⟩ := absSl1 h4
 obtain ⟨P, k1, k2, k3⟩ := dPartsL h3
 obtain ⟨O, g1, g2, g3⟩ := dTextsL h4
 exact ⟨⟨n1, n2, P, O⟩, (v, w), rfl, ⟨⟨[], k1⟩, ⟨[], g1⟩⟩, by unfold reach at q1; show n1.length < _; omega, k3, g3, k2, g2⟩
theorem arg_sliceDP {T Ad : Type} {K : DK T Ad} {Pr : T → Prop} {H : zb} {bytes : Nat} {e : Ty} {v : AVal} (hd : ∀ p, zhg H e p → ∃ (t : T) (a : Ad), p = K.cells t a ∧ K.at_ H t a ∧ Pr t) (h : zhg H (.sl bytes K.n e) [v]) : ∃ L : List T, Dl K H v L ∧ L.length * bytes ≤ reach ∧ ∀ t ∈ L, Pr t := by
 obtain ⟨G, h1, h2⟩ := arg_slice (T := { p : T × Ad // K.at_ H p.1 p.2 ∧ Pr p.1 }) (fun p => K.cells p.1.1 p.1.2) (fun p hp => by obtain ⟨t, a, e, k⟩ := hd p hp; exact ⟨⟨(t, a), k⟩, e⟩) h
 refine ⟨(G.map (·.1)).map (·.1), ⟨G.map (·.1), [], rfl, ?_, fun p hp => ?_⟩, by simpa using h2, fun t ht => ?_⟩
 ·rw [List.map_map]; exact h1
 ·obtain ⟨q, _, rfl⟩ := List.mem_map.1 hp; exact q.2.1
 ·obtain ⟨q, hq, rfl⟩ := List.mem_map.1 ht
  obtain ⟨q', _, rfl⟩ := List.mem_map.1 hq
  exact q'.2.2
theorem dItems {H : zb} {v : AVal} (h : zhg H (.sl 72 4 tyItem) [v]) : ∃ L : List Itm, Dl itemW H v L ∧ L.length < 4611686018427387904 ∧ ∀ t ∈ L, t.inLen := by
 obtain ⟨L, h1, h2, h3⟩ := arg_sliceDP (K := itemW) (fun p hp => dItem hp) h
 exact ⟨L, h1, by unfold reach at h2; omega, h3⟩
end Go.Ab
set_option maxRecDepth 100000
namespace Go.Ab
variable {C : CSem} {N : Nat → Nat}
theorem itm_getW {h : zb} {x : AVal} {L : List Itm} (hx : Dl itemW h x L) {i : Nat} {r : Itm} (hr : L[i]? = some r) : ∃ p o, V.idxS 4 x (.int .i64 (i : Int)) = some (elp 4 x i 0) ∧ V.fieldAddr 0 (elp 4 x i 0) = some (elp 4 x i 0) ∧
  V.fieldAddr 2 (elp 4 x i 0) = some (elp 4 x i 2) ∧ V.fieldAddr 3 (elp 4 x i 0) = some (elp 4 x i 3) ∧ A.ldv h (elp 4 x i 0) = some (.str r.Code) ∧ A.ldv h (elp 4 x i 2) = some p ∧ A.ldv h (elp 4 x i 3) = some o ∧
  (∃ R, SlX h 2 p (r.zb7.map Part.cs) R) ∧ V.zx p = some (.int .i64 (r.zb7.length : Int)) ∧ (∃ R, SlX h 1 o (r.zby.map tc) R) ∧ V.zx o = some (.int .i64 (r.zby.length : Int)) := by
 obtain ⟨a, ea⟩ := hx.get hr
 obtain ⟨⟨R1, a1⟩, ⟨R2, a2⟩⟩ : (∃ R, SlX h 2 a.1 (r.zb7.map Part.cs) R) ∧ (∃ R, SlX h 1 a.2 (r.zby.map tc) R) := ea.at_
 exact ⟨a.1, a.2, ea.idx, ea.fld 0 0, ea.fld 0 2, ea.fld 0 3, ea.ld 0 (by decide), ea.ld 2 (by decide), ea.ld 3 (by decide), ⟨R1, a1⟩, by simpa using a1.zx, ⟨R2, a2⟩, by simpa using a2.zx⟩
def z6.Spec (C : CSem) (N : Nat → Nat) : Prop := ∀ (x : AVal) (L : List Itm) (h : zb) (Q : AVal → zb → Prop), Dl itemW h x L → L.length < 4611686018427387904 → (∀ t ∈ L, t.inLen) →
 (∀ b : Bool, (b = false → L.length ≤ 70 ∧ ∀ t ∈ L, t.zb7.length ≤ 4000 ∧ t.zby.length ≤ 4000) → Q (.bool b) h) → C (N 357) [x] h Q
theorem quo20 {a : Nat} (h : a < 4611686018427387904) : V.bin .quo (.int .i64 (a : Int)) (.int .i64 20) = some (.int .i64 ((a / 20 : Nat) : Int)) := by
 rw [V.zoo _ _ _ (by omega), show (a : Int).tdiv 20 = ((a / 20 : Nat) : Int) from rfl, wrap_i64 (by omega) (by omega)]
theorem z6.spec (i : z6.Imp C N) : z6.Spec C N := by
 intro x L h Q hx hlen hin hq
 apply i
 refine zd.intro (fun t vs hh => hh = h ∧ ∃ k n : Nat, k + t = L.length ∧ vs = [.int .i64 (n : Int), .int .i64 (k : Int)] ∧ n < 1000000000000000000 ∧ (n ≤ 4000 → ∀ t ∈ L.take k, t.zb7.length ≤ 4000 ∧ t.zby.length ≤ 4000)) L.length ?_ ⟨rfl, 0, 0, by omega, rfl, by omega, fun _ t h => (by simp at h)⟩
 rintro Y t vs h ⟨rfl, k, n, ht, rfl, hn, hall⟩ hY
 have hend : (4000 < n ∨ k = L.length) → z6.k1 C N (dn Q) x (.int .i64 (n : Int)) h := fun hor => by
  simp -dsimp only [z6.k1, V.zop, B.zg]
  by_cases h4 : 4000 < n
  ·have h4' : (4000 : Int) < n := by omega
   simp -dsimp [h4']
   exact zbi (hq true fun e => by cases e)
  ·have h4' : ¬ (4000 : Int) < n := by omega
   have hk : k = L.length := hor.resolve_left h4
   subst hk
   rw [List.take_length] at hall
   simp -dsimp [h4', hx.zx]
   have e7 : decide ((70 : Int) < L.length) = decide (70 < L.length) := decide_eq_decide.2 (by omega)
   first | rw [e7] | skip
   exact zbi (hq _ fun e => ⟨by simpa using e, hall (by omega)⟩)
 simp -dsimp only [z6.l8, z6.k7, hx.zx, lssN, B.zg]
 by_cases hk : k < L.length
 rotate_left
 ·have := hend (.inr (by omega))
  simp -dsimp [hk, - z6.k1]
  exact this
 by_cases h4 : n ≤ 4000
 rotate_left
 ·have h4' : ¬ (n : Int) ≤ 4000 := by omega
  have := hend (.inl (by omega))
  simp -dsimp [hk, h4', - z6.k1]
  exact this
 have h4' : (n : Int) ≤ 4000 := by omega
 obtain ⟨r, hr⟩ := ze8 hk
 have hrm := List.mem_of_getElem? hr
 obtain ⟨n1, n2, n3, hpl, hol⟩ := hin r hrm
 obtain ⟨p, o, e1, e3, e4, e5, e6, e7, e8, ⟨R1, a1⟩, el1, ⟨R2, a2⟩, el2⟩ := itm_getW hx hr
 have hk1 := add1 (show k < 4611686018427387904 by omega)
 have b1 : V.bin .add (.int .i64 (n : Int)) (.int .i64 1) = some (.int .i64 ((n + 1 : Nat) : Int)) := add1 (by omega)
 have b2 := zj7 (a := n + 1) (b := r.Code.length / 20) (by omega)
 have b3 := zj7 (a := n + 1 + r.Code.length / 20) (b := r.zb7.length) (by omega)
 have b4 := zj7 (a := n + 1 + r.Code.length / 20 + r.zb7.length) (b := r.zby.length) (by omega)
 have lc : V.zhr (.str r.Code) = some (.int .i64 (r.Code.length : Int)) := rfl
 simp -dsimp [hk, h4', - z6.k1, - z6.k6]
 simp -dsimp only [z6.k6, B.zg7, B.zg, e1, e3, e4, e5, e6, e7, e8, el1, el2, lc, quo20 n1, b1, b2, b3, b4]
 refine zd.intro (fun t vs h2 => h2 = h ∧ ∃ q m : Nat, q + t = r.zb7.length ∧ vs = [.int .i64 (m : Int), .int .i64 (q : Int)] ∧ m < 1000000000000000000 ∧ n + 1 + r.Code.length / 20 + r.zb7.length + r.zby.length ≤ m) r.zb7.length ?_ ⟨rfl, 0, _, by omega, rfl, by omega, Nat.le_refl _⟩
 rintro Z t2 vs h2 ⟨rfl, q, m, ht2, rfl, hm, hle⟩ hZ
 simp -dsimp only [z6.l5, z6.k4, e1, e4, B.zg7, e7, el1, lssN, B.zg]
 have hnext : zd (z6.l3 C N (dn Q) Y x (.int .i64 (k : Int))) [.int .i64 (m : Int), .int .i64 0] h2 := by
  refine zd.intro (fun t vs h3 => h3 = h2 ∧ ∃ q m2 : Nat, q + t = r.zby.length ∧ vs = [.int .i64 (m2 : Int), .int .i64 (q : Int)] ∧ m2 < 1000000000000000000 ∧ m ≤ m2) r.zby.length ?_ ⟨rfl, 0, m, by omega, rfl, hm, Nat.le_refl _⟩
  rintro W t3 vs h3 ⟨rfl, q, m2, ht3, rfl, hm2, hle2⟩ hW
  simp -dsimp only [z6.l3, z6.k2, e1, e5, B.zg7, e8, el2, lssN, B.zg]
  have hout : Y [.int .i64 (m2 : Int), .int .i64 ((k + 1 : Nat) : Int)] h3 := hY (t - 1) _ _ (by omega) ⟨rfl, k + 1, m2, by omega, rfl, hm2, fun h4k y hy => by
   rw [List.take_add_one, hr, List.mem_append] at hy
   rcases hy with hy | hy
   ·exact hall h4 y hy
   ·have : y = r := by simpa using hy
    rw [this]; omega⟩
  by_cases hq1 : q < r.zby.length
  rotate_left
  ·simp -dsimp [hq1, hk1, - V.zdk]
   exact hout
  by_cases hq2 : m2 ≤ 4000
  rotate_left
  ·have : ¬ (m2 : Int) ≤ 4000 := by omega
   simp -dsimp [hq1, this, hk1, - V.zdk]
   exact hout
  have hq2' : (m2 : Int) ≤ 4000 := by omega
  have hg : (r.zby.map tc)[q]? = some (tc r.zby[q]) := by rw [List.getElem?_map, List.getElem?_eq_getElem hq1]; rfl
  have hidx : V.idxS 1 o (.int .i64 (q : Int)) = some (elp 1 o q 0) := a2.idxN (by simpa using hq1)
  have hcell : A.ldv h3 (elp 1 o q 0) = some (.str r.zby[q]) := a2.cell hg
  have n4 := n3 _ (List.getElem_mem hq1)
  have lo : V.zhr (.str r.zby[q]) = some (.int .i64 (r.zby[q].length : Int)) := rfl
  have b5 := zj7 (a := m2) (b := r.zby[q].length / 20) (by omega)
  simp -dsimp [hq1, hq2', - V.zdk, - V.zoo]
  simp -dsimp only [e1, e5, e8, hidx, hcell, lo, quo20 n4, b5, add1 (show q < 4611686018427387904 by omega), B.zg7, B.zg]
  exact hW (t3 - 1) _ _ (by omega) ⟨rfl, q + 1, _, by omega, rfl, by omega, by omega⟩
 by_cases hq1 : q < r.zb7.length
 rotate_left
 ·simp -dsimp [hq1, - z6.l3]
  exact hnext
 by_cases hq2 : m ≤ 4000
 rotate_left
 ·have : ¬ (m : Int) ≤ 4000 := by omega
  simp -dsimp [hq1, this, - z6.l3]
  exact hnext
 have hq2' : (m : Int) ≤ 4000 := by omega
 have hg : (r.zb7.map Part.cs)[q]? = some r.zb7[q].cs := by rw [List.getElem?_map, List.getElem?_eq_getElem hq1]; rfl
 have hl : q < (r.zb7.map Part.cs).length := by simpa using hq1
 have g1 : V.idxS 2 p (.int .i64 (q : Int)) = some (elp 2 p q 0) := a1.idxN hl
 have g2 : V.fieldAddr 0 (elp 2 p q 0) = some (elp 2 p q 0) := a1.zr5 hl 0 0
 have g3 : A.ldv h2 (elp 2 p q 0) = some (.str r.zb7[q].Item) := a1.ldv hg (by decide)
 have n4 := n2 _ (List.getElem_mem hq1)
 have lo : V.zhr (.str r.zb7[q].Item) = some (.int .i64 (r.zb7[q].Item.length : Int)) := rfl
 have b5 := zj7 (a := m) (b := r.zb7[q].Item.length / 20) (by omega)
 simp -dsimp [hq1, hq2', - V.zdk, - V.zoo]
 simp -dsimp only [e1, e4, e7, g1, g2, g3, lo, quo20 n4, b5, add1 (show q < 4611686018427387904 by omega), B.zg7, B.zg]
 exact hZ (t2 - 1) _ _ (by omega) ⟨rfl, q + 1, _, by omega, rfl, by omega, by omega⟩
def zrl (o : AVal) (l : List (List UInt8)) : List (Itm × AVal × AVal) := [(⟨[65], 1, [], l⟩, .nils, o), (⟨[66], 1, [], []⟩, .nils, .nils), (⟨[67], 1, [], []⟩, .nils, .nils)]
def zhz (l : List (List UInt8)) : List Itm := [⟨[65], 1, [], l⟩, ⟨[66], 1, [], []⟩, ⟨[67], 1, [], []⟩]
theorem threeP_at {h : zb} {o : AVal} {l : List (List UInt8)} {R : List (List AVal)} (ho : SlX h 1 o (l.map tc) R) (hl : l.length ≤ few) : ∀ p ∈ zrl o l, zej.at_ h p.1 p.2 := by
 intro p hp
 have hz : ∀ t : Itm, t.zb7 = [] → t.zby = [] → zej.at_ h t (.nils, .nils) := fun t e1 e2 =>
  ⟨⟨[], by rw [e1]; exact SlX.nils h 2⟩, ⟨[], by rw [e2]; exact SlX.nils h 1⟩, by rw [e1]; simp [few], by rw [e2]; simp [few]⟩
 simp only [zrl, List.mem_cons, List.not_mem_nil, or_false] at hp
 rcases hp with rfl | rfl | rfl
 ·exact ⟨⟨[], SlX.nils h 2⟩, ⟨R, ho⟩, by simp [few], hl⟩
 ·exact hz _ rfl rfl
 ·exact hz _ rfl rfl
def zd4.Spec (C : CSem) (N : Nat → Nat) : Prop := ∀ (o : AVal) (l : List (List UInt8)) (R : List (List AVal)) (h : zb) (Q : AVal → zb → Prop), SlX h 1 o (l.map tc) R →
 (∀ i h', Owns h h' [.sl 4 (.sl i 0 0 3 4 3) ((zrl o l).map zej.cs) []] → Q (.sl i 0 0 3 4 3) h') → C (N 360) [o] h Q
theorem zd4.spec (i : zd4.Imp C N) : zd4.Spec C N := by
 intro o l R h Q ho hq
 apply i
 simp -dsimp [ho.zdz, repL]
 exact litO (n := 3) (es := 4) ((zrl o l).map zej.cs) rfl (fun p hp => by obtain ⟨q, _, rfl⟩ := List.mem_map.1 hp; rfl) rfl fun i h' o1 => zbi (hq i h' o1)
theorem zm2 {h : zb} {x o : AVal} {l : List (List UInt8)} {R R2 : List (List AVal)} (hx : SlX h 4 x ((zrl o l).map zej.cs) R2) (ho : SlX h 1 o (l.map tc) R) (hl : l.length ≤ few) : Dl zej h x (zhz l) :=
 ⟨zrl o l, R2, rfl, hx, threeP_at ho hl⟩
theorem three_row : zg5 (zhz [[67], [66]]) [65] = [[65], [67], [66]] := by decide
theorem three_none : zg5 (zhz []) [90] = [] := by decide
theorem three_ok : zfp (zhz [[67], [66]]) = 0 := by decide +kernel
theorem three_self : zfp (zhz [[65]]) = 4 := by decide +kernel
theorem three_away : zfp (zhz [[90]]) = 150 := by decide +kernel
theorem litT {h : zb} (L : List (List UInt8)) {cs : List AVal} {n : Nat} {K : Nat → zb → Prop} (hc : cs = (L.map tc).flatten) (hn : n = L.length) (hK : ∀ i h', Owns h h' [.sl 1 (.sl i 0 0 n 1 n) (L.map tc) []] → K i h') : B.newO h (some cs) K :=
 litO (L.map tc) hc (by intro p hp; obtain ⟨_, _, rfl⟩ := List.mem_map.1 hp; rfl) (by simpa using hn) hK
def zd5.Spec (C : CSem) (N : Nat → Nat) : Prop := ∀ (h : zb) (Q : AVal → zb → Prop), Q (.bool true) h → C (N 358) [] h Q
theorem zd5.spec (i : zd5.Imp C N) (s1 : zd4.Spec C N) (s2 : ze0.Spec C N) (s3 : zc7.Spec C N) (s4 : zb1.Spec C N) : zd5.Spec C N := by
 intro h Q hq
 apply i
 simp -dsimp [repL]
 refine litT (n := 2) [[67], [66]] rfl rfl fun i1 h1 o1 => ?_
 refine s1 _ _ _ _ _ (o1.slAt 0 rfl) fun i2 h2 o2 => ?_
 have d2 := zm2 (o2.slAt 0 rfl) ((o1.slAt 0 rfl).mono o2.le) (by simp [few])
 refine s2 _ _ _ _ _ d2 (by simp [zhz]) (by simp [zhz]) fun x3 R3 h3 o3 => ?_
 rw [three_row] at o3
 simp -dsimp [repL]
 refine litT (n := 3) [[65], [67], [66]] rfl rfl fun i4 h4 o4 => ?_
 refine s3 _ _ _ _ _ _ _ _ ((o3.slAt 0 rfl).mono o4.le) (o4.slAt 0 rfl) (by simp) ?_
 simp -dsimp
 refine s1 _ [] [] _ _ (SlX.nils _ 1) fun i5 h5 o5 => ?_
 have d5 := zm2 (l := []) (R := []) (o5.slAt 0 rfl) (SlX.nils _ 1) (by simp [few])
 simp -dsimp
 refine s2 _ _ _ _ _ d5 (by simp [zhz]) (by simp [zhz]) fun x6 R6 h6 o6 => ?_
 rw [three_none] at o6
 have l6 : V.zx x6 = some (.int .i64 0) := (o6.slAt 0 rfl).zx
 simp -dsimp [l6, repL]
 refine litT (n := 2) [[67], [66]] rfl rfl fun i7 h7 o7 => ?_
 simp -dsimp
 refine s1 _ _ _ _ _ (o7.slAt 0 rfl) fun i8 h8 o8 => ?_
 have d8 := zm2 (o8.slAt 0 rfl) ((o7.slAt 0 rfl).mono o8.le) (by simp [few])
 simp -dsimp
 refine s4 _ _ _ _ d8 (by simp [zhz]) (by simp [zhz]) ?_
 rw [three_ok]
 simp -dsimp [repL]
 refine litT (n := 1) [[65]] rfl rfl fun i9 h9 o9 => ?_
 simp -dsimp
 refine s1 _ _ _ _ _ (o9.slAt 0 rfl) fun j1 g1 p1 => ?_
 have d9 := zm2 (p1.slAt 0 rfl) ((o9.slAt 0 rfl).mono p1.le) (by simp [few])
 simp -dsimp
 refine s4 _ _ _ _ d9 (by simp [zhz]) (by simp [zhz]) ?_
 rw [three_self]
 simp -dsimp [repL]
 refine litT (n := 1) [[90]] rfl rfl fun j2 g2 p2 => ?_
 simp -dsimp
 refine s1 _ _ _ _ _ (p2.slAt 0 rfl) fun j3 g3 p3 => ?_
 have d10 := zm2 (p3.slAt 0 rfl) ((p2.slAt 0 rfl).mono p3.le) (by simp [few])
 simp -dsimp
 refine s4 _ _ _ _ d10 (by simp [zhz]) (by simp [zhz]) ?_
 rw [three_away]
 simp -dsimp
 exact zkf (zb.le_trans o1.le (zb.le_trans o2.le (zb.le_trans o3.le (zb.le_trans o4.le (zb.le_trans o5.le (zb.le_trans o6.le (zb.le_trans o7.le (zb.le_trans o8.le (zb.le_trans o9.le (zb.le_trans p1.le (zb.le_trans p2.le p3.le))))))))))) hq
theorem swapRow_len {L : List Itm} {c : List UInt8} {k : Nat} (h : ∀ t ∈ L, t.zby.length ≤ k) : (zg5 L c).length ≤ k + 1 := by
 unfold zg5
 cases e : zg0 L c with
 | none => simp
 | some x => have := h x (zj1 e).1; simp; omega
def zc0.Spec (C : CSem) (N : Nat → Nat) : Prop := ∀ (x : AVal) (L : List Itm) (c : List UInt8) (h : zb) (Q : AVal → zb → Prop), Dl itemW h x L → L.length < 4611686018427387904 → (∀ t ∈ L, t.inLen) → Q (.bool true) h → C (N 397) [x, .str c] h Q
theorem zc0.spec (i : zc0.Imp C N) (s1 : zd5.Spec C N) (s2 : z6.Spec C N) (s3 : zb8.Spec C N) (s4 : zb1.Spec C N) (s5 : ze0.Spec C N) (s6 : zcj.Spec C N) (s7 : zcc.Spec C N)
  (s8 : zbw.Spec C N) (s9 : zen.Spec C N) (s10 : zc7.Spec C N) (s11 : zk9 C 1 (N 396)) : zc0.Spec C N := by
 intro x L c h Q hx hlen hin hq
 apply i
 have lc : V.zhr (.str c) = some (.int .i64 (c.length : Int)) := rfl
 simp -dsimp only [zc0.cps, zc0.k1]
 refine s2 _ _ _ _ hx hlen hin fun bg hbg => ?_
 cases bg with
 | true =>
  simp -dsimp
  exact s1 _ _ (zbi hq)
 | false =>
  obtain ⟨hl, hsz⟩ := hbg rfl
  have hx := itemW_K hx fun t ht => by have := hsz t ht; unfold Itm.ok few; omega
  simp -dsimp [lc]
  refine B.zm (fun hb => ?_) (fun hb => ?_)
  ·exact s1 _ _ (zbi hq)
  refine s3 _ _ _ _ hx (by omega) fun x1 P PM h1 e1 e2 o1 => ?_
  have hok1 : ∀ p ∈ P, zej.ok p.1 := fun p hp => hx.ok _ (by rw [← e1]; exact List.mem_map_of_mem hp)
  have z1 : zq8 zej zi3 h1 x1 L := zq8.of zqn hx.ok e1 e2 o1
  have y1 : Dl zej h1 x1 L := z1.dl
  have hof : ∀ t ∈ L, t.zby.length ≤ 10000000 := fun t ht => by have := hsz t ht; omega
  refine s4 _ _ _ _ y1 (by omega) hof ?_
  refine s5 _ _ _ _ _ y1 (by omega) hof fun xa Ra h2 o2 => ?_
  refine s5 _ _ _ _ _ (y1.mono o2.le) (by omega) hof fun xb Rb h3 o3 => ?_
  have o23 := o2.join o3
  refine s6 _ _ _ _ _ _ (z1.mono o23.le) (hx.mono (zb.le_trans o1.le o23.le)) (by omega) ?_
  simp -dsimp
  have oo := o1.join o23
  obtain ⟨q1, q2⟩ := (oo.perm List.perm_append_comm).out
  refine s7 _ _ _ _ _ _ q2 hok1 (by have := congrArg List.length e2; rw [List.length_map] at this; exact this) (by have := congrArg List.length e1; simp at this; omega) fun h5 le5 => ?_
  have p5 := q1.grow le5
  refine s8 _ _ _ _ (hx.mono p5.le) (by omega) ?_
  simp -dsimp
  refine s9 _ _ _ _ _ (hx.mono p5.le) (by omega) fun za Rz h6 o6 => ?_
  have p6 := p5.grow o6.le
  have hrl := swapRow_len (c := c) (fun t ht => (hsz t ht).2)
  simp -dsimp
  refine s10 _ _ _ _ _ _ _ _ (p6.slAt 0 rfl) (o6.slAt 0 rfl) (by omega) ?_
  have c1 := (p6.slAt 0 rfl).zdz
  have c2 := (p6.slAt 1 rfl).zdz
  simp -dsimp [c1, c2, repL]
  intro id hid
  have p9 := p6.lit2L (x := xa) (y := xb) hid
  obtain ⟨q3, q4⟩ := (p9.perm List.perm_append_comm).out
  try simp -dsimp
  refine s11 ⟨.sl id 0 0 2 1 2, 2, twoL _ xa xb, twoL _ ((zg5 L c).map tc) ((zg5 L c).map tc), twoL _ Ra Rb, []⟩ _ _ _ ⟨q3.slAt 0 rfl, by simp, fun j hj => by simp only [twoL]; (repeat' split) <;> simp only [List.length_map] <;> omega⟩ (by simp only [LL.obs]; rw [Objs_twoL]; exact q4) fun h10 le10 => ?_
  simp -dsimp
  refine s1 _ _ ?_
  simp -dsimp
  exact zkf (zb.le_trans q3.le le10) hq
end Go.Ab
