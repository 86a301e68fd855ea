/- What is proved: a part of the way to the statement: Clock27. No conditions. -/
import Derived.Test.YtneeejngeoaaoaaQ7
set_option linter.unusedVariables false
set_option linter.unusedSimpArgs false
namespace Go.Ab
open List
variable{C:z3}{N:zN}
abbrev zqj(d:DL):List Int:=d.L.map (·.Id)
def zka(ids:List Int):List za:=(List.range 6).map λj:Nat=> .bool (decide ((j:Int)∈ids))
theorem zj9(ids:List Int):(zka ids).length=6:=by simp[zka]
theorem zo5{ids:List Int}{j:Nat}(hj:j<6):(zka ids)[j]?=some (.bool (decide ((j:Int)∈ids))):=by
 unfold zka;rw[getElem?_map,getElem?_range hj];rfl
theorem liveC_set{ids ids':List Int}{w:Nat}{b:Bool}(hw:w<6)(h:∀j:Nat,j<6->decide ((j:Int)∈ids')=if j=w then b else decide ((j:Int)∈ids)):(zka ids).set w (.bool b)=zka ids':=by
 refine ext_getElem? λj=>?_;by_cases hj:j<6
 ·rw[zo5 hj,h j hj]
  by_cases hjw:j=w
  ·subst hjw
   rw[getElem?_set_self (by rw[zj9];exact hj),if_pos rfl]
  ·rw[getElem?_set_ne (λe=>hjw e.symm),zo5 hj,if_neg hjw]
 ·rw[getElem?_eq_none (by rw[length_set,zj9];omega),getElem?_eq_none (by rw[zj9];omega)]
theorem liveC_add{ids ids':List Int}{w:Nat}(hw:w<6)(h:∀x:Int,x∈ids'↔x=w \/ x∈ids):(zka ids).set w (.bool true)=zka ids':=by
 refine liveC_set hw λj hj=>?_;by_cases e:j=w
 ·rw[if_pos e];exact decide_eq_true ((h _).2 (.inl (by rw[e])))
 ·rw[if_neg e];exact decide_eq_decide.2 ((h _).trans ⟨λh=>h.resolve_left (by omega),.inr⟩)
theorem liveC_del{ids ids':List Int}{w:Nat}(hw:w<6)(h:∀x:Int,x∈ids'↔x≠w /\ x∈ids):(zka ids).set w (.bool false)=zka ids':=by
 refine liveC_set hw λj hj=>?_;by_cases e:j=w
 ·rw[if_pos e];exact decide_eq_false (λhm=>((h _).1 hm).1 (by rw[e]))
 ·rw[if_neg e];exact decide_eq_decide.2 ((h _).trans ⟨λh=>h.2,λh=>⟨by omega,h⟩⟩)
theorem idx6{i:Nat}{w:Nat}(hw:w<6):V.idxA 6 1 (.ptr i 0 0) (.int .i64 (w:Int))=some (.ptr i 0 w):=by
 simp only[V.idxA];rw[if_pos ⟨by omega,by omega⟩];simp
structure Six(h0 h:zb)(i:Nat)(s:Lk)(d:DL):Prop where
 zj8:zhp s d 200 20000
 fresh:zpm d
 six:∀x∈zqj d,0 <= x /\ x<6
 own:zc5 h0 h ([.box (.ptr i 0 0) (zka (zqj d))]++s.obs)
theorem Six.grow{h0 h h':zb}{i:Nat}{s:Lk}{d:DL}(hs:Six h0 h i s d)(hle:h.le h'):Six h0 h' i s d:=⟨hs.zj8,hs.fresh,hs.six,hs.own.grow hle⟩
theorem Six.cell{h0 h:zb}{i:Nat}{s:Lk}{d:DL}(hs:Six h0 h i s d){j:Nat}(hj:j<6):A.ldv h (.ptr i 0 j)=some (.bool (decide ((j:Int)∈zqj d))):=by
 obtain⟨id,e,hb⟩:=hs.own.zpy 0 rfl;cases e;exact zds (k:=j) hb (zo5 hj)
theorem Six.gone{h0 h h1:zb}{i w:Nat}{s s1:Lk}{d:DL}(hs:Six h0 h i s d)(hw:w<6)(hv:zhp s1 (zlu d w) 200 20000)(ho:zc5 h0 h1 ([.box (.ptr i 0 0) (zka (zqj d))]++s1.obs)){K:zb->Prop}(hK:∀h2,Six h0 h2 i s1 (zlu d w)->K h2):A.st h1 (.ptr i 0 w) (.bool false) K:=by
 refine ho.boxSt 0 rfl rfl (by rw[zj9];exact hw) λh2 o2 _=>hK h2 ⟨hv,free_fresh hs.fresh _,λx hx=>hs.six x ((free_ids hs.zj8.zn9 _ _).1 hx).2,?_⟩;rw[liveC_del hw λx=>free_ids hs.zj8.zn9 _ x]at o2;exact o2
def zi.Spec(C:z3)(N:zN):Prop:=∀(x:za)(L:List Stp)(h:zb)(Q:zQ),Dl zoj h x L->L.length<4611686018427387904->(∀t∈L,t.inLen)->Q (.bool true) h->C (N 498) [x] h Q
theorem ends_last(sW:zbu.Spec C N)(sH:zb1.Spec C N)(sR:zq.Spec C N){h0 h:zb}{i:Nat}{s:Lk}{d:DL}{Q:zQ}(hs:Six h0 h i s d)(he:d.L=[])(hq:∀h',h.le h'->dn Q (.bool true) h'):zbg (zi.l3 C N (dn Q) (.ptr s.l 0 0) (.int .i64 0)) [.int .i64 0] h:=by
 have hh:∀w,zk5 d w=[]:=λw=>by unfold zk5;rw[he];rfl
 have hw:∀w,zes d w=[]:=λw=>by unfold zes;rw[he];rfl
 refine zbg.intro (λt vs h2=>h.le h2 /\ ∃w:Nat,w+t=6 /\ vs=[.int .i64 (w:Int)]) 6 ?_ ⟨zb.le_refl _,0,by omega,rfl⟩;rintro Y t vs h2 ⟨hle,w,ht,rfl⟩ hY;have ho:zc5 h0 h2 ([]++s.obs):=(hs.own.sub (sublist_append_right ..)).grow hle;simp -dsimp only[zi.l3,zi.k2,lss6,B.zh];by_cases hw6:w<6
 ·simp -dsimp only[hw6,decide_true,B.cond_true]
  refine hs.zj8.holds sH ho (by omega) λx1 h3 o3=>?_;rw[hh]at o3;have e3:V.zd3 x1=some (.int .i64 0):=(o3.zms 0 rfl).zd3;simp -dsimp only[e3,B.zh];refine hs.zj8.waits sW (ho.grow o3.le) (by omega) λx2 h4 o4=>?_;rw[hw]at o4;have e4:V.zd3 x2=some (.int .i64 0):=(o4.zms 0 rfl).zd3;have ez:V.bin .add (.int .i64 0) (.int .i64 0)=some (.int .i64 0):=rfl;have eg:V.bin .gtr (.int .i64 0) (.int .i64 0)=some (.bool false):=rfl;simp -dsimp only[e4,ez,eg,B.zh,B.cond_false,zhf (show w<4611686018427387904 by omega)];exact hY (t-1) _ _ (by omega) ⟨zb.le_trans hle (zb.le_trans o3.le o4.le),w+1,by omega,rfl⟩
 ·have e0:V.bin .eql (.int .i64 0) (.int .i64 0)=some (.bool true):=rfl
  simp -dsimp only[hw6,decide_false,B.cond_false,zi.k1,e0,B.zh,B.zfx,B.zcc];refine hs.zj8.round sR ho (by omega) λx3 h3 L hr o3=>?_;have hr':=roundD_of hs.zj8.rel hs.zj8.ok hr;have hL:L=[]:=by
   apply Classical.byContradiction;intro hne;obtain⟨z,hz⟩:=exists_mem_of_ne_nil _ hne;have:=(round_two hr' hne).2 z hz;rw[he]at this;cases this
  rw[hL]at o3;have e3:V.zd3 x3=some (.int .i64 0):=(o3.zms 0 rfl).zd3;simp -dsimp only[e3,e0,B.zh,B.zfx,B.zcc,B.zey];exact hq h3 (zb.le_trans hle o3.le)
theorem ends_all (sA : zu.Spec C N) (sF : zcj.Spec C N) (sW : zbu.Spec C N) (sH : zb1.Spec C N) (sR : zq.Spec C N) {h0 h : zb} {i : Nat} {s : Lk} {d : DL} {Q : zQ} (hs : Six h0 h i s d) (hlv : zhp s d 100 10000) (hq : ∀ h', h0.le h' -> dn Q (.bool true) h') : zbg (zi.l8 C N (dn Q) (.ptr s.l 0 0) (.ptr i 0 0)) [.int .i64 (d.L.length : Int), .int .i64 0] h := by
  have hl6 : ∀ (d : DL), (∀ x ∈ zqj d, 0 <= x /\ x < 6) -> zgu d -> d.L.length <= 6 := fun d h6 hg => by
    rw [<- length_map (fun w : DW => w.Id), <- zqg hg.ids h6]
    have := length_filter_le (fun j : Nat => decide ((j : Int) ∈ zqj d)) (List.range 6)
    rw [length_range] at this
    exact this
  refine zbg.intro (fun t vs hh => ∃ (n : Nat) (s' : Lk) (d' : DL), vs = [.int .i64 (d'.L.length : Int), .int .i64 (n : Int)] /\ s'.l = s.l /\ Six h0 hh i s' d' /\ d'.L.length = t /\ n + t <= 6 /\ zhp s' d' (100 + n) 10000) d.L.length ?_ ⟨0, s, d, rfl, rfl, hs, rfl, by have := hl6 d hs.six hs.zj8.zn9; omega, hlv⟩
  rintro Y t vs hh ⟨n, s', d', rfl, hl, hs', hlen, hn, hlv'⟩ hY
  have ho : zc5 h0 hh ([] ++ s'.obs) := hs'.own.sub (sublist_append_right ..)
  have e40 : V.bin .lss (.int .i64 (n : Int)) (.int .i64 40) = some (.bool true) := by rw [V.ze1]; congr 3; exact decide_eq_true (by omega)
  rw [<- hl]
  simp -dsimp only [zi.l8, zi.k7, e40, B.zh, B.zfx, B.zcc, gtr0N, B.zey]
  by_cases h0l : 0 < d'.L.length
  rotate_left
  · simp -dsimp only [h0l, decide_false, B.cond_false]
    have he : d'.L = [] := length_eq_zero_iff.1 (by omega)
    have e0 : (d'.L.length : Int) = 0 := by rw [he]; rfl
    rw [e0]
    exact ends_last sW sH sR hs' he fun h' hle => hq h' (zb.le_trans hs'.own.le hle)
  simp -dsimp only [h0l, decide_true, B.cond_true]
  have hsub1 : V.bin .sub (.int .i64 (d'.L.length : Int)) (.int .i64 1) = some (.int .i64 ((d'.L.length - 1 : Nat) : Int)) := by
    rw [V.zh4, wrap_i64 (by omega) (by omega)]; congr 2; omega
  have hne : d'.L ≠ [] := fun e => by rw [e] at h0l; exact Nat.lt_irrefl _ h0l
  refine hs'.zj8.round sR ho (by omega) fun x1 h1 L hr o1 => ?_
  have hr' := roundD_of hs'.zj8.rel hs'.zj8.ok hr
  have lx : V.zd3 x1 = some (.int .i64 (L.length : Int)) := by simpa using (o1.zms 0 rfl).zd3
  simp -dsimp only [zi.k6, lx, gtr0N, B.zh, zhf (show n < 4611686018427387904 by omega)]
  by_cases hL : 0 < L.length
  · have hLne : L ≠ [] := fun e => by rw [e] at hL; exact Nat.lt_irrefl _ hL
    obtain ⟨h2, hin⟩ := round_two hr' hLne
    have e2 : V.bin .lss (.int .i64 (L.length : Int)) (.int .i64 2) = some (.bool false) := by rw [V.ze1]; congr 3; exact decide_eq_false (by omega)
    obtain ⟨z, hz⟩ := get_lt (L := L) (k := L.length - 1) (by omega)
    have hzi := hin z (mem_of_getElem? hz)
    obtain ⟨z0, z6⟩ := hs'.six z hzi
    have hLl : L.length < 1000 := by
      have h1 := roundD_len hr'
      omega
    have es : V.bin .sub (.int .i64 (L.length : Int)) (.int .i64 1) = some (.int .i64 ((L.length - 1 : Nat) : Int)) := by
      rw [V.zh4, wrap_i64 (by omega) (by omega)]; congr 2; omega
    have hx := o1.zms 0 rfl
    have i1 : V.zde 1 x1 (.int .i64 ((L.length - 1 : Nat) : Int)) = some (elp 1 x1 (L.length - 1) 0) := hx.idxN (by rw [length_map]; omega)
    have c1 : A.ldv h1 (elp 1 x1 (L.length - 1) 0) = some (.int .i64 z) := hx.cell (by rw [getElem?_map, hz]; rfl)
    have ez : ((z.toNat : Nat) : Int) = z := by omega
    simp -dsimp only [hL, decide_true, B.cond_true, lx, e2, B.cond_false, es, i1, c1, B.ze7, B.zh]
    refine hlv'.free sF (w := z) (hs'.own.grow o1.le) fun h3 s3 v3 o3 l3 => ?_
    rw [<- ez] at v3 ⊢
    simp -dsimp only [idx6 (i := i) (show z.toNat < 6 by omega), B.zh]
    refine (hs'.grow o1.le).gone (w := z.toNat) (by omega) (v3.mono (by omega) (by omega)) o3 fun h4 s4 => ?_
    have hlf : (zlu d' ((z.toNat : Nat) : Int)).L.length + 1 = d'.L.length := by rw [ez]; exact free_len z hzi
    simp -dsimp only [hsub1, zhf (show n < 4611686018427387904 by omega), B.zh]
    refine hY (t - 1) _ _ (by omega) ⟨n + 1, s3, _, ?_, l3.trans hl, s4, by omega, by omega, v3.mono (by omega) (by omega)⟩
    rw [show (zlu d' ((z.toNat : Nat) : Int)).L.length = d'.L.length - 1 by omega]
  simp -dsimp only [hL, decide_false, B.cond_false]
  have hL0 : L = [] := length_eq_zero_iff.1 (by omega)
  rw [hL0] at hr'
  obtain ⟨v, hvi, hvw⟩ := end_free hs'.zj8.zn9 (round_none hr') hne
  obtain ⟨v0, v6⟩ := hs'.six v hvi
  have hs1 := hs'.grow o1.le
  refine zbg.intro (fun u vs h2 => ∃ w : Nat, w + u = 6 /\
      ((vs = [.int .i64 (d'.L.length : Int), .bool false, .int .i64 (w : Int)] /\ Six h0 h2 i s' d' /\ ∀ j : Nat, j < w -> (j : Int) ∈ zqj d' -> zes d' j ≠ []) \/
       (∃ (s2 : Lk) (d2 : DL), vs = [.int .i64 (d2.L.length : Int), .bool true, .int .i64 (w : Int)] /\ Six h0 h2 i s2 d2 /\ d2.L.length + 1 = d'.L.length /\ s2.l = s'.l /\ zhp s2 d2 (100 + (n + 1)) 10000))) 6 ?_ ⟨0, by omega, .inl ⟨rfl, hs1, by omega⟩⟩
  rintro Z u vs h2 ⟨w, hwu, hor⟩ hZ
  rcases hor with ⟨rfl, hs2, hno⟩ | ⟨s2, d2, rfl, hs2, hl2, hls2, hlv2⟩
  rotate_left
  · simp -dsimp only [zi.l5, zi.k4, lss6, B.zh, zhf (show n < 4611686018427387904 by omega)]
    have fin : Y [.int .i64 (d2.L.length : Int), .int .i64 ((n + 1 : Nat) : Int)] h2 := hY (t - 1) _ _ (by omega) ⟨n + 1, s2, d2, rfl, hls2.trans hl, hs2, by omega, by omega, hlv2⟩
    have an := zhf (show n < 4611686018427387904 by omega)
    by_cases hw6 : w < 6
    · simpa -dsimp [hw6, - V.zjk, an] using fin
    · simpa -dsimp [hw6, - V.zjk, an] using fin
  have ho2 : zc5 h0 h2 ([] ++ s'.obs) := hs2.own.sub (sublist_append_right ..)
  simp -dsimp only [zi.l5, zi.k4, lss6, B.zh]
  by_cases hw6 : w < 6
  rotate_left
  · have : v.toNat < w := by omega
    have ez : ((v.toNat : Nat) : Int) = v := by omega
    exact absurd hvw (by rw [<- ez]; exact hno v.toNat this (by rw [ez]; exact hvi))
  have a1 := zhf (show w < 4611686018427387904 by omega)
  have next : ((w : Int) ∈ zqj d' -> zes d' w ≠ []) -> ∀ h3, h2.le h3 -> Z [.int .i64 (d'.L.length : Int), .bool false, .int .i64 ((w + 1 : Nat) : Int)] h3 := fun hc h3 hle => by
    refine hZ (u - 1) _ _ (by omega) ⟨w + 1, by omega, .inl ⟨rfl, hs2.grow hle, fun j hj hji => ?_⟩⟩
    rcases Nat.lt_or_eq_of_le (Nat.le_of_lt_succ hj) with hlt | rfl
    · exact hno j hlt hji
    · exact hc hji
  by_cases hwi : (w : Int) ∈ zqj d'
  rotate_left
  · have := next (fun h => absurd h hwi) h2 (zb.le_refl _)
    have hc : A.ldv h2 (.ptr i 0 w) = some (.bool false) := by rw [hs2.cell hw6, decide_eq_false hwi]
    simp -dsimp only [hw6, decide_true, B.zfx, B.zcc, V.ze9, Bool.not_false, B.zh, B.zey, B.cond_true, idx6 hw6, hc, B.ze7, a1]
    simpa -dsimp [- V.zjk, a1] using this
  have hc : A.ldv h2 (.ptr i 0 w) = some (.bool true) := by rw [hs2.cell hw6, decide_eq_true hwi]
  simp -dsimp only [hw6, decide_true, B.zfx, B.zcc, V.ze9, Bool.not_false, B.zh, B.zey, B.cond_true, idx6 hw6, hc, B.ze7]
  refine hs2.zj8.waits sW ho2 (by omega) fun x3 h3 o3 => ?_
  have l3 : V.zd3 x3 = some (.int .i64 ((zes d' w).length : Int)) := by simpa using (o3.zms 0 rfl).zd3
  simp -dsimp only [l3, eql0N, B.zh, B.zfx, B.zcc, B.zey]
  by_cases hw0 : (zes d' w).length = 0
  rotate_left
  · have := next (fun _ e => hw0 (by rw [e]; rfl)) h3 o3.le
    simp -dsimp only [hw0, decide_false, B.cond_false, a1, B.zh]
    exact this
  have hw00 : zes d' w = [] := length_eq_zero_iff.1 hw0
  simp -dsimp only [hw0, decide_true, B.cond_true]
  refine hlv'.ask sA (w := (w : Int)) (names := []) (R := []) (hs2.own.grow o3.le) (by omega) (fun H oH => SlX.zfa H 1) (by decide) fun h4 s4 v4 o4 l4 => ?_
  rw [ask_none hs'.fresh hw00]
  simp -dsimp only [V.ze9, Bool.not_true, B.zh, B.cond_false]
  have hs4 : Six h0 h4 i s4 (zh5 d' w []).2 := by
    refine ⟨v4.mono (by omega) (by simp), ask_fresh hs'.zj8.zn9 hs'.fresh _ _, fun x hx => ?_, ?_⟩
    · rcases (zm5 d' w [] x).1 hx with rfl | hx
      · omega
      · exact hs'.six x hx
    · have e : zka (zqj (zh5 d' w []).2) = zka (zqj d') := by
        unfold zka
        refine map_congr_left fun j _ => ?_
        congr 1
        exact decide_eq_decide.2 ((zm5 d' w [] _).trans ⟨fun h => h.elim (fun e => by rw [e]; exact hwi) id, .inr⟩)
      rw [e]; exact o4
  rw [<- l4]
  refine v4.free sF (w := (w : Int)) hs4.own fun h5 s5 v5 o5 l5 => ?_
  simp -dsimp only [idx6 hw6, B.zh]
  refine hs4.gone hw6 (v5.mono (by omega) (by simp)) o5 fun h6 s6 => ?_
  have hlen4 : (zh5 d' w []).2.L.length = d'.L.length := by
    have hp : (zqj (zh5 d' w []).2).Perm (zqj d') := (perm_ext_iff_of_nodup hs4.zj8.zn9.ids hs'.zj8.zn9.ids).2 fun x => (zm5 d' w [] x).trans ⟨fun h => h.elim (fun e => by rw [e]; exact hwi) id, .inr⟩
    have := hp.length_eq
    rwa [length_map, length_map] at this
  have hlf := free_len (d := (zh5 d' w []).2) (w : Int) ((zm5 d' w [] _).2 (.inl rfl))
  simp -dsimp only [hsub1, a1, B.zh]
  refine hZ (u - 1) _ _ (by omega) ⟨w + 1, by omega, .inr ⟨s5, _, ?_, s6, by omega, l5.trans l4, v5.mono (by omega) (by simp)⟩⟩
  rw [show (zlu (zh5 d' w []).2 (w : Int)).L.length = d'.L.length - 1 by omega]
theorem ends_mid(s2:zcb.Spec C N)(sN:zei.Spec C N)(sA:zu.Spec C N)(sF:zcj.Spec C N)(sW:zbu.Spec C N)(sH:zb1.Spec C N)(sR:zq.Spec C N)(sP:zej.Spec C N)
  {x:za} {L:List Stp} {h:zb} {Q:zQ} (hx:Dl zoj h x L) (hlen:L.length <= 60) (hin:∀t∈L,t.inLen) (hsm:zj6 L <= 2000) (hq:∀h',h.le h'->dn Q (.bool true) h'):B.call C (N 485) [] h λv24 h=>zi.k13 C N (dn Q) x v24 h:=by
 refine sN h _ λh1 s k1 w1 l1 o1=>?_;simp -dsimp only[zi.k13];intro i hi;have o2:zc5 h (upd h1 i (zda [.bool false,.bool false,.bool false,.bool false,.bool false,.bool false])) ([.box (.ptr i 0 0) (zka [])]++s.obs):=(o1.zma hi ([.bool false,.bool false,.bool false,.bool false,.bool false,.bool false]:List za)).perm perm_append_comm;refine zbg.intro (λt vs hh=>∃(k:Nat)(s':Lk)(d:DL),k+t=L.length /\ vs=[.int .i64 (k:Int)] /\ s'.l=s.l /\ zhp s' d k (zj6 (L.take k)) /\ zpm d /\ (∀x∈zqj d,0 <= x /\ x<6) /\ zc5 h hh ([.box (.ptr i 0 0) (zka (zqj d))]++s'.obs)) L.length ?_ ⟨0,s,⟨[],0⟩,by omega,rfl,rfl,zhp.zero k1 w1 l1,λw hw=>absurd hw (not_mem_nil),λx hx=>absurd hx (not_mem_nil),o2⟩;rintro Y t vs hh ⟨k,s',d,ht,rfl,hl,hv,hf,h6,ho⟩ hY;have hle:=ho.le;rw[<-hl];have hnk:=namesN_le (L:=L) (k:=k);simp -dsimp only[zi.l12,zi.k11,(hx.mono hle).zd3,lssN,B.zh];by_cases hk:k<L.length
 ·obtain⟨r,hr⟩:=get_lt hk
  obtain⟨n1,n2⟩:=hin r (mem_of_getElem? hr);have hnk1:=namesN_le (L:=L) (k:=k+1);have hns:=zo2 hr;obtain⟨a,ea⟩:=stp_get hx hr;obtain⟨R,ha⟩:=ea.at_;obtain⟨a1,ea1⟩:=stp_get (hx.mono hle) hr;have hrem:∃z,V.bin .rem (.int .i64 r.Work) (.int .i64 7)=some (.int .i64 z):=⟨_,V.bin_rem _ _ _ (by omega)⟩;obtain⟨z,hz⟩:=hrem;have ea2':a1=a:=by
   have q2:=ea1.l2;rw[ea.mono' hle hx hr]at q2;cases q2;rfl
  subst ea2';simp -dsimp only[hk,decide_true,B.cond_true,ea1.idx,ea1.f1,ea1.l1,B.ze7,B.zh,hz];refine sP _ _ _ _ (by omega) (by omega) λw w0 w6=>?_;simp -dsimp only[ea1.idx,ea1.f2,ea1.l2,B.ze7,B.zh];refine hv.ask sA ho (by omega) (λH oH=>ha.mono oH.le) (by omega) λh3 s3 v3 o3 l3=>?_;rw[<-hns]at v3;have ez:w=((w.toNat:Nat):Int):=by omega
  rw[ez];simp -dsimp only[idx6 (i:=i) (show w.toNat<6 by omega),B.zh];refine o3.boxSt 0 rfl rfl (by rw[zj9];omega) λh4 o4 _=>?_;rw[liveC_add (show w.toNat<6 by omega) (ids':=zqj (zh5 d w r.Names).2) λx=>by rw[<-ez];exact zm5 d w r.Names x]at o4;simp -dsimp only[zhf (show k<4611686018427387904 by omega),B.zh];refine hY (t-1) _ _ (by omega) ⟨k+1,s3,_,by omega,rfl,l3.trans hl,v3,ask_fresh hv.zn9 hf _ _,λx hx=>?_,o4⟩;rcases (zm5 d w r.Names x).1 hx with rfl|hx
  ·omega
  ·exact h6 x hx
 ·simp -dsimp only[hk,decide_false,B.cond_false]
  have hs:Six h hh i s' d:=⟨hv.mono (by omega) (by omega),hf,h6,ho⟩;clear hY;refine zbg.intro (λt vs h2=>h2=hh /\ ∃j:Nat,j+t=6 /\ vs=[.int .i64 ((((List.range j).filter λq:Nat=>decide ((q:Int)∈zqj d)).length:Nat):Int),.int .i64 (j:Int)]) 6 ?_ ⟨rfl,0,by omega,rfl⟩;rintro Z u vs h2 ⟨rfl,j,hju,rfl⟩ hZ;have hcl:((List.range j).filter λq:Nat=>decide ((q:Int)∈zqj d)).length <= 6:=by
   have:=length_filter_le (λq:Nat=>decide ((q:Int)∈zqj d)) (List.range j);rw[length_range]at this;omega
  simp -dsimp only[zi.l10,zi.k9,lss6,B.zh];by_cases hj6:j<6
  ·simp -dsimp only[hj6,decide_true,B.cond_true,idx6 hj6,hs.cell hj6,B.ze7,B.zh,zhf (show j<4611686018427387904 by omega)]
   refine B.zbx (λhb=>?_) (λhb=>?_)
   ·simp -dsimp only[zhf (show ((List.range j).filter λq:Nat=>decide ((q:Int)∈zqj d)).length<4611686018427387904 by omega),zhf (show j<4611686018427387904 by omega),B.zh]
    refine hZ (u-1) _ _ (by omega) ⟨rfl,j+1,by omega,?_⟩;rw[range_succ,filter_append,length_append,filter_cons_of_pos (by exact hb),filter_nil];rfl
   ·simp -dsimp only[zhf (show j<4611686018427387904 by omega),B.zh]
    refine hZ (u-1) _ _ (by omega) ⟨rfl,j+1,by omega,?_⟩;rw[range_succ,filter_append,length_append,filter_cons_of_neg (by rw[hb];exact Bool.false_ne_true),filter_nil];rfl
  ·have hje:j=6:=by omega
   subst hje;simp -dsimp only[hj6,decide_false,B.cond_false];have hc:=zqg hv.zn9.ids h6;rw[length_map]at hc;rw[hc];exact ends_all sA sF sW sH sR hs (hv.mono (by omega) (by omega)) hq
theorem zi.spec(i:zi.Imp C N)(s0:zdo.Spec C N)(s2:zcb.Spec C N)(sN:zei.Spec C N)(sA:zu.Spec C N)(sF:zcj.Spec C N)(sW:zbu.Spec C N)(sH:zb1.Spec C N)(sR:zq.Spec C N)(sP:zej.Spec C N):zi.Spec C N:=by
 intro x L h Q hx hlen hin hq;apply i;simp -dsimp only[zi.cps];refine s0 _ _ ?_;have g60:V.bin .gtr (.int .i64 (L.length:Int)) (.int .i64 60)=some (.bool (decide (60<L.length))):=by rw[V.zlx];congr 3;exact propext (by omega)
 have core:∀(y:za)(M:List Stp),Dl zoj h y M->M.length <= 60->(∀t∈M,t.inLen)->B.call C (N 486) [y] h λv23 h=>B.cond v23 (dn Q (.bool true) h) (B.call C (N 485) [] h λv24 h=>zi.k13 C N (dn Q) y v24 h):=λy M hy hM hin=>by
  refine s2 _ _ _ _ hy (by omega) hin λbg hbg=>?_;cases bg with
  | true=>
   simp -dsimp only[B.cond_true];exact zcs hq
  | false=>
   simp -dsimp only[B.cond_false];have hq':∀h',h.le h'->dn Q (.bool true) h':=λh' hle=>dn_le hle hq;exact ends_mid s2 sN sA sF sW sH sR sP hy hM hin (hbg rfl) hq'
 simp -dsimp only[V.ze9,Bool.not_true,B.zh,B.cond_false,zi.k14,hx.zd3,g60];refine B.zbx (λhb=>?_) (λhb=>?_)
 ·have hb:=of_decide_eq_true hb
  obtain⟨y,e1,e2⟩:=hx.upTo (m:=60) (by omega);have e1:V.zpx 3 x none (some (.int .i64 60))=some y:=e1;simp -dsimp only[e1,B.zh];exact core y _ e2 (by rw[length_take];omega) (λt ht=>hin t (mem_of_mem_take ht))
 ·have hb:=of_decide_eq_false hb
  exact core x _ hx (by omega) hin
end Go.Ab
