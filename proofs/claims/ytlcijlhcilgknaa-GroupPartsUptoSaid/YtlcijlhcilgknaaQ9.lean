/- What is proved: a part of the way to the statement: Claw12j. No conditions. -/
import Derived.Test.YtlcijlhcilgknaaQ8
set_option linter.unusedVariables false
set_option linter.unusedSimpArgs false
set_option maxRecDepth 100000
namespace Go.Ab
variable {C:CSem} {N:zN}
theorem Parts_known (s3:zcm.Spec C N) (s5:zq.Spec C N) {x g:AVal} {I:List Itm} {h:za} {Q:zQ} (hx:Dl ze5 h x I) (hB:ItmB I) (hg:TxAt h g (ofT I)) (hq: ∀ h',h.le h'->Q (.bool true) h'):
  zw (zg.l11 C N Q x g (.int .i64 ((zby I).length:Int))) [.int .i64 0,.int .i64 0] h:=by
 have hI:=hB.n
 have lx:=hx.zcw
 have lG:(ofT I).length <= I.length:=znv _
 have lg1: ∀ l∈ofT I,l.length<4611686018427387904:=fun l hl=>by have:=zlb hl;omega
 have lc: ∀ k,(zby (I.take k)).length <= 70:=fun k=>by have:=zi1 (I.take k);rw [List.length_take] at this;omega
 refine zw.intro (fun t vs hh=>h.le hh /\ ∃ q:Nat,q+t=I.length /\ vs=[.int .i64 ((zby (I.take q)).length:Int),.int .i64 (q:Int)]) I.length ?_ ⟨za.le_refl _,0,by omega,rfl⟩
 rintro Y t vs hh ⟨le1,q,ht,rfl⟩ hY
 simp -dsimp only [zg.l11,zg.k10,lx,lssN,B.zd]
 refine B.zr (fun hc=> ?_) (fun hc=> ?_)
 rotate_left
 ·rw [decide_eq_false_iff_not] at hc
  have hqq:q=I.length:=by omega
  subst hqq
  rw [List.take_length]
  have e1:V.bin .eql (.int .i64 ((zby I).length:Int)) (.int .i64 ((zby I).length:Int))=some (.bool true):=by simp -dsimp
  simp -dsimp only [zg.k1,e1,B.gd_t,B.zce,B.zd]
  refine s5 x g I hh _ (hx.mono le1) hB (hg.mono le1) ?_
  simp -dsimp only [B.zev]
  exact hq _ le1
 rw [decide_eq_true_eq] at hc
 obtain ⟨r,hr⟩:=ze0 hc
 have hrI:=List.mem_of_getElem? hr
 have hb:=hB.ok r hrI
 have hx1:=hx.mono le1
 obtain ⟨p,o,g1,_,g3,g4,g5,g6,g7,g8,ga⟩:=zp5 hx1 hr
 obtain ⟨⟨Rp,hp⟩,⟨Ro,ho⟩,hok⟩:(∃ R,SlX hh 2 p (r.zeg.map Part.cs) R) /\ (∃ R,SlX hh 1 o (r.zd2.map tc) R) /\ r.ok:=ga
 have lp:=hp.zcw
 have lo:=ho.zcw
 rw [List.length_map] at lp lo
 have hstep:=codesT_step hr
 have k1:=lc q
 have others:zw (zg.l3 C N Q Y x g (.int .i64 ((zby I).length:Int)) (.int .i64 ((zby (I.take (q+1))).length:Int)) (.int .i64 (q:Int)) (.int .i64 (zfk (ofT I) r.Code))) [.int .i64 0] hh:=by
  refine zw.intro (fun t vs h'=>h'=hh /\ ∃ j:Nat,j+t=r.zd2.length /\ vs=[.int .i64 (j:Int)]) r.zd2.length ?_ ⟨rfl,0,by omega,rfl⟩
  rintro Z m vs h' ⟨e',j,hm,rfl⟩ hZ
  subst e'
  simp -dsimp only [zg.l3,zg.k2,g1,g5,g8,lo,lssN,B.ze4,B.zd]
  refine B.zr (fun hc2=> ?_) (fun hc2=> ?_)
  ·rw [decide_eq_true_eq] at hc2
   obtain ⟨w,hw⟩:=ze0 hc2
   have f1:V.idxS 1 o (.int .i64 (j:Int))=some (elp 1 o j 0):=ho.idxN (by rw [List.length_map];exact hc2)
   have f3:A.ldv h' (elp 1 o j 0)=some (.str w):=ho.cell (by rw [List.getElem?_map,hw];rfl)
   simp -dsimp only [g1,g5,g8,f1,f3,B.ze4,B.zd]
   refine s3 g _ w h' _ (hg.mono le1) (by omega) lg1 ?_
   have nxt:Z [.int .i64 ((j+1:Nat):Int)] h':=hZ (m-1) _ _ (by omega) ⟨rfl,j+1,by omega,rfl⟩
   by_cases hk:0 <= zfk (ofT I) w
   ·have e1:=zqz hrI (m:=w) (List.mem_append_right _ (List.mem_of_getElem? hw)) hk
    have e2:V.bin .neq (.int .i64 (zfk (ofT I) w)) (.int .i64 (zfk (ofT I) r.Code))=some (.bool false):=by rw [e1];simp -dsimp
    simp -dsimp only [V.zgb,decide_eq_true hk,B.gd_t,B.zce,e2,B.zev,B.cond_false,B.zd,add1 (show j<4611686018427387904 by omega)]
    exact nxt
   ·simp -dsimp only [V.zgb,decide_eq_false hk,B.gd_t,B.zdw,B.ze2,B.cond_false,B.zd,add1 (show j<4611686018427387904 by omega)]
    exact nxt
  ·have hk: ¬ zfk (ofT I) r.Code<0:=by
    have:=zj3.2 (zey.2 ⟨r,hrI,rfl⟩)
    omega
   simp -dsimp only [V.zec,decide_eq_false hk,B.cond_false,B.zd,add1 (show q<4611686018427387904 by omega)]
   exact hY (t-1) _ _ (by omega) ⟨le1,q+1,by omega,rfl⟩
 have parts:zg.k6 C N Q Y x g (.int .i64 ((zby I).length:Int)) (.int .i64 ((zby (I.take (q+1))).length:Int)) (.int .i64 (q:Int)) hh:=by
  simp -dsimp only [zg.k6,g1,g3,g6,B.ze4,B.zd]
  refine s3 g _ r.Code hh _ (hg.mono le1) (by omega) lg1 ?_
  refine zw.intro (fun t vs h'=>h'=hh /\ ∃ j:Nat,j+t=r.zeg.length /\ vs=[.int .i64 (j:Int)]) r.zeg.length ?_ ⟨rfl,0,by omega,rfl⟩
  rintro Z m vs h' ⟨e',j,hm,rfl⟩ hZ
  subst e'
  simp -dsimp only [zg.l5,zg.k4,g1,g4,g7,lp,lssN,B.ze4,B.zd]
  refine B.zr (fun hc2=> ?_) (fun hc2=>others)
  rw [decide_eq_true_eq] at hc2
  obtain ⟨w,hw⟩:=ze0 hc2
  have hk':j<(r.zeg.map Part.cs).length:=by rw [List.length_map];omega
  have f1:V.idxS 2 p (.int .i64 (j:Int))=some (elp 2 p j 0):=hp.idxN hk'
  have f2:V.fieldAddr 0 (elp 2 p j 0)=some (elp 2 p j 0):=hp.zqc hk' 0 0
  have f3:A.ldv h' (elp 2 p j 0)=some (.str w.Item):=hp.ldv (f:=0) (c:=w.cs) (by rw [List.getElem?_map,hw];rfl) (by omega)
  simp -dsimp only [g1,g4,g7,f1,f2,f3,B.ze4,B.zd]
  refine s3 g _ w.Item h' _ (hg.mono le1) (by omega) lg1 ?_
  have nxt:Z [.int .i64 ((j+1:Nat):Int)] h':=hZ (m-1) _ _ (by omega) ⟨rfl,j+1,by omega,rfl⟩
  by_cases hk:0 <= zfk (ofT I) w.Item
  ·have e1:=zqz hrI (m:=w.Item) (List.mem_append_left _ (List.mem_map_of_mem (List.mem_of_getElem? hw))) hk
   have e2:V.bin .neq (.int .i64 (zfk (ofT I) w.Item)) (.int .i64 (zfk (ofT I) r.Code))=some (.bool false):=by rw [e1];simp -dsimp
   simp -dsimp only [V.zgb,decide_eq_true hk,B.gd_t,B.zce,e2,B.zev,B.cond_false,B.zd,add1 (show j<4611686018427387904 by omega)]
   exact nxt
  ·simp -dsimp only [V.zgb,decide_eq_false hk,B.gd_t,B.zdw,B.ze2,B.cond_false,B.zd,add1 (show j<4611686018427387904 by omega)]
   exact nxt
 refine zw.intro (fun t vs h'=>h'=hh /\ ∃ j:Nat,j+t=q /\ vs=[.bool ((I.take j).any fun u=>decide (u.Code=r.Code)),.int .i64 (j:Int)]) q ?_ ⟨rfl,0,by omega,rfl⟩
 rintro Z m vs h' ⟨e',j,hm,rfl⟩ hZ
 subst e'
 simp -dsimp only [zg.l9,zg.k8,lssN,B.zd]
 refine B.zr (fun hc2=> ?_) (fun hc2=> ?_)
 ·rw [decide_eq_true_eq] at hc2
  obtain ⟨u,hu⟩:=ze0 (L:=I) (k:=j) (by omega)
  obtain ⟨p2,o2,u1,_,u3,_,_,u6,_⟩:=zp5 hx1 hu
  have e:(I.take (j+1)).any (fun u=>decide (u.Code=r.Code))=((I.take j).any (fun u=>decide (u.Code=r.Code))||decide (u.Code=r.Code)):=by
   rw [take_succ hu,List.any_append];simp
  have nxt:Z [.bool ((I.take j).any (fun u=>decide (u.Code=r.Code))||decide (u.Code=r.Code)),.int .i64 ((j+1:Nat):Int)] h':=hZ (m-1) _ _ (by omega) ⟨rfl,j+1,by omega,by rw [e]⟩
  generalize (I.take j).any (fun u=>decide (u.Code=r.Code))=b at *
  cases b with
  | true=>
   simp -dsimp only [B.gd_f,Bool.not_true,B.zdw,B.zev,B.zd,add1 (show j<4611686018427387904 by omega)]
   exact nxt
  | false=>
   simp -dsimp only [B.gd_f,Bool.not_false,B.zce,g1,g3,g6,u1,u3,u6,B.ze4,eqlS,B.ze2,B.zd,add1 (show j<4611686018427387904 by omega)]
   exact nxt
 ·rw [decide_eq_false_iff_not] at hc2
  have hjj:j=q:=by omega
  subst hjj
  simp -dsimp only [zg.k7]
  cases hb2:(I.take j).any (fun u=>decide (u.Code=r.Code)) with
  | true=>
   rw [hb2,if_pos rfl,Nat.add_zero] at hstep
   rw [hstep] at parts
   simp -dsimp only [V.zf5,Bool.not_true,B.cond_false,B.zd]
   exact parts
  | false=>
   rw [hb2,if_neg (by simp)] at hstep
   rw [hstep] at parts
   simp -dsimp only [V.zf5,Bool.not_false,B.cond_true,B.zd,add1 (show (zby (I.take j)).length<4611686018427387904 by omega)]
   exact parts
def zg.Spec (C:CSem) (N:zN):Prop:= ∀ (x:AVal) (L:List Itm) (h:za) (Q:zQ),Dl zql h x L->L.length<4611686018427387904->(∀ t∈L,t.inLen)->Q (.bool true) h->C (N 557) [x] h Q
theorem zg.spec (i:zg.Imp C N) (s0:zd7.Spec C N) (s1:zc7.Spec C N) (s2:zdo.Spec C N) (s3:zcm.Spec C N) (s4:zcx.Spec C N) (s6:zdn.Spec C N) (s5:zq.Spec C N):zg.Spec C N:=by
 intro x I h Q hx hL hin hq
 apply i
 simp -dsimp only [zg.cps]
 refine s0 _ _ ?_
 simp -dsimp only [V.zf5,Bool.not_true,B.zd,B.cond_false,zg.k18]
 refine s1 x .nils I [] [] h _ hx hL hin (SlX.nils h 1) (by simp) (by simp) fun b hb=> ?_
 cases b with
 | true=>simp -dsimp only [B.cond_true];exact zbu hq
 | false=>
 obtain ⟨hB,_⟩:=hb rfl
 have hx:=hB.at hx
 have hI:=hB.n
 simp -dsimp only [B.cond_false]
 refine s2 x I h _ hx (by omega) fun g PG h1 eG oG=> ?_
 have tg:TxAt h1 g (ofT I):=by
  have:=rowsT_at oG fun b hb=>hb
  rwa [eG] at this
 have lg:=tg.zcw
 have lG:(ofT I).length <= I.length:=znv _
 have lg1: ∀ l∈ofT I,l.length<4611686018427387904:=fun l hl=>by have:=zlb hl;omega
 have hx1:=hx.mono oG.le
 have lf:=ofT_flat I
 have lc:=zi1 I
 have lft:=flat_take_le (ofT I)
 refine zw.intro (fun t vs hh=>h1.le hh /\ ∃ q:Nat,q+t=(ofT I).length /\ vs=[.int .i64 (((ofT I).take q).flatten.length:Int),.int .i64 (q:Int)]) (ofT I).length ?_ ⟨za.le_refl _,0,by omega,rfl⟩
 rintro Y t vs hh ⟨le1,q,ht,rfl⟩ hY
 simp -dsimp only [zg.l17,zg.k16,lg,lssN,B.zd]
 refine B.zr (fun hc=> ?_) (fun hc=> ?_)
 rotate_left
 ·rw [decide_eq_false_iff_not] at hc
  have hqq:q=(ofT I).length:=by omega
  subst hqq
  rw [List.take_length,lf]
  exact Parts_known s3 s5 (hx1.mono le1) hB (tg.mono le1) fun h' hle=>dn_le (za.le_trans oG.le (za.le_trans le1 hle)) hq
 rw [decide_eq_true_eq] at hc
 obtain ⟨l,hl⟩:=ze0 hc
 obtain ⟨v,R',f1,f2⟩:=tg.getA hl
 obtain ⟨f3,f4⟩:=f2 hh le1
 have lv:=f4.zcw
 rw [List.length_map] at lv
 have hll:=zlb (List.mem_of_getElem? hl)
 have hfs:=flat_step hl
 have hft:=lft (q+1)
 simp -dsimp only [zg.k15,f1,f3,lv,B.ze4,B.zd,zh3 (show ((ofT I).take q).flatten.length+l.length<4611686018427387904 by omega)]
 have hrise:zg1 l:=by
  obtain ⟨d,hd,rfl⟩:=zi8.1 (List.mem_of_getElem? hl)
  exact (zc9 hd).1
 have hne:0<l.length:=by
  obtain ⟨d,hd,rfl⟩:=zi8.1 (List.mem_of_getElem? hl)
  exact List.length_pos_of_mem (zf4 hd)
 refine zw.intro (fun t vs h'=>hh.le h' /\ ∃ j:Nat,j+t=l.length /\ vs=[.int .i64 (j:Int)]) l.length ?_ ⟨za.le_refl _,0,by omega,rfl⟩
 rintro Z m vs h' ⟨le2,j,hm,rfl⟩ hZ
 obtain ⟨f5,f6⟩:=f2 h' (za.le_trans le1 le2)
 simp -dsimp only [zg.l14,zg.k13,f1,f5,lv,lssN,B.ze4,B.zd]
 refine B.zr (fun hc2=> ?_) (fun hc2=> ?_)
 ·rw [decide_eq_true_eq] at hc2
  obtain ⟨c,hcj⟩:=ze0 hc2
  have hcl:=List.mem_of_getElem? hcj
  have e1:V.idxS 1 v (.int .i64 (j:Int))=some (elp 1 v j 0):=f6.idxN (by rw [List.length_map];exact hc2)
  have e2:A.ldv h' (elp 1 v j 0)=some (.str c):=f6.cell (by rw [List.getElem?_map,hcj];rfl)
  have hf:zei [(0,none,.str c)] (repL 1 [.str []])=some [.str c]:=rfl
  simp -dsimp only [f1,f5,e1,e2,B.ze4,B.zd]
  refine s3 g _ c h' _ (tg.mono (za.le_trans le1 le2)) (by omega) lg1 ?_
  rw [zpm hl hcl]
  have n1:V.bin .neq (.int .i64 (q:Int)) (.int .i64 (q:Int))=some (.bool false):=by simp -dsimp
  have rest: ∀ (K:zQ),(∀ w h3,h'.le h3->SlX h3 1 w (l.map tc) []->SlX h3 1 v (l.map tc) R'->K w h3)-> ∀ id,h' id=none->C (N 553) [x,.sl id 0 0 1 1 1] (upd h' id (zek [.str c])) (B.zol (upd h' id (zek [.str c])) [(elp 1 g q 0,none)] K):=fun K hK id hid=>by
   have le3:=zgm (zek [.str c]) hid
   have hs:SlX (upd h' id (zek [.str c])) 1 (.sl id 0 0 1 1 1) ([c].map tc) []:=SlX.lit (zca ..) (by simp [tc]) rfl (by simp) rfl
   refine s4 x _ I [c] [] _ _ (hx1.mono (za.le_trans le1 (za.le_trans le2 le3))) (by omega) hs (by simp) fun w h3 o3=> ?_
   have le4:=za.le_trans le2 (za.le_trans le3 o3.le)
   obtain ⟨f7,f8⟩:=f2 h3 (za.le_trans le1 le4)
   obtain ⟨f9,_⟩:=f2 _ (za.le_trans le1 (za.le_trans le2 le3))
   refine keepL f9 f7 ?_
   rw [withT_one hl hcl] at o3
   exact hK _ _ (za.le_trans le3 o3.le) (o3.slAt 0 rfl) f8
  have fin: ∀ h2,h'.le h2->Z [.int .i64 ((j+1:Nat):Int)] h2:=fun h2 hle=>hZ (m-1) _ _ (by omega) ⟨za.le_trans le2 hle,j+1,by omega,rfl⟩
  by_cases hj:0<j
  ·obtain ⟨j',rfl⟩: ∃ j',j=j'+1:=⟨j-1,by omega⟩
   obtain ⟨d,hdj⟩:=ze0 (L:=l) (k:=j') (by omega)
   have hj':decide ((0:Int)<((j'+1:Nat):Int))=true:=decide_eq_true (by omega)
   have e3:V.bin .sub (.int .i64 ((j'+1:Nat):Int)) (.int .i64 1)=some (.int .i64 (j':Int)):=by rw [sub1 (by omega) (by omega)];rfl
   have e4:V.idxS 1 v (.int .i64 (j':Int))=some (elp 1 v j' 0):=f6.idxN (by rw [List.length_map];omega)
   have e5:A.ldv h' (elp 1 v j' 0)=some (.str d):=f6.cell (by rw [List.getElem?_map,hdj];rfl)
   have hab:zfu d c=true:=by
    have:=List.pairwise_iff_getElem.1 hrise j' (j'+1) (by omega) hc2 (by omega)
    rwa [(List.getElem?_eq_some_iff.1 hdj).2,(List.getElem?_eq_some_iff.1 hcj).2] at this
   simp -dsimp only [n1,B.gd_f,B.gd_t,Bool.not_false,B.zce,V.zmq,hj',f1,f5,e1,e2,e3,e4,e5,geqS,hab,Bool.not_true,B.zev,B.ze2,B.ze4,B.zd,hf]
   intro id hid
   simp -dsimp only [B.gd_f,Bool.not_false,B.zce]
   refine rest _ (fun w h3 hle sw sv=> ?_) id hid
   simp -dsimp only [B.gd_f,Bool.not_false,B.zce]
   refine s6 w v l l [] R' h3 _ sw sv (by omega) ?_
   rw [decide_eq_true rfl]
   simp -dsimp only [V.zf5,Bool.not_true,Bool.not_false,n1,B.gd_f,B.zce,B.ze2,B.zd,B.cond_false,add1 (show j'+1<4611686018427387904 by omega)]
   exact fin h3 hle
  ·have hj0:j=0:=by omega
   subst hj0
   have hj':decide ((0:Int)<((0:Nat):Int))=false:=by decide
   simp -dsimp only [n1,B.gd_f,B.gd_t,Bool.not_false,B.zce,B.zdw,V.zmq,hj',f1,f5,e1,e2,B.zev,B.ze2,B.ze4,B.zd,hf]
   intro id hid
   simp -dsimp only [B.gd_f,Bool.not_false,B.zce]
   refine rest _ (fun w h3 hle sw sv=> ?_) id hid
   simp -dsimp only [B.gd_f,Bool.not_false,B.zce]
   refine s6 w v l l [] R' h3 _ sw sv (by omega) ?_
   rw [decide_eq_true rfl]
   simp -dsimp only [V.zf5,Bool.not_true,Bool.not_false,n1,B.gd_f,B.zce,B.ze2,B.zd,B.cond_false,add1 (show 0<4611686018427387904 by omega)]
   exact fin h3 hle
 ·have e1:V.idxS 1 v (.int .i64 0)=some (elp 1 v 0 0):=f6.idxN (i:=0) (by rw [List.length_map];omega)
  have n0:V.bin .eql (.int .i64 (l.length:Int)) (.int .i64 0)=some (.bool false):=by
   have: ¬ l=[]:=fun e=>by rw [e] at hne;cases hne
   simp -dsimp [this]
  have fin:Y [.int .i64 ((((ofT I).take q).flatten.length+l.length:Nat):Int),.int .i64 ((q+1:Nat):Int)] h':=hY (t-1) _ _ (by omega) ⟨za.le_trans le1 le2,q+1,by omega,by rw [hfs]⟩
  obtain ⟨c,hc0⟩:=ze0 (L:=l) (k:=0) hne
  have e2:A.ldv h' (elp 1 v 0 0)=some (.str c):=f6.cell (by rw [List.getElem?_map,hc0];rfl)
  by_cases hj:0<q
  ·obtain ⟨q',rfl⟩: ∃ q',q=q'+1:=⟨q-1,by omega⟩
   have hj':decide ((0:Int)<((q'+1:Nat):Int))=true:=decide_eq_true (by omega)
   obtain ⟨l2,hl2⟩:=ze0 (L:=ofT I) (k:=q') (by omega)
   obtain ⟨v2,R2,k1,k2⟩:=tg.getA hl2
   obtain ⟨k3,k4⟩:=k2 h' (za.le_trans le1 le2)
   have hh2:headLt l2 l:=by
    have:=List.pairwise_iff_getElem.1 (zm0 I) q' (q'+1) (by omega) hc (by omega)
    rwa [(List.getElem?_eq_some_iff.1 hl2).2,(List.getElem?_eq_some_iff.1 hl).2] at this
   obtain ⟨a,b,ha,hb,hab⟩:=hh2
   have hbc:b=c:=by
    rw [List.head?_eq_getElem?,hc0] at hb
    exact (Option.some.inj hb).symm
   subst hbc
   have ha0:l2[0]? =some a:=by rw [<- List.head?_eq_getElem?];exact ha
   have k5:V.idxS 1 v2 (.int .i64 0)=some (elp 1 v2 0 0):=k4.idxN (i:=0) (by rw [List.length_map];exact (List.getElem?_eq_some_iff.1 ha0).1)
   have k6:A.ldv h' (elp 1 v2 0 0)=some (.str a):=k4.cell (by rw [List.getElem?_map,ha0];rfl)
   have e3:V.bin .sub (.int .i64 ((q'+1:Nat):Int)) (.int .i64 1)=some (.int .i64 (q':Int)):=by rw [sub1 (by omega) (by omega)];rfl
   simp -dsimp only [zg.k12,f1,f5,lv,n0,B.gd_f,B.gd_t,Bool.not_false,B.zce,V.zmq,hj',e1,e2,e3,k1,k3,k5,k6,geqS,hab,Bool.not_true,B.zev,B.ze2,B.ze4,B.zd,B.cond_false,add1 (show q'+1<4611686018427387904 by omega)]
   exact fin
  ·have hj0:q=0:=by omega
   subst hj0
   have hj':decide ((0:Int)<((0:Nat):Int))=false:=by decide
   simp -dsimp only [zg.k12,f1,f5,lv,n0,B.gd_f,B.gd_t,Bool.not_false,B.zce,B.zdw,V.zmq,hj',B.zev,B.ze2,B.ze4,B.zd,B.cond_false,add1 (show 0<4611686018427387904 by omega)]
   exact fin
end Go.Ab
