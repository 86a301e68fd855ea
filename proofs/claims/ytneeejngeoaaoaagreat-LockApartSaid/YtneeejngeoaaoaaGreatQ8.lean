/- What is proved: a part of the way to the statement: SrtO. No conditions. -/
import Derived.Test.YtneeejngeoaaoaaGreatQ7
import Derived.KernelRfl
import Derived.Test.YtneeejngeoaaoaaGreatQ6
import Derived.Test.YtneeejngeoaaoaaGreatQ2
import Derived.Lib.Bytealg
set_option linter.unusedVariables false
set_option linter.unusedSimpArgs false
set_option maxRecDepth 100000
namespace Go.Ab.Ord
open List
open Go.Ab
structure zfd(C:z6){X:Type}(v:X->za)(c:X->X->Int)(fL:Nat)(h0:zb):Prop where
 call:∀(h:zb)(a b:X)(K:zQ),h0.le h->K (.bool (decide (c a b<0))) h->B.call C fL [v a,v b] h K
variable{C C0:z6}{fL:Nat}
variable{C C0:z6}{fL:Nat}{N:zN}
section
variable{E:zbj}{X:Type}{cs:X->List za}{v:X->za}{h0 h:zb}{x:za}{G:List X}{R:List (List za)}
end
section
variable{E:zbj}{T:Type}{cs:T->List za}{v:T->za}{c:T->T->Int}{h0 h:zb}{x f:za}{R:List (List za)}{Q:zQ}
theorem zqb(S:zem E cs v)(W:zpp (zfh c)){P M U:List (T×Nat)}(hlen:(P++(M++U)).length <= 100000000)(ht:M.Pairwise λa b=>a.2<b.2)
  (hc:zfd C0 v c fL h0) {a b:Nat} (ha:a=P.length) (hb:b=P.length+M.length) (ho:Rw E (λp:T×Nat=>cs p.1) h0 h x (P++(M++U)) R)
  (hq:∀h' M',M'.Perm M->M'.Pairwise (lt' (zfh c))->Rw E (λp:T×Nat=>cs p.1) h0 h' x (P++(M'++U)) R->Q (.tup []) h'):
  zc4.cps C E C0 fL x (.int .i64 (a:Int)) (.int .i64 (b:Int)) f h Q:=by
 have S':=S.comp (λp:T×Nat=>p.1);subst ha;have hlen':P.length+M.length+U.length <= 100000000:=by simpa[Nat.add_assoc]using hlen
 simp -dsimp only[zc4.cps,zh3 (show P.length<4611686018427387904 by omega),B.ze];cases M with
 | nil=>
  intro Y hY;refine hY _ _ ?_;simp -dsimp only[zc4.l3,zr3,B.ze];rw[show decide (P.length+1<b)=false by simp at hb ⊢;omega,B.cond_false];exact hq h [] (List.Perm.refl _) .nil ho
 | cons m M1=>
 simp only[length_cons]at hlen' hb;rw[pairwise_cons]at ht;refine zq.intro (λt vs hh=>∃(i:Nat)(L M2:List (T×Nat)),t=M2.length /\ vs=[.int .i64 i] /\ i=P.length+L.length /\ i+M2.length=b /\ Rw E (λp:T×Nat=>cs p.1) h0 hh x (P++(L++(M2++U))) R /\
  (L++M2).Perm (m::M1) /\ L.Pairwise (lt' (zfh c)) /\ M2.Pairwise (λa b=>a.2<b.2) /\ ∀p∈L,∀q∈M2,p.2<q.2) M1.length ?_
  ⟨P.length+1,[m],M1,rfl,rfl,by simp,by omega,by simpa using ho,List.Perm.refl _,pairwise_singleton ..,ht.2,by simpa using ht.1⟩
 rintro Y t vs hh ⟨i,L,M2,rfl,rfl,hi,hib,o,hp,hs,ht2,htt⟩ hY;simp -dsimp only[zc4.l3,zr3,B.ze];cases M2 with
 | nil=>
  rw[show decide (i<b)=false by simp at hib ⊢;omega,B.cond_false];rw[append_nil]at hp;exact hq hh L hp hs o
 | cons x0 M2=>
  simp only[length_cons]at hib;rw[show decide (i<b)=true by simp;omega,B.cond_true];rw[pairwise_cons]at ht2;have hll:P.length+(L.length+(M2.length+1))=b:=by omega
  refine zq.intro (λt vs h2=>∃(L1 L2:List (T×Nat)),t=L1.length /\ vs=[.int .i64 ((P.length+L1.length:Nat):Int)] /\ L=L1++L2 /\ Rw E (λp:T×Nat=>cs p.1) h0 h2 x (P++(L1++x0::(L2++(M2++U)))) R /\
   ∀q∈L2,lt' (zfh c) x0 q) L.length ?_ ⟨L,[],rfl,by rw[hi],by simp,by simpa using o,by simp⟩
  rintro Z t vs h2 ⟨L1,L2,rfl,rfl,rfl,o2,hx⟩ hZ;rw[pairwise_append]at hs;have fin:(L1=[] \/ ∃L0 y,L1=L0++[y] /\ lt' (zfh c) y x0)->Y [.int .i64 ((i+1:Nat):Int)] h2:=λhz=>by
   have hlow:∀p∈L1,lt' (zfh c) p x0:=by
    rcases hz with rfl|⟨L0,y,rfl,hy⟩
    ·simp
    ·intro p hpm
     rcases mem_append.1 hpm with h1|h1
     ·exact lt'_trans W ((pairwise_append.1 hs.1).2.2 p h1 y (by simp)) hy
     ·rw[mem_singleton.1 h1];exact hy
   refine hY M2.length _ _ (by simp) ⟨i+1,L1++x0::L2,M2,rfl,rfl,by simp at hi ⊢;omega,by omega,by simpa using o2,?_,?_,ht2.2,?_⟩
   ·refine List.Perm.trans ?_ hp
    simp only[append_assoc,cons_append];refine List.Perm.append_left _ ?_;exact(perm_middle (l₁:=L2) (l₂:=M2) (a:=x0)).symm
   ·rw[pairwise_append,pairwise_cons]
    refine⟨hs.1,⟨hx,hs.2.1⟩,λp h1 q h2=>?_⟩;rcases mem_cons.1 h2 with rfl|h2
    ·exact hlow p h1
    ·exact hs.2.2 p h1 q h2
   ·intro p h1 q h2
    rcases mem_append.1 h1 with h1|h1
    ·exact htt p (mem_append_left _ h1) q (mem_cons_of_mem _ h2)
    ·rcases mem_cons.1 h1 with rfl|h1
     ·exact ht2.1 q h2
     ·exact htt p (mem_append_right _ h1) q (mem_cons_of_mem _ h2)
  have hll2:i=P.length+(L1.length+L2.length):=by simpa using hi
  simp -dsimp only[zc4.l2,zc4.k1,gtrN,B.ze];obtain rfl|⟨L0,y,rfl⟩:=nil_or_snoc L1
  ·simp -dsimp[zh3 (show i<4611686018427387904 by omega)]
   exact fin (.inl rfl)
  ·have hyx:y.2<x0.2:=htt y (by simp) x0 (by simp)
   have o2':=o2;simp only[append_assoc,cons_append,nil_append]at o2';simp only[length_append,length_singleton]at hll2 hlen' hll;have hj:P.length+(L0++[y]).length=P.length+L0.length+1:=by simp[Nat.add_assoc]
   rw[show decide (P.length<P.length+(L0++[y]).length)=true by simp];rw[hj];simp -dsimp only[B.zgx,B.gdb_pure,B.zbg,zq5,sub1 (show 1 <= P.length+L0.length+1 by omega) (by omega),Nat.add_sub_cancel,o2.idx (i:=P.length+L0.length+1) (by simp;omega),o2.idx (i:=P.length+L0.length) (by simp),B.ze];have o3:Rw E (λp:T×Nat=>cs p.1) h0 h2 x ((P++L0)++y::([]++x0::(L2++(M2++U)))) R:=by simpa using o2
   have gy:((P++L0)++y::([]++x0::(L2++(M2++U))))[P.length+L0.length]?=some y:=get_mid (by simp);have gx:((P++L0)++y::([]++x0::(L2++(M2++U))))[P.length+L0.length+1]?=some x0:=get_mid2 (by simp);refine o3.ld S' gx ?_;refine o3.ld S' gy ?_;refine hc.call _ _ _ _ o2.le ?_;simp -dsimp only[B.zgx,B.gdb_pure,B.zbg,zq5,V.zfi,B.ze,B.ze8];refine B.zbc (λhb2=>?_) (λhb2=>?_)
   ·simp -dsimp only[sub1 (show 1 <= P.length+L0.length+1 by omega) (by omega),Nat.add_sub_cancel,o2.idx (i:=P.length+L0.length+1) (by simp;omega),o2.idx (i:=P.length+L0.length) (by simp),B.ze]
    refine o3.ld S' gy ?_;refine o3.ld S' gx ?_;refine o3.swapDn S' (by simp) (by simp) λh4 o4=>?_;refine hZ L0.length _ _ (by simp) ⟨L0,y::L2,rfl,rfl,by simp,by simpa using o4,?_⟩;intro q hq2;rcases mem_cons.1 hq2 with rfl|hq2
    ·exact(lt'_gt hyx).2 hb2
    ·exact hx q hq2
   ·simp -dsimp only[zh3 (show i<4611686018427387904 by omega),B.ze]
    exact fin (.inr ⟨L0,y,rfl,(lt'_le W hyx).2 hb2⟩)
end
section
variable{E:zbj}{X:Type}{cs:X->List za}{v:X->za}{h0 h:zb}{x f:za}{G:List X}{R:List (List za)}{c:X->X->Int}
theorem zpg(S:zem E cs v)(hx:SlX h0 E.es x (G.map cs) R)(hc:zfd C0 v c fL h0){p:za}{n:Int}(ho:zcy h0 h [.box p [.int .i64 n]]){i j:Nat}(hi:i<G.length)(hj:j<G.length){Q:zQ}
  (hq:∀(i' j':Nat) (n':Int) h',(i'=i \/ i'=j)->(j'=i \/ j'=j)->zcy h0 h' [.box p [.int .i64 n']]->Q (.tup [.int .i64 (i':Int),.int .i64 (j':Int)]) h'):zgt.cps C E C0 fL x (.int .i64 (i:Int)) (.int .i64 (j:Int)) p f h Q:=by
 have hxx:=hx.mono ho.le;have ii:V.zcp E.es x (.int .i64 (i:Int))=some (elp E.es x i 0):=hxx.zmd (by simpa using hi);have ij:V.zcp E.es x (.int .i64 (j:Int))=some (elp E.es x j 0):=hxx.zmd (by simpa using hj);have gi:(G.map cs)[i]?=some (cs G[i]):=by rw[getElem?_map,getElem?_eq_getElem hi];rfl
 have gj:(G.map cs)[j]?=some (cs G[j]):=by rw[getElem?_map,getElem?_eq_getElem hj];rfl
 obtain⟨id,rfl,hb⟩:=ho.zr8 0 rfl;have ld:A.ldv h (.ptr id 0 0)=some (.int .i64 n):=by rw[ldv_at hb];rfl
 simp -dsimp only[zgt.cps,zgt.k1,ij,B.ze];refine S.ld hxx gj ?_;simp -dsimp only[ii,B.ze];refine S.ld hxx gi ?_;refine hc.call _ _ _ _ ho.le ?_;refine B.zbc (λhd=>?_) (λhd=>?_)
 ·simp -dsimp only[B.zb9,B.zeo,ld,V.zh8,B.ze]
  refine ho.zuf 0 (off:=0) rfl rfl (by simp) λh2 o2 _=>?_;exact hq j i _ h2 (.inr rfl) (.inl rfl) (by simpa using o2)
 ·exact hq i j n h (.inl rfl) (.inr rfl) ho
abbrev O2I(C:z6)(E:zbj)(C0:z6)(fL:Nat)(f1:Nat):Prop:=∀(v0 v1 v2 v3 v4:za)(h:zb)(Q:zQ),zgt.cps C E C0 fL v0 v1 v2 v3 v4 h (dn Q)->C f1 [v0,v1,v2,v3,v4] h Q
abbrev MedI(C:z6)(E:zbj)(C0:z6)(fL:Nat)(f1 f2:Nat):Prop:=∀(v0 v1 v2 v3 v4 v5:za)(h:zb)(Q:zQ),zgu.cps C E C0 fL f1 v0 v1 v2 v3 v4 v5 h (dn Q)->C f2 [v0,v1,v2,v3,v4,v5] h Q
abbrev AdjI(C:z6)(E:zbj)(C0:z6)(fL:Nat)(f2 f3:Nat):Prop:=∀(v0 v1 v2 v3:za)(h:zb)(Q:zQ),zep.cps C E C0 fL f2 v0 v1 v2 v3 h (dn Q)->C f3 [v0,v1,v2,v3] h Q
theorem zpj{f1:Nat}(io:O2I C E C0 fL f1)(S:zem E cs v)(hx:SlX h0 E.es x (G.map cs) R)(hc:zfd C0 v c fL h0){p:za}{n:Int}(ho:zcy h0 h [.box p [.int .i64 n]]){i j k:Nat}(hi:i<G.length)(hj:j<G.length)(hk:k<G.length){Q:zQ}
  (hq:∀(m:Nat) (n':Int) h',(m=i \/ m=j \/ m=k)->zcy h0 h' [.box p [.int .i64 n']]->Q (.int .i64 (m:Int)) h'):zgu.cps C E C0 fL f1 x (.int .i64 (i:Int)) (.int .i64 (j:Int)) (.int .i64 (k:Int)) p f h Q:=by
 simp -dsimp only[zgu.cps,zgu.k1];refine io _ _ _ _ _ _ _ (zpg S hx hc ho hi hj λa b n1 h1 ha hb o1=>zbf ?_);simp -dsimp only[V.zir,getElem?_cons_zero,getElem?_cons_succ,B.ze];have la:a<G.length:=by rcases ha with rfl|rfl<;>assumption
 have lb:b<G.length:=by rcases hb with rfl|rfl<;>assumption
 refine io _ _ _ _ _ _ _ (zpg S hx hc o1 lb hk λa2 b2 n2 h2 ha2 hb2 o2=>zbf ?_);simp -dsimp only[V.zir,getElem?_cons_zero,getElem?_cons_succ,B.ze];have la2:a2<G.length:=by rcases ha2 with rfl|rfl<;>assumption
 refine io _ _ _ _ _ _ _ (zpg S hx hc o2 la la2 λa3 b3 n3 h3 ha3 hb3 o3=>zbf ?_);simp -dsimp only[V.zir,getElem?_cons_zero,getElem?_cons_succ,B.ze];refine hq b3 n3 h3 ?_ o3;omega
theorem zin{f1 f2:Nat}(io:O2I C E C0 fL f1)(im:MedI C E C0 fL f1 f2)(S:zem E cs v)(hx:SlX h0 E.es x (G.map cs) R)(hc:zfd C0 v c fL h0){p:za}{n:Int}(ho:zcy h0 h [.box p [.int .i64 n]]){i:Nat}(hi:0<i)(hi2:i+1<G.length)(hl:G.length<4611686018427387904){Q:zQ}
  (hq:∀(m:Nat) (n':Int) h',i-1 <= m->m <= i+1->zcy h0 h' [.box p [.int .i64 n']]->Q (.int .i64 (m:Int)) h'):zep.cps C E C0 fL f2 x (.int .i64 (i:Int)) p f h Q:=by
 have e1:V.bin .sub (.int .i64 (i:Int)) (.int .i64 1)=some (.int .i64 ((i-1:Nat):Int)):=by
  rw[V.zld,wrap_i64 (by omega) (by omega)];congr 2;omega
 simp -dsimp only[zep.cps,zep.k1,e1,zh3 (show i<4611686018427387904 by omega),B.ze];exact im _ _ _ _ _ _ _ _ (zpj io S hx hc ho (by omega) (by omega) hi2 λm n' h' hm o'=>zbf (hq m n' h' (by omega) (by omega) o'))
theorem zqr(S:zem E cs v)(hl:G.length<4611686018427387904)(ho:Rw E cs h0 h x G R){a b:Nat}(hab:a<b)(hb:b <= G.length){Q:zQ}(hq:∀h' G',zds a b G G'->Rw E cs h0 h' x G' R->Q (.tup []) h'):
  zea.cps C E C0 fL x (.int .i64 (a:Int)) (.int .i64 (b:Int)) f h Q:=by
 have e1:V.bin .sub (.int .i64 (b:Int)) (.int .i64 1)=some (.int .i64 ((b-1:Nat):Int)):=by
  rw[V.zld,wrap_i64 (by omega) (by omega)];congr 2;omega
 simp -dsimp only[zea.cps,e1,B.ze];refine zq.intro (λt vs hh=>∃(i j:Nat)(G':List X),t=j /\ vs=[.int .i64 (i:Int),.int .i64 (j:Int)] /\ a <= i /\ j<b /\ zds a b G G' /\ Rw E cs h0 hh x G' R) (b-1) ?_ ⟨a,b-1,G,rfl,rfl,Nat.le_refl _,by omega,zds.refl _ _ _,ho⟩;rintro Y j vs hh ⟨i,_,G',rfl,rfl,hi,hj,W,o⟩ hY;simp -dsimp only[zea.l2,zea.k1,zr3,B.ze];have hlen:=W.len;refine B.zbc (λhc=>?_) (λhc=>hq hh G' W o);rw[decide_eq_true_eq]at hc;have li:i<G'.length:=by omega
 have lj:j<G'.length:=by omega
 simp -dsimp only[o.idx lj,B.ze];refine o.ld S (getElem?_eq_getElem lj) ?_;simp -dsimp only[o.idx li,B.ze];refine o.ld S (getElem?_eq_getElem li) ?_;have ij:=o.idx lj;refine o.st S (t:=G'[j]) li λh1 o1=>?_;simp -dsimp only[ij,B.ze];refine o1.st S (t:=G'[i]) (by simpa using lj) λh2 o2=>?_;have e2:V.bin .sub (.int .i64 (j:Int)) (.int .i64 1)=some (.int .i64 ((j-1:Nat):Int)):=by
  rw[V.zld,wrap_i64 (by omega) (by omega)];congr 2;omega
 simp -dsimp only[zh3 (show i<4611686018427387904 by omega),e2,B.ze];exact hY (j-1) _ _ (by omega) ⟨i+1,j-1,_,rfl,rfl,by omega,by omega,W.trans (zf1 li lj hi (by omega) (by omega) hj),o2⟩
theorem zr7{f1 f2 f3:Nat}(io:O2I C E C0 fL f1)(im:MedI C E C0 fL f1 f2)(ia:AdjI C E C0 fL f2 f3)(S:zem E cs v)(hx:SlX h E.es x (G.map cs) R)(h0le:h0.le h)(hc:zfd C0 v c fL h0)(hl:G.length <= 100000000){a b:Nat}(hab:a+8 <= b)(hb:b <= G.length){Q:zQ}
  (hq:∀(m:Nat) (hint:Int) h',a <= m->m<b->h.le h'->Q (.tup [.int .i64 (m:Int),.int .i64 hint]) h'):zbi.cps C E C0 fL f2 f3 x (.int .i64 (a:Int)) (.int .i64 (b:Int)) f h Q:=by
 have e1:=zlg (a:=b) (b:=a) (by omega) (by omega);simp -dsimp only[zbi.cps,e1,B.ze];intro id hid;have o:=(zcy.start h).zor hid [.int .i64 0];simp only[nil_append]at o;have q4:=quo4 (a:=b-a) (by omega);have m1:=mulN (a:=(b-a) / 4) (b:=1) (by omega);have m2:=mulN (a:=(b-a) / 4) (b:=2) (by omega);have m3:=mulN (a:=(b-a) / 4) (b:=3) (by omega);have a1:=zr9 (a:=a) (b:=(b-a) / 4*1) (by omega);have a2:=zr9 (a:=a) (b:=(b-a) / 4*2) (by omega);have a3:=zr9 (a:=a) (b:=(b-a) / 4*3) (by omega);have g8:V.bin .geq (.int .i64 ((b-a:Nat):Int)) (.int .i64 8)=some (.bool true):=by rw[V.zpo,decide_eq_true (by omega)]
 have hc':zfd C0 v c fL h:=⟨λh2 s t K hle hk=>hc.call h2 s t K (zb.le_trans h0le hle) hk⟩;simp -dsimp only[zbi.k6,zbi.k5,zbi.k4,zbi.k3,q4,B.ze];have m1':V.bin .mul (.int .i64 (((b-a) / 4:Nat):Int)) (.int .i64 1)=some (.int .i64 (((b-a) / 4*1:Nat):Int)):=m1;have m2':V.bin .mul (.int .i64 (((b-a) / 4:Nat):Int)) (.int .i64 2)=some (.int .i64 (((b-a) / 4*2:Nat):Int)):=m2;have m3':V.bin .mul (.int .i64 (((b-a) / 4:Nat):Int)) (.int .i64 3)=some (.int .i64 (((b-a) / 4*3:Nat):Int)):=m3;simp -dsimp only[q4,m1',m2',m3',a1,a2,a3,g8,B.cond_true,zbi.k5,zbi.k4,zbi.k3,zbi.k2,B.ze];have fin:∀(m:Nat) (n':Int) h',a <= m->m<b->zcy h h' [.box (.ptr id 0 0) [.int .i64 n']]->zbi.k1 C E C0 fL f2 f3 Q (.ptr id 0 0) (.int .i64 (m:Int)) h':=λm n' h' k1 k2 o'=>by
  obtain⟨id',e,hb'⟩:=o'.zr8 0 rfl;cases e;have ld:A.ldv h' (.ptr id 0 0)=some (.int .i64 n'):=by rw[ldv_at hb'];rfl
  simp -dsimp only[zbi.k1,B.zeo,ld,V.zhr,B.ze];refine B.zbc (λ_=>hq m _ h' k1 k2 o'.le) (λ_=>?_);refine B.zbc (λ_=>hq m _ h' k1 k2 o'.le) (λ_=>hq m _ h' k1 k2 o'.le)
 have g50:V.bin .geq (.int .i64 ((b-a:Nat):Int)) (.int .i64 50)=some (.bool (decide (50 <= b-a))):=geqN (b:=50);simp -dsimp only[g50,B.ze];refine B.zbc (λhd=>?_) (λhd=>?_)
 ·rw[decide_eq_true_eq]at hd
  refine ia _ _ _ _ _ _ (zin io im S hx hc' o (by omega) (by omega) (by omega) λi n1 h1 i1 i2 o1=>zbf ?_);refine ia _ _ _ _ _ _ (zin io im S hx hc' o1 (by omega) (by omega) (by omega) λj n2 h2 j1 j2 o2=>zbf ?_);refine ia _ _ _ _ _ _ (zin io im S hx hc' o2 (by omega) (by omega) (by omega) λk n3 h3 k1 k2 o3=>zbf ?_);refine im _ _ _ _ _ _ _ _ (zpj io S hx hc' o3 (by omega) (by omega) (by omega) λm n4 h4 hm o4=>zbf ?_);exact fin m n4 h4 (by omega) (by omega) o4
 ·refine im _ _ _ _ _ _ _ _ (zpj io S hx hc' o (by omega) (by omega) (by omega) λm n4 h4 hm o4=>zbf ?_)
  exact fin m n4 h4 (by omega) (by omega) o4
end
section
variable{E:zbj}{X:Type}{cs:X->List za}{v:X->za}{h0 h:zb}{x f:za}{G:List X}{R:List (List za)}{c:X->X->Int}{Q:zQ}{Y1:zL}{a b i j:Nat}
theorem part_j(S:zem E cs v)(hc:zfd C0 v c fL h0)(ho:Rw E cs h0 h x G R)(hl:G.length<4611686018427387904)(hab:a<b)(p:zug c a b G i j)(hi0:j<i \/ ∀(h1:i<G.length)(h2:a<G.length),¬ c G[i] G[a]<0)
  (done:∀h' j',zug c a b G i j'->j'<i->Rw E cs h0 h' x G R->zm.k1 C E C0 fL Q x (.int .i64 (a:Int)) (.int .i64 (j':Int)) h')
  (next:∀h' j' (hi:i<G.length) (hj:j'<G.length) ,zug c a b (swp G i j' hi hj) (i+1) (j'-1)->i<j'->j'<b->Rw E cs h0 h' x (swp G i j' hi hj) R->Y1 [.int .i64 ((i+1:Nat):Int),.int .i64 ((j'-1:Nat):Int)] h'):
  zq (zm.l4 C E C0 fL Q Y1 x (.int .i64 (a:Int)) f (.int .i64 (i:Int))) [.int .i64 (j:Int)] h:=by
 refine zq.intro (λt vs hh=>hh=h /\ ∃j':Nat,t=j' /\ vs=[.int .i64 (j':Int)] /\ zug c a b G i j' /\ (j'<i \/ ∀(h1:i<G.length)(h2:a<G.length),¬ c G[i] G[a]<0)) j ?_ ⟨rfl,j,rfl,rfl,p,hi0⟩;rintro Y j' vs hh ⟨rfl,_,rfl,rfl,p,hi0⟩ hY;have k1:=p.hi;have k2:=p.hij;have k3:=p.hj;have k4:=p.hb;have la:a<G.length:=by omega
 have lj:j'<G.length:=by omega
 simp -dsimp only[zm.l4,zm.k3,leqN,B.ze];by_cases hle:i <= j'
 ·have li:i<G.length:=by omega
  simp -dsimp only[hle,decide_true,B.zgx,B.zbg,ho.idx lj,ho.idx la,B.ze];refine ho.ld S (getElem?_eq_getElem lj) ?_;refine ho.ld S (getElem?_eq_getElem la) ?_;refine hc.call _ _ _ _ ho.le ?_;simp -dsimp only[hle,decide_true,B.zgx,B.zbg,V.zfi,V.zgj,B.ze8,B.ze];refine B.zbc (λhd=>?_) (λhd=>?_)
  ·have hd':¬ c G[j'] G[a]<0:=by simpa using hd
   have e1:=zlg (a:=j') (b:=1) (by omega) (by omega);have e1':V.bin .sub (.int .i64 (j':Int)) (.int .i64 1)=some (.int .i64 ((j'-1:Nat):Int)):=e1;simp -dsimp only[e1',B.ze];refine hY (j'-1) _ _ (by omega) ⟨rfl,j'-1,rfl,rfl,⟨k4,k1,by omega,by omega,p.lo,λk hk ha q1 q2=>?_⟩,?_⟩
   ·by_cases e:k=j'
    ·subst e;exact hd'
    ·exact p.hi2 k hk ha (by omega) q2
   ·rcases hi0 with h|h
    ·omega
    ·exact .inr h
  ·have hd':c G[j'] G[a]<0:=by simpa using hd
   have hni:¬ c G[i] G[a]<0:=by
    rcases hi0 with h|h
    ·omega
    ·exact h li la
   simp -dsimp only[zm.k2,gtrN,show ¬ j'<i by omega,decide_false,B.cond_false,ho.idx lj,ho.idx li,B.ze];refine ho.ld S (getElem?_eq_getElem lj) ?_;refine ho.ld S (getElem?_eq_getElem li) ?_;refine ho.st S (t:=G[j']) li λh1 o1=>?_;refine o1.st S (t:=G[i]) (by simpa using lj) λh2 o2=>?_;have e1':V.bin .sub (.int .i64 (j':Int)) (.int .i64 1)=some (.int .i64 ((j'-1:Nat):Int)):=zlg (a:=j') (b:=1) (by omega) (by omega);simp -dsimp only[zh3 (show i<4611686018427387904 by omega),e1',B.ze];have hne:i≠j':=λe=>by subst e;exact hni hd'
   exact next h2 j' li lj (p.swap hle li lj la hni hd') (by omega) k3 o2
 ·simp -dsimp only[hle,decide_false,B.zgx,B.zgl,B.zhc,B.cond_false,zm.k2,gtrN,show j'<i by omega,decide_true,B.cond_true,B.ze]
  exact done hh j' p (by omega) ho
theorem part_i(S:zem E cs v)(hc:zfd C0 v c fL h0)(ho:Rw E cs h0 h x G R)(hl:G.length<4611686018427387904)(hab:a<b)(p:zug c a b G i j)
  (done:∀h' i' j',zug c a b G i' j'->j'<i'->Rw E cs h0 h' x G R->zm.k1 C E C0 fL Q x (.int .i64 (a:Int)) (.int .i64 (j':Int)) h')
  (next:∀h' i' j' (hi:i'<G.length) (hj:j'<G.length),zug c a b (swp G i' j' hi hj) (i'+1) (j'-1)->a<i'->i <= i'->i'<j'->j'<b->Rw E cs h0 h' x (swp G i' j' hi hj) R->Y1 [.int .i64 ((i'+1:Nat):Int),.int .i64 ((j'-1:Nat):Int)] h'):
  zq (zm.l6 C E C0 fL Q Y1 x (.int .i64 (a:Int)) f (.int .i64 (j:Int))) [.int .i64 (i:Int)] h:=by
 refine zq.intro (λt vs hh=>hh=h /\ ∃i':Nat,i'+t=b /\ i <= i' /\ vs=[.int .i64 (i':Int)] /\ zug c a b G i' j) (b-i) ?_ ⟨rfl,i,by have:=p.hij;have:=p.hj;omega,Nat.le_refl _,rfl,p⟩;rintro Y t vs hh ⟨rfl,i',hit,hii,rfl,p⟩ hY;have k1:=p.hi;have k2:=p.hij;have k3:=p.hj;have k4:=p.hb;have la:a<G.length:=by omega
 simp -dsimp only[zm.l6,zm.k5,leqN,B.ze];by_cases hle:i' <= j
 ·have li:i'<G.length:=by omega
  simp -dsimp only[hle,decide_true,B.zgx,B.zbg,ho.idx li,ho.idx la,B.ze];refine ho.ld S (getElem?_eq_getElem li) ?_;refine ho.ld S (getElem?_eq_getElem la) ?_;refine hc.call _ _ _ _ ho.le ?_;simp -dsimp only[hle,decide_true,B.zgx,B.zbg,V.zfi,B.ze8,B.ze];refine B.zbc (λhd=>?_) (λhd=>?_)
  ·have hd':c G[i'] G[a]<0:=by simpa using hd
   simp -dsimp only[zh3 (show i'<4611686018427387904 by omega),B.ze];refine hY (b-(i'+1)) _ _ (by omega) ⟨rfl,i'+1,by omega,by omega,rfl,⟨k4,by omega,k3,by omega,λk hk ha q1 q2=>?_,p.hi2⟩⟩;by_cases e:k=i'
   ·subst e;exact hd'
   ·exact p.lo k hk ha q1 (by omega)
  ·have hd':¬ c G[i'] G[a]<0:=by simpa using hd
   exact part_j S hc ho hl hab p (.inr λ_ _=>hd') (λh' j' p' hlt o'=>done h' i' j' p' hlt o') λh' j' hi hj p' h1 h2 o'=>next h' i' j' hi hj p' k1 hii h1 h2 o'
 ·simp -dsimp only[hle,decide_false,B.zgx,B.zgl,B.zhc,B.cond_false]
  exact part_j S hc ho hl hab p (.inl (by omega)) (λh' j' p' hlt o'=>done h' i' j' p' hlt o') λh' j' hi hj p' h1 h2 o'=>next h' i' j' hi hj p' k1 hii h1 h2 o'
theorem part_end(S:zem E cs v)(ho:Rw E cs h0 h x G R)(hab:a<b)(p:zug c a b G i j)(hlt:j<i)(hq:∀h' m G',zk7 c a b m G'->zds a b G G'->Rw E cs h0 h' x G' R->Q (.tup [.int .i64 (m:Int),.bool false]) h'):
  zm.k1 C E C0 fL Q x (.int .i64 (a:Int)) (.int .i64 (j:Int)) h:=by
 have k1:=p.hi;have k2:=p.hij;have k3:=p.hj;have k4:=p.hb;have la:a<G.length:=by omega
 have lj:j<G.length:=by omega
 simp -dsimp only[zm.k1,ho.idx lj,ho.idx la,B.ze];refine ho.ld S (getElem?_eq_getElem la) ?_;refine ho.ld S (getElem?_eq_getElem lj) ?_;refine ho.st S (t:=G[a]) lj λh1 o1=>?_;refine o1.st S (t:=G[j]) (by simpa using la) λh2 o2=>?_;exact hq h2 j _ (p.done hab hlt lj la) (zf1 lj la (by omega) k3 (Nat.le_refl _) hab) o2
theorem part_main(S:zem E cs v)(hc:zfd C0 v c fL h0)(ho:Rw E cs h0 h x G R)(hl:G.length<4611686018427387904)(hab:a<b)(p:zug c a b G i j)
  (hq:∀h' m G',zk7 c a b m G'->zds a b G G'->Rw E cs h0 h' x G' R->Q (.tup [.int .i64 (m:Int),.bool false]) h'):
  zq (zm.l7 C E C0 fL Q x (.int .i64 (a:Int)) f) [.int .i64 (i:Int),.int .i64 (j:Int)] h:=by
 refine zq.intro (λt vs hh=>∃(i' j':Nat)(G':List X),i'+t=b /\ vs=[.int .i64 (i':Int),.int .i64 (j':Int)] /\ zds a b G G' /\ zug c a b G' i' j' /\ Rw E cs h0 hh x G' R) (b-i) ?_ ⟨i,j,G,by have:=p.hij;have:=p.hj;omega,rfl,zds.refl _ _ _,p,ho⟩;rintro Y t vs hh ⟨i',j',G',hit,rfl,W,p,o⟩ hY;have hlen:=W.len;simp -dsimp only[zm.l7];refine part_i S hc o (by omega) hab p (λh' i2 j2 p2 hlt o2=>part_end S o2 hab p2 hlt λh3 m G3 P3 W3 o3=>hq h3 m G3 P3 (W.trans W3) o3) λh' i2 j2 hi hj p2 h1 h2 h3 h4 o2=>?_;exact hY (b-(i2+1)) _ _ (by omega) ⟨i2+1,j2-1,_,by omega,rfl,W.trans (zf1 hi hj (by omega) (by omega) (by omega) h4),p2,o2⟩
end
section
variable{E:zbj}{X:Type}{cs:X->List za}{v:X->za}{h0 h:zb}{x f:za}{G:List X}{R:List (List za)}{c:X->X->Int}{Q:zQ}{a b i j:Nat}
theorem part_k10(S:zem E cs v)(hc:zfd C0 v c fL h0)(ho:Rw E cs h0 h x G R)(hl:G.length<4611686018427387904)(hab:a<b)(p:zug c a b G i j)
  (hd:j<i \/ ∃(h1:i<G.length)(h2:a<G.length)(h3:j<G.length),i <= j /\ ¬ c G[i] G[a]<0 /\ c G[j] G[a]<0) (hq:PartQ E cs h0 x c a b R G Q):
  zm.k10 C E C0 fL Q x (.int .i64 (a:Int)) f (.int .i64 (i:Int)) (.int .i64 (j:Int)) h:=by
 have k1:=p.hi;have k2:=p.hij;have k3:=p.hj;have k4:=p.hb;have la:a<G.length:=by omega
 have lj:j<G.length:=by omega
 rcases hd with hlt|⟨li,_,_,hle,n1,n2⟩
 ·simp -dsimp only[zm.k10,gtrN,hlt,decide_true,B.cond_true,ho.idx lj,ho.idx la,B.ze]
  refine ho.ld S (getElem?_eq_getElem la) ?_;refine ho.ld S (getElem?_eq_getElem lj) ?_;refine ho.st S (t:=G[a]) lj λh1 o1=>?_;refine o1.st S (t:=G[j]) (by simpa using la) λh2 o2=>?_;exact hq h2 j _ true (p.done hab hlt lj la) (zf1 lj la (by omega) k3 (Nat.le_refl _) hab) o2
 ·simp -dsimp only[zm.k10,zm.k9,gtrN,show ¬ j<i by omega,decide_false,B.cond_false,ho.idx lj,ho.idx li,B.ze]
  refine ho.ld S (getElem?_eq_getElem lj) ?_;refine ho.ld S (getElem?_eq_getElem li) ?_;refine ho.st S (t:=G[j]) li λh1 o1=>?_;refine o1.st S (t:=G[i]) (by simpa using lj) λh2 o2=>?_;have hne:i≠j:=λe=>by subst e;exact n1 n2
  have e1':V.bin .sub (.int .i64 (j:Int)) (.int .i64 1)=some (.int .i64 ((j-1:Nat):Int)):=zlg (a:=j) (b:=1) (by omega) (by omega);simp -dsimp only[zm.k8,zh3 (show i<4611686018427387904 by omega),e1',B.ze];have W:=zf1 li lj (by omega) (by omega) (by omega:a <= j) k3;exact part_main S hc (G:=swp G i j li lj) o2 (by rw[zk9 li lj];omega) hab (p.swap hle li lj la n1 n2) λh' m G' P' W' o'=>hq h' m G' false P' (W.trans W') o'
theorem part_j1(S:zem E cs v)(hc:zfd C0 v c fL h0)(ho:Rw E cs h0 h x G R)(hl:G.length<4611686018427387904)(hab:a<b)(p:zug c a b G i j)(hi0:j<i \/ ∀(h1:i<G.length)(h2:a<G.length),¬ c G[i] G[a]<0)(hq:PartQ E cs h0 x c a b R G Q):
  zq (zm.l12 C E C0 fL Q x (.int .i64 (a:Int)) f (.int .i64 (i:Int))) [.int .i64 (j:Int)] h:=by
 refine zq.intro (λt vs hh=>hh=h /\ ∃j':Nat,t=j' /\ vs=[.int .i64 (j':Int)] /\ zug c a b G i j' /\ (j'<i \/ ∀(h1:i<G.length)(h2:a<G.length),¬ c G[i] G[a]<0)) j ?_ ⟨rfl,j,rfl,rfl,p,hi0⟩;rintro Y j' vs hh ⟨rfl,_,rfl,rfl,p,hi0⟩ hY;have k1:=p.hi;have k2:=p.hij;have k3:=p.hj;have k4:=p.hb;have la:a<G.length:=by omega
 have lj:j'<G.length:=by omega
 simp -dsimp only[zm.l12,zm.k11,leqN,B.ze];by_cases hle:i <= j'
 ·have li:i<G.length:=by omega
  simp -dsimp only[hle,decide_true,B.zgx,B.zbg,ho.idx lj,ho.idx la,B.ze];refine ho.ld S (getElem?_eq_getElem lj) ?_;refine ho.ld S (getElem?_eq_getElem la) ?_;refine hc.call _ _ _ _ ho.le ?_;simp -dsimp only[hle,decide_true,B.zgx,B.zbg,V.zfi,V.zgj,B.ze8,B.ze];refine B.zbc (λhd=>?_) (λhd=>?_)
  ·have hd':¬ c G[j'] G[a]<0:=by simpa using hd
   have e1':V.bin .sub (.int .i64 (j':Int)) (.int .i64 1)=some (.int .i64 ((j'-1:Nat):Int)):=zlg (a:=j') (b:=1) (by omega) (by omega);simp -dsimp only[e1',B.ze];refine hY (j'-1) _ _ (by omega) ⟨rfl,j'-1,rfl,rfl,⟨k4,k1,by omega,by omega,p.lo,λk hk ha q1 q2=>?_⟩,?_⟩
   ·by_cases e:k=j'
    ·subst e;exact hd'
    ·exact p.hi2 k hk ha (by omega) q2
   ·rcases hi0 with h|h
    ·omega
    ·exact .inr h
  ·have hd':c G[j'] G[a]<0:=by simpa using hd
   have hni:¬ c G[i] G[a]<0:=by
    rcases hi0 with h|h
    ·omega
    ·exact h li la
   exact part_k10 S hc ho hl hab p (.inr ⟨li,la,lj,hle,hni,hd'⟩) hq
 ·simp -dsimp only[hle,decide_false,B.zgx,B.zgl,B.zhc,B.cond_false]
  exact part_k10 S hc ho hl hab p (.inl (by omega)) hq
theorem part_i1(S:zem E cs v)(hc:zfd C0 v c fL h0)(ho:Rw E cs h0 h x G R)(hl:G.length<4611686018427387904)(hab:a<b)(p:zug c a b G i j)(hq:PartQ E cs h0 x c a b R G Q):
  zq (zm.l14 C E C0 fL Q x (.int .i64 (a:Int)) f (.int .i64 (j:Int))) [.int .i64 (i:Int)] h:=by
 refine zq.intro (λt vs hh=>hh=h /\ ∃i':Nat,i'+t=b /\ vs=[.int .i64 (i':Int)] /\ zug c a b G i' j) (b-i) ?_ ⟨rfl,i,by have:=p.hij;have:=p.hj;omega,rfl,p⟩;rintro Y t vs hh ⟨rfl,i',hit,rfl,p⟩ hY;have k1:=p.hi;have k2:=p.hij;have k3:=p.hj;have k4:=p.hb;have la:a<G.length:=by omega
 simp -dsimp only[zm.l14,zm.k13,leqN,B.ze];by_cases hle:i' <= j
 ·have li:i'<G.length:=by omega
  simp -dsimp only[hle,decide_true,B.zgx,B.zbg,ho.idx li,ho.idx la,B.ze];refine ho.ld S (getElem?_eq_getElem li) ?_;refine ho.ld S (getElem?_eq_getElem la) ?_;refine hc.call _ _ _ _ ho.le ?_;simp -dsimp only[hle,decide_true,B.zgx,B.zbg,V.zfi,B.ze8,B.ze];refine B.zbc (λhd=>?_) (λhd=>?_)
  ·have hd':c G[i'] G[a]<0:=by simpa using hd
   simp -dsimp only[zh3 (show i'<4611686018427387904 by omega),B.ze];refine hY (b-(i'+1)) _ _ (by omega) ⟨rfl,i'+1,by omega,rfl,⟨k4,by omega,k3,by omega,λk hk ha q1 q2=>?_,p.hi2⟩⟩;by_cases e:k=i'
   ·subst e;exact hd'
   ·exact p.lo k hk ha q1 (by omega)
  ·have hd':¬ c G[i'] G[a]<0:=by simpa using hd
   exact part_j1 S hc ho hl hab p (.inr λ_ _=>hd') hq
 ·simp -dsimp only[hle,decide_false,B.zgx,B.zgl,B.zhc,B.cond_false]
  exact part_j1 S hc ho hl hab p (.inl (by omega)) hq
theorem zt9(S:zem E cs v)(hc:zfd C0 v c fL h0)(ho:Rw E cs h0 h x G R)(hl:G.length<4611686018427387904){pv:Nat}(hp1:a <= pv)(hp2:pv<b)(hb:b <= G.length)(hq:PartQ E cs h0 x c a b R G Q):
  zm.cps C E C0 fL x (.int .i64 (a:Int)) (.int .i64 (b:Int)) (.int .i64 (pv:Int)) f h Q:=by
 have la:a<G.length:=by omega
 have lp:pv<G.length:=by omega
 simp -dsimp only[zm.cps,zm.k16,ho.idx lp,ho.idx la,B.ze];refine ho.ld S (getElem?_eq_getElem lp) ?_;refine ho.ld S (getElem?_eq_getElem la) ?_;refine ho.st S (t:=G[pv]) la λh1 o1=>?_;refine o1.st S (t:=G[a]) (by simpa using lp) λh2 o2=>?_;have e1':V.bin .sub (.int .i64 (b:Int)) (.int .i64 1)=some (.int .i64 ((b-1:Nat):Int)):=zlg (a:=b) (b:=1) (by omega) (by omega);simp -dsimp only[zm.k15,zh3 (show a<4611686018427387904 by omega),e1',B.ze];have W:=zf1 la lp (Nat.le_refl _) (by omega) hp1 hp2;have hsl:=zk9 la lp;refine part_i1 S hc (G:=swp G a pv la lp) o2 (by omega) (by omega) ⟨by omega,by omega,by omega,by omega,λk _ _ q1 q2=>by omega,λk _ _ q1 q2=>by omega⟩ λh' m G' t P' W' o'=>hq h' m G' t P' (W.trans W') o'
end
section
variable{E:zbj}{X:Type}{cs:X->List za}{v:X->za}{h0 h:zb}{x f:za}{G:List X}{R:List (List za)}{c:X->X->Int}{Q:zQ}{Y1:zL}{a b i j:Nat}
theorem eq_j(S:zem E cs v)(hc:zfd C0 v c fL h0)(ho:Rw E cs h0 h x G R)(hl:G.length<4611686018427387904)(hab:a<b)(p:EInv c a b G i j)(hi0:j<i \/ ∀(h1:i<G.length)(h2:a<G.length),c G[a] G[i]<0)
  (done:∀h' j',EInv c a b G i j'->j'<i->Rw E cs h0 h' x G R->Q (.int .i64 (i:Int)) h')
  (next:∀h' j' (hi:i<G.length) (hj:j'<G.length),EInv c a b (swp G i j' hi hj) (i+1) (j'-1)->i<j'->j'<b->Rw E cs h0 h' x (swp G i j' hi hj) R->Y1 [.int .i64 ((i+1:Nat):Int),.int .i64 ((j'-1:Nat):Int)] h'):
  zq (zz.l3 C E C0 fL Q Y1 x (.int .i64 (a:Int)) f (.int .i64 (i:Int))) [.int .i64 (j:Int)] h:=by
 refine zq.intro (λt vs hh=>hh=h /\ ∃j':Nat,t=j' /\ vs=[.int .i64 (j':Int)] /\ EInv c a b G i j' /\ (j'<i \/ ∀(h1:i<G.length)(h2:a<G.length),c G[a] G[i]<0)) j ?_ ⟨rfl,j,rfl,rfl,p,hi0⟩;rintro Y j' vs hh ⟨rfl,_,rfl,rfl,p,hi0⟩ hY;have k1:=p.hi;have k2:=p.hij;have k3:=p.hj;have k4:=p.hb;have la:a<G.length:=by omega
 have lj:j'<G.length:=by omega
 simp -dsimp only[zz.l3,zz.k2,leqN,B.ze];by_cases hle:i <= j'
 ·have li:i<G.length:=by omega
  simp -dsimp only[hle,decide_true,B.zgx,B.zbg,ho.idx lj,ho.idx la,B.ze];refine ho.ld S (getElem?_eq_getElem la) ?_;refine ho.ld S (getElem?_eq_getElem lj) ?_;refine hc.call _ _ _ _ ho.le ?_;simp -dsimp only[hle,decide_true,B.zgx,B.zbg,V.zfi,B.ze8,B.ze];refine B.zbc (λhd=>?_) (λhd=>?_)
  ·have hd':c G[a] G[j']<0:=by simpa using hd
   have e1':V.bin .sub (.int .i64 (j':Int)) (.int .i64 1)=some (.int .i64 ((j'-1:Nat):Int)):=zlg (a:=j') (b:=1) (by omega) (by omega);simp -dsimp only[e1',B.ze];refine hY (j'-1) _ _ (by omega) ⟨rfl,j'-1,rfl,rfl,⟨k4,k1,by omega,by omega,p.lo,λk hk ha q1 q2=>?_⟩,?_⟩
   ·by_cases e:k=j'
    ·subst e;exact hd'
    ·exact p.hi2 k hk ha (by omega) q2
   ·rcases hi0 with h|h
    ·omega
    ·exact .inr h
  ·have hd':¬ c G[a] G[j']<0:=by simpa using hd
   have hni:c G[a] G[i]<0:=by
    rcases hi0 with h|h
    ·omega
    ·exact h li la
   simp -dsimp only[zz.k1,gtrN,show ¬ j'<i by omega,decide_false,B.cond_false,ho.idx lj,ho.idx li,B.ze];refine ho.ld S (getElem?_eq_getElem lj) ?_;refine ho.ld S (getElem?_eq_getElem li) ?_;refine ho.st S (t:=G[j']) li λh1 o1=>?_;refine o1.st S (t:=G[i]) (by simpa using lj) λh2 o2=>?_;have e1':V.bin .sub (.int .i64 (j':Int)) (.int .i64 1)=some (.int .i64 ((j'-1:Nat):Int)):=zlg (a:=j') (b:=1) (by omega) (by omega);simp -dsimp only[zh3 (show i<4611686018427387904 by omega),e1',B.ze];have hne:i≠j':=λe=>by subst e;exact hd' hni
   exact next h2 j' li lj (p.swap hle li lj la hni hd') (by omega) k3 o2
 ·simp -dsimp only[hle,decide_false,B.zgx,B.zgl,B.zhc,B.cond_false,zz.k1,gtrN,show j'<i by omega,decide_true,B.cond_true,B.ze]
  exact done hh j' p (by omega) ho
theorem eq_i(S:zem E cs v)(hc:zfd C0 v c fL h0)(ho:Rw E cs h0 h x G R)(hl:G.length<4611686018427387904)(hab:a<b)(p:EInv c a b G i j)
  (done:∀h' i' j',EInv c a b G i' j'->j'<i'->Rw E cs h0 h' x G R->Q (.int .i64 (i':Int)) h')
  (next:∀h' i' j' (hi:i'<G.length) (hj:j'<G.length),EInv c a b (swp G i' j' hi hj) (i'+1) (j'-1)->a<i'->i <= i'->i'<j'->j'<b->Rw E cs h0 h' x (swp G i' j' hi hj) R->Y1 [.int .i64 ((i'+1:Nat):Int),.int .i64 ((j'-1:Nat):Int)] h'):
  zq (zz.l5 C E C0 fL Q Y1 x (.int .i64 (a:Int)) f (.int .i64 (j:Int))) [.int .i64 (i:Int)] h:=by
 refine zq.intro (λt vs hh=>hh=h /\ ∃i':Nat,i'+t=b /\ i <= i' /\ vs=[.int .i64 (i':Int)] /\ EInv c a b G i' j) (b-i) ?_ ⟨rfl,i,by have:=p.hij;have:=p.hj;omega,Nat.le_refl _,rfl,p⟩;rintro Y t vs hh ⟨rfl,i',hit,hii,rfl,p⟩ hY;have k1:=p.hi;have k2:=p.hij;have k3:=p.hj;have k4:=p.hb;have la:a<G.length:=by omega
 simp -dsimp only[zz.l5,zz.k4,leqN,B.ze];by_cases hle:i' <= j
 ·have li:i'<G.length:=by omega
  simp -dsimp only[hle,decide_true,B.zgx,B.zbg,ho.idx li,ho.idx la,B.ze];refine ho.ld S (getElem?_eq_getElem la) ?_;refine ho.ld S (getElem?_eq_getElem li) ?_;refine hc.call _ _ _ _ ho.le ?_;simp -dsimp only[hle,decide_true,B.zgx,B.zbg,V.zfi,V.zgj,B.ze8,B.ze];refine B.zbc (λhd=>?_) (λhd=>?_)
  ·have hd':¬ c G[a] G[i']<0:=by simpa using hd
   simp -dsimp only[zh3 (show i'<4611686018427387904 by omega),B.ze];refine hY (b-(i'+1)) _ _ (by omega) ⟨rfl,i'+1,by omega,by omega,rfl,⟨k4,by omega,k3,by omega,λk hk ha q1 q2=>?_,p.hi2⟩⟩;by_cases e:k=i'
   ·subst e;exact hd'
   ·exact p.lo k hk ha q1 (by omega)
  ·have hd':c G[a] G[i']<0:=by simpa using hd
   exact eq_j S hc ho hl hab p (.inr λ_ _=>hd') (λh' j' p' hlt o'=>done h' i' j' p' hlt o') λh' j' hi hj p' h1 h2 o'=>next h' i' j' hi hj p' k1 hii h1 h2 o'
 ·simp -dsimp only[hle,decide_false,B.zgx,B.zgl,B.zhc,B.cond_false]
  exact eq_j S hc ho hl hab p (.inl (by omega)) (λh' j' p' hlt o'=>done h' i' j' p' hlt o') λh' j' hi hj p' h1 h2 o'=>next h' i' j' hi hj p' k1 hii h1 h2 o'
theorem eq_main(S:zem E cs v)(hc:zfd C0 v c fL h0)(ho:Rw E cs h0 h x G R)(hl:G.length<4611686018427387904)(hab:a<b)(p:EInv c a b G i j)
  (hq:∀h' i' j' G',EInv c a b G' i' j'->j'<i'->zds (a+1) b G G'->Rw E cs h0 h' x G' R->Q (.int .i64 (i':Int)) h'):
  zq (zz.l6 C E C0 fL Q x (.int .i64 (a:Int)) f) [.int .i64 (i:Int),.int .i64 (j:Int)] h:=by
 refine zq.intro (λt vs hh=>∃(i' j':Nat)(G':List X),i'+t=b /\ vs=[.int .i64 (i':Int),.int .i64 (j':Int)] /\ zds (a+1) b G G' /\ EInv c a b G' i' j' /\ Rw E cs h0 hh x G' R) (b-i) ?_ ⟨i,j,G,by have:=p.hij;have:=p.hj;omega,rfl,zds.refl _ _ _,p,ho⟩;rintro Y t vs hh ⟨i',j',G',hit,rfl,W,p,o⟩ hY;have hlen:=W.len;simp -dsimp only[zz.l6];refine eq_i S hc o (by omega) hab p (λh' i2 j2 p2 hlt o2=>hq h' i2 j2 G' p2 hlt W o2) λh' i2 j2 hi hj p2 h1 h2 h3 h4 o2=>?_;exact hY (b-(i2+1)) _ _ (by omega) ⟨i2+1,j2-1,_,by omega,rfl,W.trans (zf1 hi hj (by omega) (by omega) (by omega) h4),p2,o2⟩
theorem zpa(S:zem E cs v)(hc:zfd C0 v c fL h0)(ho:Rw E cs h0 h x G R)(hl:G.length<4611686018427387904){pv:Nat}(hp1:a <= pv)(hp2:pv<b)(hb:b <= G.length)
  (hq:∀h' i' j' G',EInv c a b G' i' j'->j'<i'->zds a b G G'->(∀(h1:a<G'.length)(h2:pv<G.length),G'[a]=G[pv])->Rw E cs h0 h' x G' R->Q (.int .i64 (i':Int)) h'):
  zz.cps C E C0 fL x (.int .i64 (a:Int)) (.int .i64 (b:Int)) (.int .i64 (pv:Int)) f h Q:=by
 have la:a<G.length:=by omega
 have lp:pv<G.length:=by omega
 simp -dsimp only[zz.cps,zz.k8,ho.idx lp,ho.idx la,B.ze];refine ho.ld S (getElem?_eq_getElem lp) ?_;refine ho.ld S (getElem?_eq_getElem la) ?_;refine ho.st S (t:=G[pv]) la λh1 o1=>?_;refine o1.st S (t:=G[a]) (by simpa using lp) λh2 o2=>?_;have e1':V.bin .sub (.int .i64 (b:Int)) (.int .i64 1)=some (.int .i64 ((b-1:Nat):Int)):=zlg (a:=b) (b:=1) (by omega) (by omega);simp -dsimp only[zz.k7,zh3 (show a<4611686018427387904 by omega),e1',B.ze];have W:=zf1 la lp (Nat.le_refl _) (by omega) hp1 hp2;have hsl:=zk9 la lp;refine eq_main S hc (G:=swp G a pv la lp) o2 (by omega) (by omega) ⟨by omega,by omega,by omega,by omega,λk _ _ q1 q2=>by omega,λk _ _ q1 q2=>by omega⟩ λh' i' j' G' p' hlt W' o'=>hq h' i' j' G' p' hlt (W.trans (W'.mono (by omega) (Nat.le_refl _))) (λh1 h2=>?_) o';rw[W'.same (.inl (by omega)) h1 (by omega),zh0 la lp (by omega) la];split
 ·rename_i e;simp only[e]
 ·rw[if_pos rfl]
end
section
variable{X:Type}{c:X->X->Int}{a n lo r ch:Nat}{G:List X}
end
section
variable{E:zbj}{X:Type}{cs:X->List za}{v:X->za}{h0 h:zb}{x f:za}{G:List X}{R:List (List za)}{c:X->X->Int}{Q:zQ}{Y1:zL}{a n lo r ch:Nat}
theorem sift_k1(S:zem E cs v)(W:zpp (zfh c))(hc:zfd C0 v c fL h0)(ho:Rw E cs h0 h x G R)(hl:G.length<1000000000)(p:SInv c a n lo r G)(hlo:lo <= r)(hch:ch<n)(hp:(ch-1) / 2=r)(hc0:0<ch)
  (hmax:∀k,0<k->k<n->(k-1) / 2=r->(h1:a+ch<G.length)->(h2:a+k<G.length)->¬ c G[a+ch] G[a+k]<0)
  (done:∀h',Heap c a n lo G->Rw E cs h0 h' x G R->Q (.tup []) h')
  (next:∀h' (hr:a+r<G.length) (hcl:a+ch<G.length),SInv c a n lo ch (swp G (a+r) (a+ch) hr hcl)->Rw E cs h0 h' x (swp G (a+r) (a+ch) hr hcl) R->Y1 [.int .i64 (ch:Int)] h'):
  zdh.k1 C E C0 fL Q Y1 x (.int .i64 (n:Int)) (.int .i64 (a:Int)) f (.int .i64 (r:Int)) (.int .i64 (ch:Int)) h:=by
 have hlen:=p.len;have lr:a+r<G.length:=by omega
 have lc:a+ch<G.length:=by omega
 have ar:=zr9 (a:=a) (b:=r) (by omega);have ac:=zr9 (a:=a) (b:=ch) (by omega);simp -dsimp only[zdh.k1,ar,ac,ho.idx lr,ho.idx lc,B.ze];refine ho.ld S (getElem?_eq_getElem lr) ?_;refine ho.ld S (getElem?_eq_getElem lc) ?_;refine hc.call _ _ _ _ ho.le ?_;simp -dsimp only[V.zfi,V.zgj,B.ze];refine B.zbc (λhd=>?_) (λhd=>?_)
 ·have hd':¬ c G[a+r] G[a+ch]<0:=by simpa using hd
  refine done h (p.done λk k0 hk hkp h1 h2=>?_) ho;have:=W.zrh (a:=G[a+r]) (b:=G[a+ch]) (c:=G[a+k]) (by unfold zfh;exact decide_eq_false hd') (by unfold zfh;exact decide_eq_false (hmax k k0 hk hkp lc h2));unfold zfh at this;exact of_decide_eq_false this
 ·have hd':c G[a+r] G[a+ch]<0:=by simpa using hd
  simp -dsimp only[ar,ac,ho.idx lr,ho.idx lc,B.ze];refine ho.ld S (getElem?_eq_getElem lc) ?_;refine ho.ld S (getElem?_eq_getElem lr) ?_;refine ho.st S (t:=G[a+ch]) lr λh1 o1=>?_;refine o1.st S (t:=G[a+r]) (by simpa using lc) λh2 o2=>?_;exact next h2 lr lc (p.step W hlo hch hp hc0 lr lc hd' λk k0 hk hkp h2=>hmax k k0 hk hkp lc h2) o2
theorem zpx(S:zem E cs v)(W:zpp (zfh c))(hc:zfd C0 v c fL h0)(ho:Rw E cs h0 h x G R)(hl:G.length<1000000000)(p:SInv c a n lo r G)(hlo:lo <= r)(hrn:r <= n){b:Nat}(hb:a+n <= b)
  (hq:∀h' G',Heap c a n lo G'->zds a b G G'->Rw E cs h0 h' x G' R->Q (.tup []) h'):
  zdh.cps C E C0 fL x (.int .i64 (r:Int)) (.int .i64 (n:Int)) (.int .i64 (a:Int)) f h Q:=by
 simp -dsimp only[zdh.cps];refine zq.intro (λt vs hh=>∃(r':Nat)(G':List X),r'+t=n /\ vs=[.int .i64 (r':Int)] /\ lo <= r' /\ SInv c a n lo r' G' /\ zds a b G G' /\ Rw E cs h0 hh x G' R) (n-r) ?_ ⟨r,G,by omega,rfl,hlo,p,zds.refl _ _ _,ho⟩;rintro Y t vs hh ⟨r',G',hrt,rfl,hlo',p',W',o⟩ hY;have hlen:=W'.len;have pl:=p'.len;have e1:V.bin .mul (.int .i64 2) (.int .i64 (r':Int))=some (.int .i64 ((2*r':Nat):Int)):=mulN (a:=2) (b:=r') (by omega);simp -dsimp only[zdh.l4,zdh.k3,e1,zh3 (show 2*r'<4611686018427387904 by omega),geqN,B.ze];refine B.zbc (λhd=>?_) (λhd=>?_)
 ·rw[decide_eq_true_eq]at hd
  exact hq hh G' (p'.done λk k0 hk hkp _ _=>by omega) W' o
 ·rw[decide_eq_false_iff_not]at hd
  have fin:∀ch,ch<n->(ch-1) / 2=r'->0<ch->(∀k,0<k->k<n->(k-1) / 2=r'->(h1:a+ch<G'.length)->(h2:a+k<G'.length)->¬ c G'[a+ch] G'[a+k]<0)->zdh.k1 C E C0 fL Q Y x (.int .i64 (n:Int)) (.int .i64 (a:Int)) f (.int .i64 (r':Int)) (.int .i64 (ch:Int)) hh:=λch c1 c2 c3 c4=>
   sift_k1 S W hc o (by omega) p' hlo' c1 c2 c3 c4 (λh' hp o'=>hq h' G' hp W' o') λh' hr hcl p2 o2=>hY (n-ch) _ _ (by omega) ⟨ch,_,by omega,rfl,by omega,p2,W'.trans (zf1 hr hcl (by omega) (by omega) (by omega) (by omega)),o2⟩
  have irr:∀t:X,¬ c t t<0:=λt=>by
   have:=W.irr t;unfold zfh at this;exact of_decide_eq_false this
  have a1:=zr9 (a:=a) (b:=2*r'+1) (by omega);simp -dsimp only[zdh.k2,zh3 (show 2*r'+1<4611686018427387904 by omega),zr3,B.ze];by_cases h2:2*r'+1+1<n
  ·have l1:a+(2*r'+1)<G'.length:=by omega
   have l2:a+(2*r'+1)+1<G'.length:=by omega
   simp -dsimp only[h2,decide_true,B.zgx,B.zbg,a1,zh3 (show a+(2*r'+1)<4611686018427387904 by omega),o.idx l1,o.idx l2,B.ze];refine o.ld S (getElem?_eq_getElem l1) ?_;refine o.ld S (getElem?_eq_getElem l2) ?_;refine hc.call _ _ _ _ o.le ?_;simp -dsimp only[h2,decide_true,B.zgx,B.zbg,V.zfi,B.ze8,B.ze];refine B.zbc (λhf=>?_) (λhf=>?_)
   ·have hf':c G'[a+(2*r'+1)] G'[a+(2*r'+1)+1]<0:=by simpa using hf
    simp -dsimp only[zh3 (show 2*r'+1<4611686018427387904 by omega),B.ze];refine fin (2*r'+1+1) h2 (by omega) (by omega) λk k0 hk hkp h1 h3=>?_;rcases (show k=2*r'+1 \/ k=2*r'+1+1 by omega) with rfl|rfl
    ·have:=W.asym (a:=G'[a+(2*r'+1)]) (b:=G'[a+(2*r'+1)+1]) (by unfold zfh;exact decide_eq_true hf')
     unfold zfh at this;exact of_decide_eq_false this
    ·exact irr _
   ·have hf':¬ c G'[a+(2*r'+1)] G'[a+(2*r'+1)+1]<0:=by simpa using hf
    refine fin (2*r'+1) (by omega) (by omega) (by omega) λk k0 hk hkp h1 h3=>?_;rcases (show k=2*r'+1 \/ k=2*r'+1+1 by omega) with rfl|rfl
    ·exact irr _
    ·exact hf'
  ·simp -dsimp only[h2,decide_false,B.zgx,B.zgl,B.zhc,B.cond_false]
   refine fin (2*r'+1) (by omega) (by omega) (by omega) λk k0 hk hkp h1 h3=>?_;have:k=2*r'+1:=by omega
   subst this;exact irr _
end
section
variable{X:Type}{c:X->X->Int}{a b n lo:Nat}{G G':List X}
end
abbrev SiftI(C:z6)(E:zbj)(C0:z6)(fL:Nat)(f1:Nat):Prop:=∀(v0 v1 v2 v3 v4:za)(h:zb)(Q:zQ),zdh.cps C E C0 fL v0 v1 v2 v3 v4 h (dn Q)->C f1 [v0,v1,v2,v3,v4] h Q
section
variable{E:zbj}{X:Type}{cs:X->List za}{v:X->za}{h0 h:zb}{x f:za}{G:List X}{R:List (List za)}{c:X->X->Int}{Q:zQ}{a b:Nat}
theorem insertion_srt(S:zem E cs v)(W:zpp (zfh c))(hc:zfd C0 v c fL h0)(ho:Rw E cs h0 h x G R)(hl:G.length <= 100000000)(hab:a <= b)(hb:b <= G.length)
  (hq:∀h' G',zds a b G G'->Srt c a b G'->Rw E cs h0 h' x G' R->Q (.tup []) h'):zc4.cps C E C0 fL x (.int .i64 (a:Int)) (.int .i64 (b:Int)) f h Q:=by
 have e0:∀(L:List X),(L.map (λy=>(y,0))).map (λp:X×Nat=>cs p.1)=L.map cs:=λL=>by rw[map_map];rfl
 have e1:∀(L:List (X×Nat)),L.map (λp:X×Nat=>cs p.1)=(L.map (·.1)).map cs:=λL=>by rw[map_map];rfl
 have lt:(G.take a).length=a:=by rw[length_take];omega
 have lm:((G.take b).drop a).length=b-a:=by rw[length_drop,length_take];omega
 refine zqb (P:=(G.take a).map (λy=>(y,0))) (M:=((G.take b).drop a).zipIdx) (U:=(G.drop b).map (λy=>(y,0))) S W ?_ ?_ hc ?_ ?_ ?_ ?_ (R:=R) (h0:=h0)
 ·simp only[length_append,length_map,length_zipIdx,lt,lm,length_drop];omega
 ·have:(((G.take b).drop a).zipIdx.map (·.2)).Pairwise (· < ·):=by
   rw[zipIdx_map_snd];exact pairwise_lt_range'
  rwa [pairwise_map]at this
 ·rw[length_map,lt]
 ·rw[length_map,length_zipIdx,lt,lm];omega
 ·unfold Rw
  rw[map_append,map_append,e0,e0,e1,zipIdx_map_fst,<-map_append,<-map_append,<-split3 hab G];exact ho
 ·intro h' M' hp hs ho'
  have hp':(M'.map (·.1)).Perm ((G.take b).drop a):=by
   have:=hp.map (·.1);rwa [zipIdx_map_fst]at this
  refine hq h' (G.take a++(M'.map (·.1)++G.drop b)) (within_mid hab hb hp') (srt_mid hab hb (by rw[hp'.length_eq,lm]) ?_) ?_
  ·rw[pairwise_map]
   refine hs.imp λ{x y} hxy=>?_;have hx:zfh c y.1 x.1=false:=hxy.elim (λh=>W.asym h) λ⟨h,_⟩=>h;unfold zfh at hx;exact of_decide_eq_false hx
  ·unfold Rw at ho' ⊢
   rw[map_append,map_append,e0,e0,e1]at ho'
   rwa [map_append,map_append]
theorem heapSort_spec{f1:Nat}(is:SiftI C E C0 fL f1)(S:zem E cs v)(W:zpp (zfh c))(hc:zfd C0 v c fL h0)(ho:Rw E cs h0 h x G R)(hl:G.length <= 100000000)(hab:a<b)(hb:b <= G.length)
  (hq:∀h' G',zds a b G G'->Srt c a b G'->Rw E cs h0 h' x G' R->Q (.tup []) h'):zdi.cps C E C0 fL f1 x (.int .i64 (a:Int)) (.int .i64 (b:Int)) f h Q:=by
 have e1:=zlg (a:=b) (b:=a) (by omega) (by omega);obtain⟨n,hn⟩:∃n,n=b-a:=⟨_,rfl⟩;have e2:V.bin .quo (.int .i64 ((n-1:Nat):Int)) (.int .i64 2)=some (.int .i64 (((n-1) / 2:Nat):Int)):=by
  rw[V.bin_quo _ _ _ (by omega),show ((n-1:Nat):Int).tdiv 2=(((n-1) / 2:Nat):Int) from rfl,wrap_i64 (by omega) (by omega)]
 have m1:∀k:Nat,k <= 100000000->V.bin .sub (.int .i64 (k:Int)) (.int .i64 1)=some (.int .i64 ((k:Int)-1)):=λk hk=>by
  rw[V.zld,wrap_i64 (by omega) (by omega)]
 have m2:∀k:Nat,k <= 100000000->V.bin .sub (.int .i64 ((k+1:Nat)-1:Int)) (.int .i64 1)=some (.int .i64 ((k:Int)-1)):=λk hk=>by
  rw[V.zld,wrap_i64 (by omega) (by omega)];congr 2;omega
 simp -dsimp only[zdi.cps,zdi.k5,e1,B.ze];rw[<-hn];simp -dsimp only[sub1 (show 1 <= n by omega) (by omega),e2,B.ze];refine zq.intro (λt vs hh=>∃(G':List X),vs=[.int .i64 ((t:Int)-1)] /\ t <= n /\ Heap c a n t G' /\ zds a b G G' /\ Rw E cs h0 hh x G' R) ((n-1) / 2+1) ?_ ⟨G,by congr 2;omega,by omega,Heap.none_ (by omega),zds.refl _ _ _,ho⟩;rintro Y t vs hh ⟨G1,rfl,htn,p1,W1,o1⟩ hY;have l1:=W1.len;simp -dsimp only[zdi.l4,zdi.k3,V.zpo,B.ze];cases t with
 | succ k=>
  rw[show decide ((0:Int) <= ((k+1:Nat):Int)-1)=true by simp,B.cond_true,show (((k+1:Nat):Int)-1)=(k:Int) by omega];refine is _ _ _ _ _ _ _ (zpx (b:=b) S W hc o1 (by omega) (p1.sinv (by omega)) (Nat.le_refl _) (by omega) (by omega) λh2 G2 p2 w2 o2=>zbf ?_);simp -dsimp only[m1 k (by omega),B.ze];exact hY k _ _ (by omega) ⟨G2,rfl,by omega,p2,W1.trans w2,o2⟩
 | zero=>
  rw[show decide ((0:Int) <= ((0:Nat):Int)-1)=false by simp,B.cond_false];simp -dsimp only[m1 n (by omega),B.ze];refine zq.intro (λt vs hh=>∃(G':List X),vs=[.int .i64 ((t:Int)-1)] /\ t <= n /\ Heap c a t 0 G' /\ Cut c a b a (a+t) G' /\ zds a b G G' /\ Rw E cs h0 hh x G' R) n ?_ ⟨G1,rfl,Nat.le_refl _,p1,λp q _ _ h3 h4=>by omega,W1,o1⟩;rintro Z t vs hh ⟨G2,rfl,htn,p2,c2,W2,o2⟩ hZ;have l2:=W2.len;simp -dsimp only[zdi.l2,zdi.k1,V.zpo,B.ze];cases t with
  | zero=>
   rw[show decide ((0:Int) <= ((0:Nat):Int)-1)=false by simp,B.cond_false];exact hq hh G2 W2 (c2.small (by omega)) o2
  | succ k=>
   rw[show decide ((0:Int) <= ((k+1:Nat):Int)-1)=true by simp,B.cond_true,show (((k+1:Nat):Int)-1)=(k:Int) by omega];have ac:=zr9 (a:=a) (b:=k) (by omega);have la:a<G2.length:=by omega
   have lk:a+k<G2.length:=by omega
   simp -dsimp only[ac,o2.idx la,o2.idx lk,B.ze];refine o2.ld S (getElem?_eq_getElem lk) ?_;refine o2.ld S (getElem?_eq_getElem la) ?_;refine o2.swap S la lk λh3 o3=>?_;have hsl:=zk9 la lk;have w3:zds a (a+(k+1)) G2 (swp G2 a (a+k) la lk):=zf1 la lk (by omega) (by omega) (by omega) (by omega);have c3:=c2.within w3 (Nat.le_refl _) (by omega);have c4:Cut c a b a (a+k) (swp G2 a (a+k) la lk):=λp q h1 h2 h3 h4 h5 h6=>by
    by_cases e:a+(k+1) <= q
    ·exact c3 p q h1 h2 h3 (.inr e) h5 h6
    ·have:q=a+k:=by omega
     subst this;rw[zh0 la lk h6 (by omega),if_pos rfl,zh0 la lk h5 (by omega),if_neg (by omega)];split
     ·exact p2.root W (by omega) k (by omega)
     ·have:=p2.root W (by omega) (p-a) (by omega)
      simpa only[show a+(p-a)=p by omega]using this
   have s3:SInv c a k 0 0 (swp G2 a (a+k) la lk):=⟨by omega,λj j0 hj _ hne h1 h2=>by
    rw[zh0 la lk h1 (by omega),if_neg (by omega),if_neg (by omega),zh0 la lk h2 (by omega),if_neg (by omega),if_neg (by omega)];exact p2 j j0 (by omega) (by omega) (by omega) (by omega),λ_ h=>by omega⟩
   refine is _ _ _ _ _ _ _ (zpx (r:=0) (b:=a+k) S W hc o3 (by omega) s3 (Nat.le_refl _) (by omega) (by omega) λh4 G4 p4 w4 o4=>zbf ?_);simp -dsimp only[m1 k (by omega),B.ze];exact hZ k _ _ (by omega) ⟨G4,rfl,by omega,p4,c4.within w4 (Nat.le_refl _) (by omega),(W2.trans (w3.mono (Nat.le_refl _) (by omega))).trans (w4.mono (Nat.le_refl _) (by omega)),o4⟩
end
section
variable{X:Type}{c:X->X->Int}{A B j:Nat}{G:List X}
end
section
variable{E:zbj}{X:Type}{cs:X->List za}{v:X->za}{h0 h:zb}{x f:za}{G:List X}{R:List (List za)}{c:X->X->Int}{Q:zQ}{Y1:zL}{a b i s:Nat}
theorem pis_k3(S:zem E cs v)(hc:zfd C0 v c fL h0)(ho:Rw E cs h0 h x G R)(hl:G.length <= 100000000)(hi0:0<i)(hi:i<b)(hb:b <= G.length)(hs:s <= 5)
  (hY:∀h' G',zds i b G G'->Rw E cs h0 h' x G' R->Y1 [.int .i64 (i:Int),.int .i64 ((s+1:Nat):Int)] h'):
  zh.k3 C E C0 fL Q Y1 x (.int .i64 (a:Int)) (.int .i64 (b:Int)) f (.int .i64 (i:Int)) (.int .i64 (s:Int)) h:=by
 have hge:V.bin .geq (.int .i64 ((b-i:Nat):Int)) (.int .i64 2)=some (.bool (decide (2 <= b-i))):=geqN (b:=2);simp -dsimp only[zh.k3,zlg (show i <= b by omega) (by omega),hge,zh3 (show s<4611686018427387904 by omega),zh3 (show i<4611686018427387904 by omega),B.ze];refine B.zbc (λhd=>?_) (λhd=>?_)
 rotate_left
 ·simp -dsimp only[zh3 (show s<4611686018427387904 by omega),B.ze]
  exact hY h G (zds.refl _ _ _) ho
 rw[decide_eq_true_eq]at hd;simp -dsimp only[zh3 (show i<4611686018427387904 by omega),B.ze];refine zq.intro (λt vs hh=>∃(j:Nat)(G':List X),j+t=b /\ vs=[.int .i64 (j:Int)] /\ i<j /\ zds i b G G' /\ Rw E cs h0 hh x G' R) (b-(i+1)) ?_ ⟨i+1,G,by omega,rfl,by omega,zds.refl _ _ _,ho⟩;rintro Y t vs hh ⟨j,G1,hjt,rfl,hij,W1,o⟩ hY2;have hlen:=W1.len;simp -dsimp only[zh.l2,zh.k1,zr3,B.ze];refine B.zbc (λhe=>?_) (λhe=>?_)
 ·rw[decide_eq_true_eq]at he
  have lj:j<G1.length:=by omega
  have lj1:j-1<G1.length:=by omega
  have sj:=sub1 (a:=j) (by omega) (by omega);simp -dsimp only[sj,o.idx lj,o.idx lj1,B.ze];refine o.ld S (getElem?_eq_getElem lj) ?_;refine o.ld S (getElem?_eq_getElem lj1) ?_;refine hc.call _ _ _ _ o.le ?_;simp -dsimp only[V.zfi,V.zgj,B.ze];refine B.zbc (λhd=>?_) (λhd=>?_)
  ·simp -dsimp only[zh3 (show s<4611686018427387904 by omega),B.ze]
   exact hY hh G1 W1 o
  ·simp -dsimp only[sj,o.idx lj,o.idx lj1,B.ze]
   refine o.ld S (getElem?_eq_getElem lj1) ?_;refine o.ld S (getElem?_eq_getElem lj) ?_;refine o.swap S lj lj1 λh2 o2=>?_;simp -dsimp only[zh3 (show j<4611686018427387904 by omega),B.ze];exact hY2 (b-(j+1)) _ _ (by omega) ⟨j+1,_,by omega,rfl,by omega,W1.trans (zf1 lj lj1 (by omega) (by omega) (by omega) (by omega)),o2⟩
 ·simp -dsimp only[zh3 (show s<4611686018427387904 by omega),B.ze]
  exact hY hh G1 W1 o
theorem pis_k6(S:zem E cs v)(W:zpp (zfh c))(hc:zfd C0 v c fL h0)(ho:Rw E cs h0 h x G R)(hl:G.length <= 100000000)(hai:a<i)(hi:i<b)(hb:b <= G.length)(hs:s <= 5)(hp:Pre c a b G)(h1:But1 c a i (i-1) G)
  (hY:∀h' G',zds a b G G'->Srt c a i G'->Rw E cs h0 h' x G' R->Y1 [.int .i64 (i:Int),.int .i64 ((s+1:Nat):Int)] h'):
  zh.k6 C E C0 fL Q Y1 x (.int .i64 (a:Int)) (.int .i64 (b:Int)) f (.int .i64 (i:Int)) (.int .i64 (s:Int)) h:=by
 have fin:∀{hh G1},Rw E cs h0 hh x G1 R->zds a b G G1->Srt c a i G1->zh.k3 C E C0 fL Q Y1 x (.int .i64 (a:Int)) (.int .i64 (b:Int)) f (.int .i64 (i:Int)) (.int .i64 (s:Int)) hh:=λ{hh G1} o W1 s1=>by
  have l1:=W1.len;refine pis_k3 S hc o (by omega) (by omega) hi (by omega) hs λh2 G2 W2 o2=>hY h2 G2 (W1.trans (W2.mono (by omega) (Nat.le_refl _))) (λp q h1 h2 h3 h4 h5=>?_) o2;have l2:=W2.len;rw[W2.same (k:=p) (.inl (by omega)) h4 (by omega),W2.same (k:=q) (.inl (by omega)) h5 (by omega)];exact s1 p q h1 h2 h3 _ _
 have hge:V.bin .geq (.int .i64 ((i-a:Nat):Int)) (.int .i64 2)=some (.bool (decide (2 <= i-a))):=geqN (b:=2);simp -dsimp only[zh.k6,zlg (show a <= i by omega) (by omega),hge,sub1 (show 1 <= i by omega) (by omega),B.ze];refine B.zbc (λhd=>?_) (λhd=>?_)
 ·simp -dsimp only[sub1 (show 1 <= i by omega) (show i<4611686018427387904 by omega),B.ze]
  refine zq.intro (λt vs hh=>∃(G':List X),vs=[.int .i64 (t:Int)] /\ a <= t /\ t<i /\ But1 c a i t G' /\ zds a b G G' /\ Rw E cs h0 hh x G' R) (i-1) ?_ ⟨G,rfl,by omega,by omega,h1,zds.refl _ _ _,ho⟩;rintro Y j vs hh ⟨G1,rfl,haj,hji,b1,W1,o⟩ hY2;have hlen:=W1.len;have lj:j<G1.length:=by omega
  have hg1:V.bin .geq (.int .i64 (j:Int)) (.int .i64 1)=some (.bool (decide (1 <= j))):=geqN (b:=1);simp -dsimp only[zh.l5,zh.k4,hg1,B.ze];refine B.zbc (λhe=>?_) (λhe=>?_)
  ·rw[decide_eq_true_eq]at he
   have lj1:j-1<G1.length:=by omega
   have sj:=sub1 (a:=j) (by omega) (by omega);simp -dsimp only[sj,o.idx lj,o.idx lj1,B.ze];refine o.ld S (getElem?_eq_getElem lj) ?_;refine o.ld S (getElem?_eq_getElem lj1) ?_;refine hc.call _ _ _ _ o.le ?_;simp -dsimp only[V.zfi,V.zgj,B.ze];refine B.zbc (λhd=>?_) (λhd=>?_)
   ·exact fin o W1 (b1.done W lj (.inr λ_=>by simpa using hd))
   ·have hlt:c G1[j] G1[j-1]<0:=by simpa using hd
    have haj2:a<j:=by
     rcases Nat.lt_or_ge a j with k|k
     ·exact k
     ·have:j=a:=by omega
      subst this;exact absurd hlt ((hp.within W1) (by omega) j (Nat.le_refl _) (by omega) _ _)
    simp -dsimp only[sj,o.idx lj,o.idx lj1,B.ze];refine o.ld S (getElem?_eq_getElem lj1) ?_;refine o.ld S (getElem?_eq_getElem lj) ?_;refine o.swap S lj lj1 λh2 o2=>?_;exact hY2 (j-1) _ _ (by omega) ⟨_,rfl,by omega,by omega,b1.step W haj2 lj lj1 hlt,W1.trans (zf1 lj lj1 (by omega) (by omega) (by omega) (by omega)),o2⟩
  ·rw[decide_eq_false_iff_not]at he
   exact fin o W1 (b1.done W lj (.inl (by omega)))
 ·rw[decide_eq_false_iff_not]at hd
  exact fin ho (zds.refl _ _ _) λp q _ _ _ _ _=>by omega
theorem zla(S:zem E cs v)(W:zpp (zfh c))(hc:zfd C0 v c fL h0)(ho:Rw E cs h0 h x G R)(hl:G.length <= 100000000)(hab:a<b)(hb:b <= G.length)(hp:Pre c a b G)
  (hq:∀h' G' t,zds a b G G'->(t=true->Srt c a b G')->Rw E cs h0 h' x G' R->Q (.bool t) h'):
  zh.cps C E C0 fL x (.int .i64 (a:Int)) (.int .i64 (b:Int)) f h Q:=by
 simp -dsimp only[zh.cps,zh3 (show a<4611686018427387904 by omega),B.ze];refine zq.intro (λt vs hh=>∃(s i:Nat)(G':List X),s+t=5 /\ vs=[.int .i64 (i:Int),.int .i64 (s:Int)] /\ a<i /\ i <= b /\ Srt c a i G' /\ zds a b G G' /\ Rw E cs h0 hh x G' R) 5 ?_ ⟨0,a+1,G,rfl,rfl,by omega,by omega,λp q _ _ _ _ _=>by omega,zds.refl _ _ _,ho⟩;rintro Y t vs hh ⟨s,i,G1,hst,rfl,hai,hib,s1,W1,o⟩ hY;have hl1:=W1.len;have h5:V.bin .lss (.int .i64 (s:Int)) (.int .i64 5)=some (.bool (decide (s<5))):=zr3 (b:=5);simp -dsimp only[zh.l12,zh.k11,h5,B.ze];refine B.zbc (λhd=>?_) (λhd=>hq hh G1 false W1 (λh=>by cases h) o);rw[decide_eq_true_eq]at hd;refine zq.intro (λt vs hh=>∃(i:Nat),i+t=b /\ vs=[.int .i64 (i:Int)] /\ a<i /\ Srt c a i G1 /\ Rw E cs h0 hh x G1 R) (b-i) ?_ ⟨i,by omega,rfl,hai,s1,o⟩;rintro Z t vs hh ⟨i,hit,rfl,hai,s2,o2⟩ hZ;simp -dsimp only[zh.l10,zh.k9,zr3,B.ze];by_cases hd2:i<b
 ·have li:i<G1.length:=by omega
  have li1:i-1<G1.length:=by omega
  have si:=sub1 (a:=i) (by omega) (by omega);simp -dsimp only[hd2,decide_true,B.zgx,B.zbg,si,o2.idx li,o2.idx li1,B.ze];refine o2.ld S (getElem?_eq_getElem li) ?_;refine o2.ld S (getElem?_eq_getElem li1) ?_;refine hc.call _ _ _ _ o2.le ?_;simp -dsimp only[hd2,decide_true,B.zgx,B.zbg,V.zfi,V.zgj,B.ze8,B.ze];refine B.zbc (λhe=>?_) (λhe=>?_)
  ·have hnl:¬ c G1[i] G1[i-1]<0:=by simpa using he
   simp -dsimp only[zh3 (show i<4611686018427387904 by omega),B.ze];refine hZ (t-1) _ _ (by omega) ⟨i+1,by omega,rfl,by omega,?_,o2⟩;exact But1.done W (j:=i) (λp q h1 h2 h3 h4 h5 h6=>s2 p q h1 h2 (by omega) h5 h6) li (.inr λ_=>hnl)
  ·have hlt:c G1[i] G1[i-1]<0:=by simpa using he
   have hne:V.bin .eql (.int .i64 (i:Int)) (.int .i64 (b:Int))=some (.bool false):=by rw[V.zhr];simp;omega
   simp -dsimp only[hne,B.ze,B.cond_false,zh.k8,zh.k7,zlg (show a <= b by omega) (show b<4611686018427387904 by omega)];rw[show V.bin .lss (.int .i64 ((b-a:Nat):Int)) (.int .i64 50)=some (.bool (decide (b-a<50))) from zr3 (b:=50)];simp -dsimp only[B.ze];refine B.zbc (λhf=>hq hh G1 false W1 (λh=>by cases h) o2) (λhf=>?_);simp -dsimp only[zh.k7,si,o2.idx li,o2.idx li1,B.ze];refine o2.ld S (getElem?_eq_getElem li1) ?_;refine o2.ld S (getElem?_eq_getElem li) ?_;refine o2.swap S li li1 λh3 o3=>?_;have hsl:=zk9 li li1;have w3:zds a b G1 (swp G1 i (i-1) li li1):=zf1 li li1 (by omega) (by omega) (by omega) (by omega);have W3:=W1.trans w3;refine pis_k6 S W hc o3 (by omega) hai hd2 (by omega) (by omega) (hp.within W3) (λp q h1 h2 h3 h4 h5 h6=>?_) λh4 G4 W4 s4 o4=>hY (5-(s+1)) _ _ (by omega) ⟨s+1,i,G4,by omega,rfl,hai,by omega,s4,W3.trans W4,o4⟩;rw[zh0 li li1 h6 (by omega),if_neg h4,if_neg (by omega),zh0 li li1 h5 (by omega),if_neg (by omega),if_neg (by omega)];exact s2 p q h1 h2 h3 _ _
 ·have e:i=b:=by omega
  subst e;have heq:V.bin .eql (.int .i64 (i:Int)) (.int .i64 (i:Int))=some (.bool true):=by rw[V.zhr];simp
  simp -dsimp only[hd2,decide_false,B.zgx,B.zgl,B.zhc,B.cond_false,heq,B.cond_true,B.ze];exact hq hh G1 true W1 (λ_=>s2) o2
end
variable{C C0:z6}{fL:Nat}{N:zN}
section
variable{E:zbj}{X:Type}{cs:X->List za}{v:X->za}{h0 h:zb}{x f:za}{G:List X}{R:List (List za)}{Q:zQ}{a b:Nat}
theorem zqg{f1 f2:Nat}(hn:NextI C0 f1)(hp:PowI C0 f2)(S:zem E cs v)(ho:Rw E cs h0 h x G R)(hl:G.length <= 100000000)(hab:a <= b)(hb:b <= G.length)
  (hq:∀h' G',zds a b G G'->Rw E cs h0 h' x G' R->Q (.tup []) h'):z9.cps C E C0 fL f1 f2 x (.int .i64 (a:Int)) (.int .i64 (b:Int)) f h Q:=by
 obtain⟨n,en⟩:∃n,n=b-a:=⟨_,rfl⟩;have e1:=zlg hab (show b<4611686018427387904 by omega);rw[<-en]at e1;have g8:V.bin .geq (.int .i64 (n:Int)) (.int .i64 8)=some (.bool (decide (8 <= n))):=geqN (b:=8);simp -dsimp only[z9.cps,z9.k8,e1,g8,B.ze];refine B.zbc (λhd=>?_) (λhd=>hq h G (zds.refl _ _ _) ho);rw[decide_eq_true_eq]at hd;simp -dsimp only[z9.k7,toUN (show n<18446744073709551616 by omega),B.ze];intro id hid;have o:=zcy.zor ho hid [.int .u64 0];simp only[cons_append,nil_append]at o;refine o.zuf 1 (off:=0) rfl rfl (by simp) λh1 o1 _=>?_;simp only[set_cons_succ,set_cons_zero]at o1;refine hp n _ _ (by omega) (by omega) λm hm0 hm=>?_;have m4:V.bin .quo (.int .i64 (n:Int)) (.int .i64 4)=some (.int .i64 ((n / 4:Nat):Int)):=quo4 (by omega);have m2:V.bin .mul (.int .i64 ((n / 4:Nat):Int)) (.int .i64 2)=some (.int .i64 ((n / 4*2:Nat):Int)):=mulN (a:=n / 4) (b:=2) (by omega);have m5:V.bin .add (.int .i64 (a:Int)) (.int .i64 ((n / 4*2:Nat):Int))=some (.int .i64 ((a+n / 4*2:Nat):Int)):=zr9 (by omega);simp -dsimp only[z9.k6,m4,m2,m5,sub1 (show 1 <= a+n / 4*2 by omega) (by omega),B.ze];refine zq.intro (λt vs hh=>∃(i:Nat)(G':List X)(z:Int),i+t=a+n / 4*2+2 /\ vs=[.int .i64 (i:Int)] /\ a <= i /\ zds a b G G' /\ zcy h0 hh [.sl E.es x (G'.map cs) R,.box (.ptr id 0 0) [.int .u64 z]]) 3 ?_ ⟨a+n / 4*2-1,G,_,by omega,rfl,by omega,zds.refl _ _ _,o1⟩;rintro Y t vs hh ⟨i,G1,z,hit,rfl,hai,W1,o2⟩ hY;have l1:=W1.len;simp -dsimp only[z9.l5,z9.k4,m4,m2,m5,zh3 (show a+n / 4*2<4611686018427387904 by omega),leqN,B.ze];refine B.zbc (λhe=>?_) (λhe=>hq hh G1 W1 (o2.sub (by simp)));rw[decide_eq_true_eq]at he;have oo:=zcy.out (l1:=[.sl E.es x (G1.map cs) R]) (l2:=[.box (.ptr id 0 0) [.int .u64 z]]) o2;simp -dsimp only[z9.k3];refine hn _ _ _ _ _ oo.2 λw z' h3 o3=>?_;have o4:=oo.1.join o3
 have s1:V.bin .sub (.int .u64 (m:Int)) (.int .u64 1)=some (.int .u64 ((m-1:Nat):Int)):=by
  rw[V.zld,show (m:Int)-1=((m-1:Nat):Int) by omega,wrapU (by omega)]
 obtain⟨ot,hot,ea⟩:=and_le (z:=w) (m:=m-1) (by omega);simp -dsimp only[s1,ea,toIN (show ot<4611686018427387904 by omega),B.ze,z9.k2,geqN];have fin:∀k:Nat,k<n->z9.k1 C E C0 fL f1 f2 Q Y x (.int .i64 (a:Int)) (.int .i64 (n:Int)) (.ptr id 0 0) (.int .u64 (m:Int)) (.int .i64 (i:Int)) (.int .i64 (k:Int)) h3:=λk hk=>by
  have la:a+k<G1.length:=by omega
  have li:i<G1.length:=by omega
  have op:=zcy.perm o4 (List.Perm.swap _ _ []);have oq:=zcy.out (l1:=[.box (.ptr id 0 0) [.int .u64 z']]) (l2:=[.sl E.es x (G1.map cs) R]) op;have orw:Rw E cs _ h3 x G1 R:=oq.2;simp -dsimp only[z9.k1,zr9 (show a+k<4611686018427387904 by omega),orw.idx la,orw.idx li,B.ze];refine orw.ld S (getElem?_eq_getElem la) ?_;refine orw.ld S (getElem?_eq_getElem li) ?_;refine orw.swap S li la λh5 o5=>?_;simp -dsimp only[zh3 (show i<4611686018427387904 by omega),B.ze];have o6:=oq.1.join o5;exact hY (a+n / 4*2+2-(i+1)) _ _ (by omega) ⟨i+1,_,z',by omega,rfl,by omega,W1.trans (zf1 li la (by omega) (by omega) (by omega) (by omega)),o6.perm (List.Perm.swap _ _ [])⟩
 refine B.zbc (λhf=>?_) (λhf=>?_)
 ·rw[decide_eq_true_eq]at hf
  simp -dsimp only[zlg hf (show ot<4611686018427387904 by omega),B.ze];exact fin (ot-n) (by omega)
 ·rw[decide_eq_false_iff_not]at hf
  exact fin ot (by omega)
end
section
variable{X:Type}{c:X->X->Int}{a b m A0 Z0:Nat}{G G':List X}
end
structure PdqI(C:z6)(E:zbj)(C0:z6)(fL:Nat)(f1 f2 f3 f4 f5 f6 f7 f8 f9 g1 g2 g3 g4 g5 g6:Nat):Prop where
 eq:I5 (zz.cps C E C0 fL) C f1
 part:I5 (zm.cps C E C0 fL) C f2
 pdq:I5 (zbh.cps C E C0 fL f1 f2 f3 f4 f5 f6 f7 f8 f9) C f3
 pis:I4 (zh.cps C E C0 fL) C f4
 rev:I4 (zea.cps C E C0 fL) C f5
 piv:I4 (zbi.cps C E C0 fL g2 g3) C f6
 brk:I4 (z9.cps C E C0 fL g5 g6) C f7
 heap:I4 (zdi.cps C E C0 fL g4) C f8
 ins:I4 (zc4.cps C E C0 fL) C f9
 ord:O2I C E C0 fL g1
 med:MedI C E C0 fL g1 g2
 adj:AdjI C E C0 fL g2 g3
 sift:SiftI C E C0 fL g4
 next:NextI C0 g5
 pow:PowI C0 g6
section
variable{E:zbj}{X:Type}{cs:X->List za}{v:X->za}{h0 h:zb}{x f:za}{G:List X}{R:List (List za)}{c:X->X->Int}{Q:zQ}{Y:zL}{f1 f2 f3 f4 f5 f6 f7 f8 f9 g1 g2 g3 g4 g5 g6:Nat}
theorem pdq_k1(J:PdqI C E C0 fL f1 f2 f3 f4 f5 f6 f7 f8 f9 g1 g2 g3 g4 g5 g6)(S:zem E cs v)(W:zpp (zfh c))(hc:zfd C0 v c fL h0){A0 Z0 a b:Nat}{G0:List X}{lim:Int}{w1 w2:Bool}{pv:Nat}(p:PS E cs h0 x R c A0 Z0 G0 a b G h)(hl:G.length <= 100000000)(hBl:Z0 <= G.length)
  (h1:a <= pv) (h2:pv<b)
  (rcs:∀(a' b':Nat)(lim:Int)(h:zb)(G:List X)(Q:zQ),b'-a'<b-a->a' <= b'->b' <= G.length->G.length <= 100000000->Pre c a' b' G->Rw E cs h0 h x G R->(∀h' G',zds a' b' G G'->Srt c a' b' G'->Rw E cs h0 h' x G' R->Q (.tup []) h') ->
   C f3 [x,.int .i64 (a':Int),.int .i64 (b':Int),.int .i64 lim,f] h Q)
  (hY:Go1 E cs h0 x R c A0 Z0 G0 (b-a) Y):
  zbh.k1 C E C0 fL f1 f2 f3 f4 f5 f6 f7 f8 f9 Q Y x (.int .i64 (a:Int)) (.int .i64 (b:Int)) (.int .i64 lim) f (.bool w1) (.bool w2) (.int .i64 ((b-a:Nat):Int)) (.int .i64 (pv:Int)) h:=by
 have hA:=p.hA;have hB:=p.hB;have o:=p.o;have lp:pv<G.length:=by omega
 have part:zbh.k1 C E C0 fL f1 f2 f3 f4 f5 f6 f7 f8 f9 Q Y x (.int .i64 (a:Int)) (.int .i64 (b:Int)) (.int .i64 lim) f (.bool w1) (.bool w2) (.int .i64 ((b-a:Nat):Int)) (.int .i64 (pv:Int)) h =
  zbh.k1 C E C0 fL f1 f2 f3 f4 f5 f6 f7 f8 f9 Q Y x (.int .i64 (a:Int)) (.int .i64 (b:Int)) (.int .i64 lim) f (.bool w1) (.bool w2) (.int .i64 ((b-a:Nat):Int)) (.int .i64 (pv:Int)) h:=rfl
 clear part;have part:C f2 [x,.int .i64 (a:Int),.int .i64 (b:Int),.int .i64 (pv:Int),f] h (λv111 h=>
  B.pv (V.ext 0 v111) λv112=>
  B.pv (V.ext 1 v111) λv113=>
  B.pv (V.bin .sub v112 (.int .i64 (a:Int))) λv117=>
  B.pv (V.bin .sub (.int .i64 (b:Int)) v112) λv120=>
  B.pv (V.bin .quo (.int .i64 ((b-a:Nat):Int)) (.int .i64 8)) λv122=>
  B.pv (V.bin .lss v117 v120) λv125=>
  B.cond v125
  (B.pv (V.bin .geq v117 v122) λv128=>
  B.call C f3 [x,.int .i64 (a:Int),v112,.int .i64 lim,f] h λv134 h=>
  B.pv (V.bin .add v112 (.int .i64 1)) λv136=>
  Y [v136,.int .i64 (b:Int),.int .i64 lim,v128,v113] h)
  (B.pv (V.bin .geq v120 v122) λv139=>
  B.pv (V.bin .add v112 (.int .i64 1)) λv142=>
  B.call C f3 [x,v142,.int .i64 (b:Int),.int .i64 lim,f] h λv146 h=>
  Y [.int .i64 (a:Int),v112,.int .i64 lim,v139,v113] h)):=by
  refine J.part _ _ _ _ _ _ _ (zt9 S hc o (by omega) h1 h2 (by omega) λh3 m G3 t pt W3 o3=>zbf ?_);have p3:=p.zh9 W3 o3;have l3:=W3.len;have m1:=pt.ge;have m2:=pt.lt;have q8:V.bin .quo (.int .i64 ((b-a:Nat):Int)) (.int .i64 8)=some (.int .i64 (((b-a) / 8:Nat):Int)):=by
   rw[V.bin_quo _ _ _ (by omega),show ((b-a:Nat):Int).tdiv 8=(((b-a) / 8:Nat):Int) from rfl,wrap_i64 (by omega) (by omega)]
  simp -dsimp only[V.zir,getElem?_cons_zero,getElem?_cons_succ,B.ze,zlg m1 (show m<4611686018427387904 by omega),zlg (show m <= b by omega) (show b<4611686018427387904 by omega),q8,zr3,geqN,zh3 (show m<4611686018427387904 by omega)];refine B.zbc (λhd=>?_) (λhd=>?_)
  ·simp -dsimp only[geqN,zh3 (show m<4611686018427387904 by omega),B.ze]
   refine rcs a m lim _ G3 _ (by omega) m1 (by omega) (by omega) (p3.pre.sub (by omega)) o3 λh4 G4 W4 s4 o4=>?_;have pt4:=pt.left W W4;have cut4:=(p3.cut.within (W4.mono (Nat.le_refl _) (by omega)) hA hB).left W pt4 s4;simp -dsimp only[zh3 (show m<4611686018427387904 by omega),B.ze];exact hY (m+1) b lim _ _ G4 h4 (by omega) ⟨by omega,by omega,hB,p3.W.trans (W4.mono hA (by omega)),cut4,cut4.pre (by omega) hB,o4⟩
  ·have c3:Pre c (m+1) b G3:=λh0 i k1 k2 k3 k4=>pt.pair W (p:=m+1-1) (q:=i) (by omega) (by omega) k2 (by omega) (by omega) k4 k3
   simp -dsimp only[geqN,zh3 (show m<4611686018427387904 by omega),B.ze];refine rcs (m+1) b lim _ G3 _ (by omega) (by omega) (by omega) (by omega) c3 o3 λh4 G4 W4 s4 o4=>?_;have pt4:=pt.right W W4;have W4':zds a b G3 G4:=W4.mono (by omega) (Nat.le_refl _);have cut4:=(p3.cut.within W4' hA hB).right W pt4 s4;exact hY a m lim _ _ G4 h4 (by omega) ⟨hA,m1,by omega,p3.W.trans (W4.mono (by omega) hB),cut4,(p3.pre.within W4').sub (by omega),o4⟩
 simp -dsimp only[zbh.k1];have g0:V.bin .gtr (.int .i64 (a:Int)) (.int .i64 0)=some (.bool (decide (0<a))):=gtrN (b:=0);simp -dsimp only[g0,B.ze];by_cases ha:0<a
 ·have la:a-1<G.length:=by omega
  simp -dsimp only[ha,decide_true,B.zgx,B.zbg,sub1 (show 1 <= a by omega) (show a<4611686018427387904 by omega),o.idx la,o.idx lp,B.ze];refine o.ld S (getElem?_eq_getElem la) ?_;refine o.ld S (getElem?_eq_getElem lp) ?_;refine hc.call _ _ _ _ o.le ?_;simp -dsimp only[ha,decide_true,B.zgx,B.zbg,V.zfi,V.zgj,B.ze8,B.ze];refine B.zbc (λhe=>?_) (λhe=>part);have hd:¬ c G[a-1] G[pv]<0:=by simpa using he
  refine J.eq _ _ _ _ _ _ _ (zpa S hc o (by omega) h1 h2 (by omega) λh3 i j G3 pe hji W3 e3 o3=>zbf ?_);have p3:=p.zh9 W3 o3;have l3:=W3.len;have k1:=pe.hi;have k2:=pe.hij;have k3:=pe.hj
  have cut4:=p3.cut.equal W pe hji ha p3.pre (by omega) λq1 q2=>by
   rw[e3 q2 lp,W3.same (.inl (by omega)) q1 la];exact hd
  exact hY i b lim _ _ G3 h3 (by omega) ⟨by omega,by omega,hB,p3.W,cut4,cut4.pre (by omega) hB,o3⟩
 ·simp -dsimp only[ha,decide_false,B.zgx,B.zgl,B.zhc,B.cond_false]
  exact part
theorem pdq_spec(J:PdqI C E C0 fL f1 f2 f3 f4 f5 f6 f7 f8 f9 g1 g2 g3 g4 g5 g6)(S:zem E cs v)(W:zpp (zfh c))(hc:zfd C0 v c fL h0):∀(n:Nat)(A0 Z0:Nat)(lim:Int)(h:zb)(G:List X)(Q:zQ),Z0-A0=n->A0 <= Z0->Z0 <= G.length->G.length <= 100000000->Pre c A0 Z0 G->Rw E cs h0 h x G R ->
  (∀h' G',zds A0 Z0 G G'->Srt c A0 Z0 G'->Rw E cs h0 h' x G' R->Q (.tup []) h')->zbh.cps C E C0 fL f1 f2 f3 f4 f5 f6 f7 f8 f9 x (.int .i64 (A0:Int)) (.int .i64 (Z0:Int)) (.int .i64 lim) f h Q:=by
 intro n
 induction n using Nat.strongRecOn with
 | ind n ih=>
 intro A0 Z0 lim h G0 Q hn hAB hBl hl hpre ho hq;simp -dsimp only[zbh.cps];refine zq.intro (λt vs hh=>∃(a b:Nat)(lim:Int)(w1 w2:Bool)(G:List X),t=b-a /\ vs=[.int .i64 (a:Int),.int .i64 (b:Int),.int .i64 lim,.bool w1,.bool w2] /\ PS E cs h0 x R c A0 Z0 G0 a b G hh) (Z0-A0) ?_
  ⟨A0,Z0,lim,true,true,G0,rfl,rfl,⟨Nat.le_refl _,hAB,Nat.le_refl _,zds.refl _ _ _,λp q _ _ _ k=>by omega,hpre,ho⟩⟩
 rintro Y t vs hh ⟨a,b,lim,w1,w2,G,rfl,rfl,p⟩ hY';have hY:Go1 E cs h0 x R c A0 Z0 G0 (b-a) Y:=λa' b' lim' w1' w2' G' h' hlt p'=>hY' (b'-a') _ _ hlt ⟨a',b',lim',w1',w2',G',rfl,rfl,p'⟩;clear hY';have hA:=p.hA;have hab:=p.hab;have hB:=p.hB;have lG:=p.W.len;have rcs:∀(a' b':Nat)(lim:Int)(h:zb)(G:List X)(Q:zQ),b'-a'<b-a->a' <= b'->b' <= G.length->G.length <= 100000000->Pre c a' b' G->Rw E cs h0 h x G R->(∀h' G',zds a' b' G G'->Srt c a' b' G'->Rw E cs h0 h' x G' R->Q (.tup []) h') ->
   C f3 [x,.int .i64 (a':Int),.int .i64 (b':Int),.int .i64 lim,f] h Q:=λa' b' lim h G Q k1 k2 k3 k4 k5 k6 k7=>
  J.pdq _ _ _ _ _ _ _ (ih (b'-a') (by omega) a' b' lim h G _ rfl k2 k3 k4 k5 k6 λh' G' w s o=>zbf (k7 h' G' w s o))
 have fin:∀{hh G G2},PS E cs h0 x R c A0 Z0 G0 a b G hh->∀h',zds a b G G2->Srt c a b G2->Rw E cs h0 h' x G2 R->Q (.tup []) h':=λp h' w s o=>by
  have p2:=p.zh9 w o;exact hq h' _ p2.W (p2.cut.join s) o
 have e12:V.bin .leq (.int .i64 ((b-a:Nat):Int)) (.int .i64 12)=some (.bool (decide (b-a <= 12))):=leqN (b:=12);simp -dsimp only[zbh.l8,zlg hab (show b<4611686018427387904 by omega),B.ze,zbh.k7,e12];refine B.zbc (λhd=>?_) (λhd=>?_)
 ·exact J.ins _ _ _ _ _ _ (insertion_srt S W hc p.o (by omega) hab (by omega) λh' G' w s o=>zbf (fin p h' w s o))
 rw[decide_eq_false_iff_not]at hd;simp -dsimp only[zbh.k6,V.zhr,B.ze];refine B.zbc (λ_=>?_) (λ_=>?_)
 ·exact J.heap _ _ _ _ _ _ (heapSort_spec J.sift S W hc p.o (by omega) (by omega) (by omega) λh' G' w s o=>zbf (fin p h' w s o))
 have k4:∀{hh G}(lim:Int),PS E cs h0 x R c A0 Z0 G0 a b G hh->zbh.k4 C E C0 fL f1 f2 f3 f4 f5 f6 f7 f8 f9 Q Y x (.int .i64 (a:Int)) (.int .i64 (b:Int)) (.int .i64 lim) f (.bool w1) (.bool w2) (.int .i64 ((b-a:Nat):Int)) hh:=λ{hh G} lim p=>by
  have lG:=p.W.len;simp -dsimp only[zbh.k4];refine J.piv _ _ _ _ _ _ (zr7 J.ord J.med J.adj S (zcy.zhs p.o 0 rfl) p.o.le hc (by omega) (by omega) (by omega) λm hint h2 m1 m2 hle=>zbf ?_);have p2:PS E cs h0 x R c A0 Z0 G0 a b G h2:=⟨p.hA,p.hab,p.hB,p.W,p.cut,p.pre,zcy.grow p.o hle⟩;simp -dsimp only[V.zir,getElem?_cons_zero,getElem?_cons_succ,B.ze,zbh.k3,V.zhr];have k2:∀{hh G}(pv:Nat)(hint:Int),a <= pv->pv<b->PS E cs h0 x R c A0 Z0 G0 a b G hh->zbh.k2 C E C0 fL f1 f2 f3 f4 f5 f6 f7 f8 f9 Q Y x (.int .i64 (a:Int)) (.int .i64 (b:Int)) (.int .i64 lim) f (.bool w1) (.bool w2) (.int .i64 ((b-a:Nat):Int)) (.int .i64 (pv:Int)) (.int .i64 hint) hh:=λ{hh G} pv hint q1 q2 p=>by
   have lG:=p.W.len;have go:=pdq_k1 (Q:=Q) (lim:=lim) (w1:=w1) (w2:=w2) J S W hc p (by omega) (by omega) q1 q2 rcs hY;simp -dsimp only[zbh.k2];have two:B.cond (.bool true) (B.call C f4 [x,.int .i64 (a:Int),.int .i64 (b:Int),f] hh λv80 h=>
     B.cond v80 (Q (.tup []) h) (zbh.k1 C E C0 fL f1 f2 f3 f4 f5 f6 f7 f8 f9 Q Y x (.int .i64 (a:Int)) (.int .i64 (b:Int)) (.int .i64 lim) f (.bool w1) (.bool w2) (.int .i64 ((b-a:Nat):Int)) (.int .i64 (pv:Int)) h))
     (zbh.k1 C E C0 fL f1 f2 f3 f4 f5 f6 f7 f8 f9 Q Y x (.int .i64 (a:Int)) (.int .i64 (b:Int)) (.int .i64 lim) f (.bool w1) (.bool w2) (.int .i64 ((b-a:Nat):Int)) (.int .i64 (pv:Int)) hh):=by
    rw[B.cond_true];refine J.pis _ _ _ _ _ _ (zla S W hc p.o (by omega) (by omega) (by omega) p.pre λh' G' t w s o=>zbf ?_);have p':=p.zh9 w o;have lG':=p'.W.len;refine B.zbc (λht=>fin p h' w (s ht) o) (λ_=>?_);exact pdq_k1 (Q:=Q) (lim:=lim) (w1:=w1) (w2:=w2) J S W hc p' (by omega) (by omega) q1 q2 rcs hY
   cases w1<;>cases w2
   ·simp -dsimp only[B.zgx,B.zgl,B.zhc,B.cond_false];exact go
   ·simp -dsimp only[B.zgx,B.zgl,B.zhc,B.cond_false];exact go
   ·simp -dsimp only[B.zgx,B.zbg,B.zgl,B.ze8,B.zhc,B.cond_false];exact go
   ·by_cases hh1:hint=1
    ·simp -dsimp only[B.zgx,B.zbg,V.zhr,hh1,decide_true,B.ze,B.ze8];exact two
    ·simp -dsimp only[B.zgx,B.zbg,V.zhr,hh1,decide_false,B.ze,B.ze8,B.cond_false];exact go
  refine B.zbc (λ_=>?_) (λ_=>k2 m hint m1 m2 p2);refine J.rev _ _ _ _ _ _ (zqr S (by omega) p2.o (by omega) (by omega) λh3 G3 w3 o3=>zbf ?_);simp -dsimp only[sub1 (show 1 <= b by omega) (show b<4611686018427387904 by omega),zlg m1 (show m<4611686018427387904 by omega),zlg (show m-a <= b-1 by omega) (show b-1<4611686018427387904 by omega),B.ze];exact k2 (b-1-(m-a)) 1 (by omega) (by omega) (p2.zh9 w3 o3)
 simp -dsimp only[zbh.k5,V.zgj,B.ze];refine B.zbc (λ_=>?_) (λ_=>k4 lim p);refine J.brk _ _ _ _ _ _ (zqg J.next J.pow S p.o (by omega) hab (by omega) λh' G' w o=>zbf ?_);simp -dsimp only[V.zld,B.ze];exact k4 _ (p.zh9 w o)
end
end Go.Ab.Ord
namespace Go.Ab
open List
def Cst(C:z6):z6:=λf args h Q=>C f args.dropLast h Q
abbrev J4(F:za->za->za->za->zb->(zQ)->Prop)(C:z6)(n:Nat):Prop:=∀(v0 v1 v2 v3:za)(h:zb)(Q:zQ),F v0 v1 v2 v3 h (dn Q)->C n [v0,v1,v2,v3] h Q
abbrev J3(F:za->za->za->zb->(zQ)->Prop)(C:z6)(n:Nat):Prop:=∀(v0 v1 v2:za)(h:zb)(Q:zQ),F v0 v1 v2 h (dn Q)->C n [v0,v1,v2] h Q
structure OrdI(C:z6)(E:zbj)(fL e p q s r v b k n ad md o2 sd nx pw:Nat):Prop where
 eq:J4 (zk.cps C E fL) C e
 part:J4 (zf.cps C E fL) C p
 pdq:J4 (zp.cps C E fL e p q s r v b k n) C q
 pis:J3 (zd.cps C E fL) C s
 rev:J3 (zb3.cps C E) C r
 piv:J3 (zt.cps C E ad md) C v
 brk:J3 (zi.cps C E nx pw) C b
 heap:J3 (z7.cps C E sd) C k
 ins:J3 (zbb.cps C E fL) C n
 adj:J3 (zez.cps C E md) C ad
 med:∀(v0 v1 v2 v3 v4:za)(h:zb)(Q:zQ),ze3.cps C E o2 v0 v1 v2 v3 v4 h (dn Q)->C md [v0,v1,v2,v3,v4] h Q
 ord:J4 (ze2.cps C E fL) C o2
 sift:J4 (zbe.cps C E fL) C sd
 next:NextI C nx
 pow:PowI C pw
theorem e4{F:za->za->za->za->za->zb->(zQ)->Prop}{G:za->za->za->za->zb->(zQ)->Prop}{C:z6}{f:Nat}(i:J4 G C f)(e:∀v0 v1 v2 v3 v4 h Q,F v0 v1 v2 v3 v4 h Q=G v0 v1 v2 v3 h Q):I5 F (Cst C) f:=
 λv0 v1 v2 v3 v4 h Q x=>i v0 v1 v2 v3 h Q (by rw[<-e v0 v1 v2 v3 v4];exact x)
theorem e3{F:za->za->za->za->zb->(zQ)->Prop}{G:za->za->za->zb->(zQ)->Prop}{C:z6}{f:Nat}(i:J3 G C f)(e:∀v0 v1 v2 v3 h Q,F v0 v1 v2 v3 h Q=G v0 v1 v2 h Q):I4 F (Cst C) f:=
 λv0 v1 v2 v3 h Q x=>i v0 v1 v2 h Q (by rw[<-e v0 v1 v2 v3];exact x)
section
variable{C:z6}{E:zbj}{fL e p q s r v b k n ad md o2 sd nx pw:Nat}
theorem t_eq:∀v0 v1 v2 v3 v4 h Q,zz.cps (Cst C) E C fL v0 v1 v2 v3 v4 h Q=zk.cps C E fL v0 v1 v2 v3 h Q:=by intros;kernel_rfl
theorem t_part:∀v0 v1 v2 v3 v4 h Q,zm.cps (Cst C) E C fL v0 v1 v2 v3 v4 h Q=zf.cps C E fL v0 v1 v2 v3 h Q:=by intros;kernel_rfl
theorem t_pdq:∀v0 v1 v2 v3 v4 h Q,zbh.cps (Cst C) E C fL e p q s r v b k n v0 v1 v2 v3 v4 h Q=zp.cps C E fL e p q s r v b k n v0 v1 v2 v3 h Q:=by intros;kernel_rfl
theorem t_pis:∀v0 v1 v2 v3 h Q,zh.cps (Cst C) E C fL v0 v1 v2 v3 h Q=zd.cps C E fL v0 v1 v2 h Q:=by intros;kernel_rfl
theorem t_rev:∀v0 v1 v2 v3 h Q,zea.cps (Cst C) E C fL v0 v1 v2 v3 h Q=zb3.cps C E v0 v1 v2 h Q:=by intros;kernel_rfl
theorem t_piv:∀v0 v1 v2 v3 h Q,zbi.cps (Cst C) E C fL md ad v0 v1 v2 v3 h Q=zt.cps C E ad md v0 v1 v2 h Q:=by intros;kernel_rfl
theorem t_brk:∀v0 v1 v2 v3 h Q,z9.cps (Cst C) E C fL nx pw v0 v1 v2 v3 h Q=zi.cps C E nx pw v0 v1 v2 h Q:=by intros;kernel_rfl
theorem t_heap:∀v0 v1 v2 v3 h Q,zdi.cps (Cst C) E C fL sd v0 v1 v2 v3 h Q=z7.cps C E sd v0 v1 v2 h Q:=by intros;kernel_rfl
theorem t_ins:∀v0 v1 v2 v3 h Q,zc4.cps (Cst C) E C fL v0 v1 v2 v3 h Q=zbb.cps C E fL v0 v1 v2 h Q:=by intros;kernel_rfl
theorem t_adj:∀v0 v1 v2 v3 h Q,zep.cps (Cst C) E C fL md v0 v1 v2 v3 h Q=zez.cps C E md v0 v1 v2 h Q:=by intros;kernel_rfl
theorem t_med:∀v0 v1 v2 v3 v4 v5 h Q,zgu.cps (Cst C) E C fL o2 v0 v1 v2 v3 v4 v5 h Q=ze3.cps C E o2 v0 v1 v2 v3 v4 h Q:=by intros;kernel_rfl
theorem t_ord:∀v0 v1 v2 v3 v4 h Q,zgt.cps (Cst C) E C fL v0 v1 v2 v3 v4 h Q=ze2.cps C E fL v0 v1 v2 v3 h Q:=by intros;kernel_rfl
theorem t_sift:∀v0 v1 v2 v3 v4 h Q,zdh.cps (Cst C) E C fL v0 v1 v2 v3 v4 h Q=zbe.cps C E fL v0 v1 v2 v3 h Q:=by intros;kernel_rfl
theorem OrdI.toT(J:OrdI C E fL e p q s r v b k n ad md o2 sd nx pw):Ord.PdqI (Cst C) E C fL e p q s r v b k n o2 md ad sd nx pw where
 eq:=e4 J.eq t_eq
 part:=e4 J.part t_part
 pdq:=e4 J.pdq t_pdq
 pis:=e3 J.pis t_pis
 rev:=e3 J.rev t_rev
 piv:=e3 J.piv t_piv
 brk:=e3 J.brk t_brk
 heap:=e3 J.heap t_heap
 ins:=e3 J.ins t_ins
 ord:=e4 J.ord t_ord
 med:=λv0 v1 v2 v3 v4 v5 h Q x=>J.med v0 v1 v2 v3 v4 h Q (by rw[<-t_med (C:=C) (fL:=fL) v0 v1 v2 v3 v4 v5];exact x)
 adj:=e3 J.adj t_adj
 sift:=e4 J.sift t_sift
 next:=J.next
 pow:=J.pow
theorem Sort_spec{X:Type}{cs:X->List za}{v':X->za}{h0 h:zb}{x:za}{G:List X}{R:List (List za)}{c:X->X->Int}{Q:zQ}{fl:Nat}(J:OrdI C E fL e p q s r v b k n ad md o2 sd nx pw)(hlen:LenI C fl)(S:zem E cs v')(W:zpp (zfh c))
  (hc:Ord.zfd C v' c fL h0) (hl:G.length <= 100000000) (ho:Rw E cs h0 h x G R) (hq:∀h' G',G'.Perm G->G'.Pairwise (λs t=>¬ c t s<0)->Rw E cs h0 h' x G' R->Q (.tup []) h'):zhl.cps C E fl q x h Q:=by
 simp -dsimp only[zhl.cps,zhl.k1,ho.lenE,toUN (show G.length<18446744073709551616 by omega),B.ze];refine hlen _ _ _ hl λr hr _=>?_;refine J.pdq _ _ _ _ _ _ ?_;rw[<-t_pdq (C:=C) _ _ _ _ .nilf];refine Ord.pdq_spec J.toT S W hc _ 0 G.length r h G _ rfl (by omega) (Nat.le_refl _) hl (λh=>by omega) ho λh' G' w s o=>zbf ?_;refine hq h' G' w.perm ?_ o;rw[pairwise_iff_getElem];intro i j hi hj hij;have:=w.len;exact s i j (by omega) hij (by omega) hi hj
end
variable{C:z6}
theorem zcy.frame(hC:zrc C){h0 h:zb}{l:List Ob}(ho:zcy h0 h l){f:Nat}{args:List za}{K K':zQ}(x:C f args h0 K)(hk:∀v h1 h',K v h1->zcy h1 h' l->K' v h'):C f args h K':=
 hC.mono _ _ _ _ _ (λv h' ⟨h1,k1,k2,k3⟩=>hk v h1 h' k1 ⟨k2,λo hm=>(ho.is o hm).zia λi b hf hb=>(k3 i (ho.own o hm i hf).1 b hb).1,
  λo hm i hf=>by
   obtain⟨b,hb⟩:=(ho.is o hm).known hf
   obtain⟨m1,m2⟩:=k3 i (ho.own o hm i hf).1 b hb
   exact⟨m2,λc hc=>by rw[m1]at hc;cases hc;exact(ho.own o hm i hf).2 b hb⟩,ho.apart⟩) (hC.frame _ _ _ _ _ ho.le x)
theorem RK.here{k:Nat}{p:zb->Prop}{r:List (Nat×(zb->Prop))}{h:zb}(x:p h):RK ((k,p)::r) k h:= .inl ⟨rfl,x⟩
theorem B.callv_yld{id:Nat}{args:List za}{h:zb}{K:zQ}:B.zmf h C (.yld id) args K=C zmz (mkY id::args) h K:=rfl
variable{C:z6}{N:zN}
abbrev icl(a:Int):List za:=[.int .i64 a]
def cmpI(a b:Int):Int:=if a<b then -1 else 1
theorem cmpI_lt{a b:Int}:cmpI a b<0↔a<b:=by unfold cmpI;split<;>simp_all
theorem weakI:zpp (zfh cmpI):=by
 constructor<;>simp only[zfh,decide_eq_true_eq,decide_eq_false_iff_not,cmpI_lt]<;>omega
theorem seqI:zem (zdd 8 (.int .i64 0) 0) icl (λa:Int=>za.int .i64 a):=seqS (by omega) λ_=>rfl
variable{C:z6}{N:zN}
def zdy.Spec(C:z6)(N:zN):Prop:=∀(a:Int)(h:zb)(Q:zQ),Q (.bool false) h->C (N 546) [.int .i64 a] h Q
theorem zdy.spec(i:zdy.Imp C N):zdy.Spec C N:=by
 intro a h Q hq;apply i;simp -dsimp;exact zbf hq
def zdu.Spec(C:z6)(N:zN):Prop:=∀(a b:Int)(h:zb)(Q:zQ),Q (.bool (decide (a<b))) h->C (N 534) [.int .i64 a,.int .i64 b] h Q
theorem zdu.spec(i:zdu.Imp C N)(s1:zdy.Spec C N):zdu.Spec C N:=by
 intro a b h Q hq;apply i;simp -dsimp;refine s1 _ _ _ ?_;simp -dsimp;exact zbf hq
def zbq.Spec(C:z6)(N:zN):Prop:=∀(h0 h:zb)(x:za)(L:List Int)(R:List (List za))(Q:zQ),zcy h0 h [.sl 1 x (L.map icl) R]->L.length <= 100000000->(∀h' (L':List Int),L'.Perm L->L'.Pairwise (λs t=>s <= t)->zcy h0 h' [.sl 1 x (L'.map icl) R]->Q (.tup []) h')->C (N 511) [x] h Q
theorem zbq.spec(i:zbq.Imp C N)(j1:zby.Imp C N)(j2:zcm.Imp C N)(j3:zc1.Imp C N)(j4:zbl.Imp C N)
  (j5:zb7.Imp C N) (j6:zca.Imp C N) (j7:zb5.Imp C N) (j8:zcv.Imp C N) (j9:zb4.Imp C N) (k1:zbz.Imp C N)
  (k2:zc9.Imp C N) (k3:zc8.Imp C N) (k4:zct.Imp C N) (k5:NextI C (N 298)) (k6:PowI C (N 299)) (hl:LenI C (N 287)) (s1:zdu.Spec C N):zbq.Spec C N:=by
 intro h0 h x L R Q ho hlen hq;have J:OrdI C (zdd 8 (.int .i64 0) 0) (N 534) (N 535) (N 536) (N 531) (N 537) (N 538) (N 539) (N 540) (N 541) (N 542) (N 544) (N 545) (N 547) (N 543) (N 298) (N 299):=⟨j1,j2,j3,j4,j5,j6,j7,j8,j9,k1,k2,k3,k4,k5,k6⟩;have hc:Ord.zfd C (λa:Int=>za.int .i64 a) cmpI (N 534) h0:=⟨λh' a b K _ hk=>s1 _ _ _ _ (by rw[show decide (a<b)=decide (cmpI a b<0) from decide_eq_decide.2 cmpI_lt.symm];exact hk)⟩;refine i _ _ _ (Sort_spec J hl seqI weakI hc hlen (show Rw _ _ _ _ _ _ _ from ho) λh' G' hp hs o'=>zbf (hq h' G' hp (hs.imp λ{a b} hab=>?_) o'));rw[cmpI_lt]at hab;omega
theorem zo5:∀{S T:List Int},S.Perm T->S.Pairwise (λs t=>s <= t)->T.Pairwise (λs t=>s <= t)->S=T
 | [],T,hp,_,_=>by rw[List.Perm.nil_eq hp]
 | a::S,[],hp,_,_=>by have:=hp.length_eq;simp at this
 | a::S,b::T,hp,h1,h2=>by
  rw[pairwise_cons]at h1 h2;have e:a=b:=by
   have m1:a∈b::T:=hp.subset (mem_cons_self ..);have m2:b∈a::S:=hp.symm.subset (mem_cons_self ..);rcases mem_cons.1 m1 with e|m1
   ·exact e
   ·rcases mem_cons.1 m2 with e|m2
    ·exact e.symm
    ·have:=h1.1 b m2;have:=h2.1 a m1;omega
  subst e;rw[zo5 (perm_cons a |>.1 hp) h1.2 h2.2]
def insJ(a:Int):List Int->List Int|[]=>[a]|b::r=>if a <= b then a::b::r else b::insJ a r
def zi0:List Int->List Int|[]=>[]|a::r=>insJ a (zi0 r)
theorem ztq(a:Int):∀l,(insJ a l).Perm (a::l)
 | []=> .refl _
 | b::r=>by
  unfold insJ
  split
  ·exact .refl _
  ·exact((ztq a r).cons b).trans (.swap ..)
theorem zgq:∀l,(zi0 l).Perm l|[]=> .refl _|a::r=>(ztq a _).trans ((zgq r).cons a)
theorem ztp{a:Int}:∀{l:List Int},l.Pairwise (λs t=>s <= t)->(insJ a l).Pairwise (λs t=>s <= t)
 | [],_=>pairwise_singleton _ _
 | b::r,h=>by
  have h':=h
  rw[pairwise_cons]at h
  unfold insJ
  split
  ·rename_i hab
   refine pairwise_cons.2 ⟨λc hc=>?_,h'⟩
   rcases mem_cons.1 hc with rfl|hc
   ·exact hab
   ·have:=h.1 c hc;omega
  ·rename_i hab
   refine pairwise_cons.2 ⟨λc hc=>?_,ztp h.2⟩
   rcases mem_cons.1 ((ztq a r).subset hc) with rfl|hc
   ·omega
   ·exact h.1 c hc
theorem zjt:∀l,(zi0 l).Pairwise (λs t=>s <= t)|[]=> .nil|a::r=>ztp (zjt r)
theorem sortJ_of{S T:List Int}(hp:S.Perm T)(hs:S.Pairwise (λs t=>s <= t)):S=zi0 T:=zo5 (hp.trans (zgq T).symm) hs (zjt T)
theorem sortJ_of'{S T:List Int}(hp:S.Perm T)(hs:S.Pairwise (λs t=>s <= t)):S=zi0 T:=sortJ_of hp hs
variable{C:z6}{N:zN}
def zmn(p:Nat)(ps:ze9 Nam Int)(t:Int)(e:Int×Wk×Nat):Bool:=decide (e.2.1.p≠p)&&zmm e.2.1 ps t
def keptL(s:Lk)(p:Nat)(ps:ze9 Nam Int)(t:Int):List Int:=zi0 ((s.W.filter (zmn p ps t)).map (·.1))
def zbm.Spec(C:z6)(N:zN):Prop:=∀(h:zb)(s:Lk)(p b:Nat)(cs:List za)(ps:ze9 Nam Int)(t:Int)(Q:zQ),s.At h->s.Ok->s.W.length <= 100000->h p=some (zdr cs)->zsa h b ps->(∀x' h',zcy h h' [.sl 1 x' ((keptL s p ps t).map icl) []]->Q x' h')->C (N 506) [.ptr s.l 0 0,.ptr p 0 0,.mp b,.int .i64 t] h Q
theorem zbm.spec(i:zbm.Imp C N)(s1:zc7.Spec C N)(s2:zbq.Spec C N):zbm.Spec C N:=by
 intro h s p b cs ps t Q hs hk hlen hp hb hq;apply i;simp -dsimp only[zbm.cps,zbm.k4];intro i5 h5;have o1:=(zcy.start h).zor h5 [.ptr p 0 0];intro i6 h6;have o2:=o1.zor h6 [.mp b];intro i7 h7;have o3:=o2.zor h7 [.int .i64 t];have o4:=o3.zdo 1;generalize hh:upd (upd (upd h i5 (zdr [za.ptr p 0 0])) i6 (zdr [za.mp b])) i7 (zdr [za.int IntKind.i64 t])=h3 at o4 ⊢;have hs3:=hs.mono o4.le;have e1:=zeq (k:=0) hs3.1 rfl;simp -dsimp only[zbm.k3,B.zb9,V.fieldAddr,Nat.zero_add,B.ze,B.zeo,e1];refine zcy.zuv (κ:=wV) (v:=pV) (ps:=s.W) (c:=s.c) (J:=λD l vs=>∃out',vs=[out'] /\ l=[.box (.ptr i5 0 0) [.ptr p 0 0],.box (.ptr i6 0 0) [.mp b],.box (.ptr i7 0 0) [.int .i64 t],.sl 1 out' (((D.filter (zmn p ps t)).map (·.1)).map icl) []])
  (REST:=λit vs v h Y=>match vs with
   | [v10]=>B.pv (V.ext 0 v) λv20=>B.cond v20
    (B.pv (A.zgp h it) λv21=>B.pv (V.ext 0 v21) λv22=>B.pv (V.ext 1 v21) λv23=>
     B.zmf h C (.fn (N 523) [] [.ptr i5 0 0,.ptr i6 0 0,.ptr i7 0 0]) [v23] λv26 h=>B.cond v26
     (B.zha h (zeu [(0,none,v22)] (zhu 1 [.int .i64 0])) λi29 h=>B.zjc h 1 8 v10 (.sl i29 0 0 1 1 1) λv30 h=>Y [v30] h) (Y [v10] h))
    (B.call C (N 511) [v10] h λv32 h=>dn Q v10 h)
   | _=>False) o4 hs.2.1 hk.zvf ⟨.zdo,rfl,rfl⟩ ?_ ?_ ?_
 ·rintro it vs h4 Y D l ⟨out',rfl,_⟩ hn
  exact hn
 ·rintro it h4 D l bb Y vs ⟨out',rfl,rfl⟩ hpm ho
  simp -dsimp only[V.zir,getElem?_cons_zero,B.ze,B.cond_false];have hsub:zcy h h4 [.sl 1 out' (((D.filter (zmn p ps t)).map (·.1)).map icl) []]:=ho.sub (.cons _ (.cons _ (.cons _ (.cons_cons _ (nil_sublist _)))));have hl:((D.filter (zmn p ps t)).map (·.1)).length <= 100000000:=by
   have h1:=length_filter_le (zmn p ps t) D;have h2:=hpm.length_eq;rw[length_map];omega
  refine s2 h h4 out' _ [] _ hsub hl λh5 L' hL hS o5=>?_;have e:L'=keptL s p ps t:=sortJ_of' (hL.trans ((hpm.filter _).map _)) hS;rw[e]at o5;exact zbf (hq _ _ o5)
 ·rintro it h4 D l bb Y vs q hqm ⟨out',rfl,rfl⟩ hsub hqD hDl ho he hY
  simp -dsimp only[V.zir,getElem?_cons_zero,getElem?_cons_succ,B.ze,B.cond_true,he];rw[B.callv_fn];obtain⟨j5,e5,b5⟩:=ho.zr8 0 rfl;obtain⟨j6,e6,b6⟩:=ho.zr8 1 rfl;obtain⟨j7,e7,b7⟩:=ho.zr8 2 rfl;cases e5;cases e6;cases e7;refine s1 h4 q.2.1 p b i5 i6 i7 cs ps t _ ((hs.mono ho.le).2.2 q hqm) (ho.le _ _ hp) (hb.mono ho.le) b5 b6 b7 ?_;refine B.zbc (λhd=>?_) (λhd=>?_)
  ·have hd':zmn p ps t q=true:=hd
   have hf:zeu [(0,none,wV q.1)] (zhu 1 [.int .i64 0])=some [.int .i64 q.1]:=rfl;simp -dsimp only[hf];have hl:=length_filter_le (zmn p ps t) D;refine ho.push 3 rfl (cs:=[.int .i64 q.1]) rfl (by omega) (by simp;omega) (by simp[maxLen];omega) λout2 h5 o5 _=>?_;refine hY h5 [.box (.ptr i5 0 0) [.ptr p 0 0],.box (.ptr i6 0 0) [.mp b],.box (.ptr i7 0 0) [.int .i64 t],.sl 1 out2 ((((D++[q]).filter (zmn p ps t)).map (·.1)).map icl) []] _ ⟨out2,rfl,rfl⟩ ?_;rw[filter_append,map_append,map_append];simp only[List.filter,hd',map_cons,map_nil];exact o5
  ·have hd':zmn p ps t q=false:=hd
   refine hY h4 _ _ ⟨out',rfl,rfl⟩ ?_;rw[filter_append];simp only[List.filter,hd',append_nil];exact ho
variable{C:z6}{N:zN}
theorem lkpW{h:zb}{m c:Nat}{W:ze9 Int Wk}(hb:h m=some (zfm (zjs wV pV W) c))(k:Int):A.lkp h (some .i) (some .zm8) false (.mp m) (.int .i64 k)=some (match zii W k with|some w=> .ptr w.p 0 0|none=> .zm8):=by
 have hf:=znd (v:=pV) keyI k W 0;simp only[A.lkp,A.entries,zjw hb,zqd];rw[show V.zud .i (.int .i64 k) (zjs wV pV W) 0=_ from hf];cases zpt W k with
 | none=>rfl
 | some x=>rfl
def zc5.Spec(C:z6)(N:zN):Prop:=∀(h:zb)(s:Lk)(Q:zQ),s.At h->Q (.bool true) h->C (N 505) [.ptr s.l 0 0] h Q
theorem zc5.spec(i:zc5.Imp C N):zc5.Spec C N:=by
 intro h s Q hs hq;apply i;have e1:=zeq (k:=0) hs.1 rfl;have ep:V.zif .neq (.ptr s.l 0 0) .zm8=some (.bool true):=rfl;have em:V.eqMap .neq (.mp s.m) .zri=some (.bool true):=rfl;simp +contextual -dsimp[e1,ep,em,V.fieldAddr];exact zbf hq
def zfe(s:Lk)(k:Int):List Int:=
 match zii s.W k with
 | none=>[]
 | some w=>if w.zh9=0 then [] else keptL s w.p w.zf5 w.zh9
def zcd.Spec(C:z6)(N:zN):Prop:=∀(h:zb)(s:Lk)(k:Int)(Q:zQ),s.At h->s.Ok->s.W.length <= 100000->(∀x' h',zcy h h' [.sl 1 x' ((zfe s k).map icl) []]->Q x' h')->C (N 491) [.ptr s.l 0 0,.int .i64 k] h Q
theorem zcd.spec(i:zcd.Imp C N)(s1:zc5.Spec C N)(s2:zbm.Spec C N):zcd.Spec C N:=by
 intro h s k Q hs hk hlen hq;apply i;have e1:=zeq (k:=0) hs.1 rfl;have el:=lkpW hs.2.1 k;refine s1 h s _ hs ?_;cases ew:zii s.W k with
 | none=>
  rw[ew]at el;have ep:V.zif .eql .zm8 .zm8=some (.bool true):=rfl;simp +contextual -dsimp[e1,el,ep,V.fieldAddr];have hw:zfe s k=[]:=by simp[zfe,ew]
  rw[hw]at hq;exact zbf (hq _ _ ((zcy.start h).zdo 1))
 | some w=>
  rw[ew]at el;obtain⟨n,hn⟩:=zjr ew;have hw:=hs.2.2 _ hn;have f1:=zeq (k:=1) hw.1 rfl;have f2:=zeq (k:=2) hw.1 rfl;have ep:V.zif .eql (.ptr w.p 0 0) .zm8=some (.bool false):=rfl;simp +contextual -dsimp[e1,el,ep,f1,f2,V.fieldAddr];refine B.zbc (λhc=>?_) (λhc=>?_)<;>simp +contextual -dsimp[e1,el,f1,f2,V.fieldAddr]at hc ⊢
  ·have hw:zfe s k=[]:=by simp[zfe,ew,hc]
   rw[hw]at hq;exact zbf (hq _ _ ((zcy.start h).zdo 1))
  ·have hw2:zfe s k=keptL s w.p w.zf5 w.zh9:=by simp[zfe,ew,hc]
   rw[hw2]at hq;exact s2 h s w.p w.wm _ w.zf5 w.zh9 _ hs hk hlen hw.1 hw.2.2 λx' h' o=>zbf (hq x' h' o)
variable{C:z6}{N:zN}{K T:Type}{κ:K->za}{v:T->za}
theorem zuu(hG:zrc C){ps:ze9 K T}{m c id:Nat}{I:ze9 K T->zb->Prop}{Z:zb->Prop}{h:zb}{Q:zQ}{Lp:za->zG}
  (hm:∀D h,I D h->h m=some (zfm (zjs κ v ps) c)) (hb:zg5 ps c)
  (heq:∀it hh Y,(B.zfc hh it λv6 h=>B.pv (V.ext 0 v6) λv7=>B.cond v7 (B.pv (A.zgp h it) λv8=>B.pv (V.ext 0 v8) λv9=>B.zmf h C (.yld id) [v9] λv12 h=>B.pv (V.un .not v12) λv13=>B.cond v13 (Q (.tup []) h) (Y [] h)) (Q (.tup []) h))->Lp it [] hh Y)
  (hr:∀D p h,p∈ps->p∉D->D.length<ps.length->I D h->C zmz (mkY id::[κ p.1]) h λv h'=>(v= .bool true /\ I (D++[p]) h') \/ (v= .bool false /\ Z h'))
  (h0:I [] h) (hend:∀D h1 h',D.Perm ps->I D h1->h1.le h'->Q (.tup []) h') (hZ:∀h1 h',Z h1->h1.le h'->Q (.tup []) h'):B.rangeMap h (.mp m) λv h=>zq (Lp v) [] h:=by
 show A.rangeMap h (.mp m) _;simp only[A.rangeMap,zjw (hm [] h h0)];intro it hit;have ho:zcy h (upd h it (zhh (.mapIter (some m) c [] c))) ([]++[.blk it (zf0 m c (([]:ze9 K T).map (·.2.2)) c)]):=(zcy.start h).zp6 (b:=zf0 m c [] c) hit rfl;refine zq.intro (λt vs hh=>vs=[] /\ ∃(D:ze9 K T)(h1:zb),D.length+t=ps.length /\ (∀q∈D,q∈ps) /\ (D.map (·.2.2)).Nodup /\ I D h1 /\ zcy h1 hh [.blk it (zf0 m c (D.map (·.2.2)) c)]) ps.length ?_ ⟨rfl,[],h,by simp,by simp,List.Pairwise.nil,h0,ho⟩;rintro Y t vs hh ⟨rfl,D,h1,ht,hD,hnd,hI,o⟩ hY;refine heq _ _ _ ?_;refine o.nextMapB 0 (seen:=D.map (·.2.2)) (since:=c) (last:=c) (o.le _ _ (hm D h1 hI)) rfl hb (Nat.le_refl _) (Nat.le_refl _) (λhall=>?_) λp hp hns h' o' hk he=>?_
 ·simp -dsimp only[V.zir,getElem?_cons_zero,B.ze,B.cond_false]
  exact hend D h1 hh (hb.all hD hnd hall) hI o.le
 ·have o'':zcy h1 h' [.blk it (zf0 m c ((D++[p]).map (·.2.2)) c)]:=by simpa using o'
  have hpD:p∉D:=λhm=>hns (mem_map.2 ⟨p,hm,rfl⟩);have nd2:((D++[p]).map (·.2.2)).Nodup:=by
   rw[map_append,nodup_append];exact⟨hnd,by simp,λx hx y hy e=>hns (by rw[map_cons,map_nil,mem_singleton]at hy;rw[<-hy,<-e];exact hx)⟩
  have sub:∀q∈D++[p],q∈ps:=λq hq=>by
   rcases mem_append.1 hq with h|h
   ·exact hD q h
   ·rw[mem_singleton.1 h];exact hp
  have hl:(D++[p]).length <= ps.length:=List.Nodup.length_le_of_subset (List.Pairwise.of_map (S:=(· ≠ ·)) (λp:K×T×Nat=>p.2.2) (λa b h e=>h (by rw[e])) nd2) sub;rw[length_append]at hl;have hl:D.length+1 <= ps.length:=hl;simp -dsimp only[V.zir,getElem?_cons_zero,B.ze,B.cond_true,he];rw[B.callv_yld];refine o''.frame hG (hr D p h1 hp hpD (by omega) hI) λw h2 h3 hw o2=>?_;rcases hw with⟨e,h4⟩|⟨e,h4⟩
  ·simp -dsimp only[e,V.zgj,Bool.not_true,B.cond_false,B.ze]
   exact hY (t-1) _ _ (by omega) ⟨rfl,D++[p],h2,by rw[length_append,length_singleton];omega,sub,nd2,h4,o2⟩
  ·simp -dsimp only[e,V.zgj,Bool.not_false,B.cond_true,B.ze]
   exact hZ h2 h3 h4 o2.le
def IterK(C:z6)(g:Nat)(zkp:List za)(M:zb->Prop)(κ:K->za)(ps:ze9 K T):Prop:=∀(id:Nat)(I:ze9 K T->zb->Prop)(Z:zb->Prop)(h:zb)(Q:zQ),(∀D h,I D h->M h)->(∀D p h,p∈ps->p∉D->D.length<ps.length->I D h->C zmz (mkY id::[κ p.1]) h λv h'=>(v= .bool true /\ I (D++[p]) h') \/ (v= .bool false /\ Z h'))->I [] h->(∀D h,D.Perm ps->I D h->Q (.tup []) h)->(∀h,Z h->Q (.tup []) h)->C g ([.yld id]++zkp) h Q
theorem range_iterK{g:Nat}{zkp:List za}{M:zb->Prop}{ps:ze9 K T}{W:List za->zb->(Nat->zb->Prop)->Prop}{h:zb}{R:Nat->zb->Prop}(hi:IterK C g zkp M κ ps)(hM:∀h h',h.le h'->M h->M h')
  (J:ze9 K T->zb->Prop) (hJ:∀D h,J D h->M h) (round:∀D p h E,p∈ps->p∉D->D.length<ps.length->J D h->(∀h',J (D++[p]) h'->E 0 h')->W [κ p.1] h E)
  (h0:J [] h) (hend:∀D h,D.Perm ps->J D h->R 0 h):zrx C (.fn g [] zkp) W h R:=by
 intro mk _ id hid hround;refine hi id (λD h2=>∃h1:zb,h1 id=none /\ h2=upd h1 id (mk 0) /\ J D h1) (λh2=>False) _ _ ?_ ?_ ⟨h,hid,rfl,h0⟩ ?_ ?_
 ·rintro D _ ⟨h1,e,rfl,hj⟩
  exact hM _ _ (zgz _ e) (hJ D h1 hj)
 ·rintro D p _ hp hpD hl ⟨h1,e,rfl,hj⟩
  exact hround [κ p.1] h1 _ e (round D p h1 _ hp hpD hl hj (λh' hj'=>⟨h',zb.le_refl h',λe'=> .inl ⟨rfl,h',e',rfl,hj'⟩⟩))
 ·rintro D _ hp ⟨h1,e,rfl,hj⟩
  exact⟨0,h1,e,zb.le_refl _,hend D h1 hp hj⟩
 ·intro _ hf
  exact hf.elim
variable{C:z6}{N:zN}
section
variable{α:Type}[DecidableEq α]
end
variable{C:z6}{N:zN}
def far:Nat:=140737488351232
section
variable{h h':zb}{x:za}{b:List UInt8}
end
abbrev AllAt(h:zb)(l:List Ob):Prop:=∀o∈l,o.at h
structure DK(T Ad:Type) where
 n:Nat
 bytes:Nat
 z:List za
 pos:0<n
 small:bytes <= 1000
 zlen:z.length=n
 cells:T->Ad->List za
 len:∀t a,(cells t a).length=n
 at_:zb->T->Ad->Prop
 mono:∀{h h':zb}{t:T}{a:Ad},h.le h'->at_ h t a->at_ h' t a
 ok:T->Prop
 at_ok:∀{h:zb}{t:T}{a:Ad},at_ h t a->ok t
 obs:Bool->T->Ad->List Ob
 ofObs:∀{b:Bool}{h:zb}{t:T}{a:Ad},ok t->AllAt h (obs b t a)->at_ h t a
section
variable{T Ad:Type}(K:DK T Ad)
abbrev DK.cs(p:T×Ad):List za:=K.cells p.1 p.2
def Dl(h:zb)(x:za)(L:List T):Prop:=∃(P:List (T×Ad))(R:List (List za)),P.map (·.1)=L /\ SlX h K.n x (P.map K.cs) R /\ ∀p∈P,K.at_ h p.1 p.2
structure DEl(h:zb)(x:za)(i:Nat)(t:T)(a:Ad):Prop where
 idx:V.zcp K.n x (.int .i64 (i:Int))=some (elp K.n x i 0)
 ldn:A.znu h (elp K.n x i 0) K.n=some (.agg (K.cells t a))
 fld:∀f o,V.fieldAddr o (elp K.n x i f)=some (elp K.n x i (f+o))
 ld:∀f,f<K.n->A.ldv h (elp K.n x i f)=(K.cells t a)[f]?
 at_:K.at_ h t a
variable{K}{h h' h0:zb}{x:za}{L M:List T}
theorem slX_el{h:zb}{x:za}{P:List (T×Ad)}{R:List (List za)}(s:SlX h K.n x (P.map K.cs) R)(ha:∀p∈P,K.at_ h p.1 p.2){i:Nat}{p:T×Ad}(hi:P[i]?=some p):DEl K h x i p.1 p.2:=by
 have hc:(P.map K.cs)[i]?=some (K.cells p.1 p.2):=by rw[getElem?_map,hi];rfl
 have hl:i<(P.map K.cs).length:=(List.getElem?_eq_some_iff.1 hc).1;exact⟨s.zmd hl,s.elem hc,λf o=>s.fieldA hl f o,λf hf=>s.ldv hc hf,ha p (mem_of_getElem? hi)⟩
theorem Dl.get(hd:Dl K h x L){i:Nat}{t:T}(hi:L[i]?=some t):∃a,DEl K h x i t a:=by
 obtain⟨P,R,rfl,s,ha⟩:=hd;rw[getElem?_map]at hi;obtain⟨p,hp,rfl⟩:=Option.map_eq_some_iff.1 hi;exact⟨p.2,slX_el s ha hp⟩
theorem Dl.mono(hd:Dl K h x L)(hle:h.le h'):Dl K h' x L:=by
 obtain⟨P,R,e,s,ha⟩:=hd;exact⟨P,R,e,s.mono hle,λp hp=>K.mono hle (ha p hp)⟩
theorem Dl.zcj(hd:Dl K h x L):V.zcj x=some (.int .i64 L.length):=by
 obtain⟨P,R,rfl,s,ha⟩:=hd;simpa using s.zcj
end
variable{C:z6}{N:zN}
structure zkq where
 Key:List UInt8
 Old:List UInt8
 New:List UInt8
 deriving DecidableEq
abbrev zhw:List UInt8->List UInt8->Bool:=Op.bytesLess
theorem lessB_nil(a:List UInt8):zhw a []=false:=by cases a<;>rfl
theorem zp7(a b:UInt8)(as1 bs:List UInt8):zhw (a::as1) (b::bs)=(decide (a<b)||(a==b&&zhw as1 bs)):=rfl
theorem u8_tri(a b:UInt8):a<b \/ a=b \/ b<a:=by
 simp only[UInt8.lt_iff_toNat_lt,<-UInt8.toNat_inj];omega
theorem lessB_irr:∀a:List UInt8,zhw a a=false
 | []=>rfl
 | a::as1=>by rw[zp7,lessB_irr as1];simp
theorem zl8:∀{a b c:List UInt8},zhw a b=true->zhw b c=true->zhw a c=true
 | _,[],_,h,_=>by rw[lessB_nil]at h;cases h
 | _,_::_,[],_,h=>by rw[lessB_nil]at h;cases h
 | [],_::_,_::_,_,_=>rfl
 | a::as1,b::bs,c::cs,h1,h2=>by
  rw[zp7]at h1 h2 ⊢
  simp only[Bool.or_eq_true,decide_eq_true_eq,Bool.and_eq_true,beq_iff_eq]at h1 h2 ⊢
  rcases h1 with h1|⟨rfl,h1⟩
  ·rcases h2 with h2|⟨rfl,h2⟩
   ·left;simp only[UInt8.lt_iff_toNat_lt]at *;omega
   ·exact .inl h1
  ·rcases h2 with h2|⟨rfl,h2⟩
   ·exact .inl h2
   ·exact .inr ⟨rfl,zl8 h1 h2⟩
theorem zti:∀{a b:List UInt8},zhw a b=false->zhw b a=false->a=b
 | [],[],_,_=>rfl
 | [],_::_,h,_=>by cases h
 | _::_,[],_,h=>by cases h
 | a::as1,b::bs,h1,h2=>by
  rw[zp7]at h1 h2
  simp only[Bool.or_eq_false_iff,decide_eq_false_iff_not,Bool.and_eq_false_iff,beq_eq_false_iff_ne]at h1 h2
  obtain rfl:a=b:=by rcases u8_tri a b with h|h|h<;>simp_all
  rw[zti (h1.2.resolve_left λh=>h rfl) (h2.2.resolve_left λh=>h rfl)]
theorem zu1{a b:List UInt8}(h:zhw a b=true):zhw b a=false:=by
 cases e:zhw b a with
 | false=>rfl
 | true=>have:=zl8 h e;rw[lessB_irr]at this;cases this
theorem lessB_or{a b:List UInt8}(h:zhw a b=false)(hne:a≠b):zhw b a=true:=by
 cases e:zhw b a with
 | true=>rfl
 | false=>exact absurd (zti h e) hne
abbrev cmpB:=Lib.compareBytes
theorem cmpB_spec:∀a b:List UInt8,cmpB a b=if zhw a b then -1 else if zhw b a then 1 else 0
 | [],[]=>rfl
 | [],_::_=>rfl
 | _::_,[]=>rfl
 | a::as1,b::bs=>by
  have ih:=cmpB_spec as1 bs
  show (if a<b then -1 else if b<a then 1 else cmpB as1 bs)=_
  rw[ih,zp7,zp7]
  rcases u8_tri a b with h|rfl|h
  ·simp[h]
  ·have hi:¬ a<a:=by simp only[UInt8.lt_iff_toNat_lt];omega
   simp
  ·have h1:¬ a<b:=by simp only[UInt8.lt_iff_toNat_lt]at *;omega
   have h2:a≠b:=λe=>by subst e;exact h1 h
   have h3:(a==b)=false:=by simp[h2]
   simp[h,h1,h3]
theorem cmpB_neg{a b:List UInt8}:cmpB a b<0↔zhw a b=true:=by
 rw[cmpB_spec];split
 ·simp[*]
 ·split<;>simp[*]
theorem rise_ext{T:Type}{lt:T->T->Prop}(asym:∀a b,lt a b->lt b a->False){l m:List T}(s:l.Pairwise lt)(t:m.Pairwise lt)(e:∀x,x∈l↔x∈m):l=m:=by
 have nd:∀{l:List T},l.Pairwise lt->l.Nodup:=λh=>h.imp λ{a b} hab e=>by subst e;exact asym a a hab hab
 exact List.Perm.eq_of_pairwise (le:=lt) (λa b _ _ h1 h2=>(asym a b h1 h2).elim) s t ((perm_ext_iff_of_nodup (nd s) (nd t)).2 e)
variable{C:z6}{N:zN}
theorem V.bin_slss(a b:List UInt8):V.bin .lss (.str a) (.str b)=some (.bool (zhw a b)):=rfl
theorem weakB:zpp (zfh cmpB):=by
 constructor<;>simp only[zfh,decide_eq_true_eq,decide_eq_false_iff_not,cmpB_neg]
 ·intro a b h;rw[zu1 h];simp
 ·intro a b c h1 h2 h3
  have h1:zhw a b=false:=by simpa using h1
  have h2:zhw b c=false:=by simpa using h2
  by_cases e:a=b
  ·subst e;rw[h2]at h3;cases h3
  ·have:=zl8 (lessB_or h1 e) h3
   rw[h2]at this;cases this
def zdq.Spec(C:z6)(N:zN):Prop:=∀(a:List UInt8)(h:zb)(Q:zQ),Q (.bool false) h->C (N 389) [.str a] h Q
theorem zdq.spec(i:zdq.Imp C N):zdq.Spec C N:=by
 intro a h Q hq;apply i;simp -dsimp;exact zbf hq
def zdn.Spec(C:z6)(N:zN):Prop:=∀(a b:List UInt8)(h:zb)(Q:zQ),Q (.bool (zhw a b)) h->C (N 377) [.str a,.str b] h Q
theorem zdn.spec(i:zdn.Imp C N)(s1:zdq.Spec C N):zdn.Spec C N:=by
 intro a b h Q hq;apply i;simp -dsimp;refine s1 _ _ _ ?_;simp -dsimp[V.bin_slss];exact zbf hq
def SortedB(L:List (List UInt8)):Prop:=L.Pairwise λs t=>zhw t s=false
def zbt.Spec(C:z6)(N:zN):Prop:=∀(h0 h:zb)(x:za)(L:List (List UInt8))(R:List (List za))(Q:zQ),zcy h0 h [.sl 1 x (L.map tc) R]->L.length <= 100000000->(∀h' (L':List (List UInt8)),L'.Perm L->SortedB L'->zcy h0 h' [.sl 1 x (L'.map tc) R]->Q (.tup []) h')->C (N 364) [x] h Q
theorem seqT:zem (zdd 16 (.str []) 0) tc (λa:List UInt8=>za.str a):=seqS (by omega) λ_=>rfl
theorem zbt.spec(i:zbt.Imp C N)(j1:zbv.Imp C N)(j2:zce.Imp C N)(j3:zcu.Imp C N)(j4:zbk.Imp C N)
  (j5:zb2.Imp C N) (j6:zb8.Imp C N) (j7:zb1.Imp C N) (j8:zcn.Imp C N) (j9:zb0.Imp C N) (k1:zbw.Imp C N)
  (k2:zc3.Imp C N) (k3:zc2.Imp C N) (k4:zcl.Imp C N) (k5:NextI C (N 298)) (k6:PowI C (N 299)) (hl:LenI C (N 287)) (s1:zdn.Spec C N):zbt.Spec C N:=by
 intro h0 h x L R Q ho hlen hq;have J:OrdI C (zdd 16 (.str []) 0) (N 377) (N 378) (N 379) (N 375) (N 380) (N 381) (N 382) (N 383) (N 384) (N 385) (N 387) (N 388) (N 390) (N 386) (N 298) (N 299):=⟨j1,j2,j3,j4,j5,j6,j7,j8,j9,k1,k2,k3,k4,k5,k6⟩;have hc:Ord.zfd C (λa:List UInt8=>za.str a) cmpB (N 377) h0:=⟨λh' a b K _ hk=>s1 _ _ _ _ (by
  rw[show zhw a b=decide (cmpB a b<0) by rw[Bool.eq_iff_iff,decide_eq_true_eq];exact cmpB_neg.symm];exact hk)⟩
 refine i _ _ _ (Sort_spec J hl seqT weakB hc hlen (show Rw _ _ _ _ _ _ _ from ho) λh' G' hp hs o'=>zbf (hq h' G' hp (hs.imp λ{a b} hab=>?_) o'));rw[cmpB_neg]at hab;simpa using hab
variable{C:z6}{N:zN}{K T:Type}{κ:K->za}{v:T->za}
theorem keysS_iter(hG:zrc C)(i:zu.Imp C N){j m c:Nat}{ps:ze9 Nam Int}(hb:zg5 ps c):IterK C (N 524) [.ptr j 0 0] (λh=>h j=some (zdr [.mp m]) /\ h m=some (zfm (zjs nV wV ps) c)) nV ps:=by
 intro id I Z h Q hD hr h0 hend hZ;refine i (.yld id) (.ptr j 0 0) h Q ?_;obtain⟨d1,d2⟩:=hD [] h h0;have e1:=zeq (k:=0) d1 rfl;simp -dsimp only[zu.cps,B.zeo,e1,B.ze];exact zuu hG (λD h hI=>(hD D h hI).2) hb (λit hh Y hn=>hn) hr h0 (λD h1 h' hp hI hle=>dn_le hle (hend D h1 hp hI)) (λh1 h' hz hle=>dn_le hle (hZ h1 hz))
theorem keysI_iter(hG:zrc C)(i:zn.Imp C N){j m c:Nat}{ps:ze9 Int Wk}(hb:zg5 ps c):IterK C (N 525) [.ptr j 0 0] (λh=>h j=some (zdr [.mp m]) /\ h m=some (zfm (zjs wV pV ps) c)) wV ps:=by
 intro id I Z h Q hD hr h0 hend hZ;refine i (.yld id) (.ptr j 0 0) h Q ?_;obtain⟨d1,d2⟩:=hD [] h h0;have e1:=zeq (k:=0) d1 rfl;simp -dsimp only[zn.cps,B.zeo,e1,B.ze];exact zuu hG (λD h hI=>(hD D h hI).2) hb (λit hh Y hn=>hn) hr h0 (λD h1 h' hp hI hle=>dn_le hle (hend D h1 hp hI)) (λh1 h' hz hle=>dn_le hle (hZ h1 hz))
theorem zvg{g bytes:Nat}{z:za}{zkp:List za}{M:zb->Prop}{ps:ze9 K T}{h:zb}{Q:zQ}(hi:IterK C g zkp M κ ps)(hM:∀h h',h.le h'->M h->M h')(hlen:ps.length <= 100000)(hby:bytes <= 16)
  (hfill:∀k,zeu [(0,none,κ k)] (zhu 1 [z])=some [κ k]) (hMh:M h) (hq:∀(x':za)(h':zb)(D:ze9 K T),D.Perm ps->zcy h h' [.sl 1 x' (D.map λp=>[κ p.1]) []]->Q x' h'):zcz.cps C (zdd bytes z 0) .zdo (.fn g [] zkp) h Q:=by
 simp -dsimp only[zcz.cps,zcz.k3];intro i2 h2;have o1:=((zcy.start h).zor h2 [.zdo]).zdo 1;refine range_iterK hi hM (λD hh=>∃x,zcy h hh [.box (.ptr i2 0 0) [x],.sl 1 x (D.map λp=>[κ p.1]) []]) (λD hh ⟨x,o⟩=>hM _ _ o.le hMh) ?_ ⟨.zdo,o1⟩ ?_
 ·rintro D p hh E hp hpD hl ⟨x,o⟩ hE
  obtain⟨j,e,b⟩:=o.zr8 0 rfl;cases e;have e1:=zeq (k:=0) b rfl;show zcz.r2 _ _ _ _ _ _ _;have hf:zeu [(0,(zdd bytes z 0).kp,κ p.1)] (zhu 1 (zdd bytes z 0).z)=some [κ p.1]:=hfill p.1;simp -dsimp only[zcz.r2,zcz.k1,B.zeo,e1,B.ze,hf];have hb:(D.length+1)*bytes <= 140737488355328:=Nat.le_trans (Nat.mul_le_mul (Nat.succ_le_of_lt (Nat.lt_of_lt_of_le hl hlen)) hby) (by decide);refine o.push 1 rfl (cs:=[κ p.1]) rfl (show 0<1 by decide) (show ((D.map λp=>[κ p.1]).length+1)*bytes <= _ by rw[length_map];exact hb) (by simp[maxLen];omega) λx2 h3 o3 _=>?_;refine o3.zuf 0 rfl (o3.zhs 1 rfl).zdx (by simp) λh4 o4 _=>?_;exact hE h4 ⟨x2,by rw[map_append];exact o4⟩
 ·rintro D hh hp ⟨x,o⟩
  obtain⟨j,e,b⟩:=o.zr8 0 rfl;cases e;have e1:=zeq (k:=0) b rfl;refine RK.here ?_;simp -dsimp only[B.zeo,e1,B.ze];exact hq x hh D hp (o.sub (.cons _ (.cons_cons _ (nil_sublist _))))
variable{C:z6}{N:zN}{K T:Type}{κ:K->za}{v:T->za}
def zcg.Spec(C:z6)(N:zN):Prop:=∀(g:Nat)(zkp:List za)(M:zb->Prop)(ps:ze9 Nam Int)(h:zb)(Q:zQ),IterK C g zkp M nV ps->(∀h h',h.le h'->M h->M h')->ps.length <= 100000->M h->(∀(x':za)(h':zb)(L:List Nam),L.Perm (zck ps)->SortedB L->zcy h h' [.sl 1 x' (L.map tc) []]->Q x' h')->C (N 510) [.fn g [] zkp] h Q
theorem zcg.spec(i:zcg.Imp C N)(i2:zdp.Imp C N)(i3:zcf.Imp C N)(s1:zbt.Spec C N):zcg.Spec C N:=by
 intro g zkp M ps h Q hi hM hlen hMh hq;apply i;simp -dsimp only[zcg.cps];apply i2;simp -dsimp only[zdp.cps];apply i3;refine zvg hi hM hlen (by decide) (λk=>rfl) hMh λx' h' D hp o=>?_;refine zbf (zbf ?_);have o':zcy h h' [.sl 1 x' ((D.map (·.1)).map tc) []]:=by rw[map_map];exact o
 refine s1 h h' x' (D.map (·.1)) [] _ o' (by rw[length_map,hp.length_eq];omega) λh2 L hL hS o2=>?_;exact zbf (hq x' h2 L (hL.trans (hp.map _)) hS o2)
def zcr.Spec(C:z6)(N:zN):Prop:=∀(g:Nat)(zkp:List za)(M:zb->Prop)(ps:ze9 Int Wk)(h:zb)(Q:zQ),IterK C g zkp M wV ps->(∀h h',h.le h'->M h->M h')->ps.length <= 100000->M h->(∀(x':za)(h':zb),zcy h h' [.sl 1 x' ((zi0 (zck ps)).map icl) []]->Q x' h')->C (N 515) [.fn g [] zkp] h Q
theorem zcr.spec(i:zcr.Imp C N)(i2:zdt.Imp C N)(i3:zcw.Imp C N)(s1:zbq.Spec C N):zcr.Spec C N:=by
 intro g zkp M ps h Q hi hM hlen hMh hq;apply i;simp -dsimp only[zcr.cps];apply i2;simp -dsimp only[zdt.cps];apply i3;refine zvg hi hM hlen (by decide) (λk=>rfl) hMh λx' h' D hp o=>?_;refine zbf (zbf ?_);have o':zcy h h' [.sl 1 x' ((D.map (·.1)).map icl) []]:=by rw[map_map];exact o
 refine s1 h h' x' (D.map (·.1)) [] _ o' (by rw[length_map,hp.length_eq];omega) λh2 L hL hS o2=>?_;have e:L=zi0 (zck ps):=sortJ_of' (hL.trans (hp.map _)) hS;rw[e]at o2;exact zbf (hq x' h2 o2)
def ztr(s:Lk)(k:Int):ze9 Nam Int:=match zii s.W k with
 | none=>[]
 | some w=>w.held
def zcx.Spec(C:z6)(N:zN):Prop:=∀(h:zb)(s:Lk)(k:Int)(Q:zQ),s.At h->s.Ok->(ztr s k).length <= 100000->(∀(x':za)(h':zb)(L:List Nam),L.Perm (zck (ztr s k))->SortedB L->zcy h h' [.sl 1 x' (L.map tc) []]->Q x' h')->C (N 490) [.ptr s.l 0 0,.int .i64 k] h Q
theorem zcx.spec(i:zcx.Imp C N)(hG:zrc C)(i2:zbp.Imp C N)(i3:zu.Imp C N)(s1:zc5.Spec C N)(s2:zcg.Spec C N):zcx.Spec C N:=by
 intro h s k Q hs hk hlen hq;apply i;have e1:=zeq (k:=0) hs.1 rfl;have el:=lkpW hs.2.1 k;refine s1 h s _ hs ?_;cases ew:zii s.W k with
 | none=>
  rw[ew]at el;have ep:V.zif .eql .zm8 .zm8=some (.bool true):=rfl;simp +contextual -dsimp[e1,el,ep,V.fieldAddr];have hw:ztr s k=[]:=by simp[ztr,ew]
  rw[hw]at hq;exact zbf (hq _ _ [] (.refl _) .nil ((zcy.start h).zdo 1))
 | some w=>
  rw[ew]at el;obtain⟨n,hn⟩:=zjr ew;have hw:=hs.2.2 _ hn;have f1:=zeq (k:=0) hw.1 rfl;have ep:V.zif .eql (.ptr w.p 0 0) .zm8=some (.bool false):=rfl;have he:ztr s k=w.held:=by simp[ztr,ew]
  rw[he]at hq hlen;simp +contextual -dsimp[e1,el,ep,f1,V.fieldAddr];apply i2;simp -dsimp only[zbp.cps];intro i1 h1;have o1:=(zcy.start h).zor h1 [.mp w.hm];refine zbf ?_;obtain⟨c,g1,g2,g3,g4⟩:=hw.2.1;refine s2 (N 524) [.ptr i1 0 0] _ w.held _ _ (keysS_iter hG i3 (m:=w.hm) g2) (λa b hle ⟨x,y⟩=>⟨hle _ _ x,hle _ _ y⟩) hlen ⟨zbs ..,o1.le _ _ g1⟩ λx' h' L hL hS o=>?_;exact zbf (hq x' h' L hL hS (o.back o1.le))
variable{C:z6}{N:zN}
structure Itm where
 Code:List UInt8
 Life:Int
 Parts:List Part
 Others:List (List UInt8)
 deriving DecidableEq
def zql(b:Bool)(x:za)(l:List (List UInt8)):Ob:= .sl 1 x (l.map tc) (bif b then zho else [])
abbrev Key:=List UInt8
abbrev zt4(l:List Key):Prop:=l.Pairwise λa b=>zhw a b=true
theorem riseB_ext{l m:List Key}(s:zt4 l)(t:zt4 m)(e:∀x,x∈l↔x∈m):l=m:=
 rise_ext (λa b h1 h2=>by rw[zu1 h1]at h2;cases h2) s t e
def ziw:List Key->Key->List Key|[],s=>[s]|x::l,s=>if zhw x s=true then x::ziw l s else if x=s then x::l else s::x::l
theorem znr{s y:Key}:∀{l:List Key},y∈ziw l s↔y=s \/ y∈l
 | []=>by simp[ziw]
 | x::l=>by
  unfold ziw
  split
  ·rw[mem_cons,znr,mem_cons]
   constructor
   ·rintro(h|h|h)
    ·exact .inr (.inl h)
    ·exact .inl h
    ·exact .inr (.inr h)
   ·rintro(h|h|h)
    ·exact .inr (.inl h)
    ·exact .inl h
    ·exact .inr (.inr h)
  ·split
   ·rename_i h
    subst h
    simp only[mem_cons]
    constructor
    ·exact λh=> .inr h
    ·rintro(h|h)
     ·exact .inl h
     ·exact h
   ·simp only[mem_cons]
theorem zs3{s:Key}:∀{l:List Key},zt4 l->zt4 (ziw l s)
 | [],_=>pairwise_singleton _ _
 | x::l,h=>by
  obtain⟨h1,h2⟩:=pairwise_cons.1 h;unfold ziw;split
  ·rename_i hx
   refine pairwise_cons.2 ⟨λy hy=>?_,zs3 h2⟩;rcases znr.1 hy with rfl|hy
   ·exact hx
   ·exact h1 y hy
  ·split
   ·exact h
   ·rename_i h3 h4
    have hs:zhw s x=true:=by
     have:zhw x s=false:=by simpa using h3
     exact lessB_or this h4
    refine pairwise_cons.2 ⟨λy hy=>?_,h⟩;rcases mem_cons.1 hy with rfl|hy
    ·exact hs
    ·exact zl8 hs (h1 y hy)
section
variable{I J:List Itm}{all inn:List Key}
end
structure DW where
 Id:Int
 zff:List Key
 zga:List Key
 zkq:Int
structure DL where
 L:List DW
 zji:Int
def zlr(a b:List Key):Bool:= !a.isEmpty&&(!b.isEmpty&&(decide ([42]∈a)||(decide ([42]∈b)||a.any λx=>decide (x∈b))))
def zj2(w:DW)(zf5:List Key)(zh9:Int):Bool:=zlr w.zff zf5||(decide (0<w.zkq)&&(decide (w.zkq<zh9)&&zlr w.zga zf5))
def findD:List DW->Int->Option DW|[],_=>none|o::r,k=>if o.Id=k then some o else findD r k
def znm:List DW->Int->DW->List DW|[],_,w=>[w]|o::r,k,w=>if o.Id=k then w::r else o::znm r k w
def delD:List DW->Int->List DW|[],_=>[]|o::r,k=>if o.Id=k then r else o::delD r k
def zg2(w:DW)(names:List Key):List Key:=names.foldl (λl n=>if n∉w.zff /\ [42]∉w.zff then ziw l n else l) w.zga
def ze6(d:DL)(k:Int):DW:=(findD d.L k).getD ⟨k,[],[],0⟩
def zkr(d:DL)(k:Int):Int:=if (ze6 d k).zkq=0 then d.zji+1 else (ze6 d k).zkq
def zgh(d:DL)(k:Int)(zf5:List Key)(zh9:Int):List Int:=(d.L.filter λo=>decide (o.Id≠k)&&zj2 o zf5 zh9).map (·.Id)
def zku(d:DL)(k:Int)(names:List Key):Bool×DL:=
 let w:=ze6 d k
 let zf5:=zg2 w names
 let zh9:=zkr d k
 if (zgh d k zf5 zh9).isEmpty then (true,⟨znm d.L k ⟨k,zf5.foldl ziw w.zff,[],0⟩,d.zji⟩)
 else (false,⟨znm d.L k ⟨k,w.zff,zf5,zh9⟩,max d.zji zh9⟩)
def zq6(d:DL)(k:Int):DL:=⟨delD d.L k,d.zji⟩
variable{C:z6}{N:zN}
structure SameW(e:Int×Wk×Nat)(d:DW):Prop where
 id:e.1=d.Id
 held:∀x,x∈zck e.2.1.held↔x∈d.zff
 zf5:∀x,x∈zck e.2.1.zf5↔x∈d.zga
 zh9:e.2.1.zh9=d.zkq
 riseH:zt4 d.zff
 riseW:zt4 d.zga
inductive zle:ze9 Int Wk->List DW->Prop
 | nil:zle [] []
 | cons {e:Int×Wk×Nat} {d:DW} {W:ze9 Int Wk} {L:List DW}:SameW e d->zle W L->zle (e::W) (d::L)
structure Rel(s:Lk)(d:DL):Prop where
 last:s.last=d.zji
 zh4:zle s.W d.L
theorem isEmpty_keys{ps:ze9 Nam Int}{A:List Key}(h:∀x,x∈zck ps↔x∈A):ps.isEmpty=A.isEmpty:=by
 cases ps with
 | nil=>cases A with
  | nil=>rfl
  | cons a A=>have:=(h a).2 (mem_cons_self ..);simp[zck]at this
 | cons p ps=>cases A with
  | nil=>have:=(h p.1).1 (by simp[zck]);simp at this
  | cons a A=>rfl
theorem meets_eq{a b:ze9 Nam Int}{A B:List Key}(ha:∀x,x∈zck a↔x∈A)(hb:∀x,x∈zck b↔x∈B):zlq a b=zlr A B:=by
 unfold zlq zlr;rw[isEmpty_keys ha,isEmpty_keys hb,decide_eq_decide.2 (ha [42]),decide_eq_decide.2 (hb [42])];congr 4;rw[Bool.eq_iff_iff,any_eq_true,any_eq_true];constructor
 ·rintro⟨p,hp,h⟩
  exact⟨p.1,(ha _).1 (mem_map.2 ⟨p,hp,rfl⟩),decide_eq_true ((hb _).1 (of_decide_eq_true h))⟩
 ·rintro⟨x,hx,h⟩
  obtain⟨p,hp,rfl⟩:=mem_map.1 ((ha _).2 hx);exact⟨p,hp,decide_eq_true ((hb _).2 (of_decide_eq_true h))⟩
theorem keeps_eq{e:Int×Wk×Nat}{d:DW}(hs:SameW e d){ps:ze9 Nam Int}{B:List Key}(hb:∀x,x∈zck ps↔x∈B)(t:Int):zmm e.2.1 ps t=zj2 d B t:=by
 unfold zmm zj2;rw[meets_eq hs.held hb,meets_eq hs.zf5 hb,hs.zh9]
theorem zle.get{k:Int}:∀{W:ze9 Int Wk}{L:List DW},zle W L->(zii W k=none /\ findD L k=none) \/ ∃e d,e∈W /\ d∈L /\ e.1=k /\ zii W k=some e.2.1 /\ findD L k=some d /\ SameW e d
 | [],[],_=> .inl ⟨rfl,rfl⟩
 | e::W,d::L,.cons h1 h2=>by
  by_cases hk:e.1=k
  ·exact .inr ⟨e,d,mem_cons_self ..,mem_cons_self ..,hk,by simp[zii,hk],by simp[findD,<-h1.id,hk],h1⟩
  ·have e1:zii (e::W) k=zii W k:=by simp[zii,hk]
   have e2:findD (d::L) k=findD L k:=by simp[findD,<-h1.id,hk]
   rw[e1,e2]
   rcases h2.get (k:=k) with h|⟨e',d',m1,m2,m3⟩
   ·exact .inl h
   ·exact .inr ⟨e',d',mem_cons_of_mem _ m1,mem_cons_of_mem _ m2,m3⟩
theorem zle.del{k:Int}:∀{W:ze9 Int Wk}{L:List DW},zle W L->zle (zpv W k) (delD L k)
 | [],[],_=> .nil
 | e::W,d::L,.cons h1 h2=>by
  unfold zpv delD
  rw[<-h1.id]
  split
  ·exact h2
  ·exact .cons h1 h2.del
theorem zsn{K T:Type}[DecidableEq K](k:K):∀ps:ze9 K T,(zpv ps k).Sublist ps
 | []=> .slnil
 | p::r=>by
  unfold zpv
  split
  ·exact sublist_cons_self ..
  ·exact(zsn k r).cons_cons _
def Lk.del(s:Lk)(k:Int):Lk:={ s with W:=zpv s.W k }
theorem Lk.Ok.del{s:Lk}(hs:s.Ok)(k:Int):(s.del k).Ok:=⟨hs.zvf.del k,nodup_del hs.nodup k,λe he=>hs.zh4 e ((zsn k s.W).subset he),hs.far.sublist ((zsn k s.W).map _)⟩
theorem flatMap_sub{α β:Type}(f:α->List β){l m:List α}(h:l.Sublist m):(l.flatMap f).Sublist (m.flatMap f):=by
 induction h with
 | slnil=>exact .slnil
 | cons a _ ih=>rw[flatMap_cons];exact ih.trans (sublist_append_right ..)
 | cons_cons a _ ih=>rw[flatMap_cons,flatMap_cons];exact(List.Sublist.refl _).append ih
def zf3.Spec(C:z6)(N:zN):Prop:=∀(h:zb)(Q:zQ),(∀(h':zb)(s:Lk),s.Ok->s.W=[]->s.last=0->zcy h h' s.obs->Q (.ptr s.l 0 0) h')->C (N 485) [] h Q
theorem zf3.spec(i:zf3.Imp C N):zf3.Spec C N:=by
 intro h Q hq;apply i;simp -dsimp only[zf3.cps];refine(zcy.start h).zmj wV pV λm h1 hm o1 hle=>?_;have eb:A.bld [(0,none,.mp m)] [.zri,.int .i64 0]=some (.agg [.mp m,.int .i64 0]):=rfl;have ec:A.zj4 2 (.agg [.mp m,.int .i64 0])=some [.mp m,.int .i64 0]:=rfl;simp -dsimp only[eb,ec,B.ze];intro l hl;have o2:=o1.zp6 hl (b:=zdr [.mp m,.int .i64 0]) rfl;refine zbf (hq _ ⟨l,m,0,0,[]⟩ ⟨zg5.nil 0,List.Pairwise.nil,λe he=>absurd he (not_mem_nil),List.Pairwise.nil⟩ rfl rfl ?_);exact o2.perm (List.Perm.swap _ _ _)
theorem zcy.mdel{h0 h:zb}{l:List Ob}{kd:KD}{K T:Type}[DecidableEq K]{κ:K->za}{v:T->za}(ho:zcy h0 h l)(i:Nat){id c:Nat}{ps:ze9 K T}(hi:l[i]?=some (.blk id (zfm (zjs κ v ps) c)))(hκ:KeyE kd κ)(k:K){Q:zQ}(hq:∀h',zcy h0 h' (l.set i (.blk id (zfm (zjs κ v (zpv ps k)) c)))->Q (.tup []) h'):B.mdel h kd (.mp id) (κ k) Q:=objT_blk (ho.at i hi) (fdel_enc hκ k ps c) (hq _ (ho.setBlk i hi rfl))
def zda.Spec(C:z6)(N:zN):Prop:=∀(h0 h:zb)(s:Lk)(k:Int)(Q:zQ),zcy h0 h s.obs->s.Ok->(∀h',zcy h0 h' (s.del k).obs->Q (.tup []) h')->C (N 488) [.ptr s.l 0 0,.int .i64 k] h Q
theorem zda.spec(i:zda.Imp C N)(s1:zc5.Spec C N):zda.Spec C N:=by
 intro h0 h s k Q ho hk hq;have hs:=Lk.at_of ho hk;apply i;have e1:=zeq (k:=0) hs.1 rfl;refine s1 h s _ hs ?_;simp -dsimp only[B.cond_true,B.zb9,V.fieldAddr,Nat.zero_add,B.ze,B.zeo,e1];refine ho.mdel (κ:=wV) (v:=pV) 1 rfl keyI k λh' o=>?_;exact zbf (hq h' (o.sub (.cons_cons _ (.cons_cons _ (flatMap_sub _ (zsn k s.W))))))
variable{C:z6}{N:zN}
def zps(W:ze9 Int Wk)(k:Int)(w:Wk):ze9 Int Wk:=W.map λe=>if e.1=k then (e.1,w,e.2.2) else e
theorem setW_keys(W:ze9 Int Wk)(k:Int)(w:Wk):zck (zps W k w)=zck W:=by
 unfold zck zps;rw[map_map];refine map_congr_left λe he=>?_;show (if e.1=k then (e.1,w,e.2.2) else e).1=e.1;split<;>rfl
theorem zsz(W:ze9 Int Wk)(k:Int)(w:Wk):(zps W k w).map (·.2.2)=W.map (·.2.2):=by
 unfold zps;rw[map_map];refine map_congr_left λe he=>?_;show (if e.1=k then (e.1,w,e.2.2) else e).2.2=e.2.2;split<;>rfl
theorem obs_perm{k:Int}{w:Wk}:∀{W:ze9 Int Wk},zii W k=some w->(W.flatMap λe=>e.2.1.obs).Perm (w.obs++(zpv W k).flatMap λe=>e.2.1.obs)
 | e::W,h=>by
  unfold zii at h
  unfold zpv
  split at h
  ·rename_i hk
   rw[if_pos hk]
   cases h
   rw[flatMap_cons]
  ·rename_i hk
   rw[if_neg hk,flatMap_cons,flatMap_cons]
   have:=obs_perm h
   refine(this.append_left _).trans ?_
   rw[<-append_assoc,<-append_assoc]
   exact perm_append_comm.append_right _
theorem zsg{k:Int}{w:Wk}{W:ze9 Int Wk}(h:k∉zck W):zps W k w=W:=by
 unfold zps;rw[map_congr_left (g:=id),map_id];intro e he;rw[if_neg]
 ·rfl
 ·intro hk
  exact h (mem_map.2 ⟨e,he,hk⟩)
theorem setW_get{k:Int}{w w':Wk}:∀{W:ze9 Int Wk},zii W k=some w->zii (zps W k w') k=some w'
 | e::W,h=>by
  unfold zii at h
  show zii ((if e.1=k then (e.1,w',e.2.2) else e)::zps W k w') k=some w'
  split at h
  ·rename_i hk
   rw[if_pos hk]
   simp[zii,hk]
  ·rename_i hk
   rw[if_neg hk]
   simp only[zii,if_neg hk]
   exact setW_get h
theorem setW_del{k:Int}{w':Wk}:∀{W:ze9 Int Wk},(zck W).Nodup->zpv (zps W k w') k=zpv W k
 | [],_=>rfl
 | e::W,hn=>by
  show zpv ((if e.1=k then (e.1,w',e.2.2) else e)::zps W k w') k=zpv (e::W) k
  have hn':e.1∉zck W /\ (zck W).Nodup:=nodup_cons.1 hn
  by_cases hk:e.1=k
  ·rw[if_pos hk]
   simp only[zpv,hk,if_true]
   exact zsg (by rw[<-hk];exact hn'.1)
  ·rw[if_neg hk]
   simp only[zpv,hk,if_false]
   rw[setW_del hn'.2]
theorem setW_enc{k:Int}{w w':Wk}(hp:w'.p=w.p):∀{W:ze9 Int Wk},(zck W).Nodup->zii W k=some w->zjs wV pV (zps W k w')=zjs wV pV W
 | e::W,hn,h=>by
  have hn':e.1∉zck W /\ (zck W).Nodup:=nodup_cons.1 hn
  show zjs wV pV ((if e.1=k then (e.1,w',e.2.2) else e)::zps W k w')=_
  unfold zii at h
  split at h
  ·rename_i hk
   rw[if_pos hk,zsg (by rw[<-hk];exact hn'.1)]
   cases h
   simp only[zjs,map_cons,pV,hp]
  ·rename_i hk
   rw[if_neg hk]
   have:=setW_enc hp hn'.2 h
   simp only[zjs,map_cons]at this ⊢
   rw[this]
theorem setW_far{k:Int}{w w':Wk}(hp:w'.p=w.p):∀{W:ze9 Int Wk},(zck W).Nodup->zii W k=some w->(zps W k w').map (·.2.1.p)=W.map (·.2.1.p)
 | e::W,hn,h=>by
  have hn':e.1∉zck W /\ (zck W).Nodup:=nodup_cons.1 hn
  show ((if e.1=k then (e.1,w',e.2.2) else e)::zps W k w').map (·.2.1.p)=_
  unfold zii at h
  split at h
  ·rename_i hk
   rw[if_pos hk,zsg (by rw[<-hk];exact hn'.1)]
   cases h
   simp only[map_cons,hp]
  ·rename_i hk
   rw[if_neg hk,map_cons,map_cons,setW_far hp hn'.2 h]
theorem mem_setW{k:Int}{w':Wk}{W:ze9 Int Wk}{e:Int×Wk×Nat}(he:e∈zps W k w'):e.2.1=w' \/ e∈W:=by
 obtain⟨q,hq,rfl⟩:=mem_map.1 he;split
 ·exact .inl rfl
 ·exact .inr hq
def Lk.put(s:Lk)(k:Int)(w:Wk)(last:Int):Lk:={ s with W:=zps s.W k w,last:=last }
theorem Lk.Ok.put{s:Lk}(hs:s.Ok){k:Int}{w w':Wk}(hw:zii s.W k=some w)(hp:w'.p=w.p)(hk:w'.Ok)(last:Int):(s.put k w' last).Ok:=by
 refine⟨⟨λe he=>?_,?_⟩,?_,λe he=>?_,?_⟩
 ·have h1:e.2.2∈(zps s.W k w').map (·.2.2):=mem_map.2 ⟨e,he,rfl⟩
  rw[zsz]at h1;obtain⟨q,hq,e1⟩:=mem_map.1 h1;rw[<-e1];exact hs.zvf.1 q hq
 ·show ((zps s.W k w').map (·.2.2)).Nodup
  rw[zsz];exact hs.zvf.2
 ·show (zck (zps s.W k w')).Nodup
  rw[setW_keys];exact hs.nodup
 ·rcases mem_setW he with h|h
  ·rw[h];exact hk
  ·exact hs.zh4 e h
 ·show ((zps s.W k w').map (·.2.1.p)).Nodup
  rw[setW_far hp hs.nodup hw];exact hs.far
def Lk.fore(s:Lk)(k:Int)(w:Wk)(last:Int):List Ob:= .blk s.l (zdr [.mp s.m,.int .i64 last]):: .blk s.m (zfm (zjs wV pV s.W) s.c)::(w.obs++(zpv s.W k).flatMap λe=>e.2.1.obs)
theorem Lk.obs_fore{s:Lk}{k:Int}{w:Wk}(hw:zii s.W k=some w):s.obs.Perm (s.fore k w s.last):=((obs_perm hw).cons _).cons _
theorem Lk.put_fore{s:Lk}(hs:s.Ok){k:Int}{w w':Wk}(hw:zii s.W k=some w)(hp:w'.p=w.p)(last:Int):(s.put k w' last).obs.Perm (s.fore k w' last):=by
 have h:=Lk.obs_fore (s:=s.put k w' last) (k:=k) (w:=w') (setW_get hw);have e:(s.put k w' last).fore k w' (s.put k w' last).last=s.fore k w' last:=by
  show _::Ob.blk s.m (zfm (zjs wV pV (zps s.W k w')) s.c)::(w'.obs++(zpv (zps s.W k w') k).flatMap λe=>e.2.1.obs)=_;rw[setW_enc hp hs.nodup hw,setW_del hs.nodup];rfl
 rw[e]at h;exact h
theorem zrb.put{ps:ze9 Nam Int}{c:Nat}(h:zrb ps c)(k:Nam):zrb (znp ps k 1 c) (clkP ps k c):=by
 refine⟨h.1.put k 1,λp hp=>?_,zm7 h.2.2 k 1 c⟩;have h1:=mem_getP (zm7 h.2.2 k 1 c) hp;rw[zsl]at h1;split at h1
 ·exact(Option.some.inj h1).symm
 ·obtain⟨n,hn⟩:=zjr h1
  exact h.2.1 (p.1,p.2.1,n) hn
theorem zrl{ps:ze9 Nam Int}{c:Nat}{k x:Nam}:x∈zck (znp ps k 1 c)↔x=k \/ x∈zck ps:=by
 rw[zna];split
 ·rename_i h
  constructor
  ·exact .inr
  ·rintro(rfl|h1)
   ·exact h
   ·exact h1
 ·rw[mem_append,mem_singleton,or_comm]
variable{C:z6}{N:zN}
abbrev zpy(m:Nat)(ps:ze9 Nam Int)(c:Nat):Ob:= .blk m (zfm (zjs nV wV ps) c)
def zg.Spec(C:z6)(N:zN):Prop:=∀(h0 h:zb)(a b c d:Nat)(ps qs:ze9 Nam Int)(rest:List Ob)(Q:zQ),zcy h0 h (zpy a ps c::zpy b qs d::rest)->zrb ps c->zrb qs d->(∀(h':zb)(ps':ze9 Nam Int)(c':Nat),zrb ps' c'->(∀x,x∈zck ps'↔x∈zck ps \/ x∈zck qs)->zcy h0 h' (zpy a ps' c'::zpy b qs d::rest)->Q (.tup []) h')->C (N 507) [.mp a,.mp b] h Q
theorem zg.spec(i:zg.Imp C N):zg.Spec C N:=by
 intro h0 h a b c d ps qs rest Q ho hps hqs hq;apply i;have ho':zcy h0 h ([zpy b qs d]++(zpy a ps c::rest)):=ho.perm (List.Perm.swap _ _ _);obtain⟨o1,o2⟩:=ho'.out;generalize h.zm0 (zpy a ps c::rest)=h1 at o1 o2;have hb1:h1 b=some (zfm (zjs nV wV qs) d):=o1.at 0 rfl;simp -dsimp only[zg.cps];refine zcy.rangeLoop (κ:=nV) (v:=wV) (ps:=qs) (c:=d) (J:=λD l=>∃ps' c',l=zpy a ps' c'::rest /\ zrb ps' c' /\ ∀x,x∈zck ps'↔x∈zck ps \/ x∈D.map (·.1))
  (REST:=λit v h Y=>B.pv (V.ext 0 v) λv9=>B.cond v9 (B.pv (A.zgp h it) λv10=>B.pv (V.ext 0 v10) λv11=>B.pv (V.ext 1 v10) λv12=>B.mset h .s (.mp a) v11 v12 λh=>Y [] h) (dn Q (.tup []) h)) o2 hb1 hqs.1 ⟨ps,c,rfl,hps,by simp⟩ ?_ ?_ ?_
 ·intro it hh Y hn
  exact hn
 ·rintro it hh D l bb Y ⟨ps',c',rfl,k1,k2⟩ hp o
  simp -dsimp only[V.zir,getElem?_cons_zero,B.ze,B.cond_false];refine zbf (hq hh ps' c' k1 (λx=>?_) ?_)
  ·rw[k2]
   have:x∈D.map (·.1)↔x∈zck qs:=(hp.map (·.1)).mem_iff;rw[this]
  ·have o3:zcy h1 hh (zpy a ps' c'::rest):=o.sub (sublist_append_left _ _)
   exact(o1.join o3).perm (List.Perm.swap _ _ _)
 ·rintro it hh D l bb Y p hpm ⟨ps',c',rfl,k1,k2⟩ hsub hpD o he hY
  simp -dsimp only[V.zir,getElem?_cons_zero,getElem?_cons_succ,B.ze,B.cond_true,he];have e1:p.2.1=1:=hqs.2.1 p hpm;rw[e1];refine o.mset (κ:=nV) (v:=wV) 0 rfl keyS p.1 1 λh' o' _ _=>?_;refine hY h' (zpy a (znp ps' p.1 1 c') (clkP ps' p.1 c')::rest) ⟨_,_,rfl,k1.put p.1,λx=>?_⟩ o';rw[zrl,k2,map_append,mem_append];constructor
  ·rintro(rfl|h|h)
   ·exact .inr (.inr (by simp))
   ·exact .inl h
   ·exact .inr (.inl h)
  ·rintro(h|h|h)
   ·exact .inr (.inl h)
   ·exact .inr (.inr h)
   ·exact .inl (by simpa using h)
theorem far_ne{k:Int}{w:Wk}:∀{W:ze9 Int Wk},(zck W).Nodup->(W.map (·.2.1.p)).Nodup->zii W k=some w->∀e∈W,(e.2.1.p=w.p↔e.1=k)
 | q::W,hn,hf,h,e,he=>by
  have hn':q.1∉zck W /\ (zck W).Nodup:=nodup_cons.1 hn
  have hf':q.2.1.p∉W.map (·.2.1.p) /\ (W.map (·.2.1.p)).Nodup:=nodup_cons.1 hf
  unfold zii at h
  split at h
  ·rename_i hk
   cases h
   rcases mem_cons.1 he with rfl|he
   ·exact⟨λ_=>hk,λ_=>rfl⟩
   ·constructor
    ·intro e1
     exact absurd (mem_map.2 ⟨e,he,e1⟩) hf'.1
    ·intro e1
     exact absurd (mem_map.2 ⟨e,he,by rw[e1,hk]⟩) hn'.1
  ·rename_i hk
   rcases mem_cons.1 he with rfl|he
   ·constructor
    ·intro e1
     obtain⟨n,hm⟩:=zjr h
     exact absurd (mem_map.2 ⟨_,hm,e1.symm⟩) hf'.1
    ·intro e1
     exact absurd e1 hk
   ·exact far_ne hn'.2 hf'.2 h e he
theorem zu8{f:Int×Wk×Nat->Bool}{g:DW->Bool}:∀{W:ze9 Int Wk}{L:List DW},zle W L->(∀e d,e∈W->SameW e d->f e=g d)->(W.filter f).map (·.1)=(L.filter g).map (·.Id)
 | [],[],_,_=>rfl
 | e::W,d::L,.cons h1 h2,h=>by
  have e1:=h e d (mem_cons_self ..) h1
  have ih:=zu8 h2 λq r hq hr=>h q r (mem_cons_of_mem _ hq) hr
  rw[filter_cons,filter_cons,e1]
  split
  ·rw[map_cons,map_cons,ih,h1.id]
  ·exact ih
theorem kept_rel{W:ze9 Int Wk}{L:List DW}(hL:zle W L)(hn:(zck W).Nodup)(hf:(W.map (·.2.1.p)).Nodup){k:Int}{w:Wk}(hw:zii W k=some w){ps:ze9 Nam Int}{B:List Key}(hb:∀x,x∈zck ps↔x∈B)(t:Int):
  (W.filter (zmn w.p ps t)).map (·.1)=(L.filter λo=>decide (o.Id≠k)&&zj2 o B t).map (·.Id):=by
 refine zu8 hL λe d he hs=>?_;unfold zmn;rw[keeps_eq hs hb,decide_eq_decide.2 (not_congr ((far_ne hn hf hw e he).trans (by rw[hs.id])))]
theorem zle.set{k:Int}{w w':Wk}{d':DW}(hd:d'.Id=k)(hs:∀n,SameW (k,w',n) d'):∀{W:ze9 Int Wk}{L:List DW},zle W L->(zck W).Nodup->zii W k=some w->zle (zps W k w') (znm L k d')
 | e::W,d::L,.cons h1 h2,hn,h=>by
  have hn':e.1∉zck W /\ (zck W).Nodup:=nodup_cons.1 hn
  show zle ((if e.1=k then (e.1,w',e.2.2) else e)::zps W k w') _
  unfold zii at h
  unfold znm
  rw[<-h1.id]
  split at h
  ·rename_i hk
   rw[if_pos hk,if_pos hk,zsg (by rw[<-hk];exact hn'.1)]
   refine .cons ?_ h2
   rw[hk]
   exact hs _
  ·rename_i hk
   rw[if_neg hk,if_neg hk]
   exact .cons h1 (h2.set hd hs hn'.2 h)
theorem ztx{k:Int}{d':DW}(hd:d'.Id=k)(g:DW->Bool):∀{L:List DW}{dd:DW},findD L k=some dd->(L.map (·.Id)).Nodup->((znm L k d').filter λo=>decide (o.Id≠k)&&g o)=L.filter λo=>decide (o.Id≠k)&&g o
 | o::L,dd,h,hn=>by
  unfold findD at h
  unfold znm
  split at h
  ·rename_i hk
   rw[if_pos hk,filter_cons,filter_cons]
   simp[hd,hk]
  ·rename_i hk
   rw[if_neg hk,filter_cons,filter_cons,ztx hd g h (nodup_cons.1 hn).2]
theorem zle.ids:∀{W:ze9 Int Wk}{L:List DW},zle W L->L.map (·.Id)=zck W
 | [],[],_=>rfl
 | e::W,d::L,.cons h1 h2=>by
  rw[map_cons,zlt,h2.ids,h1.id]
theorem zsy(l:List Int):(zi0 l).length=l.length:=(zgq l).length_eq
variable{C:z6}{N:zN}
theorem zcy.blkSt{h0 h:zb}{l:List Ob}(ho:zcy h0 h l)(i:Nat){id off:Nat}{cs:List za}{v:za}{K:zb->Prop}(hi:l[i]?=some (.blk id (zdr cs)))(hv:v.zdx=true)(hoff:off<cs.length)
  (hK:∀h',zcy h0 h' (l.set i (.blk id (zdr (cs.set off v))))->K h'):B.st h (.ptr id 0 off) v K:=by
 show A.st h (.ptr id 0 off) v K;rw[st_at (ho.at i hi) hv hoff];exact hK _ (ho.setBlk i hi rfl)
theorem zos{x:Key}:∀{B H:List Key},x∈B.foldl ziw H↔x∈H \/ x∈B
 | [],H=>by simp
 | b::B,H=>by
  rw[foldl_cons,zos,znr,mem_cons]
  constructor
  ·rintro((h|h)|h)
   ·exact .inr (.inl h)
   ·exact .inl h
   ·exact .inr (.inr h)
  ·rintro(h|h|h)
   ·exact .inl (.inr h)
   ·exact .inl (.inl h)
   ·exact .inr h
theorem zm3:∀{B H:List Key},zt4 H->zt4 (B.foldl ziw H)
 | [],H,h=>h
 | b::B,H,h=>by rw[foldl_cons];exact zm3 (zs3 h)
theorem ask_k1{h0 h:zb}{s:Lk}{k:Int}{w:Wk}{ps:ze9 Nam Int}{c:Nat}{t:Int}{d:DL}{dd:DW}{Z:List Key}{Q:zQ}(s3:zbm.Spec C N)(s4:zg.Spec C N)
  (hs:s.Ok) (hlen:s.W.length <= 100000) (hw:zii s.W k=some w) (hps:zrb ps c) (ho:zcy h0 h (s.fore k { w with zf5:=ps,wc:=c } s.last)) (hr:Rel s d) (hd:findD d.L k=some dd) (hsw:∀n,SameW (k,w,n) dd)
  (hB:∀x,x∈zck ps↔x∈Z) (hRB:zt4 Z)
  (hq:∀(h':zb)(s':Lk),s'.Ok->zcy h0 h' s'.obs->s'.W.length=s.W.length->s'.l=s.l ->
   Rel s' (if (zgh d k Z t).isEmpty then ⟨znm d.L k ⟨k,Z.foldl ziw dd.zff,[],0⟩,d.zji⟩ else ⟨znm d.L k ⟨k,dd.zff,Z,t⟩,max d.zji t⟩)->Q (.bool (zgh d k Z t).isEmpty) h'):
  z8.k1 C N (dn Q) (.ptr s.l 0 0) (.ptr w.p 0 0) (.int .i64 t) h:=by
 have hwok:w.Ok:=by
  obtain⟨n,hn⟩:=zjr hw;exact hs.zh4 _ hn
 have hok:(s.put k { w with zf5:=ps,wc:=c } s.last).Ok:=hs.put (w':={ w with zf5:=ps,wc:=c }) hw rfl ⟨hwok.held,hps⟩ s.last;have hat:=Lk.at_of (ho.perm (Lk.put_fore hs hw (w':={ w with zf5:=ps,wc:=c }) rfl s.last).symm) hok;have p2:h w.p=some (zdr [.mp w.hm,.mp w.wm,.int .i64 w.zh9]):=ho.at 2 rfl;have p4:zsa h w.wm ps:=⟨c,ho.at 4 rfl,hps⟩;have e2:=zeq (k:=1) p2 rfl;simp -dsimp only[z8.k1,B.zb9,V.fieldAddr,Nat.zero_add,B.ze,B.zeo,e2]
 have hlen2:(s.put k { w with zf5:=ps,wc:=c } s.last).W.length <= 100000:=by
  show (zps s.W k _).length <= _;unfold zps;rw[length_map];exact hlen
 obtain⟨s2,hs2⟩:∃x,x=s.put k { w with zf5:=ps,wc:=c } s.last:=⟨_,rfl⟩;have l2:s2.l=s.l:=by rw[hs2];rfl
 rw[<-hs2]at hat hok hlen2;have r3:=λQ=>s3 h s2 w.p w.wm _ ps t Q hat hok hlen2 p2 p4;rw[l2]at r3;refine r3 _ λx' h1 ox=>?_;have hle:h.le h1:=ox.le;have hx:=(ox.zhs 0 rfl).zcj;have hk2:(s2.W.filter (zmn w.p ps t)).map (·.1)=zgh d k Z t:=by
  have hsl:zle s2.W (znm d.L k ⟨k,dd.zff,Z,dd.zkq⟩):=by
   rw[hs2];exact hr.zh4.set (w':={ w with zf5:=ps,wc:=c }) (d':=⟨k,dd.zff,Z,dd.zkq⟩) rfl (λn=>⟨rfl,(hsw n).held,hB,(hsw n).zh9,(hsw n).riseH,hRB⟩) hs.nodup hw
  have hg:zii s2.W k=some { w with zf5:=ps,wc:=c }:=by rw[hs2];exact setW_get hw
  have h5:=kept_rel hsl hok.nodup hok.far hg hB t;rw[ztx (k:=k) (d':=⟨k,dd.zff,Z,dd.zkq⟩) rfl _ hd (by rw[hr.zh4.ids];exact hs.nodup)]at h5;exact h5
 have hkl:keptL s2 w.p ps t=zi0 (zgh d k Z t):=by unfold keptL;rw[hk2]
 rw[hkl,length_map,zsy]at hx;have o1:=ho.grow hle;simp -dsimp only[hx,B.ze,V.zpn];refine B.zbc (λhc=>?_) (λhc=>?_)
 ·have hne:(zgh d k Z t).isEmpty=false:=by
   rw[decide_eq_true_eq]at hc;cases hl:zgh d k Z t with
   | nil=>rw[hl]at hc;simp at hc
   | cons _ _=>rfl
  rw[hne]at hq;have q0:h1 s.l=some (zdr [.mp s.m,.int .i64 s.last]):=o1.at 0 rfl;have f0:=zeq (k:=1) q0 rfl;simp -dsimp only[B.zb9,V.fieldAddr,Nat.zero_add,B.zeo,f0,B.ze,V.max2_int];refine o1.blkSt 2 rfl rfl (by simp) λh2 o2=>?_;simp -dsimp only[B.zb9,V.fieldAddr,Nat.zero_add,B.ze];refine o2.blkSt 0 rfl rfl (by simp) λh3 o3=>?_;have o3':zcy h0 h3 (s.fore k { w with zf5:=ps,wc:=c,zh9:=t } (max s.last t)):=o3;refine zbf (hq h3 (s.put k { w with zf5:=ps,wc:=c,zh9:=t } (max s.last t)) (hs.put (w':={ w with zf5:=ps,wc:=c,zh9:=t }) hw rfl ⟨hwok.held,hps⟩ _) (o3'.perm (Lk.put_fore (w':={ w with zf5:=ps,wc:=c,zh9:=t }) hs hw rfl _).symm) ?_ rfl ⟨by rw[hr.last];rfl,?_⟩)
  ·show (zps s.W k _).length=_
   unfold zps;rw[length_map]
  ·exact hr.zh4.set (w':={ w with zf5:=ps,wc:=c,zh9:=t }) (d':=⟨k,dd.zff,Z,t⟩) rfl (λn=>⟨rfl,(hsw n).held,hB,rfl,(hsw n).riseH,hRB⟩) hs.nodup hw
 ·have hne:(zgh d k Z t).isEmpty=true:=by
   rw[decide_eq_false_iff_not]at hc;cases hl:zgh d k Z t with
   | nil=>rfl
   | cons _ _=>rw[hl]at hc;simp at hc
  rw[hne]at hq;have q2:h1 w.p=some (zdr [.mp w.hm,.mp w.wm,.int .i64 w.zh9]):=o1.at 2 rfl;have f0:=zeq (k:=0) q2 rfl;have f1:=zeq (k:=1) q2 rfl;simp -dsimp only[B.zb9,V.fieldAddr,Nat.zero_add,B.zeo,f0,f1,B.ze];have o2:zcy h0 h1 (zpy w.hm w.held w.hc::zpy w.wm ps c::[.blk s.l (zdr [.mp s.m,.int .i64 s.last]),.blk s.m (zfm (zjs wV pV s.W) s.c),.blk w.p (zdr [.mp w.hm,.mp w.wm,.int .i64 w.zh9])]++(zpv s.W k).flatMap λe=>e.2.1.obs):=o1.perm (by
   show List.Perm ([_,_,_]++([zpy w.hm w.held w.hc,zpy w.wm ps c]++_)) ([zpy w.hm w.held w.hc,zpy w.wm ps c]++([_,_,_]++_));rw[<-append_assoc,<-append_assoc];exact perm_append_comm.append_right _)
  refine s4 h0 h1 w.hm w.wm w.hc c w.held ps _ _ o2 hwok.held hps λh2 ps' c' k1 k2 o3=>?_;refine o3.zmj nV wV λm2 h3 hm o4 hle3=>?_;simp -dsimp only[B.zb9,V.fieldAddr,Nat.zero_add,B.ze];refine o4.blkSt 4 rfl rfl (by simp) λh4 o5=>?_;simp -dsimp only[B.zb9,V.fieldAddr,Nat.zero_add,B.ze];refine o5.blkSt 4 rfl rfl (by simp) λh5 o6=>?_;have o7:zcy h0 h5 (zpy w.hm ps' c':: .blk s.l (zdr [.mp s.m,.int .i64 s.last]):: .blk s.m (zfm (zjs wV pV s.W) s.c):: .blk w.p (zdr [.mp w.hm,.mp m2,.int .i64 0])::(((zpv s.W k).flatMap λe=>e.2.1.obs)++[zpy m2 [] 0])):=o6.sub (.cons_cons _ (.cons _ (List.Sublist.refl _)))
  have o8:zcy h0 h5 (s.fore k { w with held:=ps',hc:=c',wm:=m2,zf5:=[],wc:=0,zh9:=0 } s.last):=o7.perm (by
   show List.Perm ([zpy w.hm ps' c']++([_,_,_]++(_++[zpy m2 [] 0]))) ([_,_,_]++([zpy w.hm ps' c']++([zpy m2 [] 0]++_)));refine((perm_append_comm (l₁:=(zpv s.W k).flatMap λe=>e.2.1.obs) (l₂:=[zpy m2 [] 0])).append_left _ |>.append_left _).trans ?_;exact perm_append_comm_assoc _ _ _)
  have hnil:zrb [] 0:=⟨zg5.nil 0,λp hp=>absurd hp (not_mem_nil),List.Pairwise.nil⟩;refine zbf (hq h5 (s.put k { w with held:=ps',hc:=c',wm:=m2,zf5:=[],wc:=0,zh9:=0 } s.last) (hs.put (w':={ w with held:=ps',hc:=c',wm:=m2,zf5:=[],wc:=0,zh9:=0 }) hw rfl ⟨k1,hnil⟩ _) (o8.perm (Lk.put_fore (w':={ w with held:=ps',hc:=c',wm:=m2,zf5:=[],wc:=0,zh9:=0 }) hs hw rfl _).symm) ?_ rfl ⟨hr.last,?_⟩)
  ·show (zps s.W k _).length=_
   unfold zps;rw[length_map]
  ·refine hr.zh4.set (w':={ w with held:=ps',hc:=c',wm:=m2,zf5:=[],wc:=0,zh9:=0 }) (d':=⟨k,Z.foldl ziw dd.zff,[],0⟩) rfl (λn=>⟨rfl,λx=>?_,λx=>?_,rfl,zm3 (hsw n).riseH,List.Pairwise.nil⟩) hs.nodup hw
   ·rw[zos,<-(hsw n).held x,<-hB x]
    exact k2 x
   ·exact Iff.rfl
variable{C:z6}{N:zN}
theorem zul(w:DW)(names:List Key){i:Nat}(h:i<names.length):zg2 w (names.take (i+1))=if names[i]∉w.zff /\ [42]∉w.zff then ziw (zg2 w (names.take i)) names[i] else zg2 w (names.take i):=by
 unfold zg2;rw[take_add_one,getElem?_eq_getElem h,foldl_append];rfl
theorem wantD_rise{w:DW}(hr:zt4 w.zga)(names:List Key):zt4 (zg2 w names):=by
 unfold zg2;generalize w.zga=l at hr
 induction names generalizing l with
 | nil=>exact hr
 | cons n r ih=>
  rw[foldl_cons];refine ih _ ?_;split
  ·exact zs3 hr
  ·exact hr
theorem ask_loop{h0 h:zb}{s:Lk}{k:Int}{w:Wk}{d:DL}{dd:DW}{names:List Key}{x:za}{R:List (List za)}{Q:zQ}(s2:zcb.Spec C N)(s3:zbm.Spec C N)(s4:zg.Spec C N)
  (hs:s.Ok) (hlen:s.W.length <= 100000) (hw:zii s.W k=some w) (ho:zcy h0 h s.obs) (hr:Rel s d) (hd:findD d.L k=some dd) (hsw:∀n,SameW (k,w,n) dd) (hx:SlX h0 1 x (names.map tc) R) (hn:names.length <= 100000) (hl1: -1000000000 <= s.last) (hl2:s.last <= 1000000000)
  (hq:∀(h':zb)(s':Lk),s'.Ok->zcy h0 h' s'.obs->s'.W.length=s.W.length->s'.l=s.l->Rel s' (zku d k names).2->Q (.bool (zku d k names).1) h'):
  zq (z8.l4 C N (dn Q) (.ptr s.l 0 0) (.ptr w.p 0 0) x (.int .i64 (names.length:Int))) [(.int .i64 0)] h:=by
 have hwok:w.Ok:=by
  obtain⟨n,hn⟩:=zjr hw;exact hs.zh4 _ hn
 have hwD:ze6 d k=dd:=by simp[ze6,hd]
 refine zq.intro (λt vs hh=>∃(i:Nat)(ps:ze9 Nam Int)(c:Nat),i+t=names.length /\ vs=[.int .i64 (i:Int)] /\ zrb ps c /\ (∀y,y∈zck ps↔y∈zg2 dd (names.take i)) /\ zcy h0 hh (s.fore k { w with zf5:=ps,wc:=c } s.last)) names.length ?_
  ⟨0,w.zf5,w.wc,by omega,rfl,hwok.zf5,(hsw 0).zf5,ho.perm (Lk.obs_fore hw)⟩
 rintro Y t vs hh ⟨i,ps,c,hit,rfl,hps,hmem,o⟩ hY;have p2:hh w.p=some (zdr [.mp w.hm,.mp w.wm,.int .i64 w.zh9]):=o.at 2 rfl;have p3:zsa hh w.hm w.held:=⟨w.hc,o.at 3 rfl,hwok.held⟩;have e0:=zeq (k:=0) p2 rfl;have e1:=zeq (k:=1) p2 rfl;have e2:=zeq (k:=2) p2 rfl;have hxx:=hx.mono o.le;simp -dsimp only[z8.l4,z8.k3,V.zfi,B.ze];refine B.zbc (λhc=>?_) (λhc=>?_)
 ·have hi:i<names.length:=by have:=of_decide_eq_true hc;omega
  have g1:(names.map tc)[i]?=some (tc names[i]):=by rw[getElem?_map,getElem?_eq_getElem hi];rfl
  have i1:V.zcp 1 x (.int .i64 (i:Int))=some (elp 1 x i 0):=hxx.zmd (by simpa using hi);have c1:A.ldv hh (elp 1 x i 0)=some (.str names[i]):=hxx.cell g1;simp -dsimp only[B.zb9,V.fieldAddr,Nat.zero_add,B.zeo,i1,c1,e0,B.ze];refine s2 hh w.hm w.held names[i] _ p3 ?_;simp +contextual -dsimp[e0,V.fieldAddr];refine B.gdb_call (λ_ _ hq=>s2 hh w.hm w.held [42] _ p3 hq) ?_;simp +contextual -dsimp[V.fieldAddr];have hh1:=(hsw 0).held names[i];have hh2:=(hsw 0).held [42];refine B.zbc (λhd=>?_) (λhd=>?_)
  ·have hcond:names[i]∉dd.zff /\ [42]∉dd.zff:=by
    simp at hd;exact⟨λh=>hd.1 (hh1.2 h),λh=>hd.2 (hh2.2 h)⟩
   simp -dsimp only[B.zb9,V.fieldAddr,Nat.zero_add,B.zeo,e1,B.ze];refine o.mset (κ:=nV) (v:=wV) 4 rfl keyS names[i] 1 λh' o' _ _=>?_;simp -dsimp only[zh3 (show i<4611686018427387904 by omega),B.ze];refine hY (t-1) _ _ (by omega) ⟨i+1,znp ps names[i] 1 c,clkP ps names[i] c,by omega,rfl,hps.put _,λy=>?_,o'⟩;rw[zul dd names hi,if_pos hcond,zrl,znr,hmem]
  ·have hcond:¬ (names[i]∉dd.zff /\ [42]∉dd.zff):=by
    rintro⟨h1,h2⟩;have q1:names[i]∉zck w.held:=λh=>h1 (hh1.1 h);have q2:[42]∉zck w.held:=λh=>h2 (hh2.1 h);simp[q1,q2]at hd
   simp -dsimp only[zh3 (show i<4611686018427387904 by omega),B.ze];refine hY (t-1) _ _ (by omega) ⟨i+1,ps,c,by omega,rfl,hps,λy=>?_,o⟩;rw[zul dd names hi,if_neg hcond,hmem]
 ·have hi:i=names.length:=by have:=of_decide_eq_false hc;omega
  rw[hi,take_length]at hmem;simp -dsimp only[B.zb9,V.fieldAddr,Nat.zero_add,B.zeo,e2,B.ze,z8.k2];have hfin:∀u,zkr d k=u->z8.k1 C N (dn Q) (.ptr s.l 0 0) (.ptr w.p 0 0) (.int .i64 u) hh:=λu hu=>by
   refine ask_k1 s3 s4 hs hlen hw hps o hr hd hsw hmem (wantD_rise (hsw 0).riseW names) λh' s' k1 k2 k3 k4 k5=>?_
   have ha:zku d k names=(if (zgh d k (zg2 dd names) u).isEmpty then (true,⟨znm d.L k ⟨k,(zg2 dd names).foldl ziw dd.zff,[],0⟩,d.zji⟩) else (false,⟨znm d.L k ⟨k,dd.zff,zg2 dd names,u⟩,max d.zji u⟩)):=by
    unfold zku;rw[hwD,hu]
   rw[ha]at hq;cases hb:(zgh d k (zg2 dd names) u).isEmpty with
   | true=>
    rw[hb]at hq k5;exact hq h' s' k1 k2 k3 k4 k5
   | false=>
    rw[hb]at hq k5;exact hq h' s' k1 k2 k3 k4 k5
  have ht:=(hsw 0).zh9;have ee:V.bin .eql (.int .i64 w.zh9) (.int .i64 0)=some (.bool (decide (w.zh9=0))):=by simp
  simp -dsimp only[ee,B.ze];refine B.zbc (λhc=>?_) (λhc=>?_)
  ·have hc:=of_decide_eq_true hc
   have q0:hh s.l=some (zdr [.mp s.m,.int .i64 s.last]):=o.at 0 rfl;have f0:=zeq (k:=1) q0 rfl;have ea:V.bin .add (.int .i64 s.last) (.int .i64 1)=some (.int .i64 (s.last+1)):=by rw[V.zh8,wrap_i64 (by omega) (by omega)]
   simp -dsimp only[B.zb9,V.fieldAddr,Nat.zero_add,B.zeo,f0,ea,B.ze];refine hfin _ ?_;unfold zkr;rw[hwD,if_pos (by rw[<-ht];exact hc),hr.last]
  ·have hc:=of_decide_eq_false hc
   refine hfin _ ?_;unfold zkr;rw[hwD,if_neg (by rw[<-ht];exact hc)];exact ht.symm
variable{C:z6}{N:zN}
theorem ztw{k:Int}{w:DW}(hw:w.Id=k):∀{L:List DW},findD L k=none->findD (L++[w]) k=some w
 | [],_=>by simp[findD,hw]
 | o::L,h=>by
  unfold findD at h
  split at h
  ·cases h
  ·rename_i hk
   show findD (o::(L++[w])) k=some w
   unfold findD
   rw[if_neg hk]
   exact ztw hw h
theorem setD_app{k:Int}{w w':DW}(hw:w.Id=k):∀{L:List DW},findD L k=none->znm (L++[w]) k w'=znm L k w'
 | [],_=>by simp[znm,hw]
 | o::L,h=>by
  unfold findD at h
  split at h
  ·cases h
  ·rename_i hk
   show znm (o::(L++[w])) k w'=znm (o::L) k w'
   unfold znm
   rw[if_neg hk,if_neg hk,setD_app hw h]
theorem askD_new{d:DL}{k:Int}(names:List Key)(h:findD d.L k=none):zku ⟨d.L++[⟨k,[],[],0⟩],d.zji⟩ k names=zku d k names:=by
 have h1:=ztw (w:=⟨k,[],[],0⟩) rfl h;have hw:ze6 ⟨d.L++[⟨k,[],[],0⟩],d.zji⟩ k=ze6 d k:=by simp[ze6,h,h1]
 have ht:zkr ⟨d.L++[⟨k,[],[],0⟩],d.zji⟩ k=zkr d k:=by unfold zkr;rw[hw]
 have hk:∀w t,zgh ⟨d.L++[⟨k,[],[],0⟩],d.zji⟩ k w t=zgh d k w t:=λw t=>by
  unfold zgh;rw[filter_append];simp
 unfold zku;rw[hw,ht];simp only[hk];rw[setD_app rfl h,setD_app rfl h]
theorem zle.app{e:Int×Wk×Nat}{w:DW}(hs:SameW e w):∀{W:ze9 Int Wk}{L:List DW},zle W L->zle (W++[e]) (L++[w])|[],[],_=> .cons hs .nil|e'::W,d::L,.cons h1 h2=> .cons h1 (h2.app hs)
theorem putP_none{k:Int}{w:Wk}{c:Nat}:∀{W:ze9 Int Wk},zii W k=none->znp W k w c=W++[(k,w,c)]
 | [],_=>rfl
 | e::W,h=>by
  unfold zii at h
  split at h
  ·cases h
  ·rename_i hk
   unfold znp
   rw[if_neg hk,putP_none h]
   rfl
def z8.Spec(C:z6)(N:zN):Prop:=∀(h0 h:zb)(s:Lk)(d:DL)(k:Int)(names:List Key)(x:za)(R:List (List za))(Q:zQ),zcy h0 h s.obs->s.Ok->Rel s d->s.W.length<100000->SlX h0 1 x (names.map tc) R->names.length <= 100000-> -1000000000 <= s.last->s.last <= 1000000000->(∀(h':zb)(s':Lk),s'.Ok->zcy h0 h' s'.obs->s'.W.length <= s.W.length+1->s'.l=s.l->Rel s' (zku d k names).2->Q (.bool (zku d k names).1) h')->C (N 489) [.ptr s.l 0 0,.int .i64 k,x] h Q
theorem z8.spec(i:z8.Imp C N)(s1:zc5.Spec C N)(s2:zcb.Spec C N)(s3:zbm.Spec C N)(s4:zg.Spec C N):z8.Spec C N:=by
 intro h0 h s d k names x R Q ho hk hr hlen hx hn hl1 hl2 hq;have hs:=Lk.at_of ho hk;apply i;have e1:=zeq (k:=0) hs.1 rfl;have el:=lkpW hs.2.1 k;refine s1 h s _ hs ?_;simp -dsimp only[V.zgj,Bool.not_true,B.ze,B.cond_false,z8.k6,B.zb9,V.fieldAddr,Nat.zero_add,B.zeo,e1];have hxl:=fun{hh:zb}(hle:h0.le hh)=>(hx.mono hle).zcj;rw[length_map]at hxl;rcases hr.zh4.get (k:=k) with⟨w1,w2⟩|⟨e,dd,m1,m2,m3,w1,w2,hsw⟩
 ·rw[w1]at el
  have ep:V.zif .eql .zm8 .zm8=some (.bool true):=rfl;simp -dsimp only[el,B.ze,z8.k5,ep,B.cond_true];refine ho.zmj nV wV λhm h1 f1 o1 l1=>?_;refine o1.zmj nV wV λwm h2 f2 o2 l2=>?_;have eb:A.bld [(0,none,.mp hm),(1,none,.mp wm)] [.zri,.zri,.int .i64 0]=some (.agg [.mp hm,.mp wm,.int .i64 0]):=rfl;have ec:A.zj4 3 (.agg [.mp hm,.mp wm,.int .i64 0])=some [.mp hm,.mp wm,.int .i64 0]:=rfl;simp -dsimp only[eb,ec,B.ze];intro p hp;have o3:=o2.zp6 hp (b:=zdr [.mp hm,.mp wm,.int .i64 0]) rfl;have q0:upd h2 p (zdr [.mp hm,.mp wm,.int .i64 0]) s.l=some (zdr [.mp s.m,.int .i64 s.last]):=o3.at 0 rfl;have f0:=zeq (k:=0) q0 rfl;simp -dsimp only[B.zb9,V.fieldAddr,Nat.zero_add,B.zeo,f0,B.ze];refine o3.mset (κ:=wV) (v:=pV) 1 rfl keyI k ⟨p,hm,wm,0,0,[],[],0⟩ λh4 o4 _ _=>?_;simp -dsimp only[hxl o4.le,B.ze];have hput:znp s.W k ⟨p,hm,wm,0,0,[],[],0⟩ s.c=s.W++[(k,⟨p,hm,wm,0,0,[],[],0⟩,s.c)]:=putP_none w1;have hnil:zrb [] 0:=⟨zg5.nil 0,λp hp=>absurd hp (not_mem_nil),List.Pairwise.nil⟩;obtain⟨s5,hs5⟩:∃s5:Lk,s5={ s with W:=znp s.W k ⟨p,hm,wm,0,0,[],[],0⟩ s.c,c:=clkP s.W k s.c }:=⟨_,rfl⟩;have hW5:s5.W=s.W++[(k,⟨p,hm,wm,0,0,[],[],0⟩,s.c)]:=by rw[hs5];exact hput
  have o5:zcy h0 h4 s5.obs:=o4.perm (by
   have e5:s5.obs=[.blk s.l (zdr [.mp s.m,.int .i64 s.last]),.blk s.m (zfm (zjs wV pV (znp s.W k ⟨p,hm,wm,0,0,[],[],0⟩ s.c)) (clkP s.W k s.c))]++((s.W.flatMap λe=>e.2.1.obs)++[.blk p (zdr [.mp hm,.mp wm,.int .i64 0]),zpy hm [] 0,zpy wm [] 0]):=by
    unfold Lk.obs;rw[hW5,flatMap_append];rw[hs5,hput];rfl
   rw[e5];show List.Perm ([_,_]++((((s.W.flatMap λe=>e.2.1.obs)++[zpy hm [] 0])++[zpy wm [] 0])++[.blk p (zdr [.mp hm,.mp wm,.int .i64 0])])) _;refine List.Perm.append_left _ ?_;rw[append_assoc,append_assoc];refine List.Perm.append_left _ ?_;exact perm_append_comm (l₁:=[zpy hm [] 0,zpy wm [] 0]) (l₂:=[.blk p (zdr [.mp hm,.mp wm,.int .i64 0])]))
  have k5:s5.Ok:=by
   refine⟨?_,?_,?_,?_⟩
   ·rw[hs5];exact hk.zvf.put k _
   ·rw[hs5];exact zm7 hk.nodup k _ _
   ·intro e he
    rw[hW5]at he;rcases mem_append.1 he with he|he
    ·exact hk.zh4 e he
    ·rw[mem_singleton.1 he];exact⟨hnil,hnil⟩
   ·rw[hW5,map_append,nodup_append]
    refine⟨hk.far,by simp,λa ha b hb=>?_⟩;obtain⟨e,he,rfl⟩:=mem_map.1 ha;have hb:b=p:=by simpa using hb
    rw[hb];intro hab;have h7:=(zb.le_trans l1 l2) _ _ (hs.2.2 e he).1;rw[hab,hp]at h7;cases h7
  have r5:Rel s5 ⟨d.L++[⟨k,[],[],0⟩],d.zji⟩:=⟨by rw[hs5];exact hr.last,by
   rw[hW5];exact hr.zh4.app ⟨rfl,λx=>Iff.rfl,λx=>Iff.rfl,rfl,List.Pairwise.nil,List.Pairwise.nil⟩⟩
  have g5:zii s5.W k=some ⟨p,hm,wm,0,0,[],[],0⟩:=by rw[hs5];show zii (znp _ _ _ _) k=_;rw[zsl,if_pos rfl]
  have l5:s5.l=s.l:=by rw[hs5]
  have n5:s5.W.length=s.W.length+1:=by rw[hW5];simp
  have a5:s5.last=s.last:=by rw[hs5]
  have:=ask_loop (x:=x) (names:=names) (Q:=Q) s2 s3 s4 k5 (by omega) g5 o5 r5 (ztw rfl w2) (λn=>⟨rfl,λx=>Iff.rfl,λx=>Iff.rfl,rfl,List.Pairwise.nil,List.Pairwise.nil⟩) hx hn (by omega) (by omega) λh' s' q1 q2 q3 q4 q5=>by
   rw[askD_new names w2]at q5 ⊢;exact hq h' s' q1 q2 (by omega) (by rw[q4,l5]) q5
  rw[l5]at this;exact this
 ·rw[w1]at el
  have ep:V.zif .eql (.ptr e.2.1.p 0 0) .zm8=some (.bool false):=rfl;simp -dsimp only[el,B.ze,z8.k5,ep,B.cond_false,hxl ho.le];exact ask_loop s2 s3 s4 hk (by omega) w1 ho hr w2 (λn=>⟨by rw[<-m3];exact hsw.id,hsw.held,hsw.zf5,hsw.zh9,hsw.riseH,hsw.riseW⟩) hx hn hl1 hl2 λh' s' q1 q2 q3 q4 q5=>hq h' s' q1 q2 (by omega) q4 q5
variable{C:z6}{N:zN}
def SetI(ps:ze9 Int Int)(c:Nat):Prop:=zg5 ps c /\ (∀p∈ps,p.2.1=1) /\ (zck ps).Nodup
abbrev zs0(m:Nat)(ps:ze9 Int Int)(c:Nat):Ob:= .blk m (zfm (zjs wV wV ps) c)
theorem SetI.put{ps:ze9 Int Int}{c:Nat}(h:SetI ps c)(k:Int):SetI (znp ps k 1 c) (clkP ps k c):=by
 refine⟨h.1.put k 1,λp hp=>?_,zm7 h.2.2 k 1 c⟩;have h1:=mem_getP (zm7 h.2.2 k 1 c) hp;rw[zsl]at h1;split at h1
 ·exact(Option.some.inj h1).symm
 ·obtain⟨n,hn⟩:=zjr h1
  exact h.2.1 (p.1,p.2.1,n) hn
theorem zi3{ps:ze9 Int Int}{c:Nat}{k x:Int}:x∈zck (znp ps k 1 c)↔x=k \/ x∈zck ps:=by
 rw[zna];split
 ·rename_i h
  constructor
  ·exact .inr
  ·rintro(rfl|h1)
   ·exact h
   ·exact h1
 ·rw[mem_append,mem_singleton,or_comm]
theorem onesI_get{ps:ze9 Int Int}(h1:∀p∈ps,p.2.1=1)(k:Int):decide (0<(zii ps k).getD 0)=decide (k∈zck ps):=by
 cases e:zii ps k with
 | none=>have:=zts.1 e;simp[this]
 | some v=>
  obtain⟨n,hn⟩:=zjr e;have:=h1 _ hn;have hk:k∈zck ps:=mem_map.2 ⟨_,hn,rfl⟩;simp at this;simp[hk,this]
def zcc.Spec(C:z6)(N:zN):Prop:=∀(h:zb)(m c:Nat)(ps:ze9 Int Int)(k:Int)(Q:zQ),h m=some (zfm (zjs wV wV ps) c)->SetI ps c->Q (.bool (decide (k∈zck ps))) h->C (N 513) [.mp m,.int .i64 k] h Q
theorem zcc.spec(i:zcc.Imp C N):zcc.Spec C N:=by
 intro h m c ps k Q h1 hs hq;apply i;have e:A.lkp h (some .i) (some (.int .i64 0)) false (.mp m) (.int .i64 k)=some (.int .i64 ((zii ps k).getD 0)):=lkp_blk (v:=wV) keyI h1 0 k false;simp -dsimp only[zcc.cps,e,B.ze,V.zpn];rw[onesI_get hs.2.1];exact zbf hq
inductive Reach(s:Lk)(a:Int):Int->Prop
 | one {b:Int}:b∈zfe s a->Reach s a b
 | more {b c:Int}:Reach s a b->c∈zfe s b->Reach s a c
theorem Reach.first{s:Lk}{a b c:Int}(h:b∈zfe s a)(hr:Reach s b c):Reach s a c:=by
 induction hr with
 | one h1=>exact .more (.one h) h1
 | more _ h2 ih=>exact .more ih h2
theorem waits_known{s:Lk}{a b:Int}(h:b∈zfe s a):b∈zck s.W:=by
 unfold zfe at h;split at h
 ·cases h
 ·split at h
  ·cases h
  ·unfold keptL at h
   have h1:=(zgq _).mem_iff.1 h;obtain⟨e,he,rfl⟩:=mem_map.1 h1;exact mem_map.2 ⟨e,(mem_filter.1 he).1,rfl⟩
structure Looked(s:Lk)(a:Int)(S S':List Int):Prop where
 sub:∀x∈S,x∈S'
 near:∀x∈zfe s a,x∈S'
 closed:∀x∈S',x∉S->∀y∈zfe s x,y∈S'
 reach:∀x∈S',x∉S->Reach s a x
 known:∀x∈S',x∈zck s.W
def lookAt(C:z6)(N:zN)(n:Nat):Prop:=∀(h0 h:zb)(s:Lk)(m c i2 i5 i6:Nat)(ps:ze9 Int Int)(a:Int)(Q:zQ),s.At h0->s.Ok->s.W.length <= 100000->h0 i2=some (zdr [.ptr s.l 0 0])->h0 i5=some (zdr [.mp m])->h0 i6=some (zdr [.fn (N 526) [] [.ptr i2 0 0,.ptr i5 0 0,.ptr i6 0 0]])->zcy h0 h [zs0 m ps c]->SetI ps c->(∀x∈zck ps,x∈zck s.W)->s.W.length <= ps.length+n->(∀(h':zb)(ps':ze9 Int Int)(c':Nat),zcy h0 h' [zs0 m ps' c']->SetI ps' c'->Looked s a (zck ps) (zck ps')->Q (.tup []) h')->C (N 526) [.int .i64 a,.ptr i2 0 0,.ptr i5 0 0,.ptr i6 0 0] h Q
theorem zbo.look(i:zbo.Imp C N)(s1:zcd.Spec C N)(s2:zcc.Spec C N):∀n,lookAt C N n:=by
 intro n
 induction n using Nat.strongRecOn with
 | ind n ih=>
  intro h0 h s m c i2 i5 i6 ps a Q hs hk hlen b2 b5 b6 ho hps hkn hm hq;apply i;have e2:=zeq (k:=0) (ho.le _ _ b2) rfl;simp -dsimp only[zbo.cps,zbo.k3,B.zeo,e2,B.ze];refine s1 h s a _ (hs.mono ho.le) hk hlen λx' h1 ox=>?_;have hx:=(ox.zhs 0 rfl).zcj;rw[length_map]at hx;have o1:zcy h0 h1 [zs0 m ps c,.sl 1 x' ((zfe s a).map icl) []]:=ho.join ox;simp -dsimp only[hx,B.ze];have hwl:(zfe s a).length <= 100000:=by
   unfold zfe;split
   ·simp
   ·split
    ·simp
    ·unfold keptL
     rw[zsy,length_map];exact Nat.le_trans (length_filter_le _ _) hlen
  refine zq.intro (λt vs hh=>∃(j:Nat)(qs:ze9 Int Int)(d:Nat),j+t=(zfe s a).length /\ vs=[.int .i64 (j:Int)] /\ SetI qs d /\ zcy h0 hh [zs0 m qs d,.sl 1 x' ((zfe s a).map icl) []] /\ ps.length <= qs.length /\ (∀x∈zck ps,x∈zck qs) /\ (∀x∈(zfe s a).take j,x∈zck qs) /\
   (∀x∈zck qs,x∉zck ps->∀y∈zfe s x,y∈zck qs) /\ (∀x∈zck qs,x∉zck ps->Reach s a x) /\ (∀x∈zck qs,x∈zck s.W)) (zfe s a).length ?_
   ⟨0,ps,c,by omega,rfl,hps,o1,Nat.le_refl _,λx hx=>hx,by simp,λx h1 h2=>absurd h1 h2,λx h1 h2=>absurd h1 h2,hkn⟩
  rintro Y t vs hh ⟨j,qs,d,hjt,rfl,hqs,o,hql,hsub,htake,hcl,hre,hkq⟩ hY;have e5:=zeq (k:=0) (o.le _ _ b5) rfl;have e6:=zeq (k:=0) (o.le _ _ b6) rfl;simp -dsimp only[zbo.l2,zbo.k1,V.zfi,B.ze];refine B.zbc (λhc=>?_) (λhc=>?_)
  ·have hj:j<(zfe s a).length:=by have:=of_decide_eq_true hc;omega
   have hxx:=o.zhs 1 rfl;have g1:((zfe s a).map icl)[j]?=some (icl (zfe s a)[j]):=by rw[getElem?_map,getElem?_eq_getElem hj];rfl
   have i1:V.zcp 1 x' (.int .i64 (j:Int))=some (elp 1 x' j 0):=hxx.zmd (by simpa using hj);have c1:A.ldv hh (elp 1 x' j 0)=some (.int .i64 (zfe s a)[j]):=hxx.cell g1;have hin:(zfe s a)[j]∈zfe s a:=getElem_mem hj;generalize hv:(zfe s a)[j]=v at c1 hin;have htk:∀x∈(zfe s a).take (j+1),x∈(zfe s a).take j \/ x=v:=λx hx=>by
    rw[take_add_one,getElem?_eq_getElem hj,mem_append]at hx;rcases hx with h|h
    ·exact .inl h
    ·right;rw[<-hv];simpa using h
   simp -dsimp only[B.zeo,i1,c1,e5,B.ze];refine s2 hh m d qs v _ (o.at 0 rfl) hqs ?_;simp -dsimp only[V.zgj,B.ze];refine B.zbc (λhd=>?_) (λhd=>?_)
   ·have hd:v∉zck qs:=by simpa using hd
    have hvW:=waits_known hin;have hlt:qs.length+1 <= s.W.length:=by
     have h3:(v::zck qs).length <= (zck s.W).length:=List.Nodup.length_le_of_subset (nodup_cons.2 ⟨hd,hqs.2.2⟩) (λx hx=>by
      rcases mem_cons.1 hx with rfl|hx
      ·exact hvW
      ·exact hkq x hx)
     simpa[zck]using h3
    have hpl:(znp qs v 1 d).length=qs.length+1:=by
     have:=congrArg List.length (zna v 1 d qs);rw[if_neg hd]at this;simpa[zck]using this
    simp -dsimp only[B.zeo,e5,B.ze];refine o.mset (κ:=wV) (v:=wV) 0 rfl keyI v 1 λh2 o2 _ _=>?_;have o2':zcy h0 h2 ([.sl 1 x' ((zfe s a).map icl) []]++[zs0 m (znp qs v 1 d) (clkP qs v d)]):=o2.perm (List.Perm.swap _ _ _);have e6':=zeq (k:=0) (o2.le _ _ b6) rfl;simp -dsimp only[B.zeo,e6',B.ze];rw[B.callv_fn];obtain⟨oa,ob⟩:=o2'.out;refine ih (n-1) (by omega) _ h2 s m (clkP qs v d) i2 i5 i6 (znp qs v 1 d) v _ (hs.mono oa.le) hk hlen (oa.le _ _ b2) (oa.le _ _ b5) (oa.le _ _ b6) ob (hqs.put v) (λx hx=>?_) (by omega) λh3 qs3 d3 o3 k3 lk=>?_
    ·rcases zi3.1 hx with rfl|hx
     ·exact hvW
     ·exact hkq x hx
    ·have o4:zcy h0 h3 [zs0 m qs3 d3,.sl 1 x' ((zfe s a).map icl) []]:=(oa.join o3).perm (List.Perm.swap _ _ _)
     simp -dsimp only[zh3 (show j<4611686018427387904 by omega),B.ze];have up:∀x∈zck qs,x∈zck qs3:=λx hx=>lk.sub x (zi3.2 (.inr hx));have hl3:ps.length <= qs3.length:=by
      have h5:(zck qs).length <= (zck qs3).length:=List.Nodup.length_le_of_subset hqs.2.2 up;have h6:qs.length <= qs3.length:=by simpa[zck]using h5
      omega
     refine hY (t-1) _ _ (by omega) ⟨j+1,qs3,d3,by omega,rfl,k3,o4,hl3,λx hx=>up x (hsub x hx),λx hx=>?_,λx h1 h2 y hy=>?_,λx h1 h2=>?_,lk.known⟩
     ·rcases htk x hx with h|rfl
      ·exact up x (htake x h)
      ·exact lk.sub _ (zi3.2 (.inl rfl))
     ·by_cases hxq:x∈zck (znp qs v 1 d)
      ·rcases zi3.1 hxq with rfl|hxq
       ·exact lk.near y hy
       ·exact up y (hcl x hxq h2 y hy)
      ·exact lk.closed x h1 hxq y hy
     ·by_cases hxq:x∈zck (znp qs v 1 d)
      ·rcases zi3.1 hxq with rfl|hxq
       ·exact .one hin
       ·exact hre x hxq h2
      ·exact(lk.reach x h1 hxq).first hin
   ·have hd:v∈zck qs:=by simpa using hd
    simp -dsimp only[zh3 (show j<4611686018427387904 by omega),B.ze];refine hY (t-1) _ _ (by omega) ⟨j+1,qs,d,by omega,rfl,hqs,o,hql,hsub,λx hx=>?_,hcl,hre,hkq⟩;rcases htk x hx with h|rfl
    ·exact htake x h
    ·exact hd
  ·have hj:j=(zfe s a).length:=by have:=of_decide_eq_false hc;omega
   rw[hj,take_length]at htake;exact zbf (hq hh qs d (o.sub (.cons_cons _ (nil_sublist _))) hqs ⟨hsub,htake,hcl,hre,hkq⟩)
variable{C:z6}{N:zN}
def zch.Spec(C:z6)(N:zN):Prop:=∀(h:zb)(s:Lk)(a:Int)(Q:zQ),s.At h->s.Ok->s.W.length <= 100000->(∀(h':zb)(m c:Nat)(ps:ze9 Int Int),zcy h h' [zs0 m ps c]->SetI ps c->(∀x,x∈zck ps↔Reach s a x)->(∀x∈zck ps,x∈zck s.W)->Q (.mp m) h')->C (N 512) [.ptr s.l 0 0,.int .i64 a] h Q
theorem zch.spec(i:zch.Imp C N)(i1:zbo.Imp C N)(s1:zcd.Spec C N)(s2:zcc.Spec C N):zch.Spec C N:=by
 intro h s a Q hs hk hlen hq;apply i;simp -dsimp only[zch.cps,zch.k1];intro i2 h2;have o1:=(zcy.start h).zp6 h2 (b:=zdr [.ptr s.l 0 0]) rfl;refine o1.zmj wV wV λm h3 f3 o3 l3=>?_;intro i5 h5;have o5:=o3.zp6 h5 (b:=zdr [.zri]) rfl;refine o5.blkSt 2 rfl rfl (by simp) λh6 o6=>?_;intro i6 h7;have o7:=o6.zp6 h7 (b:=zdr [.nilf]) rfl;refine o7.blkSt 3 rfl rfl (by simp) λh8 o8=>?_;have p6:h8 i6=some (zdr [.fn (N 526) [] [.ptr i2 0 0,.ptr i5 0 0,.ptr i6 0 0]]):=o8.at 3 rfl;have e6:=zeq (k:=0) p6 rfl;simp -dsimp only[B.zeo,e6,B.ze];rw[B.callv_fn];have o9:zcy h h8 ([.blk i2 (zdr [.ptr s.l 0 0]),.blk i5 (zdr [.mp m]),.blk i6 (zdr [.fn (N 526) [] [.ptr i2 0 0,.ptr i5 0 0,.ptr i6 0 0]])]++[zs0 m [] 0]):=o8.perm (by
  show List.Perm [_,zs0 m [] 0,_,_] [_,_,_,zs0 m [] 0];exact List.Perm.cons _ (perm_append_comm (l₁:=[zs0 m [] 0])))
 obtain⟨oa,ob⟩:=o9.out;refine zbo.look i1 s1 s2 s.W.length _ h8 s m 0 i2 i5 i6 [] a _ (hs.mono oa.le) hk hlen (oa.at 0 rfl) (oa.at 1 rfl) (oa.at 2 rfl) ob ⟨zg5.nil 0,λp hp=>absurd hp (not_mem_nil),List.Pairwise.nil⟩ (λx hx=>absurd hx (not_mem_nil)) (by simp) λh9 ps c o10 k1 lk=>?_;have o11:=oa.join o10;have p5:h9 i5=some (zdr [.mp m]):=o11.at 1 rfl;have e5:=zeq (k:=0) p5 rfl;simp -dsimp only[B.zeo,e5,B.ze];refine zbf (hq h9 m c ps (o11.sub (sublist_append_right _ _)) k1 (λx=>⟨λhx=>lk.reach x hx (not_mem_nil),λhx=>?_⟩) lk.known)
 induction hx with
 | one h1=>exact lk.near _ h1
 | more _ h2 ih=>exact lk.closed _ ih (not_mem_nil) _ h2
theorem key_inj{T:Type}:∀{ps:ze9 Int T},(zck ps).Nodup->∀{p q:Int×T×Nat},p∈ps->q∈ps->p.1=q.1->p=q
 | e::r,hn,p,q,hp,hq,h=>by
  have hn':e.1∉zck r /\ (zck r).Nodup:=nodup_cons.1 hn
  rcases mem_cons.1 hp with h1|h1<;>rcases mem_cons.1 hq with h2|h2
  ·rw[h1,h2]
  ·exact absurd (mem_map.2 ⟨q,h2,by rw[<-h,h1]⟩) hn'.1
  ·exact absurd (mem_map.2 ⟨p,h1,by rw[h,h2]⟩) hn'.1
  ·exact key_inj hn'.2 h1 h2 h
def RoundIs(s:Lk)(L:List Int):Prop:=(L=[] /\ ∀w∈zck s.W,¬ Reach s w w) \/ ∃w∈zck s.W,Reach s w w /\ (∀v∈zck s.W,v<w->¬ Reach s v v) /\ L.Pairwise (λa b=>a<b) /\ ∀o,o∈L↔Reach s w o /\ Reach s o w
def zy.Spec(C:z6)(N:zN):Prop:=∀(h:zb)(s:Lk)(Q:zQ),s.At h->s.Ok->s.W.length <= 100000->(∀(h':zb)(x':za)(L:List Int),RoundIs s L->zcy h h' [.sl 1 x' (L.map icl) []]->Q x' h')->C (N 492) [.ptr s.l 0 0] h Q
theorem round_out(s1:zch.Spec C N)(s2:zcc.Spec C N)(s3:zbq.Spec C N){h:zb}{s:Lk}{w:Int}{m c:Nat}{ps:ze9 Int Int}{Y1:zL}{Q:zQ}(hs:s.At h)(hk:s.Ok)(hlen:s.W.length <= 100000)
  (hm:h m=some (zfm (zjs wV wV ps) c)) (hps:SetI ps c) (hr:∀x,x∈zck ps↔Reach s w x) (hpl:ps.length <= 100000)
  (hq:∀(h':zb)(x':za)(L:List Int),L.Pairwise (λa b=>a<b)->(∀o,o∈L↔Reach s w o /\ Reach s o w)->zcy h h' [.sl 1 x' (L.map icl) []]->Q x' h'):
  B.rangeMap h (.mp m) λv30 h=>zq (zy.l2 C N (dn Q) Y1 (.ptr s.l 0 0) (.int .i64 w) v30) [.zdo] h:=by
 refine zcy.zuv (κ:=wV) (v:=wV) (ps:=ps) (c:=c) (J:=λD l vs=>∃out' O',vs=[out'] /\ l=[.sl 1 out' (O'.map icl) []] /\ O'.Sublist (D.map (·.1)) /\ ∀o∈D.map (·.1),(o∈O'↔Reach s o w))
  (REST:=λit vs v h Y=>match vs with
   | [v6]=>B.pv (V.ext 0 v) λv32=>B.cond v32
    (B.pv (A.zgp h it) λv33=>B.pv (V.ext 0 v33) λv34=>B.call C (N 512) [.ptr s.l 0 0,v34] h λv37 h=>B.call C (N 513) [v37,.int .i64 w] h λv39 h=>B.cond v39
     (B.zha h (zeu [(0,none,v34)] (zhu 1 [.int .i64 0])) λi42 h=>B.zjc h 1 8 v6 (.sl i42 0 0 1 1 1) λv43 h=>Y [v43] h) (Y [v6] h))
    (B.call C (N 511) [v6] h λv45 h=>dn Q v6 h)
   | _=>False) ((zcy.start h).zdo 1) hm hps.1 ⟨.zdo,[],rfl,rfl,.slnil,by simp⟩ ?_ ?_ ?_
 ·rintro it vs h4 Y D l ⟨out',O',rfl,_⟩ hn
  exact hn
 ·rintro it h4 D l bb Y vs ⟨out',O',rfl,rfl,hsub,hmem⟩ hp ho
  simp -dsimp only[V.zir,getElem?_cons_zero,B.ze,B.cond_false];have o1:zcy h h4 [.sl 1 out' (O'.map icl) []]:=ho.sub (.cons_cons _ (nil_sublist _));have hl:O'.length <= 100000000:=by
   have h1:=hsub.length_le;rw[length_map,hp.length_eq]at h1;omega
  have hDk:(D.map (·.1)).Perm (zck ps):=hp.map _;refine s3 h h4 out' O' [] _ o1 hl λh5 L hL hS o5=>?_;refine zbf (hq h5 out' L ?_ (λo=>?_) o5)
  ·have hnd:L.Nodup:=hL.symm.nodup (hsub.nodup (hDk.symm.nodup hps.2.2))
   exact(hS.and hnd).imp λ{a b} hab=>by have:=hab.1;have:=hab.2;omega
  ·rw[hL.mem_iff]
   constructor
   ·intro h1
    have h2:=hsub.subset h1;exact⟨(hr o).1 (hDk.mem_iff.1 h2),(hmem o h2).1 h1⟩
   ·rintro⟨h1,h2⟩
    exact(hmem o (hDk.mem_iff.2 ((hr o).2 h1))).2 h2
 ·rintro it h4 D l bb Y vs p hpm ⟨out',O',rfl,rfl,hsub,hmem⟩ hD hpD hDl ho he hY
  simp -dsimp only[V.zir,getElem?_cons_zero,getElem?_cons_succ,B.ze,B.cond_true,he];have hpk:p.1∉D.map (·.1):=λhm=>by
   obtain⟨q,hq1,hq2⟩:=mem_map.1 hm;have hq3:q=p:=key_inj hps.2.2 (hD q hq1) hpm hq2;exact hpD (hq3 ▸ hq1)
  refine s1 h4 s p.1 _ (hs.mono ho.le) hk hlen λh5 m5 c5 ps5 o5 k5 r5 _=>?_;refine s2 h5 m5 c5 ps5 w _ (o5.at 0 rfl) k5 ?_;have oo:=ho.grow o5.le;have hl:=hsub.length_le;rw[length_map]at hl;refine B.zbc (λhd=>?_) (λhd=>?_)
  ·have hd:Reach s p.1 w:=(r5 w).1 (of_decide_eq_true hd)
   have hf:zeu [(0,none,wV p.1)] (zhu 1 [.int .i64 0])=some [.int .i64 p.1]:=rfl;simp -dsimp only[hf];refine oo.push 0 rfl (cs:=[.int .i64 p.1]) rfl (by omega) (by simp;omega) (by simp[maxLen];omega) λout2 h6 o6 _=>?_;refine hY h6 [.sl 1 out2 ((O'++[p.1]).map icl) []] _ ⟨out2,O'++[p.1],rfl,rfl,?_,λo ho=>?_⟩ (by rw[map_append];exact o6)
   ·rw[map_append];exact hsub.append (List.Sublist.refl _)
   ·rw[map_append,mem_append]at ho
    rw[mem_append,mem_singleton];rcases ho with ho|ho
    ·constructor
     ·rintro(h1|rfl)
      ·exact(hmem o ho).1 h1
      ·exact hd
     ·exact λh1=> .inl ((hmem o ho).2 h1)
    ·have ho:o=p.1:=by simpa using ho
     subst ho;exact⟨λ_=>hd,λ_=> .inr rfl⟩
  ·have hd:¬ Reach s p.1 w:=λh1=>of_decide_eq_false hd ((r5 w).2 h1)
   refine hY h5 _ _ ⟨out',O',rfl,rfl,?_,λo ho=>?_⟩ oo
   ·rw[map_append];exact hsub.trans (sublist_append_left _ _)
   ·rw[map_append,mem_append]at ho
    rcases ho with ho|ho
    ·exact hmem o ho
    ·have ho:o=p.1:=by simpa using ho
     subst ho;exact⟨λh1=>absurd (hsub.subset h1) hpk,λh1=>absurd h1 hd⟩
variable{C:z6}{N:zN}
theorem zy.spec(i:zy.Imp C N)(hG:zrc C)(i2:zba.Imp C N)(i3:zn.Imp C N)(s0:zc5.Spec C N)(s1:zch.Spec C N)(s2:zcc.Spec C N)(s3:zbq.Spec C N)(s4:zcr.Spec C N):zy.Spec C N:=by
 intro h s Q hs hk hlen hq;apply i;refine s0 h s _ hs ?_;have e1:=zeq (k:=0) hs.1 rfl;simp -dsimp only[V.zgj,Bool.not_true,B.ze,B.cond_false,zy.k6,B.zb9,V.fieldAddr,Nat.zero_add,B.zeo,e1];apply i2;simp -dsimp only[zba.cps];intro i1 h1;have o1:=(zcy.start h).zor h1 [.mp s.m];refine zbf ?_;refine s4 (N 525) [.ptr i1 0 0] _ s.W _ _ (keysI_iter hG i3 (m:=s.m) hk.zvf) (λa b hle ⟨x,y⟩=>⟨hle _ _ x,hle _ _ y⟩) hlen ⟨zbs ..,o1.le _ _ hs.2.1⟩ λx' h2 o=>?_;have ox:zcy h h2 [.sl 1 x' ((zi0 (zck s.W)).map icl) []]:=o.back o1.le;have hx:=(ox.zhs 0 rfl).zcj;rw[length_map]at hx;have hSl:(zi0 (zck s.W)).length <= 100000:=by rw[zsy];simpa[zck]using hlen
 simp -dsimp only[hx,B.ze];refine zq.intro (λt vs hh=>h2.le hh /\ ∃j:Nat,j+t=(zi0 (zck s.W)).length /\ vs=[.int .i64 (j:Int)] /\ ∀x∈(zi0 (zck s.W)).take j,¬ Reach s x x) (zi0 (zck s.W)).length ?_ ⟨zb.le_refl _,0,by omega,rfl,by simp⟩;rintro Y t vs hh ⟨hle,j,hjt,rfl,hno⟩ hY;simp -dsimp only[zy.l5,V.zfi,B.ze];refine B.zbc (λhc=>?_) (λhc=>?_)
 ·have hj:j<(zi0 (zck s.W)).length:=by have:=of_decide_eq_true hc;omega
  have hxx:=(ox.zhs 0 rfl).mono hle;have g1:((zi0 (zck s.W)).map icl)[j]?=some (icl (zi0 (zck s.W))[j]):=by rw[getElem?_map,getElem?_eq_getElem hj];rfl
  have i1:V.zcp 1 x' (.int .i64 (j:Int))=some (elp 1 x' j 0):=hxx.zmd (by simpa using hj);have c1:A.ldv hh (elp 1 x' j 0)=some (.int .i64 (zi0 (zck s.W))[j]):=hxx.cell g1;have hin:(zi0 (zck s.W))[j]∈zck s.W:=(zgq _).mem_iff.1 (getElem_mem hj);have hleast:∀v∈zck s.W,v<(zi0 (zck s.W))[j]->¬ Reach s v v:=λv hv hlt=>by
   obtain⟨n,hn,e⟩:=getElem_of_mem ((zgq _).mem_iff.2 hv);by_cases hnj:n<j
   ·exact hno v (by rw[<-e];exact mem_take_iff_getElem.2 ⟨n,by omega,rfl⟩)
   ·exfalso
    rcases Nat.lt_or_ge j n with h5|h5
    ·have:=pairwise_iff_getElem.1 (zjt (zck s.W)) j n hj hn h5
     omega
    ·have:n=j:=by omega
     subst this;omega
  have htk:∀x∈(zi0 (zck s.W)).take (j+1),x∈(zi0 (zck s.W)).take j \/ x=(zi0 (zck s.W))[j]:=λx hx=>by
   rw[take_add_one,getElem?_eq_getElem hj,mem_append]at hx;rcases hx with h|h
   ·exact .inl h
   ·right;simpa using h
  generalize (zi0 (zck s.W))[j]=w at c1 hin hleast htk;simp -dsimp only[zy.k4,B.zeo,i1,c1,B.ze];have hsh:=hs.mono (zb.le_trans ox.le hle);refine s1 hh s w _ hsh hk hlen λh5 m c ps o5 k5 r5 n5=>?_;simp -dsimp only[zy.k3];refine s2 h5 m c ps w _ (o5.at 0 rfl) k5 ?_;simp -dsimp only[V.zgj,B.ze];refine B.zbc (λhd=>?_) (λhd=>?_)
  ·have hd:¬ Reach s w w:=λh1=>by have:=(r5 w).2 h1;simp[this]at hd
   simp -dsimp only[zh3 (show j<4611686018427387904 by omega),B.ze];refine hY (t-1) _ _ (by omega) ⟨zb.le_trans hle o5.le,j+1,by omega,rfl,λx hx=>?_⟩;rcases htk x hx with h|rfl
   ·exact hno x h
   ·exact hd
  ·have hd:Reach s w w:=(r5 w).1 (by simpa using hd)
   have hpl:ps.length <= 100000:=by
    have h3:(zck ps).length <= (zck s.W).length:=List.Nodup.length_le_of_subset k5.2.2 n5;have h4:ps.length <= s.W.length:=by simpa[zck]using h3
    omega
   refine round_out s1 s2 s3 (hsh.mono o5.le) hk hlen (o5.at 0 rfl) k5 r5 hpl λh6 x6 L p6 m6 o6=>?_;exact hq h6 x6 L (.inr ⟨w,hin,hd,hleast,p6,m6⟩) (o6.back (zb.le_trans ox.le (zb.le_trans hle o5.le)))
 ·have hj:j=(zi0 (zck s.W)).length:=by have:=of_decide_eq_false hc;omega
  rw[hj,take_length]at hno;refine zbf (hq hh .zdo [] (.inl ⟨rfl,λw hw=>hno w ((zgq _).mem_iff.2 hw)⟩) ((zcy.nil (zb.le_trans ox.le hle)).zdo 1))
variable{C:z6}{N:zN}
theorem ask_fr(sA:z8.Spec C N){h0 h:zb}{A:List Ob}{s:Lk}{d:DL}{k:Int}{names:List Key}{x:za}{R:List (List za)}{Q:zQ}(ho:zcy h0 h (A++s.obs))(hk:s.Ok)(hr:Rel s d)(hlen:s.W.length<100000)(hx:∀H,zcy h0 H A->SlX H 1 x (names.map tc) R)(hn:names.length <= 100000)(hl1: -1000000000 <= s.last)(hl2:s.last <= 1000000000)
  (hq:∀(h':zb)(s':Lk),s'.Ok->zcy h0 h' (A++s'.obs)->s'.W.length <= s.W.length+1->s'.l=s.l->Rel s' (zku d k names).2->Q (.bool (zku d k names).1) h'):C (N 489) [.ptr s.l 0 0,.int .i64 k,x] h Q:=by
 obtain⟨oa,ob⟩:=ho.out;exact sA _ h s d k names x R Q ob hk hr hlen (hx _ oa) hn hl1 hl2 λh' s' k1 o1 n1 l1 r1=>hq h' s' k1 (oa.join o1) n1 l1 r1
theorem Rel.del{s:Lk}{d:DL}(hr:Rel s d)(k:Int):Rel (s.del k) (zq6 d k):=⟨hr.last,hr.zh4.del⟩
theorem free_fr(sF:zda.Spec C N){h0 h:zb}{A:List Ob}{s:Lk}{d:DL}{k:Int}{Q:zQ}(ho:zcy h0 h (A++s.obs))(hk:s.Ok)(hr:Rel s d)
  (hq:∀(h':zb),(s.del k).Ok->zcy h0 h' (A++(s.del k).obs)->Rel (s.del k) (zq6 d k)->Q (.tup []) h'):C (N 488) [.ptr s.l 0 0,.int .i64 k] h Q:=by
 obtain⟨oa,ob⟩:=ho.out;exact sF _ h s k Q ob hk λh' o1=>hq h' (hk.del k) (oa.join o1) (hr.del k)
theorem at_fr{h0 h:zb}{A:List Ob}{s:Lk}(ho:zcy h0 h (A++s.obs))(hk:s.Ok):s.At h:=by
 obtain⟨oa,ob⟩:=ho.out;exact Lk.at_of ob hk
def ze7(d:DL)(k:Int):List Int:=
 match findD d.L k with
 | none=>[]
 | some w=>if w.zkq=0 then [] else zi0 (zgh d k w.zga w.zkq)
theorem ziy{s:Lk}{d:DL}(hr:Rel s d)(hk:s.Ok)(k:Int):zfe s k=ze7 d k:=by
 unfold zfe ze7;rcases hr.zh4.get (k:=k) with⟨w1,w2⟩|⟨e,dd,m1,m2,m3,w1,w2,hsw⟩
 ·rw[w1,w2]
 ·rw[w1,w2]
  have h1:=kept_rel hr.zh4 hk.nodup hk.far w1 hsw.zf5 dd.zkq;simp only[hsw.zh9];split
  ·rfl
  ·unfold keptL zgh
   rw[h1]
def zh2(d:DL)(k:Int):List Key:=
 match findD d.L k with
 | none=>[]
 | some w=>w.zff
theorem lessB_tot{a b:Key}(h:zhw b a=false)(hne:a≠b):zhw a b=true:=lessB_or h (λe=>hne e.symm)
theorem zsk{s:Lk}{d:DL}(hr:Rel s d)(hk:s.Ok){k:Int}{L:List Key}(hp:L.Perm (zck (ztr s k)))(hs:SortedB L):L=zh2 d k:=by
 unfold ztr at hp;unfold zh2;rcases hr.zh4.get (k:=k) with⟨w1,w2⟩|⟨e,dd,m1,m2,m3,w1,w2,hsw⟩
 ·rw[w1]at hp
  rw[w2];exact List.Perm.eq_nil hp
 ·rw[w1]at hp
  rw[w2];have hnd:L.Nodup:=hp.symm.nodup (hk.zh4 e m1).held.2.2;refine riseB_ext ((hs.and hnd).imp λ{a b} hab=>lessB_tot hab.1 hab.2) hsw.riseH λx=>?_;rw[hp.mem_iff];exact hsw.held x
theorem zi4{a b:List Key}:zlr a b=true↔∃x∈a,∃y∈b,x=[42] \/ y=[42] \/ x=y:=by
 unfold zlr;constructor
 ·intro h
  rw[Bool.and_eq_true,Bool.and_eq_true,Bool.or_eq_true,Bool.or_eq_true]at h;obtain⟨h1,h2,h3⟩:=h
  obtain⟨x,hx⟩:∃x,x∈a:=by cases a with
   | nil=>simp at h1
   | cons x _=>exact⟨x,mem_cons_self ..⟩
  obtain⟨y,hy⟩:∃y,y∈b:=by cases b with
   | nil=>simp at h2
   | cons y _=>exact⟨y,mem_cons_self ..⟩
  rcases h3 with h|h|h
  ·exact⟨[42],of_decide_eq_true h,y,hy,.inl rfl⟩
  ·exact⟨x,hx,[42],of_decide_eq_true h,.inr (.inl rfl)⟩
  ·obtain⟨z,hz,h⟩:=any_eq_true.1 h
   exact⟨z,hz,z,of_decide_eq_true h,.inr (.inr rfl)⟩
 ·rintro⟨x,hx,y,hy,h⟩
  have h1:a.isEmpty=false:=by cases a with
   | nil=>cases hx
   | cons _ _=>rfl
  have h2:b.isEmpty=false:=by cases b with
   | nil=>cases hy
   | cons _ _=>rfl
  rw[h1,h2];simp only[Bool.not_false,Bool.true_and,Bool.or_eq_true,decide_eq_true_eq,any_eq_true];rcases h with rfl|rfl|rfl
  ·exact .inl hx
  ·exact .inr (.inl hy)
  ·exact .inr (.inr ⟨x,hx,hy⟩)
theorem zq0{a b:List Key}:zlr a b=zlr b a:=by
 rw[Bool.eq_iff_iff,zi4,zi4];constructor
 ·rintro⟨x,hx,y,hy,h⟩
  exact⟨y,hy,x,hx,by rcases h with h|h|h;exact .inr (.inl h);exact .inl h;exact .inr (.inr h.symm)⟩
 ·rintro⟨x,hx,y,hy,h⟩
  exact⟨y,hy,x,hx,by rcases h with h|h|h;exact .inr (.inl h);exact .inl h;exact .inr (.inr h.symm)⟩
theorem mem_puts{x:Key}:∀{B H:List Key},x∈B.foldl ziw H↔x∈H \/ x∈B
 | [],H=>by simp
 | b::B,H=>by
  rw[foldl_cons,mem_puts,znr,mem_cons]
  constructor
  ·rintro((h|h)|h)
   ·exact .inr (.inl h)
   ·exact .inl h
   ·exact .inr (.inr h)
  ·rintro(h|h|h)
   ·exact .inl (.inr h)
   ·exact .inl (.inl h)
   ·exact .inr h
theorem zk1{k:Int}{w o:DW}:∀{L:List DW},o∈znm L k w->o=w \/ o∈L
 | [],h=> .inl (by simpa[znm]using h)
 | q::L,h=>by
  unfold znm at h
  split at h
  ·rcases mem_cons.1 h with h|h
   ·exact .inl h
   ·exact .inr (mem_cons_of_mem _ h)
  ·rcases mem_cons.1 h with h|h
   ·exact .inr (by rw[h];exact mem_cons_self ..)
   ·rcases zk1 h with h|h
    ·exact .inl h
    ·exact .inr (mem_cons_of_mem _ h)
theorem zlx{k:Int}{w:DW}:∀{L:List DW},findD L k=some w->w∈L /\ w.Id=k
 | q::L,h=>by
  unfold findD at h
  split at h
  ·rename_i hk
   cases h
   exact⟨mem_cons_self ..,hk⟩
  ·obtain⟨h1,h2⟩:=zlx h
   exact⟨mem_cons_of_mem _ h1,h2⟩
theorem setD_ids{k:Int}{w:DW}(hw:w.Id=k):∀{L:List DW},(L.map (·.Id)).Nodup->((znm L k w).map (·.Id)).Nodup /\ ∀x,x∈(znm L k w).map (·.Id)->x=k \/ x∈L.map (·.Id)
 | [],_=>by simp[znm,hw]
 | q::L,h=>by
  obtain⟨h1,h2⟩:=nodup_cons.1 h
  unfold znm
  split
  ·rename_i hk
   rw[map_cons,hw]
   refine⟨nodup_cons.2 ⟨by rw[<-hk];exact h1,h2⟩,λx hx=>?_⟩
   rcases mem_cons.1 hx with h|h
   ·exact .inl h
   ·exact .inr (mem_cons_of_mem _ h)
  ·rename_i hk
   obtain⟨i1,i2⟩:=setD_ids hw (L:=L) h2
   rw[map_cons]
   refine⟨nodup_cons.2 ⟨λhm=>?_,i1⟩,λx hx=>?_⟩
   ·rcases i2 _ hm with h|h
    ·exact hk h
    ·exact h1 h
   ·rcases mem_cons.1 hx with h|h
    ·exact .inr (by rw[h];exact mem_cons_self ..)
    ·rcases i2 _ h with h|h
     ·exact .inl h
     ·exact .inr (mem_cons_of_mem _ h)
def zrz(d:DL):Prop:=∀a∈d.L,∀b∈d.L,a.Id≠b.Id->zlr a.zff b.zff=false
theorem zuj{d:DL}{k:Int}(h:zrz d){b:DW}(hb:b∈d.L)(hk:b.Id≠k):zlr (ze6 d k).zff b.zff=false:=by
 unfold ze6;cases e:findD d.L k with
 | none=>rfl
 | some w=>
  obtain⟨h1,h2⟩:=zlx e;exact h w h1 b hb (by rw[h2];exact λe=>hk e.symm)
theorem zup{d:DL}{k:Int}{w:DW}(hw:w.Id=k)(h:zrz d)(hn:∀b∈d.L,b.Id≠k->zlr w.zff b.zff=false)(l:Int):zrz ⟨znm d.L k w,l⟩:=by
 intro a ha b hb hab;rcases zk1 ha with e1|h1<;>rcases zk1 hb with e2|h2
 ·exact absurd (by rw[e1,e2]) hab
 ·rw[e1]at hab ⊢
  exact hn b h2 (by rw[<-hw];exact λe=>hab e.symm)
 ·rw[e2]at hab ⊢
  rw[zq0];exact hn a h1 (by rw[<-hw];exact hab)
 ·exact h a h1 b h2 hab
theorem ask_apart{d:DL}(h:zrz d)(k:Int)(names:List Key):zrz (zku d k names).2:=by
 unfold zku;simp only;split
 ·rename_i he
  refine zup (w:=⟨k,(zg2 (ze6 d k) names).foldl ziw (ze6 d k).zff,[],0⟩) rfl h (λb hb hk=>?_) _;cases hm:zlr ((zg2 (ze6 d k) names).foldl ziw (ze6 d k).zff) b.zff with
  | false=>rfl
  | true=>
   obtain⟨x,hx,y,hy,hxy⟩:=zi4.1 hm;rcases mem_puts.1 hx with hx|hx
   ·have:=zuj h hb hk
    rw[zi4.2 ⟨x,hx,y,hy,hxy⟩]at this;cases this
   ·have h2:zj2 b (zg2 (ze6 d k) names) (zkr d k)=true:=by
     unfold zj2;rw[zq0,zi4.2 ⟨x,hx,y,hy,hxy⟩];rfl
    have h3:b.Id∈zgh d k (zg2 (ze6 d k) names) (zkr d k):=mem_map.2 ⟨b,mem_filter.2 ⟨hb,by simp[hk,h2]⟩,rfl⟩;rw[isEmpty_iff.1 he]at h3;cases h3
 ·exact zup (w:=⟨k,(ze6 d k).zff,zg2 (ze6 d k) names,zkr d k⟩) rfl h (λb hb hk=>zuj h hb hk) _
theorem zns{k:Int}{o:DW}:∀{L:List DW},o∈delD L k->o∈L
 | q::L,h=>by
  unfold delD at h
  split at h
  ·exact mem_cons_of_mem _ h
  ·rcases mem_cons.1 h with h|h
   ·rw[h];exact mem_cons_self ..
   ·exact mem_cons_of_mem _ (zns h)
theorem free_apart{d:DL}(h:zrz d)(k:Int):zrz (zq6 d k):=λa ha b hb hab=>h a (zns ha) b (zns hb) hab
theorem setD_len{k:Int}{w:DW}:∀{L:List DW},(znm L k w).length <= L.length+1
 | []=>Nat.le_refl _
 | q::L=>by
  unfold znm
  split
  ·simp
  ·have:=setD_len (k:=k) (w:=w) (L:=L)
   simp only[length_cons];omega
structure zje(d:DL):Prop where
 last:0 <= d.zji
 turns:∀w∈d.L,0 <= w.zkq /\ w.zkq <= d.zji
 ids:(d.L.map (·.Id)).Nodup
theorem workD_turn{d:DL}(h:zje d)(k:Int):0 <= (ze6 d k).zkq /\ (ze6 d k).zkq <= d.zji:=by
 unfold ze6;cases e:findD d.L k with
 | none=>exact⟨by simp,by simpa using h.last⟩
 | some w=>exact h.turns w (zlx e).1
theorem turnD_le{d:DL}(h:zje d)(k:Int):0<zkr d k /\ zkr d k <= d.zji+1:=by
 have h1:=workD_turn h k;have h2:=h.last;unfold zkr;split<;>omega
theorem ask_good{d:DL}(h:zje d)(k:Int)(names:List Key):zje (zku d k names).2 /\ (zku d k names).2.zji <= d.zji+1 /\ d.zji <= (zku d k names).2.zji /\ (zku d k names).2.L.length <= d.L.length+1:=by
 have ht:=turnD_le h k;have hl:=h.last;unfold zku;simp only;split
 ·refine⟨⟨hl,λw hw=>?_,(setD_ids (k:=k) (w:=⟨k,(zg2 (ze6 d k) names).foldl ziw (ze6 d k).zff,[],0⟩) rfl h.ids).1⟩,by simp only;omega,Int.le_refl _,setD_len⟩
  rcases zk1 hw with rfl|hw
  ·exact⟨Int.le_refl _,hl⟩
  ·exact h.turns w hw
 ·refine⟨⟨by simp only;omega,λw hw=>?_,(setD_ids (k:=k) (w:=⟨k,(ze6 d k).zff,zg2 (ze6 d k) names,zkr d k⟩) rfl h.ids).1⟩,by simp only;omega,by simp only;omega,setD_len⟩
  rcases zk1 hw with rfl|hw
  ·exact⟨by simp only;omega,by simp only;omega⟩
  ·have:=h.turns w hw
   exact⟨this.1,by simp only;omega⟩
theorem free_good{d:DL}(h:zje d)(k:Int):zje (zq6 d k):=by
 have sub:∀L:List DW,((delD L k).map (·.Id)).Sublist (L.map (·.Id)):=by
  intro L
  induction L with
  | nil=>exact .slnil
  | cons q L ih=>
   unfold delD;split
   ·exact sublist_cons_self ..
   ·exact ih.cons_cons _
 exact⟨h.last,λw hw=>h.turns w (zns hw),h.ids.sublist (sub d.L)⟩
abbrev nmA:Key:=[65]
abbrev nmB:Key:=[66]
abbrev nmS:Key:=[42]
def exL0:DL:=⟨[],0⟩
def exL1:DL:=⟨[⟨1,[nmA],[],0⟩],0⟩
def exL2:DL:=⟨[⟨1,[nmA],[],0⟩,⟨2,[],[nmA,nmB],1⟩],1⟩
def exL3:DL:=⟨[⟨1,[nmA],[],0⟩,⟨2,[],[nmA,nmB],1⟩,⟨3,[],[nmB],2⟩],2⟩
def exL4:DL:=⟨[⟨2,[],[nmA,nmB],1⟩,⟨3,[],[nmB],2⟩],2⟩
def exL5:DL:=⟨[⟨2,[nmA,nmB],[],0⟩,⟨3,[],[nmB],2⟩],2⟩
theorem exL_1:zku exL0 1 [nmA]=(true,exL1):=by kernel_rfl
theorem exL_2:zku exL1 2 [nmA,nmB]=(false,exL2):=by kernel_rfl
theorem exL_3:zku exL2 3 [nmB]=(false,exL3):=by kernel_rfl
theorem exL_w3:ze7 exL3 3=[2]:=by kernel_rfl
theorem exL_4:zq6 exL3 1=exL4:=by kernel_rfl
theorem exL_5:zku exL4 3 [nmB]=(false,exL4):=by kernel_rfl
theorem exL_6:zku exL4 2 []=(true,exL5):=by kernel_rfl
theorem exL_h2:zh2 exL5 2=[nmA,nmB]:=by kernel_rfl
def exM2:DL:=⟨[⟨1,[nmA],[],0⟩,⟨2,[nmB],[],0⟩],0⟩
def exM3:DL:=⟨[⟨1,[nmA],[nmB],1⟩,⟨2,[nmB],[],0⟩],1⟩
def exM4:DL:=⟨[⟨1,[nmA],[nmB],1⟩,⟨2,[nmB],[nmA],2⟩],2⟩
def exM5:DL:=⟨[⟨1,[nmA],[nmB],1⟩,⟨2,[nmB],[nmA],2⟩,⟨4,[],[nmS],3⟩],3⟩
theorem exM_2:zku exL1 2 [nmB]=(true,exM2):=by kernel_rfl
theorem exM_3:zku exM2 1 [nmB]=(false,exM3):=by kernel_rfl
theorem exM_4:zku exM3 2 [nmA]=(false,exM4):=by kernel_rfl
theorem exM_w1:ze7 exM4 1=[2]:=by kernel_rfl
theorem exM_w2:ze7 exM4 2=[1]:=by kernel_rfl
theorem exM_5:zku exM4 4 [nmS]=(false,exM5):=by kernel_rfl
theorem exM_w4:ze7 exM5 4=[1,2]:=by kernel_rfl
theorem zqq:∀{S T:List Int},S.Pairwise (λa b=>a<b)->T.Pairwise (λa b=>a<b)->(∀x,x∈S↔x∈T)->S=T:=by
 intro S T hS hT h;have nS:S.Nodup:=hS.imp λ{a b} hab e=>by omega
 have nT:T.Nodup:=hT.imp λ{a b} hab e=>by omega
 refine zo5 ((perm_ext_iff_of_nodup nS nT).2 h) (hS.imp λ{a b} hab=>by omega) (hT.imp λ{a b} hab=>by omega)
theorem exM_round{s:Lk}(hr:Rel s exM4)(hk:s.Ok){L:List Int}(h:RoundIs s L):L=[1,2]:=by
 have w1:zfe s 1=[2]:=by rw[ziy hr hk,exM_w1]
 have w2:zfe s 2=[1]:=by rw[ziy hr hk,exM_w2]
 have hids:zck s.W=[1,2]:=by rw[<-hr.zh4.ids];rfl
 have r12:Reach s 1 2:= .one (by rw[w1];simp);have r21:Reach s 2 1:= .one (by rw[w2];simp);have r11:Reach s 1 1:= .more r12 (by rw[w2];simp);have only:∀a,(a=1 \/ a=2)->∀b,Reach s a b->b=1 \/ b=2:=by
  intro a ha b hab
  induction hab with
  | one h=>
   rcases ha with rfl|rfl
   ·rw[w1]at h;right;simpa using h
   ·rw[w2]at h;left;simpa using h
  | more _ h2 ih=>
   rcases ih with rfl|rfl
   ·rw[w1]at h2;right;simpa using h2
   ·rw[w2]at h2;left;simpa using h2
 rcases h with⟨_,h⟩|⟨w,hw,hrw,hle,hp,hm⟩
 ·exact absurd r11 (h 1 (by rw[hids];simp))
 ·have hw1:w=1:=by
   rw[hids]at hw;have hw':w=1 \/ w=2:=by simpa using hw
   rcases hw' with h|h
   ·exact h
   ·exact absurd r11 (hle 1 (by rw[hids];simp) (by omega))
  subst hw1;refine zqq hp (by simp) λx=>?_;rw[hm];constructor
  ·rintro⟨h1,_⟩
   have:=only 1 (.inl rfl) x h1;simpa using this
  ·intro hx
   have hx:x=1 \/ x=2:=by simpa using hx
   rcases hx with rfl|rfl
   ·exact⟨r11,r11⟩
   ·exact⟨r12,r21⟩
variable{C:z6}{N:zN}
theorem zmg(sA:z8.Spec C N){h0 h:zb}{A:List Ob}{s:Lk}{d:DL}{k:Int}{names:List Key}{Q:zQ}(ho:zcy h0 h (A++s.obs))(hk:s.Ok)(hr:Rel s d)(hg:zje d)(hb:d.zji <= 1000000)(hlen:d.L.length <= 1000)(hn:names.length <= 100000)
  (hq:∀(h':zb)(s':Lk),s'.Ok->zcy h0 h' (A++s'.obs)->s'.l=s.l->Rel s' (zku d k names).2->Q (.bool (zku d k names).1) h'):∀id,h id=none->C (N 489) [.ptr s.l 0 0,.int .i64 k,.sl id 0 0 names.length 1 names.length] (upd h id (zdr (names.map λx=> .str x))) Q:=by
 intro id hid;have e:(names.map λx=>za.str x)=(names.map tc++[]).flatten:=by
  rw[append_nil];clear hn hq
  induction names with
  | nil=>rfl
  | cons n r ih=>rw[map_cons,map_cons,flatten_cons,ih];rfl
 have o1:=ho.newSl (id:=id) (n:=names.length) (cp:=names.length) (es:=1) (cs:=names.map λx=> .str x) (L:=names.map tc) (R:=[]) hid (λp hp=>by
  rw[append_nil]at hp;obtain⟨n,_,rfl⟩:=mem_map.1 hp;rfl) (by simp) (by simp) e
 have o2:zcy h0 (upd h id (zdr (names.map λx=> .str x))) (([.sl 1 (.sl id 0 0 names.length 1 names.length) (names.map tc) []]++A)++s.obs):=o1.perm (by
  rw[append_assoc [_] A s.obs];exact perm_append_comm)
 have hl:=hr.last;have hgl:=hg.last;have hwl:s.W.length=d.L.length:=by
  have:=congrArg List.length hr.zh4.ids;simpa[zck]using this.symm
 exact ask_fr sA o2 hk hr (by omega) (λH o=>o.zhs 0 rfl) hn (by omega) (by omega) λh' s' k1 o3 n1 l1 r1=>hq h' s' k1 (o3.sub (sublist_cons_self ..)) l1 r1
variable{C:z6}{N:zN}
def zdl.Spec(C:z6)(N:zN):Prop:=∀(x y:za)(L M:List Int)(R S:List (List za))(h:zb)(Q:zQ),SlX h 1 x (L.map icl) R->SlX h 1 y (M.map icl) S->L.length<4611686018427387904->Q (.bool (decide (L=M))) h->C (N 499) [x,y] h Q
theorem zdl.spec(i:zdl.Imp C N):zdl.Spec C N:=λx y L M R S h Q hx hy hlen hq=>i x y h Q (zuq iS hx hy hlen (zbf hq))
theorem Rel.len{s:Lk}{d:DL}(hr:Rel s d):s.W.length=d.L.length:=by
 have:=congrArg List.length hr.zh4.ids;simpa[zck]using this.symm
theorem litIx {h : zb} (L : List Int) {j : Nat} (hj : h j = none) : SlX (upd h j (zdr (L.map fun x => .int .i64 x))) 1 (.sl j 0 0 L.length 1 L.length) (L.map icl) [] :=
  ((zcy.start h).newSl (id := j) (n := L.length) (cp := L.length) (es := 1) (cs := L.map fun x => .int .i64 x) (L := L.map icl) (R := []) hj (fun p hp => by
    rw [append_nil] at hp
    obtain ⟨n, _, rfl⟩ := mem_map.1 hp
    rfl) (by simp) (by simp) (by
      rw [append_nil]
      induction L with
      | nil => rfl
      | cons n r ih => rw [map_cons, map_cons, flatten_cons, ih]; rfl)).zhs 0 rfl
theorem litTx {h : zb} (L : List Key) {j : Nat} (hj : h j = none) : SlX (upd h j (zdr (L.map fun x => .str x))) 1 (.sl j 0 0 L.length 1 L.length) (L.map tc) [] :=
  ((zcy.start h).newSl (id := j) (n := L.length) (cp := L.length) (es := 1) (cs := L.map fun x => .str x) (L := L.map tc) (R := []) hj (fun p hp => by
    rw [append_nil] at hp
    obtain ⟨n, _, rfl⟩ := mem_map.1 hp
    rfl) (by simp) (by simp) (by
      rw [append_nil]
      induction L with
      | nil => rfl
      | cons n r ih => rw [map_cons, map_cons, flatten_cons, ih]; rfl)).zhs 0 rfl
theorem held_len{s:Lk}{d:DL}(hr:Rel s d)(hk:s.Ok)(k:Int):(ztr s k).length <= (zh2 d k).length:=by
 unfold ztr zh2;rcases hr.zh4.get (k:=k) with⟨w1,w2⟩|⟨e,dd,m1,m2,m3,w1,w2,hsw⟩
 ·rw[w1,w2];exact Nat.le_refl _
 ·rw[w1,w2]
  have h3:(zck e.2.1.held).length <= dd.zff.length:=List.Nodup.length_le_of_subset (hk.zh4 e m1).held.2.2 λx hx=>(hsw.held x).1 hx;simpa[zck]using h3
def zec.Spec(C:z6)(N:zN):Prop:=∀(h:zb)(Q:zQ),Q (.bool true) h->C (N 482) [] h Q
theorem zje.zero:zje exL0:=⟨Int.le_refl _,λw hw=>absurd hw (not_mem_nil),List.Pairwise.nil⟩
theorem zje.of{d d':DL}{k:Int}{names:List Key}{b:Bool}(h:zje d)(e:zku d k names=(b,d')):zje d':=by
 have:=(ask_good h k names).1;rw[e]at this;exact this
theorem zec.spec(i:zec.Imp C N)(sN:zf3.Spec C N)(sA:z8.Spec C N)(sF:zda.Spec C N)(sW:zcd.Spec C N)(sH:zcx.Spec C N)(sR:zy.Spec C N)(sT:zdk.Spec C N)(sL:zdl.Spec C N):zec.Spec C N:=by
 intro h Q hq;have f1:zeu [(0,none,.str [65])] (zhu 1 [.str []])=some [.str [65]]:=rfl;have f2:zeu [(0,none,.str [65]),(1,none,.str [66])] (zhu 2 [.str []])=some [.str [65],.str [66]]:=rfl;have f3:zeu [(0,none,.str [66])] (zhu 1 [.str []])=some [.str [66]]:=rfl;have f4:zeu [(0,none,.int .i64 2)] (zhu 1 [.int .i64 0])=some [.int .i64 2]:=rfl;have g1:zje exL1:=zje.zero.of exL_1;have g2:zje exL2:=g1.of exL_2;have g3:zje exL3:=g2.of exL_3;apply i;refine sN h _ λh1 s k1 w1 l1 o1=>?_;have r1:Rel s exL0:=⟨l1,by rw[w1];exact .nil⟩;have ep:V.zif .eql (.ptr s.l 0 0) .zm8=some (.bool false):=rfl;simp -dsimp only[ep,B.ze,B.zqj,Bool.not_false,B.zbg,f1];intro j hj;simp -dsimp only[B.zqj,B.zgx,Bool.not_false,B.zbg];refine zmg sA (A:=[]) (names:=[nmA]) o1 k1 r1 zje.zero (by decide) (by decide) (by decide) (λh2 s2 k2 o2 l2 r2=>?_) j hj;rw[exL_1]at r2 ⊢;simp -dsimp only[V.zgj,Bool.not_true,Bool.not_false,B.ze,B.zqj,B.zbg,B.zhc,f2];rw[<-l2];intro j hj;simp -dsimp only[B.zqj,B.zgx,Bool.not_false,B.zbg];refine zmg sA (A:=[]) (names:=[nmA,nmB]) o2 k2 r2 g1 (by decide) (by decide) (by decide) (λh3 s3 k3 o3 l3 r3=>?_) j hj;rw[exL_2]at r3 ⊢;simp -dsimp only[Bool.not_false,B.zqj,B.zbg,B.zhc,f3];rw[<-l3];intro j hj;simp -dsimp only[B.zqj,B.zgx,Bool.not_false,B.zbg];refine zmg sA (A:=[]) (names:=[nmB]) o3 k3 r3 g2 (by decide) (by decide) (by decide) (λh4 s4 k4 o4 l4 r4=>?_) j hj;rw[exL_3]at r4 ⊢;simp -dsimp only[Bool.not_false,B.zqj,B.zbg,B.zhc];rw[<-l4];refine sW h4 s4 3 _ (at_fr o4 k4) k4 (by rw[r4.len];decide) λx5 h5 ox=>?_;rw[ziy r4 k4,show ze7 exL3 3=[2] from exL_w3]at ox;simp -dsimp only[Bool.not_false,B.zqj,B.zbg,f4];intro j hj;simp -dsimp only[Bool.not_false,B.zqj,B.zbg];refine sL x5 _ [2] [2] [] [] _ _ ((ox.zhs 0 rfl).mono (zgz _ hj)) (litIx [2] hj) (by decide) ?_;have o6:=o4.grow (zb.le_trans ox.le (zgz (zdr [.int .i64 2]) hj))
 simp -dsimp only[decide_true,V.zgj,Bool.not_true,Bool.not_false,B.ze,B.zqj,B.zbg,B.zhc,B.cond_false];refine free_fr sF (A:=[]) o6 k4 r4 λh7 k7 o7 r7=>?_;have r7:Rel (s4.del 1) exL4:=by rw[<-exL_4];exact r7
 have l5:(s4.del 1).l=s4.l:=rfl;rw[<-l5];generalize s4.del 1=s5 at k7 o7 r7;refine sN h7 _ λh8 t k8 w8 m8 o8=>?_;have t1:Rel t exL0:=⟨m8,by rw[w8];exact .nil⟩;have o9:zcy h h8 (s5.obs++t.obs):=o7.join o8;have m2:zje exM2:=g1.of exM_2;have m3:zje exM3:=m2.of exM_3;have m4:zje exM4:=m3.of exM_4;have m5:zje exM5:=m4.of exM_5;have g4:zje exL4:=by rw[<-exL_4];exact free_good g3 1
 simp -dsimp only[f1];intro j hj;refine zmg sA (names:=[nmA]) o9 k8 t1 zje.zero (by decide) (by decide) (by decide) (λh2 t2 k2 o2 l2 r2=>?_) j hj;rw[exL_1]at r2 ⊢;simp -dsimp only[B.zgx,B.zbg,f3];rw[<-l2];intro j hj;simp -dsimp only[B.zgx,B.zbg];refine zmg sA (names:=[nmB]) o2 k2 r2 g1 (by decide) (by decide) (by decide) (λh3 t3 k3 o3 l3 r3=>?_) j hj;rw[exM_2]at r3 ⊢;simp -dsimp only[B.zgx,B.zbg,B.ze8,f3];rw[<-l3];intro j hj;simp -dsimp only[B.zgx,B.zbg];refine zmg sA (names:=[nmB]) o3 k3 r3 m2 (by decide) (by decide) (by decide) (λh4 t4 k4 o4 l4 r4=>?_) j hj;rw[exM_3]at r4 ⊢;simp -dsimp only[V.zgj,Bool.not_false,B.ze,B.zgx,B.zbg,B.ze8,f1];rw[<-l4];intro j hj;simp -dsimp only[B.zgx,B.zbg];refine zmg sA (names:=[nmA]) o4 k4 r4 m3 (by decide) (by decide) (by decide) (λh5 t5 k5 o5 l5' r5=>?_) j hj;rw[exM_4]at r5 ⊢;simp -dsimp only[V.zgj,Bool.not_false,B.ze,B.zgx,B.zbg,B.ze8,f3];rw[<-l5'];intro j hj;refine zmg sA (names:=[nmB]) (o5.perm perm_append_comm) k7 r7 g4 (by decide) (by decide) (by decide) (λh6 s6 k6 o6 l6 r6=>?_) j hj;rw[exL_5]at r6 ⊢;simp -dsimp only[V.zgj,Bool.not_false,B.ze,B.zgx,B.zbg];rw[<-l6];refine ask_fr sA (names:=[]) (R:=[]) o6 k6 r6 (by rw[r6.len];decide) (λH o=>((zcy.start H).zdo 1).zhs 0 rfl) (by decide) (by rw[r6.last];decide) (by rw[r6.last];decide) λh9 s9 k9 o9 n9 l9 r9=>?_;rw[exL_6]at r9 ⊢;simp -dsimp only[B.zgx,B.zbg,B.ze8];rw[<-l9];refine sH h9 s9 2 _ (at_fr o9 k9) k9 (Nat.le_trans (held_len r9 k9 2) (by decide)) λx1 h1 L1 p1 q1 ox1=>?_;have e1:L1=[nmA,nmB]:=by rw[zsk r9 k9 p1 q1];exact exL_h2
 subst e1;simp -dsimp only[B.zgx,B.zbg,f2];intro j hj;simp -dsimp only[B.zgx,B.zbg];refine sT x1 _ [nmA,nmB] [nmA,nmB] [] [] _ _ ((ox1.zhs 0 rfl).mono (zgz _ hj)) (litTx [nmA,nmB] hj) (by decide) ?_;have oA:=(o9.grow (zb.le_trans ox1.le (zgz (zdr [.str nmA,.str nmB]) hj))).perm perm_append_comm;simp -dsimp only[decide_true,B.zgx,B.zbg,B.ze8];refine sR _ t5 _ (at_fr oA k5) k5 (by rw[r5.len];decide) λhB x2 L2 rd ox2=>?_;have e2:L2=[1,2]:=exM_round r5 k5 rd;subst e2;have f5:zeu [(0,none,.int .i64 1),(1,none,.int .i64 2)] (zhu 2 [.int .i64 0])=some [.int .i64 1,.int .i64 2]:=rfl;simp -dsimp only[B.zgx,B.zbg,f5];intro j2 hj2;simp -dsimp only[B.zgx,B.zbg];refine sL x2 _ [1,2] [1,2] [] [] _ _ ((ox2.zhs 0 rfl).mono (zgz _ hj2)) (litIx [1,2] hj2) (by decide) ?_;have oC:=oA.grow (zb.le_trans ox2.le (zgz (zdr [.int .i64 1,.int .i64 2]) hj2));have f6:zeu [(0,none,.str [42])] (zhu 1 [.str []])=some [.str [42]]:=rfl;simp -dsimp only[decide_true,B.zgx,B.zbg,B.ze8,f6];intro j3 hj3;simp -dsimp only[B.zgx,B.zbg];refine zmg sA (names:=[nmS]) oC k5 r5 m4 (by decide) (by decide) (by decide) (λhD t6 k10 o10 l10 r10=>?_) j3 hj3;rw[exM_5]at r10 ⊢;simp -dsimp only[V.zgj,Bool.not_false,B.ze,B.zgx,B.zbg,B.ze8];rw[<-l10];refine sW hD t6 4 _ (at_fr o10 k10) k10 (by rw[r10.len];decide) λx3 hE ox3=>?_;rw[ziy r10 k10,show ze7 exM5 4=[1,2] from exM_w4]at ox3;simp -dsimp only[B.zgx,B.zbg,f5];intro j4 hj4;simp -dsimp only[B.zgx,B.zbg];refine sL x3 _ [1,2] [1,2] [] [] _ _ ((ox3.zhs 0 rfl).mono (zgz _ hj4)) (litIx [1,2] hj4) (by decide) ?_;simp -dsimp only[decide_true,B.zgx,B.zbg,B.ze8];exact dn_le (zb.le_trans o10.le (zb.le_trans ox3.le (zgz _ hj4))) hq
variable{C:z6}{N:zN}
section
variable{V:Type}
variable(E:V->List V)
variable{E}
variable{K:List V}{D:V->Option Nat}
end
variable{C:z6}{N:zN}
section
variable{T Ad:Type}(K:DK T Ad)
end
variable{C:z6}{N:zN}
def Kp2(h h':zb)(p:za)(o:Option Nat):Prop:=match o with
 | none=>∃x,A.ldv h p=some x /\ A.ldv h' p=some x
 | some n=>∃x,A.znu h p n=some x /\ A.znu h' p n=some x
theorem keepD1{h h':zb}{p:za}{o:Option Nat}{K:zQ}{v:za}(h1:Kp2 h h' p o)(hk:K v h'):B.zlb h [(p,o)] K v h':=by
 refine⟨λr hr=>?_,hk⟩;rw[mem_singleton.1 hr];unfold Kp2 at h1;cases o<;>exact h1
theorem zcy.rebase{h0 h h':zb}{l l':List Ob}(ho:zcy h0 h l)(hn:zcy h h' l'):∃h1:zb,h0.le h1 /\ h1.le h' /\ zcy h1 h' l /\ AllAt h1 l':=by
 obtain⟨q1,q2⟩:=((ho.join hn).perm perm_append_comm).out;exact⟨_,q1.le,q2.le,q2,q1.is⟩
section
variable{E:zbj}{Mk:zb->Int->Int->List za->Prop}{v:List za->za}{h0 h h':zb}{k s:Nat}{D:List (List za)}
end
section
variable{E:zbj}{Mk:zb->Int->Int->List za->Prop}{v:List za->za}{h0 h h':zb}{x v5:za}{n k:Nat}{xs ys gs:Nat->za}{X F:Nat->List (List za)}{W:List (List za)}{Q:zQ}
end
variable{C:z6}{N:zN}
end Go.Ab
namespace Go.Ab
open List
variable{C:z6}{N:zN}
abbrev sing(v:za):List za:=[v]
def zuh(h hh:zb)(id:Nat)(B:Nat->List za):Prop:=∃xs:Nat->za,zcy h hh (zht 1 23 xs (λi=>(B i).map sing) (λ_=>[])++[.box (.ptr id 0 0) (fill 23 xs)])
theorem zcy.nilObjs{h0 h:zb}{l:List Ob}(ho:zcy h0 h l)(es n:Nat):zcy h0 h (zht es n (λ_=> .zdo) (λ_=>[]) (λ_=>[])++l):=by
 have mem:∀o∈zht es n (λ_=>za.zdo) (λ_=>[]) (λ_=>[]),o= .sl es .zdo [] []:=λo hm=>by
  obtain⟨j,_,rfl⟩:=mem_map.1 hm;rfl
 refine⟨ho.le,λo hm=>?_,λo hm=>?_,pairwise_append.2 ⟨?_,ho.apart,λa ha b _ id hf=>by rw[mem a ha]at hf;cases hf⟩⟩
 ·rcases mem_append.1 hm with hm|hm
  ·rw[mem o hm];exact SlX.zdo h es
  ·exact ho.is o hm
 ·rcases mem_append.1 hm with hm|hm
  ·intro id hf;rw[mem o hm]at hf;cases hf
  ·exact ho.own o hm
 ·rw[pairwise_iff_forall_sublist]
  intro a b hs id hf;rw[mem a (hs.subset (by simp))]at hf;cases hf
theorem zuh.start{h:zb}{id:Nat}(hid:h id=none):zuh h (upd h id (zdr (fill 23 λ_=> .zdo))) id λ_=>[]:=by
 refine⟨λ_=> .zdo,?_⟩;have:=((zcy.start h).zor hid (fill 23 λ_=> .zdo)).nilObjs 1 23;simpa using this
def putG(k:Nat)(v0 v1:za)(h:zb)(Q:zQ):Prop:=B.nilCheck v0 λv6=>B.pv (V.fieldAddr k v6) λv7=>B.ld h v7 λv8=>B.zha h (zeu [(0,none,v1)] (zhu 1 [.zdo])) λi10 h=>B.zjc h 1 24 v8 (.sl i10 0 0 1 1 1) λv11 h=>B.nilCheck v0 λv12=>B.pv (V.fieldAddr k v12) λv13=>B.st h v13 v11 λh=>Q (.tup []) h
theorem putG_spec{k:Nat}(hk:k<23){h hh:zb}{id:Nat}{B:Nat->List za}{y:za}{Q:zQ}(hb:zuh h hh id B)(hy:y.zdx=true)(hl:(B k).length <= 100000000)(hq:∀h',zuh h h' id (upf B k (B k++[y]))->Q (.tup []) h'):putG k (.ptr id 0 0) y hh Q:=by
 obtain⟨xs,ho⟩:=hb;obtain⟨id',e,hbx⟩:=ho.zr8 23 zht.getL;cases e;have e1:A.ldv hh (.ptr id 0 k)=some (xs k):=by rw[ldv_at hbx,zsm _ hk]
 have hrep:zhu 1 [za.zdo]=[za.zdo]:=rfl;simp -dsimp[putG,e1,hrep,hy];refine ho.push k (zht.getA hk) rfl (by omega) (by simp;omega) (by simp[maxLen];omega) λx' h1 ho1 _=>?_;rw[zht.setA hk,zss]at ho1;have hcx:=(ho1.zhs k (zht.getA hk)).zdx;rw[zgy]at hcx;simp -dsimp;refine ho1.zuf 23 zht.getL hcx (by simpa using hk) λh2 ho2 _=>?_;rw[zht.setL,fill_set]at ho2;refine hq h2 ⟨upf xs k x',?_⟩;have e2:upf (λi=>(B i).map sing) k ((B k).map sing++[[y]])=λi=>(upf B k (B k++[y]) i).map sing:=by
  funext i;unfold upf;split
  ·rename_i e;subst e;simp
  ·rfl
 rw[e2]at ho2;exact ho2
section
variable{h0 h:zb}{id:Nat}{B:Nat->List za}{D R:Nat->Nat->List (List za)}{xs:Nat->za}{Q:zQ}
end
end Go.Ab
namespace Go.Ab
open List
variable{C:z6}{N:zN}
def zpq(C:z6)(k g:Nat):Prop:=∀(h hh:zb)(id:Nat)(B:Nat->List za)(y:za)(Q:zQ),zuh h hh id B->y.zdx=true->(B k).length <= 100000000->(∀h',zuh h h' id (upf B k (B k++[y]))->Q (.tup []) h')->C g [.ptr id 0 0,y] hh Q
@[simp] def zvh.k1(C:z6)(fp fa:Nat)(Q:zQ)(Y1:zL)(v0 v3 v4:za)(h:zb):Prop:=B.pv (V.zcj v0) λv9=>B.pv (V.bin .lss v4 v9) λv10=>B.cond v10 (B.pv (V.zcp 1 v0 v4) λv16=>B.ld h v16 λv17=>B.call C fp [v3,v17] h λv18 h=>B.pv (V.bin .add v4 (.int .i64 1)) λv12=>Y1 [v12] h) (B.call C fa [v3] h λv20 h=>Q v20 h)
@[simp] def zvh.l2(C:z6)(fp fa:Nat)(Q:zQ)(v0 v3:za):zG|[v4],h,Y1=>zvh.k1 C fp fa Q Y1 v0 v3 v4 h|_,_,_=>False
def zvh(C:z6)(fp fa:Nat)(v0:za)(h:zb)(Q:zQ):Prop:=B.pv (A.bld [] [.zdo,.zdo,.zdo,.zdo,.zdo,.zdo,.zdo,.zdo,.zdo,.zdo,.zdo,.zdo,.zdo,.zdo,.zdo,.zdo,.zdo,.zdo,.zdo,.zdo,.zdo,.zdo,.zdo]) λv5=>B.zha h (A.zj4 23 v5) λi6 h=>zq (zvh.l2 C fp fa Q v0 (.ptr i6 0 0)) [(.int .i64 0)] h
theorem zuh.le{h hh:zb}{id:Nat}{B:Nat->List za}(hb:zuh h hh id B):h.le hh:=by obtain⟨_,ho⟩:=hb;exact ho.le
@[simp] theorem Objs_zero{es:Nat}{xs:Nat->za}{D R:Nat->List (List za)}:zht es 0 xs D R=[]:=rfl
end Go.Ab
namespace Go.Ab
open List
variable{C:z6}{N:zN}
structure LL.okL(lim:Nat)(t:LL)(h0:zb):Prop where
 is:SlX h0 1 t.x (zhf t.n λj=>[t.xs j]) t.W
 n_le:t.n <= 100000000
 zro:∀j,j<t.n->(t.D j).length <= lim
def FlatSpecL(C:z6)(es lim g:Nat):Prop:=∀(t:LL)(h0 h:zb)(Q:zQ),t.okL lim h0->zcy h0 h (t.obs es)->(∀h',h0.le h'->Q (.bool true) h')->C g [t.x] h Q
structure BagK where
 es:Nat->Nat
 lim:Nat->Nat
 full:Nat->Bool
abbrev LK:=List (za×List (List za))
def obK(es:Nat)(q:za×List (List za)):Ob:= .sl es q.1 q.2 []
def LK.ll(l:LK)(x:za):LL:=⟨x,l.length,λj=>(l.getD j (.zdo,[])).1,λj=>(l.getD j (.zdo,[])).2,λ_=>[],[]⟩
theorem LK.obs(l:LK)(x:za)(es:Nat):(l.ll x).obs es=l.map (obK es):=by
 apply ext_getElem?;intro j;unfold LL.obs LK.ll;by_cases hj:j<l.length
 ·rw[zht.get hj,getElem?_map,getElem?_eq_getElem hj]
  simp[obK,hj]
 ·rw[getElem?_eq_none (by simp;omega),getElem?_eq_none (by simp;omega)]
theorem LK.zhf(l:LK):zhf l.length (λj=>[(l.getD j (.zdo,[])).1])=l.map λq=>[q.1]:=by
 apply ext_getElem?;intro j;by_cases hj:j<l.length
 ·rw[zne _ hj,getElem?_map,getElem?_eq_getElem hj];simp[hj]
 ·rw[getElem?_eq_none (by simp;omega),getElem?_eq_none (by simp;omega)]
def zhd(C:z6)(b:BagK)(i g:Nat):Prop:=(b.full i=true->FlatSpecL C (b.es i) (b.lim i) g) /\ (b.full i=false->zdc C g)
structure BagL(b:BagK)(h0:zb)(id:Nat)(L:Nat->LK)(xs:Nat->za):Prop where
 box:h0 id=some (zdr (fill 23 xs))
 is:∀i,i<23->SlX h0 1 (xs i) ((L i).map λq=>[q.1]) []
 none:∀i,i<23->b.full i=false->L i=[]
 n_le:∀i,i<23->(L i).length <= 100000000
 zro:∀i,i<23->∀q∈L i,q.2.length <= b.lim i
def bagOb(b:BagK)(L:Nat->LK)(i n:Nat):List Ob:=(List.range' i n).flatMap λi=>(L i).map (obK (b.es i))
theorem bagOb_succ(b:BagK)(L:Nat->LK)(i n:Nat):bagOb b L i (n+1)=(L i).map (obK (b.es i))++bagOb b L (i+1) n:=by
 simp[bagOb,range'_succ]
section
variable{b:BagK}{h0 h:zb}{id:Nat}{L:Nat->LK}{xs:Nat->za}{Q:zQ}
theorem BagL.ld(hb:BagL b h0 id L xs)(hle:h0.le h){i:Nat}(hi:i<23):A.ldv h (.ptr id 0 i)=some (xs i):=by
 rw[ldv_at (hle _ _ hb.box),zsm _ hi]
theorem zgk{g:Nat}(i:Nat)(s:zhd C b i g)(hb:BagL b h0 id L xs)(n:Nat)(hi:i<23)(ho:zcy h0 h (bagOb b L i (n+1)))(hq:∀h',zcy h0 h' (bagOb b L (i+1) n)->Q (.bool true) h'):C g [xs i] h Q:=by
 rw[bagOb_succ]at ho;cases hf:b.full i with
 | true=>
  obtain⟨q1,q2⟩:=(ho.perm perm_append_comm).out;have hx:=(hb.is i hi).mono q1.le;rw[<-LK.zhf]at hx;rw[<-LK.obs (L i) (xs i)]at q1 q2;refine s.1 hf ((L i).ll (xs i)) _ h Q ⟨by rw[<-LK.obs (L i) (xs i)]at hx;exact hx,hb.n_le i hi,λj hj=>?_⟩ q2 λh' hle=>hq h' (q1.grow hle);have hj':j<(L i).length:=hj;show ((L i).getD j (.zdo,[])).2.length <= _;rw[getD_eq_getElem?_getD,getElem?_eq_getElem hj'];exact hb.zro i hi _ (getElem_mem hj')
 | false=>
  have e:=hb.none i hi hf;have hx:=hb.is i hi;rw[e]at hx ho;simp only[map_nil,nil_append]at hx ho;exact s.2 hf (xs i) [] h h Q (hx.mono ho.le) (zb.le_refl h) λh' hle=>hq h' (ho.grow hle)
end
def zvi(C:z6)(b:BagK)(g:Nat):Prop:=∀(id:Nat)(L:Nat->LK)(xs:Nat->za)(h0 h:zb)(Q:zQ),BagL b h0 id L xs->zcy h0 h (bagOb b L 0 23)->(∀h',h0.le h'->Q (.bool true) h')->C g [.ptr id 0 0] h Q
theorem bag_apartK(i:zeh.Imp C N)(b:BagK)(f0:zhd C b 0 (N 80))(f1:zhd C b 1 (N 81))(f2:zhd C b 2 (N 82))(f3:zhd C b 3 (N 83))(f4:zhd C b 4 (N 84))(f5:zhd C b 5 (N 85))(f6:zhd C b 6 (N 86))(f7:zhd C b 7 (N 87))(f8:zhd C b 8 (N 88))
  (f9:zhd C b 9 (N 89)) (f10:zhd C b 10 (N 90)) (f11:zhd C b 11 (N 91)) (f12:zhd C b 12 (N 92)) (f13:zhd C b 13 (N 93)) (f14:zhd C b 14 (N 94)) (f15:zhd C b 15 (N 95)) (f16:zhd C b 16 (N 96)) (f17:zhd C b 17 (N 97)) (f18:zhd C b 18 (N 98)) (f19:zhd C b 19 (N 99))
  (f20:zhd C b 20 (N 100)) (f21:zhd C b 21 (N 101)) (f22:zhd C b 22 (N 102)):zvi C b (N 62):=by
 intro id L xs h0 h Q hb ho hq;apply i;simp -dsimp[hb.ld ho.le (i:=0) (by omega)];refine zgk 0 f0 hb 22 (by omega) ho λh ho=>?_;simp -dsimp[hb.ld ho.le (i:=1) (by omega)];refine zgk 1 f1 hb 21 (by omega) ho λh ho=>?_;simp -dsimp[hb.ld ho.le (i:=2) (by omega)];refine zgk 2 f2 hb 20 (by omega) ho λh ho=>?_;simp -dsimp[hb.ld ho.le (i:=3) (by omega)];refine zgk 3 f3 hb 19 (by omega) ho λh ho=>?_;simp -dsimp[hb.ld ho.le (i:=4) (by omega)];refine zgk 4 f4 hb 18 (by omega) ho λh ho=>?_;simp -dsimp[hb.ld ho.le (i:=5) (by omega)];refine zgk 5 f5 hb 17 (by omega) ho λh ho=>?_;simp -dsimp[hb.ld ho.le (i:=6) (by omega)];refine zgk 6 f6 hb 16 (by omega) ho λh ho=>?_;simp -dsimp[hb.ld ho.le (i:=7) (by omega)];refine zgk 7 f7 hb 15 (by omega) ho λh ho=>?_;simp -dsimp[hb.ld ho.le (i:=8) (by omega)];refine zgk 8 f8 hb 14 (by omega) ho λh ho=>?_;simp -dsimp[hb.ld ho.le (i:=9) (by omega)];refine zgk 9 f9 hb 13 (by omega) ho λh ho=>?_;simp -dsimp[hb.ld ho.le (i:=10) (by omega)];refine zgk 10 f10 hb 12 (by omega) ho λh ho=>?_;simp -dsimp[hb.ld ho.le (i:=11) (by omega)];refine zgk 11 f11 hb 11 (by omega) ho λh ho=>?_;simp -dsimp[hb.ld ho.le (i:=12) (by omega)];refine zgk 12 f12 hb 10 (by omega) ho λh ho=>?_;simp -dsimp[hb.ld ho.le (i:=13) (by omega)];refine zgk 13 f13 hb 9 (by omega) ho λh ho=>?_;simp -dsimp[hb.ld ho.le (i:=14) (by omega)];refine zgk 14 f14 hb 8 (by omega) ho λh ho=>?_;simp -dsimp[hb.ld ho.le (i:=15) (by omega)];refine zgk 15 f15 hb 7 (by omega) ho λh ho=>?_;simp -dsimp[hb.ld ho.le (i:=16) (by omega)];refine zgk 16 f16 hb 6 (by omega) ho λh ho=>?_;simp -dsimp[hb.ld ho.le (i:=17) (by omega)];refine zgk 17 f17 hb 5 (by omega) ho λh ho=>?_;simp -dsimp[hb.ld ho.le (i:=18) (by omega)];refine zgk 18 f18 hb 4 (by omega) ho λh ho=>?_;simp -dsimp[hb.ld ho.le (i:=19) (by omega)];refine zgk 19 f19 hb 3 (by omega) ho λh ho=>?_;simp -dsimp[hb.ld ho.le (i:=20) (by omega)]
 refine zgk 20 f20 hb 2 (by omega) ho λh ho=>?_;simp -dsimp[hb.ld ho.le (i:=21) (by omega)];refine zgk 21 f21 hb 1 (by omega) ho λh ho=>?_;simp -dsimp[hb.ld ho.le (i:=22) (by omega)];refine zgk 22 f22 hb 0 (by omega) ho λh ho=>?_
 try simp -dsimp
 exact zbf (hq _ ho.le)
end Go.Ab
namespace Go.Ab
open List
variable{C:z6}{N:zN}
theorem zt3{b:BagK}{k es fp fa:Nat}(hk:k<23)(hf:∀i,b.full i=false->i≠k)(hone:∀Lk:LK,bagOb b (λi=>if i=k then Lk else []) 0 23=Lk.map (obK es))(hlim:100000000 <= b.lim k)(s1:zpq C k fp)(s3:zvi C b fa)
  {t:LL} {h0 h:zb} {Q:zQ} (ht:t.ok h0) (ho:zcy h0 h (t.obs es)) (hq:∀h',h0.le h'->Q (.bool true) h'):zvh C fp fa t.x h Q:=by
 have hn:=ht.n_le
 try simp -dsimp[zvh]
 intro id hid
 refine zq.intro (λn vs hh=>∃j:Nat,j+n=t.n /\ vs=[.int .i64 j] /\ zuh h hh id (upf (λ_=>[]) k ((List.range j).map t.xs))) t.n ?_ ⟨0,by simp,by simp,by
  have:=zuh.start hid;rw[show upf (λ_=>([]:List za)) k ((List.range 0).map t.xs)=λ_=>[] from zss ..];exact this⟩
 rintro Y n vs hh ⟨j,hj,rfl,hb⟩ hY;have hx:=ht.is.mono (zb.le_trans ho.le hb.le);simp -dsimp[zrn hx];refine B.zbc (λh1=>?_) (λh1=>?_)<;>simp at h1
 ·have hc:(t.xs j).zdx=true:=(ho.zhs j (zht.get h1)).zdx
  simp -dsimp[zkj hx h1,zq1 hx h1];refine s1 h hh id _ _ _ hb hc (by rw[zgy];simp;omega) λh' hb'=>?_;simp -dsimp[znb (n:=j) (by omega)];refine hY (n-1) _ _ (by omega) ⟨j+1,by omega,by simp,?_⟩;rw[zgy,upf_upf]at hb';rw[range_succ,map_append];exact hb'
 ·have:j=t.n:=by omega
  subst this
  let Lk:LK:=(List.range t.n).map λj=>(t.xs j,t.D j)
  have hc:zcy h0 h (Lk.map (obK es)):=by
   have ho':zcy h0 h (zht es t.n t.xs t.D t.R++[]):=by rw[append_nil];exact ho
   have:=ho'.cutR;rw[append_nil]at this;have e:zht es t.n t.xs t.D (λ_=>[])=Lk.map (obK es):=by
    show (List.range t.n).map _=((List.range t.n).map _).map _;rw[map_map];rfl
   rw[<-e];exact this
  obtain⟨xs,ob⟩:=hb;rw[<-hone]at hc;obtain⟨q1,q2⟩:=((hc.join ob).perm perm_append_comm).out;obtain⟨id',e,hbx⟩:=q1.zr8 23 zht.getL;cases e;refine s3 id (λi=>if i=k then Lk else []) xs _ hh Q ⟨hbx,λi hi=>?_,λi hi hfi=>?_,λi hi=>?_,λi hi q hq=>?_⟩ q2 λh' hle=>hq h' (zb.le_trans q1.le hle)
  ·have:=q1.zhs i (zht.getA hi)
   have e:(upf (λ_=>([]:List za)) k ((List.range t.n).map t.xs) i).map sing=((λi=>if i=k then Lk else []) i:LK).map λq=>[q.1]:=by
    show (if i=k then (List.range t.n).map t.xs else []).map sing=(if i=k then Lk else []).map λq=>[q.1];split
    ·rw[map_map]
     show _=((List.range t.n).map _).map _;rw[map_map];rfl
    ·rfl
   rw[e]at this;exact this
  ·have:=hf i hfi
   show (if i=k then Lk else [])=[];rw[if_neg this]
  ·show (if i=k then Lk else []).length <= _
   split
   ·show ((List.range t.n).map _).length <= _
    rw[length_map,length_range];omega
   ·simp
  ·have hq:q∈(if i=k then Lk else []):=hq
   by_cases e:i=k
   ·rw[if_pos e]at hq
    obtain⟨j,hj,rfl⟩:=mem_map.1 hq;have:=ht.zro j (by simpa using hj);rw[e];show (t.D j).length <= _;omega
   ·rw[if_neg e]at hq;cases hq
theorem zd1.spec(i:zd1.Imp C N):zpq C 3 (N 405):=λh hh id B y Q hb hy hl hq=>i _ _ hh Q (putG_spec (k:=3) (by omega) hb hy hl λh' hb'=>zbf (hq h' hb'))
variable{C:z6}{N:zN}
end Go.Ab
namespace Go.Ab
open List
variable{C:z6}{N:zN}
def two{α:Type}(a b:α):Nat->α:=λj=>if j=0 then a else b
section
variable{b post:List UInt8}{a:Nat}
end
end Go.Ab
namespace Go.Ab
open List
variable{C:z6}{N:zN}
theorem absSl1{H:zb}{b e:Nat}{t:Ty}{c:List za}(h:zjz H (.sl b e t) c):∃v,c=[v]:=by
 rcases h with h|h|⟨_,_,h,_⟩<;>exact⟨_,h⟩
theorem dTextW{H:zb}{p:List za}(h:zjz H .s p):∃s:List UInt8,p=tc s /\ s.length<4611686018427387904:=by
 obtain⟨s,rfl,q⟩:=h;exact⟨s,rfl,by unfold reach at q;omega⟩
theorem dTextsL{H:zb}{v:za}(h:zjz H (.sl 16 1 .s) [v]):∃L:List (List UInt8),SlIs H 1 v (L.map tc) /\ L.length<100000000000000000 /\ ∀s∈L,s.length<4611686018427387904:=by
 obtain⟨L,h1,h2,h3⟩:=arg_sliceP tc (λs=>s.length<4611686018427387904) (λp hp=>dTextW hp) h;exact⟨L,h1,by unfold reach at h2;omega,h3⟩
theorem arg_sliceDP{T Ad:Type}{K:DK T Ad}{Pr:T->Prop}{H:zb}{bytes:Nat}{e:Ty}{v:za}(hd:∀p,zjz H e p->∃(t:T)(a:Ad),p=K.cells t a /\ K.at_ H t a /\ Pr t)(h:zjz H (.sl bytes K.n e) [v]):∃L:List T,Dl K H v L /\ L.length*bytes <= reach /\ ∀t∈L,Pr t:=by
 obtain⟨G,h1,h2⟩:=arg_slice (T:={ p:T×Ad // K.at_ H p.1 p.2 /\ Pr p.1 }) (λp=>K.cells p.1.1 p.1.2) (λp hp=>by obtain⟨t,a,e,k⟩:=hd p hp;exact⟨⟨(t,a),k⟩,e⟩) h;refine⟨(G.map (·.1)).map (·.1),⟨G.map (·.1),[],rfl,?_,λp hp=>?_⟩,by simpa using h2,λt ht=>?_⟩
 ·rw[map_map];exact h1
 ·obtain⟨q,_,rfl⟩:=mem_map.1 hp;exact q.2.1
 ·obtain⟨q,hq,rfl⟩:=mem_map.1 ht
  obtain⟨q',_,rfl⟩:=mem_map.1 hq;exact q'.2.2
end Go.Ab
namespace Go.Ab
open List
variable{C:z6}{N:zN}
theorem quo20{a:Nat}(h:a<4611686018427387904):V.bin .quo (.int .i64 (a:Int)) (.int .i64 20)=some (.int .i64 ((a / 20:Nat):Int)):=by
 rw[V.bin_quo _ _ _ (by omega),show (a:Int).tdiv 20=((a / 20:Nat):Int) from rfl,wrap_i64 (by omega) (by omega)]
variable{C:z6}{N:zN}
def zf9.Spec(C:z6)(N:zN):Prop:=∀(a m:Int)(h:zb)(Q:zQ),0<m->m <= 4611686018427387904->(∀n:Int,0 <= n->n<m->Q (.int .i64 n) h)->C (N 155) [.int .i64 a,.int .i64 m] h Q
theorem zf9.spec(i:zf9.Imp C N):zf9.Spec C N:=by
 intro a m h Q h1 h2 hq;apply i;have k1:=Int.tmod_lt_of_pos a h1;have k2:=Int.lt_tmod_of_pos a h1;have hm:m≠0:=by omega
 simp -dsimp[hm,show ¬ m<1 by omega];refine B.zbc (λhb=>?_) (λhb=>?_)<;>simp -dsimp at hb ⊢
 ·rw[wrap_i64 (by omega) (by omega)]
  exact zbf (hq _ (by omega) (by omega))
 ·exact zbf (hq _ hb k1)
variable{C:z6}{N:zN}
structure Stp where
 Op:Int
 Work:Int
 Names:List Key
def zmo:DK Stp za where
 n:=3
 bytes:=40
 z:=[.int .i64 0,.int .i64 0,.zdo]
 pos:=by omega
 small:=by omega
 zlen:=rfl
 cells t a:=[.int .i64 t.Op,.int .i64 t.Work,a]
 len _ _:=rfl
 at_ h t a:=∃R,SlX h 1 a (t.Names.map tc) R
 mono hle ha:=ha.imp λ_ r=>r.mono hle
 ok _:=True
 at_ok _:=trivial
 obs b t a:=[zql b a t.Names]
 ofObs {b h t a} _ ha:=⟨_,show SlX h 1 a (t.Names.map tc) (bif b then zho else []) from ha (zql b a t.Names) (by simp)⟩
def Stp.inLen(t:Stp):Prop:=t.Names.length<100000000000000000 /\ ∀n∈t.Names,n.length<4611686018427387904
abbrev tyStep:Ty:= .st [.i .i64,.i .i64,.sl 16 1 .s]
theorem dStep{H:zb}{p:List za}(h:zjz H tyStep p):∃(t:Stp)(a:za),p=zmo.cells t a /\ zmo.at_ H t a /\ t.inLen:=by
 obtain⟨a,r,rfl,⟨n1,rfl,q1⟩,⟨b,r2,rfl,⟨n2,rfl,_⟩,⟨c,r3,rfl,h3,hr⟩⟩⟩:=h;cases hr;obtain⟨v,rfl⟩:=absSl1 h3;obtain⟨O,g1,g2,g3⟩:=dTextsL h3;exact⟨⟨n1,n2,O⟩,v,rfl,⟨[],g1⟩,g2,g3⟩
theorem dSteps{H:zb}{v:za}(h:zjz H (.sl 40 3 tyStep) [v]):∃L:List Stp,Dl zmo H v L /\ L.length<4611686018427387904 /\ ∀t∈L,t.inLen:=by
 obtain⟨L,h1,h2,h3⟩:=arg_sliceDP (K:=zmo) (λp hp=>dStep hp) h;exact⟨L,h1,by unfold reach at h2;omega,h3⟩
theorem Dl.upTo{T Ad:Type}{K:DK T Ad}{h:zb}{x:za}{L:List T}(hd:Dl K h x L){m:Nat}(hm:m <= L.length):∃y,V.zjp K.n x none (some (.int .i64 (m:Int)))=some y /\ Dl K h y (L.take m):=by
 obtain⟨P,R,e,s,ha⟩:=hd;have hl:P.length=L.length:=by rw[<-e,length_map]
 obtain⟨y,e1,e2,e3⟩:=s.slice K.pos (lo:=0) (hi:=m) (a:=none) (b:=some (.int .i64 m)) (.inl ⟨rfl,rfl⟩) (.inr ⟨_,rfl⟩) (Nat.zero_le _) (by rw[length_map];omega);rw[drop_zero,take_append_of_le_length (by rw[length_map];omega),<-map_take]at e2;exact⟨y,e1,P.take m,_,by rw[map_take,e],e2,λq hq=>ha q (mem_of_mem_take hq)⟩
structure StpAt(h:zb)(x:za)(i:Nat)(r:Stp)(a:za):Prop where
 idx:V.zcp 3 x (.int .i64 (i:Int))=some (elp 3 x i 0)
 f0:V.fieldAddr 0 (elp 3 x i 0)=some (elp 3 x i 0)
 f1:V.fieldAddr 1 (elp 3 x i 0)=some (elp 3 x i 1)
 f2:V.fieldAddr 2 (elp 3 x i 0)=some (elp 3 x i 2)
 l0:A.ldv h (elp 3 x i 0)=some (.int .i64 r.Op)
 l1:A.ldv h (elp 3 x i 1)=some (.int .i64 r.Work)
 l2:A.ldv h (elp 3 x i 2)=some a
 ldn:A.znu h (elp 3 x i 0) 3=some (.agg [.int .i64 r.Op,.int .i64 r.Work,a])
 at_:∃R,SlX h 1 a (r.Names.map tc) R
 len:V.zcj a=some (.int .i64 (r.Names.length:Int))
theorem stp_get{h:zb}{x:za}{L:List Stp}(hx:Dl zmo h x L){i:Nat}{r:Stp}(hr:L[i]?=some r):∃a,StpAt h x i r a:=by
 obtain⟨a,ea⟩:=hx.get hr;obtain⟨R1,a1⟩:∃R,SlX h 1 a (r.Names.map tc) R:=ea.at_;exact⟨a,ea.idx,ea.fld 0 0,ea.fld 0 1,ea.fld 0 2,ea.ld 0 (by decide),ea.ld 1 (by decide),ea.ld 2 (by decide),ea.ldn,⟨R1,a1⟩,by simpa using a1.zcj⟩
theorem StpAt.mono'{h h':zb}{x:za}{L:List Stp}{i:Nat}{r:Stp}{a:za}(ea:StpAt h x i r a)(hle:h.le h')(hx:Dl zmo h x L)(hr:L[i]?=some r):A.ldv h' (elp 3 x i 2)=some a:=by
 obtain⟨P,R,rfl,s,ha⟩:=hx;rw[getElem?_map]at hr;obtain⟨p,hp,rfl⟩:=Option.map_eq_some_iff.1 hr;have e1:=(slX_el s ha hp).ld 2 (by decide);have e2:=(slX_el (s.mono hle) (λq hq=>zmo.mono hle (ha q hq)) hp).ld 2 (by decide);have e3:A.ldv h' (elp 3 x i 2)=A.ldv h (elp 3 x i 2):=e2.trans e1.symm;rw[e3,ea.l2]
def zmk(L:List Stp):Nat:=(L.map λt=>t.Names.length).sum
theorem ztg{L:List Stp}{k:Nat}{r:Stp}(hr:L[k]?=some r):zmk (L.take (k+1))=zmk (L.take k)+r.Names.length:=by
 unfold zmk;rw[take_add_one,hr,map_append,sum_append];simp
theorem namesN_le{L:List Stp}{k:Nat}:zmk (L.take k) <= zmk L:=by
 unfold zmk
 conv=>rhs;rw[<-take_append_drop k L,map_append,sum_append]
 omega
def zcs.Spec(C:z6)(N:zN):Prop:=∀(x:za)(L:List Stp)(h:zb)(Q:zQ),Dl zmo h x L->L.length<4611686018427387904->(∀t∈L,t.inLen)->(∀b:Bool,(b=false->zmk L <= 2000)->Q (.bool b) h)->C (N 486) [x] h Q
theorem leq2000{n:Nat}:V.bin .leq (.int .i64 (n:Int)) (.int .i64 2000)=some (.bool (decide (n <= 2000))):=by rw[V.bin_leq];congr 3;exact propext (by omega)
theorem gtr2000{n:Nat}:V.bin .gtr (.int .i64 (n:Int)) (.int .i64 2000)=some (.bool (decide (2000<n))):=by rw[V.zpn];congr 3;exact propext (by omega)
theorem zcs.spec(i:zcs.Imp C N):zcs.Spec C N:=by
 intro x L h Q hx hlen hin hq;apply i;refine zq.intro (λt vs hh=>hh=h /\ ∃k n:Nat,k+t=L.length /\ vs=[.int .i64 (n:Int),.int .i64 (k:Int)] /\ n<1000000000000000000 /\ (n <= 2000->zmk (L.take k) <= n)) L.length ?_ ⟨rfl,0,0,by omega,rfl,by omega,λ_=>Nat.le_refl _⟩;rintro Y t vs h ⟨rfl,k,n,ht,rfl,hn,hall⟩ hY;have hend:(2000<n \/ k=L.length)->dn Q (.bool (decide ((2000:Int)<(n:Int)))) h:=λhor=>by
  rw[show decide ((2000:Int)<(n:Int))=decide (2000<n) from decide_eq_decide.2 (by omega)];refine zbf (hq _ λe=>?_);have h4:¬ 2000<n:=of_decide_eq_false e;have hk:k=L.length:=hor.resolve_left h4;rw[hk,take_length]at hall;have:=hall (by omega);omega
 simp -dsimp only[zcs.l4,zcs.k3,hx.zcj,zr3,leq2000,gtr2000,B.ze];by_cases hk:k<L.length
 rotate_left
 ·simp -dsimp only[hk,decide_false,B.zqj,Bool.not_false,B.zbg,B.zhc,B.cond_false,B.zgx,B.zgl]
  have:=hend (.inr (by omega));simpa -dsimp using this
 by_cases h4:n <= 2000
 rotate_left
 ·have:=hend (.inl (by omega))
  have h4':¬ (n:Int) <= 2000:=by omega
  simpa -dsimp[hk,h4']using this
 have h4':(n:Int) <= 2000:=by omega
 obtain⟨r,hr⟩:=zg3 hk;have hrm:=mem_of_getElem? hr;obtain⟨n1,n2⟩:=hin r hrm;obtain⟨a,ea⟩:=stp_get hx hr;obtain⟨R,ha⟩:=ea.at_;have ns:=ztg hr;simp -dsimp[hk,h4',-zcs.l2];refine zq.intro (λt vs h2=>h2=h /\ ∃q m:Nat,q+t=r.Names.length /\ vs=[.int .i64 (m:Int),.int .i64 (q:Int)] /\ m<1000000000000000000 /\ (m <= 2000->zmk (L.take k)+q <= m)) r.Names.length ?_ ⟨rfl,0,n,by omega,rfl,hn,hall⟩;rintro Z t2 vs h2 ⟨rfl,q,m,ht2,rfl,hm,hle⟩ hZ;have hout:(2000<m \/ q=r.Names.length)->Y [.int .i64 (m:Int),.int .i64 ((k+1:Nat):Int)] h2:=λhor=>by
  refine hY (t-1) _ _ (by omega) ⟨rfl,k+1,m,by omega,rfl,hm,λhm2=>?_⟩;have:=hle hm2;have hq:q=r.Names.length:=hor.resolve_left (by omega);omega
 have ak1:=zh3 (show k<4611686018427387904 by omega);simp -dsimp only[zcs.l2,zcs.k1,ea.idx,ea.f2,ea.l2,ea.len,B.zeo,zr3,leq2000,B.ze,zh3 (show k<4611686018427387904 by omega)];by_cases hq':q<r.Names.length
 rotate_left
 ·have:=hout (.inr (by omega))
  simpa -dsimp[hq',-V.zh8,ak1]using this
 by_cases h5:m <= 2000
 rotate_left
 ·have:=hout (.inl (by omega))
  have h5':¬ (m:Int) <= 2000:=by omega
  simpa -dsimp[hq',h5',-V.zh8,ak1]using this
 have h5':(m:Int) <= 2000:=by omega
 have g1:(r.Names.map tc)[q]?=some (tc r.Names[q]):=by rw[getElem?_map,getElem?_eq_getElem hq'];rfl
 have i1:V.zcp 1 a (.int .i64 (q:Int))=some (elp 1 a q 0):=ha.zmd (by simpa using hq');have c1:A.ldv h2 (elp 1 a q 0)=some (.str r.Names[q]):=ha.cell g1;have hnl:=n2 _ (getElem_mem hq');have lc:V.ztj (.str r.Names[q])=some (.int .i64 (r.Names[q].length:Int)):=rfl;have key:Z [.int .i64 ((m+1+r.Names[q].length / 20:Nat):Int),.int .i64 ((q+1:Nat):Int)] h2:=by
  refine hZ (t2-1) _ _ (by omega) ⟨rfl,q+1,m+1+r.Names[q].length / 20,by omega,rfl,by omega,λhm2=>?_⟩;have:=hle (by omega);omega
 simp -dsimp only[hq',decide_true,B.zgx,B.zbg,leq2000,h5,B.ze,B.ze8,B.cond_true,ea.idx,ea.f2,ea.l2,B.zeo,i1,c1,lc,quo20 hnl,zh3 (show m<4611686018427387904 by omega),zh3 (show q<4611686018427387904 by omega),zr9 (a:=m+1) (b:=r.Names[q].length / 20) (by omega)];exact key
def znk(d:DL)(n:Nat):Prop:=∀w∈d.L,w.zff.length+w.zga.length <= n
theorem znk.mono{d:DL}{n m:Nat}(h:znk d n)(hm:n <= m):znk d m:=λw hw=>Nat.le_trans (h w hw) hm
theorem putT_le1(l:List Key)(s:Key):(ziw l s).length <= l.length+1:=by
 induction l with
 | nil=>simp[ziw]
 | cons a r ih=>
  unfold ziw
  repeat' split
  all_goals simp only[length_cons]<;>omega
theorem wantD_len(w:DW)(names:List Key):(zg2 w names).length <= w.zga.length+names.length:=by
 unfold zg2;generalize w.zga=a
 induction names generalizing a with
 | nil=>simp
 | cons x r ih=>
  rw[foldl_cons,length_cons];refine Nat.le_trans (ih _) ?_;split
  ·have:=putT_le1 a x;omega
  ·omega
theorem puts_len(B H:List Key):(B.foldl ziw H).length <= H.length+B.length:=by
 induction B generalizing H with
 | nil=>simp
 | cons x r ih=>
  rw[foldl_cons,length_cons];have:=ih (ziw H x);have:=putT_le1 H x;omega
theorem workD_small{d:DL}{n:Nat}(h:znk d n)(k:Int):(ze6 d k).zff.length+(ze6 d k).zga.length <= n:=by
 unfold ze6;cases e:findD d.L k with
 | none=>simp
 | some w=>exact h w (zlx e).1
theorem ask_small{d:DL}{n:Nat}(h:znk d n)(k:Int)(names:List Key):znk (zku d k names).2 (n+names.length):=by
 have h1:=workD_small h k;have h2:=wantD_len (ze6 d k) names;have h3:=puts_len (zg2 (ze6 d k) names) (ze6 d k).zff;unfold zku;simp only;split
 all_goals
  intro w hw;rcases zk1 hw with rfl|hw
  ·simp only[length_nil];omega
  ·have:=h w hw;omega
theorem free_small{d:DL}{n:Nat}(h:znk d n)(k:Int):znk (zq6 d k) n:=λw hw=>h w (zns hw)
theorem zu4{d:DL}{n:Nat}(h:znk d n)(k:Int):(zh2 d k).length <= n:=by
 unfold zh2;cases e:findD d.L k with
 | none=>simp
 | some w=>have:=h w (zlx e).1;simp only;omega
theorem holdsD_work(d:DL)(k:Int):zh2 d k=(ze6 d k).zff:=by
 unfold zh2 ze6;cases findD d.L k<;>rfl
variable{C:z6}{N:zN}
theorem eql0N{n:Nat}:V.bin .eql (.int .i64 (n:Int)) (.int .i64 0)=some (.bool (decide (n=0))):=by rw[V.zhr];congr 3;exact propext (by omega)
structure zmw(s:Lk)(d:DL)(k n:Nat):Prop where
 ok:s.Ok
 rel:Rel s d
 zrs:zje d
 apart:zrz d
 last:d.zji <= k
 len:d.L.length <= k
 small:znk d n
theorem zmw.zero{s:Lk}(hk:s.Ok)(hw:s.W=[])(hl:s.last=0):zmw s ⟨[],0⟩ 0 0:=
 ⟨hk,⟨hl,by rw[hw];exact .nil⟩,⟨Int.le_refl _,λw hw=>absurd hw (not_mem_nil),List.Pairwise.nil⟩,λa ha=>absurd ha (not_mem_nil),Int.le_refl _,Nat.le_refl _,λw hw=>absurd hw (not_mem_nil)⟩
theorem zmw.mono{s:Lk}{d:DL}{k n k' n':Nat}(h:zmw s d k n)(hk:k <= k')(hn:n <= n'):zmw s d k' n':=
 ⟨h.ok,h.rel,h.zrs,h.apart,by have:=h.last;omega,by have:=h.len;omega,h.small.mono hn⟩
variable{h0 h:zb}{A:List Ob}{s:Lk}{d:DL}{k n:Nat}{w:Int}
theorem zmw.ask(sA:z8.Spec C N)(hv:zmw s d k n)(ho:zcy h0 h (A++s.obs))(hkk:k <= 1000){names:List Key}{x:za}{R:List (List za)}(hx:∀H,zcy h0 H A->SlX H 1 x (names.map tc) R)(hn:names.length <= 100000){Q:zQ}
  (hq:∀(h':zb)(s':Lk),zmw s' (zku d w names).2 (k+1) (n+names.length)->zcy h0 h' (A++s'.obs)->s'.l=s.l->Q (.bool (zku d w names).1) h'):C (N 489) [.ptr s.l 0 0,.int .i64 w,x] h Q:=by
 have e1:=hv.rel.len;have e2:=hv.rel.last;have e3:=hv.len;have e4:=hv.last;have e5:=hv.zrs.last;refine ask_fr sA ho hv.ok hv.rel (by omega) hx hn (by omega) (by omega) λh' s' k1 o1 n1 l1 r1=>hq h' s' ?_ o1 l1;have g:=ask_good hv.zrs w names;exact⟨k1,r1,g.1,ask_apart hv.apart w names,by omega,by omega,ask_small hv.small w names⟩
theorem zmw.free(sF:zda.Spec C N)(hv:zmw s d k n)(ho:zcy h0 h (A++s.obs)){Q:zQ}
  (hq:∀(h':zb)(s':Lk),zmw s' (zq6 d w) k n->zcy h0 h' (A++s'.obs)->s'.l=s.l->Q (.tup []) h'):C (N 488) [.ptr s.l 0 0,.int .i64 w] h Q:=by
 refine free_fr sF ho hv.ok hv.rel λh' k1 o1 r1=>hq h' _ ⟨k1,r1,free_good hv.zrs w,free_apart hv.apart w,hv.last,?_,free_small hv.small w⟩ o1 rfl;have e3:=hv.len;have sub:∀L:List DW,(delD L w).length <= L.length:=by
  intro L
  induction L with
  | nil=>exact Nat.le_refl _
  | cons q L ih=>
   unfold delD;split
   ·simp
   ·simp only[length_cons];omega
 exact Nat.le_trans (sub d.L) e3
variable{C:z6}{N:zN}
section
variable{g:Key->Option Key}{ks:Key->Prop}{E:Key->Key->Prop}
end
variable{C:z6}{N:zN}
theorem putT_at{s:Key}:∀{L:List Key}{k:Nat},(∀x∈L.take k,zhw x s=true)->k <= L.length->(∀x,L[k]?=some x->zhw x s=false)->ziw L s=if L[k]?=some s then L else L.take k++s::L.drop k
 | [],0,_,_,_=>rfl
 | [],k+1,_,h,_=>by simp at h
 | x::l,0,_,_,h=>by
  have:=h x rfl
  unfold ziw
  rw[if_neg (by rw[this];exact Bool.false_ne_true)]
  by_cases e:x=s
  ·rw[if_pos e,if_pos (by rw[e];rfl)]
  ·have h0:¬ (x::l)[0]?=some s:=λh=>e (Option.some.inj h)
   rw[if_neg e,if_neg h0];rfl
 | x::l,k+1,h1,h2,h3=>by
  have hx:=h1 x (by simp)
  unfold ziw
  rw[if_pos hx,putT_at (k:=k) (λy hy=>h1 y (by simp[hy])) (by simpa using h2) (λy hy=>h3 y hy)]
  by_cases e:l[k]?=some s
  ·rw[if_pos e,if_pos (by exact e)]
  ·rw[if_neg e,if_neg (by exact e)];rfl
end Go.Ab
