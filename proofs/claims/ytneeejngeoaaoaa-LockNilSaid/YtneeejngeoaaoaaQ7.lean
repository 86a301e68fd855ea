/- What is proved: a part of the way to the statement: SrtO. No conditions. -/
import Derived.Test.YtneeejngeoaaoaaQ6
import Derived.KernelRfl
import Derived.Test.YtneeejngeoaaoaaQ2
import Derived.Lib.Bytealg
set_option linter.unusedVariables false
set_option linter.unusedSimpArgs false
set_option maxRecDepth 100000
namespace Go.Ab.Ord
open List
open Go.Ab
structure zd3(C:z4){X:Type}(v:X->za)(c:X->X->Int)(fL:Nat)(h0:zb):Prop where
 call:∀(h:zb)(a b:X)(K:zQ),h0.le h->K (.bool (decide (c a b<0))) h->B.call C fL [v a,v b] h K
variable{C C0:z4}{fL:Nat}
variable{C C0:z4}{fL:Nat}{N:zN}
section
variable{E:z6}{X:Type}{cs:X->List za}{v:X->za}{h0 h:zb}{x:za}{G:List X}{R:List (List za)}
end
section
variable{E:z6}{T:Type}{cs:T->List za}{v:T->za}{c:T->T->Int}{h0 h:zb}{x f:za}{R:List (List za)}{Q:zQ}
theorem zlw(S:zdm E cs v)(W:zle (zd6 c)){P M U:List (T×Nat)}(hlen:(P++(M++U)).length <= 100000000)(ht:M.Pairwise λa b=>a.2<b.2)
  (hc:zd3 C0 v c fL h0) {a b:Nat} (ha:a=P.length) (hb:b=P.length+M.length) (ho:Rw E (λp:T×Nat=>cs p.1) h0 h x (P++(M++U)) R)
  (hq:∀h' M',M'.Perm M->M'.Pairwise (lt' (zd6 c))->Rw E (λp:T×Nat=>cs p.1) h0 h' x (P++(M'++U)) R->Q (.tup []) h'):
  zco.cps C E C0 fL x (.int .i64 (a:Int)) (.int .i64 (b:Int)) f h Q:=by
 have S':=S.comp (λp:T×Nat=>p.1);subst ha;have hlen':P.length+M.length+U.length <= 100000000:=by simpa[Nat.add_assoc]using hlen
 simp -dsimp only[zco.cps,zjb (show P.length<4611686018427387904 by omega),B.zh];cases M with
 | nil=>
  intro Y hY;refine hY _ _ ?_;simp -dsimp only[zco.l3,lssN,B.zh];rw[show decide (P.length+1<b)=false by simp at hb ⊢;omega,B.cond_false];exact hq h [] (List.Perm.refl _) .nil ho
 | cons m M1=>
 simp only[length_cons]at hlen' hb;rw[pairwise_cons]at ht;refine zbw.intro (λt vs hh=>∃(i:Nat)(L M2:List (T×Nat)),t=M2.length /\ vs=[.int .i64 i] /\ i=P.length+L.length /\ i+M2.length=b /\ Rw E (λp:T×Nat=>cs p.1) h0 hh x (P++(L++(M2++U))) R /\
  (L++M2).Perm (m::M1) /\ L.Pairwise (lt' (zd6 c)) /\ M2.Pairwise (λa b=>a.2<b.2) /\ ∀p∈L,∀q∈M2,p.2<q.2) M1.length ?_
  ⟨P.length+1,[m],M1,rfl,rfl,by simp,by omega,by simpa using ho,List.Perm.refl _,pairwise_singleton ..,ht.2,by simpa using ht.1⟩
 rintro Y t vs hh ⟨i,L,M2,rfl,rfl,hi,hib,o,hp,hs,ht2,htt⟩ hY;simp -dsimp only[zco.l3,lssN,B.zh];cases M2 with
 | nil=>
  rw[show decide (i<b)=false by simp at hib ⊢;omega,B.cond_false];rw[append_nil]at hp;exact hq hh L hp hs o
 | cons x0 M2=>
  simp only[length_cons]at hib;rw[show decide (i<b)=true by simp;omega,B.cond_true];rw[pairwise_cons]at ht2;have hll:P.length+(L.length+(M2.length+1))=b:=by omega
  refine zbw.intro (λt vs h2=>∃(L1 L2:List (T×Nat)),t=L1.length /\ vs=[.int .i64 ((P.length+L1.length:Nat):Int)] /\ L=L1++L2 /\ Rw E (λp:T×Nat=>cs p.1) h0 h2 x (P++(L1++x0::(L2++(M2++U)))) R /\
   ∀q∈L2,lt' (zd6 c) x0 q) L.length ?_ ⟨L,[],rfl,by rw[hi],by simp,by simpa using o,by simp⟩
  rintro Z t vs h2 ⟨L1,L2,rfl,rfl,rfl,o2,hx⟩ hZ;rw[pairwise_append]at hs;have fin:(L1=[] \/ ∃L0 y,L1=L0++[y] /\ lt' (zd6 c) y x0)->Y [.int .i64 ((i+1:Nat):Int)] h2:=λhz=>by
   have hlow:∀p∈L1,lt' (zd6 c) p x0:=by
    rcases hz with rfl|⟨L0,y,rfl,hy⟩
    ·simp
    ·intro p hpm
     rcases mem_append.1 hpm with h1|h1
     ·exact lt'_trans W ((pairwise_append.1 hs.1).2.2 p h1 y (by simp)) hy
     ·rw[mem_singleton.1 h1];exact hy
   refine hY M2.length _ _ (by simp) ⟨i+1,L1++x0::L2,M2,rfl,rfl,by simp at hi ⊢;omega,by omega,by simpa using o2,?_,?_,ht2.2,?_⟩
   ·refine List.Perm.trans ?_ hp
    simp only[append_assoc,cons_append];refine List.Perm.append_left _ ?_;exact(perm_middle (l₁:=L2) (l₂:=M2) (a:=x0)).symm
   ·rw[pairwise_append,pairwise_cons]
    refine⟨hs.1,⟨hx,hs.2.1⟩,λp h1 q h2=>?_⟩;rcases mem_cons.1 h2 with rfl|h2
    ·exact hlow p h1
    ·exact hs.2.2 p h1 q h2
   ·intro p h1 q h2
    rcases mem_append.1 h1 with h1|h1
    ·exact htt p (mem_append_left _ h1) q (mem_cons_of_mem _ h2)
    ·rcases mem_cons.1 h1 with rfl|h1
     ·exact ht2.1 q h2
     ·exact htt p (mem_append_right _ h1) q (mem_cons_of_mem _ h2)
  have hll2:i=P.length+(L1.length+L2.length):=by simpa using hi
  simp -dsimp only[zco.l2,zco.k1,gtrN,B.zh];obtain rfl|⟨L0,y,rfl⟩:=nil_or_snoc L1
  ·simp -dsimp[zjb (show i<4611686018427387904 by omega)]
   exact fin (.inl rfl)
  ·have hyx:y.2<x0.2:=htt y (by simp) x0 (by simp)
   have o2':=o2;simp only[append_assoc,cons_append,nil_append]at o2';simp only[length_append,length_singleton]at hll2 hlen' hll;have hj:P.length+(L0++[y]).length=P.length+L0.length+1:=by simp[Nat.add_assoc]
   rw[show decide (P.length<P.length+(L0++[y]).length)=true by simp];rw[hj];simp -dsimp only[B.zgk,B.gdb_pure,B.zch,gv_true,sub1 (show 1 <= P.length+L0.length+1 by omega) (by omega),Nat.add_sub_cancel,o2.idx (i:=P.length+L0.length+1) (by simp;omega),o2.idx (i:=P.length+L0.length) (by simp),B.zh];have o3:Rw E (λp:T×Nat=>cs p.1) h0 h2 x ((P++L0)++y::([]++x0::(L2++(M2++U)))) R:=by simpa using o2
   have gy:((P++L0)++y::([]++x0::(L2++(M2++U))))[P.length+L0.length]?=some y:=get_mid (by simp);have gx:((P++L0)++y::([]++x0::(L2++(M2++U))))[P.length+L0.length+1]?=some x0:=get_mid2 (by simp);refine o3.ld S' gx ?_;refine o3.ld S' gy ?_;refine hc.call _ _ _ _ o2.le ?_;simp -dsimp only[B.zgk,B.gdb_pure,B.zch,gv_true,V.ze2,B.zh,B.zfp];refine B.zb0 (λhb2=>?_) (λhb2=>?_)
   ·simp -dsimp only[sub1 (show 1 <= P.length+L0.length+1 by omega) (by omega),Nat.add_sub_cancel,o2.idx (i:=P.length+L0.length+1) (by simp;omega),o2.idx (i:=P.length+L0.length) (by simp),B.zh]
    refine o3.ld S' gy ?_;refine o3.ld S' gx ?_;refine o3.swapDn S' (by simp) (by simp) λh4 o4=>?_;refine hZ L0.length _ _ (by simp) ⟨L0,y::L2,rfl,rfl,by simp,by simpa using o4,?_⟩;intro q hq2;rcases mem_cons.1 hq2 with rfl|hq2
    ·exact(lt'_gt hyx).2 hb2
    ·exact hx q hq2
   ·simp -dsimp only[zjb (show i<4611686018427387904 by omega),B.zh]
    exact fin (.inr ⟨L0,y,rfl,(lt'_le W hyx).2 hb2⟩)
end
section
variable{E:z6}{X:Type}{cs:X->List za}{v:X->za}{h0 h:zb}{x f:za}{G:List X}{R:List (List za)}{c:X->X->Int}
theorem zk7(S:zdm E cs v)(hx:SlX h0 E.es x (G.map cs) R)(hc:zd3 C0 v c fL h0){p:za}{n:Int}(ho:zda h0 h [.box p [.int .i64 n]]){i j:Nat}(hi:i<G.length)(hj:j<G.length){Q:zQ}
  (hq:∀(i' j':Nat) (n':Int) h',(i'=i \/ i'=j)->(j'=i \/ j'=j)->zda h0 h' [.box p [.int .i64 n']]->Q (.tup [.int .i64 (i':Int),.int .i64 (j':Int)]) h'):zep.cps C E C0 fL x (.int .i64 (i:Int)) (.int .i64 (j:Int)) p f h Q:=by
 have hxx:=hx.mono ho.le;have ii:V.zdd E.es x (.int .i64 (i:Int))=some (elp E.es x i 0):=hxx.idxN (by simpa using hi);have ij:V.zdd E.es x (.int .i64 (j:Int))=some (elp E.es x j 0):=hxx.idxN (by simpa using hj);have gi:(G.map cs)[i]?=some (cs G[i]):=by rw[getElem?_map,getElem?_eq_getElem hi];rfl
 have gj:(G.map cs)[j]?=some (cs G[j]):=by rw[getElem?_map,getElem?_eq_getElem hj];rfl
 obtain⟨id,rfl,hb⟩:=ho.boxAt 0 rfl;have ld:A.ldv h (.ptr id 0 0)=some (.int .i64 n):=by rw[ldv_at hb];rfl
 simp -dsimp only[zep.cps,zep.k1,ij,B.zh];refine S.ld hxx gj ?_;simp -dsimp only[ii,B.zh];refine S.ld hxx gi ?_;refine hc.call _ _ _ _ ho.le ?_;refine B.zb0 (λhd=>?_) (λhd=>?_)
 ·simp -dsimp only[B.zdf,B.zez,ld,V.bin_add,B.zh]
  refine ho.boxSt 0 (off:=0) rfl rfl (by simp) λh2 o2 _=>?_;exact hq j i _ h2 (.inr rfl) (.inl rfl) (by simpa using o2)
 ·exact hq i j n h (.inl rfl) (.inr rfl) ho
abbrev O2I(C:z4)(E:z6)(C0:z4)(fL:Nat)(f1:Nat):Prop:=∀(v0 v1 v2 v3 v4:za)(h:zb)(Q:zQ),zep.cps C E C0 fL v0 v1 v2 v3 v4 h (dn Q)->C f1 [v0,v1,v2,v3,v4] h Q
abbrev MedI(C:z4)(E:z6)(C0:z4)(fL:Nat)(f1 f2:Nat):Prop:=∀(v0 v1 v2 v3 v4 v5:za)(h:zb)(Q:zQ),zeq.cps C E C0 fL f1 v0 v1 v2 v3 v4 v5 h (dn Q)->C f2 [v0,v1,v2,v3,v4,v5] h Q
abbrev AdjI(C:z4)(E:z6)(C0:z4)(fL:Nat)(f2 f3:Nat):Prop:=∀(v0 v1 v2 v3:za)(h:zb)(Q:zQ),zdo.cps C E C0 fL f2 v0 v1 v2 v3 h (dn Q)->C f3 [v0,v1,v2,v3] h Q
theorem zla{f1:Nat}(io:O2I C E C0 fL f1)(S:zdm E cs v)(hx:SlX h0 E.es x (G.map cs) R)(hc:zd3 C0 v c fL h0){p:za}{n:Int}(ho:zda h0 h [.box p [.int .i64 n]]){i j k:Nat}(hi:i<G.length)(hj:j<G.length)(hk:k<G.length){Q:zQ}
  (hq:∀(m:Nat) (n':Int) h',(m=i \/ m=j \/ m=k)->zda h0 h' [.box p [.int .i64 n']]->Q (.int .i64 (m:Int)) h'):zeq.cps C E C0 fL f1 x (.int .i64 (i:Int)) (.int .i64 (j:Int)) (.int .i64 (k:Int)) p f h Q:=by
 simp -dsimp only[zeq.cps,zeq.k1];refine io _ _ _ _ _ _ _ (zk7 S hx hc ho hi hj λa b n1 h1 ha hb o1=>zck ?_);simp -dsimp only[V.zfy,getElem?_cons_zero,getElem?_cons_succ,B.zh];have la:a<G.length:=by rcases ha with rfl|rfl<;>assumption
 have lb:b<G.length:=by rcases hb with rfl|rfl<;>assumption
 refine io _ _ _ _ _ _ _ (zk7 S hx hc o1 lb hk λa2 b2 n2 h2 ha2 hb2 o2=>zck ?_);simp -dsimp only[V.zfy,getElem?_cons_zero,getElem?_cons_succ,B.zh];have la2:a2<G.length:=by rcases ha2 with rfl|rfl<;>assumption
 refine io _ _ _ _ _ _ _ (zk7 S hx hc o2 la la2 λa3 b3 n3 h3 ha3 hb3 o3=>zck ?_);simp -dsimp only[V.zfy,getElem?_cons_zero,getElem?_cons_succ,B.zh];refine hq b3 n3 h3 ?_ o3;omega
theorem zfw{f1 f2:Nat}(io:O2I C E C0 fL f1)(im:MedI C E C0 fL f1 f2)(S:zdm E cs v)(hx:SlX h0 E.es x (G.map cs) R)(hc:zd3 C0 v c fL h0){p:za}{n:Int}(ho:zda h0 h [.box p [.int .i64 n]]){i:Nat}(hi:0<i)(hi2:i+1<G.length)(hl:G.length<4611686018427387904){Q:zQ}
  (hq:∀(m:Nat) (n':Int) h',i-1 <= m->m <= i+1->zda h0 h' [.box p [.int .i64 n']]->Q (.int .i64 (m:Int)) h'):zdo.cps C E C0 fL f2 x (.int .i64 (i:Int)) p f h Q:=by
 have e1:V.bin .sub (.int .i64 (i:Int)) (.int .i64 1)=some (.int .i64 ((i-1:Nat):Int)):=by
  rw[V.zi3,wrap_i64 (by omega) (by omega)];congr 2;omega
 simp -dsimp only[zdo.cps,zdo.k1,e1,zjb (show i<4611686018427387904 by omega),B.zh];exact im _ _ _ _ _ _ _ _ (zla io S hx hc ho (by omega) (by omega) hi2 λm n' h' hm o'=>zck (hq m n' h' (by omega) (by omega) o'))
theorem zl8(S:zdm E cs v)(hl:G.length<4611686018427387904)(ho:Rw E cs h0 h x G R){a b:Nat}(hab:a<b)(hb:b <= G.length){Q:zQ}(hq:∀h' G',zc2 a b G G'->Rw E cs h0 h' x G' R->Q (.tup []) h'):
  zdg.cps C E C0 fL x (.int .i64 (a:Int)) (.int .i64 (b:Int)) f h Q:=by
 have e1:V.bin .sub (.int .i64 (b:Int)) (.int .i64 1)=some (.int .i64 ((b-1:Nat):Int)):=by
  rw[V.zi3,wrap_i64 (by omega) (by omega)];congr 2;omega
 simp -dsimp only[zdg.cps,e1,B.zh];refine zbw.intro (λt vs hh=>∃(i j:Nat)(G':List X),t=j /\ vs=[.int .i64 (i:Int),.int .i64 (j:Int)] /\ a <= i /\ j<b /\ zc2 a b G G' /\ Rw E cs h0 hh x G' R) (b-1) ?_ ⟨a,b-1,G,rfl,rfl,Nat.le_refl _,by omega,zc2.refl _ _ _,ho⟩;rintro Y j vs hh ⟨i,_,G',rfl,rfl,hi,hj,W,o⟩ hY;simp -dsimp only[zdg.l2,zdg.k1,lssN,B.zh];have hlen:=W.len;refine B.zb0 (λhc=>?_) (λhc=>hq hh G' W o);rw[decide_eq_true_eq]at hc;have li:i<G'.length:=by omega
 have lj:j<G'.length:=by omega
 simp -dsimp only[o.idx lj,B.zh];refine o.ld S (getElem?_eq_getElem lj) ?_;simp -dsimp only[o.idx li,B.zh];refine o.ld S (getElem?_eq_getElem li) ?_;have ij:=o.idx lj;refine o.st S (t:=G'[j]) li λh1 o1=>?_;simp -dsimp only[ij,B.zh];refine o1.st S (t:=G'[i]) (by simpa using lj) λh2 o2=>?_;have e2:V.bin .sub (.int .i64 (j:Int)) (.int .i64 1)=some (.int .i64 ((j-1:Nat):Int)):=by
  rw[V.zi3,wrap_i64 (by omega) (by omega)];congr 2;omega
 simp -dsimp only[zjb (show i<4611686018427387904 by omega),e2,B.zh];exact hY (j-1) _ _ (by omega) ⟨i+1,j-1,_,rfl,rfl,by omega,by omega,W.trans (zed li lj hi (by omega) (by omega) hj),o2⟩
theorem zna{f1 f2 f3:Nat}(io:O2I C E C0 fL f1)(im:MedI C E C0 fL f1 f2)(ia:AdjI C E C0 fL f2 f3)(S:zdm E cs v)(hx:SlX h E.es x (G.map cs) R)(h0le:h0.le h)(hc:zd3 C0 v c fL h0)(hl:G.length <= 100000000){a b:Nat}(hab:a+8 <= b)(hb:b <= G.length){Q:zQ}
  (hq:∀(m:Nat) (hint:Int) h',a <= m->m<b->h.le h'->Q (.tup [.int .i64 (m:Int),.int .i64 hint]) h'):z3.cps C E C0 fL f2 f3 x (.int .i64 (a:Int)) (.int .i64 (b:Int)) f h Q:=by
 have e1:=zia (a:=b) (b:=a) (by omega) (by omega);simp -dsimp only[z3.cps,e1,B.zh];intro id hid;have o:=(zda.start h).zmt hid [.int .i64 0];simp only[nil_append]at o;have q4:=quo4 (a:=b-a) (by omega);have m1:=mulN (a:=(b-a) / 4) (b:=1) (by omega);have m2:=mulN (a:=(b-a) / 4) (b:=2) (by omega);have m3:=mulN (a:=(b-a) / 4) (b:=3) (by omega);have a1:=zos (a:=a) (b:=(b-a) / 4*1) (by omega);have a2:=zos (a:=a) (b:=(b-a) / 4*2) (by omega);have a3:=zos (a:=a) (b:=(b-a) / 4*3) (by omega);have g8:V.bin .geq (.int .i64 ((b-a:Nat):Int)) (.int .i64 8)=some (.bool true):=by rw[V.zmi,decide_eq_true (by omega)]
 have hc':zd3 C0 v c fL h:=⟨λh2 s t K hle hk=>hc.call h2 s t K (zb.le_trans h0le hle) hk⟩;simp -dsimp only[z3.k6,z3.k5,z3.k4,z3.k3,q4,B.zh];have m1':V.bin .mul (.int .i64 (((b-a) / 4:Nat):Int)) (.int .i64 1)=some (.int .i64 (((b-a) / 4*1:Nat):Int)):=m1;have m2':V.bin .mul (.int .i64 (((b-a) / 4:Nat):Int)) (.int .i64 2)=some (.int .i64 (((b-a) / 4*2:Nat):Int)):=m2;have m3':V.bin .mul (.int .i64 (((b-a) / 4:Nat):Int)) (.int .i64 3)=some (.int .i64 (((b-a) / 4*3:Nat):Int)):=m3;simp -dsimp only[q4,m1',m2',m3',a1,a2,a3,g8,B.cond_true,z3.k5,z3.k4,z3.k3,z3.k2,B.zh];have fin:∀(m:Nat) (n':Int) h',a <= m->m<b->zda h h' [.box (.ptr id 0 0) [.int .i64 n']]->z3.k1 C E C0 fL f2 f3 Q (.ptr id 0 0) (.int .i64 (m:Int)) h':=λm n' h' k1 k2 o'=>by
  obtain⟨id',e,hb'⟩:=o'.boxAt 0 rfl;cases e;have ld:A.ldv h' (.ptr id 0 0)=some (.int .i64 n'):=by rw[ldv_at hb'];rfl
  simp -dsimp only[z3.k1,B.zez,ld,V.zi4,B.zh];refine B.zb0 (λ_=>hq m _ h' k1 k2 o'.le) (λ_=>?_);refine B.zb0 (λ_=>hq m _ h' k1 k2 o'.le) (λ_=>hq m _ h' k1 k2 o'.le)
 have g50:V.bin .geq (.int .i64 ((b-a:Nat):Int)) (.int .i64 50)=some (.bool (decide (50 <= b-a))):=geqN (b:=50);simp -dsimp only[g50,B.zh];refine B.zb0 (λhd=>?_) (λhd=>?_)
 ·rw[decide_eq_true_eq]at hd
  refine ia _ _ _ _ _ _ (zfw io im S hx hc' o (by omega) (by omega) (by omega) λi n1 h1 i1 i2 o1=>zck ?_);refine ia _ _ _ _ _ _ (zfw io im S hx hc' o1 (by omega) (by omega) (by omega) λj n2 h2 j1 j2 o2=>zck ?_);refine ia _ _ _ _ _ _ (zfw io im S hx hc' o2 (by omega) (by omega) (by omega) λk n3 h3 k1 k2 o3=>zck ?_);refine im _ _ _ _ _ _ _ _ (zla io S hx hc' o3 (by omega) (by omega) (by omega) λm n4 h4 hm o4=>zck ?_);exact fin m n4 h4 (by omega) (by omega) o4
 ·refine im _ _ _ _ _ _ _ _ (zla io S hx hc' o (by omega) (by omega) (by omega) λm n4 h4 hm o4=>zck ?_)
  exact fin m n4 h4 (by omega) (by omega) o4
end
section
variable{E:z6}{X:Type}{cs:X->List za}{v:X->za}{h0 h:zb}{x f:za}{G:List X}{R:List (List za)}{c:X->X->Int}{Q:zQ}{Y1:zL}{a b i j:Nat}
theorem part_j(S:zdm E cs v)(hc:zd3 C0 v c fL h0)(ho:Rw E cs h0 h x G R)(hl:G.length<4611686018427387904)(hab:a<b)(p:zo7 c a b G i j)(hi0:j<i \/ ∀(h1:i<G.length)(h2:a<G.length),¬ c G[i] G[a]<0)
  (done:∀h' j',zo7 c a b G i j'->j'<i->Rw E cs h0 h' x G R->zk.k1 C E C0 fL Q x (.int .i64 (a:Int)) (.int .i64 (j':Int)) h')
  (next:∀h' j' (hi:i<G.length) (hj:j'<G.length) ,zo7 c a b (swp G i j' hi hj) (i+1) (j'-1)->i<j'->j'<b->Rw E cs h0 h' x (swp G i j' hi hj) R->Y1 [.int .i64 ((i+1:Nat):Int),.int .i64 ((j'-1:Nat):Int)] h'):
  zbw (zk.l4 C E C0 fL Q Y1 x (.int .i64 (a:Int)) f (.int .i64 (i:Int))) [.int .i64 (j:Int)] h:=by
 refine zbw.intro (λt vs hh=>hh=h /\ ∃j':Nat,t=j' /\ vs=[.int .i64 (j':Int)] /\ zo7 c a b G i j' /\ (j'<i \/ ∀(h1:i<G.length)(h2:a<G.length),¬ c G[i] G[a]<0)) j ?_ ⟨rfl,j,rfl,rfl,p,hi0⟩;rintro Y j' vs hh ⟨rfl,_,rfl,rfl,p,hi0⟩ hY;have k1:=p.hi;have k2:=p.hij;have k3:=p.hj;have k4:=p.hb;have la:a<G.length:=by omega
 have lj:j'<G.length:=by omega
 simp -dsimp only[zk.l4,zk.k3,leqN,B.zh];by_cases hle:i <= j'
 ·have li:i<G.length:=by omega
  simp -dsimp only[hle,decide_true,B.zgk,B.zch,ho.idx lj,ho.idx la,B.zh];refine ho.ld S (getElem?_eq_getElem lj) ?_;refine ho.ld S (getElem?_eq_getElem la) ?_;refine hc.call _ _ _ _ ho.le ?_;simp -dsimp only[hle,decide_true,B.zgk,B.zch,V.ze2,V.ze3,B.zfp,B.zh];refine B.zb0 (λhd=>?_) (λhd=>?_)
  ·have hd':¬ c G[j'] G[a]<0:=by simpa using hd
   have e1:=zia (a:=j') (b:=1) (by omega) (by omega);have e1':V.bin .sub (.int .i64 (j':Int)) (.int .i64 1)=some (.int .i64 ((j'-1:Nat):Int)):=e1;simp -dsimp only[e1',B.zh];refine hY (j'-1) _ _ (by omega) ⟨rfl,j'-1,rfl,rfl,⟨k4,k1,by omega,by omega,p.lo,λk hk ha q1 q2=>?_⟩,?_⟩
   ·by_cases e:k=j'
    ·subst e;exact hd'
    ·exact p.hi2 k hk ha (by omega) q2
   ·rcases hi0 with h|h
    ·omega
    ·exact .inr h
  ·have hd':c G[j'] G[a]<0:=by simpa using hd
   have hni:¬ c G[i] G[a]<0:=by
    rcases hi0 with h|h
    ·omega
    ·exact h li la
   simp -dsimp only[zk.k2,gtrN,show ¬ j'<i by omega,decide_false,B.cond_false,ho.idx lj,ho.idx li,B.zh];refine ho.ld S (getElem?_eq_getElem lj) ?_;refine ho.ld S (getElem?_eq_getElem li) ?_;refine ho.st S (t:=G[j']) li λh1 o1=>?_;refine o1.st S (t:=G[i]) (by simpa using lj) λh2 o2=>?_;have e1':V.bin .sub (.int .i64 (j':Int)) (.int .i64 1)=some (.int .i64 ((j'-1:Nat):Int)):=zia (a:=j') (b:=1) (by omega) (by omega);simp -dsimp only[zjb (show i<4611686018427387904 by omega),e1',B.zh];have hne:i≠j':=λe=>by subst e;exact hni hd'
   exact next h2 j' li lj (p.swap hle li lj la hni hd') (by omega) k3 o2
 ·simp -dsimp only[hle,decide_false,B.zgk,B.ze0,B.zf0,B.cond_false,zk.k2,gtrN,show j'<i by omega,decide_true,B.cond_true,B.zh]
  exact done hh j' p (by omega) ho
theorem part_i(S:zdm E cs v)(hc:zd3 C0 v c fL h0)(ho:Rw E cs h0 h x G R)(hl:G.length<4611686018427387904)(hab:a<b)(p:zo7 c a b G i j)
  (done:∀h' i' j',zo7 c a b G i' j'->j'<i'->Rw E cs h0 h' x G R->zk.k1 C E C0 fL Q x (.int .i64 (a:Int)) (.int .i64 (j':Int)) h')
  (next:∀h' i' j' (hi:i'<G.length) (hj:j'<G.length),zo7 c a b (swp G i' j' hi hj) (i'+1) (j'-1)->a<i'->i <= i'->i'<j'->j'<b->Rw E cs h0 h' x (swp G i' j' hi hj) R->Y1 [.int .i64 ((i'+1:Nat):Int),.int .i64 ((j'-1:Nat):Int)] h'):
  zbw (zk.l6 C E C0 fL Q Y1 x (.int .i64 (a:Int)) f (.int .i64 (j:Int))) [.int .i64 (i:Int)] h:=by
 refine zbw.intro (λt vs hh=>hh=h /\ ∃i':Nat,i'+t=b /\ i <= i' /\ vs=[.int .i64 (i':Int)] /\ zo7 c a b G i' j) (b-i) ?_ ⟨rfl,i,by have:=p.hij;have:=p.hj;omega,Nat.le_refl _,rfl,p⟩;rintro Y t vs hh ⟨rfl,i',hit,hii,rfl,p⟩ hY;have k1:=p.hi;have k2:=p.hij;have k3:=p.hj;have k4:=p.hb;have la:a<G.length:=by omega
 simp -dsimp only[zk.l6,zk.k5,leqN,B.zh];by_cases hle:i' <= j
 ·have li:i'<G.length:=by omega
  simp -dsimp only[hle,decide_true,B.zgk,B.zch,ho.idx li,ho.idx la,B.zh];refine ho.ld S (getElem?_eq_getElem li) ?_;refine ho.ld S (getElem?_eq_getElem la) ?_;refine hc.call _ _ _ _ ho.le ?_;simp -dsimp only[hle,decide_true,B.zgk,B.zch,V.ze2,B.zfp,B.zh];refine B.zb0 (λhd=>?_) (λhd=>?_)
  ·have hd':c G[i'] G[a]<0:=by simpa using hd
   simp -dsimp only[zjb (show i'<4611686018427387904 by omega),B.zh];refine hY (b-(i'+1)) _ _ (by omega) ⟨rfl,i'+1,by omega,by omega,rfl,⟨k4,by omega,k3,by omega,λk hk ha q1 q2=>?_,p.hi2⟩⟩;by_cases e:k=i'
   ·subst e;exact hd'
   ·exact p.lo k hk ha q1 (by omega)
  ·have hd':¬ c G[i'] G[a]<0:=by simpa using hd
   exact part_j S hc ho hl hab p (.inr λ_ _=>hd') (λh' j' p' hlt o'=>done h' i' j' p' hlt o') λh' j' hi hj p' h1 h2 o'=>next h' i' j' hi hj p' k1 hii h1 h2 o'
 ·simp -dsimp only[hle,decide_false,B.zgk,B.ze0,B.zf0,B.cond_false]
  exact part_j S hc ho hl hab p (.inl (by omega)) (λh' j' p' hlt o'=>done h' i' j' p' hlt o') λh' j' hi hj p' h1 h2 o'=>next h' i' j' hi hj p' k1 hii h1 h2 o'
theorem part_end(S:zdm E cs v)(ho:Rw E cs h0 h x G R)(hab:a<b)(p:zo7 c a b G i j)(hlt:j<i)(hq:∀h' m G',zh1 c a b m G'->zc2 a b G G'->Rw E cs h0 h' x G' R->Q (.tup [.int .i64 (m:Int),.bool false]) h'):
  zk.k1 C E C0 fL Q x (.int .i64 (a:Int)) (.int .i64 (j:Int)) h:=by
 have k1:=p.hi;have k2:=p.hij;have k3:=p.hj;have k4:=p.hb;have la:a<G.length:=by omega
 have lj:j<G.length:=by omega
 simp -dsimp only[zk.k1,ho.idx lj,ho.idx la,B.zh];refine ho.ld S (getElem?_eq_getElem la) ?_;refine ho.ld S (getElem?_eq_getElem lj) ?_;refine ho.st S (t:=G[a]) lj λh1 o1=>?_;refine o1.st S (t:=G[j]) (by simpa using la) λh2 o2=>?_;exact hq h2 j _ (p.done hab hlt lj la) (zed lj la (by omega) k3 (Nat.le_refl _) hab) o2
theorem part_main(S:zdm E cs v)(hc:zd3 C0 v c fL h0)(ho:Rw E cs h0 h x G R)(hl:G.length<4611686018427387904)(hab:a<b)(p:zo7 c a b G i j)
  (hq:∀h' m G',zh1 c a b m G'->zc2 a b G G'->Rw E cs h0 h' x G' R->Q (.tup [.int .i64 (m:Int),.bool false]) h'):
  zbw (zk.l7 C E C0 fL Q x (.int .i64 (a:Int)) f) [.int .i64 (i:Int),.int .i64 (j:Int)] h:=by
 refine zbw.intro (λt vs hh=>∃(i' j':Nat)(G':List X),i'+t=b /\ vs=[.int .i64 (i':Int),.int .i64 (j':Int)] /\ zc2 a b G G' /\ zo7 c a b G' i' j' /\ Rw E cs h0 hh x G' R) (b-i) ?_ ⟨i,j,G,by have:=p.hij;have:=p.hj;omega,rfl,zc2.refl _ _ _,p,ho⟩;rintro Y t vs hh ⟨i',j',G',hit,rfl,W,p,o⟩ hY;have hlen:=W.len;simp -dsimp only[zk.l7];refine part_i S hc o (by omega) hab p (λh' i2 j2 p2 hlt o2=>part_end S o2 hab p2 hlt λh3 m G3 P3 W3 o3=>hq h3 m G3 P3 (W.trans W3) o3) λh' i2 j2 hi hj p2 h1 h2 h3 h4 o2=>?_;exact hY (b-(i2+1)) _ _ (by omega) ⟨i2+1,j2-1,_,by omega,rfl,W.trans (zed hi hj (by omega) (by omega) (by omega) h4),p2,o2⟩
end
section
variable{E:z6}{X:Type}{cs:X->List za}{v:X->za}{h0 h:zb}{x f:za}{G:List X}{R:List (List za)}{c:X->X->Int}{Q:zQ}{a b i j:Nat}
theorem part_k10(S:zdm E cs v)(hc:zd3 C0 v c fL h0)(ho:Rw E cs h0 h x G R)(hl:G.length<4611686018427387904)(hab:a<b)(p:zo7 c a b G i j)
  (hd:j<i \/ ∃(h1:i<G.length)(h2:a<G.length)(h3:j<G.length),i <= j /\ ¬ c G[i] G[a]<0 /\ c G[j] G[a]<0) (hq:PartQ E cs h0 x c a b R G Q):
  zk.k10 C E C0 fL Q x (.int .i64 (a:Int)) f (.int .i64 (i:Int)) (.int .i64 (j:Int)) h:=by
 have k1:=p.hi;have k2:=p.hij;have k3:=p.hj;have k4:=p.hb;have la:a<G.length:=by omega
 have lj:j<G.length:=by omega
 rcases hd with hlt|⟨li,_,_,hle,n1,n2⟩
 ·simp -dsimp only[zk.k10,gtrN,hlt,decide_true,B.cond_true,ho.idx lj,ho.idx la,B.zh]
  refine ho.ld S (getElem?_eq_getElem la) ?_;refine ho.ld S (getElem?_eq_getElem lj) ?_;refine ho.st S (t:=G[a]) lj λh1 o1=>?_;refine o1.st S (t:=G[j]) (by simpa using la) λh2 o2=>?_;exact hq h2 j _ true (p.done hab hlt lj la) (zed lj la (by omega) k3 (Nat.le_refl _) hab) o2
 ·simp -dsimp only[zk.k10,zk.k9,gtrN,show ¬ j<i by omega,decide_false,B.cond_false,ho.idx lj,ho.idx li,B.zh]
  refine ho.ld S (getElem?_eq_getElem lj) ?_;refine ho.ld S (getElem?_eq_getElem li) ?_;refine ho.st S (t:=G[j]) li λh1 o1=>?_;refine o1.st S (t:=G[i]) (by simpa using lj) λh2 o2=>?_;have hne:i≠j:=λe=>by subst e;exact n1 n2
  have e1':V.bin .sub (.int .i64 (j:Int)) (.int .i64 1)=some (.int .i64 ((j-1:Nat):Int)):=zia (a:=j) (b:=1) (by omega) (by omega);simp -dsimp only[zk.k8,zjb (show i<4611686018427387904 by omega),e1',B.zh];have W:=zed li lj (by omega) (by omega) (by omega:a <= j) k3;exact part_main S hc (G:=swp G i j li lj) o2 (by rw[zh3 li lj];omega) hab (p.swap hle li lj la n1 n2) λh' m G' P' W' o'=>hq h' m G' false P' (W.trans W') o'
theorem part_j1(S:zdm E cs v)(hc:zd3 C0 v c fL h0)(ho:Rw E cs h0 h x G R)(hl:G.length<4611686018427387904)(hab:a<b)(p:zo7 c a b G i j)(hi0:j<i \/ ∀(h1:i<G.length)(h2:a<G.length),¬ c G[i] G[a]<0)(hq:PartQ E cs h0 x c a b R G Q):
  zbw (zk.l12 C E C0 fL Q x (.int .i64 (a:Int)) f (.int .i64 (i:Int))) [.int .i64 (j:Int)] h:=by
 refine zbw.intro (λt vs hh=>hh=h /\ ∃j':Nat,t=j' /\ vs=[.int .i64 (j':Int)] /\ zo7 c a b G i j' /\ (j'<i \/ ∀(h1:i<G.length)(h2:a<G.length),¬ c G[i] G[a]<0)) j ?_ ⟨rfl,j,rfl,rfl,p,hi0⟩;rintro Y j' vs hh ⟨rfl,_,rfl,rfl,p,hi0⟩ hY;have k1:=p.hi;have k2:=p.hij;have k3:=p.hj;have k4:=p.hb;have la:a<G.length:=by omega
 have lj:j'<G.length:=by omega
 simp -dsimp only[zk.l12,zk.k11,leqN,B.zh];by_cases hle:i <= j'
 ·have li:i<G.length:=by omega
  simp -dsimp only[hle,decide_true,B.zgk,B.zch,ho.idx lj,ho.idx la,B.zh];refine ho.ld S (getElem?_eq_getElem lj) ?_;refine ho.ld S (getElem?_eq_getElem la) ?_;refine hc.call _ _ _ _ ho.le ?_;simp -dsimp only[hle,decide_true,B.zgk,B.zch,V.ze2,V.ze3,B.zfp,B.zh];refine B.zb0 (λhd=>?_) (λhd=>?_)
  ·have hd':¬ c G[j'] G[a]<0:=by simpa using hd
   have e1':V.bin .sub (.int .i64 (j':Int)) (.int .i64 1)=some (.int .i64 ((j'-1:Nat):Int)):=zia (a:=j') (b:=1) (by omega) (by omega);simp -dsimp only[e1',B.zh];refine hY (j'-1) _ _ (by omega) ⟨rfl,j'-1,rfl,rfl,⟨k4,k1,by omega,by omega,p.lo,λk hk ha q1 q2=>?_⟩,?_⟩
   ·by_cases e:k=j'
    ·subst e;exact hd'
    ·exact p.hi2 k hk ha (by omega) q2
   ·rcases hi0 with h|h
    ·omega
    ·exact .inr h
  ·have hd':c G[j'] G[a]<0:=by simpa using hd
   have hni:¬ c G[i] G[a]<0:=by
    rcases hi0 with h|h
    ·omega
    ·exact h li la
   exact part_k10 S hc ho hl hab p (.inr ⟨li,la,lj,hle,hni,hd'⟩) hq
 ·simp -dsimp only[hle,decide_false,B.zgk,B.ze0,B.zf0,B.cond_false]
  exact part_k10 S hc ho hl hab p (.inl (by omega)) hq
theorem part_i1(S:zdm E cs v)(hc:zd3 C0 v c fL h0)(ho:Rw E cs h0 h x G R)(hl:G.length<4611686018427387904)(hab:a<b)(p:zo7 c a b G i j)(hq:PartQ E cs h0 x c a b R G Q):
  zbw (zk.l14 C E C0 fL Q x (.int .i64 (a:Int)) f (.int .i64 (j:Int))) [.int .i64 (i:Int)] h:=by
 refine zbw.intro (λt vs hh=>hh=h /\ ∃i':Nat,i'+t=b /\ vs=[.int .i64 (i':Int)] /\ zo7 c a b G i' j) (b-i) ?_ ⟨rfl,i,by have:=p.hij;have:=p.hj;omega,rfl,p⟩;rintro Y t vs hh ⟨rfl,i',hit,rfl,p⟩ hY;have k1:=p.hi;have k2:=p.hij;have k3:=p.hj;have k4:=p.hb;have la:a<G.length:=by omega
 simp -dsimp only[zk.l14,zk.k13,leqN,B.zh];by_cases hle:i' <= j
 ·have li:i'<G.length:=by omega
  simp -dsimp only[hle,decide_true,B.zgk,B.zch,ho.idx li,ho.idx la,B.zh];refine ho.ld S (getElem?_eq_getElem li) ?_;refine ho.ld S (getElem?_eq_getElem la) ?_;refine hc.call _ _ _ _ ho.le ?_;simp -dsimp only[hle,decide_true,B.zgk,B.zch,V.ze2,B.zfp,B.zh];refine B.zb0 (λhd=>?_) (λhd=>?_)
  ·have hd':c G[i'] G[a]<0:=by simpa using hd
   simp -dsimp only[zjb (show i'<4611686018427387904 by omega),B.zh];refine hY (b-(i'+1)) _ _ (by omega) ⟨rfl,i'+1,by omega,rfl,⟨k4,by omega,k3,by omega,λk hk ha q1 q2=>?_,p.hi2⟩⟩;by_cases e:k=i'
   ·subst e;exact hd'
   ·exact p.lo k hk ha q1 (by omega)
  ·have hd':¬ c G[i'] G[a]<0:=by simpa using hd
   exact part_j1 S hc ho hl hab p (.inr λ_ _=>hd') hq
 ·simp -dsimp only[hle,decide_false,B.zgk,B.ze0,B.zf0,B.cond_false]
  exact part_j1 S hc ho hl hab p (.inl (by omega)) hq
theorem zoz(S:zdm E cs v)(hc:zd3 C0 v c fL h0)(ho:Rw E cs h0 h x G R)(hl:G.length<4611686018427387904){pv:Nat}(hp1:a <= pv)(hp2:pv<b)(hb:b <= G.length)(hq:PartQ E cs h0 x c a b R G Q):
  zk.cps C E C0 fL x (.int .i64 (a:Int)) (.int .i64 (b:Int)) (.int .i64 (pv:Int)) f h Q:=by
 have la:a<G.length:=by omega
 have lp:pv<G.length:=by omega
 simp -dsimp only[zk.cps,zk.k16,ho.idx lp,ho.idx la,B.zh];refine ho.ld S (getElem?_eq_getElem lp) ?_;refine ho.ld S (getElem?_eq_getElem la) ?_;refine ho.st S (t:=G[pv]) la λh1 o1=>?_;refine o1.st S (t:=G[a]) (by simpa using lp) λh2 o2=>?_;have e1':V.bin .sub (.int .i64 (b:Int)) (.int .i64 1)=some (.int .i64 ((b-1:Nat):Int)):=zia (a:=b) (b:=1) (by omega) (by omega);simp -dsimp only[zk.k15,zjb (show a<4611686018427387904 by omega),e1',B.zh];have W:=zed la lp (Nat.le_refl _) (by omega) hp1 hp2;have hsl:=zh3 la lp;refine part_i1 S hc (G:=swp G a pv la lp) o2 (by omega) (by omega) ⟨by omega,by omega,by omega,by omega,λk _ _ q1 q2=>by omega,λk _ _ q1 q2=>by omega⟩ λh' m G' t P' W' o'=>hq h' m G' t P' (W.trans W') o'
end
section
variable{E:z6}{X:Type}{cs:X->List za}{v:X->za}{h0 h:zb}{x f:za}{G:List X}{R:List (List za)}{c:X->X->Int}{Q:zQ}{Y1:zL}{a b i j:Nat}
theorem eq_j(S:zdm E cs v)(hc:zd3 C0 v c fL h0)(ho:Rw E cs h0 h x G R)(hl:G.length<4611686018427387904)(hab:a<b)(p:EInv c a b G i j)(hi0:j<i \/ ∀(h1:i<G.length)(h2:a<G.length),c G[a] G[i]<0)
  (done:∀h' j',EInv c a b G i j'->j'<i->Rw E cs h0 h' x G R->Q (.int .i64 (i:Int)) h')
  (next:∀h' j' (hi:i<G.length) (hj:j'<G.length),EInv c a b (swp G i j' hi hj) (i+1) (j'-1)->i<j'->j'<b->Rw E cs h0 h' x (swp G i j' hi hj) R->Y1 [.int .i64 ((i+1:Nat):Int),.int .i64 ((j'-1:Nat):Int)] h'):
  zbw (zt.l3 C E C0 fL Q Y1 x (.int .i64 (a:Int)) f (.int .i64 (i:Int))) [.int .i64 (j:Int)] h:=by
 refine zbw.intro (λt vs hh=>hh=h /\ ∃j':Nat,t=j' /\ vs=[.int .i64 (j':Int)] /\ EInv c a b G i j' /\ (j'<i \/ ∀(h1:i<G.length)(h2:a<G.length),c G[a] G[i]<0)) j ?_ ⟨rfl,j,rfl,rfl,p,hi0⟩;rintro Y j' vs hh ⟨rfl,_,rfl,rfl,p,hi0⟩ hY;have k1:=p.hi;have k2:=p.hij;have k3:=p.hj;have k4:=p.hb;have la:a<G.length:=by omega
 have lj:j'<G.length:=by omega
 simp -dsimp only[zt.l3,zt.k2,leqN,B.zh];by_cases hle:i <= j'
 ·have li:i<G.length:=by omega
  simp -dsimp only[hle,decide_true,B.zgk,B.zch,ho.idx lj,ho.idx la,B.zh];refine ho.ld S (getElem?_eq_getElem la) ?_;refine ho.ld S (getElem?_eq_getElem lj) ?_;refine hc.call _ _ _ _ ho.le ?_;simp -dsimp only[hle,decide_true,B.zgk,B.zch,V.ze2,B.zfp,B.zh];refine B.zb0 (λhd=>?_) (λhd=>?_)
  ·have hd':c G[a] G[j']<0:=by simpa using hd
   have e1':V.bin .sub (.int .i64 (j':Int)) (.int .i64 1)=some (.int .i64 ((j'-1:Nat):Int)):=zia (a:=j') (b:=1) (by omega) (by omega);simp -dsimp only[e1',B.zh];refine hY (j'-1) _ _ (by omega) ⟨rfl,j'-1,rfl,rfl,⟨k4,k1,by omega,by omega,p.lo,λk hk ha q1 q2=>?_⟩,?_⟩
   ·by_cases e:k=j'
    ·subst e;exact hd'
    ·exact p.hi2 k hk ha (by omega) q2
   ·rcases hi0 with h|h
    ·omega
    ·exact .inr h
  ·have hd':¬ c G[a] G[j']<0:=by simpa using hd
   have hni:c G[a] G[i]<0:=by
    rcases hi0 with h|h
    ·omega
    ·exact h li la
   simp -dsimp only[zt.k1,gtrN,show ¬ j'<i by omega,decide_false,B.cond_false,ho.idx lj,ho.idx li,B.zh];refine ho.ld S (getElem?_eq_getElem lj) ?_;refine ho.ld S (getElem?_eq_getElem li) ?_;refine ho.st S (t:=G[j']) li λh1 o1=>?_;refine o1.st S (t:=G[i]) (by simpa using lj) λh2 o2=>?_;have e1':V.bin .sub (.int .i64 (j':Int)) (.int .i64 1)=some (.int .i64 ((j'-1:Nat):Int)):=zia (a:=j') (b:=1) (by omega) (by omega);simp -dsimp only[zjb (show i<4611686018427387904 by omega),e1',B.zh];have hne:i≠j':=λe=>by subst e;exact hd' hni
   exact next h2 j' li lj (p.swap hle li lj la hni hd') (by omega) k3 o2
 ·simp -dsimp only[hle,decide_false,B.zgk,B.ze0,B.zf0,B.cond_false,zt.k1,gtrN,show j'<i by omega,decide_true,B.cond_true,B.zh]
  exact done hh j' p (by omega) ho
theorem eq_i(S:zdm E cs v)(hc:zd3 C0 v c fL h0)(ho:Rw E cs h0 h x G R)(hl:G.length<4611686018427387904)(hab:a<b)(p:EInv c a b G i j)
  (done:∀h' i' j',EInv c a b G i' j'->j'<i'->Rw E cs h0 h' x G R->Q (.int .i64 (i':Int)) h')
  (next:∀h' i' j' (hi:i'<G.length) (hj:j'<G.length),EInv c a b (swp G i' j' hi hj) (i'+1) (j'-1)->a<i'->i <= i'->i'<j'->j'<b->Rw E cs h0 h' x (swp G i' j' hi hj) R->Y1 [.int .i64 ((i'+1:Nat):Int),.int .i64 ((j'-1:Nat):Int)] h'):
  zbw (zt.l5 C E C0 fL Q Y1 x (.int .i64 (a:Int)) f (.int .i64 (j:Int))) [.int .i64 (i:Int)] h:=by
 refine zbw.intro (λt vs hh=>hh=h /\ ∃i':Nat,i'+t=b /\ i <= i' /\ vs=[.int .i64 (i':Int)] /\ EInv c a b G i' j) (b-i) ?_ ⟨rfl,i,by have:=p.hij;have:=p.hj;omega,Nat.le_refl _,rfl,p⟩;rintro Y t vs hh ⟨rfl,i',hit,hii,rfl,p⟩ hY;have k1:=p.hi;have k2:=p.hij;have k3:=p.hj;have k4:=p.hb;have la:a<G.length:=by omega
 simp -dsimp only[zt.l5,zt.k4,leqN,B.zh];by_cases hle:i' <= j
 ·have li:i'<G.length:=by omega
  simp -dsimp only[hle,decide_true,B.zgk,B.zch,ho.idx li,ho.idx la,B.zh];refine ho.ld S (getElem?_eq_getElem la) ?_;refine ho.ld S (getElem?_eq_getElem li) ?_;refine hc.call _ _ _ _ ho.le ?_;simp -dsimp only[hle,decide_true,B.zgk,B.zch,V.ze2,V.ze3,B.zfp,B.zh];refine B.zb0 (λhd=>?_) (λhd=>?_)
  ·have hd':¬ c G[a] G[i']<0:=by simpa using hd
   simp -dsimp only[zjb (show i'<4611686018427387904 by omega),B.zh];refine hY (b-(i'+1)) _ _ (by omega) ⟨rfl,i'+1,by omega,by omega,rfl,⟨k4,by omega,k3,by omega,λk hk ha q1 q2=>?_,p.hi2⟩⟩;by_cases e:k=i'
   ·subst e;exact hd'
   ·exact p.lo k hk ha q1 (by omega)
  ·have hd':c G[a] G[i']<0:=by simpa using hd
   exact eq_j S hc ho hl hab p (.inr λ_ _=>hd') (λh' j' p' hlt o'=>done h' i' j' p' hlt o') λh' j' hi hj p' h1 h2 o'=>next h' i' j' hi hj p' k1 hii h1 h2 o'
 ·simp -dsimp only[hle,decide_false,B.zgk,B.ze0,B.zf0,B.cond_false]
  exact eq_j S hc ho hl hab p (.inl (by omega)) (λh' j' p' hlt o'=>done h' i' j' p' hlt o') λh' j' hi hj p' h1 h2 o'=>next h' i' j' hi hj p' k1 hii h1 h2 o'
theorem eq_main(S:zdm E cs v)(hc:zd3 C0 v c fL h0)(ho:Rw E cs h0 h x G R)(hl:G.length<4611686018427387904)(hab:a<b)(p:EInv c a b G i j)
  (hq:∀h' i' j' G',EInv c a b G' i' j'->j'<i'->zc2 (a+1) b G G'->Rw E cs h0 h' x G' R->Q (.int .i64 (i':Int)) h'):
  zbw (zt.l6 C E C0 fL Q x (.int .i64 (a:Int)) f) [.int .i64 (i:Int),.int .i64 (j:Int)] h:=by
 refine zbw.intro (λt vs hh=>∃(i' j':Nat)(G':List X),i'+t=b /\ vs=[.int .i64 (i':Int),.int .i64 (j':Int)] /\ zc2 (a+1) b G G' /\ EInv c a b G' i' j' /\ Rw E cs h0 hh x G' R) (b-i) ?_ ⟨i,j,G,by have:=p.hij;have:=p.hj;omega,rfl,zc2.refl _ _ _,p,ho⟩;rintro Y t vs hh ⟨i',j',G',hit,rfl,W,p,o⟩ hY;have hlen:=W.len;simp -dsimp only[zt.l6];refine eq_i S hc o (by omega) hab p (λh' i2 j2 p2 hlt o2=>hq h' i2 j2 G' p2 hlt W o2) λh' i2 j2 hi hj p2 h1 h2 h3 h4 o2=>?_;exact hY (b-(i2+1)) _ _ (by omega) ⟨i2+1,j2-1,_,by omega,rfl,W.trans (zed hi hj (by omega) (by omega) (by omega) h4),p2,o2⟩
theorem zk6(S:zdm E cs v)(hc:zd3 C0 v c fL h0)(ho:Rw E cs h0 h x G R)(hl:G.length<4611686018427387904){pv:Nat}(hp1:a <= pv)(hp2:pv<b)(hb:b <= G.length)
  (hq:∀h' i' j' G',EInv c a b G' i' j'->j'<i'->zc2 a b G G'->(∀(h1:a<G'.length)(h2:pv<G.length),G'[a]=G[pv])->Rw E cs h0 h' x G' R->Q (.int .i64 (i':Int)) h'):
  zt.cps C E C0 fL x (.int .i64 (a:Int)) (.int .i64 (b:Int)) (.int .i64 (pv:Int)) f h Q:=by
 have la:a<G.length:=by omega
 have lp:pv<G.length:=by omega
 simp -dsimp only[zt.cps,zt.k8,ho.idx lp,ho.idx la,B.zh];refine ho.ld S (getElem?_eq_getElem lp) ?_;refine ho.ld S (getElem?_eq_getElem la) ?_;refine ho.st S (t:=G[pv]) la λh1 o1=>?_;refine o1.st S (t:=G[a]) (by simpa using lp) λh2 o2=>?_;have e1':V.bin .sub (.int .i64 (b:Int)) (.int .i64 1)=some (.int .i64 ((b-1:Nat):Int)):=zia (a:=b) (b:=1) (by omega) (by omega);simp -dsimp only[zt.k7,zjb (show a<4611686018427387904 by omega),e1',B.zh];have W:=zed la lp (Nat.le_refl _) (by omega) hp1 hp2;have hsl:=zh3 la lp;refine eq_main S hc (G:=swp G a pv la lp) o2 (by omega) (by omega) ⟨by omega,by omega,by omega,by omega,λk _ _ q1 q2=>by omega,λk _ _ q1 q2=>by omega⟩ λh' i' j' G' p' hlt W' o'=>hq h' i' j' G' p' hlt (W.trans (W'.mono (by omega) (Nat.le_refl _))) (λh1 h2=>?_) o';rw[W'.same (.inl (by omega)) h1 (by omega),zfi la lp (by omega) la];split
 ·rename_i e;simp only[e]
 ·rw[if_pos rfl]
end
section
variable{X:Type}{c:X->X->Int}{a n lo r ch:Nat}{G:List X}
end
section
variable{E:z6}{X:Type}{cs:X->List za}{v:X->za}{h0 h:zb}{x f:za}{G:List X}{R:List (List za)}{c:X->X->Int}{Q:zQ}{Y1:zL}{a n lo r ch:Nat}
theorem sift_k1(S:zdm E cs v)(W:zle (zd6 c))(hc:zd3 C0 v c fL h0)(ho:Rw E cs h0 h x G R)(hl:G.length<1000000000)(p:SInv c a n lo r G)(hlo:lo <= r)(hch:ch<n)(hp:(ch-1) / 2=r)(hc0:0<ch)
  (hmax:∀k,0<k->k<n->(k-1) / 2=r->(h1:a+ch<G.length)->(h2:a+k<G.length)->¬ c G[a+ch] G[a+k]<0)
  (done:∀h',Heap c a n lo G->Rw E cs h0 h' x G R->Q (.tup []) h')
  (next:∀h' (hr:a+r<G.length) (hcl:a+ch<G.length),SInv c a n lo ch (swp G (a+r) (a+ch) hr hcl)->Rw E cs h0 h' x (swp G (a+r) (a+ch) hr hcl) R->Y1 [.int .i64 (ch:Int)] h'):
  zct.k1 C E C0 fL Q Y1 x (.int .i64 (n:Int)) (.int .i64 (a:Int)) f (.int .i64 (r:Int)) (.int .i64 (ch:Int)) h:=by
 have hlen:=p.len;have lr:a+r<G.length:=by omega
 have lc:a+ch<G.length:=by omega
 have ar:=zos (a:=a) (b:=r) (by omega);have ac:=zos (a:=a) (b:=ch) (by omega);simp -dsimp only[zct.k1,ar,ac,ho.idx lr,ho.idx lc,B.zh];refine ho.ld S (getElem?_eq_getElem lr) ?_;refine ho.ld S (getElem?_eq_getElem lc) ?_;refine hc.call _ _ _ _ ho.le ?_;simp -dsimp only[V.ze2,V.ze3,B.zh];refine B.zb0 (λhd=>?_) (λhd=>?_)
 ·have hd':¬ c G[a+r] G[a+ch]<0:=by simpa using hd
  refine done h (p.done λk k0 hk hkp h1 h2=>?_) ho;have:=W.zms (a:=G[a+r]) (b:=G[a+ch]) (c:=G[a+k]) (by unfold zd6;exact decide_eq_false hd') (by unfold zd6;exact decide_eq_false (hmax k k0 hk hkp lc h2));unfold zd6 at this;exact of_decide_eq_false this
 ·have hd':c G[a+r] G[a+ch]<0:=by simpa using hd
  simp -dsimp only[ar,ac,ho.idx lr,ho.idx lc,B.zh];refine ho.ld S (getElem?_eq_getElem lc) ?_;refine ho.ld S (getElem?_eq_getElem lr) ?_;refine ho.st S (t:=G[a+ch]) lr λh1 o1=>?_;refine o1.st S (t:=G[a+r]) (by simpa using lc) λh2 o2=>?_;exact next h2 lr lc (p.step W hlo hch hp hc0 lr lc hd' λk k0 hk hkp h2=>hmax k k0 hk hkp lc h2) o2
theorem zln(S:zdm E cs v)(W:zle (zd6 c))(hc:zd3 C0 v c fL h0)(ho:Rw E cs h0 h x G R)(hl:G.length<1000000000)(p:SInv c a n lo r G)(hlo:lo <= r)(hrn:r <= n){b:Nat}(hb:a+n <= b)
  (hq:∀h' G',Heap c a n lo G'->zc2 a b G G'->Rw E cs h0 h' x G' R->Q (.tup []) h'):
  zct.cps C E C0 fL x (.int .i64 (r:Int)) (.int .i64 (n:Int)) (.int .i64 (a:Int)) f h Q:=by
 simp -dsimp only[zct.cps];refine zbw.intro (λt vs hh=>∃(r':Nat)(G':List X),r'+t=n /\ vs=[.int .i64 (r':Int)] /\ lo <= r' /\ SInv c a n lo r' G' /\ zc2 a b G G' /\ Rw E cs h0 hh x G' R) (n-r) ?_ ⟨r,G,by omega,rfl,hlo,p,zc2.refl _ _ _,ho⟩;rintro Y t vs hh ⟨r',G',hrt,rfl,hlo',p',W',o⟩ hY;have hlen:=W'.len;have pl:=p'.len;have e1:V.bin .mul (.int .i64 2) (.int .i64 (r':Int))=some (.int .i64 ((2*r':Nat):Int)):=mulN (a:=2) (b:=r') (by omega);simp -dsimp only[zct.l4,zct.k3,e1,zjb (show 2*r'<4611686018427387904 by omega),geqN,B.zh];refine B.zb0 (λhd=>?_) (λhd=>?_)
 ·rw[decide_eq_true_eq]at hd
  exact hq hh G' (p'.done λk k0 hk hkp _ _=>by omega) W' o
 ·rw[decide_eq_false_iff_not]at hd
  have fin:∀ch,ch<n->(ch-1) / 2=r'->0<ch->(∀k,0<k->k<n->(k-1) / 2=r'->(h1:a+ch<G'.length)->(h2:a+k<G'.length)->¬ c G'[a+ch] G'[a+k]<0)->zct.k1 C E C0 fL Q Y x (.int .i64 (n:Int)) (.int .i64 (a:Int)) f (.int .i64 (r':Int)) (.int .i64 (ch:Int)) hh:=λch c1 c2 c3 c4=>
   sift_k1 S W hc o (by omega) p' hlo' c1 c2 c3 c4 (λh' hp o'=>hq h' G' hp W' o') λh' hr hcl p2 o2=>hY (n-ch) _ _ (by omega) ⟨ch,_,by omega,rfl,by omega,p2,W'.trans (zed hr hcl (by omega) (by omega) (by omega) (by omega)),o2⟩
  have irr:∀t:X,¬ c t t<0:=λt=>by
   have:=W.irr t;unfold zd6 at this;exact of_decide_eq_false this
  have a1:=zos (a:=a) (b:=2*r'+1) (by omega);simp -dsimp only[zct.k2,zjb (show 2*r'+1<4611686018427387904 by omega),lssN,B.zh];by_cases h2:2*r'+1+1<n
  ·have l1:a+(2*r'+1)<G'.length:=by omega
   have l2:a+(2*r'+1)+1<G'.length:=by omega
   simp -dsimp only[h2,decide_true,B.zgk,B.zch,a1,zjb (show a+(2*r'+1)<4611686018427387904 by omega),o.idx l1,o.idx l2,B.zh];refine o.ld S (getElem?_eq_getElem l1) ?_;refine o.ld S (getElem?_eq_getElem l2) ?_;refine hc.call _ _ _ _ o.le ?_;simp -dsimp only[h2,decide_true,B.zgk,B.zch,V.ze2,B.zfp,B.zh];refine B.zb0 (λhf=>?_) (λhf=>?_)
   ·have hf':c G'[a+(2*r'+1)] G'[a+(2*r'+1)+1]<0:=by simpa using hf
    simp -dsimp only[zjb (show 2*r'+1<4611686018427387904 by omega),B.zh];refine fin (2*r'+1+1) h2 (by omega) (by omega) λk k0 hk hkp h1 h3=>?_;rcases (show k=2*r'+1 \/ k=2*r'+1+1 by omega) with rfl|rfl
    ·have:=W.asym (a:=G'[a+(2*r'+1)]) (b:=G'[a+(2*r'+1)+1]) (by unfold zd6;exact decide_eq_true hf')
     unfold zd6 at this;exact of_decide_eq_false this
    ·exact irr _
   ·have hf':¬ c G'[a+(2*r'+1)] G'[a+(2*r'+1)+1]<0:=by simpa using hf
    refine fin (2*r'+1) (by omega) (by omega) (by omega) λk k0 hk hkp h1 h3=>?_;rcases (show k=2*r'+1 \/ k=2*r'+1+1 by omega) with rfl|rfl
    ·exact irr _
    ·exact hf'
  ·simp -dsimp only[h2,decide_false,B.zgk,B.ze0,B.zf0,B.cond_false]
   refine fin (2*r'+1) (by omega) (by omega) (by omega) λk k0 hk hkp h1 h3=>?_;have:k=2*r'+1:=by omega
   subst this;exact irr _
end
section
variable{X:Type}{c:X->X->Int}{a b n lo:Nat}{G G':List X}
end
abbrev SiftI(C:z4)(E:z6)(C0:z4)(fL:Nat)(f1:Nat):Prop:=∀(v0 v1 v2 v3 v4:za)(h:zb)(Q:zQ),zct.cps C E C0 fL v0 v1 v2 v3 v4 h (dn Q)->C f1 [v0,v1,v2,v3,v4] h Q
section
variable{E:z6}{X:Type}{cs:X->List za}{v:X->za}{h0 h:zb}{x f:za}{G:List X}{R:List (List za)}{c:X->X->Int}{Q:zQ}{a b:Nat}
theorem insertion_srt(S:zdm E cs v)(W:zle (zd6 c))(hc:zd3 C0 v c fL h0)(ho:Rw E cs h0 h x G R)(hl:G.length <= 100000000)(hab:a <= b)(hb:b <= G.length)
  (hq:∀h' G',zc2 a b G G'->Srt c a b G'->Rw E cs h0 h' x G' R->Q (.tup []) h'):zco.cps C E C0 fL x (.int .i64 (a:Int)) (.int .i64 (b:Int)) f h Q:=by
 have e0:∀(L:List X),(L.map (λy=>(y,0))).map (λp:X×Nat=>cs p.1)=L.map cs:=λL=>by rw[map_map];rfl
 have e1:∀(L:List (X×Nat)),L.map (λp:X×Nat=>cs p.1)=(L.map (·.1)).map cs:=λL=>by rw[map_map];rfl
 have lt:(G.take a).length=a:=by rw[length_take];omega
 have lm:((G.take b).drop a).length=b-a:=by rw[length_drop,length_take];omega
 refine zlw (P:=(G.take a).map (λy=>(y,0))) (M:=((G.take b).drop a).zipIdx) (U:=(G.drop b).map (λy=>(y,0))) S W ?_ ?_ hc ?_ ?_ ?_ ?_ (R:=R) (h0:=h0)
 ·simp only[length_append,length_map,length_zipIdx,lt,lm,length_drop];omega
 ·have:(((G.take b).drop a).zipIdx.map (·.2)).Pairwise (· < ·):=by
   rw[zipIdx_map_snd];exact pairwise_lt_range'
  rwa [pairwise_map]at this
 ·rw[length_map,lt]
 ·rw[length_map,length_zipIdx,lt,lm];omega
 ·unfold Rw
  rw[map_append,map_append,e0,e0,e1,zipIdx_map_fst,<-map_append,<-map_append,<-split3 hab G];exact ho
 ·intro h' M' hp hs ho'
  have hp':(M'.map (·.1)).Perm ((G.take b).drop a):=by
   have:=hp.map (·.1);rwa [zipIdx_map_fst]at this
  refine hq h' (G.take a++(M'.map (·.1)++G.drop b)) (within_mid hab hb hp') (srt_mid hab hb (by rw[hp'.length_eq,lm]) ?_) ?_
  ·rw[pairwise_map]
   refine hs.imp λ{x y} hxy=>?_;have hx:zd6 c y.1 x.1=false:=hxy.elim (λh=>W.asym h) λ⟨h,_⟩=>h;unfold zd6 at hx;exact of_decide_eq_false hx
  ·unfold Rw at ho' ⊢
   rw[map_append,map_append,e0,e0,e1]at ho'
   rwa [map_append,map_append]
theorem heapSort_spec{f1:Nat}(is:SiftI C E C0 fL f1)(S:zdm E cs v)(W:zle (zd6 c))(hc:zd3 C0 v c fL h0)(ho:Rw E cs h0 h x G R)(hl:G.length <= 100000000)(hab:a<b)(hb:b <= G.length)
  (hq:∀h' G',zc2 a b G G'->Srt c a b G'->Rw E cs h0 h' x G' R->Q (.tup []) h'):zcu.cps C E C0 fL f1 x (.int .i64 (a:Int)) (.int .i64 (b:Int)) f h Q:=by
 have e1:=zia (a:=b) (b:=a) (by omega) (by omega);obtain⟨n,hn⟩:∃n,n=b-a:=⟨_,rfl⟩;have e2:V.bin .quo (.int .i64 ((n-1:Nat):Int)) (.int .i64 2)=some (.int .i64 (((n-1) / 2:Nat):Int)):=by
  rw[V.bin_quo _ _ _ (by omega),show ((n-1:Nat):Int).tdiv 2=(((n-1) / 2:Nat):Int) from rfl,wrap_i64 (by omega) (by omega)]
 have m1:∀k:Nat,k <= 100000000->V.bin .sub (.int .i64 (k:Int)) (.int .i64 1)=some (.int .i64 ((k:Int)-1)):=λk hk=>by
  rw[V.zi3,wrap_i64 (by omega) (by omega)]
 have m2:∀k:Nat,k <= 100000000->V.bin .sub (.int .i64 ((k+1:Nat)-1:Int)) (.int .i64 1)=some (.int .i64 ((k:Int)-1)):=λk hk=>by
  rw[V.zi3,wrap_i64 (by omega) (by omega)];congr 2;omega
 simp -dsimp only[zcu.cps,zcu.k5,e1,B.zh];rw[<-hn];simp -dsimp only[sub1 (show 1 <= n by omega) (by omega),e2,B.zh];refine zbw.intro (λt vs hh=>∃(G':List X),vs=[.int .i64 ((t:Int)-1)] /\ t <= n /\ Heap c a n t G' /\ zc2 a b G G' /\ Rw E cs h0 hh x G' R) ((n-1) / 2+1) ?_ ⟨G,by congr 2;omega,by omega,Heap.none_ (by omega),zc2.refl _ _ _,ho⟩;rintro Y t vs hh ⟨G1,rfl,htn,p1,W1,o1⟩ hY;have l1:=W1.len;simp -dsimp only[zcu.l4,zcu.k3,V.zmi,B.zh];cases t with
 | succ k=>
  rw[show decide ((0:Int) <= ((k+1:Nat):Int)-1)=true by simp,B.cond_true,show (((k+1:Nat):Int)-1)=(k:Int) by omega];refine is _ _ _ _ _ _ _ (zln (b:=b) S W hc o1 (by omega) (p1.sinv (by omega)) (Nat.le_refl _) (by omega) (by omega) λh2 G2 p2 w2 o2=>zck ?_);simp -dsimp only[m1 k (by omega),B.zh];exact hY k _ _ (by omega) ⟨G2,rfl,by omega,p2,W1.trans w2,o2⟩
 | zero=>
  rw[show decide ((0:Int) <= ((0:Nat):Int)-1)=false by simp,B.cond_false];simp -dsimp only[m1 n (by omega),B.zh];refine zbw.intro (λt vs hh=>∃(G':List X),vs=[.int .i64 ((t:Int)-1)] /\ t <= n /\ Heap c a t 0 G' /\ Cut c a b a (a+t) G' /\ zc2 a b G G' /\ Rw E cs h0 hh x G' R) n ?_ ⟨G1,rfl,Nat.le_refl _,p1,λp q _ _ h3 h4=>by omega,W1,o1⟩;rintro Z t vs hh ⟨G2,rfl,htn,p2,c2,W2,o2⟩ hZ;have l2:=W2.len;simp -dsimp only[zcu.l2,zcu.k1,V.zmi,B.zh];cases t with
  | zero=>
   rw[show decide ((0:Int) <= ((0:Nat):Int)-1)=false by simp,B.cond_false];exact hq hh G2 W2 (c2.small (by omega)) o2
  | succ k=>
   rw[show decide ((0:Int) <= ((k+1:Nat):Int)-1)=true by simp,B.cond_true,show (((k+1:Nat):Int)-1)=(k:Int) by omega];have ac:=zos (a:=a) (b:=k) (by omega);have la:a<G2.length:=by omega
   have lk:a+k<G2.length:=by omega
   simp -dsimp only[ac,o2.idx la,o2.idx lk,B.zh];refine o2.ld S (getElem?_eq_getElem lk) ?_;refine o2.ld S (getElem?_eq_getElem la) ?_;refine o2.swap S la lk λh3 o3=>?_;have hsl:=zh3 la lk;have w3:zc2 a (a+(k+1)) G2 (swp G2 a (a+k) la lk):=zed la lk (by omega) (by omega) (by omega) (by omega);have c3:=c2.within w3 (Nat.le_refl _) (by omega);have c4:Cut c a b a (a+k) (swp G2 a (a+k) la lk):=λp q h1 h2 h3 h4 h5 h6=>by
    by_cases e:a+(k+1) <= q
    ·exact c3 p q h1 h2 h3 (.inr e) h5 h6
    ·have:q=a+k:=by omega
     subst this;rw[zfi la lk h6 (by omega),if_pos rfl,zfi la lk h5 (by omega),if_neg (by omega)];split
     ·exact p2.root W (by omega) k (by omega)
     ·have:=p2.root W (by omega) (p-a) (by omega)
      simpa only[show a+(p-a)=p by omega]using this
   have s3:SInv c a k 0 0 (swp G2 a (a+k) la lk):=⟨by omega,λj j0 hj _ hne h1 h2=>by
    rw[zfi la lk h1 (by omega),if_neg (by omega),if_neg (by omega),zfi la lk h2 (by omega),if_neg (by omega),if_neg (by omega)];exact p2 j j0 (by omega) (by omega) (by omega) (by omega),λ_ h=>by omega⟩
   refine is _ _ _ _ _ _ _ (zln (r:=0) (b:=a+k) S W hc o3 (by omega) s3 (Nat.le_refl _) (by omega) (by omega) λh4 G4 p4 w4 o4=>zck ?_);simp -dsimp only[m1 k (by omega),B.zh];exact hZ k _ _ (by omega) ⟨G4,rfl,by omega,p4,c4.within w4 (Nat.le_refl _) (by omega),(W2.trans (w3.mono (Nat.le_refl _) (by omega))).trans (w4.mono (Nat.le_refl _) (by omega)),o4⟩
end
section
variable{X:Type}{c:X->X->Int}{A B j:Nat}{G:List X}
end
section
variable{E:z6}{X:Type}{cs:X->List za}{v:X->za}{h0 h:zb}{x f:za}{G:List X}{R:List (List za)}{c:X->X->Int}{Q:zQ}{Y1:zL}{a b i s:Nat}
theorem pis_k3(S:zdm E cs v)(hc:zd3 C0 v c fL h0)(ho:Rw E cs h0 h x G R)(hl:G.length <= 100000000)(hi0:0<i)(hi:i<b)(hb:b <= G.length)(hs:s <= 5)
  (hY:∀h' G',zc2 i b G G'->Rw E cs h0 h' x G' R->Y1 [.int .i64 (i:Int),.int .i64 ((s+1:Nat):Int)] h'):
  zg.k3 C E C0 fL Q Y1 x (.int .i64 (a:Int)) (.int .i64 (b:Int)) f (.int .i64 (i:Int)) (.int .i64 (s:Int)) h:=by
 have hge:V.bin .geq (.int .i64 ((b-i:Nat):Int)) (.int .i64 2)=some (.bool (decide (2 <= b-i))):=geqN (b:=2);simp -dsimp only[zg.k3,zia (show i <= b by omega) (by omega),hge,zjb (show s<4611686018427387904 by omega),zjb (show i<4611686018427387904 by omega),B.zh];refine B.zb0 (λhd=>?_) (λhd=>?_)
 rotate_left
 ·simp -dsimp only[zjb (show s<4611686018427387904 by omega),B.zh]
  exact hY h G (zc2.refl _ _ _) ho
 rw[decide_eq_true_eq]at hd;simp -dsimp only[zjb (show i<4611686018427387904 by omega),B.zh];refine zbw.intro (λt vs hh=>∃(j:Nat)(G':List X),j+t=b /\ vs=[.int .i64 (j:Int)] /\ i<j /\ zc2 i b G G' /\ Rw E cs h0 hh x G' R) (b-(i+1)) ?_ ⟨i+1,G,by omega,rfl,by omega,zc2.refl _ _ _,ho⟩;rintro Y t vs hh ⟨j,G1,hjt,rfl,hij,W1,o⟩ hY2;have hlen:=W1.len;simp -dsimp only[zg.l2,zg.k1,lssN,B.zh];refine B.zb0 (λhe=>?_) (λhe=>?_)
 ·rw[decide_eq_true_eq]at he
  have lj:j<G1.length:=by omega
  have lj1:j-1<G1.length:=by omega
  have sj:=sub1 (a:=j) (by omega) (by omega);simp -dsimp only[sj,o.idx lj,o.idx lj1,B.zh];refine o.ld S (getElem?_eq_getElem lj) ?_;refine o.ld S (getElem?_eq_getElem lj1) ?_;refine hc.call _ _ _ _ o.le ?_;simp -dsimp only[V.ze2,V.ze3,B.zh];refine B.zb0 (λhd=>?_) (λhd=>?_)
  ·simp -dsimp only[zjb (show s<4611686018427387904 by omega),B.zh]
   exact hY hh G1 W1 o
  ·simp -dsimp only[sj,o.idx lj,o.idx lj1,B.zh]
   refine o.ld S (getElem?_eq_getElem lj1) ?_;refine o.ld S (getElem?_eq_getElem lj) ?_;refine o.swap S lj lj1 λh2 o2=>?_;simp -dsimp only[zjb (show j<4611686018427387904 by omega),B.zh];exact hY2 (b-(j+1)) _ _ (by omega) ⟨j+1,_,by omega,rfl,by omega,W1.trans (zed lj lj1 (by omega) (by omega) (by omega) (by omega)),o2⟩
 ·simp -dsimp only[zjb (show s<4611686018427387904 by omega),B.zh]
  exact hY hh G1 W1 o
theorem pis_k6(S:zdm E cs v)(W:zle (zd6 c))(hc:zd3 C0 v c fL h0)(ho:Rw E cs h0 h x G R)(hl:G.length <= 100000000)(hai:a<i)(hi:i<b)(hb:b <= G.length)(hs:s <= 5)(hp:Pre c a b G)(h1:But1 c a i (i-1) G)
  (hY:∀h' G',zc2 a b G G'->Srt c a i G'->Rw E cs h0 h' x G' R->Y1 [.int .i64 (i:Int),.int .i64 ((s+1:Nat):Int)] h'):
  zg.k6 C E C0 fL Q Y1 x (.int .i64 (a:Int)) (.int .i64 (b:Int)) f (.int .i64 (i:Int)) (.int .i64 (s:Int)) h:=by
 have fin:∀{hh G1},Rw E cs h0 hh x G1 R->zc2 a b G G1->Srt c a i G1->zg.k3 C E C0 fL Q Y1 x (.int .i64 (a:Int)) (.int .i64 (b:Int)) f (.int .i64 (i:Int)) (.int .i64 (s:Int)) hh:=λ{hh G1} o W1 s1=>by
  have l1:=W1.len;refine pis_k3 S hc o (by omega) (by omega) hi (by omega) hs λh2 G2 W2 o2=>hY h2 G2 (W1.trans (W2.mono (by omega) (Nat.le_refl _))) (λp q h1 h2 h3 h4 h5=>?_) o2;have l2:=W2.len;rw[W2.same (k:=p) (.inl (by omega)) h4 (by omega),W2.same (k:=q) (.inl (by omega)) h5 (by omega)];exact s1 p q h1 h2 h3 _ _
 have hge:V.bin .geq (.int .i64 ((i-a:Nat):Int)) (.int .i64 2)=some (.bool (decide (2 <= i-a))):=geqN (b:=2);simp -dsimp only[zg.k6,zia (show a <= i by omega) (by omega),hge,sub1 (show 1 <= i by omega) (by omega),B.zh];refine B.zb0 (λhd=>?_) (λhd=>?_)
 ·simp -dsimp only[sub1 (show 1 <= i by omega) (show i<4611686018427387904 by omega),B.zh]
  refine zbw.intro (λt vs hh=>∃(G':List X),vs=[.int .i64 (t:Int)] /\ a <= t /\ t<i /\ But1 c a i t G' /\ zc2 a b G G' /\ Rw E cs h0 hh x G' R) (i-1) ?_ ⟨G,rfl,by omega,by omega,h1,zc2.refl _ _ _,ho⟩;rintro Y j vs hh ⟨G1,rfl,haj,hji,b1,W1,o⟩ hY2;have hlen:=W1.len;have lj:j<G1.length:=by omega
  have hg1:V.bin .geq (.int .i64 (j:Int)) (.int .i64 1)=some (.bool (decide (1 <= j))):=geqN (b:=1);simp -dsimp only[zg.l5,zg.k4,hg1,B.zh];refine B.zb0 (λhe=>?_) (λhe=>?_)
  ·rw[decide_eq_true_eq]at he
   have lj1:j-1<G1.length:=by omega
   have sj:=sub1 (a:=j) (by omega) (by omega);simp -dsimp only[sj,o.idx lj,o.idx lj1,B.zh];refine o.ld S (getElem?_eq_getElem lj) ?_;refine o.ld S (getElem?_eq_getElem lj1) ?_;refine hc.call _ _ _ _ o.le ?_;simp -dsimp only[V.ze2,V.ze3,B.zh];refine B.zb0 (λhd=>?_) (λhd=>?_)
   ·exact fin o W1 (b1.done W lj (.inr λ_=>by simpa using hd))
   ·have hlt:c G1[j] G1[j-1]<0:=by simpa using hd
    have haj2:a<j:=by
     rcases Nat.lt_or_ge a j with k|k
     ·exact k
     ·have:j=a:=by omega
      subst this;exact absurd hlt ((hp.within W1) (by omega) j (Nat.le_refl _) (by omega) _ _)
    simp -dsimp only[sj,o.idx lj,o.idx lj1,B.zh];refine o.ld S (getElem?_eq_getElem lj1) ?_;refine o.ld S (getElem?_eq_getElem lj) ?_;refine o.swap S lj lj1 λh2 o2=>?_;exact hY2 (j-1) _ _ (by omega) ⟨_,rfl,by omega,by omega,b1.step W haj2 lj lj1 hlt,W1.trans (zed lj lj1 (by omega) (by omega) (by omega) (by omega)),o2⟩
  ·rw[decide_eq_false_iff_not]at he
   exact fin o W1 (b1.done W lj (.inl (by omega)))
 ·rw[decide_eq_false_iff_not]at hd
  exact fin ho (zc2.refl _ _ _) λp q _ _ _ _ _=>by omega
theorem zh5(S:zdm E cs v)(W:zle (zd6 c))(hc:zd3 C0 v c fL h0)(ho:Rw E cs h0 h x G R)(hl:G.length <= 100000000)(hab:a<b)(hb:b <= G.length)(hp:Pre c a b G)
  (hq:∀h' G' t,zc2 a b G G'->(t=true->Srt c a b G')->Rw E cs h0 h' x G' R->Q (.bool t) h'):
  zg.cps C E C0 fL x (.int .i64 (a:Int)) (.int .i64 (b:Int)) f h Q:=by
 simp -dsimp only[zg.cps,zjb (show a<4611686018427387904 by omega),B.zh];refine zbw.intro (λt vs hh=>∃(s i:Nat)(G':List X),s+t=5 /\ vs=[.int .i64 (i:Int),.int .i64 (s:Int)] /\ a<i /\ i <= b /\ Srt c a i G' /\ zc2 a b G G' /\ Rw E cs h0 hh x G' R) 5 ?_ ⟨0,a+1,G,rfl,rfl,by omega,by omega,λp q _ _ _ _ _=>by omega,zc2.refl _ _ _,ho⟩;rintro Y t vs hh ⟨s,i,G1,hst,rfl,hai,hib,s1,W1,o⟩ hY;have hl1:=W1.len;have h5:V.bin .lss (.int .i64 (s:Int)) (.int .i64 5)=some (.bool (decide (s<5))):=lssN (b:=5);simp -dsimp only[zg.l12,zg.k11,h5,B.zh];refine B.zb0 (λhd=>?_) (λhd=>hq hh G1 false W1 (λh=>by cases h) o);rw[decide_eq_true_eq]at hd;refine zbw.intro (λt vs hh=>∃(i:Nat),i+t=b /\ vs=[.int .i64 (i:Int)] /\ a<i /\ Srt c a i G1 /\ Rw E cs h0 hh x G1 R) (b-i) ?_ ⟨i,by omega,rfl,hai,s1,o⟩;rintro Z t vs hh ⟨i,hit,rfl,hai,s2,o2⟩ hZ;simp -dsimp only[zg.l10,zg.k9,lssN,B.zh];by_cases hd2:i<b
 ·have li:i<G1.length:=by omega
  have li1:i-1<G1.length:=by omega
  have si:=sub1 (a:=i) (by omega) (by omega);simp -dsimp only[hd2,decide_true,B.zgk,B.zch,si,o2.idx li,o2.idx li1,B.zh];refine o2.ld S (getElem?_eq_getElem li) ?_;refine o2.ld S (getElem?_eq_getElem li1) ?_;refine hc.call _ _ _ _ o2.le ?_;simp -dsimp only[hd2,decide_true,B.zgk,B.zch,V.ze2,V.ze3,B.zfp,B.zh];refine B.zb0 (λhe=>?_) (λhe=>?_)
  ·have hnl:¬ c G1[i] G1[i-1]<0:=by simpa using he
   simp -dsimp only[zjb (show i<4611686018427387904 by omega),B.zh];refine hZ (t-1) _ _ (by omega) ⟨i+1,by omega,rfl,by omega,?_,o2⟩;exact But1.done W (j:=i) (λp q h1 h2 h3 h4 h5 h6=>s2 p q h1 h2 (by omega) h5 h6) li (.inr λ_=>hnl)
  ·have hlt:c G1[i] G1[i-1]<0:=by simpa using he
   have hne:V.bin .eql (.int .i64 (i:Int)) (.int .i64 (b:Int))=some (.bool false):=by rw[V.zi4];simp;omega
   simp -dsimp only[hne,B.zh,B.cond_false,zg.k8,zg.k7,zia (show a <= b by omega) (show b<4611686018427387904 by omega)];rw[show V.bin .lss (.int .i64 ((b-a:Nat):Int)) (.int .i64 50)=some (.bool (decide (b-a<50))) from lssN (b:=50)];simp -dsimp only[B.zh];refine B.zb0 (λhf=>hq hh G1 false W1 (λh=>by cases h) o2) (λhf=>?_);simp -dsimp only[zg.k7,si,o2.idx li,o2.idx li1,B.zh];refine o2.ld S (getElem?_eq_getElem li1) ?_;refine o2.ld S (getElem?_eq_getElem li) ?_;refine o2.swap S li li1 λh3 o3=>?_;have hsl:=zh3 li li1;have w3:zc2 a b G1 (swp G1 i (i-1) li li1):=zed li li1 (by omega) (by omega) (by omega) (by omega);have W3:=W1.trans w3;refine pis_k6 S W hc o3 (by omega) hai hd2 (by omega) (by omega) (hp.within W3) (λp q h1 h2 h3 h4 h5 h6=>?_) λh4 G4 W4 s4 o4=>hY (5-(s+1)) _ _ (by omega) ⟨s+1,i,G4,by omega,rfl,hai,by omega,s4,W3.trans W4,o4⟩;rw[zfi li li1 h6 (by omega),if_neg h4,if_neg (by omega),zfi li li1 h5 (by omega),if_neg (by omega),if_neg (by omega)];exact s2 p q h1 h2 h3 _ _
 ·have e:i=b:=by omega
  subst e;have heq:V.bin .eql (.int .i64 (i:Int)) (.int .i64 (i:Int))=some (.bool true):=by rw[V.zi4];simp
  simp -dsimp only[hd2,decide_false,B.zgk,B.ze0,B.zf0,B.cond_false,heq,B.cond_true,B.zh];exact hq hh G1 true W1 (λ_=>s2) o2
end
variable{C C0:z4}{fL:Nat}{N:zN}
section
variable{E:z6}{X:Type}{cs:X->List za}{v:X->za}{h0 h:zb}{x f:za}{G:List X}{R:List (List za)}{Q:zQ}{a b:Nat}
theorem zl1{f1 f2:Nat}(hn:NextI C0 f1)(hp:PowI C0 f2)(S:zdm E cs v)(ho:Rw E cs h0 h x G R)(hl:G.length <= 100000000)(hab:a <= b)(hb:b <= G.length)
  (hq:∀h' G',zc2 a b G G'->Rw E cs h0 h' x G' R->Q (.tup []) h'):zw.cps C E C0 fL f1 f2 x (.int .i64 (a:Int)) (.int .i64 (b:Int)) f h Q:=by
 obtain⟨n,en⟩:∃n,n=b-a:=⟨_,rfl⟩;have e1:=zia hab (show b<4611686018427387904 by omega);rw[<-en]at e1;have g8:V.bin .geq (.int .i64 (n:Int)) (.int .i64 8)=some (.bool (decide (8 <= n))):=geqN (b:=8);simp -dsimp only[zw.cps,zw.k8,e1,g8,B.zh];refine B.zb0 (λhd=>?_) (λhd=>hq h G (zc2.refl _ _ _) ho);rw[decide_eq_true_eq]at hd;simp -dsimp only[zw.k7,toUN (show n<18446744073709551616 by omega),B.zh];intro id hid;have o:=zda.zmt ho hid [.int .u64 0];simp only[cons_append,nil_append]at o;refine o.boxSt 1 (off:=0) rfl rfl (by simp) λh1 o1 _=>?_;simp only[set_cons_succ,set_cons_zero]at o1;refine hp n _ _ (by omega) (by omega) λm hm0 hm=>?_;have m4:V.bin .quo (.int .i64 (n:Int)) (.int .i64 4)=some (.int .i64 ((n / 4:Nat):Int)):=quo4 (by omega);have m2:V.bin .mul (.int .i64 ((n / 4:Nat):Int)) (.int .i64 2)=some (.int .i64 ((n / 4*2:Nat):Int)):=mulN (a:=n / 4) (b:=2) (by omega);have m5:V.bin .add (.int .i64 (a:Int)) (.int .i64 ((n / 4*2:Nat):Int))=some (.int .i64 ((a+n / 4*2:Nat):Int)):=zos (by omega);simp -dsimp only[zw.k6,m4,m2,m5,sub1 (show 1 <= a+n / 4*2 by omega) (by omega),B.zh];refine zbw.intro (λt vs hh=>∃(i:Nat)(G':List X)(z:Int),i+t=a+n / 4*2+2 /\ vs=[.int .i64 (i:Int)] /\ a <= i /\ zc2 a b G G' /\ zda h0 hh [.sl E.es x (G'.map cs) R,.box (.ptr id 0 0) [.int .u64 z]]) 3 ?_ ⟨a+n / 4*2-1,G,_,by omega,rfl,by omega,zc2.refl _ _ _,o1⟩;rintro Y t vs hh ⟨i,G1,z,hit,rfl,hai,W1,o2⟩ hY;have l1:=W1.len;simp -dsimp only[zw.l5,zw.k4,m4,m2,m5,zjb (show a+n / 4*2<4611686018427387904 by omega),leqN,B.zh];refine B.zb0 (λhe=>?_) (λhe=>hq hh G1 W1 (o2.sub (by simp)));rw[decide_eq_true_eq]at he;have oo:=zda.out (l1:=[.sl E.es x (G1.map cs) R]) (l2:=[.box (.ptr id 0 0) [.int .u64 z]]) o2;simp -dsimp only[zw.k3];refine hn _ _ _ _ _ oo.2 λw z' h3 o3=>?_;have o4:=oo.1.join o3
 have s1:V.bin .sub (.int .u64 (m:Int)) (.int .u64 1)=some (.int .u64 ((m-1:Nat):Int)):=by
  rw[V.zi3,show (m:Int)-1=((m-1:Nat):Int) by omega,wrapU (by omega)]
 obtain⟨ot,hot,ea⟩:=and_le (z:=w) (m:=m-1) (by omega);simp -dsimp only[s1,ea,toIN (show ot<4611686018427387904 by omega),B.zh,zw.k2,geqN];have fin:∀k:Nat,k<n->zw.k1 C E C0 fL f1 f2 Q Y x (.int .i64 (a:Int)) (.int .i64 (n:Int)) (.ptr id 0 0) (.int .u64 (m:Int)) (.int .i64 (i:Int)) (.int .i64 (k:Int)) h3:=λk hk=>by
  have la:a+k<G1.length:=by omega
  have li:i<G1.length:=by omega
  have op:=zda.perm o4 (List.Perm.swap _ _ []);have oq:=zda.out (l1:=[.box (.ptr id 0 0) [.int .u64 z']]) (l2:=[.sl E.es x (G1.map cs) R]) op;have orw:Rw E cs _ h3 x G1 R:=oq.2;simp -dsimp only[zw.k1,zos (show a+k<4611686018427387904 by omega),orw.idx la,orw.idx li,B.zh];refine orw.ld S (getElem?_eq_getElem la) ?_;refine orw.ld S (getElem?_eq_getElem li) ?_;refine orw.swap S li la λh5 o5=>?_;simp -dsimp only[zjb (show i<4611686018427387904 by omega),B.zh];have o6:=oq.1.join o5;exact hY (a+n / 4*2+2-(i+1)) _ _ (by omega) ⟨i+1,_,z',by omega,rfl,by omega,W1.trans (zed li la (by omega) (by omega) (by omega) (by omega)),o6.perm (List.Perm.swap _ _ [])⟩
 refine B.zb0 (λhf=>?_) (λhf=>?_)
 ·rw[decide_eq_true_eq]at hf
  simp -dsimp only[zia hf (show ot<4611686018427387904 by omega),B.zh];exact fin (ot-n) (by omega)
 ·rw[decide_eq_false_iff_not]at hf
  exact fin ot (by omega)
end
section
variable{X:Type}{c:X->X->Int}{a b m A0 Z0:Nat}{G G':List X}
end
structure PdqI(C:z4)(E:z6)(C0:z4)(fL:Nat)(f1 f2 f3 f4 f5 f6 f7 f8 f9 g1 g2 g3 g4 g5 g6:Nat):Prop where
 eq:I5 (zt.cps C E C0 fL) C f1
 part:I5 (zk.cps C E C0 fL) C f2
 pdq:I5 (z0.cps C E C0 fL f1 f2 f3 f4 f5 f6 f7 f8 f9) C f3
 pis:I4 (zg.cps C E C0 fL) C f4
 rev:I4 (zdg.cps C E C0 fL) C f5
 piv:I4 (z3.cps C E C0 fL g2 g3) C f6
 brk:I4 (zw.cps C E C0 fL g5 g6) C f7
 heap:I4 (zcu.cps C E C0 fL g4) C f8
 ins:I4 (zco.cps C E C0 fL) C f9
 ord:O2I C E C0 fL g1
 med:MedI C E C0 fL g1 g2
 adj:AdjI C E C0 fL g2 g3
 sift:SiftI C E C0 fL g4
 next:NextI C0 g5
 pow:PowI C0 g6
section
variable{E:z6}{X:Type}{cs:X->List za}{v:X->za}{h0 h:zb}{x f:za}{G:List X}{R:List (List za)}{c:X->X->Int}{Q:zQ}{Y:zL}{f1 f2 f3 f4 f5 f6 f7 f8 f9 g1 g2 g3 g4 g5 g6:Nat}
theorem pdq_k1(J:PdqI C E C0 fL f1 f2 f3 f4 f5 f6 f7 f8 f9 g1 g2 g3 g4 g5 g6)(S:zdm E cs v)(W:zle (zd6 c))(hc:zd3 C0 v c fL h0){A0 Z0 a b:Nat}{G0:List X}{lim:Int}{w1 w2:Bool}{pv:Nat}(p:PS E cs h0 x R c A0 Z0 G0 a b G h)(hl:G.length <= 100000000)(hBl:Z0 <= G.length)
  (h1:a <= pv) (h2:pv<b)
  (rcs:∀(a' b':Nat)(lim:Int)(h:zb)(G:List X)(Q:zQ),b'-a'<b-a->a' <= b'->b' <= G.length->G.length <= 100000000->Pre c a' b' G->Rw E cs h0 h x G R->(∀h' G',zc2 a' b' G G'->Srt c a' b' G'->Rw E cs h0 h' x G' R->Q (.tup []) h') ->
   C f3 [x,.int .i64 (a':Int),.int .i64 (b':Int),.int .i64 lim,f] h Q)
  (hY:Go1 E cs h0 x R c A0 Z0 G0 (b-a) Y):
  z0.k1 C E C0 fL f1 f2 f3 f4 f5 f6 f7 f8 f9 Q Y x (.int .i64 (a:Int)) (.int .i64 (b:Int)) (.int .i64 lim) f (.bool w1) (.bool w2) (.int .i64 ((b-a:Nat):Int)) (.int .i64 (pv:Int)) h:=by
 have hA:=p.hA;have hB:=p.hB;have o:=p.o;have lp:pv<G.length:=by omega
 have part:z0.k1 C E C0 fL f1 f2 f3 f4 f5 f6 f7 f8 f9 Q Y x (.int .i64 (a:Int)) (.int .i64 (b:Int)) (.int .i64 lim) f (.bool w1) (.bool w2) (.int .i64 ((b-a:Nat):Int)) (.int .i64 (pv:Int)) h =
  z0.k1 C E C0 fL f1 f2 f3 f4 f5 f6 f7 f8 f9 Q Y x (.int .i64 (a:Int)) (.int .i64 (b:Int)) (.int .i64 lim) f (.bool w1) (.bool w2) (.int .i64 ((b-a:Nat):Int)) (.int .i64 (pv:Int)) h:=rfl
 clear part;have part:C f2 [x,.int .i64 (a:Int),.int .i64 (b:Int),.int .i64 (pv:Int),f] h (λv111 h=>
  B.pv (V.ext 0 v111) λv112=>
  B.pv (V.ext 1 v111) λv113=>
  B.pv (V.bin .sub v112 (.int .i64 (a:Int))) λv117=>
  B.pv (V.bin .sub (.int .i64 (b:Int)) v112) λv120=>
  B.pv (V.bin .quo (.int .i64 ((b-a:Nat):Int)) (.int .i64 8)) λv122=>
  B.pv (V.bin .lss v117 v120) λv125=>
  B.cond v125
  (B.pv (V.bin .geq v117 v122) λv128=>
  B.call C f3 [x,.int .i64 (a:Int),v112,.int .i64 lim,f] h λv134 h=>
  B.pv (V.bin .add v112 (.int .i64 1)) λv136=>
  Y [v136,.int .i64 (b:Int),.int .i64 lim,v128,v113] h)
  (B.pv (V.bin .geq v120 v122) λv139=>
  B.pv (V.bin .add v112 (.int .i64 1)) λv142=>
  B.call C f3 [x,v142,.int .i64 (b:Int),.int .i64 lim,f] h λv146 h=>
  Y [.int .i64 (a:Int),v112,.int .i64 lim,v139,v113] h)):=by
  refine J.part _ _ _ _ _ _ _ (zoz S hc o (by omega) h1 h2 (by omega) λh3 m G3 t pt W3 o3=>zck ?_);have p3:=p.zgz W3 o3;have l3:=W3.len;have m1:=pt.ge;have m2:=pt.lt;have q8:V.bin .quo (.int .i64 ((b-a:Nat):Int)) (.int .i64 8)=some (.int .i64 (((b-a) / 8:Nat):Int)):=by
   rw[V.bin_quo _ _ _ (by omega),show ((b-a:Nat):Int).tdiv 8=(((b-a) / 8:Nat):Int) from rfl,wrap_i64 (by omega) (by omega)]
  simp -dsimp only[V.zfy,getElem?_cons_zero,getElem?_cons_succ,B.zh,zia m1 (show m<4611686018427387904 by omega),zia (show m <= b by omega) (show b<4611686018427387904 by omega),q8,lssN,geqN,zjb (show m<4611686018427387904 by omega)];refine B.zb0 (λhd=>?_) (λhd=>?_)
  ·simp -dsimp only[geqN,zjb (show m<4611686018427387904 by omega),B.zh]
   refine rcs a m lim _ G3 _ (by omega) m1 (by omega) (by omega) (p3.pre.sub (by omega)) o3 λh4 G4 W4 s4 o4=>?_;have pt4:=pt.left W W4;have cut4:=(p3.cut.within (W4.mono (Nat.le_refl _) (by omega)) hA hB).left W pt4 s4;simp -dsimp only[zjb (show m<4611686018427387904 by omega),B.zh];exact hY (m+1) b lim _ _ G4 h4 (by omega) ⟨by omega,by omega,hB,p3.W.trans (W4.mono hA (by omega)),cut4,cut4.pre (by omega) hB,o4⟩
  ·have c3:Pre c (m+1) b G3:=λh0 i k1 k2 k3 k4=>pt.pair W (p:=m+1-1) (q:=i) (by omega) (by omega) k2 (by omega) (by omega) k4 k3
   simp -dsimp only[geqN,zjb (show m<4611686018427387904 by omega),B.zh];refine rcs (m+1) b lim _ G3 _ (by omega) (by omega) (by omega) (by omega) c3 o3 λh4 G4 W4 s4 o4=>?_;have pt4:=pt.right W W4;have W4':zc2 a b G3 G4:=W4.mono (by omega) (Nat.le_refl _);have cut4:=(p3.cut.within W4' hA hB).right W pt4 s4;exact hY a m lim _ _ G4 h4 (by omega) ⟨hA,m1,by omega,p3.W.trans (W4.mono (by omega) hB),cut4,(p3.pre.within W4').sub (by omega),o4⟩
 simp -dsimp only[z0.k1];have g0:V.bin .gtr (.int .i64 (a:Int)) (.int .i64 0)=some (.bool (decide (0<a))):=gtrN (b:=0);simp -dsimp only[g0,B.zh];by_cases ha:0<a
 ·have la:a-1<G.length:=by omega
  simp -dsimp only[ha,decide_true,B.zgk,B.zch,sub1 (show 1 <= a by omega) (show a<4611686018427387904 by omega),o.idx la,o.idx lp,B.zh];refine o.ld S (getElem?_eq_getElem la) ?_;refine o.ld S (getElem?_eq_getElem lp) ?_;refine hc.call _ _ _ _ o.le ?_;simp -dsimp only[ha,decide_true,B.zgk,B.zch,V.ze2,V.ze3,B.zfp,B.zh];refine B.zb0 (λhe=>?_) (λhe=>part);have hd:¬ c G[a-1] G[pv]<0:=by simpa using he
  refine J.eq _ _ _ _ _ _ _ (zk6 S hc o (by omega) h1 h2 (by omega) λh3 i j G3 pe hji W3 e3 o3=>zck ?_);have p3:=p.zgz W3 o3;have l3:=W3.len;have k1:=pe.hi;have k2:=pe.hij;have k3:=pe.hj
  have cut4:=p3.cut.equal W pe hji ha p3.pre (by omega) λq1 q2=>by
   rw[e3 q2 lp,W3.same (.inl (by omega)) q1 la];exact hd
  exact hY i b lim _ _ G3 h3 (by omega) ⟨by omega,by omega,hB,p3.W,cut4,cut4.pre (by omega) hB,o3⟩
 ·simp -dsimp only[ha,decide_false,B.zgk,B.ze0,B.zf0,B.cond_false]
  exact part
theorem pdq_spec(J:PdqI C E C0 fL f1 f2 f3 f4 f5 f6 f7 f8 f9 g1 g2 g3 g4 g5 g6)(S:zdm E cs v)(W:zle (zd6 c))(hc:zd3 C0 v c fL h0):∀(n:Nat)(A0 Z0:Nat)(lim:Int)(h:zb)(G:List X)(Q:zQ),Z0-A0=n->A0 <= Z0->Z0 <= G.length->G.length <= 100000000->Pre c A0 Z0 G->Rw E cs h0 h x G R ->
  (∀h' G',zc2 A0 Z0 G G'->Srt c A0 Z0 G'->Rw E cs h0 h' x G' R->Q (.tup []) h')->z0.cps C E C0 fL f1 f2 f3 f4 f5 f6 f7 f8 f9 x (.int .i64 (A0:Int)) (.int .i64 (Z0:Int)) (.int .i64 lim) f h Q:=by
 intro n
 induction n using Nat.strongRecOn with
 | ind n ih=>
 intro A0 Z0 lim h G0 Q hn hAB hBl hl hpre ho hq;simp -dsimp only[z0.cps];refine zbw.intro (λt vs hh=>∃(a b:Nat)(lim:Int)(w1 w2:Bool)(G:List X),t=b-a /\ vs=[.int .i64 (a:Int),.int .i64 (b:Int),.int .i64 lim,.bool w1,.bool w2] /\ PS E cs h0 x R c A0 Z0 G0 a b G hh) (Z0-A0) ?_
  ⟨A0,Z0,lim,true,true,G0,rfl,rfl,⟨Nat.le_refl _,hAB,Nat.le_refl _,zc2.refl _ _ _,λp q _ _ _ k=>by omega,hpre,ho⟩⟩
 rintro Y t vs hh ⟨a,b,lim,w1,w2,G,rfl,rfl,p⟩ hY';have hY:Go1 E cs h0 x R c A0 Z0 G0 (b-a) Y:=λa' b' lim' w1' w2' G' h' hlt p'=>hY' (b'-a') _ _ hlt ⟨a',b',lim',w1',w2',G',rfl,rfl,p'⟩;clear hY';have hA:=p.hA;have hab:=p.hab;have hB:=p.hB;have lG:=p.W.len;have rcs:∀(a' b':Nat)(lim:Int)(h:zb)(G:List X)(Q:zQ),b'-a'<b-a->a' <= b'->b' <= G.length->G.length <= 100000000->Pre c a' b' G->Rw E cs h0 h x G R->(∀h' G',zc2 a' b' G G'->Srt c a' b' G'->Rw E cs h0 h' x G' R->Q (.tup []) h') ->
   C f3 [x,.int .i64 (a':Int),.int .i64 (b':Int),.int .i64 lim,f] h Q:=λa' b' lim h G Q k1 k2 k3 k4 k5 k6 k7=>
  J.pdq _ _ _ _ _ _ _ (ih (b'-a') (by omega) a' b' lim h G _ rfl k2 k3 k4 k5 k6 λh' G' w s o=>zck (k7 h' G' w s o))
 have fin:∀{hh G G2},PS E cs h0 x R c A0 Z0 G0 a b G hh->∀h',zc2 a b G G2->Srt c a b G2->Rw E cs h0 h' x G2 R->Q (.tup []) h':=λp h' w s o=>by
  have p2:=p.zgz w o;exact hq h' _ p2.W (p2.cut.join s) o
 have e12:V.bin .leq (.int .i64 ((b-a:Nat):Int)) (.int .i64 12)=some (.bool (decide (b-a <= 12))):=leqN (b:=12);simp -dsimp only[z0.l8,zia hab (show b<4611686018427387904 by omega),B.zh,z0.k7,e12];refine B.zb0 (λhd=>?_) (λhd=>?_)
 ·exact J.ins _ _ _ _ _ _ (insertion_srt S W hc p.o (by omega) hab (by omega) λh' G' w s o=>zck (fin p h' w s o))
 rw[decide_eq_false_iff_not]at hd;simp -dsimp only[z0.k6,V.zi4,B.zh];refine B.zb0 (λ_=>?_) (λ_=>?_)
 ·exact J.heap _ _ _ _ _ _ (heapSort_spec J.sift S W hc p.o (by omega) (by omega) (by omega) λh' G' w s o=>zck (fin p h' w s o))
 have k4:∀{hh G}(lim:Int),PS E cs h0 x R c A0 Z0 G0 a b G hh->z0.k4 C E C0 fL f1 f2 f3 f4 f5 f6 f7 f8 f9 Q Y x (.int .i64 (a:Int)) (.int .i64 (b:Int)) (.int .i64 lim) f (.bool w1) (.bool w2) (.int .i64 ((b-a:Nat):Int)) hh:=λ{hh G} lim p=>by
  have lG:=p.W.len;simp -dsimp only[z0.k4];refine J.piv _ _ _ _ _ _ (zna J.ord J.med J.adj S (zda.zov p.o 0 rfl) p.o.le hc (by omega) (by omega) (by omega) λm hint h2 m1 m2 hle=>zck ?_);have p2:PS E cs h0 x R c A0 Z0 G0 a b G h2:=⟨p.hA,p.hab,p.hB,p.W,p.cut,p.pre,zda.grow p.o hle⟩;simp -dsimp only[V.zfy,getElem?_cons_zero,getElem?_cons_succ,B.zh,z0.k3,V.zi4];have k2:∀{hh G}(pv:Nat)(hint:Int),a <= pv->pv<b->PS E cs h0 x R c A0 Z0 G0 a b G hh->z0.k2 C E C0 fL f1 f2 f3 f4 f5 f6 f7 f8 f9 Q Y x (.int .i64 (a:Int)) (.int .i64 (b:Int)) (.int .i64 lim) f (.bool w1) (.bool w2) (.int .i64 ((b-a:Nat):Int)) (.int .i64 (pv:Int)) (.int .i64 hint) hh:=λ{hh G} pv hint q1 q2 p=>by
   have lG:=p.W.len;have go:=pdq_k1 (Q:=Q) (lim:=lim) (w1:=w1) (w2:=w2) J S W hc p (by omega) (by omega) q1 q2 rcs hY;simp -dsimp only[z0.k2];have two:B.cond (.bool true) (B.call C f4 [x,.int .i64 (a:Int),.int .i64 (b:Int),f] hh λv80 h=>
     B.cond v80 (Q (.tup []) h) (z0.k1 C E C0 fL f1 f2 f3 f4 f5 f6 f7 f8 f9 Q Y x (.int .i64 (a:Int)) (.int .i64 (b:Int)) (.int .i64 lim) f (.bool w1) (.bool w2) (.int .i64 ((b-a:Nat):Int)) (.int .i64 (pv:Int)) h))
     (z0.k1 C E C0 fL f1 f2 f3 f4 f5 f6 f7 f8 f9 Q Y x (.int .i64 (a:Int)) (.int .i64 (b:Int)) (.int .i64 lim) f (.bool w1) (.bool w2) (.int .i64 ((b-a:Nat):Int)) (.int .i64 (pv:Int)) hh):=by
    rw[B.cond_true];refine J.pis _ _ _ _ _ _ (zh5 S W hc p.o (by omega) (by omega) (by omega) p.pre λh' G' t w s o=>zck ?_);have p':=p.zgz w o;have lG':=p'.W.len;refine B.zb0 (λht=>fin p h' w (s ht) o) (λ_=>?_);exact pdq_k1 (Q:=Q) (lim:=lim) (w1:=w1) (w2:=w2) J S W hc p' (by omega) (by omega) q1 q2 rcs hY
   cases w1<;>cases w2
   ·simp -dsimp only[B.zgk,B.ze0,B.zf0,B.cond_false];exact go
   ·simp -dsimp only[B.zgk,B.ze0,B.zf0,B.cond_false];exact go
   ·simp -dsimp only[B.zgk,B.zch,B.ze0,B.zfp,B.zf0,B.cond_false];exact go
   ·by_cases hh1:hint=1
    ·simp -dsimp only[B.zgk,B.zch,V.zi4,hh1,decide_true,B.zh,B.zfp];exact two
    ·simp -dsimp only[B.zgk,B.zch,V.zi4,hh1,decide_false,B.zh,B.zfp,B.cond_false];exact go
  refine B.zb0 (λ_=>?_) (λ_=>k2 m hint m1 m2 p2);refine J.rev _ _ _ _ _ _ (zl8 S (by omega) p2.o (by omega) (by omega) λh3 G3 w3 o3=>zck ?_);simp -dsimp only[sub1 (show 1 <= b by omega) (show b<4611686018427387904 by omega),zia m1 (show m<4611686018427387904 by omega),zia (show m-a <= b-1 by omega) (show b-1<4611686018427387904 by omega),B.zh];exact k2 (b-1-(m-a)) 1 (by omega) (by omega) (p2.zgz w3 o3)
 simp -dsimp only[z0.k5,V.ze3,B.zh];refine B.zb0 (λ_=>?_) (λ_=>k4 lim p);refine J.brk _ _ _ _ _ _ (zl1 J.next J.pow S p.o (by omega) hab (by omega) λh' G' w o=>zck ?_);simp -dsimp only[V.zi3,B.zh];exact k4 _ (p.zgz w o)
end
end Go.Ab.Ord
namespace Go.Ab
open List
def Cst(C:z4):z4:=λf args h Q=>C f args.dropLast h Q
abbrev J4(F:za->za->za->za->zb->(zQ)->Prop)(C:z4)(n:Nat):Prop:=∀(v0 v1 v2 v3:za)(h:zb)(Q:zQ),F v0 v1 v2 v3 h (dn Q)->C n [v0,v1,v2,v3] h Q
abbrev J3(F:za->za->za->zb->(zQ)->Prop)(C:z4)(n:Nat):Prop:=∀(v0 v1 v2:za)(h:zb)(Q:zQ),F v0 v1 v2 h (dn Q)->C n [v0,v1,v2] h Q
structure OrdI(C:z4)(E:z6)(fL e p q s r v b k n ad md o2 sd nx pw:Nat):Prop where
 eq:J4 (zj.cps C E fL) C e
 part:J4 (ze.cps C E fL) C p
 pdq:J4 (zm.cps C E fL e p q s r v b k n) C q
 pis:J3 (zd.cps C E fL) C s
 rev:J3 (zbq.cps C E) C r
 piv:J3 (zo.cps C E ad md) C v
 brk:J3 (zi.cps C E nx pw) C b
 heap:J3 (zu.cps C E sd) C k
 ins:J3 (zy.cps C E fL) C n
 adj:J3 (zds.cps C E md) C ad
 med:∀(v0 v1 v2 v3 v4:za)(h:zb)(Q:zQ),zdw.cps C E o2 v0 v1 v2 v3 v4 h (dn Q)->C md [v0,v1,v2,v3,v4] h Q
 ord:J4 (zdv.cps C E fL) C o2
 sift:J4 (zz.cps C E fL) C sd
 next:NextI C nx
 pow:PowI C pw
theorem e4{F:za->za->za->za->za->zb->(zQ)->Prop}{G:za->za->za->za->zb->(zQ)->Prop}{C:z4}{f:Nat}(i:J4 G C f)(e:∀v0 v1 v2 v3 v4 h Q,F v0 v1 v2 v3 v4 h Q=G v0 v1 v2 v3 h Q):I5 F (Cst C) f:=
 λv0 v1 v2 v3 v4 h Q x=>i v0 v1 v2 v3 h Q (by rw[<-e v0 v1 v2 v3 v4];exact x)
theorem e3{F:za->za->za->za->zb->(zQ)->Prop}{G:za->za->za->zb->(zQ)->Prop}{C:z4}{f:Nat}(i:J3 G C f)(e:∀v0 v1 v2 v3 h Q,F v0 v1 v2 v3 h Q=G v0 v1 v2 h Q):I4 F (Cst C) f:=
 λv0 v1 v2 v3 h Q x=>i v0 v1 v2 h Q (by rw[<-e v0 v1 v2 v3];exact x)
section
variable{C:z4}{E:z6}{fL e p q s r v b k n ad md o2 sd nx pw:Nat}
theorem t_eq:∀v0 v1 v2 v3 v4 h Q,zt.cps (Cst C) E C fL v0 v1 v2 v3 v4 h Q=zj.cps C E fL v0 v1 v2 v3 h Q:=by intros;kernel_rfl
theorem t_part:∀v0 v1 v2 v3 v4 h Q,zk.cps (Cst C) E C fL v0 v1 v2 v3 v4 h Q=ze.cps C E fL v0 v1 v2 v3 h Q:=by intros;kernel_rfl
theorem t_pdq:∀v0 v1 v2 v3 v4 h Q,z0.cps (Cst C) E C fL e p q s r v b k n v0 v1 v2 v3 v4 h Q=zm.cps C E fL e p q s r v b k n v0 v1 v2 v3 h Q:=by intros;kernel_rfl
theorem t_pis:∀v0 v1 v2 v3 h Q,zg.cps (Cst C) E C fL v0 v1 v2 v3 h Q=zd.cps C E fL v0 v1 v2 h Q:=by intros;kernel_rfl
theorem t_rev:∀v0 v1 v2 v3 h Q,zdg.cps (Cst C) E C fL v0 v1 v2 v3 h Q=zbq.cps C E v0 v1 v2 h Q:=by intros;kernel_rfl
theorem t_piv:∀v0 v1 v2 v3 h Q,z3.cps (Cst C) E C fL md ad v0 v1 v2 v3 h Q=zo.cps C E ad md v0 v1 v2 h Q:=by intros;kernel_rfl
theorem t_brk:∀v0 v1 v2 v3 h Q,zw.cps (Cst C) E C fL nx pw v0 v1 v2 v3 h Q=zi.cps C E nx pw v0 v1 v2 h Q:=by intros;kernel_rfl
theorem t_heap:∀v0 v1 v2 v3 h Q,zcu.cps (Cst C) E C fL sd v0 v1 v2 v3 h Q=zu.cps C E sd v0 v1 v2 h Q:=by intros;kernel_rfl
theorem t_ins:∀v0 v1 v2 v3 h Q,zco.cps (Cst C) E C fL v0 v1 v2 v3 h Q=zy.cps C E fL v0 v1 v2 h Q:=by intros;kernel_rfl
theorem t_adj:∀v0 v1 v2 v3 h Q,zdo.cps (Cst C) E C fL md v0 v1 v2 v3 h Q=zds.cps C E md v0 v1 v2 h Q:=by intros;kernel_rfl
theorem t_med:∀v0 v1 v2 v3 v4 v5 h Q,zeq.cps (Cst C) E C fL o2 v0 v1 v2 v3 v4 v5 h Q=zdw.cps C E o2 v0 v1 v2 v3 v4 h Q:=by intros;kernel_rfl
theorem t_ord:∀v0 v1 v2 v3 v4 h Q,zep.cps (Cst C) E C fL v0 v1 v2 v3 v4 h Q=zdv.cps C E fL v0 v1 v2 v3 h Q:=by intros;kernel_rfl
theorem t_sift:∀v0 v1 v2 v3 v4 h Q,zct.cps (Cst C) E C fL v0 v1 v2 v3 v4 h Q=zz.cps C E fL v0 v1 v2 v3 h Q:=by intros;kernel_rfl
theorem OrdI.toT(J:OrdI C E fL e p q s r v b k n ad md o2 sd nx pw):Ord.PdqI (Cst C) E C fL e p q s r v b k n o2 md ad sd nx pw where
 eq:=e4 J.eq t_eq
 part:=e4 J.part t_part
 pdq:=e4 J.pdq t_pdq
 pis:=e3 J.pis t_pis
 rev:=e3 J.rev t_rev
 piv:=e3 J.piv t_piv
 brk:=e3 J.brk t_brk
 heap:=e3 J.heap t_heap
 ins:=e3 J.ins t_ins
 ord:=e4 J.ord t_ord
 med:=λv0 v1 v2 v3 v4 v5 h Q x=>J.med v0 v1 v2 v3 v4 h Q (by rw[<-t_med (C:=C) (fL:=fL) v0 v1 v2 v3 v4 v5];exact x)
 adj:=e3 J.adj t_adj
 sift:=e4 J.sift t_sift
 next:=J.next
 pow:=J.pow
theorem Sort_spec{X:Type}{cs:X->List za}{v':X->za}{h0 h:zb}{x:za}{G:List X}{R:List (List za)}{c:X->X->Int}{Q:zQ}{fl:Nat}(J:OrdI C E fL e p q s r v b k n ad md o2 sd nx pw)(hlen:LenI C fl)(S:zdm E cs v')(W:zle (zd6 c))
  (hc:Ord.zd3 C v' c fL h0) (hl:G.length <= 100000000) (ho:Rw E cs h0 h x G R) (hq:∀h' G',G'.Perm G->G'.Pairwise (λs t=>¬ c t s<0)->Rw E cs h0 h' x G' R->Q (.tup []) h'):ze8.cps C E fl q x h Q:=by
 simp -dsimp only[ze8.cps,ze8.k1,ho.lenE,toUN (show G.length<18446744073709551616 by omega),B.zh];refine hlen _ _ _ hl λr hr _=>?_;refine J.pdq _ _ _ _ _ _ ?_;rw[<-t_pdq (C:=C) _ _ _ _ .nilf];refine Ord.pdq_spec J.toT S W hc _ 0 G.length r h G _ rfl (by omega) (Nat.le_refl _) hl (λh=>by omega) ho λh' G' w s o=>zck ?_;refine hq h' G' w.perm ?_ o;rw[pairwise_iff_getElem];intro i j hi hj hij;have:=w.len;exact s i j (by omega) hij (by omega) hi hj
end
variable{C:z4}
theorem zda.frame(hC:zmm C){h0 h:zb}{l:List Ob}(ho:zda h0 h l){f:Nat}{args:List za}{K K':zQ}(x:C f args h0 K)(hk:∀v h1 h',K v h1->zda h1 h' l->K' v h'):C f args h K':=
 hC.mono _ _ _ _ _ (λv h' ⟨h1,k1,k2,k3⟩=>hk v h1 h' k1 ⟨k2,λo hm=>(ho.is o hm).zh8 λi b hf hb=>(k3 i (ho.own o hm i hf).1 b hb).1,
  λo hm i hf=>by
   obtain⟨b,hb⟩:=(ho.is o hm).known hf
   obtain⟨m1,m2⟩:=k3 i (ho.own o hm i hf).1 b hb
   exact⟨m2,λc hc=>by rw[m1]at hc;cases hc;exact(ho.own o hm i hf).2 b hb⟩,ho.apart⟩) (hC.frame _ _ _ _ _ ho.le x)
theorem RK.here{k:Nat}{p:zb->Prop}{r:List (Nat×(zb->Prop))}{h:zb}(x:p h):RK ((k,p)::r) k h:= .inl ⟨rfl,x⟩
theorem B.callv_yld{id:Nat}{args:List za}{h:zb}{K:zQ}:B.zi2 h C (.yld id) args K=C zjk (mkY id::args) h K:=rfl
variable{C:z4}{N:zN}
end Go.Ab
namespace Go.Ab
open List
variable{C:z4}{N:zN}
def zc7.Spec(C:z4)(N:zN):Prop:=∀(x y:za)(L M:List (List UInt8))(R S:List (List za))(h:zb)(Q:zQ),SlX h 1 x (L.map tc) R->SlX h 1 y (M.map tc) S->L.length<4611686018427387904->Q (.bool (decide (L=M))) h->C (N 133) [x,y] h Q
theorem zc7.spec(i:zc7.Imp C N):zc7.Spec C N:=λx y L M R S h Q hx hy hlen hq=>i x y h Q (zpe tS hx hy hlen (zck hq))
variable{C:z4}{N:zN}
abbrev icl(a:Int):List za:=[.int .i64 a]
def cmpI(a b:Int):Int:=if a<b then -1 else 1
theorem cmpI_lt{a b:Int}:cmpI a b<0↔a<b:=by unfold cmpI;split<;>simp_all
theorem weakI:zle (zd6 cmpI):=by
 constructor<;>simp only[zd6,decide_eq_true_eq,decide_eq_false_iff_not,cmpI_lt]<;>omega
theorem seqI:zdm (zcz 8 (.int .i64 0) 0) icl (λa:Int=>za.int .i64 a):=seqS (by omega) λ_=>rfl
variable{C:z4}{N:zN}
def zc6.Spec(C:z4)(N:zN):Prop:=∀(a:Int)(h:zb)(Q:zQ),Q (.bool false) h->C (N 546) [.int .i64 a] h Q
theorem zc6.spec(i:zc6.Imp C N):zc6.Spec C N:=by
 intro a h Q hq;apply i;simp -dsimp;exact zck hq
def zc4.Spec(C:z4)(N:zN):Prop:=∀(a b:Int)(h:zb)(Q:zQ),Q (.bool (decide (a<b))) h->C (N 534) [.int .i64 a,.int .i64 b] h Q
theorem zc4.spec(i:zc4.Imp C N)(s1:zc6.Spec C N):zc4.Spec C N:=by
 intro a b h Q hq;apply i;simp -dsimp;refine s1 _ _ _ ?_;simp -dsimp;exact zck hq
def zbd.Spec(C:z4)(N:zN):Prop:=∀(h0 h:zb)(x:za)(L:List Int)(R:List (List za))(Q:zQ),zda h0 h [.sl 1 x (L.map icl) R]->L.length <= 100000000->(∀h' (L':List Int),L'.Perm L->L'.Pairwise (λs t=>s <= t)->zda h0 h' [.sl 1 x (L'.map icl) R]->Q (.tup []) h')->C (N 511) [x] h Q
theorem zbd.spec(i:zbd.Imp C N)(j1:zbj.Imp C N)(j2:zb8.Imp C N)(j3:zcl.Imp C N)(j4:z7.Imp C N)
  (j5:zbt.Imp C N) (j6:zbx.Imp C N) (j7:zbs.Imp C N) (j8:zcf.Imp C N) (j9:zbr.Imp C N) (k1:zbk.Imp C N)
  (k2:zcr.Imp C N) (k3:zcq.Imp C N) (k4:zcd.Imp C N) (k5:NextI C (N 298)) (k6:PowI C (N 299)) (hl:LenI C (N 287)) (s1:zc4.Spec C N):zbd.Spec C N:=by
 intro h0 h x L R Q ho hlen hq;have J:OrdI C (zcz 8 (.int .i64 0) 0) (N 534) (N 535) (N 536) (N 531) (N 537) (N 538) (N 539) (N 540) (N 541) (N 542) (N 544) (N 545) (N 547) (N 543) (N 298) (N 299):=⟨j1,j2,j3,j4,j5,j6,j7,j8,j9,k1,k2,k3,k4,k5,k6⟩;have hc:Ord.zd3 C (λa:Int=>za.int .i64 a) cmpI (N 534) h0:=⟨λh' a b K _ hk=>s1 _ _ _ _ (by rw[show decide (a<b)=decide (cmpI a b<0) from decide_eq_decide.2 cmpI_lt.symm];exact hk)⟩;refine i _ _ _ (Sort_spec J hl seqI weakI hc hlen (show Rw _ _ _ _ _ _ _ from ho) λh' G' hp hs o'=>zck (hq h' G' hp (hs.imp λ{a b} hab=>?_) o'));rw[cmpI_lt]at hab;omega
theorem zk1:∀{S T:List Int},S.Perm T->S.Pairwise (λs t=>s <= t)->T.Pairwise (λs t=>s <= t)->S=T
 | [],T,hp,_,_=>by rw[List.Perm.nil_eq hp]
 | a::S,[],hp,_,_=>by have:=hp.length_eq;simp at this
 | a::S,b::T,hp,h1,h2=>by
  rw[pairwise_cons]at h1 h2;have e:a=b:=by
   have m1:a∈b::T:=hp.subset (mem_cons_self ..);have m2:b∈a::S:=hp.symm.subset (mem_cons_self ..);rcases mem_cons.1 m1 with e|m1
   ·exact e
   ·rcases mem_cons.1 m2 with e|m2
    ·exact e.symm
    ·have:=h1.1 b m2;have:=h2.1 a m1;omega
  subst e;rw[zk1 (perm_cons a |>.1 hp) h1.2 h2.2]
def insJ(a:Int):List Int->List Int|[]=>[a]|b::r=>if a <= b then a::b::r else b::insJ a r
def zgp:List Int->List Int|[]=>[]|a::r=>insJ a (zgp r)
theorem zok(a:Int):∀l,(insJ a l).Perm (a::l)
 | []=> .refl _
 | b::r=>by
  unfold insJ
  split
  ·exact .refl _
  ·exact((zok a r).cons b).trans (.swap ..)
theorem zgo:∀l,(zgp l).Perm l|[]=> .refl _|a::r=>(zok a _).trans ((zgo r).cons a)
theorem zoj{a:Int}:∀{l:List Int},l.Pairwise (λs t=>s <= t)->(insJ a l).Pairwise (λs t=>s <= t)
 | [],_=>pairwise_singleton _ _
 | b::r,h=>by
  have h':=h
  rw[pairwise_cons]at h
  unfold insJ
  split
  ·rename_i hab
   refine pairwise_cons.2 ⟨λc hc=>?_,h'⟩
   rcases mem_cons.1 hc with rfl|hc
   ·exact hab
   ·have:=h.1 c hc;omega
  ·rename_i hab
   refine pairwise_cons.2 ⟨λc hc=>?_,zoj h.2⟩
   rcases mem_cons.1 ((zok a r).subset hc) with rfl|hc
   ·omega
   ·exact h.1 c hc
theorem zjn:∀l,(zgp l).Pairwise (λs t=>s <= t)|[]=> .nil|a::r=>zoj (zjn r)
theorem sortJ_of{S T:List Int}(hp:S.Perm T)(hs:S.Pairwise (λs t=>s <= t)):S=zgp T:=zk1 (hp.trans (zgo T).symm) hs (zjn T)
theorem sortJ_of'{S T:List Int}(hp:S.Perm T)(hs:S.Pairwise (λs t=>s <= t)):S=zgp T:=sortJ_of hp hs
variable{C:z4}{N:zN}
def zja(p:Nat)(ps:zd0 Nam Int)(t:Int)(e:Int×Wk×Nat):Bool:=decide (e.2.1.p≠p)&&zi9 e.2.1 ps t
def keptL(s:Lk)(p:Nat)(ps:zd0 Nam Int)(t:Int):List Int:=zgp ((s.W.filter (zja p ps t)).map (·.1))
def z8.Spec(C:z4)(N:zN):Prop:=∀(h:zb)(s:Lk)(p b:Nat)(cs:List za)(ps:zd0 Nam Int)(t:Int)(Q:zQ),s.At h->s.Ok->s.W.length <= 100000->h p=some (zc0 cs)->znb h b ps->(∀x' h',zda h h' [.sl 1 x' ((keptL s p ps t).map icl) []]->Q x' h')->C (N 506) [.ptr s.l 0 0,.ptr p 0 0,.mp b,.int .i64 t] h Q
theorem z8.spec(i:z8.Imp C N)(s1:zcp.Spec C N)(s2:zbd.Spec C N):z8.Spec C N:=by
 intro h s p b cs ps t Q hs hk hlen hp hb hq;apply i;simp -dsimp only[z8.cps,z8.k4];intro i5 h5;have o1:=(zda.start h).zmt h5 [.ptr p 0 0];intro i6 h6;have o2:=o1.zmt h6 [.mp b];intro i7 h7;have o3:=o2.zmt h7 [.int .i64 t];have o4:=o3.zey 1;generalize hh:upd (upd (upd h i5 (zc0 [za.ptr p 0 0])) i6 (zc0 [za.mp b])) i7 (zc0 [za.int IntKind.i64 t])=h3 at o4 ⊢;have hs3:=hs.mono o4.le;have e1:=zdp (k:=0) hs3.1 rfl;simp -dsimp only[z8.k3,B.zdf,V.fieldAddr,Nat.zero_add,B.zh,B.zez,e1];refine zda.zpg (κ:=wV) (v:=pV) (ps:=s.W) (c:=s.c) (J:=λD l vs=>∃out',vs=[out'] /\ l=[.box (.ptr i5 0 0) [.ptr p 0 0],.box (.ptr i6 0 0) [.mp b],.box (.ptr i7 0 0) [.int .i64 t],.sl 1 out' (((D.filter (zja p ps t)).map (·.1)).map icl) []])
  (REST:=λit vs v h Y=>match vs with
   | [v10]=>B.pv (V.ext 0 v) λv20=>B.cond v20
    (B.pv (A.zen h it) λv21=>B.pv (V.ext 0 v21) λv22=>B.pv (V.ext 1 v21) λv23=>
     B.zi2 h C (.fn (N 523) [] [.ptr i5 0 0,.ptr i6 0 0,.ptr i7 0 0]) [v23] λv26 h=>B.cond v26
     (B.zf2 h (zeh [(0,none,v22)] (zh4 1 [.int .i64 0])) λi29 h=>B.appW h 1 8 v10 (.sl i29 0 0 1 1 1) λv30 h=>Y [v30] h) (Y [v10] h))
    (B.call C (N 511) [v10] h λv32 h=>dn Q v10 h)
   | _=>False) o4 hs.2.1 hk.zpw ⟨.zey,rfl,rfl⟩ ?_ ?_ ?_
 ·rintro it vs h4 Y D l ⟨out',rfl,_⟩ hn
  exact hn
 ·rintro it h4 D l bb Y vs ⟨out',rfl,rfl⟩ hpm ho
  simp -dsimp only[V.zfy,getElem?_cons_zero,B.zh,B.cond_false];have hsub:zda h h4 [.sl 1 out' (((D.filter (zja p ps t)).map (·.1)).map icl) []]:=ho.sub (.cons _ (.cons _ (.cons _ (.cons_cons _ (nil_sublist _)))));have hl:((D.filter (zja p ps t)).map (·.1)).length <= 100000000:=by
   have h1:=length_filter_le (zja p ps t) D;have h2:=hpm.length_eq;rw[length_map];omega
  refine s2 h h4 out' _ [] _ hsub hl λh5 L' hL hS o5=>?_;have e:L'=keptL s p ps t:=sortJ_of' (hL.trans ((hpm.filter _).map _)) hS;rw[e]at o5;exact zck (hq _ _ o5)
 ·rintro it h4 D l bb Y vs q hqm ⟨out',rfl,rfl⟩ hsub hqD hDl ho he hY
  simp -dsimp only[V.zfy,getElem?_cons_zero,getElem?_cons_succ,B.zh,B.cond_true,he];rw[B.callv_fn];obtain⟨j5,e5,b5⟩:=ho.boxAt 0 rfl;obtain⟨j6,e6,b6⟩:=ho.boxAt 1 rfl;obtain⟨j7,e7,b7⟩:=ho.boxAt 2 rfl;cases e5;cases e6;cases e7;refine s1 h4 q.2.1 p b i5 i6 i7 cs ps t _ ((hs.mono ho.le).2.2 q hqm) (ho.le _ _ hp) (hb.mono ho.le) b5 b6 b7 ?_;refine B.zb0 (λhd=>?_) (λhd=>?_)
  ·have hd':zja p ps t q=true:=hd
   have hf:zeh [(0,none,wV q.1)] (zh4 1 [.int .i64 0])=some [.int .i64 q.1]:=rfl;simp -dsimp only[hf];have hl:=length_filter_le (zja p ps t) D;refine ho.push 3 rfl (cs:=[.int .i64 q.1]) rfl (by omega) (by simp;omega) (by simp[maxLen];omega) λout2 h5 o5 _=>?_;refine hY h5 [.box (.ptr i5 0 0) [.ptr p 0 0],.box (.ptr i6 0 0) [.mp b],.box (.ptr i7 0 0) [.int .i64 t],.sl 1 out2 ((((D++[q]).filter (zja p ps t)).map (·.1)).map icl) []] _ ⟨out2,rfl,rfl⟩ ?_;rw[filter_append,map_append,map_append];simp only[List.filter,hd',map_cons,map_nil];exact o5
  ·have hd':zja p ps t q=false:=hd
   refine hY h4 _ _ ⟨out',rfl,rfl⟩ ?_;rw[filter_append];simp only[List.filter,hd',append_nil];exact ho
variable{C:z4}{N:zN}
theorem lkpW{h:zb}{m c:Nat}{W:zd0 Int Wk}(hb:h m=some (zd9 (zgy wV pV W) c))(k:Int):A.lkp h (some .i) (some .zg4) false (.mp m) (.int .i64 k)=some (match zfs W k with|some w=> .ptr w.p 0 0|none=> .zg4):=by
 have hf:=zjx (v:=pV) keyI k W 0;simp only[A.lkp,A.entries,zg0 hb,zly];rw[show V.zo5 .i (.int .i64 k) (zgy wV pV W) 0=_ from hf];cases zli W k with
 | none=>rfl
 | some x=>rfl
def zba.Spec(C:z4)(N:zN):Prop:=∀(h:zb)(s:Lk)(Q:zQ),s.At h->Q (.bool true) h->C (N 505) [.ptr s.l 0 0] h Q
theorem zba.spec(i:zba.Imp C N):zba.Spec C N:=by
 intro h s Q hs hq;apply i;have e1:=zdp (k:=0) hs.1 rfl;have ep:V.zfe .neq (.ptr s.l 0 0) .zg4=some (.bool true):=rfl;have em:V.eqMap .neq (.mp s.m) .zji=some (.bool true):=rfl;simp +contextual -dsimp[e1,ep,em,V.fieldAddr];exact zck hq
def zba.zgu(C:z4)(N:zN):Prop:=∀(h:zb)(x:za)(Q:zQ),(x= .zg4 \/ ∃l n,x= .ptr l 0 0 /\ h l=some (zc0 [.zji,n]))->Q (.bool false) h->C (N 505) [x] h Q
theorem zba.spo(i:zba.Imp C N):zba.zgu C N:=by
 intro h x Q hx hq;apply i;rcases hx with rfl|⟨l,n,rfl,hl⟩
 ·have ep:V.zfe .neq .zg4 .zg4=some (.bool false):=rfl
  simp +contextual -dsimp[ep];exact zck hq
 ·have e1:=zdp (k:=0) hl rfl
  have ep:V.zfe .neq (.ptr l 0 0) .zg4=some (.bool true):=rfl;have em:V.eqMap .neq .zji .zji=some (.bool false):=rfl;simp +contextual -dsimp[e1,ep,em,V.fieldAddr];exact zck hq
def zd4(s:Lk)(k:Int):List Int:=
 match zfs s.W k with
 | none=>[]
 | some w=>if w.zgz=0 then [] else keptL s w.p w.zel w.zgz
def zbf.Spec(C:z4)(N:zN):Prop:=∀(h:zb)(s:Lk)(k:Int)(Q:zQ),s.At h->s.Ok->s.W.length <= 100000->(∀x' h',zda h h' [.sl 1 x' ((zd4 s k).map icl) []]->Q x' h')->C (N 491) [.ptr s.l 0 0,.int .i64 k] h Q
theorem zbf.spec(i:zbf.Imp C N)(s1:zba.Spec C N)(s2:z8.Spec C N):zbf.Spec C N:=by
 intro h s k Q hs hk hlen hq;apply i;have e1:=zdp (k:=0) hs.1 rfl;have el:=lkpW hs.2.1 k;refine s1 h s _ hs ?_;cases ew:zfs s.W k with
 | none=>
  rw[ew]at el;have ep:V.zfe .eql .zg4 .zg4=some (.bool true):=rfl;simp +contextual -dsimp[e1,el,ep,V.fieldAddr];have hw:zd4 s k=[]:=by simp[zd4,ew]
  rw[hw]at hq;exact zck (hq _ _ ((zda.start h).zey 1))
 | some w=>
  rw[ew]at el;obtain⟨n,hn⟩:=zgw ew;have hw:=hs.2.2 _ hn;have f1:=zdp (k:=1) hw.1 rfl;have f2:=zdp (k:=2) hw.1 rfl;have ep:V.zfe .eql (.ptr w.p 0 0) .zg4=some (.bool false):=rfl;simp +contextual -dsimp[e1,el,ep,f1,f2,V.fieldAddr];refine B.zb0 (λhc=>?_) (λhc=>?_)<;>simp +contextual -dsimp[e1,el,f1,f2,V.fieldAddr]at hc ⊢
  ·have hw:zd4 s k=[]:=by simp[zd4,ew,hc]
   rw[hw]at hq;exact zck (hq _ _ ((zda.start h).zey 1))
  ·have hw2:zd4 s k=keptL s w.p w.zel w.zgz:=by simp[zd4,ew,hc]
   rw[hw2]at hq;exact s2 h s w.p w.wm _ w.zel w.zgz _ hs hk hlen hw.1 hw.2.2 λx' h' o=>zck (hq x' h' o)
variable{C:z4}{N:zN}{K T:Type}{κ:K->za}{v:T->za}
theorem zpf(hG:zmm C){ps:zd0 K T}{m c id:Nat}{I:zd0 K T->zb->Prop}{Z:zb->Prop}{h:zb}{Q:zQ}{Lp:za->zG}
  (hm:∀D h,I D h->h m=some (zd9 (zgy κ v ps) c)) (hb:zev ps c)
  (heq:∀it hh Y,(B.zd2 hh it λv6 h=>B.pv (V.ext 0 v6) λv7=>B.cond v7 (B.pv (A.zen h it) λv8=>B.pv (V.ext 0 v8) λv9=>B.zi2 h C (.yld id) [v9] λv12 h=>B.pv (V.un .not v12) λv13=>B.cond v13 (Q (.tup []) h) (Y [] h)) (Q (.tup []) h))->Lp it [] hh Y)
  (hr:∀D p h,p∈ps->p∉D->D.length<ps.length->I D h->C zjk (mkY id::[κ p.1]) h λv h'=>(v= .bool true /\ I (D++[p]) h') \/ (v= .bool false /\ Z h'))
  (h0:I [] h) (hend:∀D h1 h',D.Perm ps->I D h1->h1.le h'->Q (.tup []) h') (hZ:∀h1 h',Z h1->h1.le h'->Q (.tup []) h'):B.rangeMap h (.mp m) λv h=>zbw (Lp v) [] h:=by
 show A.rangeMap h (.mp m) _;simp only[A.rangeMap,zg0 (hm [] h h0)];intro it hit;have ho:zda h (upd h it (ze6 (.mapIter (some m) c [] c))) ([]++[.blk it (zec m c (([]:zd0 K T).map (·.2.2)) c)]):=(zda.start h).zkm (b:=zec m c [] c) hit rfl;refine zbw.intro (λt vs hh=>vs=[] /\ ∃(D:zd0 K T)(h1:zb),D.length+t=ps.length /\ (∀q∈D,q∈ps) /\ (D.map (·.2.2)).Nodup /\ I D h1 /\ zda h1 hh [.blk it (zec m c (D.map (·.2.2)) c)]) ps.length ?_ ⟨rfl,[],h,by simp,by simp,List.Pairwise.nil,h0,ho⟩;rintro Y t vs hh ⟨rfl,D,h1,ht,hD,hnd,hI,o⟩ hY;refine heq _ _ _ ?_;refine o.nextMapB 0 (seen:=D.map (·.2.2)) (since:=c) (last:=c) (o.le _ _ (hm D h1 hI)) rfl hb (Nat.le_refl _) (Nat.le_refl _) (λhall=>?_) λp hp hns h' o' hk he=>?_
 ·simp -dsimp only[V.zfy,getElem?_cons_zero,B.zh,B.cond_false]
  exact hend D h1 hh (hb.all hD hnd hall) hI o.le
 ·have o'':zda h1 h' [.blk it (zec m c ((D++[p]).map (·.2.2)) c)]:=by simpa using o'
  have hpD:p∉D:=λhm=>hns (mem_map.2 ⟨p,hm,rfl⟩);have nd2:((D++[p]).map (·.2.2)).Nodup:=by
   rw[map_append,nodup_append];exact⟨hnd,by simp,λx hx y hy e=>hns (by rw[map_cons,map_nil,mem_singleton]at hy;rw[<-hy,<-e];exact hx)⟩
  have sub:∀q∈D++[p],q∈ps:=λq hq=>by
   rcases mem_append.1 hq with h|h
   ·exact hD q h
   ·rw[mem_singleton.1 h];exact hp
  have hl:(D++[p]).length <= ps.length:=List.Nodup.length_le_of_subset (List.Pairwise.of_map (S:=(· ≠ ·)) (λp:K×T×Nat=>p.2.2) (λa b h e=>h (by rw[e])) nd2) sub;rw[length_append]at hl;have hl:D.length+1 <= ps.length:=hl;simp -dsimp only[V.zfy,getElem?_cons_zero,B.zh,B.cond_true,he];rw[B.callv_yld];refine o''.frame hG (hr D p h1 hp hpD (by omega) hI) λw h2 h3 hw o2=>?_;rcases hw with⟨e,h4⟩|⟨e,h4⟩
  ·simp -dsimp only[e,V.ze3,Bool.not_true,B.cond_false,B.zh]
   exact hY (t-1) _ _ (by omega) ⟨rfl,D++[p],h2,by rw[length_append,length_singleton];omega,sub,nd2,h4,o2⟩
  ·simp -dsimp only[e,V.ze3,Bool.not_false,B.cond_true,B.zh]
   exact hZ h2 h3 h4 o2.le
def IterK(C:z4)(g:Nat)(zht:List za)(M:zb->Prop)(κ:K->za)(ps:zd0 K T):Prop:=∀(id:Nat)(I:zd0 K T->zb->Prop)(Z:zb->Prop)(h:zb)(Q:zQ),(∀D h,I D h->M h)->(∀D p h,p∈ps->p∉D->D.length<ps.length->I D h->C zjk (mkY id::[κ p.1]) h λv h'=>(v= .bool true /\ I (D++[p]) h') \/ (v= .bool false /\ Z h'))->I [] h->(∀D h,D.Perm ps->I D h->Q (.tup []) h)->(∀h,Z h->Q (.tup []) h)->C g ([.yld id]++zht) h Q
theorem range_iterK{g:Nat}{zht:List za}{M:zb->Prop}{ps:zd0 K T}{W:List za->zb->(Nat->zb->Prop)->Prop}{h:zb}{R:Nat->zb->Prop}(hi:IterK C g zht M κ ps)(hM:∀h h',h.le h'->M h->M h')
  (J:zd0 K T->zb->Prop) (hJ:∀D h,J D h->M h) (round:∀D p h E,p∈ps->p∉D->D.length<ps.length->J D h->(∀h',J (D++[p]) h'->E 0 h')->W [κ p.1] h E)
  (h0:J [] h) (hend:∀D h,D.Perm ps->J D h->R 0 h):zm5 C (.fn g [] zht) W h R:=by
 intro mk _ id hid hround;refine hi id (λD h2=>∃h1:zb,h1 id=none /\ h2=upd h1 id (mk 0) /\ J D h1) (λh2=>False) _ _ ?_ ?_ ⟨h,hid,rfl,h0⟩ ?_ ?_
 ·rintro D _ ⟨h1,e,rfl,hj⟩
  exact hM _ _ (ze5 _ e) (hJ D h1 hj)
 ·rintro D p _ hp hpD hl ⟨h1,e,rfl,hj⟩
  exact hround [κ p.1] h1 _ e (round D p h1 _ hp hpD hl hj (λh' hj'=>⟨h',zb.le_refl h',λe'=> .inl ⟨rfl,h',e',rfl,hj'⟩⟩))
 ·rintro D _ hp ⟨h1,e,rfl,hj⟩
  exact⟨0,h1,e,zb.le_refl _,hend D h1 hp hj⟩
 ·intro _ hf
  exact hf.elim
variable{C:z4}{N:zN}
section
variable{α:Type}[DecidableEq α]
end
variable{C:z4}{N:zN}
def far:Nat:=140737488351232
section
variable{h h':zb}{x:za}{b:List UInt8}
end
abbrev AllAt(h:zb)(l:List Ob):Prop:=∀o∈l,o.at h
structure DK(T Ad:Type) where
 n:Nat
 bytes:Nat
 z:List za
 pos:0<n
 small:bytes <= 1000
 zlen:z.length=n
 cells:T->Ad->List za
 len:∀t a,(cells t a).length=n
 at_:zb->T->Ad->Prop
 mono:∀{h h':zb}{t:T}{a:Ad},h.le h'->at_ h t a->at_ h' t a
 ok:T->Prop
 at_ok:∀{h:zb}{t:T}{a:Ad},at_ h t a->ok t
 obs:Bool->T->Ad->List Ob
 ofObs:∀{b:Bool}{h:zb}{t:T}{a:Ad},ok t->AllAt h (obs b t a)->at_ h t a
section
variable{T Ad:Type}(K:DK T Ad)
variable{K}{h h' h0:zb}{x:za}{L M:List T}
end
variable{C:z4}{N:zN}
structure Turn where
 Key:List UInt8
 Old:List UInt8
 New:List UInt8
 deriving DecidableEq
abbrev zf4:List UInt8->List UInt8->Bool:=Op.bytesLess
theorem lessB_nil(a:List UInt8):zf4 a []=false:=by cases a<;>rfl
theorem zls(a b:UInt8)(as1 bs:List UInt8):zf4 (a::as1) (b::bs)=(decide (a<b)||(a==b&&zf4 as1 bs)):=rfl
theorem u8_tri(a b:UInt8):a<b \/ a=b \/ b<a:=by
 simp only[UInt8.lt_iff_toNat_lt,<-UInt8.toNat_inj];omega
theorem lessB_irr:∀a:List UInt8,zf4 a a=false
 | []=>rfl
 | a::as1=>by rw[zls,lessB_irr as1];simp
theorem ziw:∀{a b c:List UInt8},zf4 a b=true->zf4 b c=true->zf4 a c=true
 | _,[],_,h,_=>by rw[lessB_nil]at h;cases h
 | _,_::_,[],_,h=>by rw[lessB_nil]at h;cases h
 | [],_::_,_::_,_,_=>rfl
 | a::as1,b::bs,c::cs,h1,h2=>by
  rw[zls]at h1 h2 ⊢
  simp only[Bool.or_eq_true,decide_eq_true_eq,Bool.and_eq_true,beq_iff_eq]at h1 h2 ⊢
  rcases h1 with h1|⟨rfl,h1⟩
  ·rcases h2 with h2|⟨rfl,h2⟩
   ·left;simp only[UInt8.lt_iff_toNat_lt]at *;omega
   ·exact .inl h1
  ·rcases h2 with h2|⟨rfl,h2⟩
   ·exact .inl h2
   ·exact .inr ⟨rfl,ziw h1 h2⟩
theorem zof:∀{a b:List UInt8},zf4 a b=false->zf4 b a=false->a=b
 | [],[],_,_=>rfl
 | [],_::_,h,_=>by cases h
 | _::_,[],_,h=>by cases h
 | a::as1,b::bs,h1,h2=>by
  rw[zls]at h1 h2
  simp only[Bool.or_eq_false_iff,decide_eq_false_iff_not,Bool.and_eq_false_iff,beq_eq_false_iff_ne]at h1 h2
  obtain rfl:a=b:=by rcases u8_tri a b with h|h|h<;>simp_all
  rw[zof (h1.2.resolve_left λh=>h rfl) (h2.2.resolve_left λh=>h rfl)]
theorem zpl{a b:List UInt8}(h:zf4 a b=true):zf4 b a=false:=by
 cases e:zf4 b a with
 | false=>rfl
 | true=>have:=ziw h e;rw[lessB_irr]at this;cases this
theorem lessB_or{a b:List UInt8}(h:zf4 a b=false)(hne:a≠b):zf4 b a=true:=by
 cases e:zf4 b a with
 | true=>rfl
 | false=>exact absurd (zof h e) hne
abbrev cmpB:=Lib.compareBytes
theorem cmpB_spec:∀a b:List UInt8,cmpB a b=if zf4 a b then -1 else if zf4 b a then 1 else 0
 | [],[]=>rfl
 | [],_::_=>rfl
 | _::_,[]=>rfl
 | a::as1,b::bs=>by
  have ih:=cmpB_spec as1 bs
  show (if a<b then -1 else if b<a then 1 else cmpB as1 bs)=_
  rw[ih,zls,zls]
  rcases u8_tri a b with h|rfl|h
  ·simp[h]
  ·have hi:¬ a<a:=by simp only[UInt8.lt_iff_toNat_lt];omega
   simp
  ·have h1:¬ a<b:=by simp only[UInt8.lt_iff_toNat_lt]at *;omega
   have h2:a≠b:=λe=>by subst e;exact h1 h
   have h3:(a==b)=false:=by simp[h2]
   simp[h,h1,h3]
theorem cmpB_neg{a b:List UInt8}:cmpB a b<0↔zf4 a b=true:=by
 rw[cmpB_spec];split
 ·simp[*]
 ·split<;>simp[*]
theorem rise_ext{T:Type}{lt:T->T->Prop}(asym:∀a b,lt a b->lt b a->False){l m:List T}(s:l.Pairwise lt)(t:m.Pairwise lt)(e:∀x,x∈l↔x∈m):l=m:=by
 have nd:∀{l:List T},l.Pairwise lt->l.Nodup:=λh=>h.imp λ{a b} hab e=>by subst e;exact asym a a hab hab
 exact List.Perm.eq_of_pairwise (le:=lt) (λa b _ _ h1 h2=>(asym a b h1 h2).elim) s t ((perm_ext_iff_of_nodup (nd s) (nd t)).2 e)
variable{C:z4}{N:zN}
theorem V.bin_slss(a b:List UInt8):V.bin .lss (.str a) (.str b)=some (.bool (zf4 a b)):=rfl
theorem weakB:zle (zd6 cmpB):=by
 constructor<;>simp only[zd6,decide_eq_true_eq,decide_eq_false_iff_not,cmpB_neg]
 ·intro a b h;rw[zpl h];simp
 ·intro a b c h1 h2 h3
  have h1:zf4 a b=false:=by simpa using h1
  have h2:zf4 b c=false:=by simpa using h2
  by_cases e:a=b
  ·subst e;rw[h2]at h3;cases h3
  ·have:=ziw (lessB_or h1 e) h3
   rw[h2]at this;cases this
def zcy.Spec(C:z4)(N:zN):Prop:=∀(a:List UInt8)(h:zb)(Q:zQ),Q (.bool false) h->C (N 389) [.str a] h Q
theorem zcy.spec(i:zcy.Imp C N):zcy.Spec C N:=by
 intro a h Q hq;apply i;simp -dsimp;exact zck hq
def zcw.Spec(C:z4)(N:zN):Prop:=∀(a b:List UInt8)(h:zb)(Q:zQ),Q (.bool (zf4 a b)) h->C (N 377) [.str a,.str b] h Q
theorem zcw.spec(i:zcw.Imp C N)(s1:zcy.Spec C N):zcw.Spec C N:=by
 intro a b h Q hq;apply i;simp -dsimp;refine s1 _ _ _ ?_;simp -dsimp[V.bin_slss];exact zck hq
def SortedB(L:List (List UInt8)):Prop:=L.Pairwise λs t=>zf4 t s=false
def zbe.Spec(C:z4)(N:zN):Prop:=∀(h0 h:zb)(x:za)(L:List (List UInt8))(R:List (List za))(Q:zQ),zda h0 h [.sl 1 x (L.map tc) R]->L.length <= 100000000->(∀h' (L':List (List UInt8)),L'.Perm L->SortedB L'->zda h0 h' [.sl 1 x (L'.map tc) R]->Q (.tup []) h')->C (N 364) [x] h Q
theorem seqT:zdm (zcz 16 (.str []) 0) tc (λa:List UInt8=>za.str a):=seqS (by omega) λ_=>rfl
theorem zbe.spec(i:zbe.Imp C N)(j1:zbg.Imp C N)(j2:zb1.Imp C N)(j3:zce.Imp C N)(j4:z5.Imp C N)
  (j5:zbp.Imp C N) (j6:zbu.Imp C N) (j7:zbm.Imp C N) (j8:zb9.Imp C N) (j9:zbl.Imp C N) (k1:zbh.Imp C N)
  (k2:zcn.Imp C N) (k3:zcm.Imp C N) (k4:zb7.Imp C N) (k5:NextI C (N 298)) (k6:PowI C (N 299)) (hl:LenI C (N 287)) (s1:zcw.Spec C N):zbe.Spec C N:=by
 intro h0 h x L R Q ho hlen hq;have J:OrdI C (zcz 16 (.str []) 0) (N 377) (N 378) (N 379) (N 375) (N 380) (N 381) (N 382) (N 383) (N 384) (N 385) (N 387) (N 388) (N 390) (N 386) (N 298) (N 299):=⟨j1,j2,j3,j4,j5,j6,j7,j8,j9,k1,k2,k3,k4,k5,k6⟩;have hc:Ord.zd3 C (λa:List UInt8=>za.str a) cmpB (N 377) h0:=⟨λh' a b K _ hk=>s1 _ _ _ _ (by
  rw[show zf4 a b=decide (cmpB a b<0) by rw[Bool.eq_iff_iff,decide_eq_true_eq];exact cmpB_neg.symm];exact hk)⟩
 refine i _ _ _ (Sort_spec J hl seqT weakB hc hlen (show Rw _ _ _ _ _ _ _ from ho) λh' G' hp hs o'=>zck (hq h' G' hp (hs.imp λ{a b} hab=>?_) o'));rw[cmpB_neg]at hab;simpa using hab
variable{C:z4}{N:zN}{K T:Type}{κ:K->za}{v:T->za}
theorem keysS_iter(hG:zmm C)(i:zp.Imp C N){j m c:Nat}{ps:zd0 Nam Int}(hb:zev ps c):IterK C (N 524) [.ptr j 0 0] (λh=>h j=some (zc0 [.mp m]) /\ h m=some (zd9 (zgy nV wV ps) c)) nV ps:=by
 intro id I Z h Q hD hr h0 hend hZ;refine i (.yld id) (.ptr j 0 0) h Q ?_;obtain⟨d1,d2⟩:=hD [] h h0;have e1:=zdp (k:=0) d1 rfl;simp -dsimp only[zp.cps,B.zez,e1,B.zh];exact zpf hG (λD h hI=>(hD D h hI).2) hb (λit hh Y hn=>hn) hr h0 (λD h1 h' hp hI hle=>dn_le hle (hend D h1 hp hI)) (λh1 h' hz hle=>dn_le hle (hZ h1 hz))
theorem keysI_iter(hG:zmm C)(i:zl.Imp C N){j m c:Nat}{ps:zd0 Int Wk}(hb:zev ps c):IterK C (N 525) [.ptr j 0 0] (λh=>h j=some (zc0 [.mp m]) /\ h m=some (zd9 (zgy wV pV ps) c)) wV ps:=by
 intro id I Z h Q hD hr h0 hend hZ;refine i (.yld id) (.ptr j 0 0) h Q ?_;obtain⟨d1,d2⟩:=hD [] h h0;have e1:=zdp (k:=0) d1 rfl;simp -dsimp only[zl.cps,B.zez,e1,B.zh];exact zpf hG (λD h hI=>(hD D h hI).2) hb (λit hh Y hn=>hn) hr h0 (λD h1 h' hp hI hle=>dn_le hle (hend D h1 hp hI)) (λh1 h' hz hle=>dn_le hle (hZ h1 hz))
theorem zpx{g bytes:Nat}{z:za}{zht:List za}{M:zb->Prop}{ps:zd0 K T}{h:zb}{Q:zQ}(hi:IterK C g zht M κ ps)(hM:∀h h',h.le h'->M h->M h')(hlen:ps.length <= 100000)(hby:bytes <= 16)
  (hfill:∀k,zeh [(0,none,κ k)] (zh4 1 [z])=some [κ k]) (hMh:M h) (hq:∀(x':za)(h':zb)(D:zd0 K T),D.Perm ps->zda h h' [.sl 1 x' (D.map λp=>[κ p.1]) []]->Q x' h'):zci.cps C (zcz bytes z 0) .zey (.fn g [] zht) h Q:=by
 simp -dsimp only[zci.cps,zci.k3];intro i2 h2;have o1:=((zda.start h).zmt h2 [.zey]).zey 1;refine range_iterK hi hM (λD hh=>∃x,zda h hh [.box (.ptr i2 0 0) [x],.sl 1 x (D.map λp=>[κ p.1]) []]) (λD hh ⟨x,o⟩=>hM _ _ o.le hMh) ?_ ⟨.zey,o1⟩ ?_
 ·rintro D p hh E hp hpD hl ⟨x,o⟩ hE
  obtain⟨j,e,b⟩:=o.boxAt 0 rfl;cases e;have e1:=zdp (k:=0) b rfl;show zci.r2 _ _ _ _ _ _ _;have hf:zeh [(0,(zcz bytes z 0).kp,κ p.1)] (zh4 1 (zcz bytes z 0).z)=some [κ p.1]:=hfill p.1;simp -dsimp only[zci.r2,zci.k1,B.zez,e1,B.zh,hf];have hb:(D.length+1)*bytes <= 140737488355328:=Nat.le_trans (Nat.mul_le_mul (Nat.succ_le_of_lt (Nat.lt_of_lt_of_le hl hlen)) hby) (by decide);refine o.push 1 rfl (cs:=[κ p.1]) rfl (show 0<1 by decide) (show ((D.map λp=>[κ p.1]).length+1)*bytes <= _ by rw[length_map];exact hb) (by simp[maxLen];omega) λx2 h3 o3 _=>?_;refine o3.boxSt 0 rfl (o3.zov 1 rfl).zdz (by simp) λh4 o4 _=>?_;exact hE h4 ⟨x2,by rw[map_append];exact o4⟩
 ·rintro D hh hp ⟨x,o⟩
  obtain⟨j,e,b⟩:=o.boxAt 0 rfl;cases e;have e1:=zdp (k:=0) b rfl;refine RK.here ?_;simp -dsimp only[B.zez,e1,B.zh];exact hq x hh D hp (o.sub (.cons _ (.cons_cons _ (nil_sublist _))))
variable{C:z4}{N:zN}{K T:Type}{κ:K->za}{v:T->za}
def zb3.Spec(C:z4)(N:zN):Prop:=∀(g:Nat)(zht:List za)(M:zb->Prop)(ps:zd0 Nam Int)(h:zb)(Q:zQ),IterK C g zht M nV ps->(∀h h',h.le h'->M h->M h')->ps.length <= 100000->M h->(∀(x':za)(h':zb)(L:List Nam),L.Perm (zca ps)->SortedB L->zda h h' [.sl 1 x' (L.map tc) []]->Q x' h')->C (N 510) [.fn g [] zht] h Q
theorem zb3.spec(i:zb3.Imp C N)(i2:zcx.Imp C N)(i3:zb2.Imp C N)(s1:zbe.Spec C N):zb3.Spec C N:=by
 intro g zht M ps h Q hi hM hlen hMh hq;apply i;simp -dsimp only[zb3.cps];apply i2;simp -dsimp only[zcx.cps];apply i3;refine zpx hi hM hlen (by decide) (λk=>rfl) hMh λx' h' D hp o=>?_;refine zck (zck ?_);have o':zda h h' [.sl 1 x' ((D.map (·.1)).map tc) []]:=by rw[map_map];exact o
 refine s1 h h' x' (D.map (·.1)) [] _ o' (by rw[length_map,hp.length_eq];omega) λh2 L hL hS o2=>?_;exact zck (hq x' h2 L (hL.trans (hp.map _)) hS o2)
def zcc.Spec(C:z4)(N:zN):Prop:=∀(g:Nat)(zht:List za)(M:zb->Prop)(ps:zd0 Int Wk)(h:zb)(Q:zQ),IterK C g zht M wV ps->(∀h h',h.le h'->M h->M h')->ps.length <= 100000->M h->(∀(x':za)(h':zb),zda h h' [.sl 1 x' ((zgp (zca ps)).map icl) []]->Q x' h')->C (N 515) [.fn g [] zht] h Q
theorem zcc.spec(i:zcc.Imp C N)(i2:zc3.Imp C N)(i3:zcg.Imp C N)(s1:zbd.Spec C N):zcc.Spec C N:=by
 intro g zht M ps h Q hi hM hlen hMh hq;apply i;simp -dsimp only[zcc.cps];apply i2;simp -dsimp only[zc3.cps];apply i3;refine zpx hi hM hlen (by decide) (λk=>rfl) hMh λx' h' D hp o=>?_;refine zck (zck ?_);have o':zda h h' [.sl 1 x' ((D.map (·.1)).map icl) []]:=by rw[map_map];exact o
 refine s1 h h' x' (D.map (·.1)) [] _ o' (by rw[length_map,hp.length_eq];omega) λh2 L hL hS o2=>?_;have e:L=zgp (zca ps):=sortJ_of' (hL.trans (hp.map _)) hS;rw[e]at o2;exact zck (hq x' h2 o2)
def zo2(s:Lk)(k:Int):zd0 Nam Int:=match zfs s.W k with
 | none=>[]
 | some w=>w.held
def zbn.Spec(C:z4)(N:zN):Prop:=∀(h:zb)(s:Lk)(k:Int)(Q:zQ),s.At h->s.Ok->(zo2 s k).length <= 100000->(∀(x':za)(h':zb)(L:List Nam),L.Perm (zca (zo2 s k))->SortedB L->zda h h' [.sl 1 x' (L.map tc) []]->Q x' h')->C (N 490) [.ptr s.l 0 0,.int .i64 k] h Q
theorem zbn.spec(i:zbn.Imp C N)(hG:zmm C)(i2:zbc.Imp C N)(i3:zp.Imp C N)(s1:zba.Spec C N)(s2:zb3.Spec C N):zbn.Spec C N:=by
 intro h s k Q hs hk hlen hq;apply i;have e1:=zdp (k:=0) hs.1 rfl;have el:=lkpW hs.2.1 k;refine s1 h s _ hs ?_;cases ew:zfs s.W k with
 | none=>
  rw[ew]at el;have ep:V.zfe .eql .zg4 .zg4=some (.bool true):=rfl;simp +contextual -dsimp[e1,el,ep,V.fieldAddr];have hw:zo2 s k=[]:=by simp[zo2,ew]
  rw[hw]at hq;exact zck (hq _ _ [] (.refl _) .nil ((zda.start h).zey 1))
 | some w=>
  rw[ew]at el;obtain⟨n,hn⟩:=zgw ew;have hw:=hs.2.2 _ hn;have f1:=zdp (k:=0) hw.1 rfl;have ep:V.zfe .eql (.ptr w.p 0 0) .zg4=some (.bool false):=rfl;have he:zo2 s k=w.held:=by simp[zo2,ew]
  rw[he]at hq hlen;simp +contextual -dsimp[e1,el,ep,f1,V.fieldAddr];apply i2;simp -dsimp only[zbc.cps];intro i1 h1;have o1:=(zda.start h).zmt h1 [.mp w.hm];refine zck ?_;obtain⟨c,g1,g2,g3,g4⟩:=hw.2.1;refine s2 (N 524) [.ptr i1 0 0] _ w.held _ _ (keysS_iter hG i3 (m:=w.hm) g2) (λa b hle ⟨x,y⟩=>⟨hle _ _ x,hle _ _ y⟩) hlen ⟨zbo ..,o1.le _ _ g1⟩ λx' h' L hL hS o=>?_;exact zck (hq x' h' L hL hS (o.back o1.le))
variable{C:z4}{N:zN}
structure Itm where
 Code:List UInt8
 Life:Int
 Parts:List Part
 Others:List (List UInt8)
 deriving DecidableEq
abbrev Key:=List UInt8
abbrev zot(l:List Key):Prop:=l.Pairwise λa b=>zf4 a b=true
theorem riseB_ext{l m:List Key}(s:zot l)(t:zot m)(e:∀x,x∈l↔x∈m):l=m:=
 rise_ext (λa b h1 h2=>by rw[zpl h1]at h2;cases h2) s t e
def putT:List Key->Key->List Key|[],s=>[s]|x::l,s=>if zf4 x s=true then x::putT l s else if x=s then x::l else s::x::l
theorem znj{s y:Key}:∀{l:List Key},y∈putT l s↔y=s \/ y∈l
 | []=>by simp[putT]
 | x::l=>by
  unfold putT
  split
  ·rw[mem_cons,znj,mem_cons]
   constructor
   ·rintro(h|h|h)
    ·exact .inr (.inl h)
    ·exact .inl h
    ·exact .inr (.inr h)
   ·rintro(h|h|h)
    ·exact .inr (.inl h)
    ·exact .inl h
    ·exact .inr (.inr h)
  ·split
   ·rename_i h
    subst h
    simp only[mem_cons]
    constructor
    ·exact λh=> .inr h
    ·rintro(h|h)
     ·exact .inl h
     ·exact h
   ·simp only[mem_cons]
theorem zn3{s:Key}:∀{l:List Key},zot l->zot (putT l s)
 | [],_=>pairwise_singleton _ _
 | x::l,h=>by
  obtain⟨h1,h2⟩:=pairwise_cons.1 h;unfold putT;split
  ·rename_i hx
   refine pairwise_cons.2 ⟨λy hy=>?_,zn3 h2⟩;rcases znj.1 hy with rfl|hy
   ·exact hx
   ·exact h1 y hy
  ·split
   ·exact h
   ·rename_i h3 h4
    have hs:zf4 s x=true:=by
     have:zf4 x s=false:=by simpa using h3
     exact lessB_or this h4
    refine pairwise_cons.2 ⟨λy hy=>?_,h⟩;rcases mem_cons.1 hy with rfl|hy
    ·exact hs
    ·exact ziw hs (h1 y hy)
section
variable{I J:List Itm}{all inn:List Key}
end
structure DW where
 Id:Int
 zll:List Key
 Wants:List Key
 Turn:Int
structure DL where
 L:List DW
 zou:Int
def meetD(a b:List Key):Bool:= !a.isEmpty&&(!b.isEmpty&&(decide ([42]∈a)||(decide ([42]∈b)||a.any λx=>decide (x∈b))))
def keepsD(w:DW)(zel:List Key)(zgz:Int):Bool:=meetD w.zll zel||(decide (0<w.Turn)&&(decide (w.Turn<zgz)&&meetD w.Wants zel))
def findD:List DW->Int->Option DW|[],_=>none|o::r,k=>if o.Id=k then some o else findD r k
def zl7:List DW->Int->DW->List DW|[],_,w=>[w]|o::r,k,w=>if o.Id=k then w::r else o::zl7 r k w
def delD:List DW->Int->List DW|[],_=>[]|o::r,k=>if o.Id=k then r else o::delD r k
def zlm(w:DW)(names:List Key):List Key:=names.foldl (λl n=>if n∉w.zll /\ [42]∉w.zll then putT l n else l) w.Wants
def zky(d:DL)(k:Int):DW:=(findD d.L k).getD ⟨k,[],[],0⟩
def zns(d:DL)(k:Int):Int:=if (zky d k).Turn=0 then d.zou+1 else (zky d k).Turn
def zg7(d:DL)(k:Int)(zel:List Key)(zgz:Int):List Int:=(d.L.filter λo=>decide (o.Id≠k)&&keepsD o zel zgz).map (·.Id)
def zl3(d:DL)(k:Int)(names:List Key):Bool×DL:=
 let w:=zky d k
 let zel:=zlm w names
 let zgz:=zns d k
 if (zg7 d k zel zgz).isEmpty then (true,⟨zl7 d.L k ⟨k,zel.foldl putT w.zll,[],0⟩,d.zou⟩)
 else (false,⟨zl7 d.L k ⟨k,w.zll,zel,zgz⟩,max d.zou zgz⟩)
def freeD(d:DL)(k:Int):DL:=⟨delD d.L k,d.zou⟩
variable{C:z4}{N:zN}
structure SameW(e:Int×Wk×Nat)(d:DW):Prop where
 id:e.1=d.Id
 held:∀x,x∈zca e.2.1.held↔x∈d.zll
 zel:∀x,x∈zca e.2.1.zel↔x∈d.Wants
 zgz:e.2.1.zgz=d.Turn
 riseH:zot d.zll
 riseW:zot d.Wants
inductive zh7:zd0 Int Wk->List DW->Prop
 | nil:zh7 [] []
 | cons {e:Int×Wk×Nat} {d:DW} {W:zd0 Int Wk} {L:List DW}:SameW e d->zh7 W L->zh7 (e::W) (d::L)
structure Rel(s:Lk)(d:DL):Prop where
 last:s.last=d.zou
 zg9:zh7 s.W d.L
theorem isEmpty_keys{ps:zd0 Nam Int}{A:List Key}(h:∀x,x∈zca ps↔x∈A):ps.isEmpty=A.isEmpty:=by
 cases ps with
 | nil=>cases A with
  | nil=>rfl
  | cons a A=>have:=(h a).2 (mem_cons_self ..);simp[zca]at this
 | cons p ps=>cases A with
  | nil=>have:=(h p.1).1 (by simp[zca]);simp at this
  | cons a A=>rfl
theorem meets_eq{a b:zd0 Nam Int}{A B:List Key}(ha:∀x,x∈zca a↔x∈A)(hb:∀x,x∈zca b↔x∈B):zig a b=meetD A B:=by
 unfold zig meetD;rw[isEmpty_keys ha,isEmpty_keys hb,decide_eq_decide.2 (ha [42]),decide_eq_decide.2 (hb [42])];congr 4;rw[Bool.eq_iff_iff,any_eq_true,any_eq_true];constructor
 ·rintro⟨p,hp,h⟩
  exact⟨p.1,(ha _).1 (mem_map.2 ⟨p,hp,rfl⟩),decide_eq_true ((hb _).1 (of_decide_eq_true h))⟩
 ·rintro⟨x,hx,h⟩
  obtain⟨p,hp,rfl⟩:=mem_map.1 ((ha _).2 hx);exact⟨p,hp,decide_eq_true ((hb _).2 (of_decide_eq_true h))⟩
theorem keeps_eq{e:Int×Wk×Nat}{d:DW}(hs:SameW e d){ps:zd0 Nam Int}{B:List Key}(hb:∀x,x∈zca ps↔x∈B)(t:Int):zi9 e.2.1 ps t=keepsD d B t:=by
 unfold zi9 keepsD;rw[meets_eq hs.held hb,meets_eq hs.zel hb,hs.zgz]
theorem zh7.get{k:Int}:∀{W:zd0 Int Wk}{L:List DW},zh7 W L->(zfs W k=none /\ findD L k=none) \/ ∃e d,e∈W /\ d∈L /\ e.1=k /\ zfs W k=some e.2.1 /\ findD L k=some d /\ SameW e d
 | [],[],_=> .inl ⟨rfl,rfl⟩
 | e::W,d::L,.cons h1 h2=>by
  by_cases hk:e.1=k
  ·exact .inr ⟨e,d,mem_cons_self ..,mem_cons_self ..,hk,by simp[zfs,hk],by simp[findD,<-h1.id,hk],h1⟩
  ·have e1:zfs (e::W) k=zfs W k:=by simp[zfs,hk]
   have e2:findD (d::L) k=findD L k:=by simp[findD,<-h1.id,hk]
   rw[e1,e2]
   rcases h2.get (k:=k) with h|⟨e',d',m1,m2,m3⟩
   ·exact .inl h
   ·exact .inr ⟨e',d',mem_cons_of_mem _ m1,mem_cons_of_mem _ m2,m3⟩
theorem zh7.del{k:Int}:∀{W:zd0 Int Wk}{L:List DW},zh7 W L->zh7 (zlk W k) (delD L k)
 | [],[],_=> .nil
 | e::W,d::L,.cons h1 h2=>by
  unfold zlk delD
  rw[<-h1.id]
  split
  ·exact h2
  ·exact .cons h1 h2.del
theorem znp{K T:Type}[DecidableEq K](k:K):∀ps:zd0 K T,(zlk ps k).Sublist ps
 | []=> .slnil
 | p::r=>by
  unfold zlk
  split
  ·exact sublist_cons_self ..
  ·exact(znp k r).cons_cons _
def Lk.del(s:Lk)(k:Int):Lk:={ s with W:=zlk s.W k }
theorem Lk.Ok.del{s:Lk}(hs:s.Ok)(k:Int):(s.del k).Ok:=⟨hs.zpw.del k,nodup_del hs.nodup k,λe he=>hs.zg9 e ((znp k s.W).subset he),hs.far.sublist ((znp k s.W).map _)⟩
theorem flatMap_sub{α β:Type}(f:α->List β){l m:List α}(h:l.Sublist m):(l.flatMap f).Sublist (m.flatMap f):=by
 induction h with
 | slnil=>exact .slnil
 | cons a _ ih=>rw[flatMap_cons];exact ih.trans (sublist_append_right ..)
 | cons_cons a _ ih=>rw[flatMap_cons,flatMap_cons];exact(List.Sublist.refl _).append ih
def zek.Spec(C:z4)(N:zN):Prop:=∀(h:zb)(Q:zQ),(∀(h':zb)(s:Lk),s.Ok->s.W=[]->s.last=0->zda h h' s.obs->Q (.ptr s.l 0 0) h')->C (N 485) [] h Q
theorem zek.spec(i:zek.Imp C N):zek.Spec C N:=by
 intro h Q hq;apply i;simp -dsimp only[zek.cps];refine(zda.start h).zi7 wV pV λm h1 hm o1 hle=>?_;have eb:A.bld [(0,none,.mp m)] [.zji,.int .i64 0]=some (.agg [.mp m,.int .i64 0]):=rfl;have ec:A.zim 2 (.agg [.mp m,.int .i64 0])=some [.mp m,.int .i64 0]:=rfl;simp -dsimp only[eb,ec,B.zh];intro l hl;have o2:=o1.zkm hl (b:=zc0 [.mp m,.int .i64 0]) rfl;refine zck (hq _ ⟨l,m,0,0,[]⟩ ⟨zev.nil 0,List.Pairwise.nil,λe he=>absurd he (not_mem_nil),List.Pairwise.nil⟩ rfl rfl ?_);exact o2.perm (List.Perm.swap _ _ _)
theorem zda.mdel{h0 h:zb}{l:List Ob}{kd:KD}{K T:Type}[DecidableEq K]{κ:K->za}{v:T->za}(ho:zda h0 h l)(i:Nat){id c:Nat}{ps:zd0 K T}(hi:l[i]?=some (.blk id (zd9 (zgy κ v ps) c)))(hκ:KeyE kd κ)(k:K){Q:zQ}(hq:∀h',zda h0 h' (l.set i (.blk id (zd9 (zgy κ v (zlk ps k)) c)))->Q (.tup []) h'):B.mdel h kd (.mp id) (κ k) Q:=objT_blk (ho.at i hi) (fdel_enc hκ k ps c) (hq _ (ho.setBlk i hi rfl))
def zbv.Spec(C:z4)(N:zN):Prop:=∀(h0 h:zb)(s:Lk)(k:Int)(Q:zQ),zda h0 h s.obs->s.Ok->(∀h',zda h0 h' (s.del k).obs->Q (.tup []) h')->C (N 488) [.ptr s.l 0 0,.int .i64 k] h Q
theorem zbv.spec(i:zbv.Imp C N)(s1:zba.Spec C N):zbv.Spec C N:=by
 intro h0 h s k Q ho hk hq;have hs:=Lk.at_of ho hk;apply i;have e1:=zdp (k:=0) hs.1 rfl;refine s1 h s _ hs ?_;simp -dsimp only[B.cond_true,B.zdf,V.fieldAddr,Nat.zero_add,B.zh,B.zez,e1];refine ho.mdel (κ:=wV) (v:=pV) 1 rfl keyI k λh' o=>?_;exact zck (hq h' (o.sub (.cons_cons _ (.cons_cons _ (flatMap_sub _ (znp k s.W))))))
variable{C:z4}{N:zN}
def zlh(W:zd0 Int Wk)(k:Int)(w:Wk):zd0 Int Wk:=W.map λe=>if e.1=k then (e.1,w,e.2.2) else e
theorem setW_keys(W:zd0 Int Wk)(k:Int)(w:Wk):zca (zlh W k w)=zca W:=by
 unfold zca zlh;rw[map_map];refine map_congr_left λe he=>?_;show (if e.1=k then (e.1,w,e.2.2) else e).1=e.1;split<;>rfl
theorem znz(W:zd0 Int Wk)(k:Int)(w:Wk):(zlh W k w).map (·.2.2)=W.map (·.2.2):=by
 unfold zlh;rw[map_map];refine map_congr_left λe he=>?_;show (if e.1=k then (e.1,w,e.2.2) else e).2.2=e.2.2;split<;>rfl
theorem obs_perm{k:Int}{w:Wk}:∀{W:zd0 Int Wk},zfs W k=some w->(W.flatMap λe=>e.2.1.obs).Perm (w.obs++(zlk W k).flatMap λe=>e.2.1.obs)
 | e::W,h=>by
  unfold zfs at h
  unfold zlk
  split at h
  ·rename_i hk
   rw[if_pos hk]
   cases h
   rw[flatMap_cons]
  ·rename_i hk
   rw[if_neg hk,flatMap_cons,flatMap_cons]
   have:=obs_perm h
   refine(this.append_left _).trans ?_
   rw[<-append_assoc,<-append_assoc]
   exact perm_append_comm.append_right _
theorem znh{k:Int}{w:Wk}{W:zd0 Int Wk}(h:k∉zca W):zlh W k w=W:=by
 unfold zlh;rw[map_congr_left (g:=id),map_id];intro e he;rw[if_neg]
 ·rfl
 ·intro hk
  exact h (mem_map.2 ⟨e,he,hk⟩)
theorem setW_get{k:Int}{w w':Wk}:∀{W:zd0 Int Wk},zfs W k=some w->zfs (zlh W k w') k=some w'
 | e::W,h=>by
  unfold zfs at h
  show zfs ((if e.1=k then (e.1,w',e.2.2) else e)::zlh W k w') k=some w'
  split at h
  ·rename_i hk
   rw[if_pos hk]
   simp[zfs,hk]
  ·rename_i hk
   rw[if_neg hk]
   simp only[zfs,if_neg hk]
   exact setW_get h
theorem setW_del{k:Int}{w':Wk}:∀{W:zd0 Int Wk},(zca W).Nodup->zlk (zlh W k w') k=zlk W k
 | [],_=>rfl
 | e::W,hn=>by
  show zlk ((if e.1=k then (e.1,w',e.2.2) else e)::zlh W k w') k=zlk (e::W) k
  have hn':e.1∉zca W /\ (zca W).Nodup:=nodup_cons.1 hn
  by_cases hk:e.1=k
  ·rw[if_pos hk]
   simp only[zlk,hk,if_true]
   exact znh (by rw[<-hk];exact hn'.1)
  ·rw[if_neg hk]
   simp only[zlk,hk,if_false]
   rw[setW_del hn'.2]
theorem setW_enc{k:Int}{w w':Wk}(hp:w'.p=w.p):∀{W:zd0 Int Wk},(zca W).Nodup->zfs W k=some w->zgy wV pV (zlh W k w')=zgy wV pV W
 | e::W,hn,h=>by
  have hn':e.1∉zca W /\ (zca W).Nodup:=nodup_cons.1 hn
  show zgy wV pV ((if e.1=k then (e.1,w',e.2.2) else e)::zlh W k w')=_
  unfold zfs at h
  split at h
  ·rename_i hk
   rw[if_pos hk,znh (by rw[<-hk];exact hn'.1)]
   cases h
   simp only[zgy,map_cons,pV,hp]
  ·rename_i hk
   rw[if_neg hk]
   have:=setW_enc hp hn'.2 h
   simp only[zgy,map_cons]at this ⊢
   rw[this]
theorem setW_far{k:Int}{w w':Wk}(hp:w'.p=w.p):∀{W:zd0 Int Wk},(zca W).Nodup->zfs W k=some w->(zlh W k w').map (·.2.1.p)=W.map (·.2.1.p)
 | e::W,hn,h=>by
  have hn':e.1∉zca W /\ (zca W).Nodup:=nodup_cons.1 hn
  show ((if e.1=k then (e.1,w',e.2.2) else e)::zlh W k w').map (·.2.1.p)=_
  unfold zfs at h
  split at h
  ·rename_i hk
   rw[if_pos hk,znh (by rw[<-hk];exact hn'.1)]
   cases h
   simp only[map_cons,hp]
  ·rename_i hk
   rw[if_neg hk,map_cons,map_cons,setW_far hp hn'.2 h]
theorem mem_setW{k:Int}{w':Wk}{W:zd0 Int Wk}{e:Int×Wk×Nat}(he:e∈zlh W k w'):e.2.1=w' \/ e∈W:=by
 obtain⟨q,hq,rfl⟩:=mem_map.1 he;split
 ·exact .inl rfl
 ·exact .inr hq
def Lk.put(s:Lk)(k:Int)(w:Wk)(last:Int):Lk:={ s with W:=zlh s.W k w,last:=last }
theorem Lk.Ok.put{s:Lk}(hs:s.Ok){k:Int}{w w':Wk}(hw:zfs s.W k=some w)(hp:w'.p=w.p)(hk:w'.Ok)(last:Int):(s.put k w' last).Ok:=by
 refine⟨⟨λe he=>?_,?_⟩,?_,λe he=>?_,?_⟩
 ·have h1:e.2.2∈(zlh s.W k w').map (·.2.2):=mem_map.2 ⟨e,he,rfl⟩
  rw[znz]at h1;obtain⟨q,hq,e1⟩:=mem_map.1 h1;rw[<-e1];exact hs.zpw.1 q hq
 ·show ((zlh s.W k w').map (·.2.2)).Nodup
  rw[znz];exact hs.zpw.2
 ·show (zca (zlh s.W k w')).Nodup
  rw[setW_keys];exact hs.nodup
 ·rcases mem_setW he with h|h
  ·rw[h];exact hk
  ·exact hs.zg9 e h
 ·show ((zlh s.W k w').map (·.2.1.p)).Nodup
  rw[setW_far hp hs.nodup hw];exact hs.far
def Lk.fore(s:Lk)(k:Int)(w:Wk)(last:Int):List Ob:= .blk s.l (zc0 [.mp s.m,.int .i64 last]):: .blk s.m (zd9 (zgy wV pV s.W) s.c)::(w.obs++(zlk s.W k).flatMap λe=>e.2.1.obs)
theorem Lk.obs_fore{s:Lk}{k:Int}{w:Wk}(hw:zfs s.W k=some w):s.obs.Perm (s.fore k w s.last):=((obs_perm hw).cons _).cons _
theorem Lk.put_fore{s:Lk}(hs:s.Ok){k:Int}{w w':Wk}(hw:zfs s.W k=some w)(hp:w'.p=w.p)(last:Int):(s.put k w' last).obs.Perm (s.fore k w' last):=by
 have h:=Lk.obs_fore (s:=s.put k w' last) (k:=k) (w:=w') (setW_get hw);have e:(s.put k w' last).fore k w' (s.put k w' last).last=s.fore k w' last:=by
  show _::Ob.blk s.m (zd9 (zgy wV pV (zlh s.W k w')) s.c)::(w'.obs++(zlk (zlh s.W k w') k).flatMap λe=>e.2.1.obs)=_;rw[setW_enc hp hs.nodup hw,setW_del hs.nodup];rfl
 rw[e]at h;exact h
theorem zml.put{ps:zd0 Nam Int}{c:Nat}(h:zml ps c)(k:Nam):zml (zj4 ps k 1 c) (clkP ps k c):=by
 refine⟨h.1.put k 1,λp hp=>?_,zjt h.2.2 k 1 c⟩;have h1:=mem_getP (zjt h.2.2 k 1 c) hp;rw[znn]at h1;split at h1
 ·exact(Option.some.inj h1).symm
 ·obtain⟨n,hn⟩:=zgw h1
  exact h.2.1 (p.1,p.2.1,n) hn
theorem zmw{ps:zd0 Nam Int}{c:Nat}{k x:Nam}:x∈zca (zj4 ps k 1 c)↔x=k \/ x∈zca ps:=by
 rw[zjv];split
 ·rename_i h
  constructor
  ·exact .inr
  ·rintro(rfl|h1)
   ·exact h
   ·exact h1
 ·rw[mem_append,mem_singleton,or_comm]
variable{C:z4}{N:zN}
abbrev zlo(m:Nat)(ps:zd0 Nam Int)(c:Nat):Ob:= .blk m (zd9 (zgy nV wV ps) c)
def zf.Spec(C:z4)(N:zN):Prop:=∀(h0 h:zb)(a b c d:Nat)(ps qs:zd0 Nam Int)(rest:List Ob)(Q:zQ),zda h0 h (zlo a ps c::zlo b qs d::rest)->zml ps c->zml qs d->(∀(h':zb)(ps':zd0 Nam Int)(c':Nat),zml ps' c'->(∀x,x∈zca ps'↔x∈zca ps \/ x∈zca qs)->zda h0 h' (zlo a ps' c'::zlo b qs d::rest)->Q (.tup []) h')->C (N 507) [.mp a,.mp b] h Q
theorem zf.spec(i:zf.Imp C N):zf.Spec C N:=by
 intro h0 h a b c d ps qs rest Q ho hps hqs hq;apply i;have ho':zda h0 h ([zlo b qs d]++(zlo a ps c::rest)):=ho.perm (List.Perm.swap _ _ _);obtain⟨o1,o2⟩:=ho'.out;generalize h.zjl (zlo a ps c::rest)=h1 at o1 o2;have hb1:h1 b=some (zd9 (zgy nV wV qs) d):=o1.at 0 rfl;simp -dsimp only[zf.cps];refine zda.rangeLoop (κ:=nV) (v:=wV) (ps:=qs) (c:=d) (J:=λD l=>∃ps' c',l=zlo a ps' c'::rest /\ zml ps' c' /\ ∀x,x∈zca ps'↔x∈zca ps \/ x∈D.map (·.1))
  (REST:=λit v h Y=>B.pv (V.ext 0 v) λv9=>B.cond v9 (B.pv (A.zen h it) λv10=>B.pv (V.ext 0 v10) λv11=>B.pv (V.ext 1 v10) λv12=>B.mset h .s (.mp a) v11 v12 λh=>Y [] h) (dn Q (.tup []) h)) o2 hb1 hqs.1 ⟨ps,c,rfl,hps,by simp⟩ ?_ ?_ ?_
 ·intro it hh Y hn
  exact hn
 ·rintro it hh D l bb Y ⟨ps',c',rfl,k1,k2⟩ hp o
  simp -dsimp only[V.zfy,getElem?_cons_zero,B.zh,B.cond_false];refine zck (hq hh ps' c' k1 (λx=>?_) ?_)
  ·rw[k2]
   have:x∈D.map (·.1)↔x∈zca qs:=(hp.map (·.1)).mem_iff;rw[this]
  ·have o3:zda h1 hh (zlo a ps' c'::rest):=o.sub (sublist_append_left _ _)
   exact(o1.join o3).perm (List.Perm.swap _ _ _)
 ·rintro it hh D l bb Y p hpm ⟨ps',c',rfl,k1,k2⟩ hsub hpD o he hY
  simp -dsimp only[V.zfy,getElem?_cons_zero,getElem?_cons_succ,B.zh,B.cond_true,he];have e1:p.2.1=1:=hqs.2.1 p hpm;rw[e1];refine o.mset (κ:=nV) (v:=wV) 0 rfl keyS p.1 1 λh' o' _ _=>?_;refine hY h' (zlo a (zj4 ps' p.1 1 c') (clkP ps' p.1 c')::rest) ⟨_,_,rfl,k1.put p.1,λx=>?_⟩ o';rw[zmw,k2,map_append,mem_append];constructor
  ·rintro(rfl|h|h)
   ·exact .inr (.inr (by simp))
   ·exact .inl h
   ·exact .inr (.inl h)
  ·rintro(h|h|h)
   ·exact .inr (.inl h)
   ·exact .inr (.inr h)
   ·exact .inl (by simpa using h)
theorem far_ne{k:Int}{w:Wk}:∀{W:zd0 Int Wk},(zca W).Nodup->(W.map (·.2.1.p)).Nodup->zfs W k=some w->∀e∈W,(e.2.1.p=w.p↔e.1=k)
 | q::W,hn,hf,h,e,he=>by
  have hn':q.1∉zca W /\ (zca W).Nodup:=nodup_cons.1 hn
  have hf':q.2.1.p∉W.map (·.2.1.p) /\ (W.map (·.2.1.p)).Nodup:=nodup_cons.1 hf
  unfold zfs at h
  split at h
  ·rename_i hk
   cases h
   rcases mem_cons.1 he with rfl|he
   ·exact⟨λ_=>hk,λ_=>rfl⟩
   ·constructor
    ·intro e1
     exact absurd (mem_map.2 ⟨e,he,e1⟩) hf'.1
    ·intro e1
     exact absurd (mem_map.2 ⟨e,he,by rw[e1,hk]⟩) hn'.1
  ·rename_i hk
   rcases mem_cons.1 he with rfl|he
   ·constructor
    ·intro e1
     obtain⟨n,hm⟩:=zgw h
     exact absurd (mem_map.2 ⟨_,hm,e1.symm⟩) hf'.1
    ·intro e1
     exact absurd e1 hk
   ·exact far_ne hn'.2 hf'.2 h e he
theorem zpp{f:Int×Wk×Nat->Bool}{g:DW->Bool}:∀{W:zd0 Int Wk}{L:List DW},zh7 W L->(∀e d,e∈W->SameW e d->f e=g d)->(W.filter f).map (·.1)=(L.filter g).map (·.Id)
 | [],[],_,_=>rfl
 | e::W,d::L,.cons h1 h2,h=>by
  have e1:=h e d (mem_cons_self ..) h1
  have ih:=zpp h2 λq r hq hr=>h q r (mem_cons_of_mem _ hq) hr
  rw[filter_cons,filter_cons,e1]
  split
  ·rw[map_cons,map_cons,ih,h1.id]
  ·exact ih
theorem kept_rel{W:zd0 Int Wk}{L:List DW}(hL:zh7 W L)(hn:(zca W).Nodup)(hf:(W.map (·.2.1.p)).Nodup){k:Int}{w:Wk}(hw:zfs W k=some w){ps:zd0 Nam Int}{B:List Key}(hb:∀x,x∈zca ps↔x∈B)(t:Int):
  (W.filter (zja w.p ps t)).map (·.1)=(L.filter λo=>decide (o.Id≠k)&&keepsD o B t).map (·.Id):=by
 refine zpp hL λe d he hs=>?_;unfold zja;rw[keeps_eq hs hb,decide_eq_decide.2 (not_congr ((far_ne hn hf hw e he).trans (by rw[hs.id])))]
theorem zh7.set{k:Int}{w w':Wk}{d':DW}(hd:d'.Id=k)(hs:∀n,SameW (k,w',n) d'):∀{W:zd0 Int Wk}{L:List DW},zh7 W L->(zca W).Nodup->zfs W k=some w->zh7 (zlh W k w') (zl7 L k d')
 | e::W,d::L,.cons h1 h2,hn,h=>by
  have hn':e.1∉zca W /\ (zca W).Nodup:=nodup_cons.1 hn
  show zh7 ((if e.1=k then (e.1,w',e.2.2) else e)::zlh W k w') _
  unfold zfs at h
  unfold zl7
  rw[<-h1.id]
  split at h
  ·rename_i hk
   rw[if_pos hk,if_pos hk,znh (by rw[<-hk];exact hn'.1)]
   refine .cons ?_ h2
   rw[hk]
   exact hs _
  ·rename_i hk
   rw[if_neg hk,if_neg hk]
   exact .cons h1 (h2.set hd hs hn'.2 h)
theorem zoo{k:Int}{d':DW}(hd:d'.Id=k)(g:DW->Bool):∀{L:List DW}{dd:DW},findD L k=some dd->(L.map (·.Id)).Nodup->((zl7 L k d').filter λo=>decide (o.Id≠k)&&g o)=L.filter λo=>decide (o.Id≠k)&&g o
 | o::L,dd,h,hn=>by
  unfold findD at h
  unfold zl7
  split at h
  ·rename_i hk
   rw[if_pos hk,filter_cons,filter_cons]
   simp[hd,hk]
  ·rename_i hk
   rw[if_neg hk,filter_cons,filter_cons,zoo hd g h (nodup_cons.1 hn).2]
theorem zh7.ids:∀{W:zd0 Int Wk}{L:List DW},zh7 W L->L.map (·.Id)=zca W
 | [],[],_=>rfl
 | e::W,d::L,.cons h1 h2=>by
  rw[map_cons,zii,h2.ids,h1.id]
theorem zny(l:List Int):(zgp l).length=l.length:=(zgo l).length_eq
variable{C:z4}{N:zN}
theorem zda.blkSt{h0 h:zb}{l:List Ob}(ho:zda h0 h l)(i:Nat){id off:Nat}{cs:List za}{v:za}{K:zb->Prop}(hi:l[i]?=some (.blk id (zc0 cs)))(hv:v.zdz=true)(hoff:off<cs.length)
  (hK:∀h',zda h0 h' (l.set i (.blk id (zc0 (cs.set off v))))->K h'):B.st h (.ptr id 0 off) v K:=by
 show A.st h (.ptr id 0 off) v K;rw[st_at (ho.at i hi) hv hoff];exact hK _ (ho.setBlk i hi rfl)
theorem zkn{x:Key}:∀{B H:List Key},x∈B.foldl putT H↔x∈H \/ x∈B
 | [],H=>by simp
 | b::B,H=>by
  rw[foldl_cons,zkn,znj,mem_cons]
  constructor
  ·rintro((h|h)|h)
   ·exact .inr (.inl h)
   ·exact .inl h
   ·exact .inr (.inr h)
  ·rintro(h|h|h)
   ·exact .inl (.inr h)
   ·exact .inl (.inl h)
   ·exact .inr h
theorem zjp:∀{B H:List Key},zot H->zot (B.foldl putT H)
 | [],H,h=>h
 | b::B,H,h=>by rw[foldl_cons];exact zjp (zn3 h)
theorem ask_k1{h0 h:zb}{s:Lk}{k:Int}{w:Wk}{ps:zd0 Nam Int}{c:Nat}{t:Int}{d:DL}{dd:DW}{Z:List Key}{Q:zQ}(s3:z8.Spec C N)(s4:zf.Spec C N)
  (hs:s.Ok) (hlen:s.W.length <= 100000) (hw:zfs s.W k=some w) (hps:zml ps c) (ho:zda h0 h (s.fore k { w with zel:=ps,wc:=c } s.last)) (hr:Rel s d) (hd:findD d.L k=some dd) (hsw:∀n,SameW (k,w,n) dd)
  (hB:∀x,x∈zca ps↔x∈Z) (hRB:zot Z)
  (hq:∀(h':zb)(s':Lk),s'.Ok->zda h0 h' s'.obs->s'.W.length=s.W.length->s'.l=s.l ->
   Rel s' (if (zg7 d k Z t).isEmpty then ⟨zl7 d.L k ⟨k,Z.foldl putT dd.zll,[],0⟩,d.zou⟩ else ⟨zl7 d.L k ⟨k,dd.zll,Z,t⟩,max d.zou t⟩)->Q (.bool (zg7 d k Z t).isEmpty) h'):
  zq.k1 C N (dn Q) (.ptr s.l 0 0) (.ptr w.p 0 0) (.int .i64 t) h:=by
 have hwok:w.Ok:=by
  obtain⟨n,hn⟩:=zgw hw;exact hs.zg9 _ hn
 have hok:(s.put k { w with zel:=ps,wc:=c } s.last).Ok:=hs.put (w':={ w with zel:=ps,wc:=c }) hw rfl ⟨hwok.held,hps⟩ s.last;have hat:=Lk.at_of (ho.perm (Lk.put_fore hs hw (w':={ w with zel:=ps,wc:=c }) rfl s.last).symm) hok;have p2:h w.p=some (zc0 [.mp w.hm,.mp w.wm,.int .i64 w.zgz]):=ho.at 2 rfl;have p4:znb h w.wm ps:=⟨c,ho.at 4 rfl,hps⟩;have e2:=zdp (k:=1) p2 rfl;simp -dsimp only[zq.k1,B.zdf,V.fieldAddr,Nat.zero_add,B.zh,B.zez,e2]
 have hlen2:(s.put k { w with zel:=ps,wc:=c } s.last).W.length <= 100000:=by
  show (zlh s.W k _).length <= _;unfold zlh;rw[length_map];exact hlen
 obtain⟨s2,hs2⟩:∃x,x=s.put k { w with zel:=ps,wc:=c } s.last:=⟨_,rfl⟩;have l2:s2.l=s.l:=by rw[hs2];rfl
 rw[<-hs2]at hat hok hlen2;have r3:=λQ=>s3 h s2 w.p w.wm _ ps t Q hat hok hlen2 p2 p4;rw[l2]at r3;refine r3 _ λx' h1 ox=>?_;have hle:h.le h1:=ox.le;have hx:=(ox.zov 0 rfl).zfb;have hk2:(s2.W.filter (zja w.p ps t)).map (·.1)=zg7 d k Z t:=by
  have hsl:zh7 s2.W (zl7 d.L k ⟨k,dd.zll,Z,dd.Turn⟩):=by
   rw[hs2];exact hr.zg9.set (w':={ w with zel:=ps,wc:=c }) (d':=⟨k,dd.zll,Z,dd.Turn⟩) rfl (λn=>⟨rfl,(hsw n).held,hB,(hsw n).zgz,(hsw n).riseH,hRB⟩) hs.nodup hw
  have hg:zfs s2.W k=some { w with zel:=ps,wc:=c }:=by rw[hs2];exact setW_get hw
  have h5:=kept_rel hsl hok.nodup hok.far hg hB t;rw[zoo (k:=k) (d':=⟨k,dd.zll,Z,dd.Turn⟩) rfl _ hd (by rw[hr.zg9.ids];exact hs.nodup)]at h5;exact h5
 have hkl:keptL s2 w.p ps t=zgp (zg7 d k Z t):=by unfold keptL;rw[hk2]
 rw[hkl,length_map,zny]at hx;have o1:=ho.grow hle;simp -dsimp only[hx,B.zh,V.bin_gtr];refine B.zb0 (λhc=>?_) (λhc=>?_)
 ·have hne:(zg7 d k Z t).isEmpty=false:=by
   rw[decide_eq_true_eq]at hc;cases hl:zg7 d k Z t with
   | nil=>rw[hl]at hc;simp at hc
   | cons _ _=>rfl
  rw[hne]at hq;have q0:h1 s.l=some (zc0 [.mp s.m,.int .i64 s.last]):=o1.at 0 rfl;have f0:=zdp (k:=1) q0 rfl;simp -dsimp only[B.zdf,V.fieldAddr,Nat.zero_add,B.zez,f0,B.zh,V.max2_int];refine o1.blkSt 2 rfl rfl (by simp) λh2 o2=>?_;simp -dsimp only[B.zdf,V.fieldAddr,Nat.zero_add,B.zh];refine o2.blkSt 0 rfl rfl (by simp) λh3 o3=>?_;have o3':zda h0 h3 (s.fore k { w with zel:=ps,wc:=c,zgz:=t } (max s.last t)):=o3;refine zck (hq h3 (s.put k { w with zel:=ps,wc:=c,zgz:=t } (max s.last t)) (hs.put (w':={ w with zel:=ps,wc:=c,zgz:=t }) hw rfl ⟨hwok.held,hps⟩ _) (o3'.perm (Lk.put_fore (w':={ w with zel:=ps,wc:=c,zgz:=t }) hs hw rfl _).symm) ?_ rfl ⟨by rw[hr.last];rfl,?_⟩)
  ·show (zlh s.W k _).length=_
   unfold zlh;rw[length_map]
  ·exact hr.zg9.set (w':={ w with zel:=ps,wc:=c,zgz:=t }) (d':=⟨k,dd.zll,Z,t⟩) rfl (λn=>⟨rfl,(hsw n).held,hB,rfl,(hsw n).riseH,hRB⟩) hs.nodup hw
 ·have hne:(zg7 d k Z t).isEmpty=true:=by
   rw[decide_eq_false_iff_not]at hc;cases hl:zg7 d k Z t with
   | nil=>rfl
   | cons _ _=>rw[hl]at hc;simp at hc
  rw[hne]at hq;have q2:h1 w.p=some (zc0 [.mp w.hm,.mp w.wm,.int .i64 w.zgz]):=o1.at 2 rfl;have f0:=zdp (k:=0) q2 rfl;have f1:=zdp (k:=1) q2 rfl;simp -dsimp only[B.zdf,V.fieldAddr,Nat.zero_add,B.zez,f0,f1,B.zh];have o2:zda h0 h1 (zlo w.hm w.held w.hc::zlo w.wm ps c::[.blk s.l (zc0 [.mp s.m,.int .i64 s.last]),.blk s.m (zd9 (zgy wV pV s.W) s.c),.blk w.p (zc0 [.mp w.hm,.mp w.wm,.int .i64 w.zgz])]++(zlk s.W k).flatMap λe=>e.2.1.obs):=o1.perm (by
   show List.Perm ([_,_,_]++([zlo w.hm w.held w.hc,zlo w.wm ps c]++_)) ([zlo w.hm w.held w.hc,zlo w.wm ps c]++([_,_,_]++_));rw[<-append_assoc,<-append_assoc];exact perm_append_comm.append_right _)
  refine s4 h0 h1 w.hm w.wm w.hc c w.held ps _ _ o2 hwok.held hps λh2 ps' c' k1 k2 o3=>?_;refine o3.zi7 nV wV λm2 h3 hm o4 hle3=>?_;simp -dsimp only[B.zdf,V.fieldAddr,Nat.zero_add,B.zh];refine o4.blkSt 4 rfl rfl (by simp) λh4 o5=>?_;simp -dsimp only[B.zdf,V.fieldAddr,Nat.zero_add,B.zh];refine o5.blkSt 4 rfl rfl (by simp) λh5 o6=>?_;have o7:zda h0 h5 (zlo w.hm ps' c':: .blk s.l (zc0 [.mp s.m,.int .i64 s.last]):: .blk s.m (zd9 (zgy wV pV s.W) s.c):: .blk w.p (zc0 [.mp w.hm,.mp m2,.int .i64 0])::(((zlk s.W k).flatMap λe=>e.2.1.obs)++[zlo m2 [] 0])):=o6.sub (.cons_cons _ (.cons _ (List.Sublist.refl _)))
  have o8:zda h0 h5 (s.fore k { w with held:=ps',hc:=c',wm:=m2,zel:=[],wc:=0,zgz:=0 } s.last):=o7.perm (by
   show List.Perm ([zlo w.hm ps' c']++([_,_,_]++(_++[zlo m2 [] 0]))) ([_,_,_]++([zlo w.hm ps' c']++([zlo m2 [] 0]++_)));refine((perm_append_comm (l₁:=(zlk s.W k).flatMap λe=>e.2.1.obs) (l₂:=[zlo m2 [] 0])).append_left _ |>.append_left _).trans ?_;exact perm_append_comm_assoc _ _ _)
  have hnil:zml [] 0:=⟨zev.nil 0,λp hp=>absurd hp (not_mem_nil),List.Pairwise.nil⟩;refine zck (hq h5 (s.put k { w with held:=ps',hc:=c',wm:=m2,zel:=[],wc:=0,zgz:=0 } s.last) (hs.put (w':={ w with held:=ps',hc:=c',wm:=m2,zel:=[],wc:=0,zgz:=0 }) hw rfl ⟨k1,hnil⟩ _) (o8.perm (Lk.put_fore (w':={ w with held:=ps',hc:=c',wm:=m2,zel:=[],wc:=0,zgz:=0 }) hs hw rfl _).symm) ?_ rfl ⟨hr.last,?_⟩)
  ·show (zlh s.W k _).length=_
   unfold zlh;rw[length_map]
  ·refine hr.zg9.set (w':={ w with held:=ps',hc:=c',wm:=m2,zel:=[],wc:=0,zgz:=0 }) (d':=⟨k,Z.foldl putT dd.zll,[],0⟩) rfl (λn=>⟨rfl,λx=>?_,λx=>?_,rfl,zjp (hsw n).riseH,List.Pairwise.nil⟩) hs.nodup hw
   ·rw[zkn,<-(hsw n).held x,<-hB x]
    exact k2 x
   ·exact Iff.rfl
variable{C:z4}{N:zN}
theorem zpa(w:DW)(names:List Key){i:Nat}(h:i<names.length):zlm w (names.take (i+1))=if names[i]∉w.zll /\ [42]∉w.zll then putT (zlm w (names.take i)) names[i] else zlm w (names.take i):=by
 unfold zlm;rw[take_add_one,getElem?_eq_getElem h,foldl_append];rfl
theorem wantD_rise{w:DW}(hr:zot w.Wants)(names:List Key):zot (zlm w names):=by
 unfold zlm;generalize w.Wants=l at hr
 induction names generalizing l with
 | nil=>exact hr
 | cons n r ih=>
  rw[foldl_cons];refine ih _ ?_;split
  ·exact zn3 hr
  ·exact hr
theorem ask_loop{h0 h:zb}{s:Lk}{k:Int}{w:Wk}{d:DL}{dd:DW}{names:List Key}{x:za}{R:List (List za)}{Q:zQ}(s2:zby.Spec C N)(s3:z8.Spec C N)(s4:zf.Spec C N)
  (hs:s.Ok) (hlen:s.W.length <= 100000) (hw:zfs s.W k=some w) (ho:zda h0 h s.obs) (hr:Rel s d) (hd:findD d.L k=some dd) (hsw:∀n,SameW (k,w,n) dd) (hx:SlX h0 1 x (names.map tc) R) (hn:names.length <= 100000) (hl1: -1000000000 <= s.last) (hl2:s.last <= 1000000000)
  (hq:∀(h':zb)(s':Lk),s'.Ok->zda h0 h' s'.obs->s'.W.length=s.W.length->s'.l=s.l->Rel s' (zl3 d k names).2->Q (.bool (zl3 d k names).1) h'):
  zbw (zq.l4 C N (dn Q) (.ptr s.l 0 0) (.ptr w.p 0 0) x (.int .i64 (names.length:Int))) [(.int .i64 0)] h:=by
 have hwok:w.Ok:=by
  obtain⟨n,hn⟩:=zgw hw;exact hs.zg9 _ hn
 have hwD:zky d k=dd:=by simp[zky,hd]
 refine zbw.intro (λt vs hh=>∃(i:Nat)(ps:zd0 Nam Int)(c:Nat),i+t=names.length /\ vs=[.int .i64 (i:Int)] /\ zml ps c /\ (∀y,y∈zca ps↔y∈zlm dd (names.take i)) /\ zda h0 hh (s.fore k { w with zel:=ps,wc:=c } s.last)) names.length ?_
  ⟨0,w.zel,w.wc,by omega,rfl,hwok.zel,(hsw 0).zel,ho.perm (Lk.obs_fore hw)⟩
 rintro Y t vs hh ⟨i,ps,c,hit,rfl,hps,hmem,o⟩ hY;have p2:hh w.p=some (zc0 [.mp w.hm,.mp w.wm,.int .i64 w.zgz]):=o.at 2 rfl;have p3:znb hh w.hm w.held:=⟨w.hc,o.at 3 rfl,hwok.held⟩;have e0:=zdp (k:=0) p2 rfl;have e1:=zdp (k:=1) p2 rfl;have e2:=zdp (k:=2) p2 rfl;have hxx:=hx.mono o.le;simp -dsimp only[zq.l4,zq.k3,V.ze2,B.zh];refine B.zb0 (λhc=>?_) (λhc=>?_)
 ·have hi:i<names.length:=by have:=of_decide_eq_true hc;omega
  have g1:(names.map tc)[i]?=some (tc names[i]):=by rw[getElem?_map,getElem?_eq_getElem hi];rfl
  have i1:V.zdd 1 x (.int .i64 (i:Int))=some (elp 1 x i 0):=hxx.idxN (by simpa using hi);have c1:A.ldv hh (elp 1 x i 0)=some (.str names[i]):=hxx.cell g1;simp -dsimp only[B.zdf,V.fieldAddr,Nat.zero_add,B.zez,i1,c1,e0,B.zh];refine s2 hh w.hm w.held names[i] _ p3 ?_;simp +contextual -dsimp[e0,V.fieldAddr];refine B.gdb_call (λ_ _ hq=>s2 hh w.hm w.held [42] _ p3 hq) ?_;simp +contextual -dsimp[V.fieldAddr];have hh1:=(hsw 0).held names[i];have hh2:=(hsw 0).held [42];refine B.zb0 (λhd=>?_) (λhd=>?_)
  ·have hcond:names[i]∉dd.zll /\ [42]∉dd.zll:=by
    simp at hd;exact⟨λh=>hd.1 (hh1.2 h),λh=>hd.2 (hh2.2 h)⟩
   simp -dsimp only[B.zdf,V.fieldAddr,Nat.zero_add,B.zez,e1,B.zh];refine o.mset (κ:=nV) (v:=wV) 4 rfl keyS names[i] 1 λh' o' _ _=>?_;simp -dsimp only[zjb (show i<4611686018427387904 by omega),B.zh];refine hY (t-1) _ _ (by omega) ⟨i+1,zj4 ps names[i] 1 c,clkP ps names[i] c,by omega,rfl,hps.put _,λy=>?_,o'⟩;rw[zpa dd names hi,if_pos hcond,zmw,znj,hmem]
  ·have hcond:¬ (names[i]∉dd.zll /\ [42]∉dd.zll):=by
    rintro⟨h1,h2⟩;have q1:names[i]∉zca w.held:=λh=>h1 (hh1.1 h);have q2:[42]∉zca w.held:=λh=>h2 (hh2.1 h);simp[q1,q2]at hd
   simp -dsimp only[zjb (show i<4611686018427387904 by omega),B.zh];refine hY (t-1) _ _ (by omega) ⟨i+1,ps,c,by omega,rfl,hps,λy=>?_,o⟩;rw[zpa dd names hi,if_neg hcond,hmem]
 ·have hi:i=names.length:=by have:=of_decide_eq_false hc;omega
  rw[hi,take_length]at hmem;simp -dsimp only[B.zdf,V.fieldAddr,Nat.zero_add,B.zez,e2,B.zh,zq.k2];have hfin:∀u,zns d k=u->zq.k1 C N (dn Q) (.ptr s.l 0 0) (.ptr w.p 0 0) (.int .i64 u) hh:=λu hu=>by
   refine ask_k1 s3 s4 hs hlen hw hps o hr hd hsw hmem (wantD_rise (hsw 0).riseW names) λh' s' k1 k2 k3 k4 k5=>?_
   have ha:zl3 d k names=(if (zg7 d k (zlm dd names) u).isEmpty then (true,⟨zl7 d.L k ⟨k,(zlm dd names).foldl putT dd.zll,[],0⟩,d.zou⟩) else (false,⟨zl7 d.L k ⟨k,dd.zll,zlm dd names,u⟩,max d.zou u⟩)):=by
    unfold zl3;rw[hwD,hu]
   rw[ha]at hq;cases hb:(zg7 d k (zlm dd names) u).isEmpty with
   | true=>
    rw[hb]at hq k5;exact hq h' s' k1 k2 k3 k4 k5
   | false=>
    rw[hb]at hq k5;exact hq h' s' k1 k2 k3 k4 k5
  have ht:=(hsw 0).zgz;have ee:V.bin .eql (.int .i64 w.zgz) (.int .i64 0)=some (.bool (decide (w.zgz=0))):=by simp
  simp -dsimp only[ee,B.zh];refine B.zb0 (λhc=>?_) (λhc=>?_)
  ·have hc:=of_decide_eq_true hc
   have q0:hh s.l=some (zc0 [.mp s.m,.int .i64 s.last]):=o.at 0 rfl;have f0:=zdp (k:=1) q0 rfl;have ea:V.bin .add (.int .i64 s.last) (.int .i64 1)=some (.int .i64 (s.last+1)):=by rw[V.bin_add,wrap_i64 (by omega) (by omega)]
   simp -dsimp only[B.zdf,V.fieldAddr,Nat.zero_add,B.zez,f0,ea,B.zh];refine hfin _ ?_;unfold zns;rw[hwD,if_pos (by rw[<-ht];exact hc),hr.last]
  ·have hc:=of_decide_eq_false hc
   refine hfin _ ?_;unfold zns;rw[hwD,if_neg (by rw[<-ht];exact hc)];exact ht.symm
variable{C:z4}{N:zN}
theorem zon{k:Int}{w:DW}(hw:w.Id=k):∀{L:List DW},findD L k=none->findD (L++[w]) k=some w
 | [],_=>by simp[findD,hw]
 | o::L,h=>by
  unfold findD at h
  split at h
  ·cases h
  ·rename_i hk
   show findD (o::(L++[w])) k=some w
   unfold findD
   rw[if_neg hk]
   exact zon hw h
theorem setD_app{k:Int}{w w':DW}(hw:w.Id=k):∀{L:List DW},findD L k=none->zl7 (L++[w]) k w'=zl7 L k w'
 | [],_=>by simp[zl7,hw]
 | o::L,h=>by
  unfold findD at h
  split at h
  ·cases h
  ·rename_i hk
   show zl7 (o::(L++[w])) k w'=zl7 (o::L) k w'
   unfold zl7
   rw[if_neg hk,if_neg hk,setD_app hw h]
theorem askD_new{d:DL}{k:Int}(names:List Key)(h:findD d.L k=none):zl3 ⟨d.L++[⟨k,[],[],0⟩],d.zou⟩ k names=zl3 d k names:=by
 have h1:=zon (w:=⟨k,[],[],0⟩) rfl h;have hw:zky ⟨d.L++[⟨k,[],[],0⟩],d.zou⟩ k=zky d k:=by simp[zky,h,h1]
 have ht:zns ⟨d.L++[⟨k,[],[],0⟩],d.zou⟩ k=zns d k:=by unfold zns;rw[hw]
 have hk:∀w t,zg7 ⟨d.L++[⟨k,[],[],0⟩],d.zou⟩ k w t=zg7 d k w t:=λw t=>by
  unfold zg7;rw[filter_append];simp
 unfold zl3;rw[hw,ht];simp only[hk];rw[setD_app rfl h,setD_app rfl h]
theorem zh7.app{e:Int×Wk×Nat}{w:DW}(hs:SameW e w):∀{W:zd0 Int Wk}{L:List DW},zh7 W L->zh7 (W++[e]) (L++[w])|[],[],_=> .cons hs .nil|e'::W,d::L,.cons h1 h2=> .cons h1 (h2.app hs)
theorem putP_none{k:Int}{w:Wk}{c:Nat}:∀{W:zd0 Int Wk},zfs W k=none->zj4 W k w c=W++[(k,w,c)]
 | [],_=>rfl
 | e::W,h=>by
  unfold zfs at h
  split at h
  ·cases h
  ·rename_i hk
   unfold zj4
   rw[if_neg hk,putP_none h]
   rfl
def zq.Spec(C:z4)(N:zN):Prop:=∀(h0 h:zb)(s:Lk)(d:DL)(k:Int)(names:List Key)(x:za)(R:List (List za))(Q:zQ),zda h0 h s.obs->s.Ok->Rel s d->s.W.length<100000->SlX h0 1 x (names.map tc) R->names.length <= 100000-> -1000000000 <= s.last->s.last <= 1000000000->(∀(h':zb)(s':Lk),s'.Ok->zda h0 h' s'.obs->s'.W.length <= s.W.length+1->s'.l=s.l->Rel s' (zl3 d k names).2->Q (.bool (zl3 d k names).1) h')->C (N 489) [.ptr s.l 0 0,.int .i64 k,x] h Q
theorem zq.spec(i:zq.Imp C N)(s1:zba.Spec C N)(s2:zby.Spec C N)(s3:z8.Spec C N)(s4:zf.Spec C N):zq.Spec C N:=by
 intro h0 h s d k names x R Q ho hk hr hlen hx hn hl1 hl2 hq;have hs:=Lk.at_of ho hk;apply i;have e1:=zdp (k:=0) hs.1 rfl;have el:=lkpW hs.2.1 k;refine s1 h s _ hs ?_;simp -dsimp only[V.ze3,Bool.not_true,B.zh,B.cond_false,zq.k6,B.zdf,V.fieldAddr,Nat.zero_add,B.zez,e1];have hxl:=fun{hh:zb}(hle:h0.le hh)=>(hx.mono hle).zfb;rw[length_map]at hxl;rcases hr.zg9.get (k:=k) with⟨w1,w2⟩|⟨e,dd,m1,m2,m3,w1,w2,hsw⟩
 ·rw[w1]at el
  have ep:V.zfe .eql .zg4 .zg4=some (.bool true):=rfl;simp -dsimp only[el,B.zh,zq.k5,ep,B.cond_true];refine ho.zi7 nV wV λhm h1 f1 o1 l1=>?_;refine o1.zi7 nV wV λwm h2 f2 o2 l2=>?_;have eb:A.bld [(0,none,.mp hm),(1,none,.mp wm)] [.zji,.zji,.int .i64 0]=some (.agg [.mp hm,.mp wm,.int .i64 0]):=rfl;have ec:A.zim 3 (.agg [.mp hm,.mp wm,.int .i64 0])=some [.mp hm,.mp wm,.int .i64 0]:=rfl;simp -dsimp only[eb,ec,B.zh];intro p hp;have o3:=o2.zkm hp (b:=zc0 [.mp hm,.mp wm,.int .i64 0]) rfl;have q0:upd h2 p (zc0 [.mp hm,.mp wm,.int .i64 0]) s.l=some (zc0 [.mp s.m,.int .i64 s.last]):=o3.at 0 rfl;have f0:=zdp (k:=0) q0 rfl;simp -dsimp only[B.zdf,V.fieldAddr,Nat.zero_add,B.zez,f0,B.zh];refine o3.mset (κ:=wV) (v:=pV) 1 rfl keyI k ⟨p,hm,wm,0,0,[],[],0⟩ λh4 o4 _ _=>?_;simp -dsimp only[hxl o4.le,B.zh];have hput:zj4 s.W k ⟨p,hm,wm,0,0,[],[],0⟩ s.c=s.W++[(k,⟨p,hm,wm,0,0,[],[],0⟩,s.c)]:=putP_none w1;have hnil:zml [] 0:=⟨zev.nil 0,λp hp=>absurd hp (not_mem_nil),List.Pairwise.nil⟩;obtain⟨s5,hs5⟩:∃s5:Lk,s5={ s with W:=zj4 s.W k ⟨p,hm,wm,0,0,[],[],0⟩ s.c,c:=clkP s.W k s.c }:=⟨_,rfl⟩;have hW5:s5.W=s.W++[(k,⟨p,hm,wm,0,0,[],[],0⟩,s.c)]:=by rw[hs5];exact hput
  have o5:zda h0 h4 s5.obs:=o4.perm (by
   have e5:s5.obs=[.blk s.l (zc0 [.mp s.m,.int .i64 s.last]),.blk s.m (zd9 (zgy wV pV (zj4 s.W k ⟨p,hm,wm,0,0,[],[],0⟩ s.c)) (clkP s.W k s.c))]++((s.W.flatMap λe=>e.2.1.obs)++[.blk p (zc0 [.mp hm,.mp wm,.int .i64 0]),zlo hm [] 0,zlo wm [] 0]):=by
    unfold Lk.obs;rw[hW5,flatMap_append];rw[hs5,hput];rfl
   rw[e5];show List.Perm ([_,_]++((((s.W.flatMap λe=>e.2.1.obs)++[zlo hm [] 0])++[zlo wm [] 0])++[.blk p (zc0 [.mp hm,.mp wm,.int .i64 0])])) _;refine List.Perm.append_left _ ?_;rw[append_assoc,append_assoc];refine List.Perm.append_left _ ?_;exact perm_append_comm (l₁:=[zlo hm [] 0,zlo wm [] 0]) (l₂:=[.blk p (zc0 [.mp hm,.mp wm,.int .i64 0])]))
  have k5:s5.Ok:=by
   refine⟨?_,?_,?_,?_⟩
   ·rw[hs5];exact hk.zpw.put k _
   ·rw[hs5];exact zjt hk.nodup k _ _
   ·intro e he
    rw[hW5]at he;rcases mem_append.1 he with he|he
    ·exact hk.zg9 e he
    ·rw[mem_singleton.1 he];exact⟨hnil,hnil⟩
   ·rw[hW5,map_append,nodup_append]
    refine⟨hk.far,by simp,λa ha b hb=>?_⟩;obtain⟨e,he,rfl⟩:=mem_map.1 ha;have hb:b=p:=by simpa using hb
    rw[hb];intro hab;have h7:=(zb.le_trans l1 l2) _ _ (hs.2.2 e he).1;rw[hab,hp]at h7;cases h7
  have r5:Rel s5 ⟨d.L++[⟨k,[],[],0⟩],d.zou⟩:=⟨by rw[hs5];exact hr.last,by
   rw[hW5];exact hr.zg9.app ⟨rfl,λx=>Iff.rfl,λx=>Iff.rfl,rfl,List.Pairwise.nil,List.Pairwise.nil⟩⟩
  have g5:zfs s5.W k=some ⟨p,hm,wm,0,0,[],[],0⟩:=by rw[hs5];show zfs (zj4 _ _ _ _) k=_;rw[znn,if_pos rfl]
  have l5:s5.l=s.l:=by rw[hs5]
  have n5:s5.W.length=s.W.length+1:=by rw[hW5];simp
  have a5:s5.last=s.last:=by rw[hs5]
  have:=ask_loop (x:=x) (names:=names) (Q:=Q) s2 s3 s4 k5 (by omega) g5 o5 r5 (zon rfl w2) (λn=>⟨rfl,λx=>Iff.rfl,λx=>Iff.rfl,rfl,List.Pairwise.nil,List.Pairwise.nil⟩) hx hn (by omega) (by omega) λh' s' q1 q2 q3 q4 q5=>by
   rw[askD_new names w2]at q5 ⊢;exact hq h' s' q1 q2 (by omega) (by rw[q4,l5]) q5
  rw[l5]at this;exact this
 ·rw[w1]at el
  have ep:V.zfe .eql (.ptr e.2.1.p 0 0) .zg4=some (.bool false):=rfl;simp -dsimp only[el,B.zh,zq.k5,ep,B.cond_false,hxl ho.le];exact ask_loop s2 s3 s4 hk (by omega) w1 ho hr w2 (λn=>⟨by rw[<-m3];exact hsw.id,hsw.held,hsw.zel,hsw.zgz,hsw.riseH,hsw.riseW⟩) hx hn hl1 hl2 λh' s' q1 q2 q3 q4 q5=>hq h' s' q1 q2 (by omega) q4 q5
variable{C:z4}{N:zN}
def SetI(ps:zd0 Int Int)(c:Nat):Prop:=zev ps c /\ (∀p∈ps,p.2.1=1) /\ (zca ps).Nodup
abbrev zn0(m:Nat)(ps:zd0 Int Int)(c:Nat):Ob:= .blk m (zd9 (zgy wV wV ps) c)
theorem SetI.put{ps:zd0 Int Int}{c:Nat}(h:SetI ps c)(k:Int):SetI (zj4 ps k 1 c) (clkP ps k c):=by
 refine⟨h.1.put k 1,λp hp=>?_,zjt h.2.2 k 1 c⟩;have h1:=mem_getP (zjt h.2.2 k 1 c) hp;rw[znn]at h1;split at h1
 ·exact(Option.some.inj h1).symm
 ·obtain⟨n,hn⟩:=zgw h1
  exact h.2.1 (p.1,p.2.1,n) hn
theorem zgb{ps:zd0 Int Int}{c:Nat}{k x:Int}:x∈zca (zj4 ps k 1 c)↔x=k \/ x∈zca ps:=by
 rw[zjv];split
 ·rename_i h
  constructor
  ·exact .inr
  ·rintro(rfl|h1)
   ·exact h
   ·exact h1
 ·rw[mem_append,mem_singleton,or_comm]
theorem onesI_get{ps:zd0 Int Int}(h1:∀p∈ps,p.2.1=1)(k:Int):decide (0<(zfs ps k).getD 0)=decide (k∈zca ps):=by
 cases e:zfs ps k with
 | none=>have:=zol.1 e;simp[this]
 | some v=>
  obtain⟨n,hn⟩:=zgw e;have:=h1 _ hn;have hk:k∈zca ps:=mem_map.2 ⟨_,hn,rfl⟩;simp at this;simp[hk,this]
def zbz.Spec(C:z4)(N:zN):Prop:=∀(h:zb)(m c:Nat)(ps:zd0 Int Int)(k:Int)(Q:zQ),h m=some (zd9 (zgy wV wV ps) c)->SetI ps c->Q (.bool (decide (k∈zca ps))) h->C (N 513) [.mp m,.int .i64 k] h Q
theorem zbz.spec(i:zbz.Imp C N):zbz.Spec C N:=by
 intro h m c ps k Q h1 hs hq;apply i;have e:A.lkp h (some .i) (some (.int .i64 0)) false (.mp m) (.int .i64 k)=some (.int .i64 ((zfs ps k).getD 0)):=lkp_blk (v:=wV) keyI h1 0 k false;simp -dsimp only[zbz.cps,e,B.zh,V.bin_gtr];rw[onesI_get hs.2.1];exact zck hq
inductive Reach(s:Lk)(a:Int):Int->Prop
 | one {b:Int}:b∈zd4 s a->Reach s a b
 | more {b c:Int}:Reach s a b->c∈zd4 s b->Reach s a c
theorem Reach.first{s:Lk}{a b c:Int}(h:b∈zd4 s a)(hr:Reach s b c):Reach s a c:=by
 induction hr with
 | one h1=>exact .more (.one h) h1
 | more _ h2 ih=>exact .more ih h2
theorem waits_known{s:Lk}{a b:Int}(h:b∈zd4 s a):b∈zca s.W:=by
 unfold zd4 at h;split at h
 ·cases h
 ·split at h
  ·cases h
  ·unfold keptL at h
   have h1:=(zgo _).mem_iff.1 h;obtain⟨e,he,rfl⟩:=mem_map.1 h1;exact mem_map.2 ⟨e,(mem_filter.1 he).1,rfl⟩
structure Looked(s:Lk)(a:Int)(S S':List Int):Prop where
 sub:∀x∈S,x∈S'
 near:∀x∈zd4 s a,x∈S'
 closed:∀x∈S',x∉S->∀y∈zd4 s x,y∈S'
 reach:∀x∈S',x∉S->Reach s a x
 known:∀x∈S',x∈zca s.W
def lookAt(C:z4)(N:zN)(n:Nat):Prop:=∀(h0 h:zb)(s:Lk)(m c i2 i5 i6:Nat)(ps:zd0 Int Int)(a:Int)(Q:zQ),s.At h0->s.Ok->s.W.length <= 100000->h0 i2=some (zc0 [.ptr s.l 0 0])->h0 i5=some (zc0 [.mp m])->h0 i6=some (zc0 [.fn (N 526) [] [.ptr i2 0 0,.ptr i5 0 0,.ptr i6 0 0]])->zda h0 h [zn0 m ps c]->SetI ps c->(∀x∈zca ps,x∈zca s.W)->s.W.length <= ps.length+n->(∀(h':zb)(ps':zd0 Int Int)(c':Nat),zda h0 h' [zn0 m ps' c']->SetI ps' c'->Looked s a (zca ps) (zca ps')->Q (.tup []) h')->C (N 526) [.int .i64 a,.ptr i2 0 0,.ptr i5 0 0,.ptr i6 0 0] h Q
theorem zbb.look(i:zbb.Imp C N)(s1:zbf.Spec C N)(s2:zbz.Spec C N):∀n,lookAt C N n:=by
 intro n
 induction n using Nat.strongRecOn with
 | ind n ih=>
  intro h0 h s m c i2 i5 i6 ps a Q hs hk hlen b2 b5 b6 ho hps hkn hm hq;apply i;have e2:=zdp (k:=0) (ho.le _ _ b2) rfl;simp -dsimp only[zbb.cps,zbb.k3,B.zez,e2,B.zh];refine s1 h s a _ (hs.mono ho.le) hk hlen λx' h1 ox=>?_;have hx:=(ox.zov 0 rfl).zfb;rw[length_map]at hx;have o1:zda h0 h1 [zn0 m ps c,.sl 1 x' ((zd4 s a).map icl) []]:=ho.join ox;simp -dsimp only[hx,B.zh];have hwl:(zd4 s a).length <= 100000:=by
   unfold zd4;split
   ·simp
   ·split
    ·simp
    ·unfold keptL
     rw[zny,length_map];exact Nat.le_trans (length_filter_le _ _) hlen
  refine zbw.intro (λt vs hh=>∃(j:Nat)(qs:zd0 Int Int)(d:Nat),j+t=(zd4 s a).length /\ vs=[.int .i64 (j:Int)] /\ SetI qs d /\ zda h0 hh [zn0 m qs d,.sl 1 x' ((zd4 s a).map icl) []] /\ ps.length <= qs.length /\ (∀x∈zca ps,x∈zca qs) /\ (∀x∈(zd4 s a).take j,x∈zca qs) /\
   (∀x∈zca qs,x∉zca ps->∀y∈zd4 s x,y∈zca qs) /\ (∀x∈zca qs,x∉zca ps->Reach s a x) /\ (∀x∈zca qs,x∈zca s.W)) (zd4 s a).length ?_
   ⟨0,ps,c,by omega,rfl,hps,o1,Nat.le_refl _,λx hx=>hx,by simp,λx h1 h2=>absurd h1 h2,λx h1 h2=>absurd h1 h2,hkn⟩
  rintro Y t vs hh ⟨j,qs,d,hjt,rfl,hqs,o,hql,hsub,htake,hcl,hre,hkq⟩ hY;have e5:=zdp (k:=0) (o.le _ _ b5) rfl;have e6:=zdp (k:=0) (o.le _ _ b6) rfl;simp -dsimp only[zbb.l2,zbb.k1,V.ze2,B.zh];refine B.zb0 (λhc=>?_) (λhc=>?_)
  ·have hj:j<(zd4 s a).length:=by have:=of_decide_eq_true hc;omega
   have hxx:=o.zov 1 rfl;have g1:((zd4 s a).map icl)[j]?=some (icl (zd4 s a)[j]):=by rw[getElem?_map,getElem?_eq_getElem hj];rfl
   have i1:V.zdd 1 x' (.int .i64 (j:Int))=some (elp 1 x' j 0):=hxx.idxN (by simpa using hj);have c1:A.ldv hh (elp 1 x' j 0)=some (.int .i64 (zd4 s a)[j]):=hxx.cell g1;have hin:(zd4 s a)[j]∈zd4 s a:=getElem_mem hj;generalize hv:(zd4 s a)[j]=v at c1 hin;have htk:∀x∈(zd4 s a).take (j+1),x∈(zd4 s a).take j \/ x=v:=λx hx=>by
    rw[take_add_one,getElem?_eq_getElem hj,mem_append]at hx;rcases hx with h|h
    ·exact .inl h
    ·right;rw[<-hv];simpa using h
   simp -dsimp only[B.zez,i1,c1,e5,B.zh];refine s2 hh m d qs v _ (o.at 0 rfl) hqs ?_;simp -dsimp only[V.ze3,B.zh];refine B.zb0 (λhd=>?_) (λhd=>?_)
   ·have hd:v∉zca qs:=by simpa using hd
    have hvW:=waits_known hin;have hlt:qs.length+1 <= s.W.length:=by
     have h3:(v::zca qs).length <= (zca s.W).length:=List.Nodup.length_le_of_subset (nodup_cons.2 ⟨hd,hqs.2.2⟩) (λx hx=>by
      rcases mem_cons.1 hx with rfl|hx
      ·exact hvW
      ·exact hkq x hx)
     simpa[zca]using h3
    have hpl:(zj4 qs v 1 d).length=qs.length+1:=by
     have:=congrArg List.length (zjv v 1 d qs);rw[if_neg hd]at this;simpa[zca]using this
    simp -dsimp only[B.zez,e5,B.zh];refine o.mset (κ:=wV) (v:=wV) 0 rfl keyI v 1 λh2 o2 _ _=>?_;have o2':zda h0 h2 ([.sl 1 x' ((zd4 s a).map icl) []]++[zn0 m (zj4 qs v 1 d) (clkP qs v d)]):=o2.perm (List.Perm.swap _ _ _);have e6':=zdp (k:=0) (o2.le _ _ b6) rfl;simp -dsimp only[B.zez,e6',B.zh];rw[B.callv_fn];obtain⟨oa,ob⟩:=o2'.out;refine ih (n-1) (by omega) _ h2 s m (clkP qs v d) i2 i5 i6 (zj4 qs v 1 d) v _ (hs.mono oa.le) hk hlen (oa.le _ _ b2) (oa.le _ _ b5) (oa.le _ _ b6) ob (hqs.put v) (λx hx=>?_) (by omega) λh3 qs3 d3 o3 k3 lk=>?_
    ·rcases zgb.1 hx with rfl|hx
     ·exact hvW
     ·exact hkq x hx
    ·have o4:zda h0 h3 [zn0 m qs3 d3,.sl 1 x' ((zd4 s a).map icl) []]:=(oa.join o3).perm (List.Perm.swap _ _ _)
     simp -dsimp only[zjb (show j<4611686018427387904 by omega),B.zh];have up:∀x∈zca qs,x∈zca qs3:=λx hx=>lk.sub x (zgb.2 (.inr hx));have hl3:ps.length <= qs3.length:=by
      have h5:(zca qs).length <= (zca qs3).length:=List.Nodup.length_le_of_subset hqs.2.2 up;have h6:qs.length <= qs3.length:=by simpa[zca]using h5
      omega
     refine hY (t-1) _ _ (by omega) ⟨j+1,qs3,d3,by omega,rfl,k3,o4,hl3,λx hx=>up x (hsub x hx),λx hx=>?_,λx h1 h2 y hy=>?_,λx h1 h2=>?_,lk.known⟩
     ·rcases htk x hx with h|rfl
      ·exact up x (htake x h)
      ·exact lk.sub _ (zgb.2 (.inl rfl))
     ·by_cases hxq:x∈zca (zj4 qs v 1 d)
      ·rcases zgb.1 hxq with rfl|hxq
       ·exact lk.near y hy
       ·exact up y (hcl x hxq h2 y hy)
      ·exact lk.closed x h1 hxq y hy
     ·by_cases hxq:x∈zca (zj4 qs v 1 d)
      ·rcases zgb.1 hxq with rfl|hxq
       ·exact .one hin
       ·exact hre x hxq h2
      ·exact(lk.reach x h1 hxq).first hin
   ·have hd:v∈zca qs:=by simpa using hd
    simp -dsimp only[zjb (show j<4611686018427387904 by omega),B.zh];refine hY (t-1) _ _ (by omega) ⟨j+1,qs,d,by omega,rfl,hqs,o,hql,hsub,λx hx=>?_,hcl,hre,hkq⟩;rcases htk x hx with h|rfl
    ·exact htake x h
    ·exact hd
  ·have hj:j=(zd4 s a).length:=by have:=of_decide_eq_false hc;omega
   rw[hj,take_length]at htake;exact zck (hq hh qs d (o.sub (.cons_cons _ (nil_sublist _))) hqs ⟨hsub,htake,hcl,hre,hkq⟩)
variable{C:z4}{N:zN}
def zb4.Spec(C:z4)(N:zN):Prop:=∀(h:zb)(s:Lk)(a:Int)(Q:zQ),s.At h->s.Ok->s.W.length <= 100000->(∀(h':zb)(m c:Nat)(ps:zd0 Int Int),zda h h' [zn0 m ps c]->SetI ps c->(∀x,x∈zca ps↔Reach s a x)->(∀x∈zca ps,x∈zca s.W)->Q (.mp m) h')->C (N 512) [.ptr s.l 0 0,.int .i64 a] h Q
theorem zb4.spec(i:zb4.Imp C N)(i1:zbb.Imp C N)(s1:zbf.Spec C N)(s2:zbz.Spec C N):zb4.Spec C N:=by
 intro h s a Q hs hk hlen hq;apply i;simp -dsimp only[zb4.cps,zb4.k1];intro i2 h2;have o1:=(zda.start h).zkm h2 (b:=zc0 [.ptr s.l 0 0]) rfl;refine o1.zi7 wV wV λm h3 f3 o3 l3=>?_;intro i5 h5;have o5:=o3.zkm h5 (b:=zc0 [.zji]) rfl;refine o5.blkSt 2 rfl rfl (by simp) λh6 o6=>?_;intro i6 h7;have o7:=o6.zkm h7 (b:=zc0 [.nilf]) rfl;refine o7.blkSt 3 rfl rfl (by simp) λh8 o8=>?_;have p6:h8 i6=some (zc0 [.fn (N 526) [] [.ptr i2 0 0,.ptr i5 0 0,.ptr i6 0 0]]):=o8.at 3 rfl;have e6:=zdp (k:=0) p6 rfl;simp -dsimp only[B.zez,e6,B.zh];rw[B.callv_fn];have o9:zda h h8 ([.blk i2 (zc0 [.ptr s.l 0 0]),.blk i5 (zc0 [.mp m]),.blk i6 (zc0 [.fn (N 526) [] [.ptr i2 0 0,.ptr i5 0 0,.ptr i6 0 0]])]++[zn0 m [] 0]):=o8.perm (by
  show List.Perm [_,zn0 m [] 0,_,_] [_,_,_,zn0 m [] 0];exact List.Perm.cons _ (perm_append_comm (l₁:=[zn0 m [] 0])))
 obtain⟨oa,ob⟩:=o9.out;refine zbb.look i1 s1 s2 s.W.length _ h8 s m 0 i2 i5 i6 [] a _ (hs.mono oa.le) hk hlen (oa.at 0 rfl) (oa.at 1 rfl) (oa.at 2 rfl) ob ⟨zev.nil 0,λp hp=>absurd hp (not_mem_nil),List.Pairwise.nil⟩ (λx hx=>absurd hx (not_mem_nil)) (by simp) λh9 ps c o10 k1 lk=>?_;have o11:=oa.join o10;have p5:h9 i5=some (zc0 [.mp m]):=o11.at 1 rfl;have e5:=zdp (k:=0) p5 rfl;simp -dsimp only[B.zez,e5,B.zh];refine zck (hq h9 m c ps (o11.sub (sublist_append_right _ _)) k1 (λx=>⟨λhx=>lk.reach x hx (not_mem_nil),λhx=>?_⟩) lk.known)
 induction hx with
 | one h1=>exact lk.near _ h1
 | more _ h2 ih=>exact lk.closed _ ih (not_mem_nil) _ h2
theorem key_inj{T:Type}:∀{ps:zd0 Int T},(zca ps).Nodup->∀{p q:Int×T×Nat},p∈ps->q∈ps->p.1=q.1->p=q
 | e::r,hn,p,q,hp,hq,h=>by
  have hn':e.1∉zca r /\ (zca r).Nodup:=nodup_cons.1 hn
  rcases mem_cons.1 hp with h1|h1<;>rcases mem_cons.1 hq with h2|h2
  ·rw[h1,h2]
  ·exact absurd (mem_map.2 ⟨q,h2,by rw[<-h,h1]⟩) hn'.1
  ·exact absurd (mem_map.2 ⟨p,h1,by rw[h,h2]⟩) hn'.1
  ·exact key_inj hn'.2 h1 h2 h
def RoundIs(s:Lk)(L:List Int):Prop:=(L=[] /\ ∀w∈zca s.W,¬ Reach s w w) \/ ∃w∈zca s.W,Reach s w w /\ (∀v∈zca s.W,v<w->¬ Reach s v v) /\ L.Pairwise (λa b=>a<b) /\ ∀o,o∈L↔Reach s w o /\ Reach s o w
def zn.Spec(C:z4)(N:zN):Prop:=∀(h:zb)(s:Lk)(Q:zQ),s.At h->s.Ok->s.W.length <= 100000->(∀(h':zb)(x':za)(L:List Int),RoundIs s L->zda h h' [.sl 1 x' (L.map icl) []]->Q x' h')->C (N 492) [.ptr s.l 0 0] h Q
theorem round_out(s1:zb4.Spec C N)(s2:zbz.Spec C N)(s3:zbd.Spec C N){h:zb}{s:Lk}{w:Int}{m c:Nat}{ps:zd0 Int Int}{Y1:zL}{Q:zQ}(hs:s.At h)(hk:s.Ok)(hlen:s.W.length <= 100000)
  (hm:h m=some (zd9 (zgy wV wV ps) c)) (hps:SetI ps c) (hr:∀x,x∈zca ps↔Reach s w x) (hpl:ps.length <= 100000)
  (hq:∀(h':zb)(x':za)(L:List Int),L.Pairwise (λa b=>a<b)->(∀o,o∈L↔Reach s w o /\ Reach s o w)->zda h h' [.sl 1 x' (L.map icl) []]->Q x' h'):
  B.rangeMap h (.mp m) λv30 h=>zbw (zn.l2 C N (dn Q) Y1 (.ptr s.l 0 0) (.int .i64 w) v30) [.zey] h:=by
 refine zda.zpg (κ:=wV) (v:=wV) (ps:=ps) (c:=c) (J:=λD l vs=>∃out' O',vs=[out'] /\ l=[.sl 1 out' (O'.map icl) []] /\ O'.Sublist (D.map (·.1)) /\ ∀o∈D.map (·.1),(o∈O'↔Reach s o w))
  (REST:=λit vs v h Y=>match vs with
   | [v6]=>B.pv (V.ext 0 v) λv32=>B.cond v32
    (B.pv (A.zen h it) λv33=>B.pv (V.ext 0 v33) λv34=>B.call C (N 512) [.ptr s.l 0 0,v34] h λv37 h=>B.call C (N 513) [v37,.int .i64 w] h λv39 h=>B.cond v39
     (B.zf2 h (zeh [(0,none,v34)] (zh4 1 [.int .i64 0])) λi42 h=>B.appW h 1 8 v6 (.sl i42 0 0 1 1 1) λv43 h=>Y [v43] h) (Y [v6] h))
    (B.call C (N 511) [v6] h λv45 h=>dn Q v6 h)
   | _=>False) ((zda.start h).zey 1) hm hps.1 ⟨.zey,[],rfl,rfl,.slnil,by simp⟩ ?_ ?_ ?_
 ·rintro it vs h4 Y D l ⟨out',O',rfl,_⟩ hn
  exact hn
 ·rintro it h4 D l bb Y vs ⟨out',O',rfl,rfl,hsub,hmem⟩ hp ho
  simp -dsimp only[V.zfy,getElem?_cons_zero,B.zh,B.cond_false];have o1:zda h h4 [.sl 1 out' (O'.map icl) []]:=ho.sub (.cons_cons _ (nil_sublist _));have hl:O'.length <= 100000000:=by
   have h1:=hsub.length_le;rw[length_map,hp.length_eq]at h1;omega
  have hDk:(D.map (·.1)).Perm (zca ps):=hp.map _;refine s3 h h4 out' O' [] _ o1 hl λh5 L hL hS o5=>?_;refine zck (hq h5 out' L ?_ (λo=>?_) o5)
  ·have hnd:L.Nodup:=hL.symm.nodup (hsub.nodup (hDk.symm.nodup hps.2.2))
   exact(hS.and hnd).imp λ{a b} hab=>by have:=hab.1;have:=hab.2;omega
  ·rw[hL.mem_iff]
   constructor
   ·intro h1
    have h2:=hsub.subset h1;exact⟨(hr o).1 (hDk.mem_iff.1 h2),(hmem o h2).1 h1⟩
   ·rintro⟨h1,h2⟩
    exact(hmem o (hDk.mem_iff.2 ((hr o).2 h1))).2 h2
 ·rintro it h4 D l bb Y vs p hpm ⟨out',O',rfl,rfl,hsub,hmem⟩ hD hpD hDl ho he hY
  simp -dsimp only[V.zfy,getElem?_cons_zero,getElem?_cons_succ,B.zh,B.cond_true,he];have hpk:p.1∉D.map (·.1):=λhm=>by
   obtain⟨q,hq1,hq2⟩:=mem_map.1 hm;have hq3:q=p:=key_inj hps.2.2 (hD q hq1) hpm hq2;exact hpD (hq3 ▸ hq1)
  refine s1 h4 s p.1 _ (hs.mono ho.le) hk hlen λh5 m5 c5 ps5 o5 k5 r5 _=>?_;refine s2 h5 m5 c5 ps5 w _ (o5.at 0 rfl) k5 ?_;have oo:=ho.grow o5.le;have hl:=hsub.length_le;rw[length_map]at hl;refine B.zb0 (λhd=>?_) (λhd=>?_)
  ·have hd:Reach s p.1 w:=(r5 w).1 (of_decide_eq_true hd)
   have hf:zeh [(0,none,wV p.1)] (zh4 1 [.int .i64 0])=some [.int .i64 p.1]:=rfl;simp -dsimp only[hf];refine oo.push 0 rfl (cs:=[.int .i64 p.1]) rfl (by omega) (by simp;omega) (by simp[maxLen];omega) λout2 h6 o6 _=>?_;refine hY h6 [.sl 1 out2 ((O'++[p.1]).map icl) []] _ ⟨out2,O'++[p.1],rfl,rfl,?_,λo ho=>?_⟩ (by rw[map_append];exact o6)
   ·rw[map_append];exact hsub.append (List.Sublist.refl _)
   ·rw[map_append,mem_append]at ho
    rw[mem_append,mem_singleton];rcases ho with ho|ho
    ·constructor
     ·rintro(h1|rfl)
      ·exact(hmem o ho).1 h1
      ·exact hd
     ·exact λh1=> .inl ((hmem o ho).2 h1)
    ·have ho:o=p.1:=by simpa using ho
     subst ho;exact⟨λ_=>hd,λ_=> .inr rfl⟩
  ·have hd:¬ Reach s p.1 w:=λh1=>of_decide_eq_false hd ((r5 w).2 h1)
   refine hY h5 _ _ ⟨out',O',rfl,rfl,?_,λo ho=>?_⟩ oo
   ·rw[map_append];exact hsub.trans (sublist_append_left _ _)
   ·rw[map_append,mem_append]at ho
    rcases ho with ho|ho
    ·exact hmem o ho
    ·have ho:o=p.1:=by simpa using ho
     subst ho;exact⟨λh1=>absurd (hsub.subset h1) hpk,λh1=>absurd h1 hd⟩
variable{C:z4}{N:zN}
theorem zn.spec(i:zn.Imp C N)(hG:zmm C)(i2:zx.Imp C N)(i3:zl.Imp C N)(s0:zba.Spec C N)(s1:zb4.Spec C N)(s2:zbz.Spec C N)(s3:zbd.Spec C N)(s4:zcc.Spec C N):zn.Spec C N:=by
 intro h s Q hs hk hlen hq;apply i;refine s0 h s _ hs ?_;have e1:=zdp (k:=0) hs.1 rfl;simp -dsimp only[V.ze3,Bool.not_true,B.zh,B.cond_false,zn.k6,B.zdf,V.fieldAddr,Nat.zero_add,B.zez,e1];apply i2;simp -dsimp only[zx.cps];intro i1 h1;have o1:=(zda.start h).zmt h1 [.mp s.m];refine zck ?_;refine s4 (N 525) [.ptr i1 0 0] _ s.W _ _ (keysI_iter hG i3 (m:=s.m) hk.zpw) (λa b hle ⟨x,y⟩=>⟨hle _ _ x,hle _ _ y⟩) hlen ⟨zbo ..,o1.le _ _ hs.2.1⟩ λx' h2 o=>?_;have ox:zda h h2 [.sl 1 x' ((zgp (zca s.W)).map icl) []]:=o.back o1.le;have hx:=(ox.zov 0 rfl).zfb;rw[length_map]at hx;have hSl:(zgp (zca s.W)).length <= 100000:=by rw[zny];simpa[zca]using hlen
 simp -dsimp only[hx,B.zh];refine zbw.intro (λt vs hh=>h2.le hh /\ ∃j:Nat,j+t=(zgp (zca s.W)).length /\ vs=[.int .i64 (j:Int)] /\ ∀x∈(zgp (zca s.W)).take j,¬ Reach s x x) (zgp (zca s.W)).length ?_ ⟨zb.le_refl _,0,by omega,rfl,by simp⟩;rintro Y t vs hh ⟨hle,j,hjt,rfl,hno⟩ hY;simp -dsimp only[zn.l5,V.ze2,B.zh];refine B.zb0 (λhc=>?_) (λhc=>?_)
 ·have hj:j<(zgp (zca s.W)).length:=by have:=of_decide_eq_true hc;omega
  have hxx:=(ox.zov 0 rfl).mono hle;have g1:((zgp (zca s.W)).map icl)[j]?=some (icl (zgp (zca s.W))[j]):=by rw[getElem?_map,getElem?_eq_getElem hj];rfl
  have i1:V.zdd 1 x' (.int .i64 (j:Int))=some (elp 1 x' j 0):=hxx.idxN (by simpa using hj);have c1:A.ldv hh (elp 1 x' j 0)=some (.int .i64 (zgp (zca s.W))[j]):=hxx.cell g1;have hin:(zgp (zca s.W))[j]∈zca s.W:=(zgo _).mem_iff.1 (getElem_mem hj);have hleast:∀v∈zca s.W,v<(zgp (zca s.W))[j]->¬ Reach s v v:=λv hv hlt=>by
   obtain⟨n,hn,e⟩:=getElem_of_mem ((zgo _).mem_iff.2 hv);by_cases hnj:n<j
   ·exact hno v (by rw[<-e];exact mem_take_iff_getElem.2 ⟨n,by omega,rfl⟩)
   ·exfalso
    rcases Nat.lt_or_ge j n with h5|h5
    ·have:=pairwise_iff_getElem.1 (zjn (zca s.W)) j n hj hn h5
     omega
    ·have:n=j:=by omega
     subst this;omega
  have htk:∀x∈(zgp (zca s.W)).take (j+1),x∈(zgp (zca s.W)).take j \/ x=(zgp (zca s.W))[j]:=λx hx=>by
   rw[take_add_one,getElem?_eq_getElem hj,mem_append]at hx;rcases hx with h|h
   ·exact .inl h
   ·right;simpa using h
  generalize (zgp (zca s.W))[j]=w at c1 hin hleast htk;simp -dsimp only[zn.k4,B.zez,i1,c1,B.zh];have hsh:=hs.mono (zb.le_trans ox.le hle);refine s1 hh s w _ hsh hk hlen λh5 m c ps o5 k5 r5 n5=>?_;simp -dsimp only[zn.k3];refine s2 h5 m c ps w _ (o5.at 0 rfl) k5 ?_;simp -dsimp only[V.ze3,B.zh];refine B.zb0 (λhd=>?_) (λhd=>?_)
  ·have hd:¬ Reach s w w:=λh1=>by have:=(r5 w).2 h1;simp[this]at hd
   simp -dsimp only[zjb (show j<4611686018427387904 by omega),B.zh];refine hY (t-1) _ _ (by omega) ⟨zb.le_trans hle o5.le,j+1,by omega,rfl,λx hx=>?_⟩;rcases htk x hx with h|rfl
   ·exact hno x h
   ·exact hd
  ·have hd:Reach s w w:=(r5 w).1 (by simpa using hd)
   have hpl:ps.length <= 100000:=by
    have h3:(zca ps).length <= (zca s.W).length:=List.Nodup.length_le_of_subset k5.2.2 n5;have h4:ps.length <= s.W.length:=by simpa[zca]using h3
    omega
   refine round_out s1 s2 s3 (hsh.mono o5.le) hk hlen (o5.at 0 rfl) k5 r5 hpl λh6 x6 L p6 m6 o6=>?_;exact hq h6 x6 L (.inr ⟨w,hin,hd,hleast,p6,m6⟩) (o6.back (zb.le_trans ox.le (zb.le_trans hle o5.le)))
 ·have hj:j=(zgp (zca s.W)).length:=by have:=of_decide_eq_false hc;omega
  rw[hj,take_length]at hno;refine zck (hq hh .zey [] (.inl ⟨rfl,λw hw=>hno w ((zgo _).mem_iff.2 hw)⟩) ((zda.nil (zb.le_trans ox.le hle)).zey 1))
variable{C:z4}{N:zN}
theorem ask_fr(sA:zq.Spec C N){h0 h:zb}{A:List Ob}{s:Lk}{d:DL}{k:Int}{names:List Key}{x:za}{R:List (List za)}{Q:zQ}(ho:zda h0 h (A++s.obs))(hk:s.Ok)(hr:Rel s d)(hlen:s.W.length<100000)(hx:∀H,zda h0 H A->SlX H 1 x (names.map tc) R)(hn:names.length <= 100000)(hl1: -1000000000 <= s.last)(hl2:s.last <= 1000000000)
  (hq:∀(h':zb)(s':Lk),s'.Ok->zda h0 h' (A++s'.obs)->s'.W.length <= s.W.length+1->s'.l=s.l->Rel s' (zl3 d k names).2->Q (.bool (zl3 d k names).1) h'):C (N 489) [.ptr s.l 0 0,.int .i64 k,x] h Q:=by
 obtain⟨oa,ob⟩:=ho.out;exact sA _ h s d k names x R Q ob hk hr hlen (hx _ oa) hn hl1 hl2 λh' s' k1 o1 n1 l1 r1=>hq h' s' k1 (oa.join o1) n1 l1 r1
theorem Rel.del{s:Lk}{d:DL}(hr:Rel s d)(k:Int):Rel (s.del k) (freeD d k):=⟨hr.last,hr.zg9.del⟩
theorem free_fr(sF:zbv.Spec C N){h0 h:zb}{A:List Ob}{s:Lk}{d:DL}{k:Int}{Q:zQ}(ho:zda h0 h (A++s.obs))(hk:s.Ok)(hr:Rel s d)
  (hq:∀(h':zb),(s.del k).Ok->zda h0 h' (A++(s.del k).obs)->Rel (s.del k) (freeD d k)->Q (.tup []) h'):C (N 488) [.ptr s.l 0 0,.int .i64 k] h Q:=by
 obtain⟨oa,ob⟩:=ho.out;exact sF _ h s k Q ob hk λh' o1=>hq h' (hk.del k) (oa.join o1) (hr.del k)
theorem at_fr{h0 h:zb}{A:List Ob}{s:Lk}(ho:zda h0 h (A++s.obs))(hk:s.Ok):s.At h:=by
 obtain⟨oa,ob⟩:=ho.out;exact Lk.at_of ob hk
def zmn(d:DL)(k:Int):List Int:=
 match findD d.L k with
 | none=>[]
 | some w=>if w.Turn=0 then [] else zgp (zg7 d k w.Wants w.Turn)
theorem znd{s:Lk}{d:DL}(hr:Rel s d)(hk:s.Ok)(k:Int):zd4 s k=zmn d k:=by
 unfold zd4 zmn;rcases hr.zg9.get (k:=k) with⟨w1,w2⟩|⟨e,dd,m1,m2,m3,w1,w2,hsw⟩
 ·rw[w1,w2]
 ·rw[w1,w2]
  have h1:=kept_rel hr.zg9 hk.nodup hk.far w1 hsw.zel dd.Turn;simp only[hsw.zgz];split
  ·rfl
  ·unfold keptL zg7
   rw[h1]
def holdsD(d:DL)(k:Int):List Key:=
 match findD d.L k with
 | none=>[]
 | some w=>w.zll
theorem lessB_tot{a b:Key}(h:zf4 b a=false)(hne:a≠b):zf4 a b=true:=lessB_or h (λe=>hne e.symm)
theorem holds_eq{s:Lk}{d:DL}(hr:Rel s d)(hk:s.Ok){k:Int}{L:List Key}(hp:L.Perm (zca (zo2 s k)))(hs:SortedB L):L=holdsD d k:=by
 unfold zo2 at hp;unfold holdsD;rcases hr.zg9.get (k:=k) with⟨w1,w2⟩|⟨e,dd,m1,m2,m3,w1,w2,hsw⟩
 ·rw[w1]at hp
  rw[w2];exact List.Perm.eq_nil hp
 ·rw[w1]at hp
  rw[w2];have hnd:L.Nodup:=hp.symm.nodup (hk.zg9 e m1).held.2.2;refine riseB_ext ((hs.and hnd).imp λ{a b} hab=>lessB_tot hab.1 hab.2) hsw.riseH λx=>?_;rw[hp.mem_iff];exact hsw.held x
theorem mem_setD{k:Int}{w o:DW}:∀{L:List DW},o∈zl7 L k w->o=w \/ o∈L
 | [],h=> .inl (by simpa[zl7]using h)
 | q::L,h=>by
  unfold zl7 at h
  split at h
  ·rcases mem_cons.1 h with h|h
   ·exact .inl h
   ·exact .inr (mem_cons_of_mem _ h)
  ·rcases mem_cons.1 h with h|h
   ·exact .inr (by rw[h];exact mem_cons_self ..)
   ·rcases mem_setD h with h|h
    ·exact .inl h
    ·exact .inr (mem_cons_of_mem _ h)
theorem findD_mem{k:Int}{w:DW}:∀{L:List DW},findD L k=some w->w∈L /\ w.Id=k
 | q::L,h=>by
  unfold findD at h
  split at h
  ·rename_i hk
   cases h
   exact⟨mem_cons_self ..,hk⟩
  ·obtain⟨h1,h2⟩:=findD_mem h
   exact⟨mem_cons_of_mem _ h1,h2⟩
theorem setD_ids{k:Int}{w:DW}(hw:w.Id=k):∀{L:List DW},(L.map (·.Id)).Nodup->((zl7 L k w).map (·.Id)).Nodup /\ ∀x,x∈(zl7 L k w).map (·.Id)->x=k \/ x∈L.map (·.Id)
 | [],_=>by simp[zl7,hw]
 | q::L,h=>by
  obtain⟨h1,h2⟩:=nodup_cons.1 h
  unfold zl7
  split
  ·rename_i hk
   rw[map_cons,hw]
   refine⟨nodup_cons.2 ⟨by rw[<-hk];exact h1,h2⟩,λx hx=>?_⟩
   rcases mem_cons.1 hx with h|h
   ·exact .inl h
   ·exact .inr (mem_cons_of_mem _ h)
  ·rename_i hk
   obtain⟨i1,i2⟩:=setD_ids hw (L:=L) h2
   rw[map_cons]
   refine⟨nodup_cons.2 ⟨λhm=>?_,i1⟩,λx hx=>?_⟩
   ·rcases i2 _ hm with h|h
    ·exact hk h
    ·exact h1 h
   ·rcases mem_cons.1 hx with h|h
    ·exact .inr (by rw[h];exact mem_cons_self ..)
    ·rcases i2 _ h with h|h
     ·exact .inl h
     ·exact .inr (mem_cons_of_mem _ h)
theorem mem_delD{k:Int}{o:DW}:∀{L:List DW},o∈delD L k->o∈L
 | q::L,h=>by
  unfold delD at h
  split at h
  ·exact mem_cons_of_mem _ h
  ·rcases mem_cons.1 h with h|h
   ·rw[h];exact mem_cons_self ..
   ·exact mem_cons_of_mem _ (mem_delD h)
theorem setD_len{k:Int}{w:DW}:∀{L:List DW},(zl7 L k w).length <= L.length+1
 | []=>Nat.le_refl _
 | q::L=>by
  unfold zl7
  split
  ·simp
  ·have:=setD_len (k:=k) (w:=w) (L:=L)
   simp only[length_cons];omega
structure zhq(d:DL):Prop where
 last:0 <= d.zou
 turns:∀w∈d.L,0 <= w.Turn /\ w.Turn <= d.zou
 ids:(d.L.map (·.Id)).Nodup
theorem workD_turn{d:DL}(h:zhq d)(k:Int):0 <= (zky d k).Turn /\ (zky d k).Turn <= d.zou:=by
 unfold zky;cases e:findD d.L k with
 | none=>exact⟨by simp,by simpa using h.last⟩
 | some w=>exact h.turns w (findD_mem e).1
theorem turnD_le{d:DL}(h:zhq d)(k:Int):0<zns d k /\ zns d k <= d.zou+1:=by
 have h1:=workD_turn h k;have h2:=h.last;unfold zns;split<;>omega
theorem ask_good{d:DL}(h:zhq d)(k:Int)(names:List Key):zhq (zl3 d k names).2 /\ (zl3 d k names).2.zou <= d.zou+1 /\ d.zou <= (zl3 d k names).2.zou /\ (zl3 d k names).2.L.length <= d.L.length+1:=by
 have ht:=turnD_le h k;have hl:=h.last;unfold zl3;simp only;split
 ·refine⟨⟨hl,λw hw=>?_,(setD_ids (k:=k) (w:=⟨k,(zlm (zky d k) names).foldl putT (zky d k).zll,[],0⟩) rfl h.ids).1⟩,by simp only;omega,Int.le_refl _,setD_len⟩
  rcases mem_setD hw with rfl|hw
  ·exact⟨Int.le_refl _,hl⟩
  ·exact h.turns w hw
 ·refine⟨⟨by simp only;omega,λw hw=>?_,(setD_ids (k:=k) (w:=⟨k,(zky d k).zll,zlm (zky d k) names,zns d k⟩) rfl h.ids).1⟩,by simp only;omega,by simp only;omega,setD_len⟩
  rcases mem_setD hw with rfl|hw
  ·exact⟨by simp only;omega,by simp only;omega⟩
  ·have:=h.turns w hw
   exact⟨this.1,by simp only;omega⟩
theorem free_good{d:DL}(h:zhq d)(k:Int):zhq (freeD d k):=by
 have sub:∀L:List DW,((delD L k).map (·.Id)).Sublist (L.map (·.Id)):=by
  intro L
  induction L with
  | nil=>exact .slnil
  | cons q L ih=>
   unfold delD;split
   ·exact sublist_cons_self ..
   ·exact ih.cons_cons _
 exact⟨h.last,λw hw=>h.turns w (mem_delD hw),h.ids.sublist (sub d.L)⟩
abbrev nmA:Key:=[65]
abbrev nmB:Key:=[66]
abbrev nmS:Key:=[42]
def exL0:DL:=⟨[],0⟩
def exL1:DL:=⟨[⟨1,[nmA],[],0⟩],0⟩
def exL2:DL:=⟨[⟨1,[nmA],[],0⟩,⟨2,[],[nmA,nmB],1⟩],1⟩
def exL3:DL:=⟨[⟨1,[nmA],[],0⟩,⟨2,[],[nmA,nmB],1⟩,⟨3,[],[nmB],2⟩],2⟩
def exL4:DL:=⟨[⟨2,[],[nmA,nmB],1⟩,⟨3,[],[nmB],2⟩],2⟩
def exL5:DL:=⟨[⟨2,[nmA,nmB],[],0⟩,⟨3,[],[nmB],2⟩],2⟩
theorem exL_1:zl3 exL0 1 [nmA]=(true,exL1):=by kernel_rfl
theorem exL_2:zl3 exL1 2 [nmA,nmB]=(false,exL2):=by kernel_rfl
theorem exL_3:zl3 exL2 3 [nmB]=(false,exL3):=by kernel_rfl
theorem exL_w3:zmn exL3 3=[2]:=by kernel_rfl
theorem exL_4:freeD exL3 1=exL4:=by kernel_rfl
theorem exL_5:zl3 exL4 3 [nmB]=(false,exL4):=by kernel_rfl
theorem exL_6:zl3 exL4 2 []=(true,exL5):=by kernel_rfl
theorem exL_h2:holdsD exL5 2=[nmA,nmB]:=by kernel_rfl
def exM2:DL:=⟨[⟨1,[nmA],[],0⟩,⟨2,[nmB],[],0⟩],0⟩
def exM3:DL:=⟨[⟨1,[nmA],[nmB],1⟩,⟨2,[nmB],[],0⟩],1⟩
def exM4:DL:=⟨[⟨1,[nmA],[nmB],1⟩,⟨2,[nmB],[nmA],2⟩],2⟩
def exM5:DL:=⟨[⟨1,[nmA],[nmB],1⟩,⟨2,[nmB],[nmA],2⟩,⟨4,[],[nmS],3⟩],3⟩
theorem exM_2:zl3 exL1 2 [nmB]=(true,exM2):=by kernel_rfl
theorem exM_3:zl3 exM2 1 [nmB]=(false,exM3):=by kernel_rfl
theorem exM_4:zl3 exM3 2 [nmA]=(false,exM4):=by kernel_rfl
theorem exM_w1:zmn exM4 1=[2]:=by kernel_rfl
theorem exM_w2:zmn exM4 2=[1]:=by kernel_rfl
theorem exM_5:zl3 exM4 4 [nmS]=(false,exM5):=by kernel_rfl
theorem exM_w4:zmn exM5 4=[1,2]:=by kernel_rfl
theorem rising_one:∀{S T:List Int},S.Pairwise (λa b=>a<b)->T.Pairwise (λa b=>a<b)->(∀x,x∈S↔x∈T)->S=T:=by
 intro S T hS hT h;have nS:S.Nodup:=hS.imp λ{a b} hab e=>by omega
 have nT:T.Nodup:=hT.imp λ{a b} hab e=>by omega
 refine zk1 ((perm_ext_iff_of_nodup nS nT).2 h) (hS.imp λ{a b} hab=>by omega) (hT.imp λ{a b} hab=>by omega)
theorem exM_round{s:Lk}(hr:Rel s exM4)(hk:s.Ok){L:List Int}(h:RoundIs s L):L=[1,2]:=by
 have w1:zd4 s 1=[2]:=by rw[znd hr hk,exM_w1]
 have w2:zd4 s 2=[1]:=by rw[znd hr hk,exM_w2]
 have hids:zca s.W=[1,2]:=by rw[<-hr.zg9.ids];rfl
 have r12:Reach s 1 2:= .one (by rw[w1];simp);have r21:Reach s 2 1:= .one (by rw[w2];simp);have r11:Reach s 1 1:= .more r12 (by rw[w2];simp);have only:∀a,(a=1 \/ a=2)->∀b,Reach s a b->b=1 \/ b=2:=by
  intro a ha b hab
  induction hab with
  | one h=>
   rcases ha with rfl|rfl
   ·rw[w1]at h;right;simpa using h
   ·rw[w2]at h;left;simpa using h
  | more _ h2 ih=>
   rcases ih with rfl|rfl
   ·rw[w1]at h2;right;simpa using h2
   ·rw[w2]at h2;left;simpa using h2
 rcases h with⟨_,h⟩|⟨w,hw,hrw,hle,hp,hm⟩
 ·exact absurd r11 (h 1 (by rw[hids];simp))
 ·have hw1:w=1:=by
   rw[hids]at hw;have hw':w=1 \/ w=2:=by simpa using hw
   rcases hw' with h|h
   ·exact h
   ·exact absurd r11 (hle 1 (by rw[hids];simp) (by omega))
  subst hw1;refine rising_one hp (by simp) λx=>?_;rw[hm];constructor
  ·rintro⟨h1,_⟩
   have:=only 1 (.inl rfl) x h1;simpa using this
  ·intro hx
   have hx:x=1 \/ x=2:=by simpa using hx
   rcases hx with rfl|rfl
   ·exact⟨r11,r11⟩
   ·exact⟨r12,r21⟩
variable{C:z4}{N:zN}
theorem zi5(sA:zq.Spec C N){h0 h:zb}{A:List Ob}{s:Lk}{d:DL}{k:Int}{names:List Key}{Q:zQ}(ho:zda h0 h (A++s.obs))(hk:s.Ok)(hr:Rel s d)(hg:zhq d)(hb:d.zou <= 1000000)(hlen:d.L.length <= 1000)(hn:names.length <= 100000)
  (hq:∀(h':zb)(s':Lk),s'.Ok->zda h0 h' (A++s'.obs)->s'.l=s.l->Rel s' (zl3 d k names).2->Q (.bool (zl3 d k names).1) h'):∀id,h id=none->C (N 489) [.ptr s.l 0 0,.int .i64 k,.sl id 0 0 names.length 1 names.length] (upd h id (zc0 (names.map λx=> .str x))) Q:=by
 intro id hid;have e:(names.map λx=>za.str x)=(names.map tc++[]).flatten:=by
  rw[append_nil];clear hn hq
  induction names with
  | nil=>rfl
  | cons n r ih=>rw[map_cons,map_cons,flatten_cons,ih];rfl
 have o1:=ho.newSl (id:=id) (n:=names.length) (cp:=names.length) (es:=1) (cs:=names.map λx=> .str x) (L:=names.map tc) (R:=[]) hid (λp hp=>by
  rw[append_nil]at hp;obtain⟨n,_,rfl⟩:=mem_map.1 hp;rfl) (by simp) (by simp) e
 have o2:zda h0 (upd h id (zc0 (names.map λx=> .str x))) (([.sl 1 (.sl id 0 0 names.length 1 names.length) (names.map tc) []]++A)++s.obs):=o1.perm (by
  rw[append_assoc [_] A s.obs];exact perm_append_comm)
 have hl:=hr.last;have hgl:=hg.last;have hwl:s.W.length=d.L.length:=by
  have:=congrArg List.length hr.zg9.ids;simpa[zca]using this.symm
 exact ask_fr sA o2 hk hr (by omega) (λH o=>o.zov 0 rfl) hn (by omega) (by omega) λh' s' k1 o3 n1 l1 r1=>hq h' s' k1 (o3.sub (sublist_cons_self ..)) l1 r1
variable{C:z4}{N:zN}
def zc8.Spec(C:z4)(N:zN):Prop:=∀(x y:za)(L M:List Int)(R S:List (List za))(h:zb)(Q:zQ),SlX h 1 x (L.map icl) R->SlX h 1 y (M.map icl) S->L.length<4611686018427387904->Q (.bool (decide (L=M))) h->C (N 499) [x,y] h Q
theorem zc8.spec(i:zc8.Imp C N):zc8.Spec C N:=λx y L M R S h Q hx hy hlen hq=>i x y h Q (zpe iS hx hy hlen (zck hq))
theorem Rel.len{s:Lk}{d:DL}(hr:Rel s d):s.W.length=d.L.length:=by
 have:=congrArg List.length hr.zg9.ids;simpa[zca]using this.symm
theorem litI {h : zb} (L : List Int) {j : Nat} (hj : h j = none) : SlX (upd h j (zc0 (L.map fun x => .int .i64 x))) 1 (.sl j 0 0 L.length 1 L.length) (L.map icl) [] :=
  ((zda.start h).newSl (id := j) (n := L.length) (cp := L.length) (es := 1) (cs := L.map fun x => .int .i64 x) (L := L.map icl) (R := []) hj (fun p hp => by
    rw [append_nil] at hp
    obtain ⟨n, _, rfl⟩ := mem_map.1 hp
    rfl) (by simp) (by simp) (by
      rw [append_nil]
      induction L with
      | nil => rfl
      | cons n r ih => rw [map_cons, map_cons, flatten_cons, ih]; rfl)).zov 0 rfl
theorem litT {h : zb} (L : List Key) {j : Nat} (hj : h j = none) : SlX (upd h j (zc0 (L.map fun x => .str x))) 1 (.sl j 0 0 L.length 1 L.length) (L.map tc) [] :=
  ((zda.start h).newSl (id := j) (n := L.length) (cp := L.length) (es := 1) (cs := L.map fun x => .str x) (L := L.map tc) (R := []) hj (fun p hp => by
    rw [append_nil] at hp
    obtain ⟨n, _, rfl⟩ := mem_map.1 hp
    rfl) (by simp) (by simp) (by
      rw [append_nil]
      induction L with
      | nil => rfl
      | cons n r ih => rw [map_cons, map_cons, flatten_cons, ih]; rfl)).zov 0 rfl
theorem held_len{s:Lk}{d:DL}(hr:Rel s d)(hk:s.Ok)(k:Int):(zo2 s k).length <= (holdsD d k).length:=by
 unfold zo2 holdsD;rcases hr.zg9.get (k:=k) with⟨w1,w2⟩|⟨e,dd,m1,m2,m3,w1,w2,hsw⟩
 ·rw[w1,w2];exact Nat.le_refl _
 ·rw[w1,w2]
  have h3:(zca e.2.1.held).length <= dd.zll.length:=List.Nodup.length_le_of_subset (hk.zg9 e m1).held.2.2 λx hx=>(hsw.held x).1 hx;simpa[zca]using h3
def zdl.Spec(C:z4)(N:zN):Prop:=∀(h:zb)(Q:zQ),Q (.bool true) h->C (N 482) [] h Q
theorem zhq.zero:zhq exL0:=⟨Int.le_refl _,λw hw=>absurd hw (not_mem_nil),List.Pairwise.nil⟩
theorem zhq.of{d d':DL}{k:Int}{names:List Key}{b:Bool}(h:zhq d)(e:zl3 d k names=(b,d')):zhq d':=by
 have:=(ask_good h k names).1;rw[e]at this;exact this
theorem zdl.spec(i:zdl.Imp C N)(sN:zek.Spec C N)(sA:zq.Spec C N)(sF:zbv.Spec C N)(sW:zbf.Spec C N)(sH:zbn.Spec C N)(sR:zn.Spec C N)(sT:zc7.Spec C N)(sL:zc8.Spec C N):zdl.Spec C N:=by
 intro h Q hq;have f1:zeh [(0,none,.str [65])] (zh4 1 [.str []])=some [.str [65]]:=rfl;have f2:zeh [(0,none,.str [65]),(1,none,.str [66])] (zh4 2 [.str []])=some [.str [65],.str [66]]:=rfl;have f3:zeh [(0,none,.str [66])] (zh4 1 [.str []])=some [.str [66]]:=rfl;have f4:zeh [(0,none,.int .i64 2)] (zh4 1 [.int .i64 0])=some [.int .i64 2]:=rfl;have g1:zhq exL1:=zhq.zero.of exL_1;have g2:zhq exL2:=g1.of exL_2;have g3:zhq exL3:=g2.of exL_3;apply i;refine sN h _ λh1 s k1 w1 l1 o1=>?_;have r1:Rel s exL0:=⟨l1,by rw[w1];exact .nil⟩;have ep:V.zfe .eql (.ptr s.l 0 0) .zg4=some (.bool false):=rfl;simp -dsimp only[ep,B.zh,B.gd_f,Bool.not_false,B.zch,f1];intro j hj;simp -dsimp only[B.gd_f,B.zgk,Bool.not_false,B.zch];refine zi5 sA (A:=[]) (names:=[nmA]) o1 k1 r1 zhq.zero (by decide) (by decide) (by decide) (λh2 s2 k2 o2 l2 r2=>?_) j hj;rw[exL_1]at r2 ⊢;simp -dsimp only[V.ze3,Bool.not_true,Bool.not_false,B.zh,B.gd_f,B.zch,B.zf0,f2];rw[<-l2];intro j hj;simp -dsimp only[B.gd_f,B.zgk,Bool.not_false,B.zch];refine zi5 sA (A:=[]) (names:=[nmA,nmB]) o2 k2 r2 g1 (by decide) (by decide) (by decide) (λh3 s3 k3 o3 l3 r3=>?_) j hj;rw[exL_2]at r3 ⊢;simp -dsimp only[Bool.not_false,B.gd_f,B.zch,B.zf0,f3];rw[<-l3];intro j hj;simp -dsimp only[B.gd_f,B.zgk,Bool.not_false,B.zch];refine zi5 sA (A:=[]) (names:=[nmB]) o3 k3 r3 g2 (by decide) (by decide) (by decide) (λh4 s4 k4 o4 l4 r4=>?_) j hj;rw[exL_3]at r4 ⊢;simp -dsimp only[Bool.not_false,B.gd_f,B.zch,B.zf0];rw[<-l4];refine sW h4 s4 3 _ (at_fr o4 k4) k4 (by rw[r4.len];decide) λx5 h5 ox=>?_;rw[znd r4 k4,show zmn exL3 3=[2] from exL_w3]at ox;simp -dsimp only[Bool.not_false,B.gd_f,B.zch,f4];intro j hj;simp -dsimp only[Bool.not_false,B.gd_f,B.zch];refine sL x5 _ [2] [2] [] [] _ _ ((ox.zov 0 rfl).mono (ze5 _ hj)) (litI [2] hj) (by decide) ?_;have o6:=o4.grow (zb.le_trans ox.le (ze5 (zc0 [.int .i64 2]) hj))
 simp -dsimp only[decide_true,V.ze3,Bool.not_true,Bool.not_false,B.zh,B.gd_f,B.zch,B.zf0,B.cond_false];refine free_fr sF (A:=[]) o6 k4 r4 λh7 k7 o7 r7=>?_;have r7:Rel (s4.del 1) exL4:=by rw[<-exL_4];exact r7
 have l5:(s4.del 1).l=s4.l:=rfl;rw[<-l5];generalize s4.del 1=s5 at k7 o7 r7;refine sN h7 _ λh8 t k8 w8 m8 o8=>?_;have t1:Rel t exL0:=⟨m8,by rw[w8];exact .nil⟩;have o9:zda h h8 (s5.obs++t.obs):=o7.join o8;have m2:zhq exM2:=g1.of exM_2;have m3:zhq exM3:=m2.of exM_3;have m4:zhq exM4:=m3.of exM_4;have m5:zhq exM5:=m4.of exM_5;have g4:zhq exL4:=by rw[<-exL_4];exact free_good g3 1
 simp -dsimp only[f1];intro j hj;refine zi5 sA (names:=[nmA]) o9 k8 t1 zhq.zero (by decide) (by decide) (by decide) (λh2 t2 k2 o2 l2 r2=>?_) j hj;rw[exL_1]at r2 ⊢;simp -dsimp only[B.zgk,B.zch,f3];rw[<-l2];intro j hj;simp -dsimp only[B.zgk,B.zch];refine zi5 sA (names:=[nmB]) o2 k2 r2 g1 (by decide) (by decide) (by decide) (λh3 t3 k3 o3 l3 r3=>?_) j hj;rw[exM_2]at r3 ⊢;simp -dsimp only[B.zgk,B.zch,B.zfp,f3];rw[<-l3];intro j hj;simp -dsimp only[B.zgk,B.zch];refine zi5 sA (names:=[nmB]) o3 k3 r3 m2 (by decide) (by decide) (by decide) (λh4 t4 k4 o4 l4 r4=>?_) j hj;rw[exM_3]at r4 ⊢;simp -dsimp only[V.ze3,Bool.not_false,B.zh,B.zgk,B.zch,B.zfp,f1];rw[<-l4];intro j hj;simp -dsimp only[B.zgk,B.zch];refine zi5 sA (names:=[nmA]) o4 k4 r4 m3 (by decide) (by decide) (by decide) (λh5 t5 k5 o5 l5' r5=>?_) j hj;rw[exM_4]at r5 ⊢;simp -dsimp only[V.ze3,Bool.not_false,B.zh,B.zgk,B.zch,B.zfp,f3];rw[<-l5'];intro j hj;refine zi5 sA (names:=[nmB]) (o5.perm perm_append_comm) k7 r7 g4 (by decide) (by decide) (by decide) (λh6 s6 k6 o6 l6 r6=>?_) j hj;rw[exL_5]at r6 ⊢;simp -dsimp only[V.ze3,Bool.not_false,B.zh,B.zgk,B.zch];rw[<-l6];refine ask_fr sA (names:=[]) (R:=[]) o6 k6 r6 (by rw[r6.len];decide) (λH o=>((zda.start H).zey 1).zov 0 rfl) (by decide) (by rw[r6.last];decide) (by rw[r6.last];decide) λh9 s9 k9 o9 n9 l9 r9=>?_;rw[exL_6]at r9 ⊢;simp -dsimp only[B.zgk,B.zch,B.zfp];rw[<-l9];refine sH h9 s9 2 _ (at_fr o9 k9) k9 (Nat.le_trans (held_len r9 k9 2) (by decide)) λx1 h1 L1 p1 q1 ox1=>?_;have e1:L1=[nmA,nmB]:=by rw[holds_eq r9 k9 p1 q1];exact exL_h2
 subst e1;simp -dsimp only[B.zgk,B.zch,f2];intro j hj;simp -dsimp only[B.zgk,B.zch];refine sT x1 _ [nmA,nmB] [nmA,nmB] [] [] _ _ ((ox1.zov 0 rfl).mono (ze5 _ hj)) (litT [nmA,nmB] hj) (by decide) ?_;have oA:=(o9.grow (zb.le_trans ox1.le (ze5 (zc0 [.str nmA,.str nmB]) hj))).perm perm_append_comm;simp -dsimp only[decide_true,B.zgk,B.zch,B.zfp];refine sR _ t5 _ (at_fr oA k5) k5 (by rw[r5.len];decide) λhB x2 L2 rd ox2=>?_;have e2:L2=[1,2]:=exM_round r5 k5 rd;subst e2;have f5:zeh [(0,none,.int .i64 1),(1,none,.int .i64 2)] (zh4 2 [.int .i64 0])=some [.int .i64 1,.int .i64 2]:=rfl;simp -dsimp only[B.zgk,B.zch,f5];intro j2 hj2;simp -dsimp only[B.zgk,B.zch];refine sL x2 _ [1,2] [1,2] [] [] _ _ ((ox2.zov 0 rfl).mono (ze5 _ hj2)) (litI [1,2] hj2) (by decide) ?_;have oC:=oA.grow (zb.le_trans ox2.le (ze5 (zc0 [.int .i64 1,.int .i64 2]) hj2));have f6:zeh [(0,none,.str [42])] (zh4 1 [.str []])=some [.str [42]]:=rfl;simp -dsimp only[decide_true,B.zgk,B.zch,B.zfp,f6];intro j3 hj3;simp -dsimp only[B.zgk,B.zch];refine zi5 sA (names:=[nmS]) oC k5 r5 m4 (by decide) (by decide) (by decide) (λhD t6 k10 o10 l10 r10=>?_) j3 hj3;rw[exM_5]at r10 ⊢;simp -dsimp only[V.ze3,Bool.not_false,B.zh,B.zgk,B.zch,B.zfp];rw[<-l10];refine sW hD t6 4 _ (at_fr o10 k10) k10 (by rw[r10.len];decide) λx3 hE ox3=>?_;rw[znd r10 k10,show zmn exM5 4=[1,2] from exM_w4]at ox3;simp -dsimp only[B.zgk,B.zch,f5];intro j4 hj4;simp -dsimp only[B.zgk,B.zch];refine sL x3 _ [1,2] [1,2] [] [] _ _ ((ox3.zov 0 rfl).mono (ze5 _ hj4)) (litI [1,2] hj4) (by decide) ?_;simp -dsimp only[decide_true,B.zgk,B.zch,B.zfp];exact dn_le (zb.le_trans o10.le (zb.le_trans ox3.le (ze5 _ hj4))) hq
variable{C:z4}{N:zN}
def zo8(h:zb)(x:za):Prop:=x= .zg4 \/ ∃l n,x= .ptr l 0 0 /\ h l=some (zc0 [.zji,n])
theorem zo8.mono{h H:zb}{x:za}(hn:zo8 h x)(hle:h.le H):zo8 H x:=by
 rcases hn with h1|⟨l,n,h1,h2⟩
 ·exact .inl h1
 ·exact .inr ⟨l,n,h1,hle _ _ h2⟩
def zbv.zgu(C:z4)(N:zN):Prop:=∀(h:zb)(x y:za)(Q:zQ),zo8 h x->Q (.tup []) h->C (N 488) [x,y] h Q
theorem zbv.spo(i:zbv.Imp C N)(s0:zba.zgu C N):zbv.zgu C N:=by
 intro h x y Q hx hq;apply i;refine s0 h x _ hx ?_;simp -dsimp only[B.cond_false];exact zck hq
def zq.zgu(C:z4)(N:zN):Prop:=∀(h:zb)(x y z:za)(Q:zQ),zo8 h x->Q (.bool false) h->C (N 489) [x,y,z] h Q
theorem zq.spo(i:zq.Imp C N)(s0:zba.zgu C N):zq.zgu C N:=by
 intro h x y z Q hx hq;apply i;refine s0 h x _ hx ?_;simp -dsimp only[V.ze3,Bool.not_false,B.zh,B.cond_true];exact zck hq
def zbn.zgu(C:z4)(N:zN):Prop:=∀(h:zb)(x y:za)(Q:zQ),zo8 h x->Q .zey h->C (N 490) [x,y] h Q
theorem zbn.spo(i:zbn.Imp C N)(s0:zba.zgu C N):zbn.zgu C N:=by
 intro h x y Q hx hq;apply i;refine s0 h x _ hx ?_;simp +contextual -dsimp;exact zck hq
def zbf.zgu(C:z4)(N:zN):Prop:=∀(h:zb)(x y:za)(Q:zQ),zo8 h x->Q .zey h->C (N 491) [x,y] h Q
theorem zbf.spo(i:zbf.Imp C N)(s0:zba.zgu C N):zbf.zgu C N:=by
 intro h x y Q hx hq;apply i;refine s0 h x _ hx ?_;simp +contextual -dsimp;exact zck hq
def zn.zgu(C:z4)(N:zN):Prop:=∀(h:zb)(x:za)(Q:zQ),zo8 h x->Q .zey h->C (N 492) [x] h Q
theorem zn.spo(i:zn.Imp C N)(s0:zba.zgu C N):zn.zgu C N:=by
 intro h x Q hx hq;apply i;refine s0 h x _ hx ?_;simp -dsimp only[V.ze3,Bool.not_false,B.zh,B.cond_true];exact zck hq
variable{C:z4}{N:zN}
def zb5.Spec(C:z4)(N:zN):Prop:=∀(h:zb)(a:Int)(n:Key)(Q:zQ),Q (.bool true) h->C (N 493) [.int .i64 a,.str n] h Q
theorem zb5.spec(i:zb5.Imp C N)(s:zdl.Spec C N)(s1:zbv.zgu C N)(s2:zq.zgu C N)(s3:zbn.zgu C N)(s4:zbf.zgu C N)(s5:zn.zgu C N):zb5.Spec C N:=by
 intro h a n Q hq;apply i;refine s h _ ?_;have eb:A.bld [] [.zji,.int .i64 0]=some (.agg [.zji,.int .i64 0]):=rfl;have ec:A.zim 2 (.agg [.zji,.int .i64 0])=some [.zji,.int .i64 0]:=rfl;simp -dsimp only[V.ze3,Bool.not_true,B.zh,B.cond_false,zb5.k3,eb,ec];intro p hp;have o1:=(zda.start h).zkm hp (b:=zc0 [.zji,.int .i64 0]) rfl;have f1:zeh [(0,none,.zg4),(1,none,.ptr p 0 0)] (zh4 2 [.zg4])=some [.zg4,.ptr p 0 0]:=rfl;simp -dsimp only[f1];intro q hq';have o2:=o1.newSl (id:=q) (n:=2) (cp:=2) (es:=1) (cs:=[.zg4,.ptr p 0 0]) (L:=[[.zg4],[.ptr p 0 0]]) (R:=[]) hq' (by simp) rfl (by simp) rfl;generalize upd (upd h p (zc0 [.zji,.int .i64 0])) q (zc0 [.zg4,.ptr p 0 0])=hB at o2 ⊢;have hx:=o2.zov 1 rfl;have hn2:zo8 hB (.ptr p 0 0):= .inr ⟨p,_,rfl,o2.at 0 rfl⟩;have el:∀j:Nat,j<2->∃x,[[za.zg4],[.ptr p 0 0]][j]?=some [x] /\ zo8 hB x:=λj hj=>by
  match j,hj with
  | 0,_=>exact⟨_,rfl,.inl rfl⟩
  | 1,_=>exact⟨_,rfl,hn2⟩
 refine zbw.intro (λt vs hh=>hB.le hh /\ ∃j:Nat,j+t=2 /\ vs=[.int .i64 (j:Int)]) 2 ?_ ⟨zb.le_refl _,0,by omega,rfl⟩;rintro Y t vs hh ⟨hle,j,hjt,rfl⟩ hY;have e2:V.bin .lss (.int .i64 (j:Int)) (.int .i64 2)=some (.bool (decide ((j:Int)<2))):=by rw[V.ze2]
 simp -dsimp only[zb5.l2,zb5.k1,e2,B.zh];refine B.zb0 (λhc=>?_) (λhc=>?_)
 ·have hj:j<2:=by have:=of_decide_eq_true hc;omega
  obtain⟨x,hx1,hx2⟩:=el j hj;have hxx:=hx.mono hle;have i1:V.zdd 1 (.sl q 0 0 2 1 2) (.int .i64 (j:Int))=some (elp 1 (.sl q 0 0 2 1 2) j 0):=hxx.idxN (by simpa using hj);have c1:A.ldv hh (elp 1 (.sl q 0 0 2 1 2) j 0)=some x:=hxx.cell hx1;have hnx:=hx2.mono hle;simp -dsimp only[B.zez,i1,c1,B.zh];refine s1 hh x _ _ hnx ?_;have f2:zeh [(0,none,.str n)] (zh4 1 [.str []])=some [.str n]:=rfl;simp -dsimp only[B.zez,i1,c1,B.zh,f2];intro k hk;have hle2:=zb.le_trans hle (ze5 (zc0 [.str n]) hk);generalize upd hh k (zc0 [.str n])=h2 at hle2 ⊢;have c2:A.ldv h2 (elp 1 (.sl q 0 0 2 1 2) j 0)=some x:=(hx.mono hle2).cell hx1;have hnx2:=hx2.mono hle2;refine s2 h2 x _ _ _ hnx2 ?_;simp -dsimp only[B.gd_f,Bool.not_false,B.zch,i1,B.zez,c2,B.zh];refine s2 h2 x _ _ _ hnx2 ?_;simp -dsimp only[B.gd_f,Bool.not_false,B.zch,i1,B.zez,c2,B.zh,B.zf0];refine s3 h2 x _ _ hnx2 ?_;have el0:V.zfb .zey=some (.int .i64 0):=rfl;have eg:V.bin .gtr (.int .i64 0) (.int .i64 0)=some (.bool false):=rfl;simp -dsimp only[B.gd_f,Bool.not_false,B.zch,i1,B.zez,c2,B.zh,B.zf0,el0,eg];refine s4 h2 x _ _ hnx2 ?_;simp -dsimp only[B.gd_f,Bool.not_false,B.zch,i1,B.zez,c2,B.zh,B.zf0,el0,eg];refine s5 h2 x _ hnx2 ?_;simp -dsimp only[B.gd_f,Bool.not_false,B.zch,i1,B.zez,c2,B.zh,B.zf0,el0,eg,B.cond_false,zjb (show j<4611686018427387904 by omega)];exact hY (t-1) _ _ (by omega) ⟨hle2,j+1,by omega,rfl⟩
 ·exact dn_le (zb.le_trans o2.le hle) hq
end Go.Ab
