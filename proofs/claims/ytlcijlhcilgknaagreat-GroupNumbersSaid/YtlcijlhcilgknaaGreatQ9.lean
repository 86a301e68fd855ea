/- What is proved: a part of the way to the statement: AcT. No conditions. -/
import Derived.Test.YtlcijlhcilgknaaGreatQ7
import Derived.Test.YtlcijlhcilgknaaGreatQ6
import Derived.Test.YtlcijlhcilgknaaGreatQ8
import Derived.Test.YtlcijlhcilgknaaGreatQ2
import Derived.Lib.Bytealg
set_option linter.unusedVariables false
set_option linter.unusedSimpArgs false
set_option maxRecDepth 100000
namespace Go.Ab
open List
variable{C:zh}{N:zN}
def Kp2(h h':zb)(p:za)(o:Option Nat):Prop:=match o with
 | none=>∃x,A.ldv h p=some x /\ A.ldv h' p=some x
 | some n=>∃x,A.zo3 h p n=some x /\ A.zo3 h' p n=some x
theorem keepD2{h h':zb}{p q:za}{o u:Option Nat}{K:zQ}{v:za}(h1:Kp2 h h' p o)(h2:Kp2 h h' q u)(hk:K v h'):B.zpl h [(p,o),(q,u)] K v h':=by
 refine⟨λr hr=>?_,hk⟩;rcases mem_cons.1 hr with rfl|hr
 ·unfold Kp2 at h1;cases o<;>exact h1
 ·rw[mem_singleton.1 hr];unfold Kp2 at h2;cases u<;>exact h2
theorem keepD1{h h':zb}{p:za}{o:Option Nat}{K:zQ}{v:za}(h1:Kp2 h h' p o)(hk:K v h'):B.zpl h [(p,o)] K v h':=by
 refine⟨λr hr=>?_,hk⟩;rw[mem_singleton.1 hr];unfold Kp2 at h1;cases o<;>exact h1
theorem zcw.rebase{h0 h h':zb}{l l':List Ob}(ho:zcw h0 h l)(hn:zcw h h' l'):∃h1:zb,h0.le h1 /\ h1.le h' /\ zcw h1 h' l /\ zwh h1 l':=by
 obtain⟨q1,q2⟩:=((ho.join hn).perm perm_append_comm).out;exact⟨_,q1.le,q2.le,q2,q1.is⟩
structure ElD(C:zh)(E:z8)(Mk:zb->Int->Int->List za->Prop)(v:List za->za):Prop where
 pos:0<E.es
 zlen:E.z.length=E.es
 len:∀{h:zb}{k i:Int}{c:List za},Mk h k i c->c.length=E.es
 mono:∀{h h':zb}{k i:Int}{c:List za},h.le h'->Mk h k i c->Mk h' k i c
 new:∀{h:zb}{k i:Int}{c:List za},Mk h k i c->zed [(0,E.kp,v c)] (zfs 1 E.z)=some c
 call:∀(k i:Int)(h:zb)(Q:zQ),(∀c h' l,zcw h h' l->(∀h1,zwh h1 l->Mk h1 k i c)->Q (v c) h')->C E.f [.int .i64 k,.int .i64 i] h Q
 ld:∀{h:zb}{x:za}{L R:List (List za)}{i:Nat}{c:List za}{K:za->Prop},SlX h E.es x L R->L[i]?=some c->K (v c)->E.ld h (elp E.es x i 0) K
 kpt:∀{h h':zb}{x:za}{L R:List (List za)}{i:Nat}{c:List za},SlX h E.es x L R->SlX h' E.es x L R->L[i]?=some c->Kp2 h h' (elp E.es x i 0) E.kp
 st:∀{h:zb}{x:za}{L R:List (List za)}{i:Nat}{c c0:List za}{k j:Int}{K:zb->Prop},SlX h E.es x L R->(∀id b,zhy x=some id->h id=some b->b.own=true)->L[i]?=some c0->Mk h k j c ->
  (∀h',SlX h' E.es x (L.set i c) R->(∀id b,zhy x=some id->h' id=some b->b.own=true)->But x h h'->K h')->E.st h (elp E.es x i 0) (v c) K
 eq:∀{h:zb}{k i:Int}{c c':List za}{K:zQ},Mk h k i c->Mk h k i c'->K (.bool true) h->E.eq h (v c) (v c') K
def zoc(Mk:zb->Int->Int->List za->Prop)(h:zb)(k s:Nat)(D:List (List za)):Prop:=∀(i:Nat)(c:List za),D[i]?=some c->Mk h (k:Int) ((s+i:Nat):Int) c
section
variable{E:z8}{Mk:zb->Int->Int->List za->Prop}{v:List za->za}{h0 h h':zb}{k s:Nat}{D:List (List za)}
theorem zoc.mono(S:ElD C E Mk v)(m:zoc Mk h k s D)(hle:h.le h'):zoc Mk h' k s D:=λi c hc=>S.mono hle (m i c hc)
theorem zoc.nil(Mk:zb->Int->Int->List za->Prop)(h:zb)(k s:Nat):zoc Mk h k s []:=λi c hc=>by simp at hc
theorem zoc.snoc{c:List za}(m:zoc Mk h k s D)(hc:Mk h (k:Int) ((s+D.length:Nat):Int) c):zoc Mk h k s (D++[c]):=λi d hd=>by
 rw[getElem?_append]at hd;split at hd
 ·exact m i d hd
 ·rename_i hlt
  have hi:i-D.length=0:=by
   cases e:i-D.length with
   | zero=>rfl
   | succ j=>rw[e]at hd;simp at hd
  rw[hi]at hd;simp only[getElem?_cons_zero,Option.some.injEq]at hd;subst hd;have:i=D.length:=by omega
  subst this;exact hc
theorem zoc.append{D':List (List za)}(m:zoc Mk h k s D)(m':zoc Mk h k (s+D.length) D'):zoc Mk h k s (D++D'):=λi d hd=>by
 rw[getElem?_append]at hd
 split at hd
 ·exact m i d hd
 ·have:=m' _ _ hd
  rwa [show s+D.length+(i-D.length)=s+i by omega]at this
end
structure FD(E:z8)(h0 h:zb)(v5:za)(n:Nat)(xs:Nat->za)(X:Nat->List (List za))(ys:Nat->za)(F:Nat->List (List za))(gs:Nat->za):Prop where
 own:zcw h0 h (zid E.es n ys F (λ_=>[])++[.sl 1 v5 (zhu n λj=>[gs j]) []])
 old:∀j,j<n->Old h E.es (xs j) (X j) (ys j) (F j)
section
variable{E:z8}{Mk:zb->Int->Int->List za->Prop}{v:List za->za}{h0 h h':zb}{x v5:za}{n k:Nat}{xs ys gs:Nat->za}{X F:Nat->List (List za)}{W:List (List za)}{Q:zQ}
theorem FD.grow(fs:FD E h0 h v5 n xs X ys F gs)(hle:h.le h'):FD E h0 h' v5 n xs X ys F gs:=⟨fs.own.grow hle,λj hj=>(fs.old j hj).mono hle⟩
theorem FD.rebase(fs:FD E h0 h v5 n xs X ys F gs){l':List Ob}(hn:zcw h h' l'):∃h1:zb,h0.le h1 /\ h1.le h' /\ FD E h1 h' v5 n xs X ys F gs /\ zwh h1 l':=by
 obtain⟨h1,a,b,o,c⟩:=fs.own.rebase hn;exact⟨h1,a,b,⟨o,λj hj=>(fs.old j hj).mono hn.le⟩,c⟩
theorem FD.gAt(fs:FD E h0 h v5 n xs X ys F gs):SlX h 1 v5 (zhu n λj=>[gs j]) []:=fs.own.zgz n zid.getL
theorem FD.yAt(fs:FD E h0 h v5 n xs X ys F gs)(hk:k<n):SlX h E.es (ys k) (F k) []:=fs.own.zgz k (zid.zza hk)
theorem FD.zqk(fs:FD E h0 h v5 n xs X ys F gs)(hk:k<n){y:za}{L:List (List za)}(h1:SlX h' E.es y L [])(h2:∀id b,zhy y=some id->h' id=some b->b.own=true)
  (h3:∀j b,h j=some b->zhy (ys k)≠some j->h' j=some b) (h4:zhy y=zhy (ys k) \/ ∀id,zhy y=some id->h id=none) (h5:Old h' E.es (xs k) (X k) y L):FD E h0 h' v5 n xs X (upf ys k y) (upf F k L) gs:=by
 refine⟨?_,λj hj=>?_⟩
 ·have:=fs.own.zqk k (zid.zza hk) (o':= .sl E.es y L []) h1 h2 h3 h4
  rwa [zid.setA hk,ztz]at this
 ·by_cases e:j=k
  ·subst e;rw[zgh,zgh];exact h5
  ·rw[zja _ _ e,zja _ _ e]
   exact(fs.old j hj).other (z:=ys k) h3 (fs.own.ne (zid.zza hj) (zid.zza hk) e)
theorem FD.store(fs:FD E h0 h v5 n xs X ys F gs)(hk:k<n){y:za}(hy:y.zbm=true){K:zb->Prop}(hK:∀h',FD E h0 h' v5 n xs X ys F (upf gs k y)->K h'):A.st h (elp 1 v5 k 0) y K:=by
 refine fs.own.st n zid.getL (zpo _ hk) (by omega) hy λh' ho hb=>hK h' ⟨?_,λj hj=>?_⟩
 ·rw[zid.setL]at ho
  have e:(zhu n λj=>[gs j]).set k ([gs k].set 0 y)=zhu n λj=>[upf gs k y j]:=by
   rw[fills_set];refine zx5 λj hj=>?_;unfold upf;split<;>rfl
  rwa [e]at ho
 ·exact(fs.old j hj).other hb (fs.own.ne (zid.zza hj) zid.getL (by omega))
theorem FD.push(S:ElD C E Mk v)(fs:FD E h0 h v5 n xs X ys F gs)(hk:k<n){cs:List za}(hcs:cs.length=E.es)(hb:((F k).length+1)*E.bytes <= 140737488355328)(hl:(F k).length+1 <= maxLen){K:zQ}
  (hK:∀y h',FD E h0 h' v5 n xs X (upf ys k y) (upf F k (F k++[cs])) gs->K y h'):A.zg1 h (some cs) λi h=>A.zif h E.es E.bytes (ys k) (.sl i 0 0 1 E.es 1) K:=λi hi=>by
 have fg:=fs.grow (zl6 (zgl cs) hi)
 refine(fg.yAt hk).appW2 (fg.own.zqs k (zid.zza hk)) (M:=[cs]) (R':=[]) (SlX.lit (zck ..) (by simpa using hcs) rfl (by simp) (by simp)) S.pos (by simpa using hb) (by simpa using hl) λy h' h1 h2 h3 h4 h5=>?_
 exact hK y h' (fg.zqk hk h1 h2 h3 h4 (h5 _ _ (fg.old k hk)))
theorem ls_kp2(hx:SlX h 1 x (zhu n λj=>[xs j]) W)(hx':SlX h' 1 x (zhu n λj=>[xs j]) W)(hk:k<n):Kp2 h h' (elp 1 x k 0) none:=⟨_,zmq hx hk,zmq hx' hk⟩
theorem dlat5(S:ElD C E Mk v)(hx:SlX h0 1 x (zhu n λj=>[xs j]) W)(fs:FD E h0 h v5 n xs X ys F gs)(hn:n <= 100000000)(hl:∀j,j<n->(X j).length <= 4611686018427380000)
  (hgs:∀j,j<n->gs j=ys j) (mX:∀j,j<n->zoc Mk h0 j 0 (X j)) (mF:∀j i c,j<n->i<(X j).length->(F j)[i]?=some c->Mk h0 (j:Int) (i:Int) c) (lF:∀j,j<n->(X j).length <= (F j).length) (hq:∀h',h0.le h'->Q (.bool true) h'):zd (zy.l15 E C Q x v5) [.int .i64 0] h:=by
 refine zd.intro (λt vs hh=>∃k:Nat,k+t=n /\ vs=[.int .i64 k] /\ h.le hh) n ?_ ⟨0,by simp,by simp,zb.le_refl h⟩;rintro Y t vs hh ⟨k,ht,rfl,hle⟩ hY;have fs1:=fs.grow hle;have hx':=hx.mono fs1.own.le;simp -dsimp[zn3 hx'];refine B.zm (λhb=>?_) (λhb=>?_)<;>simp -dsimp at hb ⊢
 ·refine zd.intro (λt vs h2=>∃i:Nat,i+t=(X k).length /\ vs=[.int .i64 i] /\ h.le h2) (X k).length ?_ ⟨0,by simp,by simp,hle⟩
  rintro Z t' vs h3 ⟨i,hi,rfl,hle3⟩ hZ;have f3:=fs.grow hle3;have hx':=hx.mono f3.own.le;have hold:=(f3.old k hb).at_;have hlk:=hl k hb;have hlx:=hold.zbi;simp -dsimp[zin hx' hb,zmq hx' hb,hlx];refine B.zm (λhc=>?_) (λhc=>?_)<;>simp -dsimp at hc ⊢
  ·have hyk:=f3.yAt hb
   have hlF:=lF k hb;obtain⟨c1,hc1⟩:=zgf (L:=X k) (k:=i) hc;obtain⟨c2,hc2⟩:=zgf (L:=F k) (k:=i) (by omega);have m1:=mX k hb i c1 hc1;have m2:=mF k i c2 hb hc hc2;rw[Nat.zero_add]at m1;have e1:V.zb3 E.es (xs k) (.int .i64 (i:Int))=some (elp E.es (xs k) i 0):=hold.zjp hc;have e2:V.zb3 E.es (ys k) (.int .i64 (i:Int))=some (elp E.es (ys k) i 0):=hyk.zjp (by omega);simp -dsimp only[zin hx' hb,zmq hx' hb,e1,B.ze,B.zha];refine S.ld hold hc1 ?_;refine S.call _ _ _ _ λc4 h4 l4 o4 mk4=>?_;have f4:=f3.grow o4.le;have hx4:=hx.mono f4.own.le;refine keepD2 (ls_kp2 hx' hx4 hb) (S.kpt hold (hold.mono o4.le) hc1) ?_;refine S.eq (S.mono f4.own.le m1) (mk4 h4 o4.is) ?_;have e3:=zmq f4.gAt hb;rw[hgs k hb]at e3;have hyk4:=f4.yAt hb;simp -dsimp[zin f4.gAt hb,e3,e2];refine S.ld hyk4 hc2 ?_;refine S.call _ _ _ _ λc5 h5 l5 o5 mk5=>?_;have f5:=f4.grow o5.le;refine keepD2 (ls_kp2 f4.gAt f5.gAt hb) (S.kpt hyk4 (f5.yAt hb) hc2) ?_;simp -dsimp;refine S.eq (S.mono f5.own.le m2) (mk5 h5 o5.is) ?_;simp -dsimp[zjl (n:=i) (by omega)];exact hZ ((X k).length-(i+1)) _ _ (by omega) ⟨i+1,by omega,by simp,zb.le_trans hle3 (zb.le_trans o4.le o5.le)⟩
  ·simp -dsimp[zjl (n:=k) (by omega)]
   exact hY (n-(k+1)) _ _ (by omega) ⟨k+1,by omega,by simp,hle3⟩
 ·exact hq _ fs1.own.le
theorem dlat4(S:ElD C E Mk v)(hx:SlX h0 1 x (zhu n λj=>[xs j]) W)(fs:FD E h0 h v5 n xs X ys F gs)(hn:n <= 100000000)(hl:∀j,j<n->(X j).length <= 4611686018427380000 /\ ((X j).length+64)*E.bytes <= 140737488355328)
  (hgs:∀j,j<n->gs j=ys j) (mX:∀j,j<n->zoc Mk h0 j 0 (X j)) (mF:∀j i c,j<n->i<(X j).length->(F j)[i]?=some c->Mk h0 (j:Int) (i:Int) c) (lF:∀j,j<n->(X j).length <= (F j).length) (hq:∀h',h0.le h'->Q (.bool true) h'):zd (zy.l40 E C Q x v5) [.int .i64 0] h:=by
 refine zd.intro (λt vs hh=>∃(k:Nat)(ys gs:Nat->za)(F:Nat->List (List za)),k+t=n /\ vs=[.int .i64 k] /\ FD E h0 hh v5 n xs X ys F gs /\ (∀j,j<n->gs j=ys j) /\ (∀j i c,j<n->i<(X j).length->(F j)[i]?=some c->Mk h0 (j:Int) (i:Int) c) /\ ∀j,j<n->(X j).length <= (F j).length) n ?_
  ⟨0,ys,gs,F,by simp,by simp,fs,hgs,mF,lF⟩
 rintro Y t vs h ⟨k,ys,gs,F,ht,rfl,fs,hgs,mF,lF⟩ hY;have hx':=hx.mono fs.own.le;simp -dsimp[zn3 hx'];refine B.zm (λhb=>?_) (λhb=>?_)<;>simp -dsimp at hb ⊢
 ·have hlk:=hl k hb
  have h64:64*E.bytes <= 140737488355328:=Nat.le_trans (Nat.mul_le_mul_right _ (by omega)) hlk.2;refine⟨S.pos,(zcw.start h).mks (es:=E.es) S.zlen (by omega) (by omega) (by omega) (by omega) λy h1 ho1=>?_⟩;simp only[nil_append]at ho1;refine zd.intro (λt vs hh=>∃(i:Nat)(hb0:zb)(M:List (List za)),i+t=64 /\ vs=[.int .i64 i] /\ h.le hb0 /\ M.length=i /\ ∃R,zcw hb0 hh [.sl E.es y (M++(zhu 64 λ_=>E.z).drop i) R]) 64 ?_ ⟨0,h,[],by simp,by simp,zb.le_refl h,rfl,_,by simpa using ho1⟩;rintro Z t' vs hh ⟨i,hb0,M,hi,rfl,hle0,hM,R,ho⟩ hZ;simp -dsimp;refine B.zm (λhc=>?_) (λhc=>?_)<;>simp -dsimp at hc ⊢
  ·have e1:IntKind.i64.wrap ((k:Int)+n)=((k+n:Nat):Int):=by rw[wrap_i64 (by omega) (by omega)];omega
   have hxx:=hx'.mono (zb.le_trans hle0 ho.le);have hi64:i<(zhu 64 λ_=>E.z).length:=by simp;omega
   have hlt:i<(M++(zhu 64 λ_=>E.z).drop i).length:=by simp;omega
   simp -dsimp only[zn3 hxx,B.ze,V.zex,e1];refine S.call _ _ _ _ λc2 h2 l2 o2 mk2=>?_;obtain⟨hb1,q1,q2,ho2,hat⟩:=ho.rebase o2;simp -dsimp only[(ho2.zgz 0 rfl).zjp hlt,B.ze];have hget:(M++(zhu 64 λ_=>E.z).drop i)[i]?=some (zhu 64 λ_=>E.z)[i]:=by
    rw[getElem?_append_right (by omega),hM,Nat.sub_self,getElem?_drop];simp[hi64]
   refine S.st (ho2.zgz 0 rfl) (ho2.zqs 0 rfl) hget (mk2 h2 o2.is) λh3 h4 h5 h6=>?_;have hset:(M++(zhu 64 λ_=>E.z).drop i).set i c2=(M++[c2])++(zhu 64 λ_=>E.z).drop (i+1):=by
    rw[set_append_right _ _ (by omega),hM,Nat.sub_self,drop_eq_getElem_cons hi64,set_cons_zero,append_assoc];rfl
   rw[hset]at h4;simp -dsimp[zjl (n:=i) (by omega)];exact hZ (64-(i+1)) _ _ (by omega) ⟨i+1,hb1,M++[c2],by omega,by simp,zb.le_trans hle0 q1,by simp[hM],R,ho2.zqk 0 rfl (o':= .sl E.es y _ R) h4 h5 h6 (.inl rfl)⟩
  ·have hi64:i=64:=by omega
   have hd:(zhu 64 λ_=>E.z).drop 64=[]:=drop_of_length_le (by simp);rw[hi64,hd,append_nil]at ho;have fh:=fs.grow (zb.le_trans hle0 ho.le);have hold:=fh.old k hb;have hxx:=hx'.mono (zb.le_trans hle0 ho.le);simp -dsimp[zin hxx hb,zmq hxx hb];refine hold.at_.appW2 (λid b e1 e2=>?_) (ho.zgz 0 rfl) S.pos (by rw[hM,hi64];exact hlk.2) (by simp[maxLen,hM,hi64];omega) λy' h2 h3 h4 h5 h6 h7=>?_
   ·rcases hold.ft with e|⟨e,_⟩
    ·rw[e]at e1;cases e1
    ·rw[e]at e1;exact fh.own.zqs k (zid.zza hb) id b e1 e2
   ·have f2:FD E h0 h2 v5 n xs X (upf ys k y') (upf F k (X k++M)) gs:=fh.zqk hb h3 h4 (λj b e1 e2=>h5 j b e1 λe3=>by
      rcases hold.ft with e|⟨e,_⟩
      ·rw[e]at e3;cases e3
      ·rw[e]at e3;exact e2 e3) (by
      rcases h6 with e|e
      ·rcases hold.ft with e'|⟨e',_⟩
       ·exact .inr λid hid=>by rw[e,e']at hid;cases hid
       ·exact .inl (e.trans e')
      ·exact .inr e) (h7 _ _ (Old.refl hold.at_))
    simp -dsimp[zin f2.gAt hb];refine f2.store hb h3.zbm λh8 f3=>?_;simp -dsimp[zjl (n:=k) (by omega)];refine hY (n-(k+1)) _ _ (by omega) ⟨k+1,_,_,_,by omega,by simp,f3,λj hj=>?_,λj i c hj hi hc=>?_,λj hj=>?_⟩
    ·by_cases e:j=k
     ·subst e;rw[zgh,zgh]
     ·rw[zja _ _ e,zja _ _ e];exact hgs j hj
    ·by_cases e:j=k
     ·subst e
      rw[zgh,getElem?_append_left hi]at hc;have:=mX j hb i c hc
      rwa [Nat.zero_add]at this
     ·rw[zja _ _ e]at hc;exact mF j i c hj hi hc
    ·by_cases e:j=k
     ·subst e;rw[zgh];simp
     ·rw[zja _ _ e];exact lF j hj
 ·exact dlat5 S hx fs hn (λj hj=>(hl j hj).1) hgs mX mF lF hq
theorem dlat3(S:ElD C E Mk v)(hx:SlX h0 1 x (zhu n λj=>[xs j]) W)(fs:FD E h0 h v5 n xs X ys F gs)(hn:n <= 100000000)(hl:∀j,j<n->(X j).length <= 4611686018427380000 /\ ((X j).length+64)*E.bytes <= 140737488355328)
  (hgs:∀j,j<n->gs j=ys j) (mX:∀j,j<n->zoc Mk h0 j 0 (X j)) (mF:∀j,j<n->zoc Mk h0 j 0 (F j)) (lF:∀j,j<n->(F j).length=(X j).length+64) (hq:∀h',h0.le h'->Q (.bool true) h'):zd (zy.l59 E C Q x v5) [.int .i64 0] h:=by
 refine zd.intro (λt vs hh=>∃k:Nat,k+t=n /\ vs=[.int .i64 k] /\ h.le hh) n ?_ ⟨0,by simp,by simp,zb.le_refl h⟩;rintro Y t vs hh ⟨k,ht,rfl,hle⟩ hY;have fs1:=fs.grow hle;have hx':=hx.mono fs1.own.le;simp -dsimp[zn3 hx'];refine B.zm (λhb=>?_) (λhb=>?_)<;>simp -dsimp at hb ⊢
 ·refine zd.intro (λt vs h2=>∃i:Nat,i+t=(X k).length+64 /\ vs=[.int .i64 i] /\ h.le h2) ((X k).length+64) ?_ ⟨0,by simp,by simp,hle⟩
  rintro Z t' vs h3 ⟨i,hi,rfl,hle3⟩ hZ;have f3:=fs.grow hle3;have hx':=hx.mono f3.own.le;have hold:=(f3.old k hb).at_;have hlk:=(hl k hb).1;have hlx:=hold.zbi;have hyk:=f3.yAt hb;have hly:=hyk.zbi;rw[lF k hb]at hly;have e3:=zmq f3.gAt hb;rw[hgs k hb]at e3;simp -dsimp[zin f3.gAt hb,e3,hly];refine B.zm (λhc=>?_) (λhc=>?_)
  ·have hc:i<(X k).length+64:=by simp at hc;omega
   have hlF:=lF k hb;obtain⟨c2,hc2⟩:=zgf (L:=F k) (k:=i) (by omega);have m2:=mF k hb i c2 hc2;rw[Nat.zero_add]at m2;have e2:V.zb3 E.es (ys k) (.int .i64 (i:Int))=some (elp E.es (ys k) i 0):=hyk.zjp (by omega);simp -dsimp only[zin f3.gAt hb,e3,e2,B.ze,B.zha];refine S.ld hyk hc2 ?_;refine S.call _ _ _ _ λc4 h4 l4 o4 mk4=>?_;have f4:=f3.grow o4.le;have hx4:=hx.mono f4.own.le;refine keepD2 (ls_kp2 f3.gAt f4.gAt hb) (S.kpt hyk (f4.yAt hb) hc2) ?_;refine S.eq (S.mono f4.own.le m2) (mk4 h4 o4.is) ?_;by_cases hd:i<(X k).length
   ·obtain⟨c1,hc1⟩:=zgf (L:=X k) (k:=i) hd
    have m1:=mX k hb i c1 hc1;rw[Nat.zero_add]at m1;have hold4:=(f4.old k hb).at_;have e1:V.zb3 E.es (xs k) (.int .i64 (i:Int))=some (elp E.es (xs k) i 0):=hold.zjp hd;simp -dsimp[zin hx4 hb,zmq hx4 hb,hlx,hd,e1];refine S.ld hold4 hc1 ?_;refine S.call _ _ _ _ λc5 h5 l5 o5 mk5=>?_;have f5:=f4.grow o5.le;refine keepD2 (ls_kp2 hx4 (hx.mono f5.own.le) hb) (S.kpt hold4 ((f5.old k hb).at_) hc1) ?_;simp -dsimp;refine S.eq (S.mono f5.own.le m1) (mk5 h5 o5.is) ?_;simp -dsimp[zjl (n:=i) (by omega)];exact hZ ((X k).length+64-(i+1)) _ _ (by omega) ⟨i+1,by omega,by simp,zb.le_trans hle3 (zb.le_trans o4.le o5.le)⟩
   ·simp -dsimp[zin hx4 hb,zmq hx4 hb,hlx,hd]
    simp -dsimp[zjl (n:=i) (by omega)];exact hZ ((X k).length+64-(i+1)) _ _ (by omega) ⟨i+1,by omega,by simp,zb.le_trans hle3 o4.le⟩
  ·simp -dsimp[zjl (n:=k) (by omega)]
   exact hY (n-(k+1)) _ _ (by omega) ⟨k+1,by omega,by simp,hle3⟩
 ·exact dlat4 S (hx:=hx) (fs:=fs1) hn hl hgs mX (λj i c hj hi hc=>by have:=mF j hj i c hc;rwa [Nat.zero_add]at this) (λj hj=>by rw[lF j hj];omega) hq
theorem dlat2(S:ElD C E Mk v)(hx:SlX h0 1 x (zhu n λj=>[xs j]) W)(fs:FD E h0 h v5 n xs X xs X gs)(hn:n <= 100000000)(hl:∀j,j<n->(X j).length <= 4611686018427380000 /\ ((X j).length+64)*E.bytes <= 140737488355328)
  (mX:∀j,j<n->zoc Mk h0 j 0 (X j)) (hq:∀h',h0.le h'->Q (.bool true) h'):zd (zy.l82 E C Q x v5) [.int .i64 0] h:=by
 refine zd.intro (λt vs hh=>∃(k:Nat)(hb0:zb)(ys gs:Nat->za)(F:Nat->List (List za)),k+t=n /\ vs=[.int .i64 k] /\ h0.le hb0 /\ FD E hb0 hh v5 n xs X ys F gs /\ (∀j,j<k->gs j=ys j /\ zoc Mk hb0 j 0 (F j) /\ (F j).length=(X j).length+64) /\ ∀j,k <= j->ys j=xs j /\ F j=X j) n ?_
  ⟨0,h0,_,gs,_,by simp,by simp,zb.le_refl h0,fs,by simp,λj _=>⟨rfl,rfl⟩⟩
 rintro Y t vs h ⟨k,hb0,ys,gs,F,ht,rfl,hle0,fs,hlo,hhi⟩ hY;have hx0:=hx.mono hle0;have hx':=hx0.mono fs.own.le;simp -dsimp[zn3 hx'];refine B.zm (λhb=>?_) (λhb=>?_)<;>simp -dsimp at hb ⊢
 ·have hk:=hhi k (Nat.le_refl k)
  have hlk:=hl k hb;simp -dsimp[zin hx' hb,zmq hx' hb];refine zd.intro (λt vs hh=>∃(i:Nat)(y:za)(hb1:zb)(M:List (List za)),i+t=64 /\ vs=[y,.int .i64 i] /\ hb0.le hb1 /\ M.length=i /\ zoc Mk hb1 k (X k).length M /\ FD E hb1 hh v5 n xs X (upf ys k y) (upf F k (X k++M)) gs) 64 ?_ ⟨0,xs k,hb0,[],by simp,by simp,zb.le_refl hb0,rfl,zoc.nil _ _ _ _,?_⟩
  ·rintro Z t' vs hh ⟨i,y,hb1,M,hi,rfl,hle1,hM,mM,f1⟩ hZ
   have hx1:=(hx0.mono hle1).mono f1.own.le;have hold:=(f1.old k hb).at_;have hlx:=hold.zbi;have ey:upf ys k y k=y:=zgh ..;simp -dsimp;refine B.zm (λhc=>?_) (λhc=>?_)<;>simp -dsimp at hc ⊢
   ·have e1:IntKind.i64.wrap (((X k).length:Int)+i)=(((X k).length+i:Nat):Int):=by rw[wrap_i64 (by omega) (by omega)];omega
    simp -dsimp only[zin hx1 hb,zmq hx1 hb,hlx,B.ze,B.zha,V.zex,e1];refine S.call _ _ _ _ λc2 h2 l2 o2 mk2=>?_;obtain⟨hb2,q1,q2,f2,hat⟩:=f1.rebase o2;have mc:=mk2 hb2 hat;rw[S.new mc];have hbound:((X k).length+i+1)*E.bytes <= 140737488355328:=Nat.le_trans (Nat.mul_le_mul_right _ (by omega)) hlk.2;have:=f2.push S hb (cs:=c2) (S.len mc) (by rw[zgh,length_append,hM];exact hbound) (by rw[zgh,length_append,hM];simp[maxLen];omega) (K:=λv68 h=>B.pv (V.bin .add (.int .i64 (i:Int)) (.int .i64 1)) λv56=>Z [v68,v56] h) λy' h3 f3=>?_
    ·rw[ey]at this;exact this
    ·simp -dsimp[zjl (n:=i) (by omega)]
     refine hZ (64-(i+1)) _ _ (by omega) ⟨i+1,y',hb2,M++[c2],by omega,by simp,zb.le_trans hle1 q1,by simp[hM],(mM.mono S q1).snoc (by rw[hM];exact mc),?_⟩;rw[zs7,zs7,zgh,append_assoc]at f3;exact f3
   ·have hi64:i=64:=by omega
    subst hi64;simp -dsimp[zin f1.gAt hb];have hyc:=(f1.yAt hb).zbm;rw[ey]at hyc;refine f1.store hb hyc λh2 f2=>?_;simp -dsimp[zjl (n:=k) (by omega)];have hle2:=zb.le_trans hle0 hle1;refine hY (n-(k+1)) _ _ (by omega) ⟨k+1,hb1,_,_,_,by omega,by simp,hle2,f2,λj hj=>?_,λj hj=>?_⟩
    ·by_cases e:j=k
     ·subst e;rw[zgh,zgh,zgh]
      refine⟨rfl,?_,by rw[length_append,hM]⟩;refine((mX j hb).mono S hle2).append ?_;rw[Nat.zero_add];exact mM
     ·rw[zja _ _ e,zja _ _ e,zja _ _ e]
      have:=hlo j (by omega);exact⟨this.1,this.2.1.mono S hle1,this.2.2⟩
    ·rw[zja _ _ (by omega),zja _ _ (by omega)];exact hhi j (by omega)
  ·have e1:upf ys k (xs k)=ys:=by rw[<-hk.1,zmn]
   have e2:upf F k (X k++[])=F:=by rw[append_nil,<-hk.2,zmn]
   rw[e1,e2];exact fs
 ·have:k=n:=by omega
  subst this;exact dlat3 S hx0 fs hn hl (λj hj=>(hlo j hj).1) (λj hj=>(mX j hj).mono S hle0) (λj hj=>(hlo j hj).2.1) (λj hj=>(hlo j hj).2.2) λh' hle=>hq h' (zb.le_trans hle0 hle)
theorem dlatG_spec(S:ElD C E Mk v){D R:Nat->List (List za)}(hx:SlX h0 1 x (zhu n λj=>[xs j]) W)(ho:zcw h0 h (zid E.es n xs D R))(hn:n <= 100000000)(hl:∀j,j<n->(D j).length <= 4611686018427380000 /\ ((D j).length+64)*E.bytes <= 140737488355328)
  (hq:∀h',h0.le h'->Q (.bool true) h'):zy E C x h Q:=by
 refine zd.intro (λt vs hh=>∃(k:Nat)(hb0:zb)(G:Nat->List (List za)),k+t=n /\ vs=[.int .i64 k] /\ h0.le hb0 /\ zcw hb0 hh (zid E.es n xs G R) /\ (∀j,j<k->zoc Mk hb0 j 0 (G j) /\ (G j).length=(D j).length) /\ ∀j,k <= j->G j=D j) n ?_
  ⟨0,h0,D,by simp,by simp,zb.le_refl h0,ho,by simp,λj _=>rfl⟩
 rintro Y t vs h ⟨k,hb0,G,ht,rfl,hle0,ho,hlo,hhi⟩ hY;have hx0:=hx.mono hle0;have hx':=hx0.mono ho.le;simp -dsimp[zn3 hx'];refine B.zm (λhb=>?_) (λhb=>?_)<;>simp -dsimp at hb ⊢
 ·have hlk:=(hl k hb).1
  have hgk:=hhi k (Nat.le_refl k);refine zd.intro (λt vs hh=>∃(i:Nat)(hb1:zb)(M:List (List za)),i+t=(D k).length /\ vs=[.int .i64 i] /\ hb0.le hb1 /\ M.length=i /\ zoc Mk hb1 k 0 M /\ zcw hb1 hh (zid E.es n xs (upf G k (M++(D k).drop i)) R)) (D k).length ?_ ⟨0,hb0,[],by simp,by simp,zb.le_refl hb0,rfl,zoc.nil _ _ _ _,?_⟩
  ·rintro Z t' vs hh ⟨i,hb1,M,hi,rfl,hle1,hM,mM,ho1⟩ hZ
   have hx1:=(hx0.mono hle1).mono ho1.le;have hxk:=ho1.zgz k (zid.get hb);rw[zgh]at hxk;have hlx:=hxk.zbi;have hll:(M++(D k).drop i).length=(D k).length:=by simp;omega
   rw[hll]at hlx;simp -dsimp[zin hx1 hb,zmq hx1 hb,hlx];refine B.zm (λhc=>?_) (λhc=>?_)<;>simp -dsimp at hc ⊢
   ·have hlt:i<(M++(D k).drop i).length:=by omega
    simp -dsimp only[zin hx1 hb,zmq hx1 hb,B.ze,B.zha];refine S.call _ _ _ _ λc2 h2 l2 o2 mk2=>keepD1 (ls_kp2 hx1 (hx1.mono o2.le) hb) ?_;obtain⟨hb2,q1,q2,ho2,hat⟩:=ho1.rebase o2;have hxk2:=ho2.zgz k (zid.get hb);rw[zgh]at hxk2;simp -dsimp only[hxk2.zjp hlt,B.ze];have hget:(M++(D k).drop i)[i]?=some (D k)[i]:=by
     rw[getElem?_append_right (by omega),hM,Nat.sub_self,getElem?_drop];simp[hc]
    refine S.st hxk2 (ho2.zqs k (zid.get hb)) hget (mk2 h2 o2.is) λh3 h4 h5 h6=>?_;have hset:(M++(D k).drop i).set i c2=(M++[c2])++(D k).drop (i+1):=by
     rw[set_append_right _ _ (by omega),hM,Nat.sub_self,drop_eq_getElem_cons hc,set_cons_zero,append_assoc];rfl
    rw[hset]at h4;have h7:=ho2.zqk k (zid.get hb) (o':= .sl E.es (xs k) _ (R k)) h4 h5 h6 (.inl rfl);rw[zid.set,zmn,zmn,zs7]at h7;simp -dsimp[zjl (n:=i) (by omega)];exact hZ ((D k).length-(i+1)) _ _ (by omega) ⟨i+1,hb2,M++[c2],by omega,by simp,zb.le_trans hle1 q1,by simp[hM],(mM.mono S q1).snoc (by rw[Nat.zero_add,hM];exact mk2 hb2 hat),h7⟩
   ·have hie:i=(D k).length:=by omega
    rw[hie,drop_length,append_nil]at ho1;simp -dsimp[zjl (n:=k) (by omega)];refine hY (n-(k+1)) _ _ (by omega) ⟨k+1,hb1,_,by omega,by simp,zb.le_trans hle0 hle1,ho1,λj hj=>?_,λj hj=>?_⟩
    ·by_cases e:j=k
     ·subst e;rw[zgh];exact⟨mM,by omega⟩
     ·rw[zja _ _ e]
      have:=hlo j (by omega);exact⟨this.1.mono S hle1,this.2⟩
    ·rw[zja _ _ (by omega)];exact hhi j (by omega)
  ·simp only[nil_append,drop_zero]
   rw[<-hgk,zmn];exact ho
 ·have:k=n:=by omega
  subst this;simp -dsimp only[zn3 hx',B.ze];refine⟨Nat.one_pos,?_⟩;refine ho.mks (bytes:=24) (es:=1) (n:=k) (c:=k) (z:=[.zbj]) rfl (by omega) (by omega) (by omega) (by omega) λy h1 ho1=>?_;have e1:((k:Int)).toNat=k:=by simp
  rw[e1,Nat.sub_self,zzd]at ho1;have ho2:=ho1.cutR;exact dlat2 S hx0 ⟨ho2,λj hj=>Old.refl (ho2.zgz j (zid.zza hj))⟩ hn (λj hj=>by rw[(hlo j hj).2];exact hl j hj) (λj hj=>(hlo j hj).1) λh' hle=>hq h' (zb.le_trans hle0 hle)
end
variable{C:zh}{N:zN}
end Go.Ab
namespace Go.Ab
open List
variable{C:zh}{N:zN}
theorem elD{es bytes f g:Nat}{z:List za}{m:Int->Int->List za}(hes:0<es)(hm:∀k i,(m k i).length=es)(hz:z.length=es)(hb:bytes <= 1000)(s1:∀(k i:Int)(h:zb)(Q:zQ),Q (.agg (m k i)) h->C f [.int .i64 k,.int .i64 i] h Q)
  (s2:∀(k i:Int)(h:zb)(Q:zQ),Q (.bool true) h->C g [.agg (m k i),.agg (m k i)] h Q):
  zus C (opsD C es bytes z f g) m (λk i=> .agg (m k i)) where
 pos:=hes
 small:=hb
 len _ _:=hm _ _
 zlen:=hz
 new k i:=by
  have hrep:zfs 1 z=z:=by unfold zfs;split<;>simp
  have h1:=hm k i;show zed [(0,some es,za.agg (m k i))] (zfs 1 z)=_;rw[hrep];simp[h1,hz]
 call:=s1
 ld hs hc hk:=by
  simp only[opsD,B.zn5]at hs ⊢;rw[hs.elem hc];exact hk
 kpt hs hc:=⟨_,hs.elem hc⟩
 st {h x L R i c k j K} hs hown hc hk:=by
  refine hs.stn hown hc (hm _ _) (by simp[opsD]) ?_;have hcl:=hs.len c (mem_append_left _ (mem_of_getElem? hc));have e:c.take 0++m k j++c.drop (0+es)=m k j:=by
   have:c.length=es:=hcl;simp[this]
  rw[e];exact hk
 eq hk:=s2 _ _ _ _ hk
end Go.Ab
namespace Go.Ab
open List
variable{C:zh}{N:zN}
abbrev sing(v:za):List za:=[v]
def zqd(h hh:zb)(id:Nat)(B:Nat->List za):Prop:=∃xs:Nat->za,zcw h hh (zid 1 23 xs (λi=>(B i).map sing) (λ_=>[])++[.box (.ptr id 0 0) (fill 23 xs)])
theorem zcw.nilObjs{h0 h:zb}{l:List Ob}(ho:zcw h0 h l)(es n:Nat):zcw h0 h (zid es n (λ_=> .zbj) (λ_=>[]) (λ_=>[])++l):=by
 have mem:∀o∈zid es n (λ_=>za.zbj) (λ_=>[]) (λ_=>[]),o= .sl es .zbj [] []:=λo hm=>by
  obtain⟨j,_,rfl⟩:=mem_map.1 hm;rfl
 refine⟨ho.le,λo hm=>?_,λo hm=>?_,pairwise_append.2 ⟨?_,ho.apart,λa ha b _ id hf=>by rw[mem a ha]at hf;cases hf⟩⟩
 ·rcases mem_append.1 hm with hm|hm
  ·rw[mem o hm];exact SlX.zbj h es
  ·exact ho.is o hm
 ·rcases mem_append.1 hm with hm|hm
  ·intro id hf;rw[mem o hm]at hf;cases hf
  ·exact ho.own o hm
 ·rw[pairwise_iff_forall_sublist]
  intro a b hs id hf;rw[mem a (hs.subset (by simp))]at hf;cases hf
theorem zqd.start{h:zb}{id:Nat}(hid:h id=none):zqd h (upd h id (zgl (fill 23 λ_=> .zbj))) id λ_=>[]:=by
 refine⟨λ_=> .zbj,?_⟩;have:=((zcw.start h).zvy hid (fill 23 λ_=> .zbj)).nilObjs 1 23;simpa using this
def putG(k:Nat)(v0 v1:za)(h:zb)(Q:zQ):Prop:=B.nilCheck v0 λv6=>B.pv (V.fieldAddr k v6) λv7=>B.ld h v7 λv8=>B.zg1 h (zed [(0,none,v1)] (zfs 1 [.zbj])) λi10 h=>B.zif h 1 24 v8 (.sl i10 0 0 1 1 1) λv11 h=>B.nilCheck v0 λv12=>B.pv (V.fieldAddr k v12) λv13=>B.st h v13 v11 λh=>Q (.tup []) h
theorem zq3{k:Nat}(hk:k<23){h hh:zb}{id:Nat}{B:Nat->List za}{y:za}{Q:zQ}(hb:zqd h hh id B)(hy:y.zbm=true)(hl:(B k).length <= 100000000)(hq:∀h',zqd h h' id (upf B k (B k++[y]))->Q (.tup []) h'):putG k (.ptr id 0 0) y hh Q:=by
 obtain⟨xs,ho⟩:=hb;obtain⟨id',e,hbx⟩:=ho.zts 23 zid.getL;cases e;have e1:A.ldv hh (.ptr id 0 k)=some (xs k):=by rw[zpg hbx,zwt _ hk]
 have hrep:zfs 1 [za.zbj]=[za.zbj]:=rfl;simp -dsimp[putG,e1,hrep,hy];refine ho.push k (zid.zza hk) rfl (by omega) (by simp;omega) (by simp[maxLen];omega) λx' h1 ho1 _=>?_;rw[zid.setA hk,ztz]at ho1;have hcx:=(ho1.zgz k (zid.zza hk)).zbm;rw[zgh]at hcx;simp -dsimp;refine ho1.zyp 23 zid.getL hcx (by simpa using hk) λh2 ho2 _=>?_;rw[zid.setL,fill_set]at ho2;refine hq h2 ⟨upf xs k x',?_⟩;have e2:upf (λi=>(B i).map sing) k ((B k).map sing++[[y]])=λi=>(upf B k (B k++[y]) i).map sing:=by
  funext i;unfold upf;split
  ·rename_i e;subst e;simp
  ·rfl
 rw[e2]at ho2;exact ho2
section
variable{h0 h:zb}{id:Nat}{B:Nat->List za}{D R:Nat->Nat->List (List za)}{xs:Nat->za}{Q:zQ}
end
end Go.Ab
namespace Go.Ab
open List
variable{C:zh}{N:zN}
def zkh(C:zh)(k g:Nat):Prop:=∀(h hh:zb)(id:Nat)(B:Nat->List za)(y:za)(Q:zQ),zqd h hh id B->y.zbm=true->(B k).length <= 100000000->(∀h',zqd h h' id (upf B k (B k++[y]))->Q (.tup []) h')->C g [.ptr id 0 0,y] hh Q
@[simp] def zs3.k1(C:zh)(fp fa:Nat)(Q:zQ)(Y1:zL)(v0 v3 v4:za)(h:zb):Prop:=B.pv (V.zbi v0) λv9=>B.pv (V.bin .lss v4 v9) λv10=>B.cond v10 (B.pv (V.zb3 1 v0 v4) λv16=>B.ld h v16 λv17=>B.call C fp [v3,v17] h λv18 h=>B.pv (V.bin .add v4 (.int .i64 1)) λv12=>Y1 [v12] h) (B.call C fa [v3] h λv20 h=>Q v20 h)
@[simp] def zs3.l2(C:zh)(fp fa:Nat)(Q:zQ)(v0 v3:za):zG|[v4],h,Y1=>zs3.k1 C fp fa Q Y1 v0 v3 v4 h|_,_,_=>False
def zs3(C:zh)(fp fa:Nat)(v0:za)(h:zb)(Q:zQ):Prop:=B.pv (A.bld [] [.zbj,.zbj,.zbj,.zbj,.zbj,.zbj,.zbj,.zbj,.zbj,.zbj,.zbj,.zbj,.zbj,.zbj,.zbj,.zbj,.zbj,.zbj,.zbj,.zbj,.zbj,.zbj,.zbj]) λv5=>B.zg1 h (A.zpp 23 v5) λi6 h=>zd (zs3.l2 C fp fa Q v0 (.ptr i6 0 0)) [(.int .i64 0)] h
theorem zqd.le{h hh:zb}{id:Nat}{B:Nat->List za}(hb:zqd h hh id B):h.le hh:=by obtain⟨_,ho⟩:=hb;exact ho.le
@[simp] theorem Objs_zero{es:Nat}{xs:Nat->za}{D R:Nat->List (List za)}:zid es 0 xs D R=[]:=rfl
theorem zfu.spec(i:zfu.Imp C N):zkh C 6 (N 130):=λh hh id B y Q hb hy hl hq=>i _ _ hh Q (zq3 (k:=6) (by omega) hb hy hl λh' hb'=>zba (hq h' hb'))
end Go.Ab
namespace Go.Ab
open List
variable{C:zh}{N:zN}
structure LL.okL(lim:Nat)(t:LL)(h0:zb):Prop where
 is:SlX h0 1 t.x (zhu t.n λj=>[t.xs j]) t.W
 n_le:t.n <= 100000000
 zoq:∀j,j<t.n->(t.D j).length <= lim
def zpr(C:zh)(es lim g:Nat):Prop:=∀(t:LL)(h0 h:zb)(Q:zQ),t.okL lim h0->zcw h0 h (t.obs es)->(∀h',h0.le h'->Q (.bool true) h')->C g [t.x] h Q
theorem elDF{T Ad:Type}[DecidableEq T](K:DK T Ad){f g:Nat}{mk:Int->Int->T}(hmk:∀k i,K.ok (mk k i))(s1:MarkE K mk C f)(s2:SameE K C g):
  ElD C (opsD C K.n K.bytes K.z f g) (λh k i c=>∃a,c=K.cells (mk k i) a /\ K.at_ h (mk k i) a) za.agg where
 pos:=K.pos
 zlen:=K.zlen
 len:=by rintro h k i c ⟨a,rfl,_⟩;exact K.len _ a
 mono:=by rintro h h' k i c hle ⟨a,rfl,ha⟩;exact⟨a,rfl,K.mono hle ha⟩
 new:=by rintro h k i c ⟨a,rfl,_⟩;exact zui K _ a
 call k i h Q hq:=s1 k i h Q λa h' o=>hq _ h' _ o λh1 ha=>⟨a,rfl,K.zxp (hmk k i) ha⟩
 ld hs hc hk:=by
  simp only[opsD,B.zn5]at hs ⊢;rw[hs.elem hc];exact hk
 kpt hs hs' hc:=⟨_,hs.elem hc,hs'.elem hc⟩
 st:=by
  rintro h x L R i c c0 k j Q hs hown hc0 ⟨a,rfl,ha⟩ hk;have hs':SlX h K.n x L R:=hs;refine hs'.stn hown hc0 (K.len _ a) (by simp) ?_;have hcl:c0.length=K.n:=hs'.len c0 (mem_append_left _ (mem_of_getElem? hc0));have e:c0.take 0++K.cells (mk k j) a++c0.drop (0+K.n)=K.cells (mk k j) a:=by simp[hcl]
  rw[e];exact hk
 eq:=by
  rintro h k i c c' Q ⟨a,rfl,ha⟩ ⟨b,rfl,hb⟩ hk;refine s2 _ _ _ _ _ _ ha hb ?_;rw[decide_eq_true rfl];exact hk
theorem flatD_spec{T Ad:Type}[DecidableEq T](K:DK T Ad){f g:Nat}{mk:Int->Int->T}(hmk:∀k i,K.ok (mk k i))(s1:MarkE K mk C f)(s2:SameE K C g)(t:LL){h0 h:zb}{Q:zQ}(ht:t.okL 100000000 h0)(ho:zcw h0 h (t.obs K.n))(hq:∀h',h0.le h'->Q (.bool true) h'):
  zy (opsD C K.n K.bytes K.z f g) C t.x h Q:=by
 refine dlatG_spec (elDF K hmk s1 s2) ht.is ho ht.n_le (λj hj=>?_) hq;have:=ht.zoq j hj;have h2:=Nat.mul_le_mul (show (t.D j).length+64 <= 100000064 by omega) K.small;exact⟨by omega,by show ((t.D j).length+64)*K.bytes <= _;omega⟩
structure zwu where
 es:Nat->Nat
 lim:Nat->Nat
 full:Nat->Bool
abbrev LK:=List (za×List (List za))
def obK(es:Nat)(q:za×List (List za)):Ob:= .sl es q.1 q.2 []
def LK.ll(l:LK)(x:za):LL:=⟨x,l.length,λj=>(l.getD j (.zbj,[])).1,λj=>(l.getD j (.zbj,[])).2,λ_=>[],[]⟩
theorem LK.obs(l:LK)(x:za)(es:Nat):(l.ll x).obs es=l.map (obK es):=by
 apply ext_getElem?;intro j;unfold LL.obs LK.ll;by_cases hj:j<l.length
 ·rw[zid.get hj,getElem?_map,getElem?_eq_getElem hj]
  simp[obK,hj]
 ·rw[getElem?_eq_none (by simp;omega),getElem?_eq_none (by simp;omega)]
theorem LK.zhu(l:LK):zhu l.length (λj=>[(l.getD j (.zbj,[])).1])=l.map λq=>[q.1]:=by
 apply ext_getElem?;intro j;by_cases hj:j<l.length
 ·rw[zpo _ hj,getElem?_map,getElem?_eq_getElem hj];simp[hj]
 ·rw[getElem?_eq_none (by simp;omega),getElem?_eq_none (by simp;omega)]
def ziy(C:zh)(b:zwu)(i g:Nat):Prop:=(b.full i=true->zpr C (b.es i) (b.lim i) g) /\ (b.full i=false->zdn C g)
structure BagL(b:zwu)(h0:zb)(id:Nat)(L:Nat->LK)(xs:Nat->za):Prop where
 box:h0 id=some (zgl (fill 23 xs))
 is:∀i,i<23->SlX h0 1 (xs i) ((L i).map λq=>[q.1]) []
 none:∀i,i<23->b.full i=false->L i=[]
 n_le:∀i,i<23->(L i).length <= 100000000
 zoq:∀i,i<23->∀q∈L i,q.2.length <= b.lim i
def zl2(b:zwu)(L:Nat->LK)(i n:Nat):List Ob:=(List.range' i n).flatMap λi=>(L i).map (obK (b.es i))
theorem zpq(b:zwu)(L:Nat->LK)(i n:Nat):zl2 b L i (n+1)=(L i).map (obK (b.es i))++zl2 b L (i+1) n:=by
 simp[zl2,range'_succ]
section
variable{b:zwu}{h0 h:zb}{id:Nat}{L:Nat->LK}{xs:Nat->za}{Q:zQ}
theorem BagL.ld(hb:BagL b h0 id L xs)(hle:h0.le h){i:Nat}(hi:i<23):A.ldv h (.ptr id 0 i)=some (xs i):=by
 rw[zpg (hle _ _ hb.box),zwt _ hi]
theorem zib{g:Nat}(i:Nat)(s:ziy C b i g)(hb:BagL b h0 id L xs)(n:Nat)(hi:i<23)(ho:zcw h0 h (zl2 b L i (n+1)))(hq:∀h',zcw h0 h' (zl2 b L (i+1) n)->Q (.bool true) h'):C g [xs i] h Q:=by
 rw[zpq]at ho;cases hf:b.full i with
 | true=>
  obtain⟨q1,q2⟩:=(ho.perm perm_append_comm).out;have hx:=(hb.is i hi).mono q1.le;rw[<-LK.zhu]at hx;rw[<-LK.obs (L i) (xs i)]at q1 q2;refine s.1 hf ((L i).ll (xs i)) _ h Q ⟨by rw[<-LK.obs (L i) (xs i)]at hx;exact hx,hb.n_le i hi,λj hj=>?_⟩ q2 λh' hle=>hq h' (q1.grow hle);have hj':j<(L i).length:=hj;show ((L i).getD j (.zbj,[])).2.length <= _;rw[getD_eq_getElem?_getD,getElem?_eq_getElem hj'];exact hb.zoq i hi _ (getElem_mem hj')
 | false=>
  have e:=hb.none i hi hf;have hx:=hb.is i hi;rw[e]at hx ho;simp only[map_nil,nil_append]at hx ho;exact s.2 hf (xs i) [] h h Q (hx.mono ho.le) (zb.le_refl h) λh' hle=>hq h' (ho.grow hle)
end
def zuu(C:zh)(b:zwu)(g:Nat):Prop:=∀(id:Nat)(L:Nat->LK)(xs:Nat->za)(h0 h:zb)(Q:zQ),BagL b h0 id L xs->zcw h0 h (zl2 b L 0 23)->(∀h',h0.le h'->Q (.bool true) h')->C g [.ptr id 0 0] h Q
theorem zzm(i:ze0.Imp C N)(b:zwu)(f0:ziy C b 0 (N 80))(f1:ziy C b 1 (N 81))(f2:ziy C b 2 (N 82))(f3:ziy C b 3 (N 83))(f4:ziy C b 4 (N 84))(f5:ziy C b 5 (N 85))(f6:ziy C b 6 (N 86))(f7:ziy C b 7 (N 87))(f8:ziy C b 8 (N 88))
  (f9:ziy C b 9 (N 89)) (f10:ziy C b 10 (N 90)) (f11:ziy C b 11 (N 91)) (f12:ziy C b 12 (N 92)) (f13:ziy C b 13 (N 93)) (f14:ziy C b 14 (N 94)) (f15:ziy C b 15 (N 95)) (f16:ziy C b 16 (N 96)) (f17:ziy C b 17 (N 97)) (f18:ziy C b 18 (N 98)) (f19:ziy C b 19 (N 99))
  (f20:ziy C b 20 (N 100)) (f21:ziy C b 21 (N 101)) (f22:ziy C b 22 (N 102)):zuu C b (N 62):=by
 intro id L xs h0 h Q hb ho hq;apply i;simp -dsimp[hb.ld ho.le (i:=0) (by omega)];refine zib 0 f0 hb 22 (by omega) ho λh ho=>?_;simp -dsimp[hb.ld ho.le (i:=1) (by omega)];refine zib 1 f1 hb 21 (by omega) ho λh ho=>?_;simp -dsimp[hb.ld ho.le (i:=2) (by omega)];refine zib 2 f2 hb 20 (by omega) ho λh ho=>?_;simp -dsimp[hb.ld ho.le (i:=3) (by omega)];refine zib 3 f3 hb 19 (by omega) ho λh ho=>?_;simp -dsimp[hb.ld ho.le (i:=4) (by omega)];refine zib 4 f4 hb 18 (by omega) ho λh ho=>?_;simp -dsimp[hb.ld ho.le (i:=5) (by omega)];refine zib 5 f5 hb 17 (by omega) ho λh ho=>?_;simp -dsimp[hb.ld ho.le (i:=6) (by omega)];refine zib 6 f6 hb 16 (by omega) ho λh ho=>?_;simp -dsimp[hb.ld ho.le (i:=7) (by omega)];refine zib 7 f7 hb 15 (by omega) ho λh ho=>?_;simp -dsimp[hb.ld ho.le (i:=8) (by omega)];refine zib 8 f8 hb 14 (by omega) ho λh ho=>?_;simp -dsimp[hb.ld ho.le (i:=9) (by omega)];refine zib 9 f9 hb 13 (by omega) ho λh ho=>?_;simp -dsimp[hb.ld ho.le (i:=10) (by omega)];refine zib 10 f10 hb 12 (by omega) ho λh ho=>?_;simp -dsimp[hb.ld ho.le (i:=11) (by omega)];refine zib 11 f11 hb 11 (by omega) ho λh ho=>?_;simp -dsimp[hb.ld ho.le (i:=12) (by omega)];refine zib 12 f12 hb 10 (by omega) ho λh ho=>?_;simp -dsimp[hb.ld ho.le (i:=13) (by omega)];refine zib 13 f13 hb 9 (by omega) ho λh ho=>?_;simp -dsimp[hb.ld ho.le (i:=14) (by omega)];refine zib 14 f14 hb 8 (by omega) ho λh ho=>?_;simp -dsimp[hb.ld ho.le (i:=15) (by omega)];refine zib 15 f15 hb 7 (by omega) ho λh ho=>?_;simp -dsimp[hb.ld ho.le (i:=16) (by omega)];refine zib 16 f16 hb 6 (by omega) ho λh ho=>?_;simp -dsimp[hb.ld ho.le (i:=17) (by omega)];refine zib 17 f17 hb 5 (by omega) ho λh ho=>?_;simp -dsimp[hb.ld ho.le (i:=18) (by omega)];refine zib 18 f18 hb 4 (by omega) ho λh ho=>?_;simp -dsimp[hb.ld ho.le (i:=19) (by omega)];refine zib 19 f19 hb 3 (by omega) ho λh ho=>?_;simp -dsimp[hb.ld ho.le (i:=20) (by omega)]
 refine zib 20 f20 hb 2 (by omega) ho λh ho=>?_;simp -dsimp[hb.ld ho.le (i:=21) (by omega)];refine zib 21 f21 hb 1 (by omega) ho λh ho=>?_;simp -dsimp[hb.ld ho.le (i:=22) (by omega)];refine zib 22 f22 hb 0 (by omega) ho λh ho=>?_
 try simp -dsimp
 exact zba (hq _ ho.le)
end Go.Ab
namespace Go.Ab
open List
variable{C:zh}{N:zN}
theorem zp9{E:z8}{g:Nat}(i:∀(v0:za)(h:zb)(Q:zQ),zy E C v0 h (dn Q)->C g [v0] h Q):zdn C g:=λx W h0 h Q hx hle hq=>i x h Q (flatG_nil hx hle λh' hle=>zba (hq h' hle))
theorem apartK_spec{b:zwu}{k es fp fa:Nat}(hk:k<23)(hf:∀i,b.full i=false->i≠k)(hone:∀Lk:LK,zl2 b (λi=>if i=k then Lk else []) 0 23=Lk.map (obK es))(hlim:100000000 <= b.lim k)(s1:zkh C k fp)(s3:zuu C b fa)
  {t:LL} {h0 h:zb} {Q:zQ} (ht:t.ok h0) (ho:zcw h0 h (t.obs es)) (hq:∀h',h0.le h'->Q (.bool true) h'):zs3 C fp fa t.x h Q:=by
 have hn:=ht.n_le
 try simp -dsimp[zs3]
 intro id hid
 refine zd.intro (λn vs hh=>∃j:Nat,j+n=t.n /\ vs=[.int .i64 j] /\ zqd h hh id (upf (λ_=>[]) k ((List.range j).map t.xs))) t.n ?_ ⟨0,by simp,by simp,by
  have:=zqd.start hid;rw[show upf (λ_=>([]:List za)) k ((List.range 0).map t.xs)=λ_=>[] from ztz ..];exact this⟩
 rintro Y n vs hh ⟨j,hj,rfl,hb⟩ hY;have hx:=ht.is.mono (zb.le_trans ho.le hb.le);simp -dsimp[zn3 hx];refine B.zm (λh1=>?_) (λh1=>?_)<;>simp at h1
 ·have hc:(t.xs j).zbm=true:=(ho.zgz j (zid.get h1)).zbm
  simp -dsimp[zin hx h1,zmq hx h1];refine s1 h hh id _ _ _ hb hc (by rw[zgh];simp;omega) λh' hb'=>?_;simp -dsimp[zjl (n:=j) (by omega)];refine hY (n-1) _ _ (by omega) ⟨j+1,by omega,by simp,?_⟩;rw[zgh,zs7]at hb';rw[range_succ,map_append];exact hb'
 ·have:j=t.n:=by omega
  subst this
  let Lk:LK:=(List.range t.n).map λj=>(t.xs j,t.D j)
  have hc:zcw h0 h (Lk.map (obK es)):=by
   have ho':zcw h0 h (zid es t.n t.xs t.D t.R++[]):=by rw[append_nil];exact ho
   have:=ho'.cutR;rw[append_nil]at this;have e:zid es t.n t.xs t.D (λ_=>[])=Lk.map (obK es):=by
    show (List.range t.n).map _=((List.range t.n).map _).map _;rw[map_map];rfl
   rw[<-e];exact this
  obtain⟨xs,ob⟩:=hb;rw[<-hone]at hc;obtain⟨q1,q2⟩:=((hc.join ob).perm perm_append_comm).out;obtain⟨id',e,hbx⟩:=q1.zts 23 zid.getL;cases e;refine s3 id (λi=>if i=k then Lk else []) xs _ hh Q ⟨hbx,λi hi=>?_,λi hi hfi=>?_,λi hi=>?_,λi hi q hq=>?_⟩ q2 λh' hle=>hq h' (zb.le_trans q1.le hle)
  ·have:=q1.zgz i (zid.zza hi)
   have e:(upf (λ_=>([]:List za)) k ((List.range t.n).map t.xs) i).map sing=((λi=>if i=k then Lk else []) i:LK).map λq=>[q.1]:=by
    show (if i=k then (List.range t.n).map t.xs else []).map sing=(if i=k then Lk else []).map λq=>[q.1];split
    ·rw[map_map]
     show _=((List.range t.n).map _).map _;rw[map_map];rfl
    ·rfl
   rw[e]at this;exact this
  ·have:=hf i hfi
   show (if i=k then Lk else [])=[];rw[if_neg this]
  ·show (if i=k then Lk else []).length <= _
   split
   ·show ((List.range t.n).map _).length <= _
    rw[length_map,length_range];omega
   ·simp
  ·have hq:q∈(if i=k then Lk else []):=hq
   by_cases e:i=k
   ·rw[if_pos e]at hq
    obtain⟨j,hj,rfl⟩:=mem_map.1 hq;have:=ht.zoq j (by simpa using hj);rw[e];show (t.D j).length <= _;omega
   ·rw[if_neg e]at hq;cases hq
def bagTx:zwu:=⟨λ_=>1,λ_=>100000000,λi=>decide (i=3)⟩
theorem ze0.spl(i:ze0.Imp C N)(f0:zdn C (N 80))(f1:zdn C (N 81))(f2:zdn C (N 82))(s3:zhd C 1 (N 83))(i4:zeu.Imp C N)(i5:zbb.Imp C N)(i6:zb8.Imp C N)(i7:zbl.Imp C N)(i8:zbs.Imp C N)(i9:zbt.Imp C N)(f10:zdn C (N 90))(i11:zbu.Imp C N)(f12:zdn C (N 92))(f13:zdn C (N 93))(f14:zdn C (N 94))(f15:zdn C (N 95))(f16:zdn C (N 96))(f17:zdn C (N 97))(f18:zdn C (N 98))(f19:zdn C (N 99))(f20:zdn C (N 100))(f21:zdn C (N 101))(f22:zdn C (N 102)):zuu C bagTx (N 62):=by
 have z:∀{j g:Nat},bagTx.full j=false->zdn C g->ziy C bagTx j g:=λh s=>⟨λe=>(by rw[h]at e;cases e),λ_=>s⟩;exact zzm i bagTx (z rfl f0) (z rfl f1) (z rfl f2) ⟨λ_ t h0 h Q ht ho hq=>s3 t h0 h Q ⟨ht.is,ht.n_le,ht.zoq⟩ ho hq,λe=>(by cases e)⟩ (z rfl (zp9 i4)) (z rfl (zp9 i5)) (z rfl (zp9 i6)) (z rfl (zp9 i7)) (z rfl (zp9 i8)) (z rfl (zp9 i9)) (z rfl f10) (z rfl (zp9 i11)) (z rfl f12) (z rfl f13) (z rfl f14) (z rfl f15) (z rfl f16) (z rfl f17) (z rfl f18) (z rfl f19) (z rfl f20) (z rfl f21) (z rfl f22)
theorem one3(Lk:LK):zl2 bagTx (λi=>if i=3 then Lk else []) 0 23=Lk.map (obK 1):=by
 have:List.range' 0 23=[0,1,2,3,4,5,6,7,8,9,10,11,12,13,14,15,16,17,18,19,20,21,22]:=rfl;unfold zl2;rw[this];simp[bagTx]
theorem ze8.spec(i:ze8.Imp C N):zkh C 3 (N 405):=λh hh id B y Q hb hy hl hq=>i _ _ hh Q (zq3 (k:=3) (by omega) hb hy hl λh' hb'=>zba (hq h' hb'))
theorem zd7.spec(i:zd7.Imp C N)(s1:zkh C 3 (N 405))(s2:zuu C bagTx (N 62)):zhd C 1 (N 396):=λt h0 h Q ht ho hq=>i t.x h Q (apartK_spec (k:=3) (by omega) (λi h e=>by subst e;cases h) one3 (Nat.le_refl _) s1 s2 ht ho λh' hle=>zba (hq h' hle))
variable{C:zh}{N:zN}
theorem zfa.spec(i:zfa.Imp C N):zkh C 11 (N 207):=λh hh id B y Q hb hy hl hq=>i _ _ hh Q (zq3 (k:=11) (by omega) hb hy hl λh' hb'=>zba (hq h' hb'))
variable{C:zh}{N:zN}
theorem zcw.lit2L{h0 h:zb}{l:List Ob}(ho:zcw h0 h l){x y:za}{id:Nat}(hid:h id=none):zcw h0 (upd h id (zgl [x,y])) (l++[.sl 1 (.sl id 0 0 2 1 2) [[x],[y]] []]):=ho.zpz hid (by simp) rfl (by simp) rfl
def twoL(α:Type)(a b:α):Nat->α:=λj=>if j=0 then a else b
theorem Objs_twoL{es:Nat}{a b:za}{A B' R1 R2:List (List za)}:zid es 2 (twoL _ a b) (twoL _ A B') (twoL _ R1 R2)=[.sl es a A R1,.sl es b B' R2]:=rfl
variable{C:zh}{N:zN}
end Go.Ab
namespace Go.Ab
open List
variable{C:zh}{N:zN}
def two{α:Type}(a b:α):Nat->α:=λj=>if j=0 then a else b
section
variable{b post:List UInt8}{a:Nat}
end
end Go.Ab
namespace Go.Ab
open List
variable{C:zh}{N:zN}
theorem litO{h:zb}{es n:Nat}{cs:List za}(L:List (List za)){K:Nat->zb->Prop}(hc:cs=L.flatten)(hL:∀p∈L,p.length=es)(hn:n=L.length)(hK:∀i h',zcw h h' [.sl es (.sl i 0 0 n es n) L []]->K i h'):B.zg1 h (some cs) K:=
 λi hi=>hK i _ ((zcw.start h).zpz hi (by simpa using hL) hn (by simp;omega) (by simpa using hc))
def zyl:DK Itm (za×za) where
 n:=4
 bytes:=72
 z:=[.str [],.int .i64 0,.zbj,.zbj]
 pos:=by omega
 small:=by omega
 zlen:=rfl
 cells t a:=[.str t.Code,.int .i64 t.Life,a.1,a.2]
 len _ _:=rfl
 at_ h t a:=(∃R,SlX h 2 a.1 (t.zgc.map Part.cs) R) /\ (∃R,SlX h 1 a.2 (t.zep.map tc) R)
 mono hle ha:=⟨ha.1.imp λ_ r=>r.mono hle,ha.2.imp λ_ r=>r.mono hle⟩
 ok _:=True
 at_ok _:=trivial
 obs b t a:=[zu8 b a.1 t.zgc,zux b a.2 t.zep]
 zxp {b h t a} _ ha:=⟨⟨_,show SlX h 2 a.1 (t.zgc.map Part.cs) (bif b then zn2 else []) from ha (zu8 b a.1 t.zgc) (by simp)⟩,⟨_,show SlX h 1 a.2 (t.zep.map tc) (bif b then zh2 else []) from ha (zux b a.2 t.zep) (by simp)⟩⟩
theorem itemW_K{h:zb}{x:za}{L:List Itm}(hx:Dl zyl h x L)(hok:∀t∈L,t.ok):Dl zd3 h x L:=by
 obtain⟨P,R,rfl,s,ha⟩:=hx;exact⟨P,R,rfl,s,λp hp=>⟨(ha p hp).1,(ha p hp).2,hok p.1 (mem_map_of_mem hp)⟩⟩
def Itm.inLen(t:Itm):Prop:=t.Code.length<4611686018427387904 /\ (∀p∈t.zgc,p.Item.length<4611686018427387904) /\ (∀o∈t.zep,o.length<4611686018427387904) /\ t.zgc.length<100000000000000000 /\ t.zep.length<100000000000000000
end Go.Ab
namespace Go.Ab
open List
variable{C:zh}{N:zN}
theorem itm_getW{h:zb}{x:za}{L:List Itm}(hx:Dl zyl h x L){i:Nat}{r:Itm}(hr:L[i]?=some r):∃p o,V.zb3 4 x (.int .i64 (i:Int))=some (elp 4 x i 0) /\ V.fieldAddr 0 (elp 4 x i 0)=some (elp 4 x i 0) /\
  V.fieldAddr 2 (elp 4 x i 0)=some (elp 4 x i 2) /\ V.fieldAddr 3 (elp 4 x i 0)=some (elp 4 x i 3) /\ A.ldv h (elp 4 x i 0)=some (.str r.Code) /\ A.ldv h (elp 4 x i 2)=some p /\ A.ldv h (elp 4 x i 3)=some o /\
  (∃R,SlX h 2 p (r.zgc.map Part.cs) R) /\ V.zbi p=some (.int .i64 (r.zgc.length:Int)) /\ (∃R,SlX h 1 o (r.zep.map tc) R) /\ V.zbi o=some (.int .i64 (r.zep.length:Int)):=by
 obtain⟨a,ea⟩:=hx.get hr;obtain⟨⟨R1,a1⟩,⟨R2,a2⟩⟩:(∃R,SlX h 2 a.1 (r.zgc.map Part.cs) R) /\ (∃R,SlX h 1 a.2 (r.zep.map tc) R):=ea.at_;exact⟨a.1,a.2,ea.idx,ea.fld 0 0,ea.fld 0 2,ea.fld 0 3,ea.ld 0 (by decide),ea.ld 2 (by decide),ea.ld 3 (by decide),⟨R1,a1⟩,by simpa using a1.zbi,⟨R2,a2⟩,by simpa using a2.zbi⟩
theorem quo20{a:Nat}(h:a<4611686018427387904):V.bin .quo (.int .i64 (a:Int)) (.int .i64 20)=some (.int .i64 ((a / 20:Nat):Int)):=by
 rw[V.zmy _ _ _ (by omega),show (a:Int).tdiv 20=((a / 20:Nat):Int) from rfl,wrap_i64 (by omega) (by omega)]
theorem litT{h:zb}(L:List (List UInt8)){cs:List za}{n:Nat}{K:Nat->zb->Prop}(hc:cs=(L.map tc).flatten)(hn:n=L.length)(hK:∀i h',zcw h h' [.sl 1 (.sl i 0 0 n 1 n) (L.map tc) []]->K i h'):B.zg1 h (some cs) K:=
 litO (L.map tc) hc (by intro p hp;obtain⟨_,_,rfl⟩:=mem_map.1 hp;rfl) (by simpa using hn) hK
structure Sta where
 Now:Int
 zob:Int
 zlx:Int
 zet:List Itm
 zjf:List Lot
 zgq:List znh
 deriving DecidableEq
variable{C:zh}{N:zN}
section
variable{hb h0 h:zb}{l:List Ob}{p:za}{b:List UInt8}{r:Rdr}
theorem endGet{o:Ob}:(l++[o])[l.length]?=some o:=by simp
theorem endSet{o o':Ob}:(l++[o]).set l.length o'=l++[o']:=by simp
end
variable{C:zh}{N:zN}
def zce.Spec(C:zh)(N:zN):Prop:=∀(x:za)(L:List (List UInt8))(R:List (List za))(s:List UInt8)(h:zb)(Q:zQ),SlX h 1 x (L.map tc) R->L.length<4611686018427387904->(∀n:Int,(0 <= n↔s∈L)->Q (.int .i64 n) h)->C (N 445) [x,.str s] h Q
theorem zce.spec(i:zce.Imp C N):zce.Spec C N:=by
 intro x L R s h Q hx hl hq;apply i;have hlx:=hx.zbi;rw[length_map]at hlx;simp -dsimp only[zce.cps,zg9.cps,hlx,B.ze];refine zd.intro (λn vs hh=>∃k:Nat,k+n=L.length /\ vs=[.int .i64 (k:Int)] /\ hh=h /\ s∉L.take k) L.length ?_ ⟨0,by simp,rfl,rfl,by simp⟩;rintro Y n vs hh ⟨k,hn,rfl,rfl,hno⟩ hY;simp -dsimp only[zg9.l2,zg9.k1,zqg,B.ze];refine B.zm (λhc=>?_) (λhc=>?_)
 ·rw[decide_eq_true_eq]at hc
  obtain⟨w,hw⟩:=zgf hc;have hk:k<(L.map tc).length:=by simpa using hc
  have e1:A.ldv hh (elp 1 x k 0)=some (.str w):=hx.cell (get_map hw);have e2:V.zb3 (zc7 16 (.str []) 0).es x (.int .i64 (k:Int))=some (elp 1 x k 0):=hx.zjp hk;have e3:∀(p:za)(K:za->Prop),(zc7 16 (.str []) 0).ld hh p K=B.pv (A.ldv hh p) K:=λ_ _=>rfl;simp -dsimp only[e2,e3,e1,B.ze,V.zrz];refine B.zm (λhd=>?_) (λhd=>?_)
  ·rw[decide_eq_true_eq]at hd
   subst hd;exact zba (hq k ⟨λ_=>mem_of_getElem? hw,λ_=>by omega⟩)
  ·rw[decide_eq_false_iff_not]at hd
   simp -dsimp only[zg8 (show k<4611686018427387904 by omega),B.ze];refine hY (L.length-(k+1)) _ _ (by omega) ⟨k+1,by omega,rfl,rfl,?_⟩;rw[take_succ hw];simp[hno,hd]
 ·rw[decide_eq_false_iff_not]at hc
  have:k=L.length:=by omega
  subst this;rw[take_length]at hno;exact zba (hq (-1) ⟨λh=>by omega,λh=>absurd h hno⟩)
def zby.Spec(C:zh)(N:zN):Prop:=∀(x:za)(L:List (List UInt8))(R:List (List za))(s:List UInt8)(h:zb)(Q:zQ),SlX h 1 x (L.map tc) R->L.length<4611686018427387904->Q (.bool (decide (s∈L))) h->C (N 442) [x,.str s] h Q
theorem zby.spec(i:zby.Imp C N)(s1:zce.Spec C N):zby.Spec C N:=by
 intro x L R s h Q hx hl hq;apply i;simp -dsimp only[zby.cps,zqe.cps];refine s1 x L R s h _ hx hl λn hn=>?_;simp -dsimp only[V.zk5,B.ze];rw[decide_eq_decide.2 hn];exact zba hq
variable{C:zh}{N:zN}
structure zqx(h:zb)(s:Sta)(x y z:za):Prop where
 items:Dl zd3 h x s.zet
 lots:∃R,SlX h 6 y (s.zjf.map Lot.cs) R
 lines:∃R,SlX h 8 z (s.zgq.map znh.cs) R
 n1:s.zet.length <= 100000000
 n2:s.zjf.length <= 100000000
 n3:s.zgq.length <= 100000000
theorem zqx.mono{h h':zb}{s:Sta}{x y z:za}(a:zqx h s x y z)(hle:h.le h'):zqx h' s x y z:=⟨a.items.mono hle,a.lots.imp λ_ r=>r.mono hle,a.lines.imp λ_ r=>r.mono hle,a.n1,a.n2,a.n3⟩
abbrev zlz(s:Sta)(x y z:za):List za:=[.int .i64 s.Now,.int .i64 s.zob,.int .i64 s.zlx,x,y,z]
variable{P:Program}{w0:World}{ρ:zf3}{h H:zb}{w:World}
theorem zgb.at:∀{as1:List za}{l:List Value},zgb ρ as1 l->∀{j:Nat}{a:za},as1[j]?=some a->∃u,l[j]?=some u /\ zii ρ a u
 | [],_,_,j,a,h=>by simp at h
 | x::as1,_,⟨u,us,rfl,h1,h2⟩,0,a,h=>by simp at h;subst h;exact⟨u,rfl,h1⟩
 | x::as1,_,⟨u,us,rfl,h1,h2⟩,j+1,a,h=>by
  obtain⟨v,e1,e2⟩:=zgb.at h2 (j:=j) (by simpa using h)
  exact⟨v,by simpa using e1,e2⟩
variable{C:zh}{N:zN}
theorem zcw.lay{h0 h:zb}{l l':List Ob}(ho:zcw h0 h (l++l')):∃hb:zb,h0.le hb /\ hb.le h /\ zcw hb h l /\ zwh hb l':=by
 obtain⟨q1,q2⟩:=(ho.perm perm_append_comm).out;exact⟨_,q1.le,q2.le,q2,q1.is⟩
variable{C:zh}{N:zN}
abbrev StaO(s:Sta)(x:za)(P:List (Itm×(za×za)))(y z:za):List Ob:= .sl 4 x (P.map zd3.cs) []:: .sl 6 y (s.zjf.map Lot.cs) []:: .sl 8 z (s.zgq.map znh.cs) []::zd3.os false P
structure StaN(s:Sta)(k:Nat):Prop where
 n:s.zet.length+s.zjf.length+s.zgq.length <= k
 ok:∀t∈s.zet,t.ok
theorem StaO.at{h0 h:zb}{s:Sta}{x y z:za}{P:List (Itm×(za×za))}{l:List Ob}(ho:zcw h0 h l)(hl:∀o∈StaO s x P y z,o∈l)(e:P.map (·.1)=s.zet){k:Nat}(hn:StaN s k)(hk:k <= 100000000):zqx h s x y z:=by
 obtain⟨n,ok⟩:=hn;refine⟨?_,⟨[],ho.is (.sl 6 y (s.zjf.map Lot.cs) []) (hl _ (by simp))⟩,⟨[],ho.is (.sl 8 z (s.zgq.map znh.cs) []) (hl _ (by simp))⟩,by omega,by omega,by omega⟩;rw[<-e];refine dl_of (K:=zd3) (b:=false) (l:=l) (R:=[]) (λp hp=>ok _ (by rw[<-e];exact mem_map.2 ⟨p,hp,rfl⟩)) ho.is (hl _ (mem_cons_self ..)) λo hm=>hl _ ?_;simp only[StaO,mem_cons];exact .inr (.inr (.inr hm))
variable{C:zh}{N:zN}
def zev.Spec(C:zh)(N:zN):Prop:=∀(s t:Sta)(x y z u v w:za)(h:zb)(Q:zQ),zqx h s x y z->zqx h t u v w->Q (.bool (decide (s=t))) h->C (N 116) [.agg (zlz s x y z),.agg (zlz t u v w)] h Q
theorem Sta.eq_iff(s t:Sta):s=t↔((((s.Now=t.Now /\ s.zob=t.zob) /\ s.zlx=t.zlx) /\ s.zet=t.zet) /\ s.zjf=t.zjf) /\ s.zgq=t.zgq:=by
 cases s;cases t;simp[Sta.mk.injEq,and_assoc]
theorem zev.spec(i:zev.Imp C N)(s1:zd4.Spec C N)(s2:zfy.Spec C N)(s3:ze2.Spec C N):zev.Spec C N:=by
 intro s t x y z u v w h Q hs ht hq;obtain⟨a1,⟨R2,a2⟩,⟨R3,a3⟩,n1,n2,n3⟩:=hs;obtain⟨b1,⟨S2,b2⟩,⟨S3,b3⟩,m1,m2,m3⟩:=ht;apply i;simp +contextual -dsimp;refine B.zmo (v:= .bool (decide (s.zet=t.zet))) (λ_ Q hq=>s1 _ _ _ _ _ _ a1 b1 (by omega) hq) ?_;simp +contextual -dsimp;refine B.zmo (v:= .bool (decide (s.zjf=t.zjf))) (λ_ Q hq=>s2 _ _ _ _ _ _ _ _ a2 b2 (by omega) hq) ?_;simp +contextual -dsimp;refine B.zmo (v:= .bool (decide (s.zgq=t.zgq))) (λ_ Q hq=>s3 _ _ _ _ _ _ _ _ a3 b3 (by omega) hq) ?_;simp -dsimp;refine zba ?_;have:decide (s=t)=(((((decide (s.Now=t.Now)&&decide (s.zob=t.zob))&&decide (s.zlx=t.zlx))&&decide (s.zet=t.zet))&&decide (s.zjf=t.zjf))&&decide (s.zgq=t.zgq)):=by
  rw[Bool.eq_iff_iff];simp only[decide_eq_true_eq,Bool.and_eq_true];exact Sta.eq_iff s t
 rw[this]at hq;exact hq
structure StaW(h:zb)(s:Sta)(x y z:za):Prop where
 items:Dl zyl h x s.zet
 lots:∃R,SlX h 6 y (s.zjf.map Lot.cs) R
 lines:∃R,SlX h 8 z (s.zgq.map znh.cs) R
 n1:s.zet.length<4611686018427387904
 n2:s.zjf.length<1000000000000000000
 n3:s.zgq.length<1000000000000000000
 inl:∀t∈s.zet,t.inLen
theorem StaW.mono{h h':zb}{s:Sta}{x y z:za}(a:StaW h s x y z)(hle:h.le h'):StaW h' s x y z:=⟨a.items.mono hle,a.lots.imp λ_ r=>r.mono hle,a.lines.imp λ_ r=>r.mono hle,a.n1,a.n2,a.n3,a.inl⟩
abbrev Key:=List UInt8
abbrev zkr(l:List Key):Prop:=l.Pairwise λa b=>zij a b=true
theorem zq2{l m:List Key}(s:zkr l)(t:zkr m)(e:∀x,x∈l↔x∈m):l=m:=
 rise_ext (λa b h1 h2=>by rw[zpf h1]at h2;cases h2) s t e
def ztu:List Key->Key->List Key|[],s=>[s]|x::l,s=>if zij x s=true then x::ztu l s else if x=s then x::l else s::x::l
theorem zwp{s y:Key}:∀{l:List Key},y∈ztu l s↔y=s \/ y∈l
 | []=>by simp[ztu]
 | x::l=>by
  unfold ztu
  split
  ·rw[mem_cons,zwp,mem_cons]
   constructor
   ·rintro(h|h|h)
    ·exact .inr (.inl h)
    ·exact .inl h
    ·exact .inr (.inr h)
   ·rintro(h|h|h)
    ·exact .inr (.inl h)
    ·exact .inl h
    ·exact .inr (.inr h)
  ·split
   ·rename_i h
    subst h
    simp only[mem_cons]
    constructor
    ·exact λh=> .inr h
    ·rintro(h|h)
     ·exact .inl h
     ·exact h
   ·simp only[mem_cons]
theorem zt3{s:Key}:∀{l:List Key},zkr l->zkr (ztu l s)
 | [],_=>pairwise_singleton _ _
 | x::l,h=>by
  obtain⟨h1,h2⟩:=pairwise_cons.1 h;unfold ztu;split
  ·rename_i hx
   refine pairwise_cons.2 ⟨λy hy=>?_,zt3 h2⟩;rcases zwp.1 hy with rfl|hy
   ·exact hx
   ·exact h1 y hy
  ·split
   ·exact h
   ·rename_i h3 h4
    have hs:zij s x=true:=by
     have:zij x s=false:=by simpa using h3
     exact zop this h4
    refine pairwise_cons.2 ⟨λy hy=>?_,h⟩;rcases mem_cons.1 hy with rfl|hy
    ·exact hs
    ·exact zmh hs (h1 y hy)
theorem putT_len{s:Key}:∀{l:List Key},zkr l->(ztu l s).length=if s∈l then l.length else l.length+1
 | [],_=>rfl
 | x::l,h=>by
  obtain⟨h1,h2⟩:=pairwise_cons.1 h;unfold ztu;split
  ·rename_i hx
   rw[length_cons,putT_len h2];have:s≠x:=λe=>by subst e;rw[zko]at hx;cases hx
   by_cases hs:s∈l
   ·rw[if_pos hs,if_pos (mem_cons_of_mem _ hs)];rfl
   ·rw[if_neg hs,if_neg (λe=>by rcases mem_cons.1 e with e|e;exact this e;exact hs e)];rfl
  ·split
   ·rename_i h4
    rw[if_pos (by rw[h4];exact mem_cons_self ..)]
   ·rename_i h3 h4
    have hs:zij s x=true:=by
     have:zij x s=false:=by simpa using h3
     exact zop this h4
    rw[if_neg]
    ·rfl
    ·intro hm
     rcases mem_cons.1 hm with e|hm
     ·exact h4 e.symm
     ·have:=zmh hs (h1 s hm)
      rw[zko]at this;cases this
def zj7(l m:List Key):List Key:=m.foldl ztu l
theorem zjd{y:Key}:∀{m l:List Key},y∈zj7 l m↔y∈l \/ y∈m
 | [],l=>by simp[zj7]
 | s::m,l=>by
  have:zj7 l (s::m)=zj7 (ztu l s) m:=rfl
  rw[this,zjd,zwp,mem_cons]
  constructor
  ·rintro((h|h)|h)
   ·exact .inr (.inl h)
   ·exact .inl h
   ·exact .inr (.inr h)
  ·rintro(h|h|h)
   ·exact .inl (.inr h)
   ·exact .inl (.inl h)
   ·exact .inr h
theorem zmd:∀{m l:List Key},zkr l->zkr (zj7 l m)|[],l,h=>h|s::m,l,h=>zmd (l:=ztu l s) (zt3 h)
def zci(I:List Itm):List Key:=zj7 [] (I.map Itm.Code)
theorem zml(I:List Itm):zkr (zci I):=zmd .nil
theorem zla{I:List Itm}{c:Key}:c∈zci I↔∃t∈I,t.Code=c:=by
 unfold zci;rw[zjd];simp[mem_map]
def ziw(t:Itm):List Key:=t.Code::(t.zgc.map Part.Item++t.zep)
def zh4(all:List Key)(t:Itm):List Key:=(ziw t).filter λn=>decide (n∈all)
def hitT(all inn:List Key)(t:Itm):Bool:=(zh4 all t).any λn=>decide (n∈inn)
def zh9(all:List Key)(I:List Itm)(inn:List Key):List Key:=I.foldl (λa t=>if hitT all a t=true then zj7 a (zh4 all t) else a) inn
def zmb(all:List Key)(I:List Itm):Nat->List Key->List Key|0,a=>a|k+1,a=>if (zh9 all I a).length=a.length then zh9 all I a else zmb all I k (zh9 all I a)
def zd2(I:List Itm)(c:Key):List Key:=zmb (zci I) I ((zci I).length+1) [c]
inductive Eqv(E:Key->Key->Prop):Key->Key->Prop
 | rel {a b:Key}:E a b->Eqv E a b
 | refl (a:Key):Eqv E a a
 | symm {a b:Key}:Eqv E a b->Eqv E b a
 | trans {a b c:Key}:Eqv E a b->Eqv E b c->Eqv E a c
def zsp(I:List Itm)(a b:Key):Prop:=∃t∈I,t.Code=a /\ b∈t.zgc.map Part.Item++t.zep /\ b∈zci I
theorem known_eqv{I:List Itm}{t:Itm}(ht:t∈I){n:Key}(hn:n∈zh4 (zci I) t):Eqv (zsp I) t.Code n:=by
 obtain⟨h1,h2⟩:=mem_filter.1 hn;have h2:n∈zci I:=by simpa using h2
 unfold ziw at h1;rcases mem_cons.1 h1 with e|h1
 ·rw[e];exact .refl _
 ·exact .rel ⟨t,ht,rfl,h1,h2⟩
section
variable{I J:List Itm}{all inn:List Key}
theorem znn:∀{J:List Itm}{a:List Key},zkr a->zkr (zh9 all J a)
 | [],a,h=>h
 | t::J,a,h=>by
  show zkr (zh9 all J (if hitT all a t=true then zj7 a (zh4 all t) else a))
  refine znn ?_
  split
  ·exact zmd h
  ·exact h
theorem znu:∀{J:List Itm}{a:List Key},∀x∈a,x∈zh9 all J a
 | [],a,x,h=>h
 | t::J,a,x,h=>by
  show x∈zh9 all J (if hitT all a t=true then zj7 a (zh4 all t) else a)
  refine znu x ?_
  split
  ·exact zjd.2 (.inl h)
  ·exact h
theorem zxa:∀{J:List Itm}{a:List Key},(∀x∈a,x∈all)->∀x∈zh9 all J a,x∈all
 | [],a,h=>h
 | t::J,a,h=>by
  show ∀x∈zh9 all J (if hitT all a t=true then zj7 a (zh4 all t) else a),x∈all
  refine zxa λx hx=>?_
  split at hx
  ·rcases zjd.1 hx with hx|hx
   ·exact h x hx
   ·simpa using (mem_filter.1 hx).2
  ·exact h x hx
theorem zw9{c:Key}:∀{J:List Itm}{a:List Key},(∀t∈J,t∈I)->(∀x∈a,Eqv (zsp I) c x)->∀x∈zh9 (zci I) J a,Eqv (zsp I) c x
 | [],a,_,h=>h
 | t::J,a,hJ,h=>by
  show ∀x∈zh9 (zci I) J (if hitT (zci I) a t=true then zj7 a (zh4 (zci I) t) else a),_
  refine zw9 (λu hu=>hJ u (by simp[hu])) λx hx=>?_
  split at hx
  ·rename_i hh
   rcases zjd.1 hx with hx|hx
   ·exact h x hx
   ·unfold hitT at hh
    obtain⟨n,hn,hna⟩:=any_eq_true.1 hh
    have hna:n∈a:=by simpa using hna
    have ht:=hJ t (by simp)
    exact .trans (.trans (h n hna) (.symm (known_eqv ht hn))) (known_eqv ht hx)
  ·exact h x hx
theorem round_len:∀{J:List Itm}{a:List Key},zkr a->a.length <= (zh9 all J a).length:=λ{J a} h=>by
 have hn:a.Nodup:=h.imp λ{x y} e=>zwr e
 exact hn.length_le_of_subset λx hx=>znu x hx
theorem zgv{a:List Key}(h:zkr a):a.Nodup:=h.imp λ{x y} e=>zwr e
theorem zyz{a:List Key}(h:zkr a)(e:(zh9 all J a).length=a.length):zh9 all J a=a:=by
 have hn:=zgv h;have hr:=znn (all:=all) (J:=J) h;refine zq2 hr h λx=>⟨λhx=>?_,λhx=>znu x hx⟩;refine Classical.byContradiction λhxa=>?_;have:(x::a).length <= (zh9 all J a).length:=List.Nodup.length_le_of_subset (nodup_cons.2 ⟨hxa,hn⟩) λy hy=>by
  rcases mem_cons.1 hy with rfl|hy
  ·exact hx
  ·exact znu y hy
 rw[length_cons]at this;omega
theorem zw8:∀{k:Nat}{a:List Key},zkr a->zkr (zmb all J k a)
 | 0,a,h=>h
 | k+1,a,h=>by
  unfold zmb
  split
  ·exact znn h
  ·exact zw8 (znn h)
theorem zyx{c:Key}:∀{k:Nat}{a:List Key},(∀x∈a,Eqv (zsp I) c x)->∀x∈zmb (zci I) I k a,Eqv (zsp I) c x
 | 0,a,h=>h
 | k+1,a,h=>by
  unfold zmb
  split
  ·exact zw9 (λt ht=>ht) h
  ·exact zyx (zw9 (λt ht=>ht) h)
theorem zyw:∀{k:Nat}{a:List Key},∀x∈a,x∈zmb all J k a
 | 0,a,x,h=>h
 | k+1,a,x,h=>by
  unfold zmb
  split
  ·exact znu x h
  ·exact zyw x (znu x h)
theorem zyy(ha:zkr all):∀{k:Nat}{a:List Key},zkr a->(∀x∈a,x∈all)->all.length<a.length+k->zh9 all J (zmb all J k a)=zmb all J k a
 | 0,a,h,h1,h2=>by
  have:=(zgv h).length_le_of_subset h1
  omega
 | k+1,a,h,h1,h2=>by
  unfold zmb
  split
  ·rename_i e
   rw[zyz h e,zyz h e]
  ·rename_i e
   have:=round_len (all:=all) (J:=J) h
   exact zyy ha (znn h) (zxa h1) (by omega)
theorem zvw:∀{J:List Itm}{a:List Key},zkr a->(∀x,x∈zh9 all J a->x∈a)->∀t∈J,∀m∈zh4 all t,∀n∈zh4 all t,m∈a->n∈a
 | u::J,a,h,hx,t,ht,m,hm,n,hn,hma=>by
  have hx:∀x,x∈zh9 all J (if hitT all a u=true then zj7 a (zh4 all u) else a)->x∈a:=hx
  have h1:zkr (if hitT all a u=true then zj7 a (zh4 all u) else a):=by
   split
   ·exact zmd h
   ·exact h
  have hsub:∀x,x∈(if hitT all a u=true then zj7 a (zh4 all u) else a)->x∈a:=λx h=>hx x (znu x h);rcases mem_cons.1 ht with rfl|ht
  ·have hh:hitT all a t=true:=any_eq_true.2 ⟨m,hm,by simpa using hma⟩
   rw[if_pos hh]at hsub;exact hsub n (zjd.2 (.inr hn))
  ·have e:(if hitT all a u=true then zj7 a (zh4 all u) else a)=a:=by
    refine zq2 h1 h λx=>⟨hsub x,λhx=>?_⟩;split
    ·exact zjd.2 (.inl hx)
    ·exact hx
   rw[e]at hx;exact zvw h hx t ht m hm n hn hma
end
theorem zfw{I:List Itm}{c:Key}(hc:c∈zci I):zkr (zd2 I c) /\ ∀y,y∈zd2 I c↔Eqv (zsp I) c y:=by
 have r0:zkr [c]:=pairwise_singleton _ _;have r1:zkr (zd2 I c):=zw8 r0;have hall:∀x∈[c],x∈zci I:=λx hx=>by rw[mem_singleton.1 hx];exact hc
 have he:=zyy (all:=zci I) (J:=I) (zml I) (k:=(zci I).length+1) r0 hall (by simp;omega);have he:zh9 (zci I) I (zd2 I c)=zd2 I c:=he;refine⟨r1,λy=>⟨λhy=>zyx (λx hx=>by rw[mem_singleton.1 hx];exact .refl _) y hy,λhy=>?_⟩⟩;have cl:∀t∈I,∀m∈zh4 (zci I) t,∀n∈zh4 (zci I) t,m∈zd2 I c->n∈zd2 I c:=zvw r1 (λx hx=>by rw[he]at hx;exact hx);have edge:∀a b,zsp I a b->(a∈zd2 I c↔b∈zd2 I c):=λa b ⟨t,ht,e,hb,hk⟩=>by
  have ka:a∈zh4 (zci I) t:=mem_filter.2 ⟨by unfold ziw;rw[e];exact mem_cons_self ..,by simpa using zla.2 ⟨t,ht,e⟩⟩;have kb:b∈zh4 (zci I) t:=mem_filter.2 ⟨mem_cons_of_mem _ hb,by simpa using hk⟩;exact⟨cl t ht a ka b kb,cl t ht b kb a ka⟩
 have key:∀a b,Eqv (zsp I) a b->(a∈zd2 I c↔b∈zd2 I c):=λa b h=>by
  induction h with
  | rel h=>exact edge _ _ h
  | refl=>exact Iff.rfl
  | symm _ ih=>exact ih.symm
  | trans _ _ h1 h2=>exact h1.trans h2
 exact(key c y hy).1 (zyw c (by simp))
def zkg(g:Key->Option Key):Nat->Key->Key->Prop|0,c,r=>g c=some c /\ r=c|n+1,c,r=>∃e,g c=some e /\ e≠c /\ zkg g n e r
def zuq(g:Key->Option Key)(a b:Key):Prop:=∃r n m,zkg g n a r /\ zkg g m b r
theorem zkg.top{g:Key->Option Key}:∀{n:Nat}{c r:Key},zkg g n c r->g r=some r
 | 0,c,r,h=>by obtain⟨h,rfl⟩:=h;exact h
 | n+1,c,r,⟨e,_,_,h⟩=>zkg.top h
theorem zkg.det{g:Key->Option Key}:∀{n m:Nat}{c r q:Key},zkg g n c r->zkg g m c q->n=m /\ r=q
 | 0,0,c,r,q,h,k=>by obtain⟨_,rfl⟩:=h;obtain⟨_,rfl⟩:=k;exact⟨rfl,rfl⟩
 | 0,m+1,c,r,q,h,k=>by
  obtain⟨h,rfl⟩:=h
  obtain⟨e,k,hne,_⟩:=k
  rw[h]at k;cases k
  exact absurd rfl hne
 | n+1,0,c,r,q,h,k=>by
  obtain⟨k,rfl⟩:=k
  obtain⟨e,h,hne,_⟩:=h
  rw[k]at h;cases h
  exact absurd rfl hne
 | n+1,m+1,c,r,q,h,k=>by
  obtain⟨e,h1,_,h⟩:=h
  obtain⟨f,k1,_,k⟩:=k
  rw[h1]at k1;cases k1
  obtain⟨e1,e2⟩:=zkg.det h k
  exact⟨by rw[e1],e2⟩
structure UF(g:Key->Option Key)(ks:Key->Prop)(E:Key->Key->Prop):Prop where
 dom:∀c,(∃d,g c=some d)↔ks c
 root:∀c,ks c->∃n r,zkg g n c r
 eqv:∀a b,g a=some b->Eqv E a b
 rel:∀a b,E a b->zuq g a b
def zud(g:Key->Option Key)(a b:Key):Key->Option Key:=λx=>if x=a then some b else g x
section
variable{g:Key->Option Key}{ks:Key->Prop}{E:Key->Key->Prop}
theorem zkg.isKey(u:UF g ks E){n:Nat}{c r:Key}(h:zkg g n c r):ks c:=by
 cases n with
 | zero=>exact(u.dom c).1 ⟨c,h.1⟩
 | succ n=>obtain⟨e,h,_⟩:=h;exact(u.dom c).1 ⟨e,h⟩
theorem zkg.eqv(u:UF g ks E):∀{n:Nat}{c r:Key},zkg g n c r->Eqv E c r
 | 0,c,r,h=>by obtain⟨_,rfl⟩:=h;exact .refl _
 | n+1,c,r,⟨e,h1,_,h⟩=> .trans (u.eqv _ _ h1) (zkg.eqv u h)
theorem zuq.refl(u:UF g ks E){a:Key}(h:ks a):zuq g a a:=by
 obtain⟨n,r,h⟩:=u.root a h;exact⟨r,n,n,h,h⟩
theorem zuq.symm{a b:Key}(h:zuq g a b):zuq g b a:=by
 obtain⟨r,n,m,h,k⟩:=h;exact⟨r,m,n,k,h⟩
theorem zuq.trans{a b c:Key}(h:zuq g a b)(k:zuq g b c):zuq g a c:=by
 obtain⟨r,n,m,h1,h2⟩:=h;obtain⟨q,i,j,k1,k2⟩:=k;obtain⟨_,rfl⟩:=h2.det k1;exact⟨r,n,j,h1,k2⟩
theorem UF.same(u:UF g ks E){a b:Key}:zuq g a b↔ks a /\ ks b /\ Eqv E a b:=by
 constructor
 ·rintro⟨r,n,m,h,k⟩
  exact⟨h.isKey u,k.isKey u,.trans (h.eqv u) (.symm (k.eqv u))⟩
 ·rintro⟨ha,hb,h⟩
  have key:(ks a↔ks b) /\ (ks a->zuq g a b):=by
   clear ha hb
   induction h with
   | rel h=>
    obtain⟨r,n,m,h1,h2⟩:=u.rel _ _ h;exact⟨⟨λ_=>h2.isKey u,λ_=>h1.isKey u⟩,λ_=>⟨r,n,m,h1,h2⟩⟩
   | refl a=>exact⟨Iff.rfl,λh=> .refl u h⟩
   | symm _ ih=>exact⟨ih.1.symm,λh=>(ih.2 (ih.1.2 h)).symm⟩
   | trans _ _ h1 h2=>exact⟨h1.1.trans h2.1,λh=>(h1.2 h).trans (h2.2 (h1.1.1 h))⟩
  exact key.2 ha
theorem zy9{a b ra rb:Key}(ha:g ra=some ra)(hb:g rb=some rb):∀{n:Nat}{c r:Key},zkg g n c r->r≠ra->zkg (zud g ra rb) n c r
 | 0,c,r,h,hr=>by
  obtain⟨h,rfl⟩:=h
  exact⟨by unfold zud;rw[if_neg hr];exact h,rfl⟩
 | n+1,c,r,⟨e,h1,h2,h⟩,hr=>by
  refine⟨e,?_,h2,zy9 (a:=a) (b:=b) ha hb h hr⟩
  unfold zud
  rw[if_neg]
  ·exact h1
  ·intro e2
   subst e2
   rw[ha]at h1;cases h1
   exact h2 rfl
theorem join_same{ra rb:Key}(ha:g ra=some ra)(hb:g rb=some rb)(hne:ra≠rb):∀{n:Nat}{c:Key},zkg g n c ra->zkg (zud g ra rb) (n+1) c rb
 | 0,c,h=>by
  obtain⟨h,rfl⟩:=h
  refine⟨rb,by unfold zud;rw[if_pos rfl],Ne.symm hne,?_⟩
  exact⟨by unfold zud;rw[if_neg (Ne.symm hne)];exact hb,rfl⟩
 | n+1,c,⟨e,h1,h2,h⟩=>by
  refine⟨e,?_,h2,join_same ha hb hne h⟩
  unfold zud
  rw[if_neg]
  ·exact h1
  ·intro e2
   subst e2
   rw[ha]at h1;cases h1
   exact h2 rfl
theorem Eqv.mono{E F:Key->Key->Prop}(h:∀a b,E a b->F a b){a b:Key}(e:Eqv E a b):Eqv F a b:=by
 induction e with
 | rel e=>exact .rel (h _ _ e)
 | refl=>exact .refl _
 | symm _ ih=>exact .symm ih
 | trans _ _ h1 h2=>exact .trans h1 h2
theorem UF.join(u:UF g ks E){a b ra rb:Key}{n m:Nat}(ha:zkg g n a ra)(hb:zkg g m b rb):UF (zud g ra rb) ks (λx y=>E x y \/ (x=a /\ y=b)):=by
 have ta:=ha.top;have tb:=hb.top;have mono:∀x y,E x y->(E x y \/ (x=a /\ y=b)):=λ_ _ h=> .inl h;have newE:Eqv (λx y=>E x y \/ (x=a /\ y=b)) ra rb:= .trans (.symm ((ha.eqv u).mono mono)) (.trans (.rel (.inr ⟨rfl,rfl⟩)) ((hb.eqv u).mono mono))
 have root':∀{k:Nat}{c r:Key},zkg g k c r->∃k',zkg (zud g ra rb) k' c (if r=ra then rb else r):=by
  intro k c r h;by_cases hr:r=ra
  ·subst hr
   rw[if_pos rfl];by_cases hne:r=rb
   ·subst hne
    have:zud g r r=g:=by
     funext x;unfold zud;by_cases hx:x=r
     ·subst hx;rw[if_pos rfl,ta]
     ·rw[if_neg hx]
    rw[this];exact⟨k,h⟩
   ·exact⟨k+1,join_same ta tb hne h⟩
  ·rw[if_neg hr]
   exact⟨k,zy9 (a:=a) (b:=b) ta tb h hr⟩
 refine⟨λc=>?_,λc hc=>?_,λx y h=>?_,λx y h=>?_⟩
 ·rw[<-u.dom c]
  unfold zud;by_cases hx:c=ra
  ·subst hx
   rw[if_pos rfl];exact⟨λ_=>⟨_,ta⟩,λ_=>⟨_,rfl⟩⟩
  ·rw[if_neg hx]
 ·obtain⟨k,r,h⟩:=u.root c hc
  obtain⟨k',h'⟩:=root' h;exact⟨k',_,h'⟩
 ·unfold zud at h
  by_cases hx:x=ra
  ·subst hx
   rw[if_pos rfl]at h;cases h;exact newE
  ·rw[if_neg hx]at h
   exact(u.eqv x y h).mono mono
 ·rcases h with h|⟨rfl,rfl⟩
  ·obtain⟨r,i,j,h1,h2⟩:=u.rel x y h
   obtain⟨_,h1'⟩:=root' h1;obtain⟨_,h2'⟩:=root' h2;exact⟨_,_,_,h1',h2'⟩
  ·obtain⟨_,h1'⟩:=root' ha
   obtain⟨_,h2'⟩:=root' hb;rw[if_pos rfl]at h1';have:(if rb=ra then rb else rb)=rb:=by split<;>rfl
   rw[this]at h2';exact⟨rb,_,_,h1',h2'⟩
end
variable{C:zh}{N:zN}
abbrev sV:Key->za:=λs=> .str s
abbrev upBlk(ps:zly Key Key)(c:Nat):Blk:=zih (zqh sV sV ps) c
structure UpAt(h:zb)(p:za)(m:Nat)(ps:zly Key Key)(c:Nat):Prop where
 ptr:A.ldv h p=some (.mp m)
 map:h m=some (upBlk ps c)
theorem UpAt.lkp{h:zb}{p:za}{m:Nat}{ps:zly Key Key}{c:Nat}(u:UpAt h p m ps c)(k:Key):A.lkp h (some .s) (some (.str [])) false (.mp m) (.str k)=some (.str ((zl1 ps k).getD [])):=lkp_blk (κ:=sV) (v:=sV) keyS u.map [] k false
theorem UpAt.lkp2{h:zb}{p:za}{m:Nat}{ps:zly Key Key}{c:Nat}(u:UpAt h p m ps c)(k:Key):A.lkp h (some .s) (some (.str [])) true (.mp m) (.str k)=some (.tup [.str ((zl1 ps k).getD []),.bool (zl1 ps k).isSome]):=lkp_blk (κ:=sV) (v:=sV) keyS u.map [] k true
theorem UpAt.mono{h h':zb}{p:za}{m:Nat}{ps:zly Key Key}{c:Nat}(u:UpAt h p m ps c)(hle:h.le h'):UpAt h' p m ps c:=⟨ldv_le hle u.ptr,hle _ _ u.map⟩
def zc6.Spec(C:zh)(N:zN):Prop:=∀(h:zb)(p:za)(m:Nat)(ps:zly Key Key)(c n:Nat)(a r:Key)(Q:zQ),UpAt h p m ps c->zkg (zl1 ps) n a r->Q (.str r) h->C (N 577) [.str a,p] h Q
theorem zc6.spec(i:zc6.Imp C N):zc6.Spec C N:=by
 intro h p m ps c n a r Q hu hr hq;apply i;refine zd.intro (λt vs hh=>∃x,vs=[.str x] /\ hh=h /\ zkg (zl1 ps) t x r) n ?_ ⟨a,rfl,rfl,hr⟩;rintro Y t vs hh ⟨x,rfl,rfl,hR⟩ hY;simp -dsimp only[zc6.l2,zc6.k1,B.zha,hu.ptr,B.ze,hu.lkp,V.bin_sneq];cases t with
 | zero=>
  obtain⟨e,rfl⟩:=hR;rw[e];simp -dsimp;exact zba hq
 | succ t=>
  obtain⟨e,he,hne,hR⟩:=hR;rw[he];simp -dsimp[hne,hu.ptr,hu.lkp,he];exact hY t _ _ (by omega) ⟨e,rfl,rfl,hR⟩
abbrev UpO(N:zN)(m:Nat)(p q:za)(ps:zly Key Key)(c:Nat):List Ob:=[.blk m (upBlk ps c),.box p [.mp m],.box q [.fn (N 577) [] [p]]]
theorem UpO.at{h0 h:zb}{m:Nat}{p q:za}{ps:zly Key Key}{c:Nat}{l:List Ob}(o:zcw h0 h (UpO N m p q ps c++l)):UpAt h p m ps c /\ A.ldv h q=some (.fn (N 577) [] [p]):=by
 obtain⟨_,rfl,b1⟩:=o.zts 1 rfl;obtain⟨_,rfl,b2⟩:=o.zts 2 rfl;exact⟨⟨by rw[zpg b1];rfl,o.at 0 rfl⟩,by rw[zpg b2];rfl⟩
structure UpIs(ps:zly Key Key)(c:Nat)(ks:Key->Prop)(E:Key->Key->Prop):Prop where
 uf:UF (zl1 ps) ks E
 zqi:zni ps c
 nodup:(zhe ps).Nodup
def zd8.Spec(C:zh)(N:zN):Prop:=∀(h0 h:zb)(m:Nat)(p q:za)(ps:zly Key Key)(c:Nat)(a b:Key)(ks:Key->Prop)(E:Key->Key->Prop)(Q:zQ),zcw h0 h (UpO N m p q ps c)->UpIs ps c ks E->ks a->(∀ps' c' h',zcw h0 h' (UpO N m p q ps' c')->UpIs ps' c' ks (λx y=>E x y \/ (x=a /\ y=b /\ ks b))->Q (.tup []) h')->C (N 576) [.str a,.str b,p,q] h Q
theorem UF.cong{g:Key->Option Key}{ks:Key->Prop}{E F:Key->Key->Prop}(u:UF g ks E)(h:∀x y,E x y↔F x y):UF g ks F:=by
 have:E=F:=by funext x y;exact propext (h x y)
 rw[<-this];exact u
theorem zd8.spec(i:zd8.Imp C N)(s1:zc6.Spec C N):zd8.Spec C N:=by
 intro h0 h m p q ps c a b ks E Q ho hu ha hq;apply i;obtain⟨ua,uq⟩:=UpO.at (l:=[]) (by rw[append_nil];exact ho);simp -dsimp only[zd8.cps,zd8.k1,B.zha,ua.ptr,uq,B.ze,ua.lkp2,V.zit,getElem?_cons_zero,getElem?_cons_succ];refine B.zm (λhb=>?_) (λhb=>?_)
 ·have kb:ks b:=(hu.uf.dom b).1 (Option.isSome_iff_exists.1 hb)
  obtain⟨n,ra,hra⟩:=hu.uf.root a ha;obtain⟨k,rb,hrb⟩:=hu.uf.root b kb;simp -dsimp only[B.zha,ua.ptr,uq,B.ze];rw[B.zou];refine s1 h p m ps c n a ra _ ua hra ?_;refine keepS2 ⟨_,ua.ptr⟩ ⟨_,uq⟩ ?_;rw[B.zou];refine s1 h p m ps c k b rb _ ua hrb ?_;refine keepS1 ⟨_,ua.ptr⟩ ?_;refine ho.mset (κ:=sV) (v:=sV) 0 rfl keyS ra rb λh' o _ _=>?_;refine zba (hq _ _ h' o ⟨?_,hu.zqi.put ra rb,zxq hu.nodup ra rb c⟩);have e:zl1 (zyf ps ra rb c)=zud (zl1 ps) ra rb:=by funext x;rw[zrt];rfl
  rw[e];exact(hu.uf.join hra hrb).cong λx y=>⟨λh=>h.imp id λe=>⟨e.1,e.2,kb⟩,λh=>h.imp id λe=>⟨e.1,e.2.1⟩⟩
 ·have kb:¬ ks b:=λkb=>by
   obtain⟨d,e⟩:=(hu.uf.dom b).2 kb;rw[e]at hb;cases hb
  exact zba (hq ps c h ho ⟨hu.uf.cong λx y=>⟨λh=> .inl h,λh=>h.elim id λe=>absurd e.2.2 kb⟩,hu.zqi,hu.nodup⟩)
variable{C:zh}{N:zN}
abbrev zyi(t:Itm):List Key:=t.zgc.map Part.Item++t.zep
def zvm(I:List Itm)(ks:Key->Prop)(j k:Nat)(x y:Key):Prop:=(∃t∈I.take j,t.Code=x /\ y∈zyi t /\ ks y) \/ ∃t,I[j]?=some t /\ t.Code=x /\ y∈(zyi t).take k /\ ks y
theorem doneE_zero{I:List Itm}{ks:Key->Prop}{x y:Key}:¬ zvm I ks 0 0 x y:=by
 rintro(⟨t,h,_⟩|⟨t,_,_,h,_⟩)
 ·simp at h
 ·simp at h
theorem zzh{I:List Itm}{ks:Key->Prop}{j k:Nat}{t:Itm}{n:Key}(ht:I[j]?=some t)(hn:(zyi t)[k]?=some n)(x y:Key):(zvm I ks j k x y \/ (x=t.Code /\ y=n /\ ks n))↔zvm I ks j (k+1) x y:=by
 unfold zvm;constructor
 ·rintro((h|⟨u,h1,h2,h3,h4⟩)|⟨h1,h2,h3⟩)
  ·exact .inl h
  ·exact .inr ⟨u,h1,h2,by
    rw[ht]at h1;cases h1;rw[take_succ hn];exact mem_append_left _ h3,h4⟩
  ·exact .inr ⟨t,ht,h1.symm,by rw[take_succ hn,h2];simp,by rw[h2];exact h3⟩
 ·rintro(h|⟨u,h1,h2,h3,h4⟩)
  ·exact .inl (.inl h)
  ·rw[ht]at h1;cases h1
   rw[take_succ hn]at h3;rcases mem_append.1 h3 with h3|h3
   ·exact .inl (.inr ⟨t,ht,h2,h3,h4⟩)
   ·have:=mem_singleton.1 h3
    exact .inr ⟨h2.symm,this,by rw[<-this];exact h4⟩
theorem doneE_next{I:List Itm}{ks:Key->Prop}{j:Nat}{t:Itm}(ht:I[j]?=some t)(x y:Key):zvm I ks j (zyi t).length x y↔zvm I ks (j+1) 0 x y:=by
 unfold zvm;rw[take_succ ht];constructor
 ·rintro(⟨u,h1,h2⟩|⟨u,h1,h2,h3,h4⟩)
  ·exact .inl ⟨u,mem_append_left _ h1,h2⟩
  ·rw[ht]at h1;cases h1
   rw[take_length]at h3;exact .inl ⟨t,by simp,h2,h3,h4⟩
 ·rintro(⟨u,h1,h2,h3,h4⟩|⟨u,h1,h2,h3,h4⟩)
  ·rcases mem_append.1 h1 with h1|h1
   ·exact .inl ⟨u,h1,h2,h3,h4⟩
   ·rw[mem_singleton.1 h1]at h2 h3
    exact .inr ⟨t,ht,h2,by rw[take_length];exact h3,h4⟩
  ·simp at h3
theorem doneE_end{I:List Itm}(x y:Key):zvm I (λc=>c∈zci I) I.length 0 x y↔zsp I x y:=by
 unfold zvm zsp;rw[take_length];constructor
 ·rintro(⟨t,h1,h2,h3,h4⟩|⟨t,h1,_⟩)
  ·exact⟨t,h1,h2,h3,h4⟩
  ·simp at h1
 ·rintro⟨t,h1,h2,h3,h4⟩
  exact .inl ⟨t,h1,h2,h3,h4⟩
def zz.Spec(C:zh)(N:zN):Prop:=∀(x:za)(I:List Itm)(h:zb)(Q:zQ),Dl zd3 h x I->I.length <= 100000000->(∀m p ps c h',zcw h h' [.blk m (upBlk ps c),.box p [.mp m]]->UpIs ps c (λc=>c∈zci I) (zsp I)->Q (.tup [.mp m,.fn (N 577) [] [p]]) h')->C (N 568) [x] h Q
theorem zz.spec(i:zz.Imp C N)(s2:zd8.Spec C N):zz.Spec C N:=by
 intro x I h Q hx hlen hq;apply i;have lx:=hx.zbi;simp -dsimp only[zz.cps,zz.k13];refine(zcw.start h).zsw sV sV λm h1 hm o1 _=>?_;intro i4 f4;have o2:=o1.zvy f4 [.nilm];generalize upd h1 i4 (zgl [.nilm])=h2 at *;refine o2.zyp 1 (off:=0) rfl rfl (by simp) λh3 o3 _=>?_;have o3:zcw h h3 [.blk m (upBlk [] 0),.box (.ptr i4 0 0) [.mp m]]:=o3;simp -dsimp only[lx,B.ze];refine zd.intro (λn vs hh=>∃(j c:Nat)(ps:zly Key Key),j+n=I.length /\ vs=[.int .i64 (j:Int)] /\ zcw h hh [.blk m (upBlk ps c),.box (.ptr i4 0 0) [.mp m]] /\ zni ps c /\ (zhe ps).Nodup /\ ∀k,zl1 ps k=if k∈(I.take j).map Itm.Code then some k else none) I.length ?_ ⟨0,0,[],by simp,rfl,o3,zni.nil 0,.nil,by simp[zl1]⟩;rintro Y n vs hh ⟨j,c,ps,hj,rfl,o,hb,hnd,hg⟩ hY;simp -dsimp only[zz.l12,zz.k11,V.zeh,B.ze];have hxx:=hx.mono o.le;refine B.zm (λhc=>?_) (λhc=>?_)
 ·rw[decide_eq_true_eq]at hc
  have hc:j<I.length:=by omega
  obtain⟨t,ht⟩:=zgf hc;obtain⟨a,ea⟩:=hxx.get ht;have e1:V.zb3 4 x (.int .i64 (j:Int))=some (elp 4 x j 0):=ea.idx;have e2:A.zo3 hh (elp 4 x j 0) 4=some (.agg [.str t.Code,.int .i64 t.Life,a.1,a.2]):=ea.ldn;have ca1:a.1.zbm=true:=ea.at_.1.elim λ_ r=>r.zbm;have ca2:a.2.zbm=true:=ea.at_.2.1.elim λ_ r=>r.zbm;obtain⟨_,e,hbx⟩:=o.zts 1 rfl;cases e;simp -dsimp[e1,e2,ca1,ca2,zpg hbx,-V.zex];refine o.mset (κ:=sV) (v:=sV) 0 rfl keyS t.Code t.Code λh' o' _ _=>?_;simp -dsimp only[zg8 (show j<4611686018427387904 by omega),B.ze];refine hY (I.length-(j+1)) _ _ (by omega) ⟨j+1,_,_,by omega,rfl,o',hb.put t.Code t.Code,zxq hnd t.Code t.Code c,λk=>?_⟩;rw[zrt,hg,take_succ ht];simp only[map_append,map_cons,map_nil,mem_append,mem_singleton];by_cases hk:k=t.Code
  ·subst hk
   rw[if_pos rfl,if_pos (.inr rfl)]
  ·rw[if_neg hk]
   by_cases hm:k∈(I.take j).map Itm.Code
   ·rw[if_pos hm,if_pos (.inl hm)]
   ·rw[if_neg hm,if_neg (by rintro(e|e);exact hm e;exact hk e)]
 ·rw[decide_eq_false_iff_not]at hc
  have:j=I.length:=by omega
  subst this;rw[take_length]at hg;have hks:∀k,(k∈I.map Itm.Code)↔k∈zci I:=λk=>by rw[zla,mem_map]
  have hg:∀k,zl1 ps k=if k∈zci I then some k else none:=λk=>by
   rw[hg];by_cases hm:k∈zci I
   ·rw[if_pos hm,if_pos ((hks k).2 hm)]
   ·rw[if_neg hm,if_neg λe=>hm ((hks k).1 e)]
  have u0:UpIs ps c (λk=>k∈zci I) (zvm I (λk=>k∈zci I) 0 0):=by
   refine⟨⟨λk=>?_,λk hk=>⟨0,k,by rw[hg,if_pos hk],rfl⟩,λa b e=>?_,λa b e=>(doneE_zero e).elim⟩,hb,hnd⟩
   ·rw[hg]
    constructor
    ·rintro⟨d,e⟩
     by_cases hm:k∈zci I
     ·exact hm
     ·rw[if_neg hm]at e;cases e
    ·intro hm
     exact⟨k,by rw[if_pos hm]⟩
   ·rw[hg]at e
    by_cases hm:a∈zci I
    ·rw[if_pos hm]at e;cases e;exact .refl _
    ·rw[if_neg hm]at e;cases e
  simp -dsimp only[zz.k10];intro i7 f7;have o4:=o.zvy f7 [.nilf];generalize upd hh i7 (zgl [.nilf])=h4 at *;refine o4.zyp 2 (off:=0) rfl rfl (by simp) λh5 o5 _=>?_;have o5:zcw h h5 (UpO N m (.ptr i4 0 0) (.ptr i7 0 0) ps c):=o5;simp -dsimp only[lx,B.ze];refine zd.intro (λn vs hh=>∃(j c:Nat)(ps:zly Key Key),j+n=I.length /\ vs=[.int .i64 (j:Int)] /\ zcw h hh (UpO N m (.ptr i4 0 0) (.ptr i7 0 0) ps c) /\ UpIs ps c (λk=>k∈zci I) (zvm I (λk=>k∈zci I) j 0)) I.length ?_ ⟨0,c,ps,by simp,rfl,o5,u0⟩;rintro Y n vs h2 ⟨j,c,ps,hj,rfl,o,u⟩ hY;simp -dsimp only[zz.l9,zz.k8,V.zeh,B.ze];have hxx:=hx.mono o.le;refine B.zm (λhc=>?_) (λhc=>?_)
  ·rw[decide_eq_true_eq]at hc
   have hc:j<I.length:=by omega
   obtain⟨t,ht⟩:=zgf hc;obtain⟨P0,R0,eP0,sx,at0⟩:=id hx;obtain⟨a,hq0⟩:∃a,P0[j]?=some (t,a):=by
    rw[<-eP0,getElem?_map]at ht;obtain⟨q,h1,h2⟩:=Option.map_eq_some_iff.1 ht;exact⟨q.2,by rw[h1,<-h2]⟩
   have ea:∀{h':zb},h.le h'->DEl zd3 h' x j t a:=λhle=>slX_el (sx.mono hle) (λp hp=>zd3.mono hle (at0 p hp)) hq0;have e1:V.zb3 4 x (.int .i64 (j:Int))=some (elp 4 x j 0):=(ea o.le).idx;have e2:A.zo3 h2 (elp 4 x j 0) 4=some (.agg [.str t.Code,.int .i64 t.Life,a.1,a.2]):=(ea o.le).ldn;obtain⟨⟨Rp,hp⟩,⟨Ro,ho⟩,hok⟩:=at0 _ (mem_of_getElem? hq0);have hp:SlX h 2 a.1 (t.zgc.map Part.cs) Rp:=hp;have ho:SlX h 1 a.2 (t.zep.map tc) Ro:=ho;have ca1:a.1.zbm=true:=hp.zbm;have ca2:a.2.zbm=true:=ho.zbm;have lp:=hp.zbi;have lo:=ho.zbi;rw[length_map]at lp lo;obtain⟨ok1,ok2⟩:t.zgc.length <= few /\ t.zep.length <= few:=hok;unfold few at ok1 ok2;have kt:t.Code∈zci I:=zla.2 ⟨t,mem_of_getElem? ht,rfl⟩;simp -dsimp only[zz.k7,e1,e2,B.ze,B.zn5];have e3:V.zqf 0 4 (.agg [.str t.Code,.int .i64 t.Life,a.1,a.2]) (.agg [.str [],.int .i64 0,.zbj,.zbj])=some (.agg [.str t.Code,.int .i64 t.Life,a.1,a.2]):=rfl;simp -dsimp only[e3,B.ze,zz.k6,B.zjr,V.zey,getElem?_cons_zero,getElem?_cons_succ,lp];refine zd.intro (λn vs hh=>∃(k c:Nat)(ps:zly Key Key),k+n=t.zgc.length /\ vs=[.int .i64 (k:Int)] /\ zcw h hh (UpO N m (.ptr i4 0 0) (.ptr i7 0 0) ps c) /\ UpIs ps c (λk=>k∈zci I) (zvm I (λk=>k∈zci I) j k)) t.zgc.length ?_ ⟨0,c,ps,by simp,rfl,o,u⟩;rintro Y3 n3 vs3 h3 ⟨k,c,ps,hk,rfl,o,u⟩ hY3;simp -dsimp only[zz.l5,zz.k4,V.zeh,B.ze];refine B.zm (λhd=>?_) (λhd=>?_)
   ·rw[decide_eq_true_eq]at hd
    obtain⟨w,hw⟩:=zgf (L:=t.zgc) (k:=k) (by omega);have f1:V.zb3 2 a.1 (.int .i64 (k:Int))=some (elp 2 a.1 k 0):=hp.zjp (by rw[length_map];omega);have f2:A.zo3 h3 (elp 2 a.1 k 0) 2=some (.agg w.cs):=(hp.mono o.le).elem (by rw[getElem?_map,hw];rfl);simp -dsimp[f1,f2,-V.zex];refine s2 h h3 m _ _ ps c t.Code w.Item _ _ _ o u kt λps' c' h4 o4 u4=>?_;simp -dsimp only[zg8 (show k<4611686018427387904 by omega),B.ze];refine hY3 (t.zgc.length-(k+1)) _ _ (by omega) ⟨k+1,c',ps',by omega,rfl,o4,u4.uf.cong λx y=>?_,u4.zqi,u4.nodup⟩;have hn:(zyi t)[k]?=some w.Item:=by
     unfold zyi;rw[getElem?_append_left (by rw[length_map];omega),getElem?_map,hw];rfl
    exact zzh ht hn x y
   ·rw[decide_eq_false_iff_not]at hd
    have:k=t.zgc.length:=by omega
    subst this;simp -dsimp only[zz.k3,B.zjr,V.zey,getElem?_cons_zero,getElem?_cons_succ,B.ze,lo];refine zd.intro (λn vs hh=>∃(k c:Nat)(ps:zly Key Key),k+n=t.zep.length /\ vs=[.int .i64 (k:Int)] /\ zcw h hh (UpO N m (.ptr i4 0 0) (.ptr i7 0 0) ps c) /\ UpIs ps c (λk=>k∈zci I) (zvm I (λk=>k∈zci I) j (t.zgc.length+k))) t.zep.length ?_ ⟨0,c,ps,by simp,rfl,o,u⟩;rintro Y2 n2 vs2 h5 ⟨k,c,ps,hk2,rfl,o,u⟩ hY2;simp -dsimp only[zz.l2,zz.k1,V.zeh,B.ze];refine B.zm (λhd=>?_) (λhd=>?_)
    ·rw[decide_eq_true_eq]at hd
     obtain⟨w,hw⟩:=zgf (L:=t.zep) (k:=k) (by omega);have f1:V.zb3 1 a.2 (.int .i64 (k:Int))=some (elp 1 a.2 k 0):=ho.zjp (by rw[length_map];omega);have f2:A.ldv h5 (elp 1 a.2 k 0)=some (.str w):=(ho.mono o.le).cell (by rw[getElem?_map,hw];rfl);simp -dsimp[f1,f2,-V.zex];refine s2 h h5 m _ _ ps c t.Code w _ _ _ o u kt λps' c' h6 o6 u6=>?_;simp -dsimp only[zg8 (show k<4611686018427387904 by omega),B.ze];refine hY2 (t.zep.length-(k+1)) _ _ (by omega) ⟨k+1,c',ps',by omega,rfl,o6,u6.uf.cong λx y=>?_,u6.zqi,u6.nodup⟩;have hn:(zyi t)[t.zgc.length+k]?=some w:=by
      unfold zyi;rw[getElem?_append_right (by rw[length_map];omega),length_map,show t.zgc.length+k-t.zgc.length=k by omega];exact hw
     exact zzh ht hn x y
    ·rw[decide_eq_false_iff_not]at hd
     have:k=t.zep.length:=by omega
     subst this;simp -dsimp only[zg8 (show j<4611686018427387904 by omega),B.ze];refine hY (I.length-(j+1)) _ _ (by omega) ⟨j+1,c,ps,by omega,rfl,o,u.uf.cong λx y=>?_,u.zqi,u.nodup⟩;have hl:t.zgc.length+t.zep.length=(zyi t).length:=by simp[zyi]
     rw[hl];exact doneE_next ht x y
  ·rw[decide_eq_false_iff_not]at hc
   have:j=I.length:=by omega
   subst this;obtain⟨ua,uq⟩:=UpO.at (l:=[]) (by rw[append_nil];exact o);simp -dsimp only[B.zha,ua.ptr,uq,B.ze];refine zba (hq m (.ptr i4 0 0) ps c h2 (o.sub ?_) ⟨u.uf.cong λx y=>doneE_end x y,u.zqi,u.nodup⟩);exact List.Sublist.cons_cons _ (List.Sublist.cons_cons _ (nil_sublist _))
theorem zoo{α:Type}[DecidableEq α]{x:α}:∀{L:List α},x∈zg7 L↔x∈L
 | []=>Iff.rfl
 | [a]=>Iff.rfl
 | a::b::r=>by
  unfold zg7
  split
  ·rename_i e
   subst e
   rw[zoo]
   simp
  ·rw[mem_cons,zoo,mem_cons,mem_cons,mem_cons]
theorem zqb:∀{L:List Key},SortedB L->zkr (zg7 L)
 | [],_=> .nil
 | [a],_=>pairwise_singleton _ _
 | a::b::r,h=>by
  obtain⟨h1,h2⟩:=pairwise_cons.1 h
  unfold zg7
  split
  ·exact zqb h2
  ·rename_i hne
   refine pairwise_cons.2 ⟨λy hy=>?_,zqb h2⟩
   have hy:=zoo.1 hy
   have ab:zij a b=true:=zop (h1 b (by simp)) (Ne.symm hne)
   rcases mem_cons.1 hy with rfl|hy
   ·exact ab
   ·have hby:=(pairwise_cons.1 h2).1 y hy
    cases e:zij a y with
    | true=>rfl
    | false=>
     have:=h1 y (by simp[hy])
     have:a=y:=zp3 e this
     subst this
     rw[ab]at hby;cases hby
def zgy(I:List Itm)(l:List Key):List Key:=l.foldl (λa c=>zj7 a (if c∈zci I then zd2 I c else [c])) []
theorem zww{I:List Itm}:∀{l a:List Key},zkr a->zkr (l.foldl (λa c=>zj7 a (if c∈zci I then zd2 I c else [c])) a) /\ ∀y,y∈l.foldl (λa c=>zj7 a (if c∈zci I then zd2 I c else [c])) a↔y∈a \/ ∃c∈l,y∈if c∈zci I then zd2 I c else [c]
 | [],a,h=>⟨h,λy=>by simp⟩
 | c::l,a,h=>by
  obtain⟨h1,h2⟩:=zww (I:=I) (l:=l) (zmd (m:=if c∈zci I then zd2 I c else [c]) h)
  refine⟨h1,λy=>?_⟩
  rw[foldl_cons,h2,zjd]
  constructor
  ·rintro((h|h)|⟨d,h3,h4⟩)
   ·exact .inl h
   ·exact .inr ⟨c,by simp,h⟩
   ·exact .inr ⟨d,by simp[h3],h4⟩
  ·rintro(h|⟨d,h3,h4⟩)
   ·exact .inl (.inl h)
   ·rcases mem_cons.1 h3 with rfl|h3
    ·exact .inl (.inr h4)
    ·exact .inr ⟨d,h3,h4⟩
theorem zl8(I:List Itm)(l:List Key):zkr (zgy I l):=(zww (I:=I) (l:=l) .nil).1
theorem zxu{I:List Itm}{l:List Key}{y:Key}:y∈zgy I l↔∃c∈l,(c∈zci I /\ Eqv (zsp I) c y) \/ (c∉zci I /\ y=c):=by
 have:=(zww (I:=I) (l:=l) .nil).2 y;unfold zgy;rw[this];simp only[not_mem_nil,false_or];constructor
 ·rintro⟨c,h1,h2⟩
  refine⟨c,h1,?_⟩;by_cases hc:c∈zci I
  ·rw[if_pos hc]at h2
   exact .inl ⟨hc,((zfw hc).2 y).1 h2⟩
  ·rw[if_neg hc]at h2
   exact .inr ⟨hc,mem_singleton.1 h2⟩
 ·rintro⟨c,h1,h2⟩
  refine⟨c,h1,?_⟩;rcases h2 with⟨hc,h⟩|⟨hc,rfl⟩
  ·rw[if_pos hc];exact((zfw hc).2 y).2 h
  ·rw[if_neg hc];simp
theorem Eqv.zrc{I:List Itm}{a b:Key}(h:Eqv (zsp I) a b)(ha:a∈zci I):b∈zci I:=by
 have:a∈zci I↔b∈zci I:=by
  clear ha
  induction h with
  | rel h=>
   obtain⟨t,ht,e,_,hk⟩:=h;exact⟨λ_=>hk,λ_=>zla.2 ⟨t,ht,e⟩⟩
  | refl=>exact Iff.rfl
  | symm _ ih=>exact ih.symm
  | trans _ _ h1 h2=>exact h1.trans h2
 exact this.1 ha
section
variable{h0 h:zb}{l:List Ob}{K T:Type}{κ:K->za}{v:T->za}{ps:zly K T}{m c:Nat}{Q:zQ}
theorem zcw.zu5{J:zly K T->List Ob->List za->Prop}{vs0:List za}{Lp:za->zG}{REST:za->List za->za->zb->(zL)->Prop}(ho:zcw h0 h l)(hbm:h0 m=some (zih (zqh κ v ps) c))(hb:zni ps c)(hJ:J [] l vs0)
  (heq:∀it vs hh Y D l,J D l vs->B.zh3 hh it (λv h2=>REST it vs v h2 Y)->Lp it vs hh Y)
  (hdone:∀it hh D l b Y vs,J D l vs->D.Perm ps->zcw h0 hh (l++[.blk it b])->REST (.ptr it 0 0) vs (.tup [.bool false]) hh Y)
  (hstep:∀it hh D l b Y vs,∀p∈ps,J D l vs->(∀q∈D,q∈ps)->p∉D->D.length<ps.length->zcw h0 hh (l++[.blk it b])->A.zkf hh (.ptr it 0 0)=some (.tup [κ p.1,v p.2.1]) ->
   (∀h' l' vs',J (D++[p]) l' vs'->zcw h0 h' (l'++[.blk it b])->Y vs' h')->REST (.ptr it 0 0) vs (.tup [.bool true,κ p.1,v p.2.1]) hh Y):
  B.rangeMap h (.mp m) λv h=>zd (Lp v) vs0 h:=by
 show A.rangeMap h (.mp m) _;simp only[A.rangeMap,zt8 (ho.le _ _ hbm)];intro it hit;have ho:zcw h0 (upd h it (zke (.mapIter (some m) c [] c))) (l++[.blk it (zjk m c (([]:zly K T).map (·.2.2)) c)]):=ho.newBlk (b:=zjk m c [] c) hit rfl;refine zd.intro (λt vs hh=>∃(D:zly K T)(l':List Ob),D.length+t=ps.length /\ J D l' vs /\ (∀q∈D,q∈ps) /\ (D.map (·.2.2)).Nodup /\ zcw h0 hh (l'++[.blk it (zjk m c (D.map (·.2.2)) c)])) ps.length ?_ ⟨[],l,by simp,hJ,by simp,List.Pairwise.nil,ho⟩;rintro Y t vs hh ⟨D,l',ht,hJ',hD,hnd,o⟩ hY;refine heq _ _ _ _ _ _ hJ' ?_;refine o.nextMapB l'.length (seen:=D.map (·.2.2)) (since:=c) (last:=c) (o.le _ _ hbm) (by simp) hb (Nat.le_refl _) (Nat.le_refl _) (λhall=>?_) λp hp hns h' o' hk he=>?_
 ·exact hdone it hh D l' _ Y vs hJ' (hb.all hD hnd hall) o
 ·have o'':zcw h0 h' (l'++[.blk it (zjk m c ((D++[p]).map (·.2.2)) c)]):=by
   have:=o';rw[set_append_right _ _ (Nat.le_refl _),Nat.sub_self]at this;simpa using this
  have hpD:p∉D:=λhm=>hns (mem_map.2 ⟨p,hm,rfl⟩);have nd2:((D++[p]).map (·.2.2)).Nodup:=by
   rw[map_append,nodup_append];exact⟨hnd,by simp,λx hx y hy e=>hns (by rw[map_cons,map_nil,mem_singleton]at hy;rw[<-hy,<-e];exact hx)⟩
  have sub:∀q∈D++[p],q∈ps:=λq hq=>by
   rcases mem_append.1 hq with h|h
   ·exact hD q h
   ·rw[mem_singleton.1 h];exact hp
  have hl:(D++[p]).length <= ps.length:=List.Nodup.length_le_of_subset (List.Pairwise.of_map (S:=(· ≠ ·)) (λp:K×T×Nat=>p.2.2) (λa b h e=>h (by rw[e])) nd2) sub;rw[length_append]at hl;have hl:D.length+1 <= ps.length:=hl;exact hstep it h' D l' _ Y vs p hp hJ' hD hpD hl o'' he λh2 l2 vs2 hJ2 o2=>hY (t-1) _ _ (by omega) ⟨D++[p],l2,by rw[length_append,length_singleton];omega,hJ2,sub,nd2,o2⟩
end
variable{C:zh}{N:zN}
def zbv.Spec(C:zh)(N:zN):Prop:=∀(x:za)(L:List Key)(R:List (List za))(h:zb)(Q:zQ),SlX h 1 x (L.map tc) R->L.length <= 100000000->(∀x' h',zcw h h' [.sl 1 x' (L.map tc) []]->Q x' h')->C (N 567) [x] h Q
theorem zbv.spec(i:zbv.Imp C N):zbv.Spec C N:=λx L R h Q hx hlen hq=>i x h Q (zzj seqT hx hlen λx' h' ho=>zba (hq x' h' ho))
theorem zw4{h0 h:zb}{x:za}{L M:List Key}{R:List (List za)}{K:zQ}(s1:zb7.Spec C N)(s2:zbx.Spec C N)(s3:zbv.Spec C N)(ho:zcw h0 h [.sl 1 x (L.map tc) R])(hl:L.length <= 100000000)(hM:zkr M)(hm:∀y,y∈L↔y∈M)
  (hK:∀x' h',zcw h0 h' [.sl 1 x' (M.map tc) []]->K x' h'):B.call C (N 364) [x] h λ_ h=>B.call C (N 365) [x] h λv h=>B.call C (N 567) [v] h λw h=>K w h:=by
 refine s1 h0 h x L R _ ho hl λh1 L1 p1 r1 o1=>?_;refine s2 h0 h1 x L1 R _ o1 (by rw[p1.length_eq];exact hl) λy h2 R2 o2=>?_;have e:zg7 L1=M:=zq2 (zqb r1) hM λy=>by rw[zoo,p1.mem_iff,hm]
 rw[e]at o2;have hML:M.length <= 100000000:=by
  have:=zv6 L1;rw[e,p1.length_eq]at this;omega
 refine s3 y M R2 h2 _ (o2.zgz 0 rfl) hML λz h3 o3=>?_;exact hK z h3 (o3.back o2.le)
def zdo.Spec(C:zh)(N:zN):Prop:=∀(x y:za)(I:List Itm)(L:List Key)(R:List (List za))(h:zb)(Q:zQ),Dl zd3 h x I->I.length <= 1000000->SlX h 1 y (L.map tc) R->L.length <= 1000000->(∀x' h',zcw h h' [.sl 1 x' ((zgy I L).map tc) []]->Q x' h')->C (N 553) [x,y] h Q
abbrev iV:Int->za:=λn=> .int .i64 n
theorem zdo.spec(i:zdo.Imp C N)(s0:zz.Spec C N)(s1:zc6.Spec C N)(s2:zb7.Spec C N)(s3:zbx.Spec C N)(s4:zbv.Spec C N):zdo.Spec C N:=by
 intro x y I L R h Q hx hI hy hL hq;apply i;simp -dsimp only[zdo.cps,zdo.k5];refine s0 x I h _ hx (by omega) λm p ps c h1 o1 hu=>?_;obtain⟨pid,e,bp⟩:=o1.zts 1 rfl;subst e;have ua:UpAt h1 (.ptr pid 0 0) m ps c:=⟨by rw[zpg bp];rfl,o1.at 0 rfl⟩;simp -dsimp only[V.zit,getElem?_cons_zero,getElem?_cons_succ,B.ze];refine(zcw.start h1).zsw sV iV λw h2 hw o2 _=>?_;have hyy:=hy.mono o1.le;have ly:=hyy.zbi;rw[length_map]at ly;have ly:=(hy.zbi);rw[length_map]at ly;simp -dsimp only[ly,B.ze];have o3:zcw h1 h2 [.blk w (zih (zqh sV iV []) 0),.sl 1 .zbj [] []]:=o2.zbj 1;refine zd.intro (λn vs hh=>∃(j d:Nat)(qs:zly Key Int)(out:za)(O:List Key),j+n=L.length /\ vs=[out,.int .i64 (j:Int)] /\ zcw h1 hh [.blk w (zih (zqh sV iV qs) d),.sl 1 out (O.map tc) []] /\ O.length <= j /\ (∀k,k∈O↔k∈L.take j /\ k∉zci I) /\
   (∀k,0 <= (zl1 qs k).getD 0 /\ (zl1 qs k).getD 0 <= j /\ (0<(zl1 qs k).getD 0↔∃a∈L.take j,∃n,zkg (zl1 ps) n a k))) L.length ?_ ⟨0,0,[],.zbj,[],by simp,rfl,o3,by simp,by simp,by simp[zl1]⟩
 rintro Y n vs hh ⟨j,d,qs,out,O,hj,rfl,o,hO,hmem,hw⟩ hY;simp -dsimp only[zdo.l4,zdo.k3,V.zeh,B.ze];refine B.zm (λhc=>?_) (λhc=>?_)
 ·rw[decide_eq_true_eq]at hc
  obtain⟨a,ha⟩:=zgf (L:=L) (k:=j) (by omega);have f1:V.zb3 1 y (.int .i64 (j:Int))=some (elp 1 y j 0):=hy.zjp (by rw[length_map];omega);have f2:A.ldv hh (elp 1 y j 0)=some (.str a):=(hyy.mono o.le).cell (by rw[getElem?_map,ha];rfl);have uh:=ua.mono o.le;simp -dsimp only[f1,f2,B.zha,B.ze,uh.lkp2,V.zit,getElem?_cons_zero,getElem?_cons_succ];refine B.zm (λhb=>?_) (λhb=>?_)
  ·have ka:a∈zci I:=(hu.uf.dom a).1 (Option.isSome_iff_exists.1 hb)
   obtain⟨t,r,hr⟩:=hu.uf.root a ka;rw[B.zou];refine s1 hh _ m ps c t a r _ uh hr ?_;have g1:A.lkp hh (some .s) (some (.int .i64 0)) false (.mp w) (.str r)=some (.int .i64 ((zl1 qs r).getD 0)):=o.lkp (κ:=sV) (v:=iV) 0 rfl keyS 0 r;obtain⟨w1,w2,w3⟩:=hw r;have g2:V.bin .add (.int .i64 ((zl1 qs r).getD 0)) (.int .i64 1)=some (.int .i64 ((zl1 qs r).getD 0+1)):=by
    rw[V.zex,wrap_i64 (by omega) (by omega)]
   simp -dsimp only[g1,g2,B.ze];refine o.mset (κ:=sV) (v:=iV) 0 rfl keyS r ((zl1 qs r).getD 0+1) λh' o' _ _=>?_;simp -dsimp only[zg8 (show j<4611686018427387904 by omega),B.ze];refine hY (L.length-(j+1)) _ _ (by omega) ⟨j+1,_,_,out,O,by omega,rfl,o',by omega,λk=>?_,λk=>?_⟩
   ·rw[hmem,take_succ ha]
    constructor
    ·rintro⟨h1,h2⟩
     exact⟨mem_append_left _ h1,h2⟩
    ·rintro⟨h1,h2⟩
     rcases mem_append.1 h1 with h1|h1
     ·exact⟨h1,h2⟩
     ·rw[mem_singleton.1 h1]at h2;exact absurd ka h2
   ·obtain⟨k1,k2,k3⟩:=hw k
    rw[zrt,take_succ ha];by_cases hk:k=r
    ·subst hk
     rw[if_pos rfl];refine⟨by simp;omega,by simp;omega,⟨λ_=>⟨a,by simp,t,hr⟩,λ_=>by simp;omega⟩⟩
    ·rw[if_neg hk]
     refine⟨k1,by omega,k3.trans ⟨λ⟨b,h1,h2⟩=>⟨b,mem_append_left _ h1,h2⟩,λ⟨b,h1,t',h2⟩=>?_⟩⟩;rcases mem_append.1 h1 with h1|h1
     ·exact⟨b,h1,t',h2⟩
     ·rw[mem_singleton.1 h1]at h2
      exact absurd (h2.det hr).2 hk
  ·have ka:a∉zci I:=λka=>by
    obtain⟨d,e⟩:=(hu.uf.dom a).2 ka;rw[e]at hb;cases hb
   have hf:zed [(0,none,.str a)] (zfs 1 [.str []])=some [.str a]:=rfl;rw[hf];refine o.push 1 rfl (cs:=[.str a]) rfl (by omega) (by simp;omega) (by simp[maxLen];omega) λout' h' o' _=>?_;simp -dsimp only[zg8 (show j<4611686018427387904 by omega),B.ze];refine hY (L.length-(j+1)) _ _ (by omega) ⟨j+1,d,qs,out',O++[a],by omega,rfl,by rw[map_append];exact o',by simp;omega,λk=>?_,λk=>?_⟩
   ·rw[mem_append,hmem,take_succ ha,mem_append,mem_singleton]
    constructor
    ·rintro(⟨h1,h2⟩|rfl)
     ·exact⟨.inl h1,h2⟩
     ·exact⟨.inr rfl,ka⟩
    ·rintro⟨h1|h1,h2⟩
     ·exact .inl ⟨h1,h2⟩
     ·exact .inr h1
   ·obtain⟨k1,k2,k3⟩:=hw k
    refine⟨k1,by omega,k3.trans ?_⟩;rw[take_succ ha];constructor
    ·rintro⟨b,h1,h2⟩
     exact⟨b,mem_append_left _ h1,h2⟩
    ·rintro⟨b,h1,t',h2⟩
     rcases mem_append.1 h1 with h1|h1
     ·exact⟨b,h1,t',h2⟩
     ·rw[mem_singleton.1 h1]at h2
      exact absurd (h2.isKey hu.uf) ka
 ·rw[decide_eq_false_iff_not]at hc
  have:j=L.length:=by omega
  subst this;rw[take_length]at hmem hw;have isW:∀{a r:Key}{n:Nat},zkg (zl1 ps) n a r->(0<(zl1 qs r).getD 0↔∃b∈L,b∈zci I /\ Eqv (zsp I) b a):=λ{a r n} hr=>by
   rw[(hw r).2.2];constructor
   ·rintro⟨b,hb,k,hk⟩
    obtain⟨h1,_,h3⟩:=hu.uf.same.1 (⟨r,k,n,hk,hr⟩:zuq (zl1 ps) b a);exact⟨b,hb,h1,h3⟩
   ·rintro⟨b,hb,h1,h2⟩
    obtain⟨q,k,j,h3,h4⟩:=hu.uf.same.2 ⟨h1,hr.isKey hu.uf,h2⟩;obtain⟨_,rfl⟩:=h4.det hr;exact⟨b,hb,k,h3⟩
  have hps:ps.length <= 1000000:=by
   have e1:ps.length=(zhe ps).length:=by simp[zhe]
   have e2:(zhe ps).length <= (I.map Itm.Code).length:=hu.nodup.length_le_of_subset λk hk=>by
    have:k∈zci I:=(hu.uf.dom k).1 (Option.isSome_iff_exists.1 (by
     cases e:zl1 ps k with
     | some _=>rfl
     | none=>exact absurd hk (zuh.1 e)))
    obtain⟨t,h1,h2⟩:=zla.1 this;exact mem_map.2 ⟨t,h1,h2⟩
   rw[length_map]at e2;omega
  refine zcw.zu5 (κ:=sV) (v:=sV) (ps:=ps) (c:=c) (J:=λD l vs=>∃(out':za)(O':List Key),vs=[out'] /\ l=[.blk w (zih (zqh sV iV qs) d),.sl 1 out' (O'.map tc) []] /\ O'.length <= L.length+D.length /\ ∀k,k∈O'↔k∈O \/ (k∈D.map (·.1) /\ ∃b∈L,b∈zci I /\ Eqv (zsp I) b k))
   (REST:=λit vs v h Y=>match vs with
    | [v8]=>B.pv (V.ext 0 v) λv47=>B.cond v47
     (B.pv (A.zkf h it) λv48=>B.pv (V.ext 0 v48) λv49=>B.zi0 h C (.fn (N 577) [] [.ptr pid 0 0]) [v49] λv53 h=>
      B.pv (A.lkp h (some .s) (some (.int .i64 0)) false (.mp w) v53) λv54=>B.pv (V.bin .gtr v54 (.int .i64 0)) λv55=>B.cond v55
      (B.zg1 h (zed [(0,none,v49)] (zfs 1 [.str []])) λi58 h=>B.zif h 1 16 v8 (.sl i58 0 0 1 1 1) λv59 h=>Y [v59] h) (Y [v8] h))
     (B.call C (N 364) [v8] h λv61 h=>B.call C (N 365) [v8] h λv63 h=>B.call C (N 567) [v63] h λv64 h=>dn Q v64 h)
    | _=>False) o (ua.map) hu.zqi ⟨out,O,rfl,rfl,by simp;omega,λk=>by simp⟩ ?_ ?_ ?_
  ·rintro it vs h3 Y3 D l ⟨out',O',rfl,_⟩ hn
   exact hn
  ·rintro it h3 D l b Y3 vs ⟨out',O',rfl,rfl,hl,hm⟩ hp ho
   simp -dsimp only[V.zit,getElem?_cons_zero,B.ze,B.cond_false];have hsub:zcw h1 h3 ([.sl 1 out' (O'.map tc) []]):=ho.sub (List.Sublist.cons _ (List.Sublist.cons_cons _ (nil_sublist _)));have hDl:D.length=ps.length:=hp.length_eq;refine zw4 s2 s3 s4 hsub (by omega) (zl8 I L) (λk=>?_) λx' h4 o4=>zba (hq x' h4 (o4.back o1.le));rw[hm,hmem,zxu];constructor
   ·rintro(⟨h1,h2⟩|⟨h1,b,h2,h3,h4⟩)
    ·exact⟨k,h1,.inr ⟨h2,rfl⟩⟩
    ·exact⟨b,h2,.inl ⟨h3,h4⟩⟩
   ·rintro⟨b,h1,⟨h2,h3⟩|⟨h2,rfl⟩⟩
    ·refine .inr ⟨?_,b,h1,h2,h3⟩
     have hk:=h3.zrc h2;obtain⟨v,hv⟩:=(hu.uf.dom k).2 hk;obtain⟨n,hn⟩:=getP_mem hv;exact mem_map.2 ⟨(k,v,n),hp.mem_iff.2 hn,rfl⟩
    ·exact .inl ⟨h1,h2⟩
  ·rintro it h3 D l b Y3 vs p hpm ⟨out',O',rfl,rfl,hl,hm⟩ hsub hpD hDl ho he hY3
   have hpk:p.1∈zci I:=(hu.uf.dom p.1).1 ⟨p.2.1,mem_getP hu.nodup hpm⟩;obtain⟨t,r,hr⟩:=hu.uf.root p.1 hpk;have uh:=ua.mono ho.le;simp -dsimp only[V.zit,getElem?_cons_zero,getElem?_cons_succ,B.ze,B.cond_true,he];rw[B.zou];refine s1 h3 _ m ps c t p.1 r _ uh hr ?_;have g1:A.lkp h3 (some .s) (some (.int .i64 0)) false (.mp w) (.str r)=some (.int .i64 ((zl1 qs r).getD 0)):=ho.lkp (κ:=sV) (v:=iV) 0 rfl keyS 0 r;simp -dsimp only[g1,B.ze,V.bin_gtr];refine B.zm (λhd=>?_) (λhd=>?_)
   ·rw[decide_eq_true_eq]at hd
    have hf:zed [(0,none,.str p.1)] (zfs 1 [.str []])=some [.str p.1]:=rfl;simp -dsimp only[hf];refine ho.push 1 rfl (cs:=[.str p.1]) rfl (by omega) (by simp;omega) (by simp[maxLen];omega) λout2 h4 o4 _=>?_;refine hY3 h4 [.blk w (zih (zqh sV iV qs) d),.sl 1 out2 ((O'++[p.1]).map tc) []] _ ⟨out2,O'++[p.1],rfl,rfl,by simp;omega,λk=>?_⟩ (by rw[map_append];exact o4);rw[mem_append,hm,map_append,mem_append,mem_singleton];constructor
    ·rintro((h|⟨h1,h2⟩)|rfl)
     ·exact .inl h
     ·exact .inr ⟨.inl h1,h2⟩
     ·exact .inr ⟨.inr (by simp),(isW hr).1 hd⟩
    ·rintro(h|⟨h1|h1,h2⟩)
     ·exact .inl (.inl h)
     ·exact .inl (.inr ⟨h1,h2⟩)
     ·exact .inr (by simpa using h1)
   ·rw[decide_eq_false_iff_not]at hd
    refine hY3 h3 _ _ ⟨out',O',rfl,rfl,by simp;omega,λk=>?_⟩ ho;rw[hm,map_append,mem_append];constructor
    ·rintro(h|⟨h1,h2⟩)
     ·exact .inl h
     ·exact .inr ⟨.inl h1,h2⟩
    ·rintro(h|⟨h1|h1,h2⟩)
     ·exact .inl h
     ·exact .inr ⟨h1,h2⟩
     ·have:k=p.1:=by simpa using h1
      subst this;exact absurd ((isW hr).2 h2) hd
variable{C:zh}{N:zN}
theorem partS:zds (ztv 2 24 [.str [],.int .i64 0] 0 []) Part.cs (λp=> .agg p.cs):=seqF (by omega) (by omega) rfl λ_=>rfl
def zb0.Spec(C:zh)(N:zN):Prop:=∀(x:za)(L:List Part)(R:List (List za))(h:zb)(Q:zQ),SlX h 2 x (L.map Part.cs) R->L.length <= 100000000->(∀x' h',zcw h h' [.sl 2 x' (L.map Part.cs) []]->Q x' h')->C (N 569) [x] h Q
theorem zb0.spec(i:zb0.Imp C N):zb0.Spec C N:=λx L R h Q hx hlen hq=>i x h Q (zzj partS hx hlen λx' h' ho=>zba (hq x' h' ho))
def zt5(s:Sta)(L:List Key):Sta:={ s with zet:=s.zet.filter (λt=>decide (t.Code∈L)),zjf:=s.zjf.filter (λt=>decide (t.Item∈L)),zgq:=s.zgq.filter (λt=>decide (t.Item∈L)) }
def zcl.Spec(C:zh)(N:zN):Prop:=∀(s:Sta)(x y z w:za)(L:List Key)(R:List (List za))(h:zb)(Q:zQ),zqx h s x y z->SlX h 1 w (L.map tc) R->L.length <= 100000000->s.zet.length+s.zjf.length+s.zgq.length <= 1000000->(∀x' P y' z' h',P.map (·.1)=(zt5 s L).zet->zcw h h' (StaO (zt5 s L) x' P y' z')->Q (.agg (zlz (zt5 s L) x' y' z')) h')->C (N 558) [.agg (zlz s x y z),w] h Q
theorem zmk{α:Type}(f:α->Bool){l:List α}{j:Nat}{a:α}(h:l[j]?=some a):(l.take (j+1)).filter f=(l.take j).filter f++if f a=true then [a] else []:=by
 rw[take_succ h,filter_append];congr 1;by_cases hf:f a=true
 ·rw[if_pos hf,filter_cons_of_pos hf];rfl
 ·rw[if_neg hf,filter_cons_of_neg hf];rfl
theorem zjg{α:Type}(f:α->Bool)(l:List α)(j:Nat):((l.take j).filter f).length <= l.length:=by
 have:=length_filter_le f (l.take j);rw[length_take]at this;omega
theorem zcl.spec(i:zcl.Imp C N)(s1:zby.Spec C N)(s2:zb0.Spec C N)(s3:zbv.Spec C N):zcl.Spec C N:=by
 intro s x y z w L R h Q hs hw hL hn hq;obtain⟨hI,⟨R2,hy⟩,⟨R3,hz⟩,n1,n2,n3⟩:=hs;have cx:=hI.zbm;have cy:=hy.zbm;have cz:=hz.zbm;have lx:=hI.zbi;have ly:=hy.zbi;have lz:=hz.zbi;rw[length_map]at ly lz;apply i;simp -dsimp[cx,cy,cz,lx,-zcl.l6,-zcl.k5];refine zd.intro (λn vs hh=>∃(j:Nat)(X:za)(P:List (Itm×(za×za))),j+n=s.zet.length /\ vs=[.int .i64 (j:Int),.agg [.int .i64 s.Now,.int .i64 s.zob,.int .i64 s.zlx,X,.zbj,.zbj]] /\ P.map (·.1)=(s.zet.take j).filter (λt=>decide (t.Code∈L)) /\ Df zd3 h hh X P) s.zet.length ?_ ⟨0,.zbj,[],by simp,rfl,by simp,by simpa[Df,DK.os]using (zcw.start h).zbj zd3.n⟩;rintro Y n vs hh ⟨j,X,P,hj,rfl,eP,o⟩ hY;have hPl:P.length <= s.zet.length:=by
  have:=congrArg List.length eP;rw[length_map]at this;rw[this];exact zjg _ _ _
 have cX:X.zbm=true:=(o.zgz 0 rfl).zbm;simp -dsimp only[zcl.l6,zcl.k5,V.zeh,B.ze];refine B.zm (λhc=>?_) (λhc=>?_)
 ·rw[decide_eq_true_eq]at hc
  obtain⟨t,ht⟩:=zgf (L:=s.zet) (k:=j) (by omega);obtain⟨a,ea⟩:=(hI.mono o.le).get ht;have e1:V.zb3 4 x (.int .i64 (j:Int))=some (elp 4 x j 0):=ea.idx;have e2:A.zo3 hh (elp 4 x j 0) 4=some (.agg [.str t.Code,.int .i64 t.Life,a.1,a.2]):=ea.ldn;obtain⟨⟨Rp,hp⟩,⟨Ro,ho⟩,hok⟩:(∃R,SlX hh 2 a.1 (t.zgc.map Part.cs) R) /\ (∃R,SlX hh 1 a.2 (t.zep.map tc) R) /\ t.ok:=ea.at_;have ca1:=hp.zbm;have ca2:=ho.zbm;have hf:=zmk (λt:Itm=>decide (t.Code∈L)) ht;simp -dsimp[e1,e2,ca1,ca2,-V.zex];refine s1 w L R t.Code hh _ (hw.mono o.le) (by omega) ?_;refine B.zm (λhb=>?_) (λhb=>?_)
  ·rw[if_pos hb]at hf
   simp -dsimp[ca1,ca2,cX,-V.zex];have hok':t.zgc.length <= few /\ t.zep.length <= few:=hok;unfold few at hok';refine s2 a.1 t.zgc Rp hh _ hp (by omega) λp' h1 o1=>?_;have cp':p'.zbm=true:=(o1.zgz 0 rfl).zbm;simp -dsimp[ca1,ca2,cp',cX,-V.zex];refine s3 a.2 t.zep Ro h1 _ (ho.mono o1.le) (by omega) λq' h2 o2=>?_;have cq':q'.zbm=true:=(o2.zgz 0 rfl).zbm;have hfl:zed [(0,some 4,.agg (zd3.cells t (p',q')))] (zfs 1 [.str [],.int .i64 0,.zbj,.zbj])=some (zd3.cells t (p',q')):=zui zd3 t (p',q');have hfl:zed [(0,some 4,.agg [.str t.Code,.int .i64 t.Life,p',q'])] (zfs 1 [.str [],.int .i64 0,.zbj,.zbj])=some [.str t.Code,.int .i64 t.Life,p',q']:=hfl;simp -dsimp[cp',cq',cX,hfl,-V.zex];have o3:=zcw.join o (o1.join o2);refine o3.push 0 rfl (cs:=[.str t.Code,.int .i64 t.Life,p',q']) rfl (by decide) (by simp;omega) (by simp[maxLen];omega) λX' h3 o4 _=>?_;have cX':X'.zbm=true:=(o4.zgz 0 rfl).zbm;simp -dsimp[cX',-V.zex];rw[zg8 (show j<4611686018427387904 by omega)];simp -dsimp only[B.ze];refine hY (s.zet.length-(j+1)) _ _ (by omega) ⟨j+1,X',P++[(t,(p',q'))],by omega,rfl,by rw[hf,<-eP,map_append];rfl,?_⟩;unfold Df;rw[DK.zq8,DK.os_one,map_append];exact o4
  ·rw[if_neg (by rw[hb];exact Bool.false_ne_true),append_nil]at hf
   simp -dsimp only[zg8 (show j<4611686018427387904 by omega),B.ze];exact hY (s.zet.length-(j+1)) _ _ (by omega) ⟨j+1,X,P,by omega,rfl,by rw[hf];exact eP,o⟩
 ·rw[decide_eq_false_iff_not]at hc
  have:j=s.zet.length:=by omega
  subst this;rw[take_length]at eP;simp -dsimp[cy,ly,-zcl.l4,-zcl.k3];have o0:zcw h hh ([.sl 4 X (P.map zd3.cs) [],.sl 6 .zbj [] []]++zd3.os false P):=(zcw.zbj o 6).perm ((perm_append_comm (l₁:=zd3.os false P) (l₂:=[Ob.sl 6 .zbj [] []])).cons _);refine zd.intro (λn vs hh=>∃(j:Nat)(Yv:za),j+n=s.zjf.length /\ vs=[.int .i64 (j:Int),.agg [.int .i64 s.Now,.int .i64 s.zob,.int .i64 s.zlx,X,Yv,.zbj]] /\ zcw h hh ([.sl 4 X (P.map zd3.cs) [],.sl 6 Yv (((s.zjf.take j).filter (λt=>decide (t.Item∈L))).map Lot.cs) []]++zd3.os false P)) s.zjf.length ?_ ⟨0,.zbj,by simp,rfl,by simpa using o0⟩;rintro Y2 n vs h2 ⟨j,Yv,hj2,rfl,o⟩ hY2;have cYv:Yv.zbm=true:=(o.zgz 1 rfl).zbm;have hQl:=zjg (λt:Lot=>decide (t.Item∈L)) s.zjf j;simp -dsimp only[zcl.l4,zcl.k3,V.zeh,B.ze];refine B.zm (λhc=>?_) (λhc=>?_)
  ·rw[decide_eq_true_eq]at hc
   obtain⟨t,ht⟩:=zgf (L:=s.zjf) (k:=j) (by omega);have f1:V.zb3 6 y (.int .i64 (j:Int))=some (elp 6 y j 0):=hy.zjp (by rw[length_map];omega);have f2:A.zo3 h2 (elp 6 y j 0) 6=some (.agg t.cs):=(hy.mono o.le).elem (by rw[getElem?_map,ht];rfl);have hf:=zmk (λt:Lot=>decide (t.Item∈L)) ht;simp -dsimp[f1,f2,-V.zex];refine s1 w L R t.Item h2 _ (hw.mono o.le) (by omega) ?_;refine B.zm (λhb=>?_) (λhb=>?_)
   ·rw[if_pos hb]at hf
    simp -dsimp[cX,cYv,zfs,-V.zex];refine o.push 1 rfl (cs:=t.cs) rfl (by decide) (by simp;omega) (by simp[maxLen];omega) λY' h3 o4 _=>?_;have cY':Y'.zbm=true:=(o4.zgz 1 rfl).zbm;simp -dsimp[cY',-V.zex];rw[zg8 (show j<4611686018427387904 by omega)];simp -dsimp only[B.ze];refine hY2 (s.zjf.length-(j+1)) _ _ (by omega) ⟨j+1,Y',by omega,rfl,?_⟩;rw[hf,map_append];exact o4
   ·rw[if_neg (by rw[hb];exact Bool.false_ne_true),append_nil]at hf
    simp -dsimp only[zg8 (show j<4611686018427387904 by omega),B.ze];exact hY2 (s.zjf.length-(j+1)) _ _ (by omega) ⟨j+1,Yv,by omega,rfl,by rw[hf];exact o⟩
  ·rw[decide_eq_false_iff_not]at hc
   have:j=s.zjf.length:=by omega
   subst this;rw[take_length]at o;simp -dsimp[cz,lz,-zcl.l2,-zcl.k1];have o0:zcw h h2 ([.sl 4 X (P.map zd3.cs) [],.sl 6 Yv ((s.zjf.filter (λt=>decide (t.Item∈L))).map Lot.cs) [],.sl 8 .zbj [] []]++zd3.os false P):=by
    have:=zcw.zbj o 8;exact this.perm (((perm_append_comm (l₁:=zd3.os false P) (l₂:=[Ob.sl 8 .zbj [] []])).cons _).cons _)
   refine zd.intro (λn vs hh=>∃(j:Nat)(Zv:za),j+n=s.zgq.length /\ vs=[.int .i64 (j:Int),.agg [.int .i64 s.Now,.int .i64 s.zob,.int .i64 s.zlx,X,Yv,Zv]] /\ zcw h hh ([.sl 4 X (P.map zd3.cs) [],.sl 6 Yv ((s.zjf.filter (λt=>decide (t.Item∈L))).map Lot.cs) [],.sl 8 Zv (((s.zgq.take j).filter (λt=>decide (t.Item∈L))).map znh.cs) []]++zd3.os false P)) s.zgq.length ?_ ⟨0,.zbj,by simp,rfl,by simpa using o0⟩;rintro Y3 n vs h3 ⟨j,Zv,hj3,rfl,o⟩ hY3;have cZv:Zv.zbm=true:=(o.zgz 2 rfl).zbm;have hQl:=zjg (λt:znh=>decide (t.Item∈L)) s.zgq j;simp -dsimp only[zcl.l2,zcl.k1,V.zeh,B.ze];refine B.zm (λhc=>?_) (λhc=>?_)
   ·rw[decide_eq_true_eq]at hc
    obtain⟨t,ht⟩:=zgf (L:=s.zgq) (k:=j) (by omega);have f1:V.zb3 8 z (.int .i64 (j:Int))=some (elp 8 z j 0):=hz.zjp (by rw[length_map];omega);have f2:A.zo3 h3 (elp 8 z j 0) 8=some (.agg t.cs):=(hz.mono o.le).elem (by rw[getElem?_map,ht];rfl);have hf:=zmk (λt:znh=>decide (t.Item∈L)) ht;simp -dsimp[f1,f2,-V.zex];refine s1 w L R t.Item h3 _ (hw.mono o.le) (by omega) ?_;refine B.zm (λhb=>?_) (λhb=>?_)
    ·rw[if_pos hb]at hf
     simp -dsimp[cX,cYv,cZv,zfs,-V.zex];refine o.push 2 rfl (cs:=t.cs) rfl (by decide) (by simp;omega) (by simp[maxLen];omega) λZ' h4 o4 _=>?_;have cZ':Z'.zbm=true:=(o4.zgz 2 rfl).zbm;simp -dsimp[cZ',-V.zex];rw[zg8 (show j<4611686018427387904 by omega)];simp -dsimp only[B.ze];refine hY3 (s.zgq.length-(j+1)) _ _ (by omega) ⟨j+1,Z',by omega,rfl,?_⟩;rw[hf,map_append];exact o4
    ·rw[if_neg (by rw[hb];exact Bool.false_ne_true),append_nil]at hf
     simp -dsimp only[zg8 (show j<4611686018427387904 by omega),B.ze];exact hY3 (s.zgq.length-(j+1)) _ _ (by omega) ⟨j+1,Zv,by omega,rfl,by rw[hf];exact o⟩
   ·rw[decide_eq_false_iff_not]at hc
    have:j=s.zgq.length:=by omega
    subst this;rw[take_length]at o;simp -dsimp[cX,cYv,cZv];exact zba (hq X P Yv Zv h3 eP o)
variable{C:zh}{N:zN}
def zga.Spec(C:zh)(N:zN):Prop:=∀(x y:za)(L M Z:List Key)(R S:List (List za))(h:zb)(Q:zQ),SlX h 1 x (L.map tc) R->SlX h 1 y (M.map tc) S->L.length+M.length <= 10000000->zkr Z->(∀k,k∈L++M↔k∈Z)->(∀x' h',zcw h h' [.sl 1 x' (Z.map tc) []]->Q x' h')->C (N 570) [x,y] h Q
theorem zga.spec(i:zga.Imp C N)(s0:zp.Spec C N)(s1:zb7.Spec C N)(s2:zbx.Spec C N)(s3:zbv.Spec C N):zga.Spec C N:=by
 intro x y L M Z R S h Q hx hy hl hZ hm hq;have cx:=hx.zbm;have cy:=hy.zbm;apply i;simp -dsimp[cx,cy,zfs];intro i8 f8;have o1:zcw h _ [.sl 1 (.sl i8 0 0 2 1 2) [[x],[y]] []]:=(zcw.start h).zpz (id:=i8) (n:=2) (cp:=2) (es:=1) (cs:=[x,y]) (L:=[[x],[y]]) (R:=[]) f8 (by simp) rfl (by simp) rfl;generalize upd h i8 (zgl [x,y])=h1 at *;refine s0 (.sl i8 0 0 2 1 2) [x,y] [L,M] [] h1 _ (o1.zgz 0 rfl) rfl (λj v l hv hl=>?_) (by simp) (by simp;omega) λx' h2 R' o2=>?_
 ·match j,hv,hl with
  | 0,hv,hl=>cases hv;cases hl;exact⟨R,hx.mono o1.le⟩
  | 1,hv,hl=>cases hv;cases hl;exact⟨S,hy.mono o1.le⟩
  | j+2,hv,_=>simp at hv
 have e:[L,M].flatten=L++M:=by simp
 rw[e]at o2;exact zw4 s1 s2 s3 o2 (by simp;omega) hZ hm λz h3 o3=>zba (hq z h3 (o3.back o1.le))
structure AskC(cs:List za)(k:UInt8)(item:Key)(lot line:Int):Prop where
 len:cs.length=11
 kind:cs[0]?=some (.int .u8 (k.toNat:Int))
 item:cs[2]?=some (.str item)
 lot:cs[7]?=some (.int .i64 lot)
 line:cs[8]?=some (.int .i64 line)
theorem askLd{h:zb}{id:Nat}{cs:List za}(hb:h id=some (zgl cs)){j:Nat}{v:za}(hv:cs[j]?=some v):A.ldv h (.ptr id 0 j)=some v:=by rw[zpg hb];exact hv
def zbe.Spec(C:zh)(N:zN):Prop:=∀(x f:za)(p:Lot->Bool)(L:List Lot)(R:List (List za))(h:zb)(Q:zQ),SlX h 6 x (L.map Lot.cs) R->L.length<4611686018427387904->AskSpec C (λw:Lot=> .agg w.cs) f p h->Q (.int .i64 (idxI p L)) h->C (N 572) [x,f] h Q
theorem zbe.spec(i:zbe.Imp C N):zbe.Spec C N:=by
 intro x f p L R h Q hx hlen hf hq;exact i _ _ _ _ (zym lotS hx hlen hf (zba hq))
def zfq.Spec(C:zh)(N:zN):Prop:=∀(w:Lot)(lot:Int)(id:Nat)(cs:List za)(h:zb)(Q:zQ),h id=some (zgl cs)->cs[7]?=some (.int .i64 lot)->Q (.bool (decide (w.Id=lot))) h->C (N 571) [.agg w.cs,.ptr id 0 0] h Q
theorem zfq.spec(i:zfq.Imp C N):zfq.Spec C N:=by
 intro w lot id cs h Q hb hv hq;apply i;simp -dsimp[askLd hb hv];exact zba hq
def zfp.Spec(C:zh)(N:zN):Prop:=∀(w:znh)(line:Int)(id:Nat)(cs:List za)(h:zb)(Q:zQ),h id=some (zgl cs)->cs[8]?=some (.int .i64 line)->Q (.bool (decide (w.Id=line))) h->C (N 573) [.agg w.cs,.ptr id 0 0] h Q
theorem zfp.spec(i:zfp.Imp C N):zfp.Spec C N:=by
 intro w line id cs h Q hb hv hq;apply i;simp -dsimp[askLd hb hv];exact zba hq
def zfr.Spec(C:zh)(N:zN):Prop:=∀(t:Itm)(a:za×za)(item:Key)(id:Nat)(cs:List za)(h:zb)(Q:zQ),zd3.at_ h t a->h id=some (zgl cs)->cs[2]?=some (.str item)->Q (.bool (decide (t.Code=item))) h->C (N 574) [.agg (zd3.cells t a),.ptr id 0 0] h Q
theorem zfr.spec(i:zfr.Imp C N):zfr.Spec C N:=by
 intro t a item id cs h Q ha hb hv hq;obtain⟨⟨R1,a1⟩,⟨R2,a2⟩,_⟩:(∃R,SlX h 2 a.1 (t.zgc.map Part.cs) R) /\ (∃R,SlX h 1 a.2 (t.zep.map tc) R) /\ t.ok:=ha;have c1:=a1.zbm;have c2:=a2.zbm;apply i;simp -dsimp[zd3,c1,c2,askLd hb hv];exact zba hq
variable{C:zh}{N:zN}
def zbd.Spec(C:zh)(N:zN):Prop:=∀(x:za)(c:Key)(id:Nat)(cs:List za)(L:List Itm)(h:zb)(Q:zQ),Dl zd3 h x L->L.length <= 100000000->h id=some (zgl cs)->cs[2]?=some (.str c)->Q (.bool (decide (c∈zci L))) h->C (N 575) [x,.fn (N 574) [] [.ptr id 0 0]] h Q
theorem zbd.spec(i:zbd.Imp C N)(i2:zbq.Imp C N)(s1:zfr.Spec C N):zbd.Spec C N:=by
 intro x c id cs L h Q hx hlen hid hv hq;apply i;simp -dsimp only[zbd.cps,zmz.cps];refine i2 _ _ _ _ ?_;simp -dsimp only[zbq.cps,zcq.cps,hx.zbi,B.ze];refine zd.intro (λt vs hh=>hh=h /\ ∃k:Nat,k+t=L.length /\ vs=[.int .i64 (k:Int)] /\ ∀i,i<k->∀a,L[i]?=some a->a.Code≠c) L.length ?_ ⟨rfl,0,by omega,rfl,λi hi=>by omega⟩;rintro Y t vs h ⟨rfl,k,ht,rfl,hno⟩ hY;simp -dsimp only[zcq.l2,zcq.k1,zqg,B.ze];refine B.zm (λhb=>?_) (λhb=>?_)<;>simp only[decide_eq_true_eq,decide_eq_false_iff_not]at hb
 ·obtain⟨p,o,e1,e2,_,_,_,_,_,_,ha⟩:=itm_get hx (getElem?_eq_getElem hb)
  simp -dsimp only[ztv,e1,B.ze,B.zn5,e2];refine s1 _ _ c id cs _ _ ha hid hv ?_;refine B.zm (λhc=>?_) (λhc=>?_)
  ·have hm:c∈zci L:=zla.2 ⟨L[k],getElem_mem hb,by simpa using hc⟩
   rw[decide_eq_true hm]at hq;have hk:decide ((0:Int) <= (k:Int))=true:=by simp
   refine zba ?_;simp -dsimp only[V.zk5,hk,B.ze];exact zba hq
  ·simp -dsimp only[zg8 (show k<4611686018427387904 by omega),B.ze]
   refine hY (L.length-(k+1)) _ _ (by omega) ⟨rfl,k+1,by omega,rfl,λi hi a hia=>?_⟩;by_cases e:i=k
   ·subst e;rw[getElem?_eq_getElem hb]at hia;cases hia;simpa using hc
   ·exact hno i (by omega) a hia
 ·have hm:c∉zci L:=λhm=>by
   obtain⟨t,h1,h2⟩:=zla.1 hm;obtain⟨j,hj,rfl⟩:=getElem_of_mem h1;exact hno j (by omega) _ (getElem?_eq_getElem hj) h2
  rw[decide_eq_false hm]at hq;refine zba ?_;simp -dsimp;exact zba hq
def zns:List Key:=[[42]]
def lotT:Key:=[35,108,111,116]
def lineT:Key:=[35,108,105,110,101]
def zgg(s:Sta)(k:UInt8)(item:Key)(lot line:Int):List Key:=
 if k=4 \/ k=5 then if item∈zci s.zet then ztu (zgy s.zet [item]) lotT else zns
 else if k=9 then if item∈zci s.zet then ztu (zgy s.zet [item]) lineT else zns
 else if k=13 \/ k=15 then if item∈zci s.zet then zgy s.zet [item] else zns
 else if k=6 \/ k=7 \/ k=8 then match s.zjf.find? (λl=>decide (l.Id=lot)) with|some t=>zgy s.zet [t.Item]|none=>zns
 else if k=10 \/ k=11 \/ k=14 then match s.zgq.find? (λl=>decide (l.Id=line)) with|some t=>zgy s.zet [t.Item]|none=>zns
 else if k<1 \/ 15<k then [] else zns
def zt.Spec(C:zh)(N:zN):Prop:=∀(s:Sta)(x y z:za)(cs:List za)(k:UInt8)(item:Key)(lot line:Int)(h:zb)(Q:zQ),zqx h s x y z->s.zet.length <= 100000->AskC cs k item lot line->(∀x' h',zcw h h' [.sl 1 x' ((zgg s k item lot line).map tc) []]->Q x' h')->C (N 559) [.agg (zlz s x y z),.agg cs] h Q
theorem find_idx{α:Type}{p:α->Bool}{L:List α}:(L.find? p=none /\ idxI p L= -1) \/ ∃(k:Nat)(t:α),L.find? p=some t /\ idxI p L=k /\ L[k]?=some t:=by
 unfold idxI;cases e:L.findIdx? p with
 | none=>
  rw[findIdx?_eq_none_iff]at e;exact .inl ⟨find?_eq_none.2 λx hx=>by simp[e x hx],rfl⟩
 | some k=>
  rw[findIdx?_eq_some_iff_getElem]at e;obtain⟨h1,h2,h3⟩:=e;refine .inr ⟨k,L[k],?_,rfl,getElem?_eq_getElem h1⟩;rw[find?_eq_some_iff_getElem];exact⟨h2,k,h1,rfl,λj hj=>by simpa using h3 j hj⟩
theorem zry(I:List Itm):(zci I).length <= I.length:=by
 have:=(zgv (zml I)).length_le_of_subset (l₂:=I.map Itm.Code) λk hk=>by
  obtain⟨t,h1,h2⟩:=zla.1 hk;exact mem_map.2 ⟨t,h1,h2⟩
 rwa [length_map]at this
theorem withT_len(I:List Itm)(c:Key):(zgy I [c]).length <= I.length+1:=by
 have h:=(zgv (zl8 I [c])).length_le_of_subset (l₂:=c::zci I) λk hk=>by
  obtain⟨d,h1,h2⟩:=zxu.1 hk;rw[mem_singleton.1 h1]at h2;rcases h2 with⟨h2,h3⟩|⟨_,rfl⟩
  ·exact mem_cons_of_mem _ (h3.zrc h2)
  ·exact mem_cons_self ..
 have:=zry I;rw[length_cons]at h;omega
theorem zt.spec(i:zt.Imp C N)(s1:zbd.Spec C N)(s2:zdo.Spec C N)(s3:zga.Spec C N)(s4:zbe.Spec C N)(s5:z9.Spec C N)(s6:zfq.Spec C N)(s7:zfp.Spec C N):zt.Spec C N:=by
 intro s x y z cs k item lot line h Q hs hn hc hq;obtain⟨hI,⟨R2,hy⟩,⟨R3,hz⟩,n1,n2,n3⟩:=hs;have cx:=hI.zbm;have cy:=hy.zbm;have cz:=hz.zbm;have hcl:=hc.len;apply i;simp -dsimp[cx,cy,cz,-zt.k11];simp -dsimp only[A.zpp,hcl,if_true];intro i3 f3;have o1:=(zcw.start h).zvy f3 cs;generalize upd h i3 (zgl cs)=h1 at *;obtain⟨_,e,hb⟩:=o1.zts 0 rfl;cases e;have hx1:=hI.mono o1.le;have lkind:∀{h'},h1.le h'->A.ldv h' (.ptr i3 0 0)=some (.int .u8 (k.toNat:Int)):=λhle=>askLd (hle _ _ hb) hc.kind;have litem:∀{h'},h1.le h'->A.ldv h' (.ptr i3 0 2)=some (.str item):=λhle=>askLd (hle _ _ hb) hc.item;have kq:∀n:Nat,n<256->(((k.toNat:Nat):Int)=(n:Int)↔k=UInt8.ofNat n):=λn hn=>by
  constructor
  ·intro e
   have:k.toNat=n:=by omega
   rw[<-this];simp
  ·intro e
   rw[e];have:(UInt8.ofNat n).toNat=n:=by simp;omega
   rw[this]
 have star:∀h',h1.le h'->zgg s k item lot line=(if k<1 \/ 15<k then [] else zns)->zt.k1 C N (dn Q) (.ptr i3 0 0) h':=by
  intro h' hle hcod;have hh:h.le h':=zb.le_trans o1.le hle;have l1:(k.toNat:Int)<1↔k<1:=by rw[UInt8.lt_iff_toNat_lt,show (1:UInt8).toNat=1 from rfl];omega
  have l2:(15:Int)<(k.toNat:Int)↔15<k:=by rw[UInt8.lt_iff_toNat_lt,show (15:UInt8).toNat=15 from rfl];omega
  by_cases hk:k<1 \/ 15<k
  ·rw[if_pos hk]at hcod
   rw[hcod]at hq;have fin:dn Q .zbj h':=dn_le hh (hq .zbj h ((zcw.start h).zbj 1));by_cases hk1:k<1
   ·simp -dsimp[lkind hle,l1,hk1]
    exact fin
   ·have hk2:15<k:=hk.resolve_left hk1
    simp -dsimp[lkind hle,l1,l2,hk1,hk2];exact fin
  ·rw[if_neg hk]at hcod
   rw[hcod]at hq;have hk1:¬ k<1:=λe=>hk (.inl e);have hk2:¬ 15<k:=λe=>hk (.inr e);simp -dsimp[lkind hle,l1,l2,hk1,hk2,zfs];intro i95 f95;have o2:=(zcw.start h').zpz (id:=i95) (n:=1) (cp:=1) (es:=1) (cs:=[.str [42]]) (L:=[[.str [42]]]) (R:=[]) f95 (by simp) rfl (by simp) rfl;exact zba (hq _ _ (o2.back hh))
 simp -dsimp only[zt.k11,B.zjr,V.zey,getElem?_cons_zero,getElem?_cons_succ,B.ze];refine s1 x item i3 cs s.zet h1 _ hx1 (by omega) hb hc.item ?_;simp -dsimp only[V.fieldAddr_ptr,Nat.zero_add,B.zha,lkind (zb.le_refl h1),B.ze];have wth:∀(c:Key)(h':zb)(id:Nat)(K:zQ),h1.le h'->h' id=none->(∀v h2,zcw h1 h2 [.sl 1 v ((zgy s.zet [c]).map tc) []]->K v h2)->C (N 553) [x,.sl id 0 0 1 1 1] (upd h' id (zgl [.str c])) K:=by
  intro c h' id K hle hid hK;have o2:=(zcw.start h').zpz (id:=id) (n:=1) (cp:=1) (es:=1) (cs:=[.str c]) (L:=[c].map tc) (R:=[]) hid (by simp[tc]) rfl (by simp) rfl;have le2:=zb.le_trans hle o2.le;exact s2 x _ s.zet [c] [] _ K (hx1.mono le2) (by omega) (o2.zgz 0 rfl) (by simp) λv h2 o3=>hK v h2 (o3.back le2)
 have wl:=withT_len s.zet item;have more:∀(m:Key)(v:za)(h2:zb)(id:Nat)(K:zQ),zcw h1 h2 [.sl 1 v ((zgy s.zet [item]).map tc) []]->h2 id=none->(∀v' h3,zcw h1 h3 [.sl 1 v' ((ztu (zgy s.zet [item]) m).map tc) []]->K v' h3)->C (N 570) [v,.sl id 0 0 1 1 1] (upd h2 id (zgl [.str m])) K:=by
  intro m v h2 id K o2 hid hK;have o3:=o2.zpz (id:=id) (n:=1) (cp:=1) (es:=1) (cs:=[.str m]) (L:=[m].map tc) (R:=[]) hid (by simp[tc]) rfl (by simp) rfl;refine s3 v _ (zgy s.zet [item]) [m] (ztu (zgy s.zet [item]) m) [] [] _ K (o3.zgz 0 rfl) (o3.zgz 1 rfl) (by simp;omega) (zt3 (zl8 _ _)) (λk=>?_) λv' h3 o4=>hK v' h3 (o4.back o3.le);rw[mem_append,mem_singleton,zwp];exact Or.comm
 by_cases h4:k=4 \/ k=5
 ·have hcod:zgg s k item lot line=if item∈zci s.zet then ztu (zgy s.zet [item]) lotT else zns:=by unfold zgg;rw[if_pos h4]
  have k2:zt.k2 C N (dn Q) (.ptr i3 0 0) (.bool (decide (item∈zci s.zet))) (.agg (zlz s x y z)) h1:=by
   refine B.zm (λhm=>?_) (λhm=>?_)
   ·rw[if_pos (of_decide_eq_true hm)]at hcod
    rw[hcod]at hq;simp -dsimp[litem (zb.le_refl h1),zfs,-zt.k1];intro i22 f22;refine wth item h1 i22 _ (zb.le_refl h1) f22 λv h2 o2=>?_;simp -dsimp[zfs];intro i24 f24;exact more lotT v h2 i24 _ o2 f24 λv' h3 o3=>zba (hq v' h3 (o3.back o1.le))
   ·rw[if_neg (of_decide_eq_false hm)]at hcod
    refine star h1 (zb.le_refl h1) ?_;rw[hcod,if_neg];rcases h4 with rfl|rfl<;>decide
  rcases h4 with rfl|rfl
  ·simp -dsimp[zt.k10,-zt.k2,-zt.k1]
   exact k2
  ·simp -dsimp[zt.k10,-zt.k2,-zt.k1]
   exact k2
 have a4:k≠4:=λe=>h4 (.inl e);have a5:k≠5:=λe=>h4 (.inr e);have q4:decide ((k.toNat:Int)=4)=false:=decide_eq_false λe=>a4 ((kq 4 (by omega)).1 e);have q5:decide ((k.toNat:Int)=5)=false:=decide_eq_false λe=>a5 ((kq 5 (by omega)).1 e);simp -dsimp only[zt.k10,V.zhh,q4,q5,B.ze,B.cond_false];by_cases h9:k=9
 ·subst h9
  have hcod:zgg s 9 item lot line=if item∈zci s.zet then ztu (zgy s.zet [item]) lineT else zns:=by unfold zgg;rw[if_neg h4,if_pos rfl]
  have e9:decide ((((9:UInt8).toNat:Nat):Int)=9)=true:=by decide
  simp -dsimp only[e9,B.cond_true];refine B.zm (λhm=>?_) (λhm=>?_)
  ·rw[if_pos (of_decide_eq_true hm)]at hcod
   rw[hcod]at hq;simp -dsimp[litem (zb.le_refl h1),zfs,-zt.k1];intro i22 f22;refine wth item h1 i22 _ (zb.le_refl h1) f22 λv h2 o2=>?_;simp -dsimp[zfs];intro i24 f24;exact more lineT v h2 i24 _ o2 f24 λv' h3 o3=>zba (hq v' h3 (o3.back o1.le))
  ·rw[if_neg (of_decide_eq_false hm)]at hcod
   refine star h1 (zb.le_refl h1) ?_;rw[hcod,if_neg (by decide)]
 have q9:decide ((k.toNat:Int)=9)=false:=decide_eq_false λe=>h9 ((kq 9 (by omega)).1 e);simp -dsimp only[q9,B.cond_false,zt.k9,V.zhh,B.ze];by_cases h13:k=13 \/ k=15
 ·have hcod:zgg s k item lot line=if item∈zci s.zet then zgy s.zet [item] else zns:=by unfold zgg;rw[if_neg h4,if_neg h9,if_pos h13]
  have k4:zt.k4 C N (dn Q) (.ptr i3 0 0) (.bool (decide (item∈zci s.zet))) (.agg (zlz s x y z)) h1:=by
   refine B.zm (λhm=>?_) (λhm=>?_)
   ·rw[if_pos (of_decide_eq_true hm)]at hcod
    rw[hcod]at hq;simp -dsimp[litem (zb.le_refl h1),zfs,-zt.k1];intro i22 f22;exact wth item h1 i22 _ (zb.le_refl h1) f22 λv h2 o2=>zba (hq v h2 (o2.back o1.le))
   ·rw[if_neg (of_decide_eq_false hm)]at hcod
    refine star h1 (zb.le_refl h1) ?_;rw[hcod,if_neg];rcases h13 with rfl|rfl<;>decide
  rcases h13 with rfl|rfl
  ·simp -dsimp[-zt.k4,-zt.k1]
   exact k4
  ·simp -dsimp[-zt.k4,-zt.k1]
   exact k4
 have a13:k≠13:=λe=>h13 (.inl e);have a15:k≠15:=λe=>h13 (.inr e);have q13:decide ((k.toNat:Int)=13)=false:=decide_eq_false λe=>a13 ((kq 13 (by omega)).1 e);have q15:decide ((k.toNat:Int)=15)=false:=decide_eq_false λe=>a15 ((kq 15 (by omega)).1 e);simp -dsimp only[q13,q15,B.cond_false,zt.k8,V.zhh,B.ze];by_cases h6:k=6 \/ k=7 \/ k=8
 ·have hcod:zgg s k item lot line=match s.zjf.find? (λl=>decide (l.Id=lot)) with|some t=>zgy s.zet [t.Item]|none=>zns:=by unfold zgg;rw[if_neg h4,if_neg h9,if_neg h13,if_pos h6]
  have k5:zt.k5 C N (dn Q) (.ptr i3 0 0) (.agg (zlz s x y z)) h1:=by
   simp -dsimp only[zt.k5,B.zjr,V.zey,getElem?_cons_zero,getElem?_cons_succ,B.ze];refine s4 y _ (λl=>decide (l.Id=lot)) s.zjf R2 h1 _ (hy.mono o1.le) (by omega) (λt h' K hle hk=>?_) ?_
   ·rw[B.zou]
    exact s6 t lot i3 cs h' K (hle _ _ hb) hc.lot hk
   ·rcases find_idx (p:=λl:Lot=>decide (l.Id=lot)) (L:=s.zjf) with⟨e1,e2⟩|⟨j,t,e1,e2,e3⟩
    ·rw[e1]at hcod
     rw[e2];simp -dsimp[-zt.k1];refine star h1 (zb.le_refl h1) ?_;rw[hcod,if_neg];rcases h6 with rfl|rfl|rfl<;>decide
    ·rw[e1]at hcod
     rw[hcod]at hq;rw[e2];have hj:j<s.zjf.length:=(List.getElem?_eq_some_iff.1 e3).1;have f1:V.zb3 6 y (.int .i64 (j:Int))=some (elp 6 y j 0):=hy.zjp (by rw[length_map];exact hj);have ge:decide ((0:Int) <= (j:Int))=true:=by simp
     have hj':j<(s.zjf.map Lot.cs).length:=by rw[length_map];exact hj
     have f2:V.fieldAddr 1 (elp 6 y j 0)=some (elp 6 y j 1):=hy.zot hj' 0 1;have f3:A.ldv h1 (elp 6 y j 1)=some (.str t.Item):=(hy.mono o1.le).ldv (f:=1) (c:=t.cs) (by rw[getElem?_map,e3];rfl) (by omega);simp -dsimp[ge,f1,f2,f3,zfs,-zt.k1];intro i65 f65;exact wth t.Item h1 i65 _ (zb.le_refl h1) f65 λv h2 o2=>zba (hq v h2 (o2.back o1.le))
  rcases h6 with rfl|rfl|rfl
  ·simp -dsimp[-zt.k5,-zt.k1]
   exact k5
  ·simp -dsimp[-zt.k5,-zt.k1]
   exact k5
  ·simp -dsimp[-zt.k5,-zt.k1]
   exact k5
 have a6:k≠6:=λe=>h6 (.inl e);have a7:k≠7:=λe=>h6 (.inr (.inl e));have a8:k≠8:=λe=>h6 (.inr (.inr e));have q6:decide ((k.toNat:Int)=6)=false:=decide_eq_false λe=>a6 ((kq 6 (by omega)).1 e);have q7:decide ((k.toNat:Int)=7)=false:=decide_eq_false λe=>a7 ((kq 7 (by omega)).1 e);have q8:decide ((k.toNat:Int)=8)=false:=decide_eq_false λe=>a8 ((kq 8 (by omega)).1 e);simp -dsimp only[q6,q7,q8,B.cond_false,zt.k7,V.zhh,B.ze];by_cases h10:k=10 \/ k=11 \/ k=14
 ·have hcod:zgg s k item lot line=match s.zgq.find? (λl=>decide (l.Id=line)) with|some t=>zgy s.zet [t.Item]|none=>zns:=by unfold zgg;rw[if_neg h4,if_neg h9,if_neg h13,if_neg h6,if_pos h10]
  have k6:zt.k6 C N (dn Q) (.ptr i3 0 0) (.bool true) (.agg (zlz s x y z)) h1:=by
   simp -dsimp only[zt.k6,B.cond_true,B.zjr,V.zey,getElem?_cons_zero,getElem?_cons_succ,B.ze];refine s5 z _ (λl=>decide (l.Id=line)) s.zgq R3 h1 _ (hz.mono o1.le) (by omega) (λt h' K hle hk=>?_) ?_
   ·rw[B.zou]
    exact s7 t line i3 cs h' K (hle _ _ hb) hc.line hk
   ·rcases find_idx (p:=λl:znh=>decide (l.Id=line)) (L:=s.zgq) with⟨e1,e2⟩|⟨j,t,e1,e2,e3⟩
    ·rw[e1]at hcod
     have e2:idxOf (λl:znh=>decide (l.Id=line)) s.zgq= -1:=e2;rw[e2];simp -dsimp[-zt.k1];refine star h1 (zb.le_refl h1) ?_;rw[hcod,if_neg];rcases h10 with rfl|rfl|rfl<;>decide
    ·rw[e1]at hcod
     rw[hcod]at hq;have e2:idxOf (λl:znh=>decide (l.Id=line)) s.zgq=j:=e2;rw[e2];have hj:j<s.zgq.length:=(List.getElem?_eq_some_iff.1 e3).1;have f1:V.zb3 8 z (.int .i64 (j:Int))=some (elp 8 z j 0):=hz.zjp (by rw[length_map];exact hj);have ge:decide ((0:Int) <= (j:Int))=true:=by simp
     have hj':j<(s.zgq.map znh.cs).length:=by rw[length_map];exact hj
     have f2:V.fieldAddr 1 (elp 8 z j 0)=some (elp 8 z j 1):=hz.zot hj' 0 1;have f3:A.ldv h1 (elp 8 z j 1)=some (.str t.Item):=(hz.mono o1.le).ldv (f:=1) (c:=t.cs) (by rw[getElem?_map,e3];rfl) (by omega);simp -dsimp[ge,f1,f2,f3,zfs,-zt.k1];intro i65 f65;exact wth t.Item h1 i65 _ (zb.le_refl h1) f65 λv h2 o2=>zba (hq v h2 (o2.back o1.le))
  rcases h10 with rfl|rfl|rfl
  ·simp -dsimp[-zt.k6,-zt.k1]
   exact k6
  ·simp -dsimp[-zt.k6,-zt.k1]
   exact k6
  ·simp -dsimp[-zt.k6,-zt.k1]
   exact k6
 have a10:k≠10:=λe=>h10 (.inl e);have a11:k≠11:=λe=>h10 (.inr (.inl e));have a14:k≠14:=λe=>h10 (.inr (.inr e));have q10:decide ((k.toNat:Int)=10)=false:=decide_eq_false λe=>a10 ((kq 10 (by omega)).1 e);have q11:decide ((k.toNat:Int)=11)=false:=decide_eq_false λe=>a11 ((kq 11 (by omega)).1 e);have q14:decide ((k.toNat:Int)=14)=false:=decide_eq_false λe=>a14 ((kq 14 (by omega)).1 e);simp -dsimp only[q10,q11,q14,B.cond_false,V.zhh,B.ze,zt.k6];refine star h1 (zb.le_refl h1) ?_;unfold zgg;rw[if_neg h4,if_neg h9,if_neg h13,if_neg h6,if_neg h10]
variable{C:zh}{N:zN}
abbrev gV:za×List Key->za:=λp=>p.1
def gOb(gs:zly Key (za×List Key)):List Ob:=gs.map λp=> .sl 1 p.2.1.1 (p.2.1.2.map tc) []
def addP(gs:zly Key (za×List Key))(r c:Key):List Key:=match zl1 gs r with|some q=>q.2++[c]|none=>[c]
theorem idxP_at{K T:Type}[DecidableEq K]{k:K}:∀{ps:zly K T}{i:Nat}{q:T×Nat},zvi ps k=some (i,q)->ps[i]?=some (k,q.1,q.2)
 | [],i,q,h=>by cases h
 | p::r,i,q,h=>by
  unfold zvi at h
  split at h
  ·rename_i e
   cases h
   rw[<-e];rfl
  ·cases hr:zvi r k with
   | none=>rw[hr]at h;cases h
   | some u=>
    obtain⟨j,u⟩:=u
    rw[hr]at h
    cases h
    show r[j]?=_
    exact idxP_at (ps:=r) hr
theorem group_add{h0 h:zb}{l:List Ob}{w d:Nat}{gs:zly Key (za×List Key)}{r c:Key}{K:zb->Prop}(ho:zcw h0 h (.blk w (zih (zqh sV gV gs) d)::(gOb gs++l)))(hl:∀q,zl1 gs r=some q->q.2.length <= 10000000)
  (hK:∀x' h',zcw h0 h' (.blk w (zih (zqh sV gV (zyf gs r (x',addP gs r c) d)) (clkP gs r d))::(gOb (zyf gs r (x',addP gs r c) d)++l))->K h'):
  B.pv (A.lkp h (some .s) (some .zbj) false (.mp w) (.str r)) λv30=>B.zg1 h (zed [(0,none,.str c)] (zfs 1 [.str []])) λi32 h=>B.zif h 1 16 v30 (.sl i32 0 0 1 1 1) λv33 h=>B.mset h .s (.mp w) (.str r) v33 K:=by
 have e1:A.lkp h (some .s) (some .zbj) false (.mp w) (.str r)=some (gV ((zl1 gs r).getD (.zbj,[]))):=ho.lkp (κ:=sV) (v:=gV) 0 rfl keyS (.zbj,[]) r;rw[e1];have hf:zed [(0,none,.str c)] (zfs 1 [.str []])=some [.str c]:=rfl;rw[hf];simp -dsimp only[B.ze];cases hg:zl1 gs r with
 | none=>
  have hi:zvi gs r=none:=by
   have:=zrr r gs;rw[hg]at this;cases e:zvi gs r with
   | none=>rfl
   | some q=>rw[e]at this;cases this
  have o1:zcw h0 h ((.blk w (zih (zqh sV gV gs) d)::(gOb gs++l))++[.sl 1 .zbj [] []]):=ho.zbj 1;refine o1.push _ endGet (cs:=[.str c]) rfl (by omega) (by simp) (by simp[maxLen]) λx' h2 o2 _=>?_;rw[endSet]at o2;have o2:zcw h0 h2 (.blk w (zih (zqh sV gV gs) d)::((gOb gs++l)++[.sl 1 x' ([c].map tc) []])):=o2;refine o2.mset (κ:=sV) (v:=gV) 0 rfl keyS r (x',[c]) λh3 o3 _ _=>?_;have e2:addP gs r c=[c]:=by unfold addP;rw[hg]
  refine hK x' h3 ?_;rw[e2,zls hi];rw[zls hi]at o3;refine o3.perm (List.Perm.cons _ ?_);unfold gOb;rw[map_append,append_assoc,append_assoc];exact List.Perm.append_left _ perm_append_comm
 | some q=>
  obtain⟨i,n,hi⟩:∃i n,zvi gs r=some (i,q,n):=by
   have:=zrr r gs;rw[hg]at this;cases e:zvi gs r with
   | none=>rw[e]at this;cases this
   | some p=>
    rw[e]at this;obtain⟨i,t,n⟩:=p;cases this;exact⟨i,n,rfl⟩
  have hat:gs[i]?=some (r,q,n):=idxP_at hi;have hi':i<gs.length:=(List.getElem?_eq_some_iff.1 hat).1;have hk:(Ob.blk w (zih (zqh sV gV gs) d)::(gOb gs++l))[i+1]?=some (.sl 1 q.1 (q.2.map tc) []):=by
   rw[getElem?_cons_succ,getElem?_append_left (by unfold gOb;rw[length_map];exact hi')];unfold gOb;rw[getElem?_map,hat];rfl
  have hql:=hl q hg;refine ho.push (i+1) hk (cs:=[.str c]) rfl (by omega) (by simp;omega) (by simp[maxLen];omega) λx' h2 o2 _=>?_;rw[set_cons_succ]at o2;refine o2.mset (κ:=sV) (v:=gV) 0 rfl keyS r (x',q.2++[c]) λh3 o3 _ _=>?_;have e2:addP gs r c=q.2++[c]:=by unfold addP;rw[hg]
  refine hK x' h3 ?_;rw[e2];have e3:=(zws (t:=(x',q.2++[c])) (c:=d) hi).1;have e4:gOb (zyf gs r (x',q.2++[c]) d)++l=(gOb gs++l).set i (.sl 1 x' ((q.2++[c]).map tc) []):=by
   rw[e3,set_append_left _ _ (by unfold gOb;rw[length_map];exact hi')];unfold gOb;rw[map_set]
  rw[e4,map_append];rw[set_cons_zero]at o3;exact o3
def cmpL:List Key->List Key->Int|[],[]=>0|[],_::_=> -1|_::_,[]=>1|a::l,b::m=>if a=b then cmpL l m else cmpB a b
def zp2:List Key->List Key->Bool|_,[]=>false|[],_::_=>true|a::l,b::m=>zij a b||(decide (a=b)&&zp2 l m)
theorem cmpL_neg:∀{l m:List Key},cmpL l m<0↔zp2 l m=true
 | [],[]=>by simp[cmpL,zp2]
 | [],_::_=>by simp[cmpL,zp2]
 | _::_,[]=>by simp[cmpL,zp2]
 | a::l,b::m=>by
  unfold cmpL zp2
  by_cases e:a=b
  ·subst e
   rw[if_pos rfl,cmpL_neg,zko]
   simp
  ·rw[if_neg e,zuo]
   simp[e]
theorem zy6:∀{l m:List Key},zp2 l m=true->zp2 m l=false
 | [],[],h=>by cases h
 | [],_::_,_=>rfl
 | _::_,[],h=>by cases h
 | a::l,b::m,h=>by
  unfold zp2 at h ⊢
  rw[Bool.or_eq_true,Bool.and_eq_true]at h
  rcases h with h|⟨h1,h2⟩
  ·rw[zpf h]
   have:¬ b=a:=λe=>by subst e;rw[zko]at h;cases h
   simp[this]
  ·have e:a=b:=of_decide_eq_true h1
   subst e
   rw[zko,zy6 h2];simp
theorem lessL_tri:∀{l m:List Key},zp2 l m=false->l=m \/ zp2 m l=true
 | [],[],_=> .inl rfl
 | [],_::_,h=>by cases h
 | _::_,[],_=> .inr rfl
 | a::l,b::m,h=>by
  unfold zp2 at h ⊢
  rw[Bool.or_eq_false_iff]at h
  obtain⟨h1,h2⟩:=h
  by_cases e:a=b
  ·subst e
   have h2:zp2 l m=false:=by simpa using h2
   rcases lessL_tri h2 with e|h3
   ·exact .inl (by rw[e])
   ·exact .inr (by simp[h3])
  ·exact .inr (by rw[zop h1 e];rfl)
theorem zxy:∀{l m n:List Key},zp2 l m=true->zp2 m n=true->zp2 l n=true
 | l,[],n,h,_=>by cases l<;>cases h
 | _,_::_,[],_,h=>by cases h
 | [],_::_,_::_,_,_=>rfl
 | a::l,b::m,c::n,h,k=>by
  unfold zp2 at h k ⊢
  rw[Bool.or_eq_true,Bool.and_eq_true]at h k ⊢
  rcases h with h|⟨h1,h2⟩
  ·rcases k with k|⟨k1,k2⟩
   ·exact .inl (zmh h k)
   ·have e:b=c:=of_decide_eq_true k1
    subst e;exact .inl h
  ·have e:a=b:=of_decide_eq_true h1
   subst e
   rcases k with k|⟨k1,k2⟩
   ·exact .inl k
   ·exact .inr ⟨k1,zxy h2 k2⟩
theorem weakL:zo6 (zgi cmpL):=by
 constructor<;>simp only[zgi,decide_eq_true_eq,decide_eq_false_iff_not,cmpL_neg]
 ·intro a b h;rw[zy6 h];simp
 ·intro a b c h1 h2 h3
  have h1:zp2 a b=false:=by simpa using h1
  have h2:zp2 b c=false:=by simpa using h2
  rcases lessL_tri h1 with e|h
  ·subst e;rw[h2]at h3;cases h3
  ·have:=zxy h h3
   rw[h2]at this;cases this
def ofT(I:List Itm):List (List Key):=((zci I).filter λc=>decide ((zd2 I c).head?=some c)).map (zd2 I)
theorem zn7{I:List Itm}{c:Key}(hc:c∈zci I):c∈zd2 I c:=((zfw hc).2 c).2 (.refl c)
theorem zmt{I:List Itm}{c d:Key}(hc:c∈zci I)(hd:d∈zd2 I c):zd2 I d=zd2 I c:=by
 have he:=((zfw hc).2 d).1 hd;have hdc:=he.zrc hc;refine zq2 (zfw hdc).1 (zfw hc).1 λy=>?_;rw[(zfw hdc).2,(zfw hc).2];exact⟨λh=> .trans he h,λh=> .trans (.symm he) h⟩
theorem mem_ofT{I:List Itm}{g:List Key}:g∈ofT I↔∃c∈zci I,g=zd2 I c:=by
 unfold ofT;rw[mem_map];constructor
 ·rintro⟨c,h,rfl⟩
  exact⟨c,(mem_filter.1 h).1,rfl⟩
 ·rintro⟨c,hc,rfl⟩
  have hs:=zn7 hc;cases hg:zd2 I c with
  | nil=>rw[hg]at hs;cases hs
  | cons a r=>
   have ha:a∈zd2 I c:=by rw[hg];exact mem_cons_self ..
   have hac:=(((zfw hc).2 a).1 ha).zrc hc;have e:=zmt hc ha;refine⟨a,mem_filter.2 ⟨hac,?_⟩,by rw[e,hg]⟩;rw[e,hg];simp
def headLt(g k:List Key):Prop:=∃a b,g.head?=some a /\ k.head?=some b /\ zij a b=true
theorem headLt_asym{g k:List Key}(h:headLt g k)(h2:headLt k g):False:=by
 obtain⟨a,b,e1,e2,h⟩:=h;obtain⟨c,d,f1,f2,h2⟩:=h2;rw[e2]at f1;cases f1;rw[e1]at f2;cases f2;rw[zpf h]at h2;cases h2
theorem ofT_rise(I:List Itm):(ofT I).Pairwise headLt:=by
 unfold ofT;rw[pairwise_map];refine List.Pairwise.imp_of_mem (λ{c d} hc hd h=>?_) ((zml I).filter _);have h1:=(mem_filter.1 hc).2;have h2:=(mem_filter.1 hd).2;exact⟨c,d,of_decide_eq_true h1,of_decide_eq_true h2,h⟩
theorem ofT_unique{I:List Itm}{L:List (List Key)}(hm:∀g,g∈L↔∃c∈zci I,g=zd2 I c)(hn:L.Nodup)(hs:L.Pairwise λs t=>¬ cmpL t s<0):L=ofT I:=by
 refine rise_ext (λa b h k=>headLt_asym h k) ?_ (ofT_rise I) λg=>by rw[hm,mem_ofT]
 have hp:L.Pairwise λs t=>s≠t /\ ¬ cmpL t s<0:=pairwise_and_iff.2 ⟨hn,hs⟩;refine hp.imp_of_mem λ{g k} hg hk ⟨hne,hc⟩=>?_;obtain⟨c,hcc,rfl⟩:=(hm g).1 hg;obtain⟨d,hdc,rfl⟩:=(hm k).1 hk;have hs1:=zn7 hcc;have hs2:=zn7 hdc;have e1:=λa=>zmt (I:=I) (c:=c) (d:=a) hcc;have e2:=λa=>zmt (I:=I) (c:=d) (d:=a) hdc;generalize zd2 I c=g at *;generalize zd2 I d=k at *;cases g with
 | nil=>cases hs1
 | cons a r=>
  cases k with
  | nil=>cases hs2
  | cons b q=>
   refine⟨a,b,rfl,rfl,?_⟩;have hab:a≠b:=λe=>by
    subst e;exact hne ((e1 a (mem_cons_self ..)).symm.trans (e2 a (mem_cons_self ..)))
   unfold cmpL at hc;rw[if_neg (Ne.symm hab),zuo]at hc;have hc:zij b a=false:=by simpa using hc
   exact zop hc (Ne.symm hab)
variable{C:zh}{N:zN}
def zda.Spec(C:zh)(N:zN):Prop:=∀(a b:Key)(h:zb)(Q:zQ),Q (.int .i64 (cmpB a b)) h->C (N 580) [.str a,.str b] h Q
theorem V.bin_sgtr(a b:List UInt8):V.bin .gtr (.str a) (.str b)=some (.bool (!(zij a b||a==b))):=rfl
theorem zda.spec(i:zda.Imp C N)(s1:zei.Spec C N):zda.Spec C N:=by
 intro a b h Q hq;apply i;simp -dsimp only[zda.cps,zda.k1];refine s1 _ _ _ ?_;refine s1 _ _ _ ?_;rw[zun]at hq;simp -dsimp only[B.cond_false,V.bin_slss,V.bin_sgtr,B.ze];refine B.zm (λh1=>?_) (λh1=>?_)
 ·rw[if_pos h1]at hq;exact zba hq
 ·rw[if_neg (by rw[h1];exact Bool.false_ne_true)]at hq
  refine B.zm (λh2=>?_) (λh2=>?_)
  ·have h2:(!(zij a b||a==b))=true:=h2
   rw[h1]at h2;have hne:¬ a=b:=by simpa using h2
   rw[if_pos (zop h1 hne)]at hq;exact zba hq
  ·have h2:(!(zij a b||a==b))=false:=h2
   rw[h1]at h2;have e:a=b:=by simpa using h2
   subst e;rw[zko]at hq;exact zba hq
def zb1.Spec(C:zh)(N:zN):Prop:=∀(x y:za)(L M:List Key)(R S:List (List za))(h:zb)(Q:zQ),SlX h 1 x (L.map tc) R->SlX h 1 y (M.map tc) S->L.length <= 100000000->M.length <= 100000000->Q (.int .i64 (cmpL L M)) h->C (N 578) [x,y] h Q
theorem cmpL_take:∀{k:Nat}{L M:List Key},k <= L.length->L.take k=M.take k->cmpL L M=cmpL (L.drop k) (M.drop k)
 | 0,_,_,_,_=>rfl
 | k+1,[],M,h,_=>by simp at h
 | k+1,a::l,[],h,e=>by simp at e
 | k+1,a::l,b::m,h,e=>by
  rw[take_succ_cons,take_succ_cons]at e
  obtain⟨e1,e2⟩:=List.cons.inj e
  rw[cmpL,if_pos e1,drop_succ_cons,drop_succ_cons]
  exact cmpL_take (by simpa using h) e2
theorem zb1.spec(i:zb1.Imp C N)(s1:zda.Spec C N):zb1.Spec C N:=by
 intro x y L M R S h Q hx hy hL hM hq;apply i;have lx:=hx.zbi;have ly:=hy.zbi;rw[length_map]at lx ly;simp -dsimp only[zb1.cps,zft.cps,lx,B.ze];refine zd.intro (λn vs hh=>hh=h /\ ∃k:Nat,k+n=L.length /\ vs=[.int .i64 (k:Int)] /\ L.take k=M.take k) L.length ?_ ⟨rfl,0,by simp,rfl,rfl⟩;rintro Y n vs h ⟨rfl,k,hk,rfl,ht⟩ hY;have hqk:=cmpL_take (by omega) ht;simp -dsimp only[zft.l3,zft.k2,V.zeh,B.ze];refine B.zm (λhc=>?_) (λhc=>?_)
 ·rw[decide_eq_true_eq]at hc
  obtain⟨a,ha⟩:=zgf (L:=L) (k:=k) (by omega);have hdl:L.drop k=a::L.drop (k+1):=by
   obtain⟨h1,h2⟩:=List.getElem?_eq_some_iff.1 ha;rw[drop_eq_getElem_cons h1,h2]
  have f1:V.zb3 1 x (.int .i64 (k:Int))=some (elp 1 x k 0):=hx.zjp (by rw[length_map];omega);have f2:A.ldv h (elp 1 x k 0)=some (.str a):=hx.cell (by rw[getElem?_map,ha];rfl);simp -dsimp only[zc7,f1,f2,B.zha,B.ze,ly,V.zk5];refine B.zm (λhd=>?_) (λhd=>?_)
  ·rw[decide_eq_true_eq]at hd
   have:M.drop k=[]:=drop_eq_nil_of_le (by omega);rw[hqk,hdl,this]at hq;exact zba hq
  ·rw[decide_eq_false_iff_not]at hd
   obtain⟨b,hb⟩:=zgf (L:=M) (k:=k) (by omega);have hdm:M.drop k=b::M.drop (k+1):=by
    obtain⟨h1,h2⟩:=List.getElem?_eq_some_iff.1 hb;rw[drop_eq_getElem_cons h1,h2]
   have g1:V.zb3 1 y (.int .i64 (k:Int))=some (elp 1 y k 0):=hy.zjp (by rw[length_map];omega);have g2:A.ldv h (elp 1 y k 0)=some (.str b):=hy.cell (by rw[getElem?_map,hb];rfl);simp -dsimp only[zc7,g1,g2,B.zha,B.ze];refine s1 a b h _ ?_;rw[hqk,hdl,hdm,cmpL]at hq;by_cases hab:a=b
   ·subst hab
    have z:cmpB a a=0:=cmpB_zero.2 rfl;rw[z];simp -dsimp[-V.zex];rw[zg8 (show k<4611686018427387904 by omega)];refine hY (L.length-(k+1)) _ _ (by omega) ⟨rfl,k+1,by omega,rfl,?_⟩;rw[take_succ ha,take_succ hb,ht]
   ·rw[if_neg hab]at hq
    have z:¬ cmpB a b=0:=λe=>hab (cmpB_zero.1 e);simp -dsimp[z];exact zba hq
 ·rw[decide_eq_false_iff_not]at hc
  have:k=L.length:=by omega
  subst this;rw[hqk,drop_length]at hq;simp -dsimp only[zft.k1,lx,ly,V.zeh,B.ze];refine B.zm (λhd=>?_) (λhd=>?_)
  ·rw[decide_eq_true_eq]at hd
   obtain⟨b,hb⟩:=zgf (L:=M) (k:=L.length) (by omega);have hdm:M.drop L.length=b::M.drop (L.length+1):=by
    obtain⟨h1,h2⟩:=List.getElem?_eq_some_iff.1 hb;rw[drop_eq_getElem_cons h1,h2]
   rw[hdm]at hq;exact zba hq
  ·rw[decide_eq_false_iff_not]at hd
   have:M.drop L.length=[]:=drop_eq_nil_of_le (by omega);rw[this]at hq;exact zba hq
variable{C:zh}{N:zN}
def zg0.Spec(C:zh)(N:zN):Prop:=∀(x y:za)(L M:List Key)(R S:List (List za))(h:zb)(Q:zQ),SlX h 1 x (L.map tc) R->SlX h 1 y (M.map tc) S->L.length <= 100000000->M.length <= 100000000->Q (.int .i64 (cmpL L M)) h->C (N 565) [x,y] h Q
theorem zg0.spec(i:zg0.Imp C N)(s1:zb1.Spec C N):zg0.Spec C N:=by
 intro x y L M R S h Q hx hy hl hm hq;apply i;simp -dsimp only[zg0.cps];exact s1 x y L M R S h _ hx hy hl hm (zba hq)
theorem subs{α:Type}{p:α->Prop}:∀{P:List α},(∀a∈P,p a)->∃G:List { a // p a },G.map (·.1)=P
 | [],_=>⟨[],rfl⟩
 | a::P,h=>by
  obtain⟨G,e⟩:=subs (P:=P) λb hb=>h b (mem_cons_of_mem _ hb)
  exact⟨⟨a,h a (by simp)⟩::G,by simp[e]⟩
abbrev zkk(p:za×List Key):Ob:= .sl 1 p.1 (p.2.map tc) []
abbrev zog(x:za)(P:List (za×List Key)):List Ob:=P.map zkk++[.sl 1 x (P.map λp=>[p.1]) []]
def zb5.Spec(C:zh)(N:zN):Prop:=∀(h0 h:zb)(x:za)(P:List (za×List Key))(Q:zQ),zcw h0 h (zog x P)->P.length <= 100000000->(∀p∈P,p.2.length <= 100000000)->(∀h' P',P'.Perm P->P'.Pairwise (λs t=>¬ cmpL t.2 s.2<0)->zcw h0 h' (zog x P')->Q (.tup []) h')->C (N 566) [x,.fn (N 565) [] []] h Q
theorem zb5.spec(i:zb5.Imp C N)(j1:zcn.Imp C N)(j2:zde.Imp C N)(j3:zdq.Imp C N)(j4:zca.Imp C N)
  (j5:zcz.Imp C N) (j6:zc5.Imp C N) (j7:zcv.Imp C N) (j8:zdl.Imp C N) (j9:zct.Imp C N) (k1:zdx.Imp C N)
  (k2:zdz.Imp C N) (k3:zcp.Imp C N) (k4:zdj.Imp C N) (k5:NextI C (N 298)) (k6:PowI C (N 299)) (hl:LenI C (N 287)) (s1:zg0.Spec C N):zb5.Spec C N:=by
 intro h0 h x P Q ho hlen hlens hq;have oo:=ho.out;generalize h.zox [Ob.sl 1 x (P.map λp=>[p.1]) []]=hb at *;have hat:∀p∈P,SlX hb 1 p.1 (p.2.map tc) [] /\ p.2.length <= 100000000:=λp hp=>⟨oo.1.is (zkk p) (mem_map.2 ⟨p,hp,rfl⟩),hlens p hp⟩;obtain⟨G,hG⟩:=subs hat;have hGl:G.length=P.length:=by have:=congrArg List.length hG;rwa [length_map]at this
 have hGc:G.map (λp:{ p:za×List Key // SlX hb 1 p.1 (p.2.map tc) [] /\ p.2.length <= 100000000 }=>[p.1.1])=P.map λp=>[p.1]:=by
  have:=congrArg (List.map λp:za×List Key=>[p.1]) hG;rw[map_map]at this;exact this
 have orw:Rw (zc7 24 .zbj 0) (λp:{ p:za×List Key // SlX hb 1 p.1 (p.2.map tc) [] /\ p.2.length <= 100000000 }=>[p.1.1]) hb h x G []:=by
  unfold Rw;rw[hGc];exact oo.2
 have hc:zeo C (λp:{ p:za×List Key // SlX hb 1 p.1 (p.2.map tc) [] /\ p.2.length <= 100000000 }=>p.1.1) (λa b:{ p:za×List Key // SlX hb 1 p.1 (p.2.map tc) [] /\ p.2.length <= 100000000 }=>cmpL a.1.2 b.1.2) (.fn (N 565) [] []) hb:=⟨λh' a b K hle hk=>s1 _ _ _ _ _ _ _ _ (a.2.1.mono hle) (b.2.1.mono hle) a.2.2 b.2.2 hk⟩;have J:PdqI C (zc7 24 .zbj 0) (N 581) (N 582) (N 579) (N 583) (N 584) (N 585) (N 586) (N 587) (N 588) (N 592) (N 589) (N 590) (N 591) (N 298) (N 299):=⟨j1,j2,j3,j4,j5,j6,j7,j8,j9,k1,k2,k3,k4,k5,k6⟩;have S:zds (zc7 24 .zbj 0) (λp:{ p:za×List Key // SlX hb 1 p.1 (p.2.map tc) [] /\ p.2.length <= 100000000 }=>[p.1.1]) (λp=>p.1.1):=seqS (by omega) λp=>p.2.1.zbm;have W:zo6 (zgi λa b:{ p:za×List Key // SlX hb 1 p.1 (p.2.map tc) [] /\ p.2.length <= 100000000 }=>cmpL a.1.2 b.1.2):=⟨λ{a b} h=>weakL.asym (a:=a.1.2) (b:=b.1.2) h,λ{a b c} h k=>weakL.zsv (a:=a.1.2) (b:=b.1.2) (c:=c.1.2) h k⟩;refine i _ _ _ _ (SortFunc_spec J hl S W hc (by rw[hGl];exact hlen) orw λh' G' hp hs o'=>zba ?_);have hP':(G'.map (·.1)).Perm P:=by have:=hp.map (·.1);rwa [hG]at this
 refine hq h' (G'.map (·.1)) hP' ?_ ?_
 ·rw[pairwise_map];exact hs
 ·have e:G'.map (λp:{ p:za×List Key // SlX hb 1 p.1 (p.2.map tc) [] /\ p.2.length <= 100000000 }=>[p.1.1])=(G'.map (·.1)).map λp=>[p.1]:=by rw[map_map];rfl
  unfold Rw at o';rw[e]at o';exact(oo.1.join o').perm (List.Perm.append_right _ (hP'.symm.map _))
variable{C:zh}{N:zN}
structure GsOk(g:Key->Option Key)(D:List Key)(gs:zly Key (za×List Key))(d:Nat):Prop where
 zqi:zni gs d
 nodup:(zhe gs).Nodup
 mem:∀r q,zl1 gs r=some q->q.2≠[] /\ q.2.Nodup /\ ∀c,c∈q.2↔c∈D /\ ∃n,zkg g n c r
 none:∀r,zl1 gs r=none->∀c∈D,¬ ∃n,zkg g n c r
theorem GsOk.add{g:Key->Option Key}{D:List Key}{gs:zly Key (za×List Key)}{d n:Nat}{r c:Key}{x:za}(k:GsOk g D gs d)(hc:c∉D)(hr:zkg g n c r):GsOk g (D++[c]) (zyf gs r (x,addP gs r c) d) (clkP gs r d):=by
 refine⟨k.zqi.put r _,zxq k.nodup r _ d,λs q h=>?_,λs h b hb=>?_⟩
 ·rw[zrt]at h
  by_cases hs:s=r
  ·subst hs
   rw[if_pos rfl]at h;cases h;unfold addP;cases hg:zl1 gs s with
   | none=>
    have h0:=k.none s hg;refine⟨by simp,by simp,λb=>?_⟩;simp only[mem_singleton,mem_append];constructor
    ·rintro rfl
     exact⟨.inr rfl,n,hr⟩
    ·rintro⟨h1|h1,h2⟩
     ·exact absurd h2 (h0 b h1)
     ·exact h1
   | some q=>
    obtain⟨h1,h2,h3⟩:=k.mem s q hg;have hcq:c∉q.2:=λe=>hc ((h3 c).1 e).1;refine⟨by simp,?_,λb=>?_⟩
    ·show (q.2++[c]).Nodup
     rw[nodup_append];exact⟨h2,by simp,λa ha b hb e=>hcq (by rw[mem_singleton]at hb;rw[<-hb,<-e];exact ha)⟩
    ·show b∈q.2++[c]↔_
     rw[mem_append,mem_singleton,mem_append,mem_singleton,h3];constructor
     ·rintro(⟨h4,h5⟩|rfl)
      ·exact⟨.inl h4,h5⟩
      ·exact⟨.inr rfl,n,hr⟩
     ·rintro⟨h4|h4,h5⟩
      ·exact .inl ⟨h4,h5⟩
      ·exact .inr h4
  ·rw[if_neg hs]at h
   obtain⟨h1,h2,h3⟩:=k.mem s q h;refine⟨h1,h2,λb=>?_⟩;rw[h3,mem_append,mem_singleton];constructor
   ·rintro⟨h4,h5⟩
    exact⟨.inl h4,h5⟩
   ·rintro⟨h4|rfl,h5⟩
    ·exact⟨h4,h5⟩
    ·obtain⟨m,h5⟩:=h5
     exact absurd (h5.det hr).2 hs
 ·rw[zrt]at h
  by_cases hs:s=r
  ·subst hs;rw[if_pos rfl]at h;cases h
  ·rw[if_neg hs]at h
   rcases mem_append.1 hb with hb|hb
   ·exact k.none s h b hb
   ·rw[mem_singleton.1 hb]
    rintro⟨m,h5⟩;exact hs (h5.det hr).2
theorem key_inj{K T:Type}:∀{ps:zly K T},(zhe ps).Nodup->∀{p q:K×T×Nat},p∈ps->q∈ps->p.1=q.1->p=q
 | [],_,_,_,h,_,_=>by cases h
 | a::r,hn,p,q,hp,hq,e=>by
  rw[zpj]at hn
  obtain⟨h1,h2⟩:=nodup_cons.1 hn
  rcases mem_cons.1 hp with h3|h3
  ·rcases mem_cons.1 hq with h4|h4
   ·rw[h3,h4]
   ·exact absurd (by rw[<-h3,e];exact mem_map.2 ⟨q,h4,rfl⟩) h1
  ·rcases mem_cons.1 hq with h4|h4
   ·exact absurd (by rw[<-h4,<-e];exact mem_map.2 ⟨p,h3,rfl⟩) h1
   ·exact key_inj h2 h3 h4 e
theorem Of_first{h1 h2:zb}{pid m w c:Nat}{ps:zly Key Key}{ks:Key->Prop}{E:Key->Key->Prop}{Q:zQ}(s1:zc6.Spec C N)(ua:UpAt h1 (.ptr pid 0 0) m ps c)(hu:UpIs ps c ks E)(hps:ps.length <= 1000000)(ho:zcw h1 h2 [.blk w (zih (zqh sV gV []) 0)])
  (hq:∀gs d h3,zcw h1 h3 (.blk w (zih (zqh sV gV gs) d)::gOb gs)->GsOk (zl1 ps) (zhe ps) gs d->B.rangeMap h3 (.mp w) λv35 h=>zd (zer.l2 C N Q v35) [.zbj] h):
  B.rangeMap h2 (.mp m) λv17 h=>zd (zer.l4 C N Q (.fn (N 577) [] [.ptr pid 0 0]) (.mp w) v17) [] h:=by
 refine zcw.zu5 (κ:=sV) (v:=sV) (ps:=ps) (c:=c) (J:=λD l vs=>vs=[] /\ ∃gs d,l= .blk w (zih (zqh sV gV gs) d)::(gOb gs++[]) /\ GsOk (zl1 ps) (zhe D) gs d)
  (REST:=λit vs v h Y=>match vs with
   | []=>B.pv (V.ext 0 v) λv19=>B.cond v19
    (B.pv (A.zkf h it) λv20=>B.pv (V.ext 0 v20) λv21=>B.zi0 h C (.fn (N 577) [] [.ptr pid 0 0]) [v21] λv25 h=>B.zi0 h C (.fn (N 577) [] [.ptr pid 0 0]) [v21] λv29 h=>
     B.pv (A.lkp h (some .s) (some (.zbj)) false (.mp w) v29) λv30=>B.zg1 h (zed [(0,none,v21)] (zfs 1 [.str []])) λi32 h=>B.zif h 1 16 v30 (.sl i32 0 0 1 1 1) λv33 h=>B.mset h .s (.mp w) v25 v33 λh=>Y [] h)
    (B.rangeMap h (.mp w) λv35 h=>zd (zer.l2 C N Q v35) [.zbj] h)
   | _=>False) (l:=[.blk w (zih (zqh sV gV []) 0)]) ho ua.map hu.zqi ⟨rfl,[],0,rfl,zni.nil 0,.nil,λr q h=>(by cases h),λr _ c hc=>(by cases hc)⟩ ?_ ?_ ?_
 ·rintro it vs h3 Y3 D l ⟨rfl,_⟩ hn
  exact hn
 ·rintro it h3 D l b Y3 vs ⟨rfl,gs,d,rfl,hk⟩ hp o
  simp -dsimp only[V.zit,getElem?_cons_zero,B.ze,B.cond_false];refine hq gs d h3 (o.sub ?_) ?_
  ·rw[append_nil];exact sublist_append_left _ _
  ·have hm:∀c,c∈zhe D↔c∈zhe ps:=λc=>(hp.map (·.1)).mem_iff
   exact⟨hk.zqi,hk.nodup,λr q h=>by
    obtain⟨h1,h2,h3⟩:=hk.mem r q h;exact⟨h1,h2,λc=>by rw[h3,hm]⟩,λr h c hc=>hk.none r h c ((hm c).2 hc)⟩
 ·rintro it h3 D l b Y3 vs p hpm ⟨rfl,gs,d,rfl,hk⟩ hsub hpD hDl o he hY3
  have hpk:ks p.1:=(hu.uf.dom p.1).1 ⟨p.2.1,mem_getP hu.nodup hpm⟩;obtain⟨t,r,hr⟩:=hu.uf.root p.1 hpk;have uh:=ua.mono o.le;simp -dsimp only[V.zit,getElem?_cons_zero,getElem?_cons_succ,B.ze,B.cond_true,he];rw[B.zou];refine s1 h3 _ m ps c t p.1 r _ uh hr ?_;rw[B.zou];refine s1 h3 _ m ps c t p.1 r _ uh hr ?_;have hcD:p.1∉zhe D:=λhm=>by
   obtain⟨q,hq,e⟩:=mem_map.1 hm;have:=key_inj hu.nodup (hsub q hq) hpm e;subst this;exact hpD hq
  refine group_add (l:=[.blk it b]) (by rw[append_nil]at o;exact o) (λq hq=>?_) λx' h4 o4=>?_
  ·obtain⟨_,h2,h3⟩:=hk.mem r q hq
   have:=h2.length_le_of_subset (l₂:=zhe D) λc hc=>((h3 c).1 hc).1;have e:(zhe D).length=D.length:=by simp[zhe]
   omega
  ·refine hY3 h4 _ _ ⟨rfl,_,_,rfl,?_⟩ (by rw[append_nil];exact o4)
   unfold zhe;rw[map_append];exact hk.add hcD hr
variable{C:zh}{N:zN}
theorem GsOk.group{I:List Itm}{g:Key->Option Key}{D:List Key}{gs:zly Key (za×List Key)}{d:Nat}(u:UF g (λc=>c∈zci I) (zsp I))(hD:∀c,c∈D↔c∈zci I)(k:GsOk g D gs d){p:Key×(za×List Key)×Nat}(hp:p∈gs):
  p.1∈zci I /\ (∀y,y∈p.2.1.2↔y∈zd2 I p.1) /\ p.2.1.2.Nodup /\ zkg g 0 p.1 p.1:=by
 obtain⟨h1,h2,h3⟩:=k.mem p.1 p.2.1 (mem_getP k.nodup hp);obtain⟨c,hc⟩:=exists_mem_of_ne_nil _ h1;obtain⟨_,n,hr⟩:=(h3 c).1 hc;have r0:zkg g 0 p.1 p.1:=⟨hr.top,rfl⟩;have hk:=r0.isKey u;refine⟨hk,λy=>?_,h2,r0⟩;rw[h3,(zfw hk).2,hD];constructor
 ·rintro⟨h4,m,h5⟩
  exact(u.same.1 (⟨p.1,0,m,r0,h5⟩:zuq g p.1 y)).2.2
 ·intro h4
  have hy:=h4.zrc hk;obtain⟨q,i,j,h5,h6⟩:=u.same.2 ⟨hk,hy,h4⟩;obtain⟨_,rfl⟩:=h5.det r0;exact⟨hy,j,h6⟩
def srtO(I:List Itm)(gs D:zly Key (za×List Key)):List Ob:=gs.map λp=>zkk (p.2.1.1,if p.1∈zhe D then zd2 I p.1 else p.2.1.2)
theorem permEnd{α:Type}{X A B:List α}{a z:α}:(X++(A++a::B)++[z]).Perm ((X++(A++B)++[z])++[a]):=by
 have h:(A++a::B).Perm ((A++B)++[a]):=by
  refine perm_middle.trans ?_;exact(perm_append_comm (l₁:=[a]))
 refine(List.Perm.append_right [z] (List.Perm.append_left X h)).trans ?_;simp only[append_assoc];refine List.Perm.append_left X (List.Perm.append_left A (List.Perm.append_left B ?_));exact List.Perm.swap ..
theorem sorted_rise{L:List Key}(h:SortedB L)(hn:L.Nodup):zkr L:=by
 have hp:L.Pairwise λs t=>zij t s=false /\ s≠t:=pairwise_and_iff.2 ⟨h,hn⟩;exact hp.imp λ{a b} ⟨h1,h2⟩=>zop h1 (Ne.symm h2)
theorem setMid{α:Type}{X R:List α}{a b:α}:(X++[a]++R).set X.length b=X++[b]++R:=by
 rw[append_assoc,set_append_right _ _ (Nat.le_refl _),Nat.sub_self,append_assoc];rfl
theorem permT{α:Type}{X SA SB:List α}{O it ob cl:α}:(X++[O]++((SA++SB)++[it]++[ob]++[cl])).Perm ((X++[cl])++[O]++(SA++ob::SB)++[it]):=by
 classical
 exact perm_iff_count.2 λa=>by
  simp only[count_append,count_cons,count_nil];omega
def zer.Spec(C:zh)(N:zN):Prop:=∀(x:za)(I:List Itm)(h:zb)(Q:zQ),Dl zd3 h x I->I.length <= 1000000->(∀x' P h',P.map (·.2)=ofT I->zcw h h' (zog x' P)->Q x' h')->C (N 554) [x] h Q
theorem zer.spec(i:zer.Imp C N)(s0:zz.Spec C N)(s1:zc6.Spec C N)(s2:zb7.Spec C N)(s3:zbv.Spec C N)(s4:zb5.Spec C N):zer.Spec C N:=by
 intro x I h Q hx hI hq;apply i;simp -dsimp only[zer.cps,zer.k5];refine s0 x I h _ hx (by omega) λm p ps c h1 o1 hu=>?_;obtain⟨pid,e,bp⟩:=o1.zts 1 rfl;subst e;have ua:UpAt h1 (.ptr pid 0 0) m ps c:=⟨by rw[zpg bp];rfl,o1.at 0 rfl⟩;simp -dsimp only[V.zit,getElem?_cons_zero,getElem?_cons_succ,B.ze];refine(zcw.start h1).zsw sV gV λw h2 hw o2 _=>?_;have hkeys:∀k,k∈zhe ps↔k∈zci I:=λk=>by
  rw[<-hu.uf.dom k];cases e:zl1 ps k with
  | none=>exact⟨λhk=>absurd hk (zuh.1 e),λ⟨d,hd⟩=>by cases hd⟩
  | some v=>exact⟨λ_=>⟨v,rfl⟩,λ_=>Classical.byContradiction λhn=>by rw[zuh.2 hn]at e;cases e⟩
 have hps:ps.length <= 1000000:=by
  have e1:ps.length=(zhe ps).length:=by simp[zhe]
  have e2:=hu.nodup.length_le_of_subset (l₂:=zci I) λk hk=>(hkeys k).1 hk;have:=zry I;omega
 refine Of_first s1 ua hu hps o2 λgs d h3 o3 hk=>?_;have grp:=fun{p}(hp:p∈gs)=>hk.group hu.uf hkeys hp;have hgs:gs.length <= 1000000:=by
  have e1:gs.length=(zhe gs).length:=by simp[zhe]
  have e2:=hk.nodup.length_le_of_subset (l₂:=zci I) λk hkk=>by
   obtain⟨p,hp,rfl⟩:=mem_map.1 hkk;exact(grp hp).1
  have:=zry I;omega
 have glen:∀{c},c∈zci I->(zd2 I c).length <= 1000000:=λ{c} hc=>by
  have:=(zgv (zfw hc).1).length_le_of_subset (l₂:=zci I) λy hy=>(((zfw hc).2 y).1 hy).zrc hc;have:=zry I;omega
 obtain⟨hb,b1,b2,o4,a4⟩:=(o3.perm (perm_append_comm (l₁:=[_]))).lay;have hbw:hb w=some (zih (zqh sV gV gs) d):=a4 (.blk w (zih (zqh sV gV gs) d)) (by simp);have o5:zcw hb h3 (zog .zbj []++srtO I gs []):=by
  have e:srtO I gs []=gOb gs:=by
   unfold srtO gOb;refine map_congr_left λp _=>?_;simp[zhe]
  rw[e];exact(o4.zbj 1).perm perm_append_comm
 refine zcw.zu5 (κ:=sV) (v:=gV) (ps:=gs) (c:=d) (J:=λD l vs=>∃out P,vs=[out] /\ P.map (·.2)=D.map (λp=>zd2 I p.1) /\ l=zog out P++srtO I gs D)
  (REST:=λit vs v h Y=>match vs with
   | [v7]=>B.pv (V.ext 0 v) λv37=>B.cond v37
    (B.pv (A.zkf h it) λv38=>B.pv (V.ext 1 v38) λv39=>B.call C (N 364) [v39] h λv41 h=>B.call C (N 567) [v39] h λv44 h=>
     B.zg1 h (zed [(0,none,v44)] (zfs 1 [.zbj])) λi45 h=>B.zif h 1 24 v7 (.sl i45 0 0 1 1 1) λv46 h=>Y [v46] h)
    (B.call C (N 566) [v7,(.fn (N 565) [] [])] h λv48 h=>dn Q v7 h)
   | _=>False) o5 hbw hk.zqi ⟨.zbj,[],rfl,rfl,rfl⟩ ?_ ?_ ?_
 ·rintro it vs h4 Y3 D l ⟨out,P,rfl,_⟩ hn
  exact hn
 ·rintro it h4 D l b Y3 vs ⟨out,P,rfl,eP,rfl⟩ hp o
  simp -dsimp only[V.zit,getElem?_cons_zero,B.ze,B.cond_false];have hPl:P.length=gs.length:=by
   have:=congrArg List.length eP;rw[length_map,length_map]at this;rw[this,hp.length_eq]
  have hDm:∀g,g∈D.map (λp=>zd2 I p.1)↔∃c∈zci I,g=zd2 I c:=λg=>by
   rw[mem_map];constructor
   ·rintro⟨p,h1,rfl⟩
    exact⟨p.1,(grp (hp.mem_iff.1 h1)).1,rfl⟩
   ·rintro⟨c,hc,rfl⟩
    obtain⟨n,r,hr⟩:=hu.uf.root c hc;cases e:zl1 gs r with
    | none=>exact absurd ⟨n,hr⟩ (hk.none r e c ((hkeys c).2 hc))
    | some q=>
     obtain⟨j,hj⟩:=getP_mem e;refine⟨(r,q,j),hp.mem_iff.2 hj,?_⟩;have hrc:r∈zd2 I c:=((zfw hc).2 r).2 (hr.eqv hu.uf);exact zmt hc hrc
  refine s4 hb h4 out P _ (o.sub (by rw[append_assoc];exact sublist_append_left _ _)) (by omega) (λp hp'=>?_) λh5 P' pp srt o6=>?_
  ·have:p.2∈D.map (λp=>zd2 I p.1):=by rw[<-eP];exact mem_map.2 ⟨p,hp',rfl⟩
   obtain⟨c,hc,e⟩:=(hDm _).1 this;rw[e];have:=glen hc;omega
  ·have hnd:(D.map λp=>zd2 I p.1).Nodup:=by
    have hD:D.Pairwise λp q=>p.1≠q.1:=by
     have:(zhe D).Nodup:=(hp.map (λp:Key×(za×List Key)×Nat=>p.1)).nodup_iff.2 hk.nodup;exact pairwise_map.1 this
    refine pairwise_map.2 (hD.imp_of_mem λ{p q} h1 h2 hne e=>hne ?_);have g1:=grp (hp.mem_iff.1 h1);have g2:=grp (hp.mem_iff.1 h2);have hm:q.1∈zd2 I p.1:=by rw[e];exact zn7 g2.1
    obtain⟨r,i,j,h5,h6⟩:=hu.uf.same.2 ⟨g1.1,g2.1,((zfw g1.1).2 _).1 hm⟩;rw[<-(h5.det g1.2.2.2).2,<-(h6.det g2.2.2.2).2]
   have e:P'.map (·.2)=ofT I:=by
    have pm:(P'.map (·.2)).Perm (D.map λp=>zd2 I p.1):=by rw[<-eP];exact pp.map _
    refine ofT_unique (λg=>by rw[pm.mem_iff,hDm]) (pm.nodup_iff.2 hnd) ?_;rw[pairwise_map];exact srt
   exact zba (hq out P' h5 e ((o6.back b1).back o1.le))
 ·rintro it h4 D l b Y3 vs p hpm ⟨out,P,rfl,eP,rfl⟩ hsub hpD hDl o he hY3
  obtain⟨pk,hmem,hnd,hr0⟩:=grp hpm;have hkD:p.1∉zhe D:=λhm=>by
   obtain⟨q,hq',e⟩:=mem_map.1 hm;have:=key_inj hk.nodup (hsub q hq') hpm e;subst this;exact hpD hq'
  have hPl:P.length=D.length:=by
   have:=congrArg List.length eP
   rwa [length_map,length_map]at this
  obtain⟨GA,GB,hAB⟩:=append_of_mem hpm;have hkn:p.1∉zhe GA /\ p.1∉zhe GB:=by
   have:=hk.nodup;rw[hAB]at this;unfold zhe at this ⊢;rw[map_append,map_cons,nodup_append]at this;obtain⟨_,h5,h6⟩:=this;exact⟨λhm=>h6 _ hm _ (mem_cons_self ..) rfl,(nodup_cons.1 h5).1⟩
  have hsame:∀(X:zly Key (za×List Key)),p.1∉zhe X->(X.map λq=>zkk (q.2.1.1,if q.1∈zhe (D++[p]) then zd2 I q.1 else q.2.1.2))=X.map λq=>zkk (q.2.1.1,if q.1∈zhe D then zd2 I q.1 else q.2.1.2):=λX hX=>by
   refine map_congr_left λq hq'=>?_;have hne:q.1≠p.1:=λe=>hX (by rw[<-e];exact mem_map.2 ⟨q,hq',rfl⟩);have:q.1∈zhe (D++[p])↔q.1∈zhe D:=by
    unfold zhe;rw[map_append,mem_append];simp[hne]
   by_cases hq2:q.1∈zhe D
   ·rw[if_pos hq2,if_pos (this.2 hq2)]
   ·rw[if_neg hq2,if_neg λe=>hq2 (this.1 e)]
  have eD:srtO I gs D=(GA.map λq=>zkk (q.2.1.1,if q.1∈zhe D then zd2 I q.1 else q.2.1.2))++zkk (p.2.1.1,p.2.1.2)::(GB.map λq=>zkk (q.2.1.1,if q.1∈zhe D then zd2 I q.1 else q.2.1.2)):=by
   unfold srtO;rw[hAB,map_append,map_cons,if_neg hkD]
  have eD':srtO I gs (D++[p])=(GA.map λq=>zkk (q.2.1.1,if q.1∈zhe D then zd2 I q.1 else q.2.1.2))++zkk (p.2.1.1,zd2 I p.1)::(GB.map λq=>zkk (q.2.1.1,if q.1∈zhe D then zd2 I q.1 else q.2.1.2)):=by
   unfold srtO;have:p.1∈zhe (D++[p]):=by unfold zhe;simp
   rw[hAB,map_append,map_cons,if_pos this,hsame GA hkn.1,hsame GB hkn.2]
  rw[eD]at o;rw[eD']at hY3;generalize (GA.map λq=>zkk (q.2.1.1,if q.1∈zhe D then zd2 I q.1 else q.2.1.2))=SA at *;generalize (GB.map λq=>zkk (q.2.1.1,if q.1∈zhe D then zd2 I q.1 else q.2.1.2))=SB at *;simp -dsimp only[V.zit,getElem?_cons_zero,getElem?_cons_succ,B.ze,B.cond_true,he];obtain⟨q1,q2⟩:=(o.perm permEnd).out;have hpl:p.2.1.2.length <= 1000000:=by
   have:=hnd.length_le_of_subset (l₂:=zd2 I p.1) λy hy=>(hmem y).1 hy;have:=glen pk;omega
  refine s2 _ h4 p.2.1.1 p.2.1.2 [] _ q2 (by omega) λh5 L' lp ls o5=>?_;have eL:L'=zd2 I p.1:=zq2 (sorted_rise ls (lp.nodup_iff.2 hnd)) (zfw pk).1 λy=>by rw[lp.mem_iff,hmem]
  subst eL;refine s3 p.2.1.1 _ [] h5 _ (o5.zgz 0 rfl) (by have:=glen pk;omega) λz h6 o6=>?_;have cz:z.zbm=true:=(o6.zgz 0 rfl).zbm;have hf:zed [(0,none,z)] (zfs 1 [.zbj])=some [z]:=by simp -dsimp[cz,zfs]
  rw[hf];have o7:=(q1.join o5).join o6;have hidx:((((((P.map zkk++[Ob.sl 1 out (P.map λp=>[p.1]) []])++(SA++SB))++[Ob.blk it b])++[Ob.sl 1 p.2.1.1 ((zd2 I p.1).map tc) []])++[Ob.sl 1 z ((zd2 I p.1).map tc) []]):List Ob)[P.length]?=some (.sl 1 out (P.map λp=>[p.1]) []):=by
   simp
  refine o7.push P.length hidx (cs:=[z]) rfl (by omega) (by simp;omega) (by simp[maxLen];omega) λout' h8 o8 _=>?_;refine hY3 h8 _ _ ⟨out',P++[(z,zd2 I p.1)],rfl,by rw[map_append,eP,map_append];rfl,rfl⟩ (o8.perm ?_);have e1:((((((P.map zkk++[Ob.sl 1 out (P.map λp=>[p.1]) []])++(SA++SB))++[Ob.blk it b])++[Ob.sl 1 p.2.1.1 ((zd2 I p.1).map tc) []])++[Ob.sl 1 z ((zd2 I p.1).map tc) []]):List Ob)=(P.map zkk)++[Ob.sl 1 out (P.map λp=>[p.1]) []]++((SA++SB)++[Ob.blk it b]++[Ob.sl 1 p.2.1.1 ((zd2 I p.1).map tc) []]++[Ob.sl 1 z ((zd2 I p.1).map tc) []]):=by
   simp only[append_assoc]
  have e2:P.length=(P.map zkk).length:=by simp
  show List.Perm (List.set ((((((P.map zkk++[Ob.sl 1 out (P.map λp=>[p.1]) []])++(SA++SB))++[Ob.blk it b])++[Ob.sl 1 p.2.1.1 ((zd2 I p.1).map tc) []])++[Ob.sl 1 z ((zd2 I p.1).map tc) []]):List Ob) P.length _) _;rw[e1,e2,setMid];unfold zog;rw[map_append,map_append];exact permT
variable{C:zh}{N:zN}
def zcg.Spec(C:zh)(N:zN):Prop:=∀(x:za)(L:List Itm)(h:zb)(Q:zQ),Dl zyl h x L->L.length<4611686018427387904->(∀t∈L,t.inLen)->(∀n:Nat,n<1000000000000000000->(n <= 2000->∀t∈L,t.zgc.length+t.zep.length <= n)->Q (.int .i64 n) h)->C (N 564) [x] h Q
theorem zcg.spec(i:zcg.Imp C N):zcg.Spec C N:=by
 intro x L h Q hx hlen hin hq;apply i;refine zd.intro (λt vs hh=>hh=h /\ ∃k n:Nat,k+t=L.length /\ vs=[.int .i64 (n:Int),.int .i64 (k:Int)] /\ n<1000000000000000000 /\ (n <= 2000->∀t∈L.take k,t.zgc.length+t.zep.length <= n)) L.length ?_ ⟨rfl,0,0,by omega,rfl,by omega,λ_ t h=>(by simp at h)⟩;rintro Y t vs h ⟨rfl,k,n,ht,rfl,hn,hall⟩ hY;have hend:(2000<n \/ k=L.length)->dn Q (.int .i64 (n:Int)) h:=λhor=>by
  refine zba (hq n hn λhle=>?_);have hk:k=L.length:=hor.resolve_left (by omega);subst hk;rw[take_length]at hall;exact hall hle
 simp -dsimp only[zcg.l7,zcg.k6,hx.zbi,zqg,B.ze];by_cases hk:k<L.length
 rotate_left
 ·have:=hend (.inr (by omega))
  simp -dsimp[hk];exact this
 by_cases h4:n <= 2000
 rotate_left
 ·have h4':¬ (n:Int) <= 2000:=by omega
  have:=hend (.inl (by omega));simp -dsimp[hk,h4'];exact this
 have h4':(n:Int) <= 2000:=by omega
 obtain⟨r,hr⟩:=zgf hk;have hrm:=mem_of_getElem? hr;obtain⟨n1,n2,n3,hpl,hol⟩:=hin r hrm;obtain⟨p,o,e1,e3,e4,e5,e6,e7,e8,⟨R1,a1⟩,el1,⟨R2,a2⟩,el2⟩:=itm_getW hx hr;have hk1:=zg8 (show k<4611686018427387904 by omega);have b1:V.bin .add (.int .i64 (n:Int)) (.int .i64 1)=some (.int .i64 ((n+1:Nat):Int)):=zg8 (by omega);have b2:=zlc (a:=n+1) (b:=r.Code.length / 20) (by omega);have b3:=zlc (a:=n+1+r.Code.length / 20) (b:=r.zgc.length) (by omega);have b4:=zlc (a:=n+1+r.Code.length / 20+r.zgc.length) (b:=r.zep.length) (by omega);have lc:V.zkp (.str r.Code)=some (.int .i64 (r.Code.length:Int)):=rfl;simp -dsimp[hk,h4',-zcg.k5];simp -dsimp only[zcg.k5,B.zha,B.ze,e1,e3,e4,e5,e6,e7,e8,el1,el2,lc,quo20 n1,b1,b2,b3,b4];refine zd.intro (λt vs h2=>h2=h /\ ∃q m:Nat,q+t=r.zgc.length /\ vs=[.int .i64 (m:Int),.int .i64 (q:Int)] /\ m<1000000000000000000 /\ n+1+r.Code.length / 20+r.zgc.length+r.zep.length <= m) r.zgc.length ?_ ⟨rfl,0,_,by omega,rfl,by omega,Nat.le_refl _⟩;rintro Z t2 vs h2 ⟨rfl,q,m,ht2,rfl,hm,hle⟩ hZ;simp -dsimp only[zcg.l4,zcg.k3,e1,e4,B.zha,e7,el1,zqg,B.ze];have hnext:zd (zcg.l2 C N (dn Q) Y x (.int .i64 (k:Int))) [.int .i64 (m:Int),.int .i64 0] h2:=by
  refine zd.intro (λt vs h3=>h3=h2 /\ ∃q m2:Nat,q+t=r.zep.length /\ vs=[.int .i64 (m2:Int),.int .i64 (q:Int)] /\ m2<1000000000000000000 /\ m <= m2) r.zep.length ?_ ⟨rfl,0,m,by omega,rfl,hm,Nat.le_refl _⟩;rintro W t3 vs h3 ⟨rfl,q,m2,ht3,rfl,hm2,hle2⟩ hW;simp -dsimp only[zcg.l2,zcg.k1,e1,e5,B.zha,e8,el2,zqg,B.ze]
  have hout:Y [.int .i64 (m2:Int),.int .i64 ((k+1:Nat):Int)] h3:=hY (t-1) _ _ (by omega) ⟨rfl,k+1,m2,by omega,rfl,hm2,λh4k y hy=>by
   rw[take_add_one,hr,mem_append]at hy;rcases hy with hy|hy
   ·have:=hall h4 y hy;omega
   ·have:y=r:=by simpa using hy
    rw[this];omega⟩
  by_cases hq1:q<r.zep.length
  rotate_left
  ·simp -dsimp[hq1,hk1,-V.zex]
   exact hout
  by_cases hq2:m2 <= 2000
  rotate_left
  ·have:¬ (m2:Int) <= 2000:=by omega
   simp -dsimp[hq1,this,hk1,-V.zex];exact hout
  have hq2':(m2:Int) <= 2000:=by omega
  have hg:(r.zep.map tc)[q]?=some (tc r.zep[q]):=by rw[getElem?_map,getElem?_eq_getElem hq1];rfl
  have hidx:V.zb3 1 o (.int .i64 (q:Int))=some (elp 1 o q 0):=a2.zjp (by simpa using hq1);have hcell:A.ldv h3 (elp 1 o q 0)=some (.str r.zep[q]):=a2.cell hg;have n4:=n3 _ (getElem_mem hq1);have lo:V.zkp (.str r.zep[q])=some (.int .i64 (r.zep[q].length:Int)):=rfl;have b5:=zlc (a:=m2) (b:=r.zep[q].length / 20) (by omega);simp -dsimp[hq1,hq2',-V.zex,-V.zmy];simp -dsimp only[e1,e5,e8,hidx,hcell,lo,quo20 n4,b5,zg8 (show q<4611686018427387904 by omega),B.zha,B.ze];exact hW (t3-1) _ _ (by omega) ⟨rfl,q+1,_,by omega,rfl,by omega,by omega⟩
 by_cases hq1:q<r.zgc.length
 rotate_left
 ·simp -dsimp[hq1,-zcg.l2]
  exact hnext
 by_cases hq2:m <= 2000
 rotate_left
 ·have:¬ (m:Int) <= 2000:=by omega
  simp -dsimp[hq1,this,-zcg.l2];exact hnext
 have hq2':(m:Int) <= 2000:=by omega
 have hg:(r.zgc.map Part.cs)[q]?=some r.zgc[q].cs:=by rw[getElem?_map,getElem?_eq_getElem hq1];rfl
 have hl:q<(r.zgc.map Part.cs).length:=by simpa using hq1
 have g1:V.zb3 2 p (.int .i64 (q:Int))=some (elp 2 p q 0):=a1.zjp hl;have g2:V.fieldAddr 0 (elp 2 p q 0)=some (elp 2 p q 0):=a1.zot hl 0 0;have g3:A.ldv h2 (elp 2 p q 0)=some (.str r.zgc[q].Item):=a1.ldv hg (by decide);have n4:=n2 _ (getElem_mem hq1);have lo:V.zkp (.str r.zgc[q].Item)=some (.int .i64 (r.zgc[q].Item.length:Int)):=rfl;have b5:=zlc (a:=m) (b:=r.zgc[q].Item.length / 20) (by omega);simp -dsimp[hq1,hq2',-V.zex,-V.zmy];simp -dsimp only[e1,e4,e7,g1,g2,g3,lo,quo20 n4,b5,zg8 (show q<4611686018427387904 by omega),B.zha,B.ze];exact hZ (t2-1) _ _ (by omega) ⟨rfl,q+1,_,by omega,rfl,by omega,by omega⟩
structure ItmB(L:List Itm):Prop where
 n:L.length <= 70
 ok:∀t∈L,t.zgc.length+t.zep.length <= 300
theorem ItmB.at{h:zb}{x:za}{L:List Itm}(b:ItmB L)(hx:Dl zyl h x L):Dl zd3 h x L:=itemW_K hx λt ht=>by have:=b.ok t ht;unfold Itm.ok few;omega
def zdu.Spec(C:zh)(N:zN):Prop:=∀(x y:za)(L:List Itm)(M:List Key)(R:List (List za))(h:zb)(Q:zQ),Dl zyl h x L->L.length<4611686018427387904->(∀t∈L,t.inLen)->SlX h 1 y (M.map tc) R->M.length<4611686018427387904->(∀c∈M,c.length<4611686018427387904)->(∀b:Bool,(b=false->ItmB L /\ M.length <= 200)->Q (.bool b) h)->C (N 555) [x,y] h Q
theorem zdu.spec(i:zdu.Imp C N)(s1:zcg.Spec C N):zdu.Spec C N:=by
 intro x y L M R h Q hx hlen hin hy hM hc hq;have ly:=hy.zbi;rw[length_map]at ly;have lx:=hx.zbi;apply i;refine zd.intro (λt vs hh=>hh=h /\ ∃k n:Nat,k+t=M.length /\ vs=[.int .i64 (n:Int),.int .i64 (k:Int)] /\ n<1000000000000000000 /\ k <= n) M.length ?_ ⟨rfl,0,0,by omega,rfl,by omega,by omega⟩;rintro Y t vs h ⟨rfl,k,n,ht,rfl,hn,hkn⟩ hY;have hend:(200<n \/ k=M.length)->zdu.k1 C N (dn Q) x (.int .i64 (n:Int)) h:=λhor=>by
  simp -dsimp only[zdu.k1];refine s1 x L h _ hx hlen hin λm hm hall=>?_;by_cases h3:300<m
  ·have h3':(300:Int)<m:=by omega
   simp -dsimp[h3'];exact zba (hq true λe=>by cases e)
  ·have h3':¬ (300:Int)<m:=by omega
   by_cases h7:70<L.length
   ·have h7':(70:Int)<L.length:=by omega
    simp -dsimp[h3',lx,h7',h7];exact zba (hq true λe=>by cases e)
   ·have h7':¬ (70:Int)<L.length:=by omega
    by_cases h2:200<n
    ·have h2':(200:Int)<n:=by omega
     simp -dsimp[h3',lx,h7',h7,h2'];exact zba (hq true λe=>by cases e)
    ·have h2':¬ (200:Int)<n:=by omega
     have hk:=hor.resolve_left h2;simp -dsimp[h3',lx,h7',h7,h2'];exact zba (hq false λ_=>⟨⟨by omega,λt ht=>by have:=hall (by omega) t ht;omega⟩,by omega⟩)
 simp -dsimp only[zdu.l3,zdu.k2,ly,zqg,B.ze];by_cases hk:k<M.length
 rotate_left
 ·have:=hend (.inr (by omega))
  simp -dsimp[hk,-zdu.k1];exact this
 by_cases h4:n <= 200
 rotate_left
 ·have h4':¬ (n:Int) <= 200:=by omega
  have:=hend (.inl (by omega));simp -dsimp[hk,h4',-zdu.k1];exact this
 have h4':(n:Int) <= 200:=by omega
 have hg:(M.map tc)[k]?=some (tc M[k]):=by rw[getElem?_map,getElem?_eq_getElem hk];rfl
 have hidx:V.zb3 1 y (.int .i64 (k:Int))=some (elp 1 y k 0):=hy.zjp (by simpa using hk);have hcell:A.ldv h (elp 1 y k 0)=some (.str M[k]):=hy.cell hg;have n4:=hc _ (getElem_mem hk);have lo:V.zkp (.str M[k])=some (.int .i64 (M[k].length:Int)):=rfl;have b1:V.bin .add (.int .i64 (n:Int)) (.int .i64 1)=some (.int .i64 ((n+1:Nat):Int)):=zg8 (by omega);have b5:=zlc (a:=n+1) (b:=M[k].length / 20) (by omega);simp -dsimp[hk,h4',-V.zex,-V.zmy];simp -dsimp only[b1,hidx,hcell,lo,quo20 n4,b5,zg8 (show k<4611686018427387904 by omega),B.zha,B.ze];exact hY (t-1) _ _ (by omega) ⟨rfl,k+1,_,by omega,rfl,by omega,by omega⟩
structure StaG(s:Sta):Prop where
 items:ItmB s.zet
 n:s.zjf.length+s.zgq.length <= 2000
theorem StaG.at{h:zb}{s:Sta}{x y z:za}(b:StaG s)(a:StaW h s x y z):zqx h s x y z:=
 ⟨b.items.at a.items,a.lots,a.lines,by have:=b.items.n;omega,by have:=b.n;omega,by have:=b.n;omega⟩
def StaS(s:Sta):Prop:=(∀l∈s.zjf,l.Item.length<4611686018427387904) /\ ∀l∈s.zgq,l.Item.length<4611686018427387904 /\ l.Code.length<4611686018427387904
def zdc.Spec(C:zh)(N:zN):Prop:=∀(s:Sta)(x y z:za)(h:zb)(Q:zQ),StaW h s x y z->StaS s->(∀b:Bool,(b=false->StaG s)->Q (.bool b) h)->C (N 560) [.agg (zlz s x y z)] h Q
theorem zdc.spec(i:zdc.Imp C N)(s1:zdu.Spec C N):zdc.Spec C N:=by
 intro s x y z h Q ha hS hq;obtain⟨hx,⟨R2,hy⟩,⟨R3,hz⟩,n1,n2,n3,inl⟩:=ha;have cx:=hx.zbm;have cy:=hy.zbm;have cz:=hz.zbm;have ly:=hy.zbi;have lz:=hz.zbi;rw[length_map]at ly lz;apply i;simp -dsimp[cx,cy,cz,-zdc.l5];refine zd.intro (λt vs hh=>hh=h /\ ∃k n:Nat,k+t=s.zjf.length /\ vs=[.int .i64 (n:Int),.int .i64 (k:Int)] /\ n<1000000000000000000 /\ k <= n ) s.zjf.length ?_ ⟨rfl,0,0,by omega,rfl,by omega,by omega⟩;rintro Y t vs h ⟨rfl,k,n,ht,rfl,hn,hkn⟩ hY;have hend:(2000<n \/ k=s.zjf.length)->zd (zdc.l3 C N (dn Q) (.agg (zlz s x y z))) [.int .i64 (n:Int),.int .i64 0] h:=λhor=>by
  refine zd.intro (λt vs hh=>hh=h /\ ∃q m:Nat,q+t=s.zgq.length /\ vs=[.int .i64 (m:Int),.int .i64 (q:Int)] /\ m<1000000000000000000 /\ n+q <= m) s.zgq.length ?_ ⟨rfl,0,n,by omega,rfl,by omega,by omega⟩;rintro Z t vs h ⟨rfl,q,m,ht,rfl,hm,hqm⟩ hZ;have fin:(2000<m \/ q=s.zgq.length)->zdc.k1 C N (dn Q) (.int .i64 (m:Int)) (.agg (zlz s x y z)) h:=λhor2=>by
   by_cases h2:2000<m
   ·have h2':(2000:Int)<m:=by omega
    simp -dsimp[h2'];exact zba (hq true λe=>by cases e)
   ·have h2':¬ (2000:Int)<m:=by omega
    have e1:=hor2.resolve_left h2;have e2:=hor.resolve_left (by omega);simp -dsimp[h2'];refine s1 x .zbj s.zet [] [] h _ hx n1 inl (SlX.zbj h 1) (by simp) (by simp) λb hb=>?_;simp -dsimp;exact zba (hq b λe=>⟨(hb e).1,by omega⟩)
  simp -dsimp only[zdc.l3,zdc.k2,B.zjr,V.zey,getElem?_cons_zero,getElem?_cons_succ,lz,zqg,B.ze];by_cases hk:q<s.zgq.length
  rotate_left
  ·have:=fin (.inr (by omega))
   simp -dsimp[hk,-zdc.k1];exact this
  by_cases h4:m <= 2000
  rotate_left
  ·have h4':¬ (m:Int) <= 2000:=by omega
   have:=fin (.inl (by omega));simp -dsimp[hk,h4',-zdc.k1];exact this
  have h4':(m:Int) <= 2000:=by omega
  obtain⟨t',ht'⟩:=zgf hk;have f1:V.zb3 8 z (.int .i64 (q:Int))=some (elp 8 z q 0):=hz.zjp (by rw[length_map];omega);have f2:V.fieldAddr 1 (elp 8 z q 0)=some (elp 8 z q 1):=hz.zot (by rw[length_map];omega) 0 1;have f3:A.ldv h (elp 8 z q 1)=some (.str t'.Item):=hz.ldv (f:=1) (c:=t'.cs) (by rw[getElem?_map,ht'];rfl) (by omega);have f4:V.fieldAddr 7 (elp 8 z q 0)=some (elp 8 z q 7):=hz.zot (by rw[length_map];omega) 0 7;have f5:A.ldv h (elp 8 z q 7)=some (.str t'.Code):=hz.ldv (f:=7) (c:=t'.cs) (by rw[getElem?_map,ht'];rfl) (by omega);obtain⟨p1,p2⟩:=hS.2 t' (mem_of_getElem? ht');have lo1:V.zkp (.str t'.Item)=some (.int .i64 (t'.Item.length:Int)):=rfl;have lo2:V.zkp (.str t'.Code)=some (.int .i64 (t'.Code.length:Int)):=rfl;have b1:V.bin .add (.int .i64 (m:Int)) (.int .i64 1)=some (.int .i64 ((m+1:Nat):Int)):=zg8 (by omega);have b2:=zlc (a:=m+1) (b:=t'.Item.length / 20) (by omega);have b3:=zlc (a:=m+1+t'.Item.length / 20) (b:=t'.Code.length / 20) (by omega);simp -dsimp[hk,h4',-V.zex,-V.zmy];simp -dsimp only[B.zjr,V.zey,getElem?_cons_zero,getElem?_cons_succ,b1,f1,f2,f3,f4,f5,lo1,lo2,quo20 p1,quo20 p2,b2,b3,zg8 (show q<4611686018427387904 by omega),B.zha,B.ze];exact hZ (t-1) _ _ (by omega) ⟨rfl,q+1,_,by omega,rfl,by omega,by omega⟩
 simp -dsimp only[zdc.l5,zdc.k4,B.zjr,V.zey,getElem?_cons_zero,getElem?_cons_succ,ly,zqg,B.ze];by_cases hk:k<s.zjf.length
 rotate_left
 ·have:=hend (.inr (by omega))
  simp -dsimp[hk,-zdc.l3];exact this
 by_cases h4:n <= 2000
 rotate_left
 ·have h4':¬ (n:Int) <= 2000:=by omega
  have:=hend (.inl (by omega));simp -dsimp[hk,h4',-zdc.l3];exact this
 have h4':(n:Int) <= 2000:=by omega
 obtain⟨t',ht'⟩:=zgf hk;have f1:V.zb3 6 y (.int .i64 (k:Int))=some (elp 6 y k 0):=hy.zjp (by rw[length_map];omega);have f2:V.fieldAddr 1 (elp 6 y k 0)=some (elp 6 y k 1):=hy.zot (by rw[length_map];omega) 0 1;have f3:A.ldv h (elp 6 y k 1)=some (.str t'.Item):=hy.ldv (f:=1) (c:=t'.cs) (by rw[getElem?_map,ht'];rfl) (by omega);have p1:=hS.1 t' (mem_of_getElem? ht');have lo1:V.zkp (.str t'.Item)=some (.int .i64 (t'.Item.length:Int)):=rfl;have b1:V.bin .add (.int .i64 (n:Int)) (.int .i64 1)=some (.int .i64 ((n+1:Nat):Int)):=zg8 (by omega);have b2:=zlc (a:=n+1) (b:=t'.Item.length / 20) (by omega);simp -dsimp[hk,h4',-V.zex,-V.zmy];simp -dsimp only[B.zjr,V.zey,getElem?_cons_zero,getElem?_cons_succ,b1,f1,f2,f3,lo1,quo20 p1,b2,zg8 (show k<4611686018427387904 by omega),B.zha,B.ze];exact hY (t-1) _ _ (by omega) ⟨rfl,k+1,_,by omega,rfl,by omega,by omega⟩
structure TxAt(h:zb)(x:za)(G:List (List Key)):Prop where
 ls:∃(xs:List za)(R:List (List za)),xs.length=G.length /\ SlX h 1 x (xs.map λv=>[v]) R /\ ∀(j:Nat)(v:za)(l:List Key),xs[j]?=some v->G[j]?=some l->∃R',SlX h 1 v (l.map tc) R'
theorem TxAt.mono{h h':zb}{x:za}{G:List (List Key)}(a:TxAt h x G)(hle:h.le h'):TxAt h' x G:=by
 obtain⟨xs,R,h1,h2,h3⟩:=a.ls;exact⟨xs,R,h1,h2.mono hle,λj v l hv hl=>(h3 j v l hv hl).imp λ_ r=>r.mono hle⟩
theorem TxAt.zbi{h:zb}{x:za}{G:List (List Key)}(a:TxAt h x G):V.zbi x=some (.int .i64 (G.length:Int)):=by
 obtain⟨xs,R,h1,h2,_⟩:=a.ls;have:=h2.zbi;rw[length_map,h1]at this;exact this
theorem TxAt.get{h:zb}{x:za}{G:List (List Key)}(a:TxAt h x G){j:Nat}{l:List Key}(hl:G[j]?=some l):∃v R',V.zb3 1 x (.int .i64 (j:Int))=some (elp 1 x j 0) /\ A.ldv h (elp 1 x j 0)=some v /\ SlX h 1 v (l.map tc) R':=by
 obtain⟨xs,R,h1,h2,h3⟩:=a.ls;have hj:j<xs.length:=by rw[h1];exact(List.getElem?_eq_some_iff.1 hl).1
 obtain⟨v,hv⟩:=zgf hj;obtain⟨R',r⟩:=h3 j v l hv hl;exact⟨v,R',h2.zjp (by rw[length_map];exact hj),h2.cell (by rw[getElem?_map,hv];rfl),r⟩
theorem TxAt.of{T:Type}{h:zb}{x:za}{P:List T}{f:T->za}{g:T->List Key}{r:T->List (List za)}{R:List (List za)}(h1:SlX h 1 x (P.map λp=>[f p]) R)(h2:∀p∈P,SlX h 1 (f p) ((g p).map tc) (r p)):TxAt h x (P.map g):=by
 refine⟨P.map f,R,by simp,by rw[map_map];exact h1,λj v l hv hl=>?_⟩;rw[getElem?_map]at hv hl;cases hp:P[j]? with
 | none=>rw[hp]at hv;cases hv
 | some p=>
  rw[hp]at hv hl;cases hv;cases hl;exact⟨_,h2 p (mem_of_getElem? hp)⟩
def zes.Spec(C:zh)(N:zN):Prop:=∀(x y:za)(G H:List (List Key))(h:zb)(Q:zQ),TxAt h x G->TxAt h y H->G.length<4611686018427387904->(∀l∈G,l.length<4611686018427387904)->Q (.bool (decide (G=H))) h->C (N 563) [x,y] h Q
theorem zes.spec(i:zes.Imp C N)(s1:zef.Spec C N):zes.Spec C N:=by
 intro x y G H h Q hx hy hG hl hq;have lx:=hx.zbi;have ly:=hy.zbi;apply i;by_cases hne:G.length=H.length
 rotate_left
 ·have e1:¬ ((G.length:Int)=(H.length:Int)):=by omega
  have e2:decide (G=H)=false:=decide_eq_false λe=>hne (by rw[e]);rw[e2]at hq;simp -dsimp[lx,ly,e1,hne];exact zba hq
 have e1:((G.length:Int)=(H.length:Int)):=by omega
 simp -dsimp[lx,ly,e1,hne,-zes.l2];refine zd.intro (λn vs hh=>hh=h /\ ∃k:Nat,k+n=G.length /\ vs=[.int .i64 (k:Int)] /\ G.take k=H.take k) G.length ?_ ⟨rfl,0,by simp,rfl,by simp⟩;rintro Y n vs h ⟨rfl,k,hk,rfl,he⟩ hY;simp -dsimp only[zes.l2,zes.k1,lx,zqg,B.ze];refine B.zm (λhc=>?_) (λhc=>?_)
 ·rw[decide_eq_true_eq]at hc
  obtain⟨a,ha⟩:=zgf hc;obtain⟨b,hb⟩:=zgf (L:=H) (k:=k) (by omega);obtain⟨v,Rv,f1,f2,f3⟩:=hx.get ha;obtain⟨w,Rw,g1,g2,g3⟩:=hy.get hb;simp -dsimp only[f1,f2,g1,g2,B.zha,B.ze];refine s1 v w a b Rv Rw h _ f3 g3 (hl a (mem_of_getElem? ha)) ?_;by_cases hab:a=b
  ·subst hab
   simp -dsimp only[decide_true,V.zjt,Bool.not_true,B.ze,B.cond_false,zg8 (show k<4611686018427387904 by omega)];exact hY (n-1) _ _ (by omega) ⟨rfl,k+1,by omega,rfl,by rw[take_succ ha,take_succ hb,he]⟩
  ·have e2:decide (G=H)=false:=decide_eq_false λe=>hab (by rw[e,hb]at ha;cases ha;rfl)
   rw[e2]at hq;simp -dsimp only[decide_eq_false hab,V.zjt,Bool.not_false,B.ze,B.cond_true];exact zba hq
 ·rw[decide_eq_false_iff_not]at hc
  have hkk:k=G.length:=by omega
  subst hkk;rw[take_length,hne,take_length]at he;rw[decide_eq_true he]at hq;exact zba hq
end Go.Ab
namespace Go.Ab
open List
variable{C:zh}{N:zN}
def zvk(o p:za):List (Itm×za×za):=[(⟨[65],1,[],[]⟩,.zbj,.zbj),(⟨[66],1,[],[[67]]⟩,.zbj,o),(⟨[67],1,[],[]⟩,.zbj,.zbj),(⟨[68],1,[],[]⟩,.zbj,.zbj),(⟨[75],0,[⟨[65],2⟩],[]⟩,p,.zbj)]
def zwe:List Itm:=[⟨[65],1,[],[]⟩,⟨[66],1,[],[[67]]⟩,⟨[67],1,[],[]⟩,⟨[68],1,[],[]⟩,⟨[75],0,[⟨[65],2⟩],[]⟩]
theorem fiveP_at{h:zb}{o p:za}(ho:SlX h 1 o [tc [67]] [])(hp:SlX h 2 p [Part.cs ⟨[65],2⟩] []):∀q∈zvk o p,zd3.at_ h q.1 q.2:=by
 intro q hq;have hz:∀t:Itm,t.zgc=[]->t.zep=[]->zd3.at_ h t (.zbj,.zbj):=λt e1 e2=>
  ⟨⟨[],by rw[e1];exact SlX.zbj h 2⟩,⟨[],by rw[e2];exact SlX.zbj h 1⟩,by rw[e1];simp[few],by rw[e2];simp[few]⟩
 simp only[zvk,mem_cons,not_mem_nil,or_false]at hq;rcases hq with rfl|rfl|rfl|rfl|rfl
 ·exact hz _ rfl rfl
 ·exact⟨⟨[],SlX.zbj h 2⟩,⟨[],ho⟩,by simp[few],by simp[few]⟩
 ·exact hz _ rfl rfl
 ·exact hz _ rfl rfl
 ·exact⟨⟨[],hp⟩,⟨[],SlX.zbj h 1⟩,by simp[few],by simp[few]⟩
def zge.Spec(C:zh)(N:zN):Prop:=∀(h:zb)(Q:zQ),(∀i o p h1 h',h.le h1->zcw h1 h' [.sl 4 (.sl i 0 0 5 4 5) ((zvk o p).map zd3.cs) []]->SlX h1 1 o [tc [67]] []->SlX h1 2 p [Part.cs ⟨[65],2⟩] []->Q (.sl i 0 0 5 4 5) h')->C (N 562) [] h Q
theorem zge.spec(i:zge.Imp C N):zge.Spec C N:=by
 intro h Q hq;apply i;simp -dsimp[zfs];refine litT (n:=1) [[67]] rfl rfl λi1 h1 o1=>?_;simp -dsimp[zfs];refine litO (n:=1) (es:=2) ([(⟨[65],2⟩:Part)].map Part.cs) rfl (by simp) rfl λi2 h2 o2=>?_;simp -dsimp[zfs];refine litO (n:=5) (es:=4) ((zvk (.sl i1 0 0 1 1 1) (.sl i2 0 0 1 2 1)).map zd3.cs) rfl (λp hp=>by obtain⟨q,_,rfl⟩:=mem_map.1 hp;rfl) rfl λi3 h3 o3=>?_;exact zba (hq i3 _ _ h2 h3 (zb.le_trans o1.le o2.le) o3 ((o1.zgz 0 rfl).mono o2.le) (o2.zgz 0 rfl))
theorem five_dl{h:zb}{x o p:za}{R:List (List za)}(hx:SlX h 4 x ((zvk o p).map zd3.cs) R)(ho:SlX h 1 o [tc [67]] [])(hp:SlX h 2 p [Part.cs ⟨[65],2⟩] []):Dl zd3 h x zwe:=⟨zvk o p,R,rfl,hx,fiveP_at ho hp⟩
theorem zge.Spec.rd(s:zge.Spec C N)(h:zb)(Q:zQ)(hq:∀x h',h.le h'->Dl zd3 h' x zwe->Q x h'):C (N 562) [] h Q:=s h Q λi o p h1 h' l1 ow ho hp=>hq _ h' (zb.le_trans l1 ow.le) (five_dl (ow.zgz 0 rfl) (ho.mono ow.le) (hp.mono ow.le))
def awkS:Sta:=⟨0,0,0,zwe,[⟨3,[68],0,0,0,false⟩],[]⟩
theorem five_of:ofT zwe=[[[65],[75]],[[66],[67]],[[68]]]:=by decide +kernel
theorem five_with:zgy zwe [[75],[90]]=[[65],[75],[90]]:=by decide +kernel
theorem awk_c1:zgg awkS 4 [67] 0 0=[[35,108,111,116],[66],[67]]:=by decide +kernel
theorem awk_c2:zgg awkS 11 [] 0 3=[[42]]:=by decide +kernel
theorem awk_c3:zgg awkS 12 [] 0 0=[[42]]:=by decide +kernel
theorem awk_part:(zt5 awkS [[68]]).zjf.length=1:=by decide +kernel
theorem rowsT_at{h0 h:zb}{x:za}{P:List (za×List Key)}{l:List Ob}(o:zcw h0 h l)(hl:∀b∈zog x P,b∈l):TxAt h x (P.map (·.2)):=by
 have h1:SlX h 1 x (P.map λp=>[p.1]) []:=o.is (Ob.sl 1 x (List.map (λp:za×List Key=>[p.1]) P) []) (hl _ (by simp));exact TxAt.of (f:=λp:za×List Key=>p.1) (g:=λp=>p.2) (r:=λ_=>[]) h1 λp hp=>o.is (zkk p) (hl _ (mem_append_left _ (mem_map_of_mem hp)))
def ze7.Spec(C:zh)(N:zN):Prop:=∀(h:zb)(Q:zQ),Q (.bool true) h->C (N 556) [] h Q
theorem ze7.spec(i:ze7.Imp C N)(s1:zge.Spec C N)(s2:zer.Spec C N)(s3:zes.Spec C N)(s4:zdo.Spec C N)(s5:zef.Spec C N)(s6:zt.Spec C N)(s7:zcl.Spec C N):ze7.Spec C N:=by
 intro h Q hq;apply i;simp -dsimp only[ze7.cps,ze7.k1];refine s1.rd _ _ λx h1 l1 hx=>?_;have cx:=hx.zbm;simp -dsimp[cx,zfs];refine litO (n:=1) (es:=6) (awkS.zjf.map Lot.cs) rfl (by simp[awkS]) rfl λi2 h2 o2=>?_;simp -dsimp[cx];have hS:zqx h2 awkS x (.sl i2 0 0 1 6 1) .zbj:=⟨hx.mono o2.le,⟨[],o2.zgz 0 rfl⟩,⟨[],SlX.zbj h2 8⟩,by decide,by decide,by decide⟩;refine s1.rd _ _ λx2 h3 l3 hx2=>?_;refine s2 x2 zwe h3 _ hx2 (by decide) λv7 P h4 eP o4=>?_;rw[five_of]at eP;have r4:=rowsT_at o4 λb hb=>hb;rw[eP]at r4;simp -dsimp[zfs];refine litT (n:=2) [[65],[75]] rfl rfl λj1 h5 o5=>?_;simp -dsimp[zfs];refine litT (n:=2) [[66],[67]] rfl rfl λj2 h6 o6=>?_;simp -dsimp[zfs];refine litT (n:=1) [[68]] rfl rfl λj3 h7 o7=>?_;simp -dsimp[zfs];refine litO (n:=3) (es:=1) [[.sl j1 0 0 2 1 2],[.sl j2 0 0 2 1 2],[.sl j3 0 0 1 1 1]] rfl (by simp) rfl λj4 h8 o8=>?_;have t8:TxAt h8 (.sl j4 0 0 3 1 3) [[[65],[75]],[[66],[67]],[[68]]]:=⟨⟨[.sl j1 0 0 2 1 2,.sl j2 0 0 2 1 2,.sl j3 0 0 1 1 1],[],rfl,o8.zgz 0 rfl,λj v l hv hl=>by
  match j,hv,hl with
  | 0,hv,hl=>cases hv;cases hl;exact⟨[],(o5.zgz 0 rfl).mono (zb.le_trans o6.le (zb.le_trans o7.le o8.le))⟩
  | 1,hv,hl=>cases hv;cases hl;exact⟨[],(o6.zgz 0 rfl).mono (zb.le_trans o7.le o8.le)⟩
  | 2,hv,hl=>cases hv;cases hl;exact⟨[],(o7.zgz 0 rfl).mono o8.le⟩
  | j+3,hv,_=>simp at hv⟩⟩
 have l48:=zb.le_trans o5.le (zb.le_trans o6.le (zb.le_trans o7.le o8.le))
 refine s3 _ _ _ _ h8 _ (r4.mono l48) t8 (by decide) (λl hl=>by
  simp only[mem_cons,not_mem_nil,or_false]at hl;rcases hl with rfl|rfl|rfl<;>decide) ?_
 have l28:=zb.le_trans l3 (zb.le_trans o4.le l48);simp -dsimp only[decide_true,B.zi1,B.zdr,zk3];refine s1.rd _ _ λx3 h9 l9 hx3=>?_;simp -dsimp[zfs];refine litT (n:=2) [[75],[90]] rfl rfl λj5 h10 o10=>?_;simp -dsimp;refine s4 _ _ zwe [[75],[90]] [] h10 _ (hx3.mono o10.le) (by decide) (o10.zgz 0 rfl) (by decide) λw h11 o11=>?_;rw[five_with]at o11;simp -dsimp[zfs];refine litT (n:=3) [[65],[75],[90]] rfl rfl λj6 h12 o12=>?_;simp -dsimp;refine s5 _ _ _ _ _ _ h12 _ ((o11.zgz 0 rfl).mono o12.le) (o12.zgz 0 rfl) (by decide) ?_;have l2c:=zb.le_trans l28 (zb.le_trans l9 (zb.le_trans o10.le (zb.le_trans o11.le o12.le)));simp -dsimp[zfs];refine s6 awkS _ _ _ _ 4 [67] 0 0 h12 _ (hS.mono l2c) (by decide) ⟨rfl,rfl,rfl,rfl,rfl⟩ λw2 h13 o13=>?_;rw[awk_c1]at o13;simp -dsimp[zfs];refine litT (n:=3) [[35,108,111,116],[66],[67]] rfl rfl λj7 h14 o14=>?_;simp -dsimp;refine s5 _ _ _ _ _ _ h14 _ ((o13.zgz 0 rfl).mono o14.le) (o14.zgz 0 rfl) (by decide) ?_;have l2e:=zb.le_trans l2c (zb.le_trans o13.le o14.le);simp -dsimp[zfs];refine s6 awkS _ _ _ _ 11 [] 0 3 h14 _ (hS.mono l2e) (by decide) ⟨rfl,rfl,rfl,rfl,rfl⟩ λw3 h15 o15=>?_;rw[awk_c2]at o15;simp -dsimp[zfs];refine litT (n:=1) [[42]] rfl rfl λj8 h16 o16=>?_;simp -dsimp;refine s5 _ _ _ _ _ _ h16 _ ((o15.zgz 0 rfl).mono o16.le) (o16.zgz 0 rfl) (by decide) ?_;have l2g:=zb.le_trans l2e (zb.le_trans o15.le o16.le);simp -dsimp[zfs];refine s6 awkS _ _ _ _ 12 [] 0 0 h16 _ (hS.mono l2g) (by decide) ⟨rfl,rfl,rfl,rfl,rfl⟩ λw4 h17 o17=>?_;rw[awk_c3]at o17;simp -dsimp[zfs];refine litT (n:=1) [[42]] rfl rfl λj9 h18 o18=>?_;simp -dsimp;refine s5 _ _ _ _ _ _ h18 _ ((o17.zgz 0 rfl).mono o18.le) (o18.zgz 0 rfl) (by decide) ?_;have l2i:=zb.le_trans l2g (zb.le_trans o17.le o18.le);simp -dsimp[zfs];refine litT (n:=1) [[68]] rfl rfl λk1 h19 o19=>?_;simp -dsimp
 refine s7 awkS _ _ _ _ [[68]] [] h19 _ (hS.mono (zb.le_trans l2i o19.le)) (o19.zgz 0 rfl) (by decide) (by decide) λa P2 b c h20 e20 o20=>?_;have hb:V.zbi b=some (.int .i64 1):=by
  have:=(o20.zgz 1 rfl).zbi;rw[length_map,awk_part]at this;exact this
 simp -dsimp[hb];exact dn_le (zb.le_trans l1 (zb.le_trans o2.le (zb.le_trans l2i (zb.le_trans o19.le o20.le)))) hq
variable{C:zh}{N:zN}
def zf1.Spec(C:zh)(N:zN):Prop:=∀(x:za)(L:List Key)(R:List (List za))(s:Key)(h:zb)(Q:zQ),SlX h 1 x (L.map tc) R->L.length <= 100000000->Q (.bool (decide (s∈L))) h->C (N 600) [x,.str s] h Q
theorem zf1.spec(i:zf1.Imp C N):zf1.Spec C N:=by
 intro x L R s h Q hx hl hq;apply i;have lx:=hx.zbi;rw[length_map]at lx;refine zd.intro (λn vs hh=>hh=h /\ ∃k:Nat,k+n=L.length /\ vs=[.int .i64 (k:Int)] /\ s∉L.take k) L.length ?_ ⟨rfl,0,by simp,rfl,by simp⟩;rintro Y n vs h ⟨rfl,k,hk,rfl,hn⟩ hY;simp -dsimp only[zf1.l2,zf1.k1,lx,V.zeh,B.ze];refine B.zm (λhc=>?_) (λhc=>?_)
 ·rw[decide_eq_true_eq]at hc
  obtain⟨a,ha⟩:=zgf (L:=L) (k:=k) (by omega);have f1:V.zb3 1 x (.int .i64 (k:Int))=some (elp 1 x k 0):=hx.zjp (by rw[length_map];omega);have f2:A.ldv h (elp 1 x k 0)=some (.str a):=hx.cell (by rw[getElem?_map,ha];rfl);simp -dsimp only[f1,f2,B.zha,B.ze,V.zrz];refine B.zm (λhd=>?_) (λhd=>?_)
  ·have e:a=s:=of_decide_eq_true hd
   have:s∈L:=by rw[<-e];exact mem_of_getElem? ha
   rw[decide_eq_true this]at hq;exact zba hq
  ·have e:a≠s:=of_decide_eq_false hd
   simp -dsimp only[zg8 (show k<4611686018427387904 by omega),B.ze];refine hY (L.length-(k+1)) _ _ (by omega) ⟨rfl,k+1,by omega,rfl,?_⟩;rw[take_succ ha,mem_append,mem_singleton];rintro(h1|h1)
   ·exact hn h1
   ·exact e h1.symm
 ·rw[decide_eq_false_iff_not]at hc
  have:k=L.length:=by omega
  subst this;rw[take_length]at hn;rw[decide_eq_false hn]at hq;exact zba hq
theorem putT_at{s:Key}:∀{L:List Key}{k:Nat},(∀x∈L.take k,zij x s=true)->k <= L.length->(∀x,L[k]?=some x->zij x s=false)->ztu L s=if L[k]?=some s then L else L.take k++s::L.drop k
 | [],0,_,_,_=>rfl
 | [],k+1,_,h,_=>by simp at h
 | x::l,0,_,_,h=>by
  have:=h x rfl
  unfold ztu
  rw[if_neg (by rw[this];exact Bool.false_ne_true)]
  by_cases e:x=s
  ·rw[if_pos e,if_pos (by rw[e];rfl)]
  ·have h0:¬ (x::l)[0]?=some s:=λh=>e (Option.some.inj h)
   rw[if_neg e,if_neg h0];rfl
 | x::l,k+1,h1,h2,h3=>by
  have hx:=h1 x (by simp)
  unfold ztu
  rw[if_pos hx,putT_at (k:=k) (λy hy=>h1 y (by simp[hy])) (by simpa using h2) (λy hy=>h3 y hy)]
  by_cases e:l[k]?=some s
  ·rw[if_pos e,if_pos (by exact e)]
  ·rw[if_neg e,if_neg (by exact e)];rfl
def zej.Spec(C:zh)(N:zN):Prop:=∀(x:za)(L:List Key)(R:List (List za))(s:Key)(h:zb)(Q:zQ),SlX h 1 x (L.map tc) R->L.length <= 10000000->(∀x' h',(x'=x /\ h'=h /\ ztu L s=L \/ zcw h h' [.sl 1 x' ((ztu L s).map tc) []])->Q x' h')->C (N 603) [x,.str s] h Q
def zej.Rd(C:zh)(N:zN):Prop:=∀(x:za)(L:List Key)(R:List (List za))(s:Key)(h:zb)(Q:zQ),SlX h 1 x (L.map tc) R->L.length <= 10000000->(∀x' h' R',h.le h'->SlX h' 1 x' ((ztu L s).map tc) R'->Q x' h')->C (N 603) [x,.str s] h Q
theorem zej.Spec.rd(s:zej.Spec C N):zej.Rd C N:=λx L R k h Q hx hl hq=>s x L R k h Q hx hl λx' h' hh=>by
 rcases hh with⟨rfl,rfl,e⟩|o
 ·exact hq _ _ R (zb.le_refl _) (by rw[e];exact hx)
 ·exact hq _ _ [] o.le (o.zgz 0 rfl)
theorem zej.spec(i:zej.Imp C N):zej.Spec C N:=by
 intro x L R s h Q hx hl hq;apply i;have lx:=hx.zbi;rw[length_map]at lx;refine zd.intro (λn vs hh=>hh=h /\ ∃k:Nat,k+n=L.length /\ vs=[.int .i64 (k:Int)] /\ ∀y∈L.take k,zij y s=true) L.length ?_ ⟨rfl,0,by simp,rfl,by simp⟩;rintro Y n vs h ⟨rfl,k,hk,rfl,hn⟩ hY;have fin:(∀y,L[k]?=some y->zij y s=false)->zej.k1 C N (dn Q) x (.str s) (.int .i64 (k:Int)) h:=λhle=>by
  have hput:=putT_at hn (by omega) hle;have new:L[k]? ≠some s->(B.pv (V.zhj 1 x none (some (.int .i64 (k:Int)))) λv37=>B.zif h 1 16 .sz v37 λv38 h=>B.zg1 h (zed [(0,none,.str s)] (zfs 1 [.str []])) λi41 h=>B.zif h 1 16 v38 (.sl i41 0 0 1 1 1) λv42 h=>
    B.pv (V.zhj 1 x (some (.int .i64 (k:Int))) none) λv46=>B.zif h 1 16 v42 v46 λv47 h=>dn Q v47 h):=λhne=>by
   rw[if_neg hne]at hput;obtain⟨y1,R1,e1,e2,_⟩:=hx.sliceIn (by omega) (lo:=0) (hi:=k) (a:=none) (b:=some (.int .i64 (k:Int))) (.inl ⟨rfl,rfl⟩) (.inr ⟨_,rfl⟩) (by omega) (by omega);rw[drop_zero]at e2;obtain⟨y2,R2,g1,g2,_⟩:=hx.sliceIn (by omega) (lo:=k) (hi:=L.length) (a:=some (.int .i64 (k:Int))) (b:=none) (.inr ⟨_,rfl⟩) (.inl ⟨rfl,rfl⟩) (by omega) (by omega);rw[take_length]at g2;simp -dsimp only[e1,B.ze];have tl:(L.take k).length <= 10000000:=by rw[length_take];omega
   have dl:(L.drop k).length <= 10000000:=by rw[length_drop];omega
   refine((zcw.start h).sz 1).zif 0 rfl e2 (by omega) (by simp;omega) (by simp[maxLen];omega) λx1 h1 o1 _=>?_;have hf:zed [(0,none,.str s)] (zfs 1 [.str []])=some [.str s]:=rfl;rw[hf];refine o1.push 0 rfl (cs:=[.str s]) rfl (by omega) (by simp;omega) (by simp[maxLen];omega) λx2 h2 o2 _=>?_;simp -dsimp only[g1,B.ze];refine o2.zif 0 rfl (g2.mono o2.le) (by omega) (by simp;omega) (by simp[maxLen];omega) λx3 h3 o3 _=>?_;refine zba (hq x3 h3 (.inr ?_));rw[hput];have this:zcw h h3 [.sl 1 x3 ((([]++(L.take k).map tc)++[[.str s]])++(L.drop k).map tc) []]:=o3;rw[nil_append,append_assoc]at this;rw[map_append,map_cons];exact this
  by_cases hkl:k<L.length
  ·obtain⟨a,ha⟩:=zgf hkl
   have f1:V.zb3 1 x (.int .i64 (k:Int))=some (elp 1 x k 0):=hx.zjp (by rw[length_map];omega);have f2:A.ldv h (elp 1 x k 0)=some (.str a):=hx.cell (by rw[getElem?_map,ha];rfl);have c1:decide ((k:Int)<(L.length:Int))=true:=by simp;omega
   simp -dsimp only[zej.k1,lx,V.zeh,c1,B.zi1,B.zdr,zk3,B.ze,f1,f2,B.zha,V.zrz,B.zhx];refine B.zm (λhd=>?_) (λhd=>?_)
   ·have e:a=s:=of_decide_eq_true hd
    rw[if_pos (by rw[ha,e])]at hput;exact zba (hq x h (.inl ⟨rfl,rfl,hput⟩))
   ·have e:a≠s:=of_decide_eq_false hd
    exact new (by rw[ha];exact λh=>e (Option.some.inj h))
  ·have c1:decide ((k:Int)<(L.length:Int))=false:=by simp;omega
   simp -dsimp[lx,hkl];exact new (by rw[getElem?_eq_none (by omega)];exact λh=>by cases h)
 simp -dsimp only[zej.l3,zej.k2,lx,V.zeh,B.ze];by_cases hkl:k<L.length
 ·obtain⟨a,ha⟩:=zgf hkl
  have f1:V.zb3 1 x (.int .i64 (k:Int))=some (elp 1 x k 0):=hx.zjp (by rw[length_map];omega);have f2:A.ldv h (elp 1 x k 0)=some (.str a):=hx.cell (by rw[getElem?_map,ha];rfl);have c1:decide ((k:Int)<(L.length:Int))=true:=by simp;omega
  simp -dsimp only[c1,B.zi1,B.zdr,zk3,B.ze,f1,f2,B.zha,V.bin_slss,B.zhx];refine B.zm (λhd=>?_) (λhd=>?_)
  ·simp -dsimp only[zg8 (show k<4611686018427387904 by omega),B.ze]
   refine hY (L.length-(k+1)) _ _ (by omega) ⟨rfl,k+1,by omega,rfl,λy hy=>?_⟩;rw[take_succ ha,mem_append,mem_singleton]at hy;rcases hy with hy|hy
   ·exact hn y hy
   ·rw[hy];exact hd
  ·exact fin λy hy=>by rw[ha]at hy;cases hy;exact hd
 ·simp -dsimp[hkl,-zej.k1]
  exact fin λy hy=>by rw[getElem?_eq_none (by omega)]at hy;cases hy
variable{C:zh}{N:zN}
theorem zt2:∀{m l:List Key},zkr l->(zj7 l m).length <= l.length+m.length
 | [],l,_=>Nat.le_refl _
 | s::m,l,h=>by
  have h1:=zt2 (m:=m) (zt3 (s:=s) h)
  have h2:=putT_len (s:=s) h
  have:(ztu l s).length <= l.length+1:=by rw[h2];split<;>omega
  show (zj7 (ztu l s) m).length <= _
  rw[length_cons]
  omega
theorem zu6(l m:List Key)(s:Key):zj7 l (m++[s])=ztu (zj7 l m) s:=by simp[zj7]
def zeg.Spec(C:zh)(N:zN):Prop:=∀(x:za)(I:List Itm)(h:zb)(Q:zQ),Dl zd3 h x I->I.length <= 1000000->(∀x' h' R',h.le h'->SlX h' 1 x' ((zci I).map tc) R'->Q x' h')->C (N 602) [x] h Q
theorem zeg.spec(i:zeg.Imp C N)(s1:zej.Spec C N):zeg.Spec C N:=by
 intro x I h Q hx hl hq;apply i;refine zd.intro (λn vs hh=>∃(k:Nat)(y:za)(R:List (List za)),k+n=I.length /\ vs=[y,.int .i64 (k:Int)] /\ h.le hh /\ SlX hh 1 y ((zj7 [] ((I.take k).map Itm.Code)).map tc) R) I.length ?_ ⟨0,.zbj,[],by simp,rfl,zb.le_refl h,SlX.zbj h 1⟩;rintro Y n vs hh ⟨k,y,R,hk,rfl,hle,hy⟩ hY;have hxx:=hx.mono hle;have lx:=hxx.zbi;simp -dsimp only[zeg.l2,zeg.k1,lx,V.zeh,B.ze];refine B.zm (λhc=>?_) (λhc=>?_)
 ·rw[decide_eq_true_eq]at hc
  obtain⟨t,ht⟩:=zgf (L:=I) (k:=k) (by omega);obtain⟨a,ea⟩:=hxx.get ht;have e1:V.zb3 4 x (.int .i64 (k:Int))=some (elp 4 x k 0):=ea.idx;have e2:V.fieldAddr 0 (elp 4 x k 0)=some (elp 4 x k 0):=ea.fld 0 0;have e3:A.ldv hh (elp 4 x k 0)=some (.str t.Code):=ea.ld 0 (by decide);simp -dsimp only[e1,e2,e3,B.zha,B.ze];have hlen:=zt2 (l:=[]) (m:=(I.take k).map Itm.Code) .nil;simp only[length_nil,length_map,length_take]at hlen;refine s1.rd y _ R t.Code hh _ hy (by omega) λy' h' R' hle' hy'=>?_;simp -dsimp only[zg8 (show k<4611686018427387904 by omega),B.ze];refine hY (I.length-(k+1)) _ _ (by omega) ⟨k+1,y',R',by omega,rfl,zb.le_trans hle hle',?_⟩;rw[take_succ ht,map_append,map_cons,map_nil,zu6];exact hy'
 ·rw[decide_eq_false_iff_not]at hc
  have:k=I.length:=by omega
  subst this;rw[take_length]at hy;exact zba (hq y hh R hle hy)
def zb2.Spec(C:zh)(N:zN):Prop:=∀(t:Itm)(a:za×za)(x y:za)(all inn:List Key)(R S:List (List za))(h:zb)(Q:zQ),zd3.at_ h t a->SlX h 1 x (all.map tc) R->SlX h 1 y (inn.map tc) S->all.length <= 10000000->inn.length <= 10000000->(∀z h' R',h.le h'->SlX h' 1 z ((zh4 all t).map tc) R'->Q (.tup [.bool (hitT all inn t),z]) h')->C (N 604) [.agg (zd3.cells t a),x,y] h Q
theorem zb2.spec(i:zb2.Imp C N)(s1:zf1.Spec C N):zb2.Spec C N:=by
 intro t a x y all inn R S h Q ha hx hy hl1 hl2 hq;obtain⟨⟨Rp,hp⟩,⟨Ro,ho⟩,hok⟩:(∃R,SlX h 2 a.1 (t.zgc.map Part.cs) R) /\ (∃R,SlX h 1 a.2 (t.zep.map tc) R) /\ t.ok:=ha;obtain⟨ok1,ok2⟩:t.zgc.length <= few /\ t.zep.length <= few:=hok;unfold few at ok1 ok2;have c1:=hp.zbm;have c2:=ho.zbm;have lp:=hp.zbi;rw[length_map]at lp;apply i;simp -dsimp[zd3,c1,c2,zfs,-zb2.l5,-zb2.k4];intro i15 f15;have o1:=(zcw.start h).zpz (id:=i15) (n:=1) (cp:=1) (es:=1) (cs:=[.str t.Code]) (L:=[t.Code].map tc) (R:=[]) f15 (by simp[tc]) rfl (by simp) rfl;generalize upd h i15 (zgl [.str t.Code])=h1 at *;refine zd.intro (λn vs hh=>∃(k:Nat)(v:za),k+n=t.zgc.length /\ vs=[v,.int .i64 (k:Int)] /\ zcw h hh [.sl 1 v ((t.Code::(t.zgc.take k).map Part.Item).map tc) []]) t.zgc.length ?_ ⟨0,_,by simp,rfl,o1⟩;rintro Y n vs hh ⟨k,v,hk,rfl,o⟩ hY;simp -dsimp only[zb2.l5,zb2.k4,B.zjr,V.zey,getElem?_cons_zero,getElem?_cons_succ,lp,V.zeh,B.ze];refine B.zm (λhc=>?_) (λhc=>?_)
 ·rw[decide_eq_true_eq]at hc
  obtain⟨w,hw⟩:=zgf (L:=t.zgc) (k:=k) (by omega);have hk':k<(t.zgc.map Part.cs).length:=by rw[length_map];omega
  have f1:V.zb3 2 a.1 (.int .i64 (k:Int))=some (elp 2 a.1 k 0):=hp.zjp hk';have f2:V.fieldAddr 0 (elp 2 a.1 k 0)=some (elp 2 a.1 k 0):=hp.zot hk' 0 0;have f3:A.ldv hh (elp 2 a.1 k 0)=some (.str w.Item):=(hp.mono o.le).ldv (f:=0) (c:=w.cs) (by rw[getElem?_map,hw];rfl) (by omega);have hf:zed [(0,none,.str w.Item)] (zfs 1 [.str []])=some [.str w.Item]:=rfl;simp -dsimp only[B.zjr,V.zey,getElem?_cons_zero,getElem?_cons_succ,f1,f2,f3,B.zha,B.ze,hf];have tl:(t.zgc.take k).length <= 100000000:=by rw[length_take];omega
  refine o.push 0 rfl (cs:=[.str w.Item]) rfl (by omega) (by simp;omega) (by simp[maxLen];omega) λv' h2 o2 _=>?_;simp -dsimp only[zg8 (show k<4611686018427387904 by omega),B.ze];refine hY (t.zgc.length-(k+1)) _ _ (by omega) ⟨k+1,v',by omega,rfl,?_⟩;rw[take_succ hw,map_append];have e:(t.Code::((t.zgc.take k).map Part.Item++[w].map Part.Item)).map tc=(t.Code::(t.zgc.take k).map Part.Item).map tc++[[.str w.Item]]:=by
   rw[<-cons_append,map_append];rfl
  rw[e];exact o2
 ·rw[decide_eq_false_iff_not]at hc
  have:k=t.zgc.length:=by omega
  subst this;rw[take_length]at o;simp -dsimp only[zb2.k3,B.zjr,V.zey,getElem?_cons_zero,getElem?_cons_succ,B.ze];refine o.zif 0 rfl (ho.mono o.le) (by omega) (by simp;omega) (by simp[maxLen];omega) λv' h2 o2 _=>?_;have o2:zcw h h2 [.sl 1 v' ((ziw t).map tc) []]:=by
   have e:(ziw t).map tc=(t.Code::t.zgc.map Part.Item).map tc++t.zep.map tc:=by
    unfold ziw;rw[<-cons_append,map_append]
   rw[e];exact o2
  have hnl:(ziw t).length <= 300000000:=by unfold ziw;simp;omega
  have lv:=(o2.zgz 0 rfl:SlX h2 1 v' ((ziw t).map tc) []).zbi;rw[length_map]at lv;refine zd.intro (λn vs hh=>∃(k:Nat)(z:za),k+n=(ziw t).length /\ vs=[z,.bool ((((ziw t).take k).filter λn=>decide (n∈all)).any λn=>decide (n∈inn)),.int .i64 (k:Int)] /\ zcw h2 hh [.sl 1 z ((((ziw t).take k).filter λn=>decide (n∈all)).map tc) []]) (ziw t).length ?_ ⟨0,.zbj,by simp,rfl,(zcw.start h2).zbj 1⟩;rintro Y2 n vs h3 ⟨k,z,hk2,rfl,o⟩ hY2;simp -dsimp only[zb2.l2,zb2.k1,lv,V.zeh,B.ze];refine B.zm (λhc=>?_) (λhc=>?_)
  ·rw[decide_eq_true_eq]at hc
   obtain⟨w,hw⟩:=zgf (L:=ziw t) (k:=k) (by omega);have hv:SlX h3 1 v' ((ziw t).map tc) []:=(o2.zgz 0 rfl).mono o.le;have f1:V.zb3 1 v' (.int .i64 (k:Int))=some (elp 1 v' k 0):=hv.zjp (by rw[length_map];omega);have f2:A.ldv h3 (elp 1 v' k 0)=some (.str w):=hv.cell (by rw[getElem?_map,hw];rfl);have le3:=zb.le_trans o2.le o.le;simp -dsimp only[f1,f2,B.zha,B.ze];refine s1 x all R w h3 _ (hx.mono le3) (by omega) ?_
   have hfl:((ziw t).take (k+1)).filter (λn=>decide (n∈all))=((ziw t).take k).filter (λn=>decide (n∈all))++if decide (w∈all)=true then [w] else []:=by
    rw[take_succ hw,filter_append];congr 1;by_cases e:w∈all<;>simp[e]
   refine B.zm (λhd=>?_) (λhd=>?_)
   ·rw[if_pos hd]at hfl
    have hf:zed [(0,none,.str w)] (zfs 1 [.str []])=some [.str w]:=rfl;simp -dsimp only[f1,f2,B.zha,B.ze,hf];have tl:(((ziw t).take k).filter λn=>decide (n∈all)).length <= 300000000:=by
     have h1:=length_filter_le (λn=>decide (n∈all)) ((ziw t).take k);rw[length_take]at h1;omega
    refine o.push 0 rfl (cs:=[.str w]) rfl (by omega) (by simp only[length_map];omega) (by simp only[length_map,maxLen];omega) λz' h4 o4 _=>?_;have le4:=zb.le_trans o2.le o4.le;have f2':A.ldv h4 (elp 1 v' k 0)=some (.str w):=((o2.zgz 0 rfl:SlX h2 1 v' ((ziw t).map tc) []).mono o4.le).cell (by rw[getElem?_map,hw];rfl);generalize hH:(((ziw t).take k).filter λn=>decide (n∈all)).any (λn=>decide (n∈inn))=H;have hh2:(((ziw t).take (k+1)).filter λn=>decide (n∈all)).any (λn=>decide (n∈inn))=(H||decide (w∈inn)):=by
     rw[hfl,any_append,hH];simp
    have nxt:Y2 [z',.bool (H||decide (w∈inn)),.int .i64 ((k+1:Nat):Int)] h4:=by
     refine hY2 ((ziw t).length-(k+1)) _ _ (by omega) ⟨k+1,z',by omega,by rw[hh2],?_⟩;rw[hfl,map_append];exact o4
    cases H with
    | true=>
     simp -dsimp only[B.gd_f,B.zdr,B.zgd,zk3,gv_false,B.zhx];simp -dsimp[-V.zex];rw[zg8 (show k<4611686018427387904 by omega)];exact nxt
    | false=>
     simp -dsimp[f1,f2',-V.zex];refine s1 y inn S w h4 _ (hy.mono le4) (by omega) ?_;simp -dsimp[-V.zex];rw[zg8 (show k<4611686018427387904 by omega)];exact nxt
   ·rw[if_neg (by rw[hd];exact Bool.false_ne_true),append_nil]at hfl
    simp -dsimp only[zg8 (show k<4611686018427387904 by omega),B.ze];exact hY2 ((ziw t).length-(k+1)) _ _ (by omega) ⟨k+1,z,by omega,by rw[hfl],by rw[hfl];exact o⟩
  ·rw[decide_eq_false_iff_not]at hc
   have:k=(ziw t).length:=by omega
   subst this;rw[take_length]at o ⊢;exact zba (hq z h3 [] (zb.le_trans o2.le o.le) (o.zgz 0 rfl))
variable{C:zh}{N:zN}
theorem zn8(I:List Itm):(zci I).length <= I.length:=by
 have:=zt2 (l:=[]) (m:=I.map Itm.Code) .nil;simpa[zci]using this
theorem roundT_snoc{all:List Key}{I:List Itm}{k:Nat}{t:Itm}(ht:I[k]?=some t)(a:List Key):zh9 all (I.take (k+1)) a=if hitT all (zh9 all (I.take k) a) t=true then zj7 (zh9 all (I.take k) a) (zh4 all t) else zh9 all (I.take k) a:=by
 unfold zh9;rw[take_succ ht,foldl_append];rfl
def zcb.Spec(C:zh)(N:zN):Prop:=∀(x:za)(I:List Itm)(c:Key)(h:zb)(Q:zQ),Dl zd3 h x I->I.length <= 1000000->c∈zci I->(∀x' h' R',zcw h h' [.sl 1 x' ((zd2 I c).map tc) R']->Q x' h')->C (N 601) [x,.str c] h Q
theorem zcb.spec(i:zcb.Imp C N)(s1:zeg.Spec C N)(s2:zb2.Spec C N)(s3:zej.Spec C N):zcb.Spec C N:=by
 intro x I c h Q hx hI hc hq;apply i;simp -dsimp only[zcb.cps,zcb.k7];refine s1 x I h _ hx hI λz h1 Rz le1 hz=>?_;have hf:zed [(0,none,.str c)] (zfs 1 [.str []])=some [.str c]:=rfl;rw[hf];intro i15 f15;have o1:=(zcw.start h1).zpz (id:=i15) (n:=1) (cp:=1) (es:=1) (cs:=[.str c]) (L:=[c].map tc) (R:=[]) f15 (by simp[tc]) rfl (by simp) rfl;generalize upd h1 i15 (zgl [.str c])=h2 at *;have cl:=zn8 I;have allR:=zml I;generalize hA:zci I=all at *;refine zd.intro (λj vs hh=>∃(y:za)(n:Nat)(a:List Key)(R:List (List za)),vs=[y,.int .i64 (n:Int)] /\ zcw h1 hh [.sl 1 y (a.map tc) R] /\ zkr a /\ (∀k∈a,k∈all) /\ ((n=a.length /\ a=zd2 I c) \/ (n≠a.length /\ zmb all I j a=zd2 I c /\ all.length<a.length+j))) (all.length+1) ?_
  ⟨_,0,[c],[],rfl,o1,pairwise_singleton _ _,λk hk=>by rw[mem_singleton.1 hk];exact hc,.inr ⟨by simp,by unfold zd2;rw[hA],by simp;omega⟩⟩
 rintro Y j vs hh ⟨y,n,a,R,rfl,oy,ra,ha,hinv⟩ hY;have hy:SlX hh 1 y (a.map tc) R:=oy.zgz 0 rfl;have le2:=oy.le;have ly:=hy.zbi;rw[length_map]at ly;have hal:a.length <= all.length:=(zgv ra).length_le_of_subset ha;simp -dsimp only[zcb.l6,zcb.k5,ly,V.bin_neq,B.ze];refine B.zm (λhd=>?_) (λhd=>?_)
 ·have hne:n≠a.length:=λe=>by rw[e]at hd;simp at hd
  obtain⟨_,hr,hfuel⟩:=hinv.resolve_left λe=>hne e.1;obtain⟨j,rfl⟩:∃u,j=u+1:=⟨j-1,by omega⟩;simp -dsimp only[ly,B.ze];refine zd.intro (λn vs hh=>∃(k:Nat)(y:za)(R:List (List za)),k+n=I.length /\ vs=[y,.int .i64 (k:Int)] /\ zcw h1 hh [.sl 1 y ((zh9 all (I.take k) a).map tc) R]) I.length ?_ ⟨0,y,R,by simp,rfl,oy⟩;rintro Y2 n2 vs h3 ⟨k,y2,R2,hk,rfl,oy2⟩ hY2;have hy2:SlX h3 1 y2 ((zh9 all (I.take k) a).map tc) R2:=oy2.zgz 0 rfl;have le3:=oy2.le;have hxx:=hx.mono (zb.le_trans le1 le3);have lx:=hxx.zbi;have rk:=znn (all:=all) (J:=I.take k) ra;have hka:=zxa (J:=I.take k) ha;have hkl:(zh9 all (I.take k) a).length <= all.length:=(zgv rk).length_le_of_subset hka;simp -dsimp only[zcb.l4,lx,V.zeh,B.ze];refine B.zm (λhc2=>?_) (λhc2=>?_)
  ·rw[decide_eq_true_eq]at hc2
   obtain⟨t,ht⟩:=zgf (L:=I) (k:=k) (by omega);obtain⟨b,eb⟩:=hxx.get ht;have e1:V.zb3 4 x (.int .i64 (k:Int))=some (elp 4 x k 0):=eb.idx;have e2:A.zo3 h3 (elp 4 x k 0) 4=some (.agg (zd3.cells t b)):=eb.ldn;have hsn:=roundT_snoc (all:=all) ht a;generalize zh9 all (I.take k) a=ak at *;simp -dsimp only[zcb.k3,e1,e2,B.ze,B.zn5];refine s2 t b z y2 all ak Rz R2 h3 _ eb.at_ (hz.mono le3) hy2 (by omega) (by omega) λw h4 Rw le4 hw=>?_;simp -dsimp only[V.zit,getElem?_cons_zero,getElem?_cons_succ,B.ze];have lw:=hw.zbi;rw[length_map]at lw;have hkn:∀q∈zh4 all t,q∈all:=λq hq=>by simpa using (mem_filter.1 hq).2
   have next:∀(y':za)(h':zb)(R':List (List za)),zcw h1 h' [.sl 1 y' ((zh9 all (I.take (k+1)) a).map tc) R']->B.pv (V.bin .add (.int .i64 (k:Int)) (.int .i64 1)) λv27=>Y2 [y',v27] h':=λy' h' R' hy'=>by
    simp -dsimp only[zg8 (show k<4611686018427387904 by omega),B.ze];exact hY2 (I.length-(k+1)) _ _ (by omega) ⟨k+1,y',R',by omega,rfl,hy'⟩
   cases hh:hitT all ak t with
   | false=>
    rw[hh]at hsn;simp only[Bool.false_eq_true,if_false]at hsn;refine zd.intro (λn vs hh=>vs=[y2,.int .i64 0] /\ hh=h4) 0 ?_ ⟨rfl,rfl⟩;rintro Y3 n3 vs h5 ⟨rfl,rfl⟩ hY3;simp -dsimp[-V.zex];have:=next y2 h5 R2 (by rw[hsn];exact oy2.grow le4)
    rw[zg8 (show k<4611686018427387904 by omega)]at this ⊢;exact this
   | true=>
    rw[hh]at hsn;simp only[if_true]at hsn;refine zd.intro (λn vs hh=>∃(m:Nat)(y':za)(R':List (List za)),m+n=(zh4 all t).length /\ vs=[y',.int .i64 (m:Int)] /\ h4.le hh /\ zcw h1 hh [.sl 1 y' ((zj7 ak ((zh4 all t).take m)).map tc) R']) (zh4 all t).length ?_ ⟨0,y2,R2,by simp,rfl,zb.le_refl _,oy2.grow le4⟩;rintro Y3 n3 vs h5 ⟨m,y',R',hm,rfl,le5,oy'⟩ hY3;have hy':SlX h5 1 y' ((zj7 ak ((zh4 all t).take m)).map tc) R':=oy'.zgz 0 rfl;have hpl:(zj7 ak ((zh4 all t).take m)).length <= all.length:=(zgv (zmd rk)).length_le_of_subset λq hq=>by
     rcases zjd.1 hq with h|h
     ·exact hka q h
     ·exact hkn q (mem_of_mem_take h)
    by_cases hml:m<(zh4 all t).length
    ·obtain⟨q,hq'⟩:=zgf hml
     have f1:V.zb3 1 w (.int .i64 (m:Int))=some (elp 1 w m 0):=hw.zjp (by rw[length_map];omega);have f2:A.ldv h5 (elp 1 w m 0)=some (.str q):=(hw.mono le5).cell (by rw[getElem?_map,hq'];rfl);have c1:decide ((m:Int)<((zh4 all t).length:Int))=true:=by simp;omega
     simp -dsimp only[zcb.l2,zcb.k1,B.zi1,B.zdr,zk3,lw,B.ze,V.zeh,c1,B.zhx,B.cond_true,f1,f2,B.zha];refine s3 y' _ R' q h5 _ hy' (by omega) λy3 h6 hd3=>?_;obtain⟨R3,le6,oy3⟩:∃R3,h5.le h6 /\ zcw h1 h6 [.sl 1 y3 ((ztu (zj7 ak ((zh4 all t).take m)) q).map tc) R3]:=by
      rcases hd3 with⟨rfl,rfl,e⟩|o
      ·exact⟨R',zb.le_refl _,by rw[e];exact oy'⟩
      ·exact⟨[],o.le,o.back oy'.le⟩
     have hmb:m<4611686018427387904:=by
      have:(zh4 all t).length <= (ziw t).length:=length_filter_le _ _;obtain⟨ok1,ok2⟩:t.zgc.length <= few /\ t.zep.length <= few:=eb.at_.2.2;unfold few at ok1 ok2;unfold ziw at this;simp only[length_cons,length_append,length_map]at this;omega
     simp -dsimp only[zg8 hmb,B.ze];refine hY3 ((zh4 all t).length-(m+1)) _ _ (by omega) ⟨m+1,y3,R3,by omega,rfl,zb.le_trans le5 le6,?_⟩;rw[take_succ hq',zu6];exact oy3
    ·have c1:decide ((m:Int)<((zh4 all t).length:Int))=false:=by simp;omega
     have hme:m=(zh4 all t).length:=by omega
     subst hme;rw[take_length,<-hsn]at oy';simp -dsimp only[zcb.l2,zcb.k1,B.zi1,B.zdr,zk3,lw,B.ze,V.zeh,c1,B.zhx,B.cond_false];exact next y' h5 R' oy'
  ·rw[decide_eq_false_iff_not]at hc2
   have:k=I.length:=by omega
   subst this;rw[take_length]at oy2 rk hka;refine hY j _ _ (by omega) ⟨y2,a.length,zh9 all I a,R2,rfl,oy2,rk,hka,?_⟩;rw[zmb]at hr;by_cases e:(zh9 all I a).length=a.length
   ·rw[if_pos e]at hr
    exact .inl ⟨e.symm,hr⟩
   ·rw[if_neg e]at hr
    have:=round_len (all:=all) (J:=I) ra;exact .inr ⟨λh=>e h.symm,hr,by omega⟩
 ·have e:n=a.length:=by
   have:(n:Int)=(a.length:Int):=by simpa using hd
   omega
  obtain⟨_,rfl⟩:=hinv.resolve_right λh=>h.1 e;exact zba (hq y hh R (oy.back le1))
variable{C:zh}{N:zN}
theorem withT_snoc(I:List Itm)(l:List Key)(c:Key):zgy I (l++[c])=zj7 (zgy I l) (if c∈zci I then zd2 I c else [c]):=by
 unfold zgy;rw[foldl_append];rfl
theorem zty(I:List Itm)(l:List Key):(zgy I l).length <= I.length+l.length:=by
 have h:=(zgv (zl8 I l)).length_le_of_subset (l₂:=zci I++l) λk hk=>by
  obtain⟨d,h1,h2⟩:=zxu.1 hk;rcases h2 with⟨h2,h3⟩|⟨_,rfl⟩
  ·exact mem_append_left _ (h3.zrc h2)
  ·exact mem_append_right _ h1
 have:=zn8 I;rw[length_append]at h;omega
def zdb.Spec(C:zh)(N:zN):Prop:=∀(x y:za)(I:List Itm)(L:List Key)(R:List (List za))(h:zb)(Q:zQ),Dl zd3 h x I->I.length <= 1000000->SlX h 1 y (L.map tc) R->L.length <= 1000000->(∀x' h' R',h.le h'->SlX h' 1 x' ((zgy I L).map tc) R'->Q x' h')->C (N 594) [x,y] h Q
theorem zdb.spec(i:zdb.Imp C N)(s1:zeg.Spec C N)(s2:zf1.Spec C N)(s3:zcb.Spec C N)(s4:zej.Spec C N):zdb.Spec C N:=by
 intro x y I L R h Q hx hI hy hL hq;apply i;simp -dsimp only[zdb.cps];refine s1 x I h _ hx hI λz h1 Rz le1 hz=>?_;have cl:=zn8 I;have ly0:=hy.zbi;rw[length_map]at ly0;refine zd.intro (λn vs hh=>∃(k:Nat)(o:za)(R':List (List za)),k+n=L.length /\ vs=[o,.int .i64 (k:Int)] /\ h1.le hh /\ SlX hh 1 o ((zgy I (L.take k)).map tc) R') L.length ?_ ⟨0,.zbj,[],by simp,rfl,zb.le_refl _,SlX.zbj h1 1⟩;rintro Y n vs hh ⟨k,o,Ro,hk,rfl,le2,ho⟩ hY;simp -dsimp only[zdb.l5,ly0,V.zeh,B.ze];have wl:=zty I (L.take k);rw[length_take]at wl;refine B.zm (λhc=>?_) (λhc=>?_)
 ·rw[decide_eq_true_eq]at hc
  obtain⟨c,hcc⟩:=zgf (L:=L) (k:=k) (by omega);have f1:V.zb3 1 y (.int .i64 (k:Int))=some (elp 1 y k 0):=hy.zjp (by rw[length_map];omega);have f2:∀{h'},h1.le h'->A.ldv h' (elp 1 y k 0)=some (.str c):=λhle=>(hy.mono (zb.le_trans le1 hle)).cell (by rw[getElem?_map,hcc];rfl);have hsn:zgy I (L.take (k+1))=zj7 (zgy I (L.take k)) (if c∈zci I then zd2 I c else [c]):=by rw[take_succ hcc,withT_snoc]
  have wl1:=zty I (L.take (k+1));rw[length_take]at wl1
  have inner:∀(g:List Key)(v:za)(Rv:List (List za))(v6:za)(h3:zb),hh.le h3->SlX h3 1 v (g.map tc) Rv->g.length <= 10000000->(g=if c∈zci I then zd2 I c else [c])->zd (zdb.l2 C N (dn Q) Y x y v6 (.int .i64 (k:Int)) v) [o,.int .i64 0] h3:=by
   intro g v Rv v6 h3 le3 hv hg eg;rw[<-eg]at hsn;have lv:=hv.zbi;rw[length_map]at lv;refine zd.intro (λn vs hh=>∃(m:Nat)(o':za)(R':List (List za)),m+n=g.length /\ vs=[o',.int .i64 (m:Int)] /\ h3.le hh /\ SlX hh 1 o' ((zj7 (zgy I (L.take k)) (g.take m)).map tc) R') g.length ?_ ⟨0,o,Ro,by simp,rfl,zb.le_refl _,ho.mono le3⟩;rintro Y2 n2 vs h4 ⟨m,o',R',hm,rfl,le4,ho'⟩ hY2;have pl:=zt2 (l:=zgy I (L.take k)) (m:=g.take m) (zl8 _ _);rw[length_take]at pl;simp -dsimp only[zdb.l2,zdb.k1,lv,V.zeh,B.ze];refine B.zm (λhd=>?_) (λhd=>?_)
   ·rw[decide_eq_true_eq]at hd
    obtain⟨q,hq'⟩:=zgf (L:=g) (k:=m) (by omega);have g1:V.zb3 1 v (.int .i64 (m:Int))=some (elp 1 v m 0):=hv.zjp (by rw[length_map];omega);have g2:A.ldv h4 (elp 1 v m 0)=some (.str q):=(hv.mono le4).cell (by rw[getElem?_map,hq'];rfl);have pl2:(zj7 (zgy I (L.take k)) (g.take m)).length <= 10000000:=by
     have hsub:=(zgv (zmd (m:=g.take m) (zl8 I (L.take k)))).length_le_of_subset (l₂:=zgy I (L.take (k+1))) λy hy=>by
      rw[hsn];rcases zjd.1 hy with h|h
      ·exact zjd.2 (.inl h)
      ·exact zjd.2 (.inr (mem_of_mem_take h))
     omega
    simp -dsimp only[g1,g2,B.zha,B.ze];refine s4.rd o' _ R' q h4 _ ho' pl2 λo2 h5 R2 le5 ho2=>?_;simp -dsimp only[zg8 (show m<4611686018427387904 by omega),B.ze];refine hY2 (g.length-(m+1)) _ _ (by omega) ⟨m+1,o2,R2,by omega,rfl,zb.le_trans le4 le5,?_⟩;rw[take_succ hq',zu6];exact ho2
   ·rw[decide_eq_false_iff_not]at hd
    have:m=g.length:=by omega
    subst this;rw[take_length,<-hsn]at ho';simp -dsimp only[zg8 (show k<4611686018427387904 by omega),B.ze];exact hY (L.length-(k+1)) _ _ (by omega) ⟨k+1,o',R',by omega,rfl,zb.le_trans le2 (zb.le_trans le3 le4),ho'⟩
  have hf:zed [(0,none,.str c)] (zfs 1 [.str []])=some [.str c]:=rfl;simp -dsimp only[zdb.k4,f1,f2 le2,B.zha,B.ze,hf];intro i22 f22;have o1:=(zcw.start hh).zpz (id:=i22) (n:=1) (cp:=1) (es:=1) (cs:=[.str c]) (L:=[c].map tc) (R:=[]) f22 (by simp[tc]) rfl (by simp) rfl;generalize upd hh i22 (zgl [.str c])=h3 at *;have le3:=zb.le_trans le2 o1.le;simp -dsimp only[zdb.k3,f1,f2 le3,B.zha,B.ze];refine s2 z (zci I) Rz c h3 _ (hz.mono le3) (by omega) ?_;refine B.zm (λhd=>?_) (λhd=>?_)
  ·have hcI:c∈zci I:=of_decide_eq_true hd
   simp -dsimp only[f1,f2 le3,B.zha,B.ze];refine s3 x I c h3 _ (hx.mono (zb.le_trans le1 le3)) hI hcI λv h4 Rv ov=>?_;have le4:=ov.le;have hv:SlX h4 1 v ((zd2 I c).map tc) Rv:=ov.zgz 0 rfl;have hgl:(zd2 I c).length <= (zci I).length:=(zgv (zfw hcI).1).length_le_of_subset λy hy=>(((zfw hcI).2 y).1 hy).zrc hcI;exact inner (zd2 I c) v Rv _ h4 (zb.le_trans o1.le le4) hv (by omega) (by rw[if_pos hcI])
  ·have hcI:c∉zci I:=of_decide_eq_false hd
   exact inner [c] _ [] _ h3 o1.le (o1.zgz 0 rfl) (by simp) (by rw[if_neg hcI])
 ·rw[decide_eq_false_iff_not]at hc
  have:k=L.length:=by omega
  subst this;rw[take_length]at ho;exact zba (hq o hh Ro (zb.le_trans le1 le2) ho)
variable{C:zh}{N:zN}
def ofK(I:List Itm)(k:Nat):List (List Key):=(((zci I).take k).filter λc=>decide ((zd2 I c).head?=some c)).map (zd2 I)
theorem ofK_step{I:List Itm}{k:Nat}{c:Key}(hc:(zci I)[k]?=some c):ofK I (k+1)=ofK I k++if c∈(ofK I k).flatten then [] else [zd2 I c]:=by
 have hcI:c∈zci I:=mem_of_getElem? hc;have key:c∈(ofK I k).flatten↔¬ (zd2 I c).head?=some c:=by
  constructor
  ·intro hm he
   obtain⟨g,hg,hcg⟩:=mem_flatten.1 hm;obtain⟨b,hb,rfl⟩:=mem_map.1 hg;obtain⟨hbt,hbh⟩:=mem_filter.1 hb;have hbI:b∈zci I:=mem_of_mem_take hbt;have e:=zmt hbI hcg;rw[<-e,he]at hbh;have hbc:c=b:=by simpa using hbh
   subst hbc;obtain⟨j,hj,hje⟩:=getElem_of_mem hbt;rw[length_take]at hj;obtain⟨hk1,hk2⟩:=List.getElem?_eq_some_iff.1 hc;rw[getElem_take]at hje;have:=(pairwise_iff_getElem.1 (zml I)) j k (by omega) hk1 (by omega);rw[hje,hk2,zko]at this;cases this
  ·intro hne
   have hself:=zn7 hcI;have hrise:=(zfw hcI).1;cases hg:zd2 I c with
   | nil=>rw[hg]at hself;cases hself
   | cons a r=>
    have hag:a∈zd2 I c:=by rw[hg];exact mem_cons_self ..
    have haI:=(((zfw hcI).2 a).1 hag).zrc hcI;have ea:=zmt hcI hag;have hac:a≠c:=λe=>hne (by rw[hg,e];rfl);have hlt:zij a c=true:=by
     rw[hg]at hself hrise;rcases mem_cons.1 hself with e|hm
     ·exact absurd e.symm hac
     ·exact(pairwise_cons.1 hrise).1 c hm
    have hat:a∈(zci I).take k:=by
     obtain⟨j,hj,hje⟩:=getElem_of_mem haI;obtain⟨hk1,hk2⟩:=List.getElem?_eq_some_iff.1 hc;have hjk:j<k:=by
      rcases Nat.lt_trichotomy j k with h|h|h
      ·exact h
      ·subst h
       rw[hk2]at hje;exact absurd hje.symm hac
      ·have:=(pairwise_iff_getElem.1 (zml I)) k j hk1 hj h
       rw[hje,hk2,zpf hlt]at this;cases this
     have:((zci I).take k)[j]?=some a:=by
      rw[getElem?_take,if_pos hjk,getElem?_eq_getElem hj,hje]
     exact mem_of_getElem? this
    refine mem_flatten.2 ⟨zd2 I a,mem_map.2 ⟨a,mem_filter.2 ⟨hat,by rw[ea,hg];simp⟩,rfl⟩,?_⟩;rw[ea];exact hself
 unfold ofK at key ⊢;rw[take_succ hc,filter_append,map_append];congr 1;by_cases hh:(zd2 I c).head?=some c
 ·rw[if_neg (λh=>key.1 h hh)]
  simp[hh]
 ·rw[if_pos (key.2 hh)]
  simp[hh]
theorem flat_le{L:List (List Key)}{m:Nat}(h:∀g∈L,g.length <= m):L.flatten.length <= L.length*m:=by
 induction L with
 | nil=>simp
 | cons g L ih=>
  have h1:=ih λk hk=>h k (mem_cons_of_mem _ hk);have h2:=h g (mem_cons_self ..);rw[flatten_cons,length_append,length_cons,Nat.add_mul];omega
abbrev grO(p:za×List Key×List (List za)):Ob:= .sl 1 p.1 (p.2.1.map tc) p.2.2
def zgn.Spec(C:zh)(N:zN):Prop:=∀(x:za)(I:List Itm)(h:zb)(Q:zQ),Dl zd3 h x I->I.length <= 5000->(∀x' (P:List (za×List Key×List (List za))) h',P.map (·.2.1)=ofT I->zcw h h' (.sl 1 x' (P.map λp=>[p.1]) []::P.map grO)->Q x' h')->C (N 593) [x] h Q
theorem zgn.spec(i:zgn.Imp C N)(s1:zeg.Spec C N)(s2:zf1.Spec C N)(s3:zcb.Spec C N):zgn.Spec C N:=by
 intro x I h Q hx hI hq;apply i;simp -dsimp only[zgn.cps];refine s1 x I h _ hx (by omega) λz h1 Rz le1 hz=>?_;have cl:=zn8 I;have lz:=hz.zbi;rw[length_map]at lz;refine zd.intro (λn vs hh=>∃(k:Nat)(o e:za)(P:List (za×List Key×List (List za))),k+n=(zci I).length /\ vs=[o,e,.int .i64 (k:Int)] /\ P.map (·.2.1)=ofK I k /\ zcw h1 hh (.sl 1 o (P.map λp=>[p.1]) []:: .sl 1 e ((ofK I k).flatten.map tc) []::P.map grO)) (zci I).length ?_ ⟨0,.zbj,.zbj,[],by simp,rfl,rfl,((zcw.start h1).zbj 1).zbj 1⟩;rintro Y n vs hh ⟨k,o,e,P,hk,rfl,eP,ow⟩ hY;have hPl:P.length <= k:=by
  have:=congrArg List.length eP;rw[length_map]at this;rw[this];unfold ofK;rw[length_map];have h1:=length_filter_le (λc=>decide ((zd2 I c).head?=some c)) ((zci I).take k);rw[length_take]at h1;omega
 have glen:∀{c},c∈zci I->(zd2 I c).length <= 5000:=λ{c} hc=>by
  have:=(zgv (zfw hc).1).length_le_of_subset (l₂:=zci I) λy hy=>(((zfw hc).2 y).1 hy).zrc hc;omega
 have hfl:(ofK I k).flatten.length <= 25000000:=by
  have h1:=flat_le (L:=ofK I k) (m:=5000) λg hg=>by
   obtain⟨b,hb,rfl⟩:=mem_map.1 hg;exact glen (mem_of_mem_take (mem_filter.1 hb).1)
  have h2:(ofK I k).length=P.length:=by rw[<-eP,length_map]
  rw[h2]at h1;have:=Nat.mul_le_mul_right 5000 (show P.length <= 5000 by omega);omega
 simp -dsimp only[zgn.l2,zgn.k1,lz,V.zeh,B.ze];refine B.zm (λhc=>?_) (λhc=>?_)
 ·rw[decide_eq_true_eq]at hc
  obtain⟨c,hcc⟩:=zgf (L:=zci I) (k:=k) (by omega);have hcI:c∈zci I:=mem_of_getElem? hcc;have f1:V.zb3 1 z (.int .i64 (k:Int))=some (elp 1 z k 0):=hz.zjp (by rw[length_map];omega);have f2:A.ldv hh (elp 1 z k 0)=some (.str c):=(hz.mono ow.le).cell (by rw[getElem?_map,hcc];rfl);have hst:=ofK_step hcc;simp -dsimp only[f1,f2,B.zha,B.ze];refine s2 e _ [] c hh _ (ow.zgz 1 rfl) (by omega) ?_;refine B.zm (λhd=>?_) (λhd=>?_)
  ·rw[if_pos (of_decide_eq_true hd),append_nil]at hst
   simp -dsimp only[zg8 (show k<4611686018427387904 by omega),B.ze];exact hY ((zci I).length-(k+1)) _ _ (by omega) ⟨k+1,o,e,P,by omega,rfl,by rw[hst];exact eP,by rw[hst];exact ow⟩
  ·rw[if_neg (of_decide_eq_false hd)]at hst
   simp -dsimp only[f1,f2,B.zha,B.ze];refine s3 x I c hh _ (hx.mono (zb.le_trans le1 ow.le)) (by omega) hcI λv h4 Rv ov=>?_;have cv:v.zbm=true:=(ov.zgz 0 rfl).zbm;have hf:zed [(0,none,v)] (zfs 1 [.zbj])=some [v]:=by simp -dsimp[cv,zfs]
   rw[hf];have oj:=ow.join ov;refine oj.push 0 rfl (cs:=[v]) rfl (by omega) (by simp;omega) (by simp[maxLen];omega) λo' h5 o5 _=>?_;have o5:zcw h1 h5 (.sl 1 o' ((P.map λp=>[p.1])++[[v]]) []:: .sl 1 e ((ofK I k).flatten.map tc) []::(P.map grO++[.sl 1 v ((zd2 I c).map tc) Rv])):=o5;have hv5:SlX h5 1 v ((zd2 I c).map tc) Rv:=o5.is (.sl 1 v ((zd2 I c).map tc) Rv) (by simp);have gl:=glen hcI;refine o5.zif 1 rfl hv5 (by omega) (by simp only[length_map];omega) (by simp only[length_map,maxLen];omega) λe' h6 o6 _=>?_;simp -dsimp only[zg8 (show k<4611686018427387904 by omega),B.ze];refine hY ((zci I).length-(k+1)) _ _ (by omega) ⟨k+1,o',e',P++[(v,zd2 I c,Rv)],by omega,rfl,by rw[hst,map_append,eP];rfl,?_⟩;rw[hst,flatten_append,map_append,map_append,map_append];have e7:[zd2 I c].flatten=zd2 I c:=by simp
   rw[e7];exact o6
 ·rw[decide_eq_false_iff_not]at hc
  have:k=(zci I).length:=by omega
  subst this;have eT:ofK I (zci I).length=ofT I:=by unfold ofK ofT;rw[take_length]
  refine zba (hq o P hh (by rw[<-eT];exact eP) ((ow.back le1).sub ?_));exact List.Sublist.cons_cons _ (sublist_cons_self _ _)
end Go.Ab
namespace Go.Ab
open List
variable{C:zh}{N:zN}
theorem ofT_len(I:List Itm):(ofT I).length <= I.length:=by
 unfold ofT;rw[length_map];have h1:=length_filter_le (λc=>decide ((zd2 I c).head?=some c)) (zci I);have:=zn8 I;omega
theorem ofT_mem{I:List Itm}{g:List Key}(hg:g∈ofT I):∃c∈zci I,(zd2 I c).head?=some c /\ g=zd2 I c:=by
 unfold ofT at hg;obtain⟨c,hc,rfl⟩:=mem_map.1 hg;obtain⟨h1,h2⟩:=mem_filter.1 hc;exact⟨c,h1,by simpa using h2,rfl⟩
theorem groupT_len{I:List Itm}{c:Key}(hc:c∈zci I):(zd2 I c).length <= I.length:=by
 have h1:=(zgv (zfw hc).1).length_le_of_subset (l₂:=zci I) λy hy=>(((zfw hc).2 y).1 hy).zrc hc;have:=zn8 I;omega
theorem ofT_len1{I:List Itm}{g:List Key}(hg:g∈ofT I):g.length <= I.length:=by
 obtain⟨c,hc,_,rfl⟩:=ofT_mem hg;exact groupT_len hc
theorem texts_apart{g:Nat}(s:zhd C 1 g){Lk:LK}{z:za}{h0 h:zb}{l:List Ob}{Q:zQ}(ho:zcw h0 h (l++Lk.map (obK 1)))(hz:∀h',(∀o∈l,Ob.at h' o)->SlX h' 1 z (Lk.map λq=>[q.1]) [])(hn:Lk.length <= 100000000)(hl:∀q∈Lk,q.2.length <= 100000000)
  (hq:∀h',h0.le h'->Q (.bool true) h'):C g [z] h Q:=by
 obtain⟨q1,q2⟩:=ho.out;refine s (Lk.ll z) (h.zox (Lk.map (obK 1))) h Q ⟨?_,hn,λj hj=>?_⟩ (by rw[LK.obs];exact q2) λh' hle=>hq h' (zb.le_trans q1.le hle)
 ·have:=hz _ λo hm=>q1.is o hm
  rw[<-LK.zhu]at this;exact this
 ·show (Lk.getD j (.zbj,[])).2.length <= _
  have hj:j<Lk.length:=hj;rw[getD_eq_getElem?_getD,getElem?_eq_getElem hj];exact hl _ (getElem_mem hj)
def lkT(P:List (za×List Key)):LK:=P.map λp=>(p.1,p.2.map tc)
theorem lkT_ob(P:List (za×List Key)):(lkT P).map (obK 1)=P.map zkk:=by
 unfold lkT;rw[map_map];rfl
theorem lkT_fst(P:List (za×List Key)):(lkT P).map (λq=>[q.1])=P.map λp=>[p.1]:=by
 unfold lkT;rw[map_map];rfl
theorem refOf_at{h0 h:zb}{x:za}{P:List (za×List Key×List (List za))}(o:zcw h0 h (.sl 1 x (P.map λp=>[p.1]) []::P.map grO)):TxAt h x (P.map (·.2.1)):=by
 have h1:SlX h 1 x (P.map λp=>[p.1]) []:=o.zgz 0 rfl;exact TxAt.of (f:=λp:za×List Key×List (List za)=>p.1) (g:=λp=>p.2.1) (r:=λp=>p.2.2) h1 λp hp=>o.is (grO p) (mem_cons_of_mem _ (mem_map_of_mem hp))
def zek.Spec(C:zh)(N:zN):Prop:=∀(x y:za)(L:List Itm)(M:List Key)(R:List (List za))(h:zb)(Q:zQ),Dl zyl h x L->L.length<4611686018427387904->(∀t∈L,t.inLen)->SlX h 1 y (M.map tc) R->M.length<4611686018427387904->(∀c∈M,c.length<4611686018427387904)->Q (.bool true) h->C (N 595) [x,y] h Q
theorem zek.spec(i:zek.Imp C N)(s0:ze7.Spec C N)(s1:zdu.Spec C N)(s2:zc0.Spec C N)(s3:zeq.Spec C N)(s4:zer.Spec C N)(s5:zdo.Spec C N)(s6:zdg.Spec C N)(s7:zec.Spec C N)
  (s8:zc3.Spec C N) (s9:zew.Spec C N) (s10:zgn.Spec C N) (s11:zes.Spec C N) (s12:zdb.Spec C N) (s13:zef.Spec C N) (s14:zhd C 1 (N 396)):zek.Spec C N:=by
 intro x y L M R h Q hx hL hin hy hM hMl hq;apply i;simp -dsimp only[zek.cps,zek.k1];refine s1 x y L M R h _ hx hL hin hy hM hMl λb hb=>?_;cases b with
 | true=>simp -dsimp;exact s0 _ _ (zba hq)
 | false=>
 obtain⟨hB,hM2⟩:=hb rfl;have hx:=hB.at hx;have hn:=hB.n;simp -dsimp;refine s2 x L h _ hx (by omega) λx1 P PM h1 e1 e2 o1=>?_;have hok1:∀p∈P,zd3.ok p.1:=λp hp=>hx.ok _ (by rw[<-e1];exact mem_map_of_mem hp);have z1:zut zd3 zkt h1 x1 L:=zut.of zp1 hx.ok e1 e2 o1;have d1:Dl zd3 h1 x1 L:=z1.dl;refine s3 y M R h1 _ (hy.mono o1.le) (by omega) λy1 h2 o2=>?_;have d2:=d1.mono o2.le;have t2:SlX h2 1 y1 (M.map tc) zh2:=o2.zgz 0 rfl;refine s4 x1 L h2 _ d2 (by omega) λa PA h3 eA o3=>?_;refine s4 x1 L h3 _ (d2.mono o3.le) (by omega) λc PB h4 eB o4=>?_;have o34:=o3.join o4;refine s5 x1 y1 L M zh2 h4 _ (d2.mono o34.le) (by omega) (t2.mono o34.le) (by omega) λw h5 o5=>?_;have o35:=o34.join o5;refine s5 x1 y1 L M zh2 h5 _ (d2.mono o35.le) (by omega) (t2.mono o35.le) (by omega) λv h6 o6=>?_;have o36:=o35.join o6;have l26:=o36.le;have l16:=zb.le_trans o2.le l26;have l06:=zb.le_trans o1.le l16;refine s6 x1 x L L h6 _ (z1.mono l16) (hx.mono l06) (by omega) ?_;simp -dsimp;refine s7 y1 y M M R h6 _ (t2.mono l26) (hy.mono l06) (by omega) ?_;simp -dsimp;have oo:=o1.join (o2.join o36);obtain⟨q1,q2⟩:=(oo.perm perm_append_comm).out;refine s8 _ _ _ _ h6 _ q2 hok1 (by have:=congrArg List.length e2;rw[length_map]at this;exact this) (by have:=congrArg List.length e1;simp at this;omega) λh7 le7=>?_;have p7:=q1.grow le7;obtain⟨q3,q4⟩:=(p7.perm (perm_append_comm (l₁:=[Ob.sl 1 y1 (M.map tc) zh2]))).out;refine s9 _ h7 y1 _ _ _ q4 rfl (by simp;omega) λh8 le8=>?_;have p8:=q3.grow le8;refine s10 x L h8 _ (hx.mono p8.le) (by omega) λzr Pz h9 ez o9=>?_;have p9:=p8.grow o9.le;have t9:=refOf_at o9;rw[ez]at t9;have ta:TxAt h9 a (ofT L):=by
  have:=rowsT_at (P:=PA) (x:=a) p9 λb hb=>mem_append_left _ (mem_append_left _ (mem_append_left _ hb));rw[eA]at this;exact this
 have ol:=ofT_len L;refine s11 a zr _ _ h9 _ ta t9 (by omega) (λl hl=>by have:=ofT_len1 hl;omega) ?_;simp -dsimp;refine s12 x y L M R h9 _ (hx.mono p9.le) (by omega) (hy.mono p9.le) (by omega) λwr h10 Rw le10 sw=>?_;have p10:=p9.grow le10;have wl:=zty L M;have tw:SlX h10 1 w ((zgy L M).map tc) []:=p10.is (.sl 1 w ((zgy L M).map tc) []) (by simp);simp -dsimp;refine s13 w wr _ _ [] Rw h10 _ tw sw (by omega) ?_;simp -dsimp;have lA:PA.length=(ofT L).length:=by rw[<-eA,length_map]
 have lB:PB.length=(ofT L).length:=by rw[<-eB,length_map]
 have p11:=p10.sz 1;have hsa:SlX h10 1 a (PA.map λp:za×List Key=>[p.1]) []:=p10.is (.sl 1 a (PA.map λp:za×List Key=>[p.1]) []) (by simp[zog]);have hsc:SlX h10 1 c (PB.map λp:za×List Key=>[p.1]) []:=p10.is (.sl 1 c (PB.map λp:za×List Key=>[p.1]) []) (by simp[zog]);have step:∀{h0 h':zb}{z:za}{Z M':List (List za)}{y:za}{R':List (List za)}{K:zQ},zcw h0 h' (zog a PA++zog c PB++[Ob.sl 1 w ((zgy L M).map tc) []]++[Ob.sl 1 v ((zgy L M).map tc) []]++[Ob.sl 1 z Z []])->SlX h' 1 y M' R'->Z.length+M'.length <= 100000 ->
   (∀z' h'',zcw h0 h'' (zog a PA++zog c PB++[Ob.sl 1 w ((zgy L M).map tc) []]++[Ob.sl 1 v ((zgy L M).map tc) []]++[Ob.sl 1 z' (Z++M') []])->K z' h'')->A.zif h' 1 24 z y K:=by
  intro h0 h' z Z M' y R' K ho hy' hle hK;refine ho.zif (PA.length+PB.length+4) (by
   rw[getElem?_append_right (by simp[zog];omega)];have:PA.length+PB.length+4-(zog a PA++zog c PB++[Ob.sl 1 w ((zgy L M).map tc) []]++[Ob.sl 1 v ((zgy L M).map tc) []]).length=0:=by simp[zog];omega
   rw[this];rfl) hy' (by omega) (by omega) (by simp[maxLen];omega) λz' h'' o' _=>hK z' h'' ?_
  have e:∀(l:List Ob)(u u':Ob)(n:Nat),n=l.length->(l++[u]).set n u'=l++[u']:=λl u u' n hn=>by subst hn;simp
  rw[e _ _ _ _ (by simp[zog];omega)]at o';exact o'
 refine step p11 hsa (by simp;omega) λz2 h11 p12=>?_;have hsc':SlX h11 1 c (PB.map λp:za×List Key=>[p.1]) []:=p12.is (.sl 1 c (PB.map λp:za×List Key=>[p.1]) []) (by simp[zog]);simp -dsimp;refine step p12 hsc' (by simp;omega) λz3 h12 p13=>?_;have cw:w.zbm=true:=(p13.is (.sl 1 w ((zgy L M).map tc) []) (by simp)).zbm;have cv:v.zbm=true:=(p13.is (.sl 1 v ((zgy L M).map tc) []) (by simp)).zbm;simp -dsimp[cw,cv,zfs];intro id hid;have p14:=p13.grow (zl6 (zgl [w,v]) hid);have hwv:SlX (upd h12 id (zgl [w,v])) 1 (.sl id 0 0 2 1 2) [[w],[v]] []:=SlX.lit (zck ..) (by simp) rfl (by simp) rfl;simp -dsimp;refine step p14 hwv (by simp;omega) λz5 h13 p15=>?_;have hperm:(zog a PA++zog c PB++[Ob.sl 1 w ((zgy L M).map tc) []]++[Ob.sl 1 v ((zgy L M).map tc) []]++[Ob.sl 1 z5 (([]++PA.map λp:za×List Key=>[p.1])++(PB.map λp:za×List Key=>[p.1])++[[w],[v]]) []]).Perm
   ([Ob.sl 1 z5 ((lkT (PA++PB++[(w,zgy L M),(v,zgy L M)])).map λq=>[q.1]) []]++[Ob.sl 1 a (PA.map λp:za×List Key=>[p.1]) [],Ob.sl 1 c (PB.map λp:za×List Key=>[p.1]) []]++(lkT (PA++PB++[(w,zgy L M),(v,zgy L M)])).map (obK 1)):=by
  rw[lkT_ob,lkT_fst];simp only[zog,map_append,map_cons,map_nil,nil_append,append_assoc,cons_append];refine perm_middle.trans ?_;refine List.Perm.trans (l₂:=Ob.sl 1 a (PA.map λp:za×List Key=>[p.1]) []::(PA.map zkk++(Ob.sl 1 c (PB.map λp:za×List Key=>[p.1]) []::(PB.map zkk++[zkk (w,zgy L M),zkk (v,zgy L M),Ob.sl 1 z5 ((PA.map λp:za×List Key=>[p.1])++((PB.map λp:za×List Key=>[p.1])++[[w],[v]])) []])))) ?_ ?_
  ·refine List.Perm.cons _ (List.Perm.append_left _ ?_)
   exact perm_middle
  ·refine List.Perm.trans (l₂:=Ob.sl 1 a (PA.map λp:za×List Key=>[p.1]) []::(Ob.sl 1 c (PB.map λp:za×List Key=>[p.1]) []::(PA.map zkk++(PB.map zkk++[zkk (w,zgy L M),zkk (v,zgy L M),Ob.sl 1 z5 ((PA.map λp:za×List Key=>[p.1])++((PB.map λp:za×List Key=>[p.1])++[[w],[v]])) []])))) (List.Perm.cons _ perm_middle) ?_
   have:∀(l:List Ob)(u:Ob),(l++[u]).Perm (u::l):=λl u=>perm_append_comm;have:=this (Ob.sl 1 a (PA.map λp:za×List Key=>[p.1]) []::Ob.sl 1 c (PB.map λp:za×List Key=>[p.1]) []::(PA.map zkk++(PB.map zkk++[zkk (w,zgy L M),zkk (v,zgy L M)]))) (Ob.sl 1 z5 ((PA.map λp:za×List Key=>[p.1])++((PB.map λp:za×List Key=>[p.1])++[[w],[v]])) []);simpa only[cons_append,append_assoc,nil_append]using this
 have p16:=p15.perm hperm;simp -dsimp;refine texts_apart s14 p16 (λh' hat=>hat (Ob.sl 1 z5 ((lkT (PA++PB++[(w,zgy L M),(v,zgy L M)])).map λq:za×List (List za)=>[q.1]) []) (by simp)) (by simp[lkT];omega) (λq hq=>?_) λh14 le14=>?_
 ·unfold lkT at hq
  obtain⟨p,hp,rfl⟩:=mem_map.1 hq;show (p.2.map tc).length <= _;rw[length_map];simp only[mem_append,mem_cons,not_mem_nil,or_false]at hp;rcases hp with (hp|hp)|hp|hp
  ·have:=ofT_len1 (I:=L) (g:=p.2) (by rw[<-eA];exact mem_map_of_mem hp)
   omega
  ·have:=ofT_len1 (I:=L) (g:=p.2) (by rw[<-eB];exact mem_map_of_mem hp)
   omega
  ·rw[hp];show (zgy L M).length <= _;omega
  ·rw[hp];show (zgy L M).length <= _;omega
 ·simp -dsimp
  refine s0 _ _ ?_;simp -dsimp;exact dn_le le14 hq
variable{C:zh}{N:zN}
abbrev StaL(s:Sta)(x:za)(P PM:List (Itm×(za×za)))(y z:za):List Ob:=(.sl 4 x (P.map zd3.cs) (PM.map zd3.cs)::(zd3.os true P++zd3.os false PM))++[.sl 6 y (s.zjf.map Lot.cs) zrm]++[.sl 8 z (s.zgq.map znh.cs) zpe]
structure StaK(h:zb)(s:Sta)(x y z:za):Prop where
 items:zut zd3 zkt h x s.zet
 lots:SlX h 6 y (s.zjf.map Lot.cs) zrm
 lines:SlX h 8 z (s.zgq.map znh.cs) zpe
 n1:s.zet.length <= 100000000
 n2:s.zjf.length <= 100000000
 n3:s.zgq.length <= 100000000
theorem StaK.at{h:zb}{s:Sta}{x y z:za}(k:StaK h s x y z):zqx h s x y z:=⟨k.items.dl,⟨_,k.lots⟩,⟨_,k.lines⟩,k.n1,k.n2,k.n3⟩
theorem StaK.mono{h h':zb}{s:Sta}{x y z:za}(k:StaK h s x y z)(hle:h.le h'):StaK h' s x y z:=⟨k.items.mono hle,k.lots.mono hle,k.lines.mono hle,k.n1,k.n2,k.n3⟩
def zfn.Spec(C:zh)(N:zN):Prop:=∀(s:Sta)(x y z:za)(h:zb)(Q:zQ),zqx h s x y z->(∀x' P PM y' z' h',P.map (·.1)=s.zet->PM.map (·.1)=zxt zkt->zcw h h' (StaL s x' P PM y' z')->StaK h' s x' y' z'->Q (.agg (zlz s x' y' z')) h')->C (N 446) [.agg (zlz s x y z)] h Q
theorem zfn.spec(i:zfn.Imp C N)(s1:zc0.Spec C N)(s2:zfz.Spec C N)(s3:ze4.Spec C N):zfn.Spec C N:=by
 intro s x y z h Q hs hq;obtain⟨a1,⟨R2,a2⟩,⟨R3,a3⟩,n1,n2,n3⟩:=hs;apply i;simp -dsimp;refine s1 _ _ _ _ a1 n1 λx' P PM h1 e em o1=>?_;have c1:x'.zbm=true:=(o1.zgz 0 rfl).zbm;simp -dsimp[c1];refine s2 _ _ _ _ _ (a2.mono o1.le) n2 λy' h2 o2=>?_;have c2:=(o2.zgz 0 rfl).zbm;have o12:=o1.join o2;simp -dsimp[c2];refine s3 _ _ _ _ _ (a3.mono o12.le) n3 λz' h3 o3=>?_;have c3:=(o3.zgz 0 rfl).zbm;simp -dsimp[c3];have o4:=o12.join o3;have k1:zut zd3 zkt h1 x' s.zet:=zut.of zp1 a1.ok e em o1;refine zba (hq x' P PM y' z' h3 e em o4 ⟨k1.mono (zb.le_trans o2.le o3.le),(o2.zgz 0 rfl).mono o3.le,o3.zgz 0 rfl,n1,n2,n3⟩)
def zfo.Spec(C:zh)(N:zN):Prop:=∀(s t:Sta)(x y z u v w:za)(h:zb)(Q:zQ),StaK h s x y z->zqx h t u v w->Q (.bool (decide (s=t))) h->C (N 447) [.agg (zlz s x y z),.agg (zlz t u v w)] h Q
theorem zfo.spec(i:zfo.Imp C N)(s0:zev.Spec C N)(s1:zdg.Spec C N)(s2:zez.Spec C N)(s3:zem.Spec C N):zfo.Spec C N:=by
 intro s t x y z u v w h Q hs ht hq;have h0:=hs.at
 obtain⟨a1,a2,a3,n1,n2,n3⟩:=hs;have ht':=ht;obtain⟨b1,⟨S2,b2⟩,⟨S3,b3⟩,m1,m2,m3⟩:=ht;have c1:=a1.dl.zbm;have c2:=a2.zbm;have c3:=a3.zbm;have d1:=b1.zbm;have d2:=b2.zbm;have d3:=b3.zbm;apply i;simp +contextual -dsimp[c1,c2,c3,d1,d2,d3];refine s0 _ _ _ _ _ _ _ _ _ _ h0 ht' ?_;simp +contextual -dsimp[c1,c2,c3,d1,d2,d3];refine B.zmo (v:= .bool (decide (s.zet=t.zet))) (λ_ Q hq=>s1 _ _ _ _ _ _ a1 b1 (by omega) hq) ?_;simp +contextual -dsimp[c1,c2,c3,d1,d2,d3];refine B.zmo (v:= .bool (decide (s.zjf=t.zjf))) (λ_ Q hq=>s2 _ _ _ _ _ _ _ a2 b2 (by omega) hq) ?_;simp +contextual -dsimp[c1,c2,c3,d1,d2,d3];refine B.zmo (v:= .bool (decide (s.zgq=t.zgq))) (λ_ Q hq=>s3 _ _ _ _ _ _ _ a3 b3 (by omega) hq) ?_;simp -dsimp;refine zba ?_;have:decide (s=t)=(((decide (s=t)&&decide (s.zet=t.zet))&&decide (s.zjf=t.zjf))&&decide (s.zgq=t.zgq)):=by
  by_cases e:s=t
  ·subst e;simp
  ·simp[e]
 rw[this]at hq;exact hq
def zfk.Spec(C:zh)(N:zN):Prop:=∀(s:Sta)(x y z:za)(P PM:List (Itm×(za×za)))(h0 h:zb)(Q:zQ),P.map (·.1)=s.zet->PM.map (·.1)=zxt zkt->zcw h0 h (StaL s x P PM y z)->(∀t∈s.zet,t.ok)->s.zet.length+s.zjf.length+s.zgq.length <= 100000000->(∀h',h0.le h'->Q (.tup []) h')->C (N 448) [.agg (zlz s x y z)] h Q
theorem zfk.spec(i:zfk.Imp C N)(s1:zc3.Spec C N)(s2:zf6.Spec C N)(s3:zfm.Spec C N):zfk.Spec C N:=by
 intro s x y z P PM h0 h Q eP eM ho hok hn hq;apply i;have ho:zcw h0 h (((.sl 4 x (P.map zd3.cs) (PM.map zd3.cs)::(zd3.os true P++zd3.os false PM))++[.sl 6 y (s.zjf.map Lot.cs) zrm])++[.sl 8 z (s.zgq.map znh.cs) zpe]):=ho;have c1:x.zbm=true:=(ho.zgz 0 rfl).zbm;have ho:=ho.perm perm_append_comm;obtain⟨q1,q2⟩:=ho.out;have c3:=(q1.zgz 0 rfl).zbm;have c2:y.zbm=true:=((q2.perm perm_append_comm).zgz 0 rfl).zbm;simp -dsimp[c1,c2,c3];obtain⟨w1,w2⟩:=(q2.perm perm_append_comm).out;refine s1 _ _ _ _ _ _ w2 (λp hp=>hok _ (by rw[<-eP];exact mem_map.2 ⟨p,hp,rfl⟩)) (by have:=congrArg List.length eM;rw[length_map]at this;rw[this];simp[zxt]) (by have:=congrArg List.length eP;rw[length_map]at this;rw[this];omega) λh1 l1=>?_;have w1:=w1.grow l1;refine s2 _ _ _ _ _ _ w1 (by simp[zrm,marks]) (by rw[length_map];omega) λh2 l2=>?_;have q1:=q1.grow l2;refine s3 _ _ _ _ _ _ q1 (by simp[zpe,marks]) (by rw[length_map];omega) λh3 l3=>?_;exact zba (hq _ l3)
end Go.Ab
namespace Go.Ab
open List
variable{C:zh}{N:zN}
@[simp] def putD.k1(C:zh)(n f:Nat)(Q:zQ)(Y1:zL)(v0 v1 v4:za)(h:zb):Prop:=B.pv (V.zbi v1) λv17=>B.pv (V.bin .lss v4 v17) λv18=>B.cond v18 (B.pv (V.zb3 n v1 v4) λv24=>B.ldn h v24 n λv25=>B.call C f [v0,v25] h λv26 h=>B.pv (V.bin .add v4 (.int .i64 1)) λv20=>Y1 [v20] h) (Q (.tup []) h)
@[simp] def putD.l2(C:zh)(n f:Nat)(Q:zQ)(v0 v1:za):zG|[v4],h,Y1=>putD.k1 C n f Q Y1 v0 v1 v4 h|_,_,_=>False
def putD(C:zh)(k n f:Nat)(v0 v1:za)(h:zb)(Q:zQ):Prop:=putG k v0 v1 h λ_ h=>zd (putD.l2 C n f Q v0 v1) [(.int .i64 0)] h
section
variable{T Ad:Type}{K:DK T Ad}{inn:T->Ad->LK}
def allOb(K:DK T Ad)(ls:List (za×List (T×Ad))):List Ob:=ls.flatMap λp=> .sl K.n p.1 (p.2.map K.cs) []::K.os false p.2
end
variable{C:zh}{N:zN}
instance:Inhabited Ob:=⟨.box .zbj []⟩
variable{C:zh}{N:zN}
end Go.Ab
