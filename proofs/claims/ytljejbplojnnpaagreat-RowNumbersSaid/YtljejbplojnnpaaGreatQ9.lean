/- What is proved: a part of the way to the statement: Cref16d. No conditions. -/
import Derived.Test.YtljejbplojnnpaaGreatQ8
import Derived.Test.YtljejbplojnnpaaGreatQ7
import Derived.Test.YtljejbplojnnpaaGreatQ2
import Derived.Test.YtljejbplojnnpaaGreatRows
import Derived.Test.YtljejbplojnnpaaGreatQ3
import Derived.Test.YtljejbplojnnpaaGreatQ6
set_option linter.unusedVariables false
set_option linter.unusedSimpArgs false
set_option maxRecDepth 100000
namespace Go.Ab
open List
variable{C:aC}{N:zN}
theorem pT(s:jw.Spec C N){n:Int}{k:Nat}(hk:k <= 8){h:a9}(Q:zQ)(b:∀a h',aG h h' [.sl 1 a ((be n k).map bc) []]->Q a h'):C (N 466) [.int .i64 n,.int .i64 (k:Int)] h Q:=s n k h Q hk b
def gI.Spec(C:aC)(N:zN):Prop:=∀(t:en)(a:a7×a7)(h:a9)(Q:zQ),bR.at_ h t a->iQ t=true->(∀b h',aG h h' (aQ.gy false (tE t) b)->Q (.agg (aQ.cells (tE t) b)) h')->C (N 465) [.agg (bR.cells t a)] h Q
theorem gI.spec(i:gI.aD C N)(s1:jw.Spec C N)(s2:nE.Spec C N):gI.Spec C N:=by
 intro w a h Q X F g;obtain⟨f1,f2,f3,f4,f5⟩:=CJ F;obtain⟨⟨Ra,c⟩,⟨Rb,l⟩,_⟩:(∃R,aJ h 2 a.1 (w.cO.map Part.cs) R) /\ (∃R,aJ h 1 a.2 (w.dL.map tc) R) /\ w.ok:=X;have l1:=c.aE;have l2:=l.aE;rw[length_map]at l1 l2;have T:IntKind.u8.wrap (w.cO.length:Int)=((dN w.cO.length).toNat:Int):=mz _;have S:IntKind.u8.wrap (w.dL.length:Int)=((dN w.dL.length).toNat:Int):=mz _;have g1:=λj=>ui (f:=λp:Part=>fO p.Item++be p.ek 4) (m:=17) (λp=>by have:=kl p.Item;simp;omega) (w.cO.take j);have g2:=λj=>ui (f:=fO) (m:=13) kl (w.dL.take j);apply i;simp -dsimp[bR,l1,T];refine pT s1 (k:=2) (by omega) _ λv8 h1 U=>?_;simp -dsimp;refine yy U (by simp) λE h2 o2=>?_;refine aB.intro (λt vs G=>∃(j:Nat)(v:a7),j+t=w.cO.length /\ vs=[v,.int .i64 (j:Int)] /\ aG h G [.sl 1 v (((be w.jY 2++[dN w.cO.length])++(w.cO.take j).flatMap λp=>fO p.Item++be p.ek 4).map bc) []]) w.cO.length ?_ ⟨0,E,by omega,rfl,by simpa using o2⟩;rintro Y t vs P ⟨j,v,hj,rfl,x⟩ hY;simp -dsimp only[gI.l6,gI.k5,B.eJ,V.kH,getElem?_cons_succ,getElem?_cons_zero,l1,gH,B.aK];have L:=g1 j;rw[length_take]at L;refine B.bF (λo=>?_) (λo=>?_)
 ·rw[decide_eq_true_eq]at o
  obtain⟨q,b⟩:=dI o;have d:j<(w.cO.map Part.cs).length:=by simpa using o
  have e1:V.aM 2 a.1 (.int .i64 (j:Int))=some (aV 2 a.1 j 0):=c.dF d;have e2:V.fieldAddr 0 (aV 2 a.1 j 0)=some (aV 2 a.1 j 0):=c.jF d 0 0;have e3:V.fieldAddr 1 (aV 2 a.1 j 0)=some (aV 2 a.1 j 1):=c.jF d 0 1;have e4:A.bX P (aV 2 a.1 j 0)=some (.str q.Item):=(c.mono x.le).bX (get_map b) (by omega);simp -dsimp only[B.eJ,V.kH,getElem?_cons_succ,getElem?_cons_zero,e1,e2,e4,B.fw,B.aK];have H:=kl q.Item;refine vh (λQ g=>s2 q.Item P Q g) x (by simp only[length_append,gr,length_cons,length_nil];omega) λv30 O u=>?_;have e5:A.bX O (aV 2 a.1 j 1)=some (.int .i64 q.ek):=(c.mono u.le).bX (get_map b) (by omega);simp -dsimp only[B.eJ,V.kH,getElem?_cons_succ,getElem?_cons_zero,e1,e3,e5,B.fw,B.aK];refine vh (λQ g=>pT s1 (k:=4) (by omega) Q g) u (by simp only[length_append,gr,length_cons,length_nil];omega) λz J e=>?_;simp -dsimp only[eG (show j<4611686018427387904 by omega),B.aK];refine hY (t-1) _ _ (by omega) ⟨j+1,z,by omega,rfl,?_⟩;rw[take_succ b,flatMap_append];simpa using e
 ·rw[decide_eq_false_iff_not]at o
  have:j=w.cO.length:=by omega
  subst this;rw[take_length]at x;simp -dsimp[l2,S];refine yy x (by simp only[length_append,gr,length_cons,length_nil];rw[take_length]at L;omega) λy O u=>?_;generalize M:(((be w.jY 2++[dN w.cO.length])++w.cO.flatMap λp=>fO p.Item++be p.ek 4)++[dN w.dL.length])=D at *;have hDl:D.length <= 200:=by
   rw[take_length]at L;rw[<-M];simp only[length_append,gr,length_cons,length_nil];omega
  refine aB.intro (λt vs G=>∃(j:Nat)(v:a7),j+t=w.dL.length /\ vs=[v,.int .i64 (j:Int)] /\ aG h G [.sl 1 v ((D++(w.dL.take j).flatMap fO).map bc) []]) w.dL.length ?_ ⟨0,y,by omega,rfl,by simpa using u⟩;rintro Z t2 vs J ⟨j,v,W,rfl,e⟩ hZ;simp -dsimp only[gI.l3,gI.k2,B.eJ,V.kH,getElem?_cons_succ,getElem?_cons_zero,l2,gH,B.aK];have b2:=g2 j;rw[length_take]at b2;refine B.bF (λn=>?_) (λn=>?_)
  ·rw[decide_eq_true_eq]at n
   obtain⟨q,b⟩:=dI n;have d:j<(w.dL.map tc).length:=by simpa using n
   have e1:V.aM 1 a.2 (.int .i64 (j:Int))=some (aV 1 a.2 j 0):=l.dF d;have e4:A.bX J (aV 1 a.2 j 0)=some (.str q):=(l.mono e.le).cell (get_map b);simp -dsimp only[B.eJ,V.kH,getElem?_cons_succ,getElem?_cons_zero,e1,e4,B.fw,B.aK];have H:=kl q;refine vh (λQ g=>s2 q J Q g) e (by simp only[length_append];omega) λv6 I r=>?_;simp -dsimp only[eG (show j<4611686018427387904 by omega),B.aK];refine hZ (t2-1) _ _ (by omega) ⟨j+1,v6,by omega,rfl,?_⟩;rw[take_succ b,flatMap_append];simpa using r
  ·rw[decide_eq_false_iff_not]at n
   have:j=w.dL.length:=by omega
   subst this;rw[take_length]at e;have ev:D++w.dL.flatMap fO=u6 w:=by rw[<-M];unfold u6;simp
   rw[ev]at e;have K:(105::w.Code).length <= ep:=by
    have:=Co f4;unfold ep;simp;omega
   have es:V.bin .add (.str [105]) (.str w.Code)=some (.str (105::w.Code)):=V.Hk [105] w.Code (by unfold ep at K;simp at K ⊢;omega);have cv:=(e.aP 0 rfl).aI;simp -dsimp[es];refine Fc (s:=105::w.Code) K λkey I r=>?_;have ck:key.aI=true:=(r.aP 0 rfl:aJ I 1 key ((105::w.Code).map bc) []).aI;simp -dsimp[ck,cv];exact aR (g (key,v) I ((e.join r).perm (List.Perm.swap ..)))
theorem HO(s1:jw.Spec C N){hb h:a9}{c:UInt8}{n:Int}{l:List Ob}{K:zQ}(g:aG hb h l)(j:∀k h',aG hb h' (l++[gw false k (c::be n 8)])->K k h'):
  B.bL h (some [.int .u8 (c.toNat:Int)]) λi h=>B.conv h (.sl i 0 0 1 1 1) λv=>B.call C (N 466) [.int .i64 n,.int .i64 8] h λb h=>B.bO h 1 1 v b K:=by
 refine lK 1 (s:=[c]) rfl rfl λi p o2=>?_;refine ux o2 (by simp) ?_;generalize a7.sl i 0 0 1 1 1=v at *;refine pT s1 (k:=8) (by omega) _ λf o e=>?_;have a:((l++[.sl 1 v ([c].map bc) []])++[.sl 1 f ((be n 8).map bc) []])[l.length]?=some (.sl 1 v ([c].map bc) []):=by
  rw[getElem?_append_left (by simp)];exact mB
 refine((g.join o2).join e).bO l.length a (e.aP 0 rfl) (by omega) (by simp) (by simp[maxLen]) λk m d _=>j k m ?_;rw[set_append_left _ _ (by simp),vD,<-map_append]at d;exact d.sub (sublist_append_left _ _)
def iI.Spec(C:aC)(N:zN):Prop:=∀(w:bZ)(h:a9)(Q:zQ),(∀b h',aG h h' (aQ.gy false (rk w) b)->Q (.agg (aQ.cells (rk w) b)) h')->C (N 464) [.agg w.cs] h Q
theorem iI.spec(i:iI.aD C N)(s1:jw.Spec C N)(s2:nE.Spec C N)(A:jM.Spec C N):iI.Spec C N:=by
 intro w h Q M;apply i
 have tail:iI.k1 C N (dn Q) (.int .u8 ((bif w.rH then (1:UInt8) else 0).toNat:Int)) (.agg w.cs) (.agg [.aA,.aA]) h:=by
  simp -dsimp;refine s2 w.Item _ _ λm h1 K=>?_;obtain⟨b1,m1,t,G⟩:=gN (xs:=[]) (L:=[]) (aG.start h) trivial K;refine pT s1 (k:=2) (by omega) _ λl h2 o2=>?_;obtain⟨b2,m2,q,F⟩:=gN t G o2;refine pT s1 (k:=2) (by omega) _ λj Z J=>?_;obtain⟨b3,m3,p,E⟩:=gN q F J;refine pT s1 (k:=4) (by omega) _ λg Y I=>?_;obtain⟨b4,m4,o,D⟩:=gN p E I;simp -dsimp;refine lK 1 (s:=[bif w.rH then 1 else 0]) rfl rfl λi22 X H=>?_;obtain⟨b5,m5,b,a⟩:=gN o D H;generalize a7.sl i22 0 0 1 1 1=f at *;have W:=(a.get 0 m _ rfl rfl).elim λ_ r=>r.aI;have V:=(a.get 1 l _ rfl rfl).elim λ_ r=>r.aI;have U:=(a.get 2 j _ rfl rfl).elim λ_ r=>r.aI;have T:=(a.get 3 g _ rfl rfl).elim λ_ r=>r.aI;have S:=(a.get 4 f _ rfl rfl).elim λ_ r=>r.aI;simp -dsimp[W,V,U,T,S];refine tK 5 b rfl (ys:=[m,l,j,g,f]) λi23 z d v=>?_;generalize a7.sl i23 0 0 5 1 5=e at *;refine A e [m,l,j,g,f] [fO w.Item,be w.oe 2,be w.oY 2,be w.ek 4,[bif w.rH then 1 else 0]] [] z _ (v.is (.sl 1 e ([m,l,j,g,f].map λy=>[y]) []) (by simp)) (a.mono (a9.le_trans b.le d)) (by simp) (by have h1:=kl w.Item;simp;omega) λval O n=>?_;have cval:val.aI=true:=(n.aP 0 rfl:aJ O 1 val _ []).aI;have P:([fO w.Item,be w.oe 2,be w.oY 2,be w.ek 4,[bif w.rH then 1 else 0]]:List (List UInt8)).flatten=(rk w).Value:=by simp[rk,Ba]
  rw[P]at n;simp -dsimp;refine HO s1 (c:=108) n λkey x u=>?_;have R:key.aI=true:=(u.aP 1 rfl:aJ x 1 key _ []).aI;simp -dsimp[R,cval];have hle:h.le z:=a9.le_trans m1 (a9.le_trans m2 (a9.le_trans m3 (a9.le_trans m4 (a9.le_trans m5 v.le))));exact aR (M (key,val) x ((u.back hle).perm (List.Perm.swap ..)))
 simp -dsimp only[iI.aY,iI.k2];simp -dsimp[-iI.k1];refine B.bF (λhb=>?_) (λhb=>?_)
 ·rw[hb]at tail;simpa[-iI.k1,hb]using tail
 ·rw[hb]at tail;simpa[-iI.k1,hb]using tail
def qA.Spec(C:aC)(N:zN):Prop:=∀(w:dC)(h:a9)(Q:zQ),(∀b h',aG h h' (aQ.gy false (rh w) b)->Q (.agg (aQ.cells (rh w) b)) h')->C (N 463) [.agg w.cs] h Q
theorem qA.spec(i:qA.aD C N)(s1:jw.Spec C N)(s2:nE.Spec C N)(G:jM.Spec C N):qA.Spec C N:=by
 intro w h Q U;apply i;have e3:IntKind.u8.wrap w.pe=((dN w.pe).toNat:Int):=mz _;simp -dsimp[e3];refine s2 w.Item _ _ λp h1 T=>?_;obtain⟨b1,m1,z,M⟩:=gN (xs:=[]) (L:=[]) (aG.start h) trivial T;refine pT s1 (k:=4) (by omega) _ λo W o2=>?_;obtain⟨b2,m2,x,K⟩:=gN z M o2;refine pT s1 (k:=2) (by omega) _ λn h3 S=>?_;obtain⟨b3,m3,v,J⟩:=gN x K S;refine pT s1 (k:=2) (by omega) _ λm h4 R=>?_;obtain⟨b4,m4,u,I⟩:=gN v J R;refine s2 w.Code _ _ λl h5 P=>?_;obtain⟨b5,m5,t,H⟩:=gN u I P;simp -dsimp;refine lK 2 (s:=[dN w.pe,w.State]) rfl rfl λi18 h6 O=>?_;obtain⟨b6,m6,f,b⟩:=gN t H O;generalize a7.sl i18 0 0 2 1 2=a at *;have c5:=(b.get 0 p _ rfl rfl).elim λ_ r=>r.aI;have c6:=(b.get 1 o _ rfl rfl).elim λ_ r=>r.aI;have c7:=(b.get 2 n _ rfl rfl).elim λ_ r=>r.aI;have c8:=(b.get 3 m _ rfl rfl).elim λ_ r=>r.aI;have Z:=(b.get 4 l _ rfl rfl).elim λ_ r=>r.aI;have A:=(b.get 5 a _ rfl rfl).elim λ_ r=>r.aI;simp -dsimp[c5,c6,c7,c8,Z,A];refine tK 6 f rfl (ys:=[p,o,n,a,m,l]) λi26 F g D=>?_;generalize a7.sl i26 0 0 6 1 6=j at *;have d:=b.mono (a9.le_trans f.le g);refine G j [p,o,n,a,m,l] [fO w.Item,be w.ek 4,be w.tR 2,[dN w.pe,w.State],be (IntKind.i64.wrap (w.Day+1)) 2,fO w.Code] [] F _ (D.is (.sl 1 j ([p,o,n,a,m,l].map λy=>[y]) []) (by simp)) ⟨d.1,d.2.1,d.2.2.1,d.2.2.2.2.2.1,d.2.2.2.1,d.2.2.2.2.1,trivial⟩ (by simp) (by have h1:=kl w.Item;have W:=kl w.Code;simp;omega) λval V q=>?_;have cval:val.aI=true:=(q.aP 0 rfl:aJ V 1 val _ []).aI;have e:be (IntKind.i64.wrap (w.Day+1)) 2=be (w.Day+1) 2:=A7 (by rw[IntKind.wrap_i64];omega) 2 (by omega);have X:([fO w.Item,be w.ek 4,be w.tR 2,[dN w.pe,w.State],be (IntKind.i64.wrap (w.Day+1)) 2,fO w.Code]:List (List UInt8)).flatten=(rh w).Value:=by rw[e];simp[rh,AL]
 rw[X]at q;simp -dsimp;refine HO s1 (c:=111) q λkey E B=>?_;have Y:key.aI=true:=(B.aP 1 rfl:aJ E 1 key _ []).aI;simp -dsimp[Y,cval];have hle:h.le F:=a9.le_trans m1 (a9.le_trans m2 (a9.le_trans m3 (a9.le_trans m4 (a9.le_trans m5 (a9.le_trans m6 D.le)))));exact aR (U (key,val) E ((B.back hle).perm (List.Perm.swap ..)))
theorem KY{s:dV}(h:jz s=true):allRows s=vj s:=by unfold allRows;rw[h];rfl
variable{C:aC}{N:zN}
def oA.Spec(C:aC)(N:zN):Prop:=∀(s r k:Int)(h:a9)(Q:zQ),(∀a h',aG h h' [gw false a (dY s r k)]->(dY s r k=[]->a= .aA)->Q a h')->C (N 457) [.int .i64 s,.int .i64 r,.int .i64 k] h Q
theorem oA.spec(i:oA.aD C N)(s1:jw.Spec C N)(s2:jM.Spec C N):oA.Spec C N:=by
 intro s r k h Q j;apply i;simp +contextual -dsimp;have z:(((((decide (s<0)||decide (4 <= s))||decide (r<1))||decide (4611686018427387904<r))||decide (k<0))||decide (999<k))=jc s r k:=by
  have:decide (999<k)=decide (1000 <= k):=decide_eq_decide.2 (by omega);rw[this];rfl
 rw[z];refine B.bF (λhb=>?_) (λhb=>?_)
 ·have e:dY s r k=[]:=by unfold dY;rw[hb];rfl
  rw[e]at j;exact aR (j .aA h ((aG.start h).aA 1) λ_=>rfl)
 ·have e:dY s r k=97::dN s::(be r 8++be k 2):=by unfold dY;rw[hb];rfl
  simp -dsimp[mz];refine lK 2 (s:=[97,dN s]) rfl rfl λi31 h1 w=>?_;obtain⟨K,m1,m,u⟩:=gN (xs:=[]) (L:=[]) (aG.start h) trivial w;generalize a7.sl i31 0 0 2 1 2=g at *;refine pT s1 (k:=8) (by omega) _ λf H o2=>?_;obtain⟨J,m2,l,t⟩:=gN m u o2;refine pT s1 (k:=2) (by omega) _ λd G v=>?_;obtain⟨I,m3,a,c⟩:=gN l t v;have E:=(c.get 0 g _ rfl rfl).elim λ_ r=>r.aI;have D:=(c.get 1 f _ rfl rfl).elim λ_ r=>r.aI;have A:=(c.get 2 d _ rfl rfl).elim λ_ r=>r.aI;simp -dsimp[E,D,A];refine tK 3 a rfl (ys:=[g,f,d]) λi36 F b o=>?_;generalize a7.sl i36 0 0 3 1 3=p at *;refine s2 p [g,f,d] [[97,dN s],be r 8,be k 2] [] _ _ (o.is (.sl 1 p ([g,f,d].map λy=>[y]) []) (by simp)) (c.mono (a9.le_trans a.le b)) (by simp) (by simp) λq x n=>aR (j q x ?_ ?_)
  ·rw[e]
   have:([[97,dN s],be r 8,be k 2]:List (List UInt8)).flatten=97::dN s::(be r 8++be k 2):=by simp
   rw[this]at n;exact n.back (a9.le_trans m1 (a9.le_trans m2 (a9.le_trans m3 o.le)))
  ·rw[e];simp
theorem P9{α:Type}[Inhabited α](a b c d e f g:α):[a,b,c,d,e,f,g].Perm [g,d,a,e,b,f,c]:=List.Perm.map (λi=>[a,b,c,d,e,f,g].getD i default) (by decide:[0,1,2,3,4,5,6].Perm [6,3,0,4,1,5,2])
instance:Inhabited Ob:=⟨.box .aA []⟩
theorem AF{h0 h d:a9}{v:a7}{P:List (Row×(a7×a7))}{r:Row}{b:a7×a7}{K:zQ}(e:Df aQ h0 h v P)(o:aG h d (aQ.gy false r b))(k:P.length <= 1000000)(g:∀a h',Df aQ h0 h' a (P++[(r,b)])->K a h'):
  B.bL d (bN [(0,some 2,.agg (aQ.cells r b))] (bG 1 [.aA,.aA])) λi h=>B.bO h 2 48 v (.sl i 0 0 1 2 1) K:=by
 have f:bN [(0,some 2,.agg (aQ.cells r b))] (bG 1 [.aA,.aA])=some (aQ.cells r b):=vf aQ r b;rw[f];refine(aG.join e o).push 0 rfl (aQ.len r b) (by decide) (by simp;omega) (by simp[maxLen];omega) λa j c _=>?_;refine g a j ?_;unfold Df;rw[DK.um,DK.v7,map_append];simp only[cons_append,set_cons_zero]at c;exact c
def gh.Spec(C:aC)(N:zN):Prop:=∀(s:dV)(x y z:a7)(h:a9)(Q:zQ),iD h s x y z->s.cK.length+s.bJ.length+s.cE.length <= 100000->(∀a P h',P.map (·.1)=allRows s->Df aQ h h' a P->Q a h')->C (N 449) [.agg (fp s x y z)] h Q
theorem gh.spec(i:gh.aD C N)(s0:gA.Spec C N)(s1:jw.Spec C N)(s2:gI.Spec C N)(s3:iI.Spec C N)(Z:qA.Spec C N):gh.Spec C N:=by
 intro s x y z h Q j hlen T;have hx:=j.items.aI;have hy:y.aI=true:=j.iU.elim λ_ r=>r.aI;have hz:z.aI=true:=j.lines.elim λ_ r=>r.aI;have l1:=j.items.aE;have l2:V.aE y=some (.int .i64 (s.bJ.length:Int)):=j.iU.elim λ_ r=>by have:=r.aE;rwa [length_map]at this
 have l3:V.aE z=some (.int .i64 (s.cE.length:Int)):=j.lines.elim λ_ r=>by have:=r.aE;rwa [length_map]at this
 apply i;simp -dsimp;refine s0 s x y z h _ j ?_;simp -dsimp;refine B.bF (λhb=>?_) (λhb=>?_)
 ·have hb:jz s=false:=by simpa using hb
  refine aR (T .aA [] h (by unfold allRows;rw[hb];rfl) (by simpa[Df,DK.os]using (aG.start h).aA aQ.n))
 ·have hb:jz s=true:=by simpa using hb
  have J:=Na.1 hb;have hk:∀t∈s.cK,iQ t=true:=A2 (ok:=iQ) J.items;simp -dsimp;refine pT s1 (k:=2) (by omega) _ λn1 h1 S=>?_;refine pT s1 (k:=8) (by omega) _ λn2 h2 o2=>?_;refine pT s1 (k:=8) (by omega) _ λn3 h3 O=>?_;have q:=(S.join o2).join O;simp -dsimp;refine lK 4 (s:=[42,100,97,121]) rfl rfl λi10 h4 I=>?_;refine ux I (by simp) ?_;generalize a7.sl i10 0 0 4 1 4=k1 at *;have c1:=(I.aP 0 rfl).aI;have d1:=(S.aP 0 rfl).aI;simp -dsimp[c1,d1];refine lK 5 (s:=[42,108,105,110,101]) rfl rfl λi16 h5 H=>?_;refine ux H (by simp) ?_;generalize a7.sl i16 0 0 5 1 5=k2 at *;have c2:=(H.aP 0 rfl).aI;have d2:=(o2.aP 0 rfl).aI;simp -dsimp[c2,d2];refine lK 4 (s:=[42,108,111,116]) rfl rfl λi22 h6 G=>?_;refine ux G (by simp) ?_;generalize a7.sl i22 0 0 4 1 4=k3 at *;have c3:=(G.aP 0 rfl).aI;have d3:=(O.aP 0 rfl).aI;simp -dsimp[c3,d3];intro i28 K;have o7:=(((q.join I).join H).join G).gU K (n:=3) (cp:=3) (es:=2) (cs:=[k1,n1,k2,n2,k3,n3]) (L:=[[k1,n1],[k2,n2],[k3,n3]]) (R:=[]) (by simp) rfl (by simp) rfl;generalize bQ h6 i28 (cG [k1,n1,k2,n2,k3,n3])=h7 at *;generalize a7.sl i28 0 0 3 2 3=v0 at *;have o8:Df aQ h h7 v0 [(⟨[42,100,97,121],be s.ju 2⟩,(k1,n1)),(⟨[42,108,105,110,101],be s.jl 8⟩,(k2,n2)),(⟨[42,108,111,116],be s.jo 8⟩,(k3,n3))]:=o7.perm (P9 ..);obtain⟨hi,⟨R2,W⟩,⟨R3,U⟩,q1,q2,q3⟩:=j;refine aB.intro (λt vs e=>∃(k:Nat)(v:a7)(P:List (Row×(a7×a7))),k+t=s.cK.length /\ vs=[v,.int .i64 (k:Int)] /\ P.map (·.1)=qV s++(s.cK.take k).map tE /\ Df aQ h e v P) s.cK.length ?_ ⟨0,v0,_,by omega,rfl,by simp[qV],o8⟩;rintro Y t vs e ⟨k,v,P,u,rfl,d,o⟩ D;have g:=congrArg List.length d;simp only[length_map,length_append,length_take,qV,length_cons,length_nil]at g;simp -dsimp only[gh.l6,gh.k5,B.eJ,V.kH,getElem?_cons_succ,getElem?_cons_zero,l1,gH,B.aK]
  refine B.bF (λc=>?_) (λc=>?_)
  ·rw[decide_eq_true_eq]at c
   obtain⟨w,hw⟩:=dI c;obtain⟨a,M⟩:=(hi.mono o.le).get hw;have e1:V.aM 4 x (.int .i64 (k:Int))=some (aV 4 x k 0):=M.idx;have F:A.fF e (aV 4 x k 0) 4=some (.agg (bR.cells w a)):=M.cR;simp -dsimp only[B.eJ,V.kH,getElem?_cons_succ,getElem?_cons_zero,e1,F,B.iL,B.aK];refine s2 w a e _ M.at_ (hk w (mem_of_getElem? hw)) λb X p=>?_;refine AF o p (by omega) λm E f=>?_;simp -dsimp only[eG (show k<4611686018427387904 by omega),B.aK];refine D (t-1) _ _ (by omega) ⟨k+1,m,_,by omega,rfl,?_,f⟩;rw[map_append,d,take_succ hw,map_append,append_assoc];rfl
  ·rw[decide_eq_false_iff_not]at c
   have:k=s.cK.length:=by omega
   subst this;rw[take_length]at d;refine aB.intro (λt vs e=>∃(k:Nat)(v:a7)(P:List (Row×(a7×a7))),k+t=s.bJ.length /\ vs=[v,.int .i64 (k:Int)] /\ P.map (·.1)=(qV s++s.cK.map tE)++(s.bJ.take k).map rk /\ Df aQ h e v P) s.bJ.length ?_ ⟨0,v,P,by omega,rfl,by simpa using d,o⟩;rintro Y2 t vs e ⟨k,v,P,u,rfl,d,o⟩ D;have g:=congrArg List.length d;simp only[length_map,length_append,length_take,qV,length_cons,length_nil]at g;simp -dsimp only[gh.l4,gh.k3,B.eJ,V.kH,getElem?_cons_succ,getElem?_cons_zero,l2,gH,B.aK];refine B.bF (λc=>?_) (λc=>?_)
   ·rw[decide_eq_true_eq]at c
    obtain⟨w,hw⟩:=dI c;have l:k<(s.bJ.map bZ.cs).length:=by simpa using c
    have e1:V.aM 6 y (.int .i64 (k:Int))=some (aV 6 y k 0):=W.dF l;have F:=(W.mono o.le).elem (get_map hw);simp -dsimp only[B.eJ,V.kH,getElem?_cons_succ,getElem?_cons_zero,e1,F,B.iL,B.aK];refine s3 w e _ λb X p=>?_;refine AF o p (by omega) λm E f=>?_;simp -dsimp only[eG (show k<4611686018427387904 by omega),B.aK];refine D (t-1) _ _ (by omega) ⟨k+1,m,_,by omega,rfl,?_,f⟩;rw[map_append,d,take_succ hw,map_append,<-append_assoc];rfl
   ·rw[decide_eq_false_iff_not]at c
    have:k=s.bJ.length:=by omega
    subst this;rw[take_length]at d;refine aB.intro (λt vs e=>∃(k:Nat)(v:a7)(P:List (Row×(a7×a7))),k+t=s.cE.length /\ vs=[v,.int .i64 (k:Int)] /\ P.map (·.1)=((qV s++s.cK.map tE)++s.bJ.map rk)++(s.cE.take k).map rh /\ Df aQ h e v P) s.cE.length ?_ ⟨0,v,P,by omega,rfl,by simpa using d,o⟩;rintro Y3 t vs e ⟨k,v,P,u,rfl,d,o⟩ D;have g:=congrArg List.length d;simp only[length_map,length_append,length_take,qV,length_cons,length_nil]at g;simp -dsimp only[gh.l2,gh.k1,B.eJ,V.kH,getElem?_cons_succ,getElem?_cons_zero,l3,gH,B.aK];refine B.bF (λc=>?_) (λc=>?_)
    ·rw[decide_eq_true_eq]at c
     obtain⟨w,hw⟩:=dI c;have l:k<(s.cE.map dC.cs).length:=by simpa using c
     have e1:V.aM 8 z (.int .i64 (k:Int))=some (aV 8 z k 0):=U.dF l;have F:=(U.mono o.le).elem (get_map hw);simp -dsimp only[B.eJ,V.kH,getElem?_cons_succ,getElem?_cons_zero,e1,F,B.iL,B.aK];refine Z w e _ λb X p=>?_;refine AF o p (by omega) λm E f=>?_;simp -dsimp only[eG (show k<4611686018427387904 by omega),B.aK];refine D (t-1) _ _ (by omega) ⟨k+1,m,_,by omega,rfl,?_,f⟩;rw[map_append,d,take_succ hw,map_append,<-append_assoc];rfl
    ·rw[decide_eq_false_iff_not]at c
     have:k=s.cE.length:=by omega
     subst this;rw[take_length]at d;refine aR (T v P e ?_ o);rw[d,KY hb];unfold vj;simp only[append_assoc]
variable{C:aC}{N:zN}
theorem N7{T Ad:Type}{K:DK T Ad}{g:Nat}(s:Bj K C g){h0 h:a9}{a b:a7}{P1 P2:List (T×Ad)}{Q:zQ}(j:aG h0 h (pX K [(a,P1),(b,P2)]))(k1:∀q∈P1,K.ok q.1)(k2:∀q∈P2,K.ok q.1)
  (l1:P1.length <= 3000) (l2:P2.length <= 3000) (i:∀h',h0.le h'->Q (.bool true) h') {id:Nat} (d:h id=none):C g [.sl id 0 0 2 1 2] (bQ h id (cG [a,b])) Q:=by
 have o:=j.gU d (n:=2) (cp:=2) (es:=1) (cs:=[a,b]) (L:=[[a],[b]]) (R:=[]) (by simp) rfl (by simp) rfl;obtain⟨e,f⟩:=(o.perm perm_append_comm).out;refine s [(a,P1),(b,P2)] _ [] _ _ Q (e.aP 0 rfl) f (λp c=>?_) (by simp) (λp c=>?_) λh' hle=>i h' (a9.le_trans e.le hle)
 ·simp only[mem_cons,not_mem_nil,or_false]at c
  rcases c with rfl|rfl
  ·exact k1
  ·exact k2
 ·simp only[mem_cons,not_mem_nil,or_false]at c
  rcases c with rfl|rfl
  ·exact l1
  ·exact l2
def qj.Spec(C:aC)(N:zN):Prop:=∀(s:dV)(x y z:a7)(h:a9)(Q:zQ),vL h s x y z->Q (.bool true) h->C (N 450) [.agg (fp s x y z)] h Q
theorem qj.spec(i:qj.aD C N)(I:kk.Spec C N)(s1:jP.Spec C N)(s2:qv.Spec C N)(H:cM.Spec C N)(X:qw.Spec C N)(W:qq.Spec C N)(V:gh.Spec C N)(G:kW.Spec C N)(U:Bj aQ C (N 307)):qj.Spec C N:=by
 intro s x y z h Q f S;have cx:=f.items.aI;have cy:y.aI=true:=f.iU.elim λ_ r=>r.aI;have cz:z.aI=true:=f.lines.elim λ_ r=>r.aI;apply i;simp -dsimp[cx,cy,cz];refine s1 s x y z h _ f λb1 u=>?_;cases b1 with
 | true=>simp -dsimp;exact I _ _ (aR S)
 | false=>
 have w:=u rfl;have hn:=w.n;have v:=w.at f;simp -dsimp;refine s2 _ _ _ _ _ _ v λx1 P PM y1 z1 h1 eP eM O k1=>?_;have c1:=k1.items.dl.aI;have c2:=k1.iU.aI;have c3:=k1.lines.aI;simp -dsimp[c1,c2,c3];refine H _ _ _ _ _ _ k1.at (by omega) λa A h2 l o2=>?_;refine H _ _ _ _ _ _ (k1.mono o2.le).at (by omega) λb B h3 k o3=>?_;have d:=o2.join o3;have g:=d.le;refine X _ _ _ _ _ _ _ _ _ _ (k1.mono g) (v.mono (a9.le_trans O.le g)) ?_;simp -dsimp;have oo:=O.join d;obtain⟨Z,Y⟩:=(oo.perm perm_append_comm).out;refine W _ _ _ _ _ _ _ _ _ eP eM Y (λt ht=>by have:=w.ok t ht;unfold en.ok oh;omega) (by omega) λh4 l4=>?_;have J:=Z.grow l4;have F:=J.le;simp -dsimp;refine V _ _ _ _ _ _ (v.mono F) (by omega) λc D E T M=>?_;have j:=J.grow M.le;have se:∀L:List (Row×(a7×a7)),L.map (·.1)=allRows s->∀p∈L,aQ.ok p.1:=λL e p hp=>Aa _ (by rw[<-e];exact mem_map.2 ⟨p,hp,rfl⟩);obtain⟨p6,_⟩:=id j.out;have d1:Dl aQ E a (allRows s):=by rw[<-l];exact yM (K:=aQ) (b:=false) (R:=[]) (se A l) j.is (by simp) (λo m=>by simp[m])
 have d2:Dl aQ E b (allRows s):=by rw[<-k];exact yM (K:=aQ) (b:=false) (R:=[]) (se B k) j.is (by simp) (λo m=>by simp[m])
 have d3:Dl aQ E c (allRows s):=by rw[<-T];exact Df.dl M (se D T)
 have hlen:(allRows s).length <= 2003:=by
  unfold allRows;cases jz s<;>simp[vj,qV];omega
 refine G _ _ _ _ _ _ d1 d3 (by omega) ?_;simp -dsimp;refine G _ _ _ _ _ _ d2 d3 (by omega) ?_;have g1:=d1.aI;have g2:=d2.aI;simp -dsimp[g1,g2,bG];intro id q;simp -dsimp;refine N7 U (P1:=A) (P2:=B) (by simpa[pX]using j) (se A l) (se B k) (by have:=congrArg List.length l;rw[length_map]at this;omega) (by have:=congrArg List.length k;rw[length_map]at this;omega) (λh6 l6=>?_) q;simp -dsimp;refine I _ _ ?_;simp -dsimp;exact ln l6 S
end Go.Ab
namespace Go.Ab
open List
variable{C:aC}{N:zN}
abbrev bA:=Nat->LK
namespace bA
def none:bA:=λ_=>[]
def one(k:Nat)(q:a7×List (List a7)):bA:=λi=>if i=k then [q] else []
def add(D E:bA):bA:=λi=>D i++E i
def sum{α:Type}(l:List α)(f:α->bA):bA:=λi=>l.flatMap λa=>f a i
def on(L:Nat->List a7)(D:bA):Nat->List a7:=λi=>L i++(D i).map (·.1)
theorem Bm(L:Nat->List a7)(D E:bA):on (on L D) E=on L (D.add E):=by
 funext i;simp[on,add]
theorem DF(L:Nat->List a7)(k:Nat)(q:a7×List (List a7)):dU L k (L k++[q.1])=on L (one k q):=by
 funext i;unfold dU on one;by_cases h:i=k
 ·subst h;simp
 ·simp[h]
theorem De{α:Type}{l:List α}{f:α->bA}{j:Nat}{a:α}(h:l[j]?=some a):sum (l.take (j+1)) f=(sum (l.take j) f).add (f a):=by
 funext i;simp only[sum,add];rw[take_succ h,flatMap_append];simp
theorem Pa{α:Type}(l:List α)(f:α->bA)(j i:Nat):(sum (l.take j) f i).length <= (sum l f i).length:=by
 have:sum l f i=sum (l.take j) f i++(l.drop j).flatMap λa=>f a i:=by
  simp only[sum];rw[<-flatMap_append,take_append_drop]
 rw[this,length_append];omega
theorem FF{α:Type}{l:List α}{f:α->bA}{j:Nat}{a:α}(h:l[j]?=some a)(i:Nat):(sum (l.take j) f i).length+(f a i).length <= (sum l f i).length:=by
 have:=Pa l f (j+1) i;rw[De h]at this;simpa[add]using this
end bA
theorem Ap(b:js)(D E:bA)(i n:Nat):(iu b (D.add E) i n).Perm (iu b D i n++iu b E i n):=by
 induction n generalizing i with
 | zero=>exact List.Perm.refl _
 | succ n a=>
  rw[yb,yb,yb];show ((D i++E i).map _++_).Perm _;rw[map_append];generalize (D i).map (jK (b.es i))=p;generalize (E i).map (jK (b.es i))=q;have:=a (i+1);generalize iu b (D.add E) (i+1) n=r at *;generalize iu b D (i+1) n=u at *;generalize iu b E (i+1) n=v at *;rw[append_assoc,append_assoc];refine List.Perm.append_left p ((List.Perm.append_left q this).trans ?_);rw[<-append_assoc,<-append_assoc];exact perm_append_comm.append_right v
theorem ML(b:js)(i n:Nat):iu b bA.none i n=[]:=by simp[iu,bA.none]
theorem Db(b:js){k:Nat}(hk:k<23)(q:a7×List (List a7)):iu b (bA.one k q) 0 23=[jK (b.es k) q]:=by
 have g:∀(n i:Nat),iu b (bA.one k q) i n=if i <= k /\ k<i+n then [jK (b.es k) q] else []:=by
  intro n
  induction n with
  | zero=>intro i;rw[if_neg (by omega)];rfl
  | succ n c=>
   intro i;rw[yb,c];by_cases h:i=k
   ·subst h
    rw[if_neg (by omega),if_pos (by omega)];simp[bA.one]
   ·have:bA.one k q i=[]:=by simp[bA.one,h]
    rw[this];by_cases a:i+1 <= k /\ k<i+1+n
    ·rw[if_pos a,if_pos (by omega)];rfl
    ·rw[if_neg a,if_neg (by omega)];rfl
 rw[g,if_pos (by omega)]
theorem GO(b:js){α:Type}(l:List α)(f:α->bA):(iu b (bA.sum l f) 0 23).Perm (l.flatMap λa=>iu b (f a) 0 23):=by
 induction l with
 | nil=>rw[show bA.sum ([]:List α) f=bA.none from rfl,ML];exact List.Perm.refl _
 | cons a l c=>
  have:bA.sum (a::l) f=(f a).add (bA.sum l f):=by funext i;simp[bA.sum,bA.add]
  rw[this,flatMap_cons];exact(Ap b _ _ _ _).trans (c.append_left _)
section
variable{T Ad:Type}
def r0(K:DK T Ad)(inn:T->Ad->bA)(C:aC)(g:Nat):Prop:=∀(h b:a9)(id:Nat)(L:Nat->List a7)(t:T)(a:Ad)(Q:zQ),jA h b id L->K.at_ h t a->(∀i,(L i).length+(inn t a i).length <= 100000000)->(∀h',jA h h' id (bA.on L (inn t a))->Q (.bI []) h')->C g [.ptr id 0 0,.agg (K.cells t a)] b Q
def jf(K:DK T Ad)(inn:T->Ad->bA)(k:Nat)(y:a7)(P:List (T×Ad)):bA:=(bA.one k (y,P.map K.cs)).add (bA.sum P λp=>inn p.1 p.2)
def qa(K:DK T Ad)(inn:T->Ad->bA)(k:Nat)(C:aC)(g:Nat):Prop:=∀(h a:a9)(id:Nat)(L:Nat->List a7)(y:a7)(P:List (T×Ad))(R:List (List a7))(Q:zQ),jA h a id L->aJ h K.n y (P.map K.cs) R->(∀p∈P,K.at_ h p.1 p.2)->P.length <= 100000000->(∀i,(L i).length+(jf K inn k y P i).length <= 100000000)->(∀h',jA h h' id (bA.on L (jf K inn k y P))->Q (.bI []) h')->C g [.ptr id 0 0,y] a Q
variable{K:DK T Ad}{inn:T->Ad->bA}
theorem OW{K:DK T Ad}{inn:T->Ad->bA}{k:Nat}{y:a7}{P:List (T×Ad)}{j:Nat}{p:T×Ad}(a:P[j]?=some p)(i:Nat):((bA.one k (y,P.map K.cs)).add (bA.sum (P.take j) λp=>inn p.1 p.2) i).length+(inn p.1 p.2 i).length <= (jf K inn k y P i).length:=by
 have:=bA.FF (f:=λp:T×Ad=>inn p.1 p.2) a i;simp only[jf,bA.add,length_append];omega
theorem zP{k f g:Nat}(hk:k<23)(s1:r0 K inn C f)(i:∀(v0 v1:a7)(h:a9)(Q:zQ),sM C k K.n f v0 v1 h (dn Q)->C g [v0,v1] h Q):qa K inn k C g:=by
 intro h w id L y P R Q hb u x E v r;refine i _ _ _ _ ?_;have s:(L k).length <= 100000000:=by have:=v k;omega
 refine uW hk hb u.aI s λh1 l=>?_;have e0:dU L k (L k++[y])=bA.on L (bA.one k (y,P.map K.cs)):=bA.DF L k (y,P.map K.cs);rw[e0]at l
 refine aB.intro (λn vs w=>∃j:Nat,j+n=P.length /\ vs=[.int .i64 (j:Int)] /\ jA h w id (bA.on L ((bA.one k (y,P.map K.cs)).add (bA.sum (P.take j) λp=>inn p.1 p.2)))) P.length ?_ ⟨0,by simp,rfl,by
  have:bA.on L ((bA.one k (y,P.map K.cs)).add (bA.sum (P.take 0) λp=>inn p.1 p.2))=bA.on L (bA.one k (y,P.map K.cs)):=by funext i;simp[bA.on,bA.add,bA.sum]
  rw[this];exact l⟩
 rintro Y n vs o ⟨j,D,rfl,a⟩ A;have d:=u.mono a.le;have e:=d.aE;rw[length_map]at e;simp -dsimp only[sM.l2,sM.k1,e,V.mw,B.aK];refine B.bF (λt=>?_) (λt=>?_)
 ·have b:j<P.length:=by simpa using t
  obtain⟨p,m⟩:=dI b;have z:=vz (K:=K) d (λq r=>K.mono a.le (x q r)) m;simp -dsimp only[z.idx,z.cR,B.aK,B.iL];refine s1 h o id _ p.1 p.2 _ a (x p (mem_of_getElem? m)) (λi=>?_) λF c=>?_
  ·have h1:=v i
   have o:=OW (K:=K) (inn:=inn) (k:=k) (y:=y) m i;simp only[bA.on,length_append,length_map]at o ⊢;omega
  simp -dsimp only[eG (show j<4611686018427387904 by omega),B.aK];refine A (P.length-(j+1)) _ _ (by omega) ⟨j+1,by omega,rfl,?_⟩;rw[bA.De m];rw[bA.Bm]at c;have:((bA.one k (y,P.map K.cs)).add (bA.sum (P.take j) λp=>inn p.1 p.2)).add (inn p.1 p.2)=(bA.one k (y,P.map K.cs)).add ((bA.sum (P.take j) λp=>inn p.1 p.2).add (inn p.1 p.2)):=by funext i;simp[bA.add]
  rw[this]at c;exact c
 ·have b:j=P.length:=by
   have:¬ (j:Int)<P.length:=by simpa using t
   omega
  rw[b,take_length]at a;exact aR (r o a)
structure Fits(b:js)(D:bA):Prop where
 none:∀i,i<23->b.full i=false->D i=[]
 nn:∀i,(D i).length <= 100000000
 nL:∀i,i<23->∀q∈D i,q.2.length <= b.mh i
def oc(K:DK T Ad)(inn:T->Ad->bA)(k:Nat)(ls:List (a7×List (T×Ad))):bA:=bA.sum ls λp=>jf K inn k p.1 p.2
def rO(K:DK T Ad)(inn:T->Ad->bA)(k:Nat)(b:js)(C:aC)(g:Nat):Prop:=∀(ls:List (a7×List (T×Ad)))(x:a7)(W:List (List a7))(h0 h:a9)(Q:zQ),aJ h0 1 x (ls.map λp=>[p.1]) W->aG h0 h (pX K ls)->(∀p∈ls,∀q∈p.2,K.ok q.1)->ls.length <= 100000->(∀p∈ls,p.2.length <= 100000000)->Fits b (oc K inn k ls)->(∀h',h0.le h'->Q (.bool true) h')->C g [x] h Q
theorem Fz{b:js}{k:Nat}(hk:k<23)(he:b.es k=K.n)(c:∀t a,(K.gy false t a).Perm (iu b (inn t a) 0 23))(y:a7)(P:List (T×Ad)):(Ob.sl K.n y (P.map K.cs) []::K.os false P).Perm (iu b (jf K inn k y P) 0 23):=by
 refine List.Perm.trans ?_ (Ap b _ _ _ _).symm;rw[Db b hk,he];refine List.Perm.append (l₁:=[_]) (List.Perm.refl _) ?_;refine List.Perm.trans ?_ (GO b _ _).symm
 induction P with
 | nil=>exact List.Perm.refl _
 | cons p P d=>rw[flatMap_cons,flatMap_cons];exact(c _ _).append d
theorem N8{b:js}{k:Nat}(hk:k<23)(he:b.es k=K.n)(c:∀t a,(K.gy false t a).Perm (iu b (inn t a) 0 23))(ls:List (a7×List (T×Ad))):(pX K ls).Perm (iu b (oc K inn k ls) 0 23):=by
 refine List.Perm.trans ?_ (GO b _ _).symm;unfold pX
 induction ls with
 | nil=>exact List.Perm.refl _
 | cons p ls d=>rw[flatMap_cons,flatMap_cons];exact(Fz hk he c p.1 p.2).append d
theorem Dc{b:js}{k fu fb:Nat}(hk:k<23)(he:b.es k=K.n)(s:∀t a,(K.gy false t a).Perm (iu b (inn t a) 0 23))(s1:qa K inn k C fu)(O:oU C b fb){g:Nat}(i:∀(v0:a7)(h:a9)(Q:zQ),oQ C fu fb v0 h (dn Q)->C g [v0] h Q):rO K inn k b C g:=by
 intro ls x W h0 h Q hx y F Z U z w;refine i _ _ _ ?_;simp -dsimp[oQ];intro id J
 refine aB.intro (λn vs u=>∃j:Nat,j+n=ls.length /\ vs=[.int .i64 j] /\ jA h u id (bA.on (λ_=>[]) (oc K inn k (ls.take j)))) ls.length ?_ ⟨0,by simp,by simp,by
  have:=jA.start J;have e:bA.on (λ_=>[]) (oc K inn k (ls.take 0))=λ_=>[]:=by funext i;simp[bA.on,oc,bA.sum]
  rw[e];exact this⟩
 rintro Y n vs u ⟨j,hj,rfl,hb⟩ S;have l:=hx.mono (a9.le_trans y.le hb.le);have r:=l.aE;rw[length_map]at r;simp -dsimp only[oQ.l2,oQ.k1,r,V.mw,B.aK];refine B.bF (λL=>?_) (λL=>?_)
 ·have d:j<ls.length:=by simpa using L
  obtain⟨p,m⟩:=dI d;have c:=mem_of_getElem? m;have I:j<(ls.map λp=>[p.1]).length:=by simpa using d
  have H:A.bX u (aV 1 x j 0)=some p.1:=l.cell (by rw[getElem?_map,m];rfl);simp -dsimp only[l.dF I,H,B.aK,B.fw];have E:aJ h K.n p.1 (p.2.map K.cs) []:=y.is (.sl K.n p.1 (p.2.map K.cs) []) (mem_flatMap.2 ⟨p,c,by simp⟩);have N:∀q∈p.2,K.at_ h q.1 q.2:=λq w=>K.mG (b:=false) (F p c q w) λo G=>y.is o (mem_flatMap.2 ⟨p,c,mem_cons_of_mem _ (mem_flatMap.2 ⟨q,w,G⟩)⟩);refine s1 h u id _ p.1 p.2 [] _ hb E N (U p c) (λi=>?_) λh3 v=>?_
  ·have h1:=bA.FF (f:=λp:a7×List (T×Ad)=>jf K inn k p.1 p.2) m i
   have X:=z.nn i;simp only[bA.on,oc,nil_append,length_map]at h1 X ⊢;omega
  ·simp -dsimp only[eG (show j<4611686018427387904 by omega),B.aK]
   refine S (n-1) _ _ (by omega) ⟨j+1,by omega,rfl,?_⟩;rw[bA.Bm]at v;have:oc K inn k (ls.take (j+1))=(oc K inn k (ls.take j)).add (jf K inn k p.1 p.2):=bA.De m;rw[this];exact v
 ·have d:j=ls.length:=by
   have:¬ (j:Int)<ls.length:=by simpa using L
   omega
  rw[d,take_length]at hb;obtain⟨xs,ob⟩:=hb;have m:=N8 hk he s ls;obtain⟨D,P⟩:=(((y.perm m).join ob).perm perm_append_comm).out;obtain⟨R,e,M⟩:=D.fE 23 cS.sR;cases e;refine O id (oc K inn k ls) xs _ u _ ⟨M,λi hi=>?_,z.none,λi hi=>z.nn i,z.nL⟩ P λh' hle=>aR (w h' (a9.le_trans D.le hle));have:=D.aP i (cS.lq hi);have e:(bA.on (λ_=>[]) (oc K inn k ls) i).map uK=(oc K inn k ls i).map λq=>[q.1]:=by
   simp only[bA.on,nil_append,map_map];rfl
  rw[e]at this;exact this
end
end Go.Ab
namespace Go.Ab
open List
variable{C:aC}{N:zN}
namespace bA
def cap(D:bA)(c:Nat->Nat):Prop:=∀i,∀q∈D i,q.2.length <= c i
def mN(D:bA)(c:Nat):Prop:=∀i,(D i).length <= c
def sup(D:bA)(S:Nat->Bool):Prop:=∀i,S i=false->D i=[]
theorem rG{k:Nat}{c:Nat->Nat}{q:a7×List (List a7)}(h:q.2.length <= c k):(one k q).cap c:=λi r a=>by
 unfold one at a
 split at a
 ·rename_i e
  subst e
  rw[mem_singleton.1 a];exact h
 ·cases a
theorem u9{D E:bA}{c:Nat->Nat}(h1:D.cap c)(b:E.cap c):(D.add E).cap c:=λi r a=>by
 rcases mem_append.1 a with h|h
 ·exact h1 i r h
 ·exact b i r h
theorem wy{α:Type}{l:List α}{f:α->bA}{c:Nat->Nat}(h:∀a∈l,(f a).cap c):(sum l f).cap c:=λi r b=>by
 obtain⟨a,d,b⟩:=mem_flatMap.1 b
 exact h a d i r b
theorem D2{b:js}{D:bA}{n:Nat}(h1:D.cap b.mh)(f:D.mN n)(c:n <= 100000000)(d:D.sup b.full):Fits b D:=⟨λi _ e=>d i e,λi=>Nat.le_trans (f i) c,λi _ q a=>h1 i q a⟩
theorem rF(k:Nat)(q:a7×List (List a7)):(one k q).mN 1:=λi=>by
 unfold one;split<;>simp
theorem u7{D E:bA}{c d:Nat}(h1:D.mN c)(a:E.mN d):(D.add E).mN (c+d):=λi=>by
 have:=h1 i
 have:=a i
 simp only[add,length_append];omega
theorem wx{α:Type}{l:List α}{f:α->bA}{c:Nat}(h:∀a∈l,(f a).mN c):(sum l f).mN (l.length*c):=λi=>by
 induction l with
 | nil=>simp[sum]
 | cons a l d=>
  have h1:=d λb hb=>h b (mem_cons_of_mem _ hb)
  have e:=h a (mem_cons_self ..) i
  simp only[sum,flatMap_cons,length_append,length_cons,Nat.add_mul]at h1 ⊢
  omega
theorem Bg{D:bA}{c d:Nat}(h:D.mN c)(a:c <= d):D.mN d:=λi=>Nat.le_trans (h i) a
theorem rD{k:Nat}{q:a7×List (List a7)}{S:Nat->Bool}(h:S k=true):(one k q).sup S:=λi hi=>by
 unfold one
 rw[if_neg]
 intro e;subst e;rw[h]at hi;cases hi
theorem u3{D E:bA}{S:Nat->Bool}(h1:D.sup S)(a:E.sup S):(D.add E).sup S:=λi hi=>by
 show D i++E i=[]
 rw[h1 i hi,a i hi];rfl
theorem wq{α:Type}{l:List α}{f:α->bA}{S:Nat->Bool}(h:∀a∈l,(f a).sup S):(sum l f).sup S:=λi hi=>by
 show l.flatMap _=[]
 rw[flatMap_eq_nil_iff]
 exact λa b=>h a b i hi
end bA
theorem Av{k j f g:Nat}(s1:jQ C k f)(s2:jQ C j g){h c:a9}{id:Nat}{L:Nat->List a7}{p q:a7×List (List a7)}{K:zQ}(hb:jA h c id L)(n:p.1.aI=true)(m:q.1.aI=true)
  (d:∀i,(L i).length+(((bA.one k p).add (bA.one j q)) i).length <= 100000000) (e:∀h',jA h h' id (bA.on L ((bA.one k p).add (bA.one j q)))->K (.bI []) h'):
  B.call C f [.ptr id 0 0,p.1] c λ_ h=>B.call C g [.ptr id 0 0,q.1] h λ_ h=>K (.bI []) h:=by
 refine s1 h c id L _ _ hb n (by have:=d k;omega) λh1 b=>?_;rw[bA.DF L k p]at b;refine s2 h h1 id _ _ _ b m ?_ λl a=>?_
 ·have:=d j
  simp only[bA.add,bA.on,length_append,length_map]at this ⊢;omega
 rw[bA.DF _ j q,bA.Bm]at a;exact e l a
def mC:DK cW (a7×a7) where
 n:=7
 bytes:=96
 z:=[.int .i64 0,.int .i64 0,.int .i64 0,.str [],.int .u8 0,.aA,.aA]
 pos:=by omega
 small:=by omega
 mJ:=rfl
 cells t a:=t.cs a.1 a.2
 len _ _:=rfl
 at_ h t a:=aJ h 6 a.1 (t.bJ.map bZ.cs) [] /\ aJ h 3 a.2 (t.Uses.map fA.cs) []
 mono hle c:=⟨c.1.mono hle,c.2.mono hle⟩
 ok _:=True
 xB _:=trivial
 gy b t a:=uJ t a.1 a.2
 mG {b h t a} hk c:=⟨c (.sl 6 a.1 (t.bJ.map bZ.cs) []) (by simp),c (.sl 3 a.2 (t.Uses.map fA.cs) []) (by simp)⟩
def nG(t:cW)(a:a7×a7):bA:=(bA.one 6 (a.1,t.bJ.map bZ.cs)).add (bA.one 8 (a.2,t.Uses.map fA.cs))
theorem ue.kC(i:ue.aD C N)(s1:jQ C 6 (N 130))(s2:jQ C 8 (N 131)):r0 mC nG C (N 105):=by
 intro h m id L t a Q hb g f e;obtain⟨l,k⟩:=g;have d:=l.aI;have c:=k.aI;apply i;simp -dsimp[mC,d,c];exact Av s1 s2 (p:=(a.1,t.bJ.map bZ.cs)) (q:=(a.2,t.Uses.map fA.cs)) hb d c f λj b=>aR (e j b)
def nQ(t:Row)(a:a7×a7):bA:=(bA.one 4 (a.1,t.Key.map bc)).add (bA.one 4 (a.2,t.Value.map bc))
theorem qm.kC(i:qm.aD C N)(s1:jQ C 4 (N 63)):r0 aQ nQ C (N 315):=by
 intro h m id L t a Q hb g f e;obtain⟨l,k⟩:Bs h a.1 t.Key /\ Bs h a.2 t.Value:=g;have d:=l.aI;have c:=k.aI;apply i;simp -dsimp[aQ,d,c];exact Av s1 s1 (p:=(a.1,t.Key.map bc)) (q:=(a.2,t.Value.map bc)) hb d c f λj b=>aR (e j b)
def uC(t:en)(a:a7×a7):bA:=(bA.one 9 (a.1,t.cO.map Part.cs)).add (bA.one 3 (a.2,t.dL.map tc))
theorem tY.spec(i:tY.aD C N):jQ C 9 (N 481):=λh e id B y Q hb b d c=>i _ _ e Q (uW (k:=9) (by omega) hb b d λh' a=>aR (c h' a))
theorem uf.kC(i:uf.aD C N)(s1:jQ C 9 (N 481))(s2:jQ C 3 (N 405)):r0 bR uC C (N 480):=by
 intro h n id L t a Q hb j g e;obtain⟨⟨R1,m⟩,⟨R2,l⟩,f⟩:=j;have d:=m.aI;have c:=l.aI;apply i;simp -dsimp[bR,d,c];exact Av s1 s2 (p:=(a.1,t.cO.map Part.cs)) (q:=(a.2,t.dL.map tc)) hb d c g λk b=>aR (e k b)
theorem ot.kC(i:ot.aD C N)(s1:r0 bR uC C (N 480)):qa bR uC 10 C (N 475):=zP (by omega) s1 i
abbrev B2:={ p:dV×List (en×(a7×a7)) // p.2.map (·.1)=p.1.cK }
def me:DK B2 (a7×a7×a7) where
 n:=6
 bytes:=96
 z:=[.int .i64 0,.int .i64 0,.int .i64 0,.aA,.aA,.aA]
 pos:=by omega
 small:=by omega
 mJ:=rfl
 cells t a:=fp t.1.1 a.1 a.2.1 a.2.2
 len _ _:=rfl
 at_ h t a:=(aJ h 4 a.1 (t.1.2.map bR.cs) [] /\ ∀p∈t.1.2,bR.at_ h p.1 p.2) /\ (aJ h 6 a.2.1 (t.1.1.bJ.map bZ.cs) [] /\ aJ h 8 a.2.2 (t.1.1.cE.map dC.cs) []) /\ ∀i∈t.1.1.cK,i.ok
 mono hle c:=⟨⟨c.1.1.mono hle,λp d=>bR.mono hle (c.1.2 p d)⟩,⟨c.2.1.1.mono hle,c.2.1.2.mono hle⟩,c.2.2⟩
 ok t:=∀i∈t.1.1.cK,i.ok
 xB c:=c.2.2
 gy b t a:=fU t.1.1 a.1 t.1.2 a.2.1 a.2.2
 mG {b h t a} hk c:=⟨⟨c (.sl 4 a.1 (t.1.2.map bR.cs) []) (by simp),λp d=>bR.mG (b:=false) (hk _ (by rw[<-t.2];exact mem_map.2 ⟨p,d,rfl⟩)) λo e=>c o (by simp only[fU,mem_cons];exact .inr (.inr (.inr (mem_flatMap.2 ⟨p,d,e⟩))))⟩,
  ⟨c (.sl 6 a.2.1 (t.1.1.bJ.map bZ.cs) []) (by simp),c (.sl 8 a.2.2 (t.1.1.cE.map dC.cs) []) (by simp)⟩,hk⟩
def lf(t:B2)(a:a7×a7×a7):bA:=(jf bR uC 10 a.1 t.1.2).add ((bA.one 6 (a.2.1,t.1.1.bJ.map bZ.cs)).add (bA.one 11 (a.2.2,t.1.1.cE.map dC.cs)))
theorem ub.kC(i:ub.aD C N)(s1:qa bR uC 10 C (N 475))(s2:jQ C 6 (N 130))(n:jQ C 11 (N 207)):r0 me lf C (N 473):=by
 intro h u id L t a Q hb v c r;obtain⟨⟨m,f⟩,⟨A,z⟩,s⟩:=v;have y:=m.aI;have k:=A.aI;have j:=z.aI;apply i;simp -dsimp[me,y,k,j];have w:t.1.2.length <= 100000000:=by
  have:=c 9;have e:(lf t a 9).length=t.1.2.length:=by
   have g:∀l:List (en×(a7×a7)),(l.map λ_=>1).sum=l.length:=λl=>by
    induction l with
    | nil=>rfl
    | cons a l o=>rw[map_cons,sum_cons,o,length_cons];omega
   simp[lf,jf,bA.add,bA.one,bA.sum,uC,g]
  omega
 refine s1 h u id L a.1 t.1.2 [] _ hb m f w (λi=>?_) λh1 d=>?_
 ·have:=c i
  simp only[lf,bA.add,length_append]at this;omega
 refine Av s2 n (p:=(a.2.1,t.1.1.bJ.map bZ.cs)) (q:=(a.2.2,t.1.1.cE.map dC.cs)) d k j (λi=>?_) λx b=>aR (r x ?_)
 ·have:=c i
  simp only[lf,bA.add,bA.on,length_append,length_map]at this ⊢;omega
 rw[bA.Bm]at b;exact b
theorem oq.kC(i:oq.aD C N)(s1:r0 mC nG C (N 105)):qa mC nG 13 C (N 76):=zP (by omega) s1 i
theorem mO.kC(i:mO.aD C N)(s1:r0 aQ nQ C (N 315)):qa aQ nQ 15 C (N 312):=zP (by omega) s1 i
theorem om.kC(i:om.aD C N)(s1:r0 me lf C (N 473)):qa me lf 14 C (N 470):=zP (by omega) s1 i
end Go.Ab
namespace Go.Ab
open List
variable{C:aC}{N:zN}
theorem LY{b:js}{k es z A:Nat}(hk:k<23)(H:∀i,b.full i=false->i≠k)(d:∀a:LK,iu b (λi=>if i=k then a else []) 0 23=a.map (jK es))(w:100000000 <= b.mh k)(s1:jQ C k z)(E:oU C b A)
  {t:LL} {h0 h:a9} {Q:zQ} (o:t.ok h0) (r:aG h0 h (t.gy es)) (c:∀h',h0.le h'->Q (.bool true) h'):oQ C z A t.x h Q:=by
 have J:=o.nn
 try simp -dsimp[oQ]
 intro id s
 refine aB.intro (λn vs g=>∃j:Nat,j+n=t.n /\ vs=[.int .i64 j] /\ jA h g id (dU (λ_=>[]) k ((List.range j).map t.xs))) t.n ?_ ⟨0,by simp,by simp,by
  have:=jA.start s;rw[show dU (λ_=>([]:List a7)) k ((List.range 0).map t.xs)=λ_=>[] from Ae ..];exact this⟩
 rintro Y n vs g ⟨j,y,rfl,hb⟩ I;have hx:=o.is.mono (a9.le_trans r.le hb.le);simp -dsimp[oP hx];refine B.bF (λh1=>?_) (λh1=>?_)<;>simp at h1
 ·have l:(t.xs j).aI=true:=(r.aP j (cS.get h1)).aI
  simp -dsimp[iK hx h1,j0 hx h1];refine s1 h g id _ _ _ hb l (by rw[gR];simp;omega) λh' f=>?_;simp -dsimp[fH (n:=j) (by omega)];refine I (n-1) _ _ (by omega) ⟨j+1,by omega,by simp,?_⟩;rw[gR,uy]at f;rw[range_succ,map_append];exact f
 ·have:j=t.n:=by omega
  subst this
  let a:LK:=(List.range t.n).map λj=>(t.xs j,t.D j)
  have l:aG h0 h (a.map (jK es)):=by
   have p:aG h0 h (cS es t.n t.xs t.D t.R++[]):=by rw[append_nil];exact r
   have:=p.yU;rw[append_nil]at this;have e:cS es t.n t.xs t.D (λ_=>[])=a.map (jK es):=by
    show (List.range t.n).map _=((List.range t.n).map _).map _;rw[map_map];rfl
   rw[<-e];exact this
  obtain⟨xs,ob⟩:=hb;rw[<-d]at l;obtain⟨m,F⟩:=((l.join ob).perm perm_append_comm).out;obtain⟨G,e,v⟩:=m.fE 23 cS.sR;cases e;refine E id (λi=>if i=k then a else []) xs _ g Q ⟨v,λi hi=>?_,λi hi u=>?_,λi hi=>?_,λi hi q c=>?_⟩ F λh' hle=>c h' (a9.le_trans m.le hle)
  ·have:=m.aP i (cS.lq hi)
   have e:(dU (λ_=>([]:List a7)) k ((List.range t.n).map t.xs) i).map uK=((λi=>if i=k then a else []) i:LK).map λq=>[q.1]:=by
    show (if i=k then (List.range t.n).map t.xs else []).map uK=(if i=k then a else []).map λq=>[q.1];split
    ·rw[map_map]
     show _=((List.range t.n).map _).map _;rw[map_map];rfl
    ·rfl
   rw[e]at this;exact this
  ·have:=H i u
   show (if i=k then a else [])=[];rw[if_neg this]
  ·show (if i=k then a else []).length <= _
   split
   ·show ((List.range t.n).map _).length <= _
    rw[length_map,length_range];omega
   ·simp
  ·have c:q∈(if i=k then a else []):=c
   by_cases e:i=k
   ·rw[if_pos e]at c
    obtain⟨j,y,rfl⟩:=mem_map.1 c;have:=o.nL j (by simpa using y);rw[e];show (t.D j).length <= _;omega
   ·rw[if_neg e]at c;cases c
theorem tX.spec(i:tX.aD C N):jQ C 3 (N 405):=λh e id B y Q hb b d c=>i _ _ e Q (uW (k:=3) (by omega) hb b d λh' a=>aR (c h' a))
end Go.Ab
namespace Go.Ab
open List
variable{C:aC}{N:zN}
theorem jm.vN{es g:Nat}(s:jm C es g):oD C es 100000000 g:=λt h0 h Q a c b=>s t h0 h Q ⟨a.is,a.nn,a.nL⟩ c b
theorem gW{b:js}{i g:Nat}(h:b.full i=false)(s:cH C g):je C b i g:=⟨λe=>(by rw[h]at e;cases e),λ_=>s⟩
theorem sE{b:js}{i g:Nat}(h:b.full i=true)(s:oD C (b.es i) (b.mh i) g):je C b i g:=⟨λ_=>s,λe=>(by rw[h]at e;cases e)⟩
def im:js:=⟨λi=>if i=6 then 6 else if i=8 then 3 else if i=13 then 7 else if i=15 then 2 else 1,λi=>if i=4 then 140737488351232 else 100000000,λi=>decide (i=4)||decide (i=6)||decide (i=8)||decide (i=13)||decide (i=15)⟩
theorem mo.Qr(i:mo.aD C N)(f0:cH C (N 80))(f1:cH C (N 81))(f2:cH C (N 82))(f3:cH C (N 83))(f4:oD C 1 140737488351232 (N 84))(f5:cH C (N 85))(f6:jm C 6 (N 86))(f7:cH C (N 87))(f8:jm C 3 (N 88))(f9:cH C (N 89))(f10:cH C (N 90))(f11:cH C (N 91))(f12:cH C (N 92))(f13:jm C 7 (N 93))(f14:cH C (N 94))(f15:oD C 2 100000000 (N 95))(f16:cH C (N 96))(f17:cH C (N 97))(f18:cH C (N 98))(f19:cH C (N 99))(f20:cH C (N 100))(f21:cH C (N 101))(f22:cH C (N 102)):oU C im (N 62):=CN i im (gW rfl f0) (gW rfl f1) (gW rfl f2) (gW rfl f3) (sE rfl f4) (gW rfl f5) (sE rfl f6.vN) (gW rfl f7) (sE rfl f8.vN) (gW rfl f9) (gW rfl f10) (gW rfl f11) (gW rfl f12) (sE rfl f13.vN) (gW rfl f14) (sE rfl f15) (gW rfl f16) (gW rfl f17) (gW rfl f18) (gW rfl f19) (gW rfl f20) (gW rfl f21) (gW rfl f22)
theorem Ag(b:js){k j:Nat}(hk:k<23)(a:j<23)(p q:a7×List (List a7)):[jK (b.es k) p,jK (b.es j) q].Perm (iu b ((bA.one k p).add (bA.one j q)) 0 23):=by
 refine List.Perm.trans ?_ (Ap b _ _ _ _).symm;rw[Db b hk,Db b a];exact List.Perm.refl _
theorem nt.kC(i:nt.aD C N)(s1:qa mC nG 13 C (N 76))(b:oU C im (N 62)):rO mC nG 13 im C (N 43):=Dc (by omega) rfl (λt a=>Ag im (k:=6) (j:=8) (by omega) (by omega) (a.1,t.bJ.map bZ.cs) (a.2,t.Uses.map fA.cs)) s1 b i
theorem lH.kC(i:lH.aD C N)(s1:qa aQ nQ 15 C (N 312))(b:oU C im (N 62)):rO aQ nQ 15 im C (N 307):=Dc (by omega) rfl (λt a=>Ag im (k:=4) (j:=4) (by omega) (by omega) (a.1,t.Key.map bc) (a.2,t.Value.map bc)) s1 b i
theorem Qg(a:LK):iu im (λi=>if i=4 then a else []) 0 23=a.map (jK 1):=by
 have:List.range' 0 23=[0,1,2,3,4,5,6,7,8,9,10,11,12,13,14,15,16,17,18,19,20,21,22]:=rfl;unfold iu;rw[this];simp[im]
theorem nu.kC(i:nu.aD C N)(s1:jQ C 4 (N 63))(s2:oU C im (N 62)):jm C 1 (N 35):=λt h0 h Q a c b=>i t.x h Q (LY (k:=4) (by omega) (λi h e=>by subst e;cases h) Qg (by decide) s1 s2 a c λh' hle=>aR (b h' hle))
def kB:js:=⟨λi=>if i=6 then 6 else if i=9 then 2 else if i=10 then 4 else if i=11 then 8 else if i=14 then 6 else 1,λ_=>100000000,λi=>decide (i=3)||decide (i=6)||decide (i=9)||decide (i=10)||decide (i=11)||decide (i=14)⟩
theorem mo.Qp(i:mo.aD C N)(f0:cH C (N 80))(f1:cH C (N 81))(f2:cH C (N 82))(f3:jm C 1 (N 83))(f4:cH C (N 84))(f5:cH C (N 85))(f6:jm C 6 (N 86))(f7:cH C (N 87))(f8:cH C (N 88))(f9:jm C 2 (N 89))(f10:oD C 4 100000000 (N 90))(f11:jm C 8 (N 91))(f12:cH C (N 92))(f13:cH C (N 93))(f14:jm C 6 (N 94))(f15:cH C (N 95))(f16:cH C (N 96))(f17:cH C (N 97))(f18:cH C (N 98))(f19:cH C (N 99))(f20:cH C (N 100))(f21:cH C (N 101))(f22:cH C (N 102)):oU C kB (N 62):=CN i kB (gW rfl f0) (gW rfl f1) (gW rfl f2) (sE rfl f3.vN) (gW rfl f4) (gW rfl f5) (sE rfl f6.vN) (gW rfl f7) (gW rfl f8) (sE rfl f9.vN) (sE rfl f10) (sE rfl f11.vN) (gW rfl f12) (gW rfl f13) (sE rfl f14.vN) (gW rfl f15) (gW rfl f16) (gW rfl f17) (gW rfl f18) (gW rfl f19) (gW rfl f20) (gW rfl f21) (gW rfl f22)
theorem fa.spec(i:fa.aD C N)(s1:n6.Spec C N)(s2:n7.Spec C N):oD C 4 100000000 (N 90):=λt h0 h Q a c b=>i t.x h Q (Gb bR C8 s1 s2 t a c λh' hle=>aR (b h' hle))
def vm(k i:Int):dV:=⟨mark k i,0,0,[],[],[]⟩
def qo.Spec(C:aC)(N:zN):Prop:=∀(k i:Int)(h:a9)(Q:zQ),Q (.agg (fp (vm k i) .aA .aA .aA)) h->C (N 115) [.int .i64 k,.int .i64 i] h Q
theorem qo.spec(i:qo.aD C N)(s1:lL.Spec C N):qo.Spec C N:=by
 intro k j h Q a;apply i;simp +contextual -dsimp;refine s1 _ _ _ _ ?_;simp +contextual -dsimp;exact aR a
theorem HF(k i:Int)(h:a9):iD h (vm k i) .aA .aA .aA:=⟨Dl.aA bR h,⟨[],aJ.aA h 6⟩,⟨[],aJ.aA h 8⟩,by simp[vm],by simp[vm],by simp[vm]⟩
theorem eQ.spec(i:eQ.aD C N)(s1:qo.Spec C N)(s2:nv.Spec C N):jm C 6 (N 94):=λt h0 h Q a c b=>i t.x h Q (vW (Iv (m:=λk i=>fp (vm k i) .aA .aA .aA) (bytes:=96) (by omega) (λ_ _=>rfl) rfl (by omega) s1 (λk i h Q b=>s2 (vm k i) (vm k i) _ _ _ _ _ _ h Q (HF k i h) (HF k i h) (by simpa using b))) a.is c a.nn a.nL λh' hle=>aR (b h' hle))
theorem Mg(t:B2)(a:a7×a7×a7):(me.gy false t a).Perm (iu kB (lf t a) 0 23):=by
 refine List.Perm.trans ?_ (Ap kB _ _ _ _).symm;have e1:=Fz (b:=kB) (k:=10) (K:=bR) (inn:=uC) (by omega) rfl (λt a=>Ag kB (k:=9) (j:=3) (by omega) (by omega) (a.1,t.cO.map Part.cs) (a.2,t.dL.map tc)) a.1 t.1.2;have c:=Ag kB (k:=6) (j:=11) (by omega) (by omega) (a.2.1,t.1.1.bJ.map bZ.cs) (a.2.2,t.1.1.cE.map dC.cs);refine List.Perm.trans ?_ (e1.append c);exact(perm_append_comm (l₁:=[Ob.sl 6 a.2.1 (t.1.1.bJ.map bZ.cs) [],Ob.sl 8 a.2.2 (t.1.1.cE.map dC.cs) []])).cons _
theorem ns.kC(i:ns.aD C N)(s1:qa me lf 14 C (N 470))(a:oU C kB (N 62)):rO me lf 14 kB C (N 453):=Dc (by omega) rfl Mg s1 a i
variable{C:aC}{N:zN}
def lX(hb h0 h:a9)(l:List Ob)(p x:a7)(b:List UInt8)(r:dE):Prop:=aG h0 h (l++[.box p [x,.int .i64 (r.at_:Int),.bool r.bad]]) /\ (∃R,aJ hb 1 x (b.map bc) R) /\ hb.le h0 /\ r.at_ <= b.length /\ b.length<4611686018427387904
section
variable{hb h0 h:a9}{l:List Ob}{p x:a7}{b:List UInt8}{r:dE}
theorem lX.ptr(s:lX hb h0 h l p x b r):∃id,p= .ptr id 0 0 /\ A.bX h (.ptr id 0 2)=some (.bool r.bad):=by
 obtain⟨c,_⟩:=s;obtain⟨id,rfl,a⟩:=c.fE l.length mB;exact⟨id,rfl,by simp[e9 a]⟩
theorem lX.num(s1:iy.Spec C N)(s:lX hb h0 h l p x b r){k:Nat}(hk:k <= 8){Q:zQ}(f:∀h',lX hb h0 h' l p x b (aL b k r).2->Q (.int .i64 (aL b k r).1) h'):C (N 71) [p,.int .i64 (k:Int)] h Q:=by
 obtain⟨g,⟨R,hx⟩,hle,c,d⟩:=s;obtain⟨a,e⟩:=g.out;refine s1 _ h p x b R r k Q (hx.mono (a9.le_trans hle a.le)) d c hk e λh' o=>f h' ⟨a.join o,⟨R,hx⟩,hle,gV c,d⟩
theorem lX.code(s1:nr.Spec C N)(s:lX hb h0 h l p x b r){Q:zQ}(f:∀h',lX hb h0 h' l p x b (cT b r).2->Q (.str (cT b r).1) h'):C (N 73) [p] h Q:=by
 obtain⟨g,⟨R,hx⟩,hle,c,d⟩:=s;obtain⟨a,e⟩:=g.out;refine s1 _ h p x b R r Q (hx.mono (a9.le_trans hle a.le)) d c e λh' o=>f h' ⟨a.join o,⟨R,hx⟩,hle,wh c,d⟩
theorem lX.push{es bytes k:Nat}{y:a7}{L:List (List a7)}{cs:List a7}{K:zQ}(s:lX hb h0 h l p x b r)(hk:l[k]?=some (.sl es y L []))(e:cs.length=es)(d:0<es)(f:(L.length+1)*bytes <= 140737488355328)(hm:L.length+1 <= maxLen)
  (m:∀a h',lX hb h0 h' (l.set k (.sl es a (L++[cs]) [])) p x b r->K a h'):B.bL h (some cs) λid h=>B.bO h es bytes y (.sl id 0 0 1 es 1) K:=by
 obtain⟨j,hx,hle⟩:=s;have i:k<l.length:=(List.getElem?_eq_some_iff.1 hk).1;have c:(l++[.box p [x,.int .i64 (r.at_:Int),.bool r.bad]])[k]?=some (.sl es y L []):=by rw[getElem?_append_left i];exact hk
 refine j.push k c e d f hm λa h' g _=>m a h' ⟨?_,hx,hle⟩;rw[set_append_left _ _ i]at g;exact g
end
def iM(x:Row)(s:dV):dV×Bool:=if x.Key=[42,100,97,121] then ({ s with ju:=(aL x.Value 2 ⟨0,false⟩).1 },(aL x.Value 2 ⟨0,false⟩).2.bad) else if x.Key=[42,108,111,116] then ({ s with jo:=(aL x.Value 8 ⟨0,false⟩).1 },(aL x.Value 8 ⟨0,false⟩).2.bad) else if x.Key=[42,108,105,110,101] then ({ s with jl:=(aL x.Value 8 ⟨0,false⟩).1 },(aL x.Value 8 ⟨0,false⟩).2.bad) else if x.Key.head?=some 105 then ({ s with cK:=s.cK++[(mF x.Value (x.Key.drop 1) ⟨0,false⟩).1] },(mF x.Value (x.Key.drop 1) ⟨0,false⟩).2.bad) else if x.Key.length=9 /\ x.Key.head?=some 108 then ({ s with bJ:=s.bJ++[(tD x.Value (aL (x.Key.drop 1) 8 ⟨0,false⟩).1 ⟨0,false⟩).1] },(tD x.Value (aL (x.Key.drop 1) 8 ⟨0,false⟩).1 ⟨0,false⟩).2.bad) else if x.Key.length=9 /\ x.Key.head?=some 111 then ({ s with cE:=s.cE++[(tC x.Value (aL (x.Key.drop 1) 8 ⟨0,false⟩).1 ⟨0,false⟩).1] },(tC x.Value (aL (x.Key.drop 1) 8 ⟨0,false⟩).1 ⟨0,false⟩).2.bad) else (s,true)
def eg.Spec(C:aC)(N:zN):Prop:=∀(h0 h:a9)(p:a7)(s:dV)(X:a7)(P:List (en×(a7×a7)))(Y Z:a7)(w:Row)(k v:a7)(n:Nat)(Q:zQ),aG h0 h (.box p (fp s X Y Z)::fU s X P Y Z)->P.map (·.1)=s.cK->pd s n->n <= 1000000->Bs h0 k w.Key->Bs h0 v w.Value->(∀s' c d b a h',aG h0 h' (.box p (fp s' c b a)::fU s' c d b a)->d.map (·.1)=s'.cK->pd s' (n+1)->((iM w s).2=false->s'=(iM w s).1)->Q (.bool !(iM w s).2) h')->C (N 469) [p,.agg [k,v]] h Q
theorem eg.spec(i:eg.aD C N)(s1:iy.Spec C N)(s2:nr.Spec C N):eg.Spec C N:=by
 intro h0 h p s X P Y Z w k v n Q ho hP hN hn hk hv hq;apply i;have ck:=hk.aI;have cv:=hv.aI;have ls:V.lR (.str w.Key)=some (.int .i64 (w.Key.length:Int)):=rfl;have hkl:w.Key.length <= ep:=hk.2;have hvl:w.Value.length <= ep:=hv.2;unfold ep at hkl hvl;simp -dsimp[cv];intro i18 h18;have o1:=ho.ni h18 [v,.int .i64 0,.bool false];generalize bQ h i18 (cG [v,.int .i64 0,.bool false])=h1 at *;have rv:lX h0 h0 h1 (.box p (fp s X Y Z)::fU s X P Y Z) (.ptr i18 0 0) v w.Value ⟨0,false⟩:=⟨o1,hv.1,a9.le_refl _,Nat.zero_le _,by omega⟩;have I:pd s (n+1):=⟨by have:=hN.n;omega,hN.ok⟩;obtain⟨pid,e,hb⟩:=ho.fE 0 rfl;subst e;obtain⟨Rk,b0⟩:=hk.1;have es:=λK=>hF (b0.mono (a9.le_trans o1.le (a9.le_refl _))) K;have cX:X.aI=true:=(ho.aP 1 rfl).aI;have cY:Y.aI=true:=(ho.aP 2 rfl).aI;have cZ:Z.aI=true:=(ho.aP 3 rfl).aI;have fin:∀(s':dV)(X':a7)(P':List (en×(a7×a7)))(Y' Z':a7)(r:dE)(h':a9),aG h0 h' ((.box (.ptr pid 0 0) (fp s' X' Y' Z')::fU s' X' P' Y' Z')++[.box (.ptr i18 0 0) [v,.int .i64 (r.at_:Int),.bool r.bad]])->iM w s=(s',r.bad)->P'.map (·.1)=s'.cK->pd s' (n+1) ->
   (B.nilCheck (.ptr i18 0 0) λv209=>B.pv (V.fieldAddr 2 v209) λv210=>B.ld h' v210 λv211=>B.pv (V.un .not v211) λv212=>dn Q v212 h'):=by
  intro s' X' P' Y' Z' r h' o j eP hN';obtain⟨_,e,hbd⟩:=o.fE _ mB;cases e;simp -dsimp[e9 hbd];refine aR ?_;have:=hq s' X' P' Y' Z' h' (o.sub (sublist_append_left _ _)) eP hN' (λ_=>by rw[j]);rw[j]at this;exact this
 simp -dsimp only[eg.r5,B.eJ,V.kH,getElem?_cons_zero,B.aK,es,V.rB];refine B.bF (λz=>?_) (λz=>?_)
 ·rw[decide_eq_true_eq]at z
  have j:iM w s=({ s with ju:=(aL w.Value 2 ⟨0,false⟩).1 },(aL w.Value 2 ⟨0,false⟩).2.bad):=by unfold iM;rw[if_pos z]
  simp -dsimp only[eg.k1];refine rv.num s1 (k:=2) (by omega) λh2 l=>?_;obtain⟨o2,_⟩:=l;simp -dsimp only[B.mZ,V.mW,B.aK,Nat.zero_add];refine o2.jW 0 (off:=0) rfl rfl (by simp) λh3 o3 _=>?_;exact fin { s with ju:=(aL w.Value 2 ⟨0,false⟩).1 } X P Y Z _ h3 o3 j hP ⟨I.n,I.ok⟩
 rw[decide_eq_false_iff_not]at z;simp -dsimp only[eg.mK,B.aK,V.rB];refine B.bF (λA=>?_) (λA=>?_)
 ·rw[decide_eq_true_eq]at A
  have j:iM w s=({ s with jo:=(aL w.Value 8 ⟨0,false⟩).1 },(aL w.Value 8 ⟨0,false⟩).2.bad):=by unfold iM;rw[if_neg z,if_pos A]
  simp -dsimp only[eg.k2];refine rv.num s1 (k:=8) (by omega) λh2 l=>?_;obtain⟨o2,_⟩:=l;simp -dsimp only[B.mZ,V.mW,B.aK,Nat.zero_add];refine o2.jW 0 (off:=1) rfl rfl (by simp) λh3 o3 _=>?_;exact fin { s with jo:=(aL w.Value 8 ⟨0,false⟩).1 } X P Y Z _ h3 o3 j hP ⟨I.n,I.ok⟩
 rw[decide_eq_false_iff_not]at A;simp -dsimp only[B.aK,V.rB];refine B.bF (λD=>?_) (λD=>?_)
 ·rw[decide_eq_true_eq]at D
  have j:iM w s=({ s with jl:=(aL w.Value 8 ⟨0,false⟩).1 },(aL w.Value 8 ⟨0,false⟩).2.bad):=by unfold iM;rw[if_neg z,if_neg A,if_pos D]
  simp -dsimp only[eg.k3];refine rv.num s1 (k:=8) (by omega) λh2 l=>?_;obtain⟨o2,_⟩:=l;simp -dsimp only[B.mZ,V.mW,B.aK,Nat.zero_add];refine o2.jW 0 (off:=2) rfl rfl (by simp) λh3 o3 _=>?_;exact fin { s with jl:=(aL w.Value 8 ⟨0,false⟩).1 } X P Y Z _ h3 o3 j hP ⟨I.n,I.ok⟩
 rw[decide_eq_false_iff_not]at D;have hT:iM w s=(s,true)->dn Q (.bool false) h1:=λj=>by
  have:=hq s X P Y Z h1 (o1.sub (sublist_append_left _ _)) hP I (λe=>by rw[j]at e;cases e);rw[j]at this;exact aR this
 cases d:w.Key with
 | nil=>
  simp -dsimp;exact hT (by unfold iM;rw[d];rfl)
 | cons c q=>
 have ei:V.lS (.str (c::q)) (.int .i64 0)=some (.int .u8 (c.toNat:Int)):=Ai (k:=0) rfl;have ec:V.uD (.str (c::q)) (some (.int .i64 1)) none=some (.str q):=V.H6 (c::q) (cons_ne_nil _ _);have ls:V.lR (.str (c::q))=some (.int .i64 ((q.length+1:Nat):Int)):=rfl;have W:w.Key.head?=some c:=by rw[d];rfl
 have lp:(0:Int)<((q.length+1:Nat):Int):=by omega
 by_cases U:c=105
 ·have O:((c.toNat:Nat):Int)=105:=by rw[U];rfl
  have j:iM w s=({ s with cK:=s.cK++[(mF w.Value q ⟨0,false⟩).1] },(mF w.Value q ⟨0,false⟩).2.bad):=by unfold iM;rw[if_neg z,if_neg A,if_neg D,if_pos (by rw[W,U]),d];rfl
  simp -dsimp only[eg.qe,ls,V.D7,lp,decide_true,B.mg,B.fN,vr,ei,V.tF,O,B.pR,B.aK,B.cond_true,eg.k9,ec];refine rv.num s1 (k:=2) (by omega) λh2 l=>?_;simp -dsimp;refine l.num s1 (k:=1) (by omega) λh3 H=>?_;have n3:=w5 w.Value (aL w.Value 2 ⟨0,false⟩).2;unfold mF at j;generalize aL w.Value 2 ⟨0,false⟩=f at *;obtain⟨life,r1⟩:=f;simp only at n3 H j ⊢;generalize aL w.Value 1 r1=g at *;obtain⟨m,r2⟩:=g;simp only at n3 H j ⊢;have rv4:lX h0 h0 h3 (.sl 2 .aA [] []:: .box (.ptr pid 0 0) (fp s X Y Z)::fU s X P Y Z) (.ptr i18 0 0) v w.Value r2:=by
   obtain⟨ho,hle⟩:=H;exact⟨(ho.aA 2).perm perm_append_comm,hle⟩
  refine aB.intro (λt vs hh=>∃(x:a7)(acc:List Part)(r:dE),vs=[.int .i64 (t:Int),.agg [.str q,.int .i64 life,x,.aA]] /\ acc.length+t <= 255 /\ acc++(cP (nR w.Value) t r).1=(cP (nR w.Value) m.toNat r2).1 /\ (cP (nR w.Value) t r).2=(cP (nR w.Value) m.toNat r2).2 /\ lX h0 h0 hh (.sl 2 x (acc.map Part.cs) []:: .box (.ptr pid 0 0) (fp s X Y Z)::fU s X P Y Z) (.ptr i18 0 0) v w.Value r) m.toNat ?_
   ⟨.aA,[],r2,by rw[Int.toNat_of_nonneg n3.1],by simp;omega,rfl,rfl,rv4⟩
  rintro Yc t vs hh ⟨x,acc,r,rfl,hal,e1,e2,hs⟩ hY;obtain⟨_,e,hbad⟩:=hs.ptr;cases e;simp +contextual -dsimp[hbad];refine B.bF (λhc=>?_) (λhc=>?_)<;>simp at hc
  ·obtain⟨t,rfl⟩:∃u,t=u+1:=⟨t-1,by omega⟩
   simp only[cP,hc.2,Bool.false_eq_true,if_false]at e1 e2;refine hs.code s2 λh4 F=>?_;simp +contextual -dsimp;refine F.num s1 (k:=4) (by omega) λh5 G=>?_;simp +contextual -dsimp;refine G.push (k:=0) rfl rfl (by omega) (by simp;omega) (by simp[maxLen];omega) λx' h6 E=>?_;have e4:IntKind.i64.wrap (t:Int)=(t:Int):=by rw[wrap_i64 (by omega) (by omega)]
   have c5:x'.aI=true:=(E.1.aP 0 rfl).aI;simp +contextual -dsimp[e4,c5];refine hY t _ _ (by omega) ⟨x',acc++[(nR w.Value r).1],(nR w.Value r).2,rfl,by simp;omega,?_,e2,?_⟩
   ·rw[<-e1,append_assoc];rfl
   ·rw[map_append];exact E
  ·rw[uV (by simpa using hc),append_nil]at e1
   rw[uV (by simpa using hc)]at e2;simp only at e2;subst e1;rw[<-e2]at j;refine hs.num s1 (k:=1) (by omega) λh4 F=>?_;have n4:=w5 w.Value r;generalize hps:(cP (nR w.Value) m.toNat r2).1=ps at *;generalize aL w.Value 1 r=g at *;obtain⟨m2,r3⟩:=g;simp only at n4 F j ⊢;have G:lX h0 h0 h4 (.sl 1 .aA [] []:: .sl 2 x (ps.map Part.cs) []:: .box (.ptr pid 0 0) (fp s X Y Z)::fU s X P Y Z) (.ptr i18 0 0) v w.Value r3:=by
    obtain⟨ho,hle⟩:=F;exact⟨(ho.aA 1).perm perm_append_comm,hle⟩
   refine aB.intro (λt vs hh=>∃(y:a7)(acc:List (List UInt8))(r:dE),vs=[.int .i64 (t:Int),.agg [.str q,.int .i64 life,x,y]] /\ acc.length+t <= 255 /\ acc++(cP (cT w.Value) t r).1=(cP (cT w.Value) m2.toNat r3).1 /\ (cP (cT w.Value) t r).2=(cP (cT w.Value) m2.toNat r3).2 /\ lX h0 h0 hh (.sl 1 y (acc.map tc) []:: .sl 2 x (ps.map Part.cs) []:: .box (.ptr pid 0 0) (fp s X Y Z)::fU s X P Y Z) (.ptr i18 0 0) v w.Value r) m2.toNat ?_
    ⟨.aA,[],r3,by rw[Int.toNat_of_nonneg n4.1],by simp;omega,rfl,rfl,G⟩
   rintro Zc t2 vs h5 ⟨y,acc,r',rfl,hal2,e3,e4,hs5⟩ hZ;obtain⟨_,e,hbad⟩:=hs5.ptr;cases e;simp +contextual -dsimp[hbad,-eg.k4];refine B.bF (λhd=>?_) (λhd=>?_)<;>simp -dsimp at hd
   ·obtain⟨t2,rfl⟩:∃u,t2=u+1:=⟨t2-1,by omega⟩
    simp only[cP,hd.2,Bool.false_eq_true,if_false]at e3 e4;refine hs5.code s2 λh6 E=>?_;simp +contextual -dsimp;refine E.push (k:=0) rfl rfl (by omega) (by simp;omega) (by simp[maxLen];omega) λx' h7 rv8=>?_;have e6:IntKind.i64.wrap (t2:Int)=(t2:Int):=by rw[wrap_i64 (by omega) (by omega)]
    have c5:x'.aI=true:=(rv8.1.aP 0 rfl).aI;simp +contextual -dsimp[e6,c5];refine hZ t2 _ _ (by omega) ⟨x',acc++[(cT w.Value r').1],(cT w.Value r').2,rfl,by simp;omega,?_,e4,?_⟩
    ·rw[<-e3,append_assoc];rfl
    ·rw[map_append];exact rv8
   ·rw[uV (by simpa using hd),append_nil]at e3
    rw[uV (by simpa using hd)]at e4;simp only at e4;subst e3;rw[<-e4]at j;generalize hos:(cP (cT w.Value) m2.toNat r3).1=os at *;have ok1:ps.length <= oh:=by rw[<-hps];have:=tu (nR w.Value) m.toNat r2;unfold oh;omega
    have ok2:os.length <= oh:=by rw[<-hos];have:=tu (cT w.Value) m2.toNat r3;unfold oh;omega
    obtain⟨o5,_⟩:=hs5;obtain⟨_,e,hb5⟩:=o5.fE 2 rfl;cases e;have hPl:P.length <= n:=by have:=hN.n;rw[<-hP,length_map]at this;omega
    simp -dsimp only[eg.k4,B.mZ,V.mW,B.aK,Nat.zero_add,B.fw,e9 hb5,getElem?_cons_succ,getElem?_cons_zero];have hf:=vf bR (⟨q,life,ps,os⟩:en) (x,y);have hfn:=xW bR (⟨q,life,ps,os⟩:en) (x,y);have hf:bN [(0,some 4,a7.agg [.str q,.int .i64 life,x,y])] (bG 1 [.str [],.int .i64 0,.aA,.aA])=some [.str q,.int .i64 life,x,y]:=hf;have hfn:V.bM 0 4 (a7.agg [.str q,.int .i64 life,x,y])=some (.agg [.str q,.int .i64 life,x,y]):=hfn;simp -dsimp only[hfn,hf,B.aK];refine o5.push 3 rfl rfl (by decide) (by simp;omega) (by simp[maxLen];omega) λX' h6 o6 _=>?_;have cX':X'.aI=true:=(o6.aP 3 rfl).aI;simp -dsimp only[B.mZ,V.mW,B.aK,Nat.zero_add];refine o6.jW 2 (off:=3) rfl cX' (by simp) λh7 o7 _=>?_;refine fin { s with cK:=s.cK++[⟨q,life,ps,os⟩] } X' (P++[(⟨q,life,ps,os⟩,(x,y))]) Y Z r' h7 (o7.perm ?_) j (by rw[map_append,hP];rfl) ⟨by simp;have:=hN.n;omega,λt ht=>?_⟩
    ·unfold fU
     rw[DK.um,DK.v7];simp only[map_append,map_cons,map_nil];have pm:∀(a b:Ob)(M:List Ob)(r:List Ob),((a::b::M)++r).Perm ((M++[b,a])++r):=λa b M r=>((List.Perm.swap b a M).trans (perm_append_comm (l₁:=[b,a]))).append_right r;exact pm (.sl 1 y (os.map tc) []) (.sl 2 x (ps.map Part.cs) []) (.box (.ptr pid 0 0) [.int .i64 s.ju,.int .i64 s.jo,.int .i64 s.jl,X',Y,Z]:: .sl 4 X' (P.map bR.cs++[[.str q,.int .i64 life,x,y]]) []:: .sl 6 Y (s.bJ.map bZ.cs) []:: .sl 8 Z (s.cE.map dC.cs) []::bR.os false P) [.box (.ptr i18 0 0) [v,.int .i64 (r'.at_:Int),.bool r'.bad]]
    ·rcases mem_append.1 ht with ht|ht
     ·exact hN.ok t ht
     ·rw[mem_singleton.1 ht];exact⟨ok1,ok2⟩
 ·have O:¬ ((c.toNat:Nat):Int)=105:=λe=>U (UInt8.toNat_inj.1 (by have:(105:UInt8).toNat=105:=rfl;omega))
  have R:¬ w.Key.head?=some 105:=λe=>by rw[W]at e;exact U (Option.some.inj e)
  simp -dsimp only[eg.qe,ls,V.D7,lp,decide_true,B.mg,B.fN,vr,ei,V.tF,O,decide_false,B.pR,B.aK,B.cond_false,eg.jL];by_cases h9:q.length=8
  rotate_left
  ·have h9':¬ (q.length:Int)+1=9:=by omega
   simp -dsimp[h9',ls];refine hT ?_;unfold iM;rw[if_neg z,if_neg A,if_neg D,if_neg R,if_neg (by rw[d];simp[h9]),if_neg (by rw[d];simp[h9])]
  have h9':((q.length+1:Nat):Int)=9:=by omega
  obtain⟨kt,Rt,t1,t2,_⟩:=b0.kY (by omega) (lo:=1) (hi:=w.Key.length) (a:=some (.int .i64 1)) (b:=none) (.inr ⟨_,rfl⟩) (.inl ⟨rfl,rfl⟩) (by rw[d];simp) (by omega);rw[take_length]at t2;have ct:=t2.aI;rw[d]at t2;have t2:aJ h0 1 kt (q.map bc) Rt:=t2;have hql:q.length<4611686018427387904:=by omega
  by_cases T:c=108
  ·have L:((c.toNat:Nat):Int)=108:=by rw[T];rfl
   have j:iM w s=({ s with bJ:=s.bJ++[(tD w.Value (aL q 8 ⟨0,false⟩).1 ⟨0,false⟩).1] },(tD w.Value (aL q 8 ⟨0,false⟩).1 ⟨0,false⟩).2.bad):=by
    unfold iM;rw[if_neg z,if_neg A,if_neg D,if_neg R,if_pos ⟨by rw[d];simp[h9],by rw[W,T]⟩,d];rfl
   simp -dsimp only[h9',L,decide_true,B.mg,B.fN,vr,ei,V.tF,B.pR,B.aK,B.cond_true,B.eJ,V.kH,getElem?_cons_zero,t1];simp -dsimp[ct];intro i128 h128;have o2:=rv.1.ni h128 [kt,.int .i64 0,.bool false];generalize bQ h1 i128 (cG [kt,.int .i64 0,.bool false])=h2 at *;have ri:lX h0 h0 h2 ((.box (.ptr pid 0 0) (fp s X Y Z)::fU s X P Y Z)++[.box (.ptr i18 0 0) [v,.int .i64 0,.bool false]]) (.ptr i128 0 0) kt q ⟨0,false⟩:=⟨o2,⟨Rt,t2⟩,a9.le_refl _,Nat.zero_le _,hql⟩;refine ri.num s1 (k:=8) (by omega) λh3 ri2=>?_;have l:lX h0 h0 h3 (.box (.ptr pid 0 0) (fp s X Y Z)::fU s X P Y Z) (.ptr i18 0 0) v w.Value ⟨0,false⟩:=⟨ri2.1.sub (sublist_append_left _ _),hv.1,a9.le_refl _,Nat.zero_le _,by omega⟩;generalize (aL q 8 ⟨0,false⟩).1=id0 at *;unfold tD at j;refine l.code s2 λh4 H=>?_;simp -dsimp;refine H.num s1 (k:=2) (by omega) λh5 rv4=>?_;simp -dsimp;refine rv4.num s1 (k:=2) (by omega) λh6 F=>?_;simp -dsimp;refine F.num s1 (k:=4) (by omega) λh7 G=>?_;simp -dsimp;refine G.num s1 (k:=1) (by omega) λh8 E=>?_;obtain⟨o7,_⟩:=E;obtain⟨_,e,hb7⟩:=o7.fE 0 rfl;cases e;simp -dsimp[e9 hb7];refine o7.push 2 rfl rfl (by decide) (by simp;have:=hN.n;omega) (by simp[maxLen];have:=hN.n;omega) λY' h9 o8 _=>?_;have cY':Y'.aI=true:=(o8.aP 2 rfl).aI;simp -dsimp only[B.mZ,V.mW,B.aK,Nat.zero_add];refine o8.jW 0 (off:=4) rfl cY' (by simp) λh10 o9 _=>?_;refine fin { s with bJ:=s.bJ++[_] } X P Y' Z _ h10 (o9.perm ?_) j hP ⟨by simp;have:=hN.n;omega,hN.ok⟩;unfold fU;simp only[map_append,map_cons,map_nil];exact List.Perm.refl _
  ·have L:¬ ((c.toNat:Nat):Int)=108:=λe=>T (UInt8.toNat_inj.1 (by have:(108:UInt8).toNat=108:=rfl;omega))
   have n108:¬ w.Key.head?=some 108:=λe=>by rw[W]at e;exact T (Option.some.inj e)
   by_cases S:c=111
   ·have J:((c.toNat:Nat):Int)=111:=by rw[S];rfl
    have j:iM w s=({ s with cE:=s.cE++[(tC w.Value (aL q 8 ⟨0,false⟩).1 ⟨0,false⟩).1] },(tC w.Value (aL q 8 ⟨0,false⟩).1 ⟨0,false⟩).2.bad):=by
     unfold iM;rw[if_neg z,if_neg A,if_neg D,if_neg R,if_neg (λe=>n108 e.2),if_pos ⟨by rw[d];simp[h9],by rw[W,S]⟩,d];rfl
    simp -dsimp only[h9',J,show ¬ (111:Int)=108 by decide,decide_true,decide_false,B.mg,B.fN,vr,ls,ei,V.tF,B.pR,B.aK,B.cond_true,B.cond_false,B.eJ,V.kH,getElem?_cons_zero,t1];simp -dsimp[ct];intro i128 h128;have o2:=rv.1.ni h128 [kt,.int .i64 0,.bool false];generalize bQ h1 i128 (cG [kt,.int .i64 0,.bool false])=h2 at *;have ri:lX h0 h0 h2 ((.box (.ptr pid 0 0) (fp s X Y Z)::fU s X P Y Z)++[.box (.ptr i18 0 0) [v,.int .i64 0,.bool false]]) (.ptr i128 0 0) kt q ⟨0,false⟩:=⟨o2,⟨Rt,t2⟩,a9.le_refl _,Nat.zero_le _,hql⟩;refine ri.num s1 (k:=8) (by omega) λh3 ri2=>?_;have l:lX h0 h0 h3 (.box (.ptr pid 0 0) (fp s X Y Z)::fU s X P Y Z) (.ptr i18 0 0) v w.Value ⟨0,false⟩:=⟨ri2.1.sub (sublist_append_left _ _),hv.1,a9.le_refl _,Nat.zero_le _,by omega⟩;generalize (aL q 8 ⟨0,false⟩).1=id0 at *;unfold tC at j;refine l.code s2 λh4 H=>?_;simp -dsimp;refine H.num s1 (k:=4) (by omega) λh5 rv4=>?_;simp -dsimp;refine rv4.num s1 (k:=2) (by omega) λh6 F=>?_;simp -dsimp;refine F.num s1 (k:=1) (by omega) λh7 G=>?_;simp -dsimp;refine G.num s1 (k:=1) (by omega) λh8 E=>?_;simp -dsimp[mz];refine E.num s1 (k:=2) (by omega) λh9 rv8=>?_;simp -dsimp;refine rv8.code s2 λh10 rv9=>?_;obtain⟨o7,_⟩:=rv9;obtain⟨_,e,hb7⟩:=o7.fE 0 rfl;cases e;simp -dsimp[e9 hb7];refine o7.push 3 rfl rfl (by decide) (by simp;have:=hN.n;omega) (by simp[maxLen];have:=hN.n;omega) λY' h11 o8 _=>?_;have cY':Y'.aI=true:=(o8.aP 3 rfl).aI;simp -dsimp only[B.mZ,V.mW,B.aK,Nat.zero_add];refine o8.jW 0 (off:=5) rfl cY' (by simp) λh12 o9 _=>?_;refine fin { s with cE:=s.cE++[_] } X P Y Y' _ h12 (o9.perm ?_) j hP ⟨by simp;have:=hN.n;omega,hN.ok⟩;unfold fU;simp only[map_append,map_cons,map_nil];exact List.Perm.refl _
   ·have J:¬ ((c.toNat:Nat):Int)=111:=λe=>S (UInt8.toNat_inj.1 (by have:(111:UInt8).toNat=111:=rfl;omega))
    have n111:¬ w.Key.head?=some 111:=λe=>by rw[W]at e;exact S (Option.some.inj e)
    have h9'':(q.length:Int)+1=9:=by omega
    simp -dsimp[h9'',L,J,ls,ei];refine hT ?_;unfold iM;rw[if_neg z,if_neg A,if_neg D,if_neg R,if_neg (λe=>n108 e.2),if_neg (λe=>n111 e.2)]
def rV(p:Option Row)(x:Row):Bool:=match p with|some q=> !iC q.Key x.Key|none=>false
theorem O9(p:Option Row)(x:Row):rr p x=(rV p x||decide (x.Key=[])):=by
 unfold rr rV;cases p with
 | none=>rfl
 | some q=>
  have:decide (0 <= vK q.Key x.Key)= !iC q.Key x.Key:=by
   have:=Oo (a:=q.Key) (b:=x.Key);cases h:iC q.Key x.Key with
   | true=>have:=this.2 h;simp;omega
   | false=>
    have:¬ vK q.Key x.Key<0:=λe=>by rw[this.1 e]at h;cases h
    simp;omega
  show (decide (0 <= vK q.Key x.Key)||_)=(!iC q.Key x.Key||_);rw[this]
def qZ:List Row->Option Row->dV->List Row->Option (dV×List Row)|[],_,s,m=>some (s,m)|x::l,p,s,m=>if rV p x=true then none else if x.Key.head?=some 97 then qZ l (some x) s m else if (iM x s).2=true then none else qZ l (some x) (iM x s).1 (m++[x])
def rR(x:Row):Bool:=decide (x.Key.length=9)|| !(decide (x.Key.head?=some 108)||decide (x.Key.head?=some 111))
theorem Hu{b:List UInt8}(h:b.length=8):(aL b 8 ⟨0,false⟩).2.bad=false:=by
 simp[aL,h]
theorem Mq{x:Row}{s:dV}(h:rR x=true):iM x s=oV x s:=by
 unfold iM oV;by_cases h1:x.Key=[42,100,97,121]
 ·rw[if_pos h1,if_pos h1]
 rw[if_neg h1,if_neg h1];by_cases i:x.Key=[42,108,111,116]
 ·rw[if_pos i,if_pos i]
 rw[if_neg i,if_neg i];by_cases g:x.Key=[42,108,105,110,101]
 ·rw[if_pos g,if_pos g]
 rw[if_neg g,if_neg g];by_cases f:x.Key.head?=some 105
 ·rw[if_pos f,if_pos f]
 rw[if_neg f,if_neg f];unfold rR at h;by_cases d:x.Key.head?=some 108
 ·have a:x.Key.length=9:=by simpa[d]using h
  rw[if_pos ⟨a,d⟩,if_pos d,Hu (b:=x.Key.drop 1) (by simp[a]),Bool.or_false]
 rw[if_neg d,if_neg λe=>d e.2];by_cases c:x.Key.head?=some 111
 ·have a:x.Key.length=9:=by simpa[c]using h
  rw[if_pos ⟨a,c⟩,if_pos c,Hu (b:=x.Key.drop 1) (by simp[a]),Bool.or_false]
 rw[if_neg c,if_neg λe=>c e.2]
theorem MU{x:Row}{s:dV}(h:rR x=false):(iM x s).2=true:=by
 unfold rR at h;simp only[Bool.or_eq_false_iff,decide_eq_false_iff_not,Bool.not_eq_false',Bool.or_eq_true,decide_eq_true_eq]at h;obtain⟨a,h0⟩:=h;unfold iM;rw[if_neg (λe=>by rw[e]at h0;simp at h0),if_neg (λe=>by rw[e]at h0;simp at h0),if_neg (λe=>by rw[e]at h0;simp at h0),if_neg (λe=>by rw[e]at h0;simp at h0),if_neg λe=>a e.1,if_neg λe=>a e.1]
theorem MV{x:Row}{s:dV}(h:x.Key=[]):(iM x s).2=true:=by
 unfold iM;rw[h];rfl
theorem Cr:∀(l:List Row)(p:Option Row)(s:dV)(m:List Row),(∀x∈ko l,rR x=true)->qZ l p s m=rI l p s m
 | [],p,s,m,_=>rfl
 | x::l,p,s,m,h=>by
  rw[qZ,rI,O9]
  by_cases c:rV p x=true
  ·rw[if_pos c,if_pos (by rw[c];rfl)]
  rw[if_neg c]
  have c:rV p x=false:=by simpa using c
  by_cases b:x.Key.head?=some 97
  ·have hk:¬ x.Key=[]:=λe=>by rw[e]at b;cases b
   have e:ko (x::l)=ko l:=by simp[ko,pW,b]
   have a:¬ (rV p x||decide (x.Key=[]))=true:=by simp[c,hk]
   rw[if_neg a,if_pos b,if_pos b]
   exact Cr l _ s m (by rw[<-e];exact h)
  ·have e:ko (x::l)=x::ko l:=by simp[ko,pW,b]
   rw[e]at h
   rw[if_neg b,if_neg b]
   by_cases hk:x.Key=[]
   ·have a:(rV p x||decide (x.Key=[]))=true:=by simp[hk]
    rw[if_pos a,if_pos (MV hk)]
   have a:¬ (rV p x||decide (x.Key=[]))=true:=by simp[c,hk]
   rw[if_neg a,Mq (h x (by simp))]
   rw[Cr l _ _ _ λy d=>h y (by simp[d])]
theorem Cq:∀(l:List Row)(p:Option Row)(s:dV)(m:List Row)(r:dV×List Row),qZ l p s m=some r->∀x∈ko l,rR x=true
 | [],p,s,m,_,_=>by simp
 | x::l,p,s,m,r,h=>by
  rw[qZ]at h
  by_cases c:rV p x=true
  ·rw[if_pos c]at h;cases h
  rw[if_neg c]at h
  by_cases a:x.Key.head?=some 97
  ·have e:ko (x::l)=ko l:=by simp[ko,pW,a]
   rw[if_pos a]at h
   rw[e]
   exact Cq l _ _ _ r h
  ·have e:ko (x::l)=x::ko l:=by simp[ko,pW,a]
   rw[if_neg a]at h
   by_cases hb:(iM x s).2=true
   ·rw[if_pos hb]at h;cases h
   rw[if_neg hb]at h
   rw[e]
   intro y b
   rcases mem_cons.1 b with rfl|b
   ·cases d:rR y with
    | true=>rfl
    | false=>exact absurd (MU d) hb
   ·exact Cq l _ _ _ r h y b
theorem Oy(s:dV):∀x∈allRows s,rR x=true:=by
 unfold allRows;cases jz s with
 | false=>simp
 | true=>
  intro x hx;simp only[cond_true,vj,qV,cons_append,nil_append,mem_cons,mem_append,mem_map]at hx;rcases hx with rfl|rfl|rfl|⟨t,a,rfl⟩|⟨t,_,rfl⟩|⟨t,_,rfl⟩
  ·rfl
  ·rfl
  ·rfl
  ·simp[rR,tE]
  ·simp[rR,rk]
  ·simp[rR,rh]
theorem CS(l:List Row):DQ (qZ l none hS [])=jb l:=by
 unfold jb;by_cases h:∀x∈ko l,rR x=true
 ·rw[Cr _ _ _ _ h]
 ·have e:qZ l none hS []=none:=by
   cases e:qZ l none hS []with
   | none=>rfl
   | some r=>exact absurd (Cq _ _ _ _ _ e) h
  rw[e];cases b:rI l none hS []with
  | none=>rfl
  | some r=>
   obtain⟨s,m⟩:=r;obtain⟨_,a,_⟩:=CC _ _ _ _ _ _ b;rw[nil_append]at a;show (hS,(4:Int))=(if allRows s=m /\ m≠[] then (s,0) else (hS,4));rw[if_neg];rintro⟨e3,_⟩;exact h λx hx=>Oy s x (by rw[e3,a];exact hx)
abbrev Ii(K T:Type):=List (K×T×Nat)
section
variable{K T:Type}[DecidableEq K]
end
section
variable{kd:KD}{K T:Type}[DecidableEq K]{κ:K->a7}{v:T->a7}
end
section
variable{h0 h:a9}{l:List Ob}{kd:KD}{K T:Type}[DecidableEq K]{κ:K->a7}{v:T->a7}
end
section
variable{K T:Type}{ps D:Ii K T}{c:Nat}
end
section
variable{h0 h:a9}{l:List Ob}{K T:Type}{κ:K->a7}{v:T->a7}{ps:Ii K T}{m c:Nat}{Q:zQ}
end
variable{C:aC}{N:zN}
def fV.Spec(C:aC)(N:zN):Prop:=∀(x:a7)(L:List Row)(h:a9)(Q:zQ),Dl aQ h x L->L.length <= 100000->(∀c P b a h',P.map (·.1)=(jb L).1.cK->pd (jb L).1 L.length->aG h h' (fU (jb L).1 c P b a)->Q (.bI [.agg (fp (jb L).1 c b a),.int .i64 (jb L).2]) h')->C (N 452) [x] h Q
theorem MZ{L:List Row}{x:a7}{d:a9}(hx:Dl aQ d x L){k:Nat}{w:Row}(hw:L[k]?=some w)(hk:k<4611686018427387904){K:zQ}(e:K (.bool (rV (nm L k) w)) d):
  B.pv (V.bin .gtr (.int .i64 (k:Int)) (.int .i64 0)) λb=>
  B.gd d b true (λK=>K x d) λt h=>
  B.gd h b true (λK=>K (.int .i64 (k:Int)) h) λv20 h=>
  B.gd h b true (λK=>B.pv (V.bin .sub v20 (.int .i64 1)) λv=>K v h) λs h=>
  B.gd h b true (λK=>B.pv (V.aM 2 t s) λv=>K v h) λr h=>
  B.gd h b true (λK=>B.pv (V.fieldAddr 0 r) λv=>K v h) λq h=>
  B.gd h b true (λK=>B.ld h q λv=>K v h) λp h=>
  B.gd h b true (λK=>K x h) λn h=>
  B.gd h b true (λK=>K (.int .i64 (k:Int)) h) λm h=>
  B.gd h b true (λK=>B.pv (V.aM 2 n m) λv=>K v h) λl h=>
  B.gd h b true (λK=>B.pv (V.fieldAddr 0 l) λv=>K v h) λj h=>
  B.gd h b true (λK=>B.ld h j λv=>K v h) λv30 h=>
  B.gd h b true (λK=>B.gk h p λv=>K v h) λo h=>
  B.gd h b true (λK=>B.gk h v30 λv=>K v h) λi h=>
  B.gd h b true (λK=>B.pv (V.bin .geq o i) λv=>K v h) λg h=>
  B.pick b g (.bool false) λf=>K f h:=by
 by_cases h0:k=0
 ·subst h0
  have:rV (nm L 0) w=false:=rfl;rw[this]at e;simp -dsimp;exact e
 ·obtain⟨u,hu⟩:=dI (L:=L) (k:=k-1) (by have:=(List.getElem?_eq_some_iff.1 hw).1;omega)
  obtain⟨kp,H,f1,f2,f3,f4,f5,f6,F,N⟩:=qY hx hu;obtain⟨I,G,e1,M,e3,e4,E,J,d1,d2⟩:=qY hx hw;obtain⟨R1,D⟩:=F.1;obtain⟨R2,C⟩:=d1.1;have A:=vJ (a:=k) (by omega) (by omega);have z:0<k:=by omega
  have c:(0:Int)<(k:Int):=by omega
  have y:rV (nm L k) w= !iC u.Key w.Key:=by
   have:nm L k=some u:=by unfold nm;rw[if_neg h0];exact hu
   rw[this];rfl
  rw[y]at e;simp -dsimp[A,f1,f3,f5,e1,e3,E,z,c,hF D,hF C,V.Hj,-V.nI];exact e
theorem Ox{L:List Row}{x:a7}{d:a9}(hx:Dl aQ d x L){k:Nat}{w:Row}(hw:L[k]?=some w){K:zQ}(g:K (.bool (pW w)) d):
  B.pv (V.aM 2 x (.int .i64 (k:Int))) λC=>
  B.pv (V.fieldAddr 0 C) λz=>
  B.ld d z λy=>
  B.pv (V.aE y) λu=>
  B.pv (V.bin .gtr u (.int .i64 0)) λb=>
  B.gd d b true (λK=>K x d) λt h=>
  B.gd h b true (λK=>K (.int .i64 (k:Int)) h) λs h=>
  B.gd h b true (λK=>B.pv (V.aM 2 t s) λv=>K v h) λr h=>
  B.gd h b true (λK=>B.pv (V.fieldAddr 0 r) λv=>K v h) λp h=>
  B.gd h b true (λK=>B.ld h p λv=>K v h) λo h=>
  B.gd h b true (λK=>B.pv (V.aM 1 o (.int .i64 0)) λv=>K v h) λn h=>
  B.gd h b true (λK=>B.ld h n λv=>K v h) λm h=>
  B.gd h b true (λK=>B.pv (V.bin .eql m (.int .u8 97)) λv=>K v h) λl h=>
  B.pick b l (.bool false) λj=>K j h:=by
 obtain⟨E,I,e1,M,e3,e4,G,J,d1,d2⟩:=qY hx hw;have D:=d1.aE;cases a:w.Key with
 | nil=>
  have:pW w=false:=by unfold pW;rw[a];rfl
  rw[this]at g;rw[a]at D;simp -dsimp[e1,e3,G,D];exact g
 | cons c q=>
  have H:(0:Int)<(w.Key.length:Int):=by rw[a];simp
  have f:0<w.Key.length:=by rw[a];simp
  obtain⟨R2,F⟩:=d1.1;have i0:V.aM 1 E (.int .i64 0)=some (aV 1 E 0 0):=F.dF (i:=0) (by simpa using f);have l0:A.bX d (aV 1 E 0 0)=some (.int .u8 (c.toNat:Int)):=F.cell (i:=0) (by rw[a];rfl);have:pW w=decide ((c.toNat:Int)=97):=by
   unfold pW;rw[a,Bool.eq_iff_iff];simp only[head?_cons,Option.some.injEq,decide_eq_true_eq];constructor
   ·intro e;rw[e];rfl
   ·intro e
    have:c.toNat=(97:UInt8).toNat:=by show c.toNat=97;omega
    exact UInt8.toNat_inj.1 this
  rw[this]at g;simp -dsimp[e1,e3,G,D,H,f,i0,l0];exact g
theorem fV.spec(i:fV.aD C N)(s1:eg.Spec C N)(s2:gh.Spec C N):fV.Spec C N:=by
 intro x L h Q hx hlen j;apply i;have hlx:=hx.aE;simp -dsimp only[fV.aY,fV.k7];simp -dsimp[-fV.k5,-fV.l6];intro i4 h4;have D:=((((aG.start h).ni h4 [.int .i64 0,.int .i64 0,.int .i64 0,.aA,.aA,.aA]).aA 2).aA 4).aA 6 |>.aA 8;generalize bQ h i4 _=h1 at *;refine D.yD 0 rfl rfl rfl λh2 o2 _=>?_;have o2:aG h h2 (.box (.ptr i4 0 0) (fp hS .aA .aA .aA):: .sl 2 .aA [] []::fU hS .aA [] .aA .aA):=o2;refine aB.intro (λn vs y=>∃(k:Nat)(mine:a7)(M:List (Row×(a7×a7)))(s:dV)(X:a7)(P:List (en×(a7×a7)))(Y Z:a7),k+n=L.length /\ vs=[mine,.int .i64 (k:Int),.agg [.int .i64 0,.int .i64 0,.int .i64 0,.aA,.aA,.aA]] /\ P.map (·.1)=s.cK /\ pd s k /\ M.length <= k /\ (∀q∈M,aQ.at_ h q.1 q.2) /\
   aG h y (.box (.ptr i4 0 0) (fp s X Y Z):: .sl 2 mine (M.map aQ.cs) []::fU s X P Y Z) /\ qZ (L.drop k) (nm L k) s (M.map (·.1))=qZ L none hS []) L.length ?_ ⟨0,.aA,[],hS,.aA,[],.aA,.aA,by simp,rfl,rfl,⟨by simp[hS],by simp[hS]⟩,by simp,by simp,o2,rfl⟩
 rintro Y n vs y ⟨k,mine,M,s,X,P,J,Z,hk,rfl,hP,I,hM,H,t,b⟩ hY;have zero:∀h',h.le h'->jb L=(hS,4)->dn Q (.bI [.agg [.int .i64 0,.int .i64 0,.int .i64 0,.aA,.aA,.aA],.int .i64 4]) h':=λh' hle e=>by
  rw[e]at j;exact ln hle (j .aA [] .aA .aA h rfl ⟨by simp[hS],by simp[hS]⟩ (((aG.start h).aA 4).aA 6 |>.aA 8))
 simp -dsimp only[fV.l6,fV.k5,hlx,V.mw,B.aK];refine B.bF (λhc=>?_) (λhc=>?_)
 ·rw[decide_eq_true_eq]at hc
  have hc:k<L.length:=by omega
  obtain⟨w,hw⟩:=dI hc;have U:=hx.mono t.le;obtain⟨P0,R0,eP0,sx,at0⟩:=id hx;obtain⟨⟨T,K⟩,W⟩:∃a,P0[k]?=some (w,a):=by
   rw[<-eP0,getElem?_map]at hw;obtain⟨q,h1,h2⟩:=Option.map_eq_some_iff.1 hw;exact⟨q.2,by rw[h1,<-h2]⟩
  obtain⟨d1,d2⟩:Bs h T w.Key /\ Bs h K w.Value:=at0 _ (mem_of_getElem? W);have ea:∀{h':a9},h.le h'->V.aM 2 x (.int .i64 (k:Int))=some (aV 2 x k 0) /\ A.fF h' (aV 2 x k 0) 2=some (.agg [T,K]):=λhle=>by
   have ea:=vz (sx.mono hle) (λp hp=>aQ.mono hle (at0 p hp)) W;exact⟨ea.idx,ea.cR⟩
  have hd:L.drop k=w::L.drop (k+1):=by
   obtain⟨h1,h2⟩:=List.getElem?_eq_some_iff.1 hw;rw[drop_eq_getElem_cons h1,h2]
  have m:nm L (k+1)=some w:=by unfold nm;rw[if_neg (by omega)];exact hw
  rw[hd,qZ]at b;refine MZ U hw (by omega) ?_;refine B.bF (λhb=>?_) (λhb=>?_)
  ·rw[if_pos hb]at b
   simp -dsimp;refine zero y t.le ?_;rw[<-CS,<-b];rfl
  rw[if_neg (by rw[hb];exact Bool.false_ne_true)]at b;refine Ox U hw ?_;refine B.bF (λz=>?_) (λz=>?_)
  ·rw[if_pos (by simpa[pW]using z)]at b
   simp -dsimp only[eG (show k<4611686018427387904 by omega),B.aK];exact hY (L.length-(k+1)) _ _ (by omega) ⟨k+1,mine,M,s,X,P,J,Z,by omega,rfl,hP,⟨by have:=I.n;omega,I.ok⟩,by omega,H,t,by rw[m];exact b⟩
  rw[if_neg (by simpa[pW]using z)]at b;obtain⟨ei,el⟩:=ea t.le;simp -dsimp only[ei,el,B.aK,B.iL];have ho':=t.perm (List.Perm.swap ..);obtain⟨q1,q2⟩:=(aG.out (l1:=[_]) ho');refine s1 _ _ _ s X P J Z w T K k _ q2 hP I (by omega) (d1.mono q1.le) (d2.mono q1.le) λs' X' P' Y' Z' h3 o3 eP3 hN3 hs3=>?_;have o4:=q1.join o3;simp -dsimp only[V.jq,B.aK,Bool.not_not];refine B.bF (λd=>?_) (λd=>?_)
  ·rw[if_pos d]at b
   simp -dsimp;refine zero h3 o4.le ?_;rw[<-CS,<-b];rfl
  rw[if_neg (by rw[d];exact Bool.false_ne_true),<-hs3 d]at b;obtain⟨ei,el⟩:=ea o4.le;have ck:=d1.aI;have cv:=d2.aI;simp -dsimp[ei,el,ck,cv,-V.fP];refine o4.push 0 rfl (cs:=[T,K]) rfl (by omega) (by simp;omega) (by simp[maxLen];omega) λmine' h5 o5 _=>?_;simp -dsimp only[eG (show k<4611686018427387904 by omega),B.aK];refine hY (L.length-(k+1)) _ _ (by omega) ⟨k+1,mine',M++[(w,(T,K))],s',X',P',Y',Z',by omega,rfl,eP3,hN3,by simp;omega,?_,(o5.perm ?_),by rw[m,map_append];exact b⟩
  ·intro q j
   rcases mem_append.1 j with j|j
   ·exact H q j
   ·rw[mem_singleton.1 j];exact⟨d1,d2⟩
  ·rw[map_append]
   exact List.Perm.swap ..
 ·rw[decide_eq_false_iff_not]at hc
  have:k=L.length:=by omega
  subst this;rw[drop_length,qZ]at b;have b:DQ (some (s,M.map (·.1)))=jb L:=by rw[<-CS,<-b]
  obtain⟨_,e,hbx⟩:=t.fE 0 rfl;cases e;have z:iD y s X J Z:=fU.at t (λo hm=>mem_cons_of_mem _ (mem_cons_of_mem _ hm)) hP I (by omega);have cx:=z.items.aI;have cy:J.aI=true:=z.iU.elim λ_ r=>r.aI;have cz:Z.aI=true:=z.lines.elim λ_ r=>r.aI;simp -dsimp only[B.iL,xu hbx,length_cons,length_nil,drop_zero,take_succ_cons,take_zero,Nat.zero_add,Nat.le_refl,if_true,B.aK];refine s2 s X J Z y _ z (by have:=I.n;omega) λx' P' h1 eP D=>?_;have dx:Dl aQ h1 x' (allRows s):=by
   rw[<-eP];exact Df.dl D λp hp=>Aa _ (by rw[<-eP];exact mem_map.2 ⟨p,hp,rfl⟩)
  have hle:h.le h1:=a9.le_trans t.le D.le;have dm:Dl aQ h1 mine (M.map (·.1)):=⟨M,[],rfl,(t.aP 1 rfl).mono D.le,λq j=>aQ.mono hle (H q j)⟩;have hal:(allRows s).length<200000:=by
   unfold allRows;cases jz s<;>simp[vj,qV];have:=I.n;omega
  have lm:=dm.aE;have lx:=dx.aE;have hb1:=xu (D.le _ _ hbx) 0 6;have no:¬ (allRows s=M.map (·.1) /\ M.map (·.1)≠[])->dn Q (.bI [.agg [.int .i64 0,.int .i64 0,.int .i64 0,.aA,.aA,.aA],.int .i64 4]) h1:=λe=>by
   refine zero h1 hle ?_;rw[<-b];show (if allRows s=M.map (·.1) /\ M.map (·.1)≠[] then _ else _)=_;rw[if_neg e]
  have yes:(allRows s=M.map (·.1) /\ M.map (·.1)≠[])->dn Q (.bI [.agg (fp s X J Z),.int .i64 0]) h1:=λe=>by
   have e2:jb L=(s,0):=by
    rw[<-b];show (if allRows s=M.map (·.1) /\ M.map (·.1)≠[] then _ else _)=_;rw[if_pos e]
   rw[e2]at j;exact ln D.le (j X P J Z y hP I (t.sub (List.Sublist.trans (sublist_cons_self _ _) (sublist_cons_self _ _))))
  generalize hA:allRows s=A at *;generalize hMM:M.map (·.1)=f at *;have hml:f.length <= 100000:=by rw[<-hMM,length_map];omega
  by_cases v:A=[]
  ·subst v
   simp -dsimp[lx];exact no λe=>e.2 e.1.symm
  have hAl:0<A.length:=length_pos_iff.2 v;have hAl':¬ (A.length:Int)=0:=by omega
  by_cases c:A.length=f.length
  rotate_left
  ·have F:¬ (A.length:Int)=(f.length:Int):=by omega
   simp -dsimp[lx,lm,hAl',F,v,c];exact no λe=>c (by rw[e.1])
  have S:V.aE x'=some (.int .i64 (f.length:Int)):=by rw[<-c];exact lx
  have G:f≠[]:=λe=>by rw[e]at c;exact v (length_eq_zero_iff.1 c)
  have hm1:¬ (f.length:Int)=0:=by have:=length_pos_iff.2 G;omega
  simp -dsimp[S,lm,G,hm1,-fV.l3,-fV.k2];refine aB.intro (λn vs y=>∃k:Nat,k+n=f.length /\ vs=[.int .i64 (k:Int),.agg [.int .i64 0,.int .i64 0,.int .i64 0,.aA,.aA,.aA]] /\ y=h1 /\ A.take k=f.take k) f.length ?_ ⟨0,by simp,rfl,rfl,rfl⟩;rintro Yc n vs hh2 ⟨k,hk2,rfl,rfl,E⟩ hYc;simp -dsimp only[fV.l3,fV.k2,S,V.mw,B.aK];refine B.bF (λhd=>?_) (λhd=>?_)
  ·rw[decide_eq_true_eq]at hd
   obtain⟨u,hu⟩:=dI (L:=A) (k:=k) (by omega);obtain⟨w,hw⟩:=dI (L:=f) (k:=k) (by omega);obtain⟨ku,vu,f1,f2,f3,f4,f5,f6,R,p2⟩:=qY dx hu;obtain⟨kw,vw,g1,g2,g3,g4,g5,g6,O,r2⟩:=qY dm hw;obtain⟨R1,R⟩:=R.1;obtain⟨R2,p2⟩:=p2.1;obtain⟨R3,O⟩:=O.1;obtain⟨R4,r2⟩:=r2.1;have bad:u≠w->¬ (A=f /\ f≠[]):=λF e=>F (by rw[e.1]at hu;exact Option.some.inj (hu.symm.trans hw));by_cases g:u.Key=w.Key
   rotate_left
   ·simp -dsimp[f1,f3,f5,g1,g3,g5,hF R,hF O,g]
    exact no (bad λe=>g (by rw[e]))
   by_cases l:u.Value=w.Value
   rotate_left
   ·simp -dsimp[f1,f3,f4,f5,f6,g1,g3,g4,g5,g6,hF R,hF O,hF p2,hF r2,g,l]
    exact no (bad λe=>l (by rw[e]))
   have a1:=eG (show k<4611686018427387904 by omega);simp -dsimp[f1,f3,f4,f5,f6,g1,g3,g4,g5,g6,hF R,hF O,hF p2,hF r2,g,l,-V.fP];rw[a1];have huw:u=w:=by cases u;cases w;simp only at g l;rw[g,l]
   refine hYc (f.length-(k+1)) _ _ (by omega) ⟨k+1,by omega,rfl,rfl,?_⟩;rw[take_succ hu,take_succ hw,E,huw]
  ·rw[decide_eq_false_iff_not]at hd
   have:k=f.length:=by omega
   subst this;rw[take_length,<-c,take_length]at E;simp -dsimp[hb1,cx,cy,cz];exact yes ⟨E,G⟩
variable{C:aC}{N:zN}
theorem FO{T Ad:Type}{K:DK T Ad}{inn:T->Ad->bA}{k g n:Nat}{b:js}(r:K.n=n)(s:rO K inn k b C g){h0 h:a9}{t u:T}{a c:Ad}{Q:zQ}(o:aG h0 h (K.gy false t a++K.gy false u c))(m:K.ok t)(hu:K.ok u)
  (v:∀x y,Fits b (oc K inn k [(x,[(t,a)]),(y,[(u,c)])])) {i1 i2 i3:Nat} (f1:h i1=none) (f2:bQ h i1 (cG (K.cells t a)) i2=none) (f3:bQ (bQ h i1 (cG (K.cells t a))) i2 (cG (K.cells u c)) i3=none) (e:∀h',h0.le h'->Q (.bool true) h'):
  C g [.sl i3 0 0 2 1 2] (bQ (bQ (bQ h i1 (cG (K.cells t a))) i2 (cG (K.cells u c))) i3 (cG [.sl i1 0 0 1 n 1,.sl i2 0 0 1 n 1])) Q:=by
 subst r;have l:=o.gU f1 (n:=1) (cp:=1) (es:=K.n) (cs:=K.cells t a) (L:=[K.cells t a]) (R:=[]) (λp d=>by rw[append_nil]at d;rw[mem_singleton.1 d];exact K.len t a) rfl (by simp) (by simp);have o2:=l.gU f2 (n:=1) (cp:=1) (es:=K.n) (cs:=K.cells u c) (L:=[K.cells u c]) (R:=[]) (λp d=>by rw[append_nil]at d;rw[mem_singleton.1 d];exact K.len u c) rfl (by simp) (by simp);have j:=o2.gU f3 (n:=2) (cp:=2) (es:=1) (cs:=[.sl i1 0 0 1 K.n 1,.sl i2 0 0 1 K.n 1]) (L:=[[.sl i1 0 0 1 K.n 1],[.sl i2 0 0 1 K.n 1]]) (R:=[]) (by simp) rfl (by simp) rfl;obtain⟨i,f⟩:=(j.perm perm_append_comm).out;have f:aG _ _ (pX K [(.sl i1 0 0 1 K.n 1,[(t,a)]),(.sl i2 0 0 1 K.n 1,[(u,c)])]):=f.perm (by
  simp only[pX,DK.os,flatMap_cons,flatMap_nil,append_nil,map_cons,map_nil,cons_append];generalize K.gy false t a=p;generalize K.gy false u c=q;have e1:(p++q++[Ob.sl K.n (.sl i1 0 0 1 K.n 1) [K.cells t a] []]++[Ob.sl K.n (.sl i2 0 0 1 K.n 1) [K.cells u c] []]).Perm ([Ob.sl K.n (.sl i1 0 0 1 K.n 1) [K.cells t a] []]++(p++([Ob.sl K.n (.sl i2 0 0 1 K.n 1) [K.cells u c] []]++q))):=by
   refine List.Perm.trans (List.Perm.append_right _ perm_append_comm) ?_;rw[append_assoc,append_assoc];exact List.Perm.append_left _ (List.Perm.append_left _ perm_append_comm)
  exact e1)
 refine s _ _ [] _ _ Q (i.aP 0 rfl) f (λp d q e=>?_) (by simp) (λp d=>?_) (v _ _) λh' hle=>e h' (a9.le_trans i.le hle)
 ·simp only[mem_cons,not_mem_nil,or_false]at d
  rcases d with rfl|rfl
  ·rw[mem_singleton.1 e];exact m
  ·rw[mem_singleton.1 e];exact hu
 ·simp only[mem_cons,not_mem_nil,or_false]at d
  rcases d with rfl|rfl<;>simp
theorem Mh{s:dV}{P Q:List (en×(a7×a7))}{e:P.map (·.1)=s.cK}{f:Q.map (·.1)=s.cK}{a c:a7×a7×a7}(h:pd s 100000)(x y:a7):Fits kB (oc me lf 14 [(x,[(⟨(s,P),e⟩,a)]),(y,[(⟨(s,Q),f⟩,c)])]):=by
 have one:∀(x:a7)(P:List (en×(a7×a7)))(e:P.map (·.1)=s.cK)(a:a7×a7×a7),bA.cap (jf me lf 14 x [(⟨(s,P),e⟩,a)]) kB.mh /\ bA.mN (jf me lf 14 x [(⟨(s,P),e⟩,a)]) 1000000 /\ bA.sup (jf me lf 14 x [(⟨(s,P),e⟩,a)]) kB.full:=by
  intro x P e a;have i:P.length <= 100000:=by have:=congrArg List.length e;rw[length_map]at this;have:=h.n;omega
  have g:∀p∈P,p.1.ok:=λp d=>h.ok _ (by rw[<-e];exact mem_map.2 ⟨p,d,rfl⟩);have n2:=h.n;refine⟨?_,?_,?_⟩
  ·refine bA.u9 (bA.rG (by simp[kB])) (bA.wy λq b=>?_)
   rw[mem_singleton.1 b];refine bA.u9 (bA.u9 (bA.rG (by simp[kB];omega)) (bA.wy λp d=>?_)) (bA.u9 (bA.rG ?_) (bA.rG ?_))
   ·obtain⟨k1,k2⟩:=g p d
    unfold oh at k1 k2;exact bA.u9 (bA.rG (by simp[kB];omega)) (bA.rG (by simp[kB];omega))
   ·simp[kB];omega
   ·simp[kB];omega
  ·refine bA.Bg (bA.u7 (bA.rF _ _) (bA.wx (c:=900000) λq b=>?_)) (by simp)
   rw[mem_singleton.1 b];refine bA.Bg (bA.u7 (bA.u7 (bA.rF _ _) (bA.wx (c:=2) λp d=>bA.u7 (bA.rF _ _) (bA.rF _ _))) (bA.u7 (bA.rF _ _) (bA.rF _ _))) (by simp only;omega)
  ·refine bA.u3 (bA.rD rfl) (bA.wq λq b=>?_)
   exact bA.u3 (bA.u3 (bA.rD rfl) (bA.wq λp d=>bA.u3 (bA.rD rfl) (bA.rD rfl))) (bA.u3 (bA.rD rfl) (bA.rD rfl))
 have all:∀q∈[(x,[((⟨(s,P),e⟩:B2),a)]),(y,[(⟨(s,Q),f⟩,c)])],bA.cap (jf me lf 14 q.1 q.2) kB.mh /\ bA.mN (jf me lf 14 q.1 q.2) 1000000 /\ bA.sup (jf me lf 14 q.1 q.2) kB.full:=by
  intro q b;simp only[mem_cons,not_mem_nil,or_false]at b;rcases b with rfl|rfl
  ·exact one x P e a
  ·exact one y Q f c
 exact bA.D2 (n:=2*1000000) (bA.wy λq b=>(all q b).1) (bA.wx λq b=>(all q b).2.1) (by omega) (bA.wq λq b=>(all q b).2.2)
def kU.Spec(C:aC)(N:zN):Prop:=∀(x:a7)(L:List Row)(h:a9)(Q:zQ),Dl aQ h x L->L.length<4000000000000->Q (.bool true) h->C (N 454) [x] h Q
theorem kU.spec(i:kU.aD C N)(s0:kk.Spec C N)(s1:jx.Spec C N)(s2:jk.Bq C N)(Y:et.Spec C N)(s4:jN.Spec C N)(s5:iW.Spec C N)(s6:fV.Spec C N)(X:nv.Spec C N)(s8:rO me lf 14 kB C (N 453)):kU.Spec C N:=by
 intro x L h Q hx hl hq;apply i;simp -dsimp only[kU.aY,kU.k1];refine s1 x L h _ hx hl λb1 O=>?_;cases b1 with
 | true=>simp -dsimp;exact s0 _ _ (aR hq)
 | false=>
 have hR:=O rfl;have hn:=hR.n;simp -dsimp;refine s2 x L h _ hx (by omega) λB P PM h1 eP eM o1 k1=>?_;have l:L.length <= 100000:=by omega
 refine Y B L h1 _ k1.dl l λJ U I H h2 eU nU o2=>?_;refine Y B L h2 _ (k1.mono o2.le).dl l λG W F E h3 eW nW D=>?_;have b:pd (jb L).1 100000:=⟨by have:=nU.n;omega,nU.ok⟩;have q:=o2.join D;have v:=q.le;have k:J.aI=true:=(o2.aP 0 rfl).aI;have j:I.aI=true:=(o2.aP 1 rfl).aI;have g:H.aI=true:=(o2.aP 2 rfl).aI;have f:G.aI=true:=(D.aP 0 rfl).aI;have e:F.aI=true:=(D.aP 1 rfl).aI;have d:E.aI=true:=(D.aP 2 rfl).aI;simp -dsimp[k,j,g,f,e,d];refine s4 B x L L h3 _ (k1.mono v) (hx.mono (a9.le_trans o1.le v)) (by omega) ?_;simp -dsimp[k,j,g,f,e,d];have oo:=o1.join q;obtain⟨q1,q2⟩:=(oo.perm perm_append_comm).out;refine s5 B P PM _ _ _ q2 (λp hp=>hx.ok _ (by rw[<-eP];exact mem_map.2 ⟨p,hp,rfl⟩)) (by have:=congrArg List.length eM;rw[length_map]at this;rw[this];simp[pU]) (by have:=congrArg List.length eP;rw[length_map]at this;omega) λh4 l4=>?_;have p4:=q1.grow l4;have R:=p4.le;refine s6 x L h4 _ (hx.mono R) l λV Z T S s eZ nZ m=>?_;have A:V.aI=true:=(m.aP 0 rfl).aI;have z:T.aI=true:=(m.aP 1 rfl).aI;have w:S.aI=true:=(m.aP 2 rfl).aI;have M:=p4.grow m.le;have aU:iD s (jb L).1 J I H:=fU.at M (λo r=>mem_append_left _ r) eU b (by omega);have aW:iD s (jb L).1 G F E:=fU.at M (λo r=>mem_append_right _ r) eW b (by omega);have aZ:iD s (jb L).1 V T S:=fU.at m (λo r=>r) eZ b (by omega);simp -dsimp[A,z,w];refine X _ _ _ _ _ _ _ _ s _ aU aZ ?_;simp -dsimp[A,z,w,f,e,d];refine X _ _ _ _ _ _ _ _ s _ aW aZ ?_;simp -dsimp[k,j,g,f,e,d,bG];intro i1 f1;simp -dsimp[k,j,g,f,e,d,bG];intro i2 f2;simp -dsimp[k,j,g,f,e,d,bG];intro i3 f3;simp -dsimp;refine FO (K:=me) (t:=⟨((jb L).1,U),eU⟩) (u:=⟨((jb L).1,W),eW⟩) (a:=(J,I,H)) (c:=(G,F,E)) rfl s8 M b.ok b.ok (λx y=>Mh b x y) f1 f2 f3 λh6 l6=>?_;simp -dsimp;refine s0 _ _ ?_;simp -dsimp;exact ln l6 hq
theorem Cm{s r:Int}:∀(l:List Row)(b:List UInt8)(n:Nat)(w:Bool),kO s r l b n w=kO s r (l.filter (iP s r)) b n w
 | [],_,_,_=>rfl
 | x::l,b,n,w=>by
  rw[kO]
  by_cases h:iP s r x=true
  ·rw[if_pos h,filter_cons_of_pos h,kO,if_pos h,Cm l]
  ·rw[if_neg h,filter_cons_of_neg h,Cm l]
theorem Fb{s r:Int}:∀(l:List Row)(b:List UInt8)(n:Nat)(w:Bool),(∀x∈l,iP s r x=true)->(kO s r l b n w).1=b++l.flatMap Row.Value
 | [],b,_,_,_=>by simp[kO]
 | x::l,b,n,w,h=>by
  rw[kO,if_pos (h x (by simp)),Fb l _ _ _ λy a=>h y (by simp[a])]
  simp
theorem FB{s r:Int}:∀(l:List Row)(b:List UInt8)(n:Nat)(w:Bool),(∀x∈l,iP s r x=true)->(kO s r l b n w).2=true ->
  w=true /\ l=(List.range' n l.length).map (kM s r (b++l.flatMap Row.Value)) /\ (l≠[]->b.length=n*180 /\ gC (b++l.flatMap Row.Value)=n+l.length)
 | [],b,n,w,_,h=>⟨h,rfl,λe=>absurd rfl e⟩
 | x::l,b,n,w,hm,h=>by
  rw[kO,if_pos (hm x (by simp))]at h;obtain⟨h1,k,c⟩:=FB l _ _ _ (λy i=>hm y (by simp[i])) h;rw[Bool.and_eq_true]at h1;obtain⟨hw,hx⟩:=h1;unfold xz at hx;simp only[Bool.and_eq_true,decide_eq_true_eq]at hx;obtain⟨⟨⟨g,f⟩,p⟩,d⟩:=hx;have e:b++(x::l).flatMap Row.Value=b++x.Value++l.flatMap Row.Value:=by simp
  rw[e];have j:kM s r (b++x.Value++l.flatMap Row.Value) n=x:=by
   unfold kM mA;have o:(b++x.Value++l.flatMap Row.Value).drop (180*n)=x.Value++l.flatMap Row.Value:=by
    rw[append_assoc,drop_append,drop_eq_nil_of_le (by omega),show 180*n-b.length=0 by omega];rfl
   rw[o];have m:(x.Value++l.flatMap Row.Value).take 180=x.Value:=by
    by_cases a:l=[]
    ·subst a
     rw[flatMap_nil,append_nil];exact take_of_length_le d
    ·obtain⟨g1,_⟩:=c a
     rw[length_append]at g1;rw[take_append,take_of_length_le (by omega),show 180-x.Value.length=0 by omega];simp
   rw[m,<-g]
  refine⟨hw,?_,λ_=>⟨f,?_⟩⟩
  ·rw[length_cons,range'_succ,map_cons,j,<-k]
  ·by_cases a:l=[]
   ·subst a
    unfold gC;simp;omega
   ·obtain⟨_,g2⟩:=c a
    rw[g2,length_cons];omega
def x0(s r:Int)(l:List Row):cW×Bool:=
 let b:=(l.filter (iP s r)).flatMap Row.Value
 if dY s r 0=[] then (pM,false) else if (fY b).2.2=0 /\ (fY b).2.1=b.length /\ (fQ s r (fY b).1).1=l.filter (iP s r) then ((fY b).1,true) else (pM,false)
theorem MW(s r:Int)(l:List Row):x0 s r l=gS s r l:=by
 unfold x0 gS;by_cases hk:dY s r 0=[]
 ·rw[if_pos hk,if_pos hk]
 rw[if_neg hk,if_neg hk,Cm];have a:jc s r 0=false:=by
  cases h:jc s r 0 with
  | false=>rfl
  | true=>exact absurd (Dn.2 h) hk
 have hm:∀x∈l.filter (iP s r),iP s r x=true:=λx hx=>(mem_filter.1 hx).2;generalize l.filter (iP s r)=m at *;have hb:=Fb m [] 0 true hm;rw[nil_append]at hb;unfold vE;rw[hb];generalize i:m.flatMap Row.Value=b at *;by_cases g:(fY b).2.2=0 /\ (fY b).2.1=b.length
 rotate_left
 ·rw[if_neg (λe=>g ⟨e.1,e.2.1⟩),if_neg (λe=>g e.2)]
 obtain⟨c,j⟩:=g;obtain⟨t1,t2,t3,t4,t5⟩:=FE c;rw[j,take_length]at t3;have k:=Gn (s:=s) (r:=r) (t:=(fY b).1) (by rw[t3]) a;rw[t3]at k;have d:gC b <= 1000:=by have:=xX (fY b).1;rw[t3]at this;exact this
 have key:(fQ s r (fY b).1).1=m↔(kO s r m [] 0 true).2=true:=by
  rw[k];constructor
  ·intro e
   have:=EW (s:=s) (r:=r) a d (gC b) 0 [] (by omega);rw[<-range_eq_range',append_nil]at this;rw[<-e];simp only[Nat.mul_zero,take_zero]at this;rw[this];rfl
  ·intro e
   obtain⟨_,g2,g3⟩:=FB m [] 0 true hm e;rw[nil_append,i]at g2 g3;have f:m≠[]:=λe=>by
    rw[e]at i;have:b=[]:=i.symm;rw[this]at c;exact Lz c
   obtain⟨_,g4⟩:=g3 f;rw[range_eq_range',g4,Nat.zero_add];exact g2.symm
 by_cases hw:(kO s r m [] 0 true).2=true
 ·rw[if_pos ⟨c,j,key.2 hw⟩,if_pos ⟨hw,c,j⟩]
 ·rw[if_neg (λe=>hw (key.1 e.2.2)),if_neg (λe=>hw e.1)]
variable{C:aC}{N:zN}
def ij.Spec(C:aC)(N:zN):Prop:=∀(s r:Int)(t:cW)(x y:a7)(h:a9)(Q:zQ),kP h t x y->t.bJ.length <= 100000000->t.Uses.length <= 100000000->(∀a P h',P.map (·.1)=(fQ s r t).1->Df aQ h h' a P->Q (.bI [a,.int .i64 (fQ s r t).2]) h')->C (N 455) [.int .i64 s,.int .i64 r,.agg (t.cs x y)] h Q
theorem ij.spec(i:ij.aD C N)(s1:fI.Spec C N)(s2:oA.Spec C N):ij.Spec C N:=by
 intro s r t x y h Q J M L G;have cx:=J.iU.elim λ_ r=>r.aI;have cy:=J.sK.elim λ_ r=>r.aI;apply i;simp -dsimp[cx,cy];refine s1 t x y h _ J M L λv h1 T=>?_;simp -dsimp[-ij.k1];refine s2 s r 0 h1 _ λk0 o o2 hk=>?_;have u:aJ o 1 v ((fX t).1.map bc) []:=(T.aP 0 rfl).mono o2.le;have q:=(o2.aP 0 rfl:aJ o 1 k0 ((dY s r 0).map bc) []).aE;rw[length_map]at q;have bad:∀h',h.le h'->fQ s r t=([],2)->dn Q (.bI [.aA,.int .i64 2]) h':=λh' hle e=>by
  rw[e]at G;exact ln hle (G .aA [] h rfl (by simpa[Df,DK.os]using (aG.start h).aA aQ.n))
 have m:=a9.le_trans T.le o2.le;by_cases c:dY s r 0=[]
 ·rw[c]at q
  simp -dsimp[q];exact bad o m (by unfold fQ;rw[if_pos (.inr c)])
 have z:¬ ((dY s r 0).length:Int)=0:=by have:=length_pos_iff.2 c;omega
 by_cases he:(fX t).2=0
 rotate_left
 ·simp -dsimp[q,z,c,he]
  exact bad o m (by unfold fQ;rw[if_pos (.inl he)])
 simp -dsimp[q,z,c,he,-ij.k1,-ij.l2];have hbl:=Cy t;have D:fQ s r t=((List.range (gC (fX t).1)).map (kM s r (fX t).1),0):=by
  unfold fQ;rw[if_neg];rintro(e|e)
  ·exact e he
  ·exact c e
 rw[D]at G;generalize hB:(fX t).1=b at *;have hpn:gC b <= 1000:=by unfold gC;omega
 have I:=u.aE;rw[length_map]at I;refine aB.intro (λn vs g=>∃(k:Nat)(out:a7)(P:List (Row×(a7×a7))),k+n=gC b /\ vs=[out,.int .i64 ((180*k:Nat):Int)] /\ P.map (·.1)=(List.range k).map (kM s r b) /\ Df aQ o g out P) (gC b) ?_ ⟨0,.aA,[],by simp,rfl,rfl,by simpa[Df,DK.os]using (aG.start o).aA aQ.n⟩;rintro Y n vs g ⟨k,out,P,hk2,rfl,S,E⟩ hY;have O:P.length=k:=by have:=congrArg List.length S;simpa using this
 have lo:=(E.aP 0 rfl:aJ g 2 out (P.map aQ.cs) []).aE;rw[length_map,O]at lo;simp -dsimp only[ij.l2,ij.k1,I,V.mw,B.aK];refine B.bF (λj=>?_) (λj=>?_)
 ·rw[decide_eq_true_eq]at j
  have j:180*k<b.length:=by omega
  have hkp:k<gC b:=xd.2 j;have l:V.bin .add (.int .i64 ((180*k:Nat):Int)) (.int .i64 180)=some (.int .i64 ((180*(k+1):Nat):Int)):=by
   simp only[V.fP];rw[wrap_i64 (by omega) (by omega)];congr 2
  have p:IntKind.i64.wrap (((180*k:Nat):Int)+180)=((180*(k+1):Nat):Int):=by rw[wrap_i64 (by omega) (by omega)];omega
  have w:min ((180*(k+1):Nat):Int) (b.length:Int)=((min (180*(k+1)) b.length:Nat):Int):=by omega
  obtain⟨y1,R1,c1,W,_⟩:=(u.mono E.le).kY (by omega) (lo:=180*k) (hi:=min (180*(k+1)) b.length) (a:=some (.int .i64 ((180*k:Nat):Int))) (b:=some (.int .i64 ((min (180*(k+1)) b.length:Nat):Int))) (.inr ⟨_,rfl⟩) (.inr ⟨_,rfl⟩) (by omega) (by omega);have K:(b.take (min (180*(k+1)) b.length)).drop (180*k)=mA b k:=by
   unfold mA;rw[drop_take,take_eq_take_iff,length_drop];omega
  rw[K]at W;simp -dsimp only[lo,I,l,B.aK,V.GY,w,c1];refine s2 s r k g _ λd U H _=>?_;have ck:d.aI=true:=(H.aP 0 rfl:aJ U 1 d ((dY s r k).map bc) []).aI;have o4:aG g U (.sl 1 .sz [] []::[gw false d (dY s r k)]):=(H.sz 1).perm perm_append_comm;have hpl:(mA b k).length <= 180:=by unfold mA;simp;omega
  refine o4.bO 0 rfl (W.mono H.le) (by omega) (by simp;omega) (by simp[maxLen];omega) λf R F _=>?_;have F:aG g R (gw false f (mA b k)::[gw false d (dY s r k)]):=F;have cv:f.aI=true:=(F.aP 0 rfl:aJ R 1 f ((mA b k).map bc) []).aI;have Z:aG g R (aQ.gy false (kM s r b k) (d,f)):=F.perm (List.Perm.swap ..);have eb:A.cD [(0,none,d),(1,none,f)] [.aA,.aA]=some (.agg [d,f]):=by simp -dsimp[ck,cv]
  simp -dsimp only[eb,l,B.aK];refine AF (b:=(d,f)) E Z (by omega) λout' h6 X=>?_;refine hY (gC b-(k+1)) _ _ (by omega) ⟨k+1,out',P++[(kM s r b k,(d,f))],by omega,by rw[p],?_,X⟩;rw[map_append,S,range_succ,map_append];rfl
 ·rw[decide_eq_false_iff_not]at j
  have j:k=gC b:=by
   have:¬ k<gC b:=λe=>j (by have:=xd.1 e;omega);omega
  subst j;exact aR (G out P g S (aG.back E m))
end Go.Ab
namespace Go.Ab
open List
variable{C:aC}{N:zN}
def two{α:Type}(a b:α):Nat->α:=λj=>if j=0 then a else b
theorem L5{t:cW}{r:dE}{n:Nat}(h1:t.bJ.length <= n)(a:t.Uses.length <= n):(mb t r).1.bJ.length <= n /\ (mb t r).1.Uses.length <= n:=by
 unfold mb;split
 ·simp[pM]
 ·exact⟨h1,a⟩
theorem Fq(b:List UInt8):(fY b).1.bJ.length <= 65535 /\ (fY b).1.Uses.length <= 65535:=by
 rw[zM];refine L5 ?_ ?_
 ·unfold mr
  split
  ·simp only[pN]
   have h1:=tu (fR b) (aL b 2 (aL b 1 (cT b (aL b 2 (aL b 8 (aL b 2 ⟨0,false⟩).2).2).2).2).2).1.toNat (aL b 2 (aL b 1 (cT b (aL b 2 (aL b 8 (aL b 2 ⟨0,false⟩).2).2).2).2).2).2;have a:=rJ b (aL b 1 (cT b (aL b 2 (aL b 8 (aL b 2 ⟨0,false⟩).2).2).2).2).2;omega
  ·simp
 ·unfold mr
  split
  ·simp only[pN]
   refine Nat.le_trans (tu _ _ _) ?_;have a:=rJ b (cP (fR b) (aL b 2 (aL b 1 (cT b (aL b 2 (aL b 8 (aL b 2 ⟨0,false⟩).2).2).2).2).2).1.toNat (aL b 2 (aL b 1 (cT b (aL b 2 (aL b 8 (aL b 2 ⟨0,false⟩).2).2).2).2).2).2).2;omega
  ·simp
variable{C:aC}{N:zN}
def ew.Spec(C:aC)(N:zN):Prop:=∀(s r:Int)(x:a7)(L:List Row)(h:a9)(Q:zQ),Dl aQ h x L->L.length <= 1000000->mx L <= 10000000->(∀b a h',aG h h' (uJ (gS s r L).1 b a)->Q (.bI [.agg ((gS s r L).1.cs b a),.bool (gS s r L).2]) h')->C (N 456) [.int .i64 s,.int .i64 r,x] h Q
theorem ew.spec(i:ew.aD C N)(s1:oA.Spec C N)(s2:fj.Spec C N)(s3:ij.Spec C N):ew.Spec C N:=by
 intro s r x L h Q hx hl hv g;rw[<-MW]at g;apply i;simp -dsimp only[ew.aY,ew.qe,ew.jL];refine s1 s r 0 h _ λk0 h1 o1 _=>?_;have zero:∀h',h.le h'->x0 s r L=(pM,false)->dn Q (.bI [.agg [.int .i64 0,.int .i64 0,.int .i64 0,.str [],.int .u8 0,.aA,.aA],.bool false]) h':=λh' hle e=>by
  rw[e]at g;exact ln hle (g .aA .aA h (((aG.start h).aA 6).aA 3))
 have b0:aJ h1 1 k0 ((dY s r 0).map bc) []:=o1.aP 0 rfl;have l0:=b0.aE;rw[length_map]at l0;by_cases G:dY s r 0=[]
 ·rw[G]at l0
  simp -dsimp[l0];exact zero h1 o1.le (by unfold x0;simp only;rw[if_pos G])
 have hkb:jc s r 0=false:=by
  cases hb:jc s r 0 with
  | false=>rfl
  | true=>exact absurd (by unfold dY;rw[hb];rfl) G
 have mK:=yj hkb;rw[mK]at l0;have hlx:=hx.aE;simp -dsimp[l0,-ew.l9];refine aB.intro (λt vs H=>∃(k:Nat)(mine y:a7)(M:List (Row×(a7×a7))),k+t=L.length /\ vs=[mine,y,.int .i64 (k:Int)] /\ M.map (·.1)=(L.take k).filter (iP s r) /\ (∀q∈M,aQ.at_ h q.1 q.2) /\ aG h1 H [.sl 2 mine (M.map aQ.cs) [],.sl 1 y (((M.map (·.1)).flatMap Row.Value).map bc) []]) L.length ?_ ⟨0,.aA,.aA,[],by simp,rfl,by simp,by simp,((aG.start h1).aA 2).aA 1⟩;rintro Y t vs H ⟨k,mine,y,M,hkt,rfl,eM,T,o⟩ hY;have hle:h.le H:=a9.le_trans o1.le o.le;have hMl:M.length <= L.length:=by
  have:=congrArg List.length eM;rw[length_map]at this;have:=length_filter_le (iP s r) (L.take k);rw[length_take]at this;omega
 have hbl:∀j,(((L.take j).filter (iP s r)).flatMap Row.Value).length <= mx (L.take j):=λj=>by
  unfold mx;generalize L.take j=l
  induction l with
  | nil=>simp
  | cons a l ih=>
   by_cases ha:iP s r a=true
   ·rw[filter_cons_of_pos ha];simp only[flatMap_cons,length_append];omega
   ·rw[filter_cons_of_neg ha];simp only[flatMap_cons,length_append];omega
 have hb1:=hbl k;have hb2:=hbl (k+1);have vle:=Ac L k;have vle1:=Ac L (k+1);simp -dsimp only[ew.l9,ew.k8,hlx,V.mw,B.aK];refine B.bF (λhc=>?_) (λhc=>?_)
 ·rw[decide_eq_true_eq]at hc
  have hc:k<L.length:=by omega
  obtain⟨w,hw⟩:=dI hc;obtain⟨P0,R0,eP0,sx,at0⟩:=id hx;obtain⟨⟨F,I⟩,hq0⟩:∃a,P0[k]?=some (w,a):=by
   rw[<-eP0,getElem?_map]at hw;obtain⟨q,h1,K⟩:=Option.map_eq_some_iff.1 hw;exact⟨q.2,by rw[h1,<-K]⟩
  obtain⟨d1,d2⟩:Bs h F w.Key /\ Bs h I w.Value:=at0 _ (mem_of_getElem? hq0);have ea:∀{h':a9},h.le h'->Ek aQ h' x k w (F,I):=λhle=>vz (sx.mono hle) (λp R=>aQ.mono hle (at0 p R)) hq0;have e1:V.aM 2 x (.int .i64 (k:Int))=some (aV 2 x k 0):=(ea hle).idx;have e2:V.fieldAddr 0 (aV 2 x k 0)=some (aV 2 x k 0):=(ea hle).sV 0 0;have e3:A.bX H (aV 2 x k 0)=some F:=(ea hle).ld 0 (by decide);have a1:=d1.mono hle;have l1:=a1.aE
  have tk:(L.take (k+1)).filter (iP s r)=if iP s r w=true then M.map (·.1)++[w] else M.map (·.1):=by
   rw[take_succ hw,filter_append,<-eM];by_cases hm:iP s r w=true
   ·rw[if_pos hm,filter_cons_of_pos hm];rfl
   ·rw[if_neg hm,filter_cons_of_neg hm];simp
  have a1k:=eG (show k<4611686018427387904 by omega);have skip:iP s r w=false->Y [mine,y,.int .i64 ((k+1:Nat):Int)] H:=λe=>by
   rw[if_neg (by rw[e];exact Bool.false_ne_true)]at tk;exact hY (L.length-(k+1)) _ _ (by omega) ⟨k+1,mine,y,M,by omega,rfl,tk.symm,T,o⟩
  by_cases X:w.Key.length=12
  rotate_left
  ·have D:¬ (w.Key.length:Int)=12:=by omega
   simp -dsimp[e1,e2,e3,l1,l0,X,D,a1k,-V.fP];exact skip (by unfold iP;rw[decide_eq_false X];rfl)
  have D:(w.Key.length:Int)=12:=by omega
  obtain⟨z0,S0,f1,f2,_⟩:=b0.kY (by omega) (lo:=0) (hi:=10) (a:=none) (b:=some (.int .i64 ((10:Nat):Int))) (.inl ⟨rfl,rfl⟩) (.inr ⟨_,rfl⟩) (by omega) (by omega);rw[drop_zero]at f2;have f1:V.dS 1 k0 none (some (.int .i64 10))=some z0:=f1;obtain⟨Rk,a1s⟩:=a1.1;obtain⟨z1,S1,g1,g2,_⟩:=a1s.kY (by omega) (lo:=0) (hi:=10) (a:=none) (b:=some (.int .i64 ((10:Nat):Int))) (.inl ⟨rfl,rfl⟩) (.inr ⟨_,rfl⟩) (by omega) (by omega);rw[drop_zero]at g2;have g1:V.dS 1 F none (some (.int .i64 10))=some z1:=g1;simp -dsimp[e1,e2,e3,l1,l0,D,f1,g1,hF (f2.mono o.le),hF g2,-V.fP];refine B.bF (λR=>?_) (λR=>?_)
  ·have hm:iP s r w=true:=by unfold iP;rw[decide_eq_true X,R];rfl
   rw[if_pos hm]at tk;have e4:A.fF H (aV 2 x k 0) 2=some (.agg [F,I]):=(ea hle).cR;have ck:=d1.aI;have cv:=d2.aI;simp -dsimp[e1,e4,ck,cv,-V.fP];refine o.push 0 rfl (cs:=[F,I]) rfl (by omega) (by simp;omega) (by simp[maxLen];omega) λmine' h5 o5 _=>?_;have v:h.le h5:=a9.le_trans o1.le o5.le;have e5:A.bX h5 (aV 2 x k 1)=some I:=(ea v).ld 1 (by decide);have e6:V.fieldAddr 1 (aV 2 x k 0)=some (aV 2 x k 1):=(ea v).sV 0 1;simp -dsimp only[e1,e6,e5,B.aK,B.fw];obtain⟨⟨Rv,f⟩,_⟩:=d2.mono v;have hbm:((M.map (·.1)).flatMap Row.Value).length+w.Value.length <= 10000000:=by
    rw[tk,flatMap_append,length_append]at hb2;simp only[flatMap_cons,flatMap_nil,append_nil]at hb2;omega
   refine o5.bO 1 rfl f (by omega) (by simp only[length_map];omega) (by simp only[length_map,maxLen];omega) λO h6 o6 _=>?_;rw[a1k];refine hY (L.length-(k+1)) _ _ (by omega) ⟨k+1,mine',O,M++[(w,(F,I))],by omega,rfl,?_,?_,?_⟩
   ·rw[tk,map_append];rfl
   ·intro q g
    rcases mem_append.1 g with g|g
    ·exact T q g
    ·rw[mem_singleton.1 g];exact⟨d1,d2⟩
   ·rw[map_append,map_append,flatMap_append,map_append]
    have e7:[(w,(F,I))].map aQ.cs=[[F,I]]:=rfl;rw[e7];simpa using o6
  ·simp -dsimp only[a1k,B.aK]
   exact skip (by unfold iP;rw[R,Bool.and_false])
 ·rw[decide_eq_false_iff_not]at hc
  have:k=L.length:=by omega
  subst this;rw[take_length]at eM hb1;have hy:=o.aP 1 rfl;generalize hB:(M.map (·.1)).flatMap Row.Value=b at *;have hbb:b.length <= 10000000:=by rw[<-hB,eM];omega
  have ly:V.aE y=some (.int .i64 (b.length:Int)):=by have:=hy.aE;rwa [length_map]at this
  have d:x0 s r L=if (fY b).2.2=0 /\ (fY b).2.1=b.length /\ (fQ s r (fY b).1).1=M.map (·.1) then ((fY b).1,true) else (pM,false):=by
   unfold x0;simp only;rw[if_neg G,<-eM,hB]
  simp -dsimp only[ew.k7];refine s2 y b H _ ⟨⟨[],hy⟩,by omega⟩ λx' O K o2=>?_;have cx:x'.aI=true:=(o2.aP 0 rfl).aI;have cy:O.aI=true:=(o2.aP 1 rfl).aI;have z:h.le K:=a9.le_trans hle o2.le;by_cases g1:(fY b).2.2=0
  rotate_left
  ·simp -dsimp[cW.val,g1,cx,cy,-ew.k5]
   exact zero K z (by rw[d,if_neg (λe=>g1 e.1)])
  by_cases g2:(fY b).2.1=b.length
  rotate_left
  ·have Z:¬ ((fY b).2.1:Int)=b.length:=by omega
   simp -dsimp[cW.val,g1,Z,ly,cx,cy,-ew.k5];exact zero K z (by rw[d,if_neg (λe=>g2 e.2.1)])
  have Z:((fY b).2.1:Int)=b.length:=by omega
  simp -dsimp[cW.val,g1,Z,ly,cx,cy,-ew.k4];obtain⟨t1,t2⟩:=Fq b;have ht:kP K (fY b).1 x' O:=⟨⟨_,o2.aP 0 rfl⟩,⟨_,o2.aP 1 rfl⟩⟩;refine s3 s r _ x' O K _ ht (by omega) (by omega) λwant W U eW oW=>?_;have J:h.le U:=a9.le_trans z oW.le;have dW:Dl aQ U want (W.map (·.1)):=by
   refine Df.dl oW λp R=>?_;have:p.1∈(fQ s r (fY b).1).1:=by rw[<-eW];exact mem_map.2 ⟨p,R,rfl⟩
   have:=(yc s r (fY b).1).2.2.2 p.1 this;show p.1.Key.length <= ep /\ p.1.Value.length <= ep;unfold ep;omega
  have dm:Dl aQ U mine (M.map (·.1)):=⟨M,[],rfl,(o.aP 0 rfl).mono (a9.le_trans o2.le oW.le),λq g=>aQ.mono J (T q g)⟩;have hA:(W.map (·.1)).length <= 1000:=by rw[eW];exact(yc s r (fY b).1).2.2.1
  rw[<-eW]at d;have no:W.map (·.1)≠M.map (·.1)->dn Q (.bI [.agg [.int .i64 0,.int .i64 0,.int .i64 0,.str [],.int .u8 0,.aA,.aA],.bool false]) U:=λe=>zero U J (by rw[d,if_neg (λe2=>e e2.2.2)]);have yes:W.map (·.1)=M.map (·.1)->dn Q (.bI [.agg ((fY b).1.cs x' O),.bool true]) U:=λe=>by
   rw[d,if_pos ⟨g1,g2,e⟩]at g;exact ln oW.le (g x' O K (o2.back hle))
  generalize W.map (·.1)=A at *;have hMl':(M.map (·.1)).length <= 1000000:=by rw[length_map];omega
  generalize M.map (·.1)=E at *;have lx:=dW.aE;have lm:=dm.aE;by_cases c:A.length=E.length
  rotate_left
  ·have S:¬ (A.length:Int)=(E.length:Int):=by omega
   simp -dsimp[lx,lm,S,c];exact no λe=>c (by rw[e])
  have lx':V.aE want=some (.int .i64 (E.length:Int)):=by rw[<-c];exact lx
  simp -dsimp[lx',lm,-ew.l3,-ew.k2];refine aB.intro (λn vs H=>∃k:Nat,k+n=E.length /\ vs=[.int .i64 (k:Int),.agg [.int .i64 0,.int .i64 0,.int .i64 0,.str [],.int .u8 0,.aA,.aA]] /\ H=U /\ A.take k=E.take k) E.length ?_ ⟨0,by simp,rfl,rfl,rfl⟩;rintro Yc n vs hh2 ⟨k,hk2,rfl,rfl,P⟩ hYc;simp -dsimp only[ew.l3,ew.k2,lx',V.mw,B.aK];refine B.bF (λhd=>?_) (λhd=>?_)
  ·rw[decide_eq_true_eq]at hd
   obtain⟨u,hu⟩:=dI (L:=A) (k:=k) (by omega);obtain⟨w,hw⟩:=dI (L:=E) (k:=k) (by omega);obtain⟨ku,vu,f1,f2,f3,f4,f5,f6,p1,p2⟩:=qY dW hu;obtain⟨kw,vw,g1,g2,g3,g4,g5,g6,r1,r2⟩:=qY dm hw;obtain⟨R1,p1⟩:=p1.1;obtain⟨R2,p2⟩:=p2.1;obtain⟨R3,r1⟩:=r1.1;obtain⟨R4,r2⟩:=r2.1;have bad:u≠w->A≠E:=λS e=>S (by rw[e]at hu;exact Option.some.inj (hu.symm.trans hw));by_cases m:u.Key=w.Key
   rotate_left
   ·simp -dsimp[f1,f3,f5,g1,g3,g5,hF p1,hF r1,m]
    exact no (bad λe=>m (by rw[e]))
   by_cases f:u.Value=w.Value
   rotate_left
   ·simp -dsimp[f1,f3,f4,f5,f6,g1,g3,g4,g5,g6,hF p1,hF r1,hF p2,hF r2,m,f]
    exact no (bad λe=>f (by rw[e]))
   have a1:=eG (show k<4611686018427387904 by omega);simp -dsimp[f1,f3,f4,f5,f6,g1,g3,g4,g5,g6,hF p1,hF r1,hF p2,hF r2,m,f,-V.fP];rw[a1];have huw:u=w:=by cases u;cases w;simp only at m f;rw[m,f]
   refine hYc (E.length-(k+1)) _ _ (by omega) ⟨k+1,by omega,rfl,rfl,?_⟩;rw[take_succ hu,take_succ hw,P,huw]
  ·rw[decide_eq_false_iff_not]at hd
   have:k=E.length:=by omega
   subst this;rw[take_length,<-c,take_length]at P;simp -dsimp[cx,cy];exact yes P
variable{C:aC}{N:zN}
theorem tZ.spec(i:tZ.aD C N):jQ C 11 (N 207):=λh e id B y Q hb b d c=>i _ _ e Q (uW (k:=11) (by omega) hb b d λh' a=>aR (c h' a))
variable{C:aC}{N:zN}
theorem aG.PE{h0 h:a9}{l:List Ob}(b:aG h0 h l){x y:a7}{id:Nat}(a:h id=none):aG h0 (bQ h id (cG [x,y])) (l++[.sl 1 (.sl id 0 0 2 1 2) [[x],[y]] []]):=b.gU a (by simp) rfl (by simp) rfl
def wJ(α:Type)(a b:α):Nat->α:=λj=>if j=0 then a else b
theorem N9{es:Nat}{a b:a7}{A c R1 R2:List (List a7)}:cS es 2 (wJ _ a b) (wJ _ A c) (wJ _ R1 R2)=[.sl es a A R1,.sl es b c R2]:=rfl
end Go.Ab
namespace Go.Ab
open List
variable{C:aC}{N:zN}
theorem Qh{h:a9}{es n:Nat}{cs:List a7}(L:List (List a7)){K:Nat->a9->Prop}(b:cs=L.flatten)(c:∀p∈L,p.length=es)(a:n=L.length)(d:∀i h',aG h h' [.sl es (.sl i 0 0 n es n) L []]->K i h'):B.bL h (some cs) K:=
 λi hi=>d i _ ((aG.start h).gU hi (by simpa using c) a (by simp;omega) (by simpa using b))
end Go.Ab
namespace Go.Ab
open List
variable{C:aC}{N:zN}
theorem Mu{T Ad:Type}{K:DK T Ad}{inn:T->Ad->bA}{k g:Nat}{b:js}(s:rO K inn k b C g){h0 h:a9}{x y:a7}{P1 P2:List (T×Ad)}{Q:zQ}(i:aG h0 h (pX K [(x,P1),(y,P2)]))(k1:∀q∈P1,K.ok q.1)(k2:∀q∈P2,K.ok q.1)
  (l1:P1.length <= 100000000) (l2:P2.length <= 100000000) (j:Fits b (oc K inn k [(x,P1),(y,P2)])) (f:∀h',h0.le h'->Q (.bool true) h') {id:Nat} (c:h id=none):C g [.sl id 0 0 2 1 2] (bQ h id (cG [x,y])) Q:=by
 have o:=i.gU c (n:=2) (cp:=2) (es:=1) (cs:=[x,y]) (L:=[[x],[y]]) (R:=[]) (by simp) rfl (by simp) rfl;obtain⟨d,e⟩:=(o.perm perm_append_comm).out;refine s [(x,P1),(y,P2)] _ [] _ _ Q (d.aP 0 rfl) e (λp a=>?_) (by simp) (λp a=>?_) j λh' hle=>f h' (a9.le_trans d.le hle)
 ·simp only[mem_cons,not_mem_nil,or_false]at a
  rcases a with rfl|rfl
  ·exact k1
  ·exact k2
 ·simp only[mem_cons,not_mem_nil,or_false]at a
  rcases a with rfl|rfl
  ·exact l1
  ·exact l2
theorem MT{P1 P2:List (Row×(a7×a7))}{L:List Row}(e1:P1.map (·.1)=L)(g:P2.map (·.1)=L)(d:∀r∈L,aQ.ok r)(h:L.length <= 100000)(x y:a7):Fits im (oc aQ nQ 15 [(x,P1),(y,P2)]):=by
 have one:∀(x:a7)(P:List (Row×(a7×a7))),P.map (·.1)=L->bA.cap (jf aQ nQ 15 x P) im.mh /\ bA.mN (jf aQ nQ 15 x P) 1000000 /\ bA.sup (jf aQ nQ 15 x P) im.full:=by
  intro x P e;have f:P.length <= 100000:=by have:=congrArg List.length e;rw[length_map]at this;omega
  refine⟨?_,?_,?_⟩
  ·refine bA.u9 (bA.rG (by simp[im];omega)) (bA.wy λp b=>?_)
   obtain⟨k1,k2⟩:=d p.1 (by rw[<-e];exact mem_map.2 ⟨p,b,rfl⟩);unfold ep at k1 k2;exact bA.u9 (bA.rG (by simp[im];omega)) (bA.rG (by simp[im];omega))
  ·exact bA.Bg (bA.u7 (bA.rF _ _) (bA.wx (c:=2) λp b=>bA.u7 (bA.rF _ _) (bA.rF _ _))) (by omega)
  ·exact bA.u3 (bA.rD rfl) (bA.wq λp b=>bA.u3 (bA.rD rfl) (bA.rD rfl))
 have all:∀q∈[(x,P1),(y,P2)],bA.cap (jf aQ nQ 15 q.1 q.2) im.mh /\ bA.mN (jf aQ nQ 15 q.1 q.2) 1000000 /\ bA.sup (jf aQ nQ 15 q.1 q.2) im.full:=by
  intro q a;simp only[mem_cons,not_mem_nil,or_false]at a;rcases a with rfl|rfl
  ·exact one x P1 e1
  ·exact one y P2 g
 exact bA.D2 (n:=2*1000000) (bA.wy λq a=>(all q a).1) (bA.wx λq a=>(all q a).2.1) (by omega) (bA.wq λq a=>(all q a).2.2)
theorem MP{t:cW}{a c:a7×a7}(h1:t.bJ.length <= 100000)(e:t.Uses.length <= 100000)(x y:a7):Fits im (oc mC nG 13 [(x,[(t,a)]),(y,[(t,c)])]):=by
 have one:∀(x:a7)(a:a7×a7),bA.cap (jf mC nG 13 x [(t,a)]) im.mh /\ bA.mN (jf mC nG 13 x [(t,a)]) 1000000 /\ bA.sup (jf mC nG 13 x [(t,a)]) im.full:=by
  intro x a;refine⟨?_,?_,?_⟩
  ·refine bA.u9 (bA.rG (by simp[im])) (bA.wy λp d=>?_)
   rw[mem_singleton.1 d];exact bA.u9 (bA.rG (by simp[im];omega)) (bA.rG (by simp[im];omega))
  ·exact bA.Bg (bA.u7 (bA.rF _ _) (bA.wx (c:=2) λp d=>bA.u7 (bA.rF _ _) (bA.rF _ _))) (by simp)
  ·exact bA.u3 (bA.rD rfl) (bA.wq λp d=>bA.u3 (bA.rD rfl) (bA.rD rfl))
 have all:∀q∈[(x,[(t,a)]),(y,[(t,c)])],bA.cap (jf mC nG 13 q.1 q.2) im.mh /\ bA.mN (jf mC nG 13 q.1 q.2) 1000000 /\ bA.sup (jf mC nG 13 q.1 q.2) im.full:=by
  intro q b;simp only[mem_cons,not_mem_nil,or_false]at b;rcases b with rfl|rfl
  ·exact one x a
  ·exact one y c
 exact bA.D2 (n:=2*1000000) (bA.wy λq b=>(all q b).1) (bA.wx λq b=>(all q b).2.1) (by omega) (bA.wq λq b=>(all q b).2.2)
theorem Lv(s r:Int)(L:List Row):(gS s r L).1.bJ.length <= 65535 /\ (gS s r L).1.Uses.length <= 65535:=by
 unfold gS;split
 ·simp[pM]
 ·unfold vE
  split
  ·exact Fq _
  ·simp[pM]
def mn.Spec(C:aC)(N:zN):Prop:=∀(a b c:Int)(t:cW)(u v w:a7)(L:List Row)(h:a9)(Q:zQ),kP h t u v->Dl aQ h w L->L.length<4000000000000->Q (.bool true) h->C (N 458) [.int .i64 a,.int .i64 b,.int .i64 c,.agg (t.cs u v),w] h Q
theorem mn.spec(i:mn.aD C N)(s0:kk.Spec C N)(s1:jx.Spec C N)(s2:qF.Spec C N)(s3:jk.Bq C N)(s4:gM.Spec C N)(s5:gF.Spec C N)(s6:nh.Spec C N)(s7:qH.Spec C N)(s8:jN.Spec C N)
  (s9:qD.Spec C N) (s10:iW.Spec C N) (s11:ij.Spec C N) (s12:ew.Spec C N) (s13:kW.Spec C N) (s14:ov.Spec C N) (s15:oA.Spec C N) (s16:nw.jJ C N) (s17:rO aQ nQ 15 im C (N 307)) (s18:rO mC nG 13 im C (N 43)) (s19:jm C 1 (N 35)):mn.Spec C N:=by
 intro f g q t u v w L h Q W hw hl hq;have cu:u.aI=true:=W.iU.elim λ_ r=>r.aI;have cv:v.aI=true:=W.sK.elim λ_ r=>r.aI;have lu:V.aE u=some (.int .i64 (t.bJ.length:Int)):=W.iU.elim λ_ r=>by have:=r.aE;rwa [length_map]at this
 have lv:V.aE v=some (.int .i64 (t.Uses.length:Int)):=W.sK.elim λ_ r=>by have:=r.aE;rwa [length_map]at this
 apply i;simp -dsimp[cu,cv];refine s1 w L h _ hw hl λb1 hb1=>?_;cases b1 with
 | true=>simp -dsimp;exact s0 _ _ (aR hq)
 | false=>
 have hR:=hb1 rfl;by_cases g1:t.bJ.length <= 400
 rotate_left
 ·have F:(400:Int)<t.bJ.length:=by omega
  have m:400<t.bJ.length:=by omega
  simp -dsimp[lu,lv,F,m,cu,cv];exact s0 _ _ (aR hq)
 have F:¬ (400:Int)<t.bJ.length:=by omega
 have m:¬ 400<t.bJ.length:=by omega
 by_cases g2:t.Uses.length <= 3000
 rotate_left
 ·have J:(3000:Int)<t.Uses.length:=by omega
  have s:3000<t.Uses.length:=by omega
  simp -dsimp[lu,lv,F,m,J,s,cu,cv];exact s0 _ _ (aR hq)
 have J:¬ (3000:Int)<t.Uses.length:=by omega
 have s:¬ 3000<t.Uses.length:=by omega
 by_cases g3:t.Code.length <= 1000
 rotate_left
 ·have Y:(1000:Int)<t.Code.length:=by omega
  have E:1000<t.Code.length:=by omega
  simp -dsimp[lu,lv,F,m,J,s,Y,E,cu,cv];exact s0 _ _ (aR hq)
 have Y:¬ (1000:Int)<t.Code.length:=by omega
 have E:¬ 1000<t.Code.length:=by omega
 simp -dsimp[lu,lv,F,m,J,s,Y,E,cu,cv];have hn:=hR.n;have hv:=hR.v;refine s2 t u v h _ W (by omega) (by omega) λu1 v1 h1 o1=>?_;have k1:wm h1 t u1 v1:=⟨o1.aP 0 rfl,o1.aP 1 rfl⟩;have H:=k1.iU.aI;have G:=k1.sK.aI;refine s3 w L h1 _ (hw.mono o1.le) (by omega) λx1 P PM h2 eP eM o2 r1=>?_;simp -dsimp[H,G];refine s4 f g t u1 v1 h2 _ (k1.mono o2.le).at_ (by omega) (by omega) λa A h3 eA o3=>?_;simp -dsimp[H,G];refine s4 f g t u1 v1 h3 _ (k1.mono (a9.le_trans o2.le o3.le)).at_ (by omega) (by omega) λc B h4 eB o4=>?_;have o34:=o3.join o4;simp -dsimp[H,G];refine s5 f g x1 L h4 _ (r1.mono o34.le).dl (by omega) (by omega) λax Z h5 o5=>?_;have ca1:ax.aI=true:=(o5.aP 0 rfl).aI;have ca2:Z.aI=true:=(o5.aP 1 rfl).aI;have o35:=o34.join o5;simp -dsimp[ca1,ca2];refine s5 f g x1 L h5 _ (r1.mono o35.le).dl (by omega) (by omega) λbx bY h6 o6=>?_;have cb1:bx.aI=true:=(o6.aP 0 rfl).aI;have cb2:bY.aI=true:=(o6.aP 1 rfl).aI;have o36:=o35.join o6;simp -dsimp[cb1,cb2];refine s6 f g q h6 _ λM h7 o7 _=>?_;have o37:=o36.join o7;refine s6 f g q h7 _ λkb h8 o8 _=>?_;have o38:=o37.join o8;have h28:=o38.le;have X:=a9.le_trans o2.le h28;simp -dsimp[H,G];refine s7 t t u1 v1 u v h8 _ (k1.mono X) (W.mono (a9.le_trans o1.le X)) (by omega) (by omega) ?_;simp -dsimp;refine s8 x1 w L L h8 _ (r1.mono h28) (hw.mono (a9.le_trans o1.le X)) (by omega) ?_;simp -dsimp[H,G];have oo:=o1.join (o2.join o38);obtain⟨q1,q2⟩:=(oo.perm perm_append_comm).out;refine s9 t u1 v1 _ h8 _ q2 (by omega) (by omega) λh9 l9=>?_;obtain⟨q3,q4⟩:=((q1.grow l9).perm perm_append_comm).out;refine s10 x1 P PM _ h9 _ q4 (λp hp=>hw.ok _ (by rw[<-eP];exact mem_map.2 ⟨p,hp,rfl⟩)) (by have:=congrArg List.length eM;rw[length_map]at this;rw[this];simp[pU]) (by have:=congrArg List.length eP;rw[length_map]at this;omega) λh10 ze=>?_;have p10:=q3.grow ze;have O:=p10.le;simp -dsimp[cu,cv]
 refine s11 f g t u v h10 _ (W.mono O) (by omega) (by omega) λd D h11 eD U=>?_;simp -dsimp;refine s12 f g w L h11 _ (hw.mono (a9.le_trans O U.le)) (by omega) (by omega) λzx zy l z=>?_;have cz1:zx.aI=true:=(z.aP 0 rfl).aI;have cz2:zy.aI=true:=(z.aP 1 rfl).aI;have p12:=p10.grow (a9.le_trans U.le z.le);simp -dsimp[cz1,cz2];obtain⟨aa1,aa2,aa3,aa4⟩:=yc f g t;have za:∀r∈(fQ f g t).1,aQ.ok r:=λr hr=>by
  have:=aa4 r hr;show r.Key.length <= ep /\ r.Value.length <= ep;unfold ep;omega
 have se:∀(P:List (Row×(a7×a7))),P.map (·.1)=(fQ f g t).1->∀p∈P,aQ.ok p.1:=λP e p hp=>za _ (by rw[<-e];exact mem_map.2 ⟨p,hp,rfl⟩);have lenA:∀(P:List (Row×(a7×a7))),P.map (·.1)=(fQ f g t).1->P.length <= 1000:=λP e=>by have:=congrArg List.length e;rw[length_map]at this;omega
 have k:aG h l ((.sl 2 a (A.map aQ.cs) []::aQ.os false A)++((.sl 2 c (B.map aQ.cs) []::aQ.os false B)++(uJ (gS f g L).1 ax Z++(uJ (gS f g L).1 bx bY++[gw false M (dY f g q),gw false kb (dY f g q)])))):=by
  have:=p12;simp only[append_assoc,cons_append,nil_append]at this ⊢;exact this
 have dA:Dl aQ l a (fQ f g t).1:=by rw[<-eA];exact yM (K:=aQ) (b:=false) (R:=[]) (se A eA) k.is (mem_append_left _ (mem_cons_self ..)) (λo ho=>mem_append_left _ (mem_cons_of_mem _ ho))
 have dD:Dl aQ l d (fQ f g t).1:=by rw[<-eD];exact(Df.dl U (se D eD)).mono z.le
 refine s13 a d _ _ l _ dA dD (by omega) ?_;simp -dsimp;obtain⟨t1,t2⟩:(gS f g L).1.bJ.length <= 65535 /\ (gS f g L).1.Uses.length <= 65535:=Lv f g L;have ca:=dA.aI;obtain⟨m1,m2⟩:=(k.perm perm_append_comm).out;have aX:kP l (gS f g L).1 ax Z:=⟨⟨[],k.is (.sl 6 ax ((gS f g L).1.bJ.map bZ.cs) []) (by simp)⟩,⟨[],k.is (.sl 3 Z ((gS f g L).1.Uses.map fA.cs) []) (by simp)⟩⟩;have aZ:kP l (gS f g L).1 zx zy:=⟨⟨[],z.aP 0 rfl⟩,⟨[],z.aP 1 rfl⟩⟩;refine s14 _ _ _ _ _ _ l _ aX aZ (by omega) (by omega) ?_;simp -dsimp;refine s15 f g q l _ λkc I T _=>?_;have hkl:(dY f g q).length <= 12:=by
  cases hb:jc f g q with
  | true=>simp[dY,hb]
  | false=>rw[yj hb];exact Nat.le_refl _
 have kf:(dY f g q).length <= ep:=by unfold ep;omega
 have bK:Bs I M (dY f g q):=(Bh (b:=false) kf (k.is _ (by simp))).mono T.le;have bC:Bs I kc (dY f g q):=Bh (b:=false) kf (T.is _ (by simp));simp -dsimp;refine s16 M kc _ _ I _ bK bC ?_;have p13:=k.grow T.le;have cc:c.aI=true:=(p13.is (.sl 2 c (B.map aQ.cs) []) (by simp)).aI;simp -dsimp[ca,cc,bG];intro i1 f1;simp -dsimp;have p13':aG h I (pX aQ [(a,A),(c,B)]++(uJ (gS f g L).1 ax Z++(uJ (gS f g L).1 bx bY++[gw false M (dY f g q),gw false kb (dY f g q)]))):=by
  simpa[pX,show aQ.n=2 from rfl]using p13
 obtain⟨m1,m2⟩:=(p13'.perm perm_append_comm).out;refine Mu s17 m2 (se A eA) (se B eB) (by have:=lenA A eA;omega) (by have:=lenA B eB;omega) (MT eA eB za (by omega) _ _) (λh14 zd=>?_) f1;have p14:=m1.grow zd;simp -dsimp[ca1,ca2,bG];intro i2 f2;simp -dsimp[cb1,cb2,bG];intro i3 f3;simp -dsimp[bG];intro i4 f4;simp -dsimp;have p14':aG h h14 ((uJ (gS f g L).1 ax Z++uJ (gS f g L).1 bx bY)++[gw false M (dY f g q),gw false kb (dY f g q)]):=by
  rw[append_assoc];exact p14
 obtain⟨m3,m4⟩:=(p14'.perm perm_append_comm).out;refine FO (K:=mC) (t:=(gS f g L).1) (u:=(gS f g L).1) (a:=(ax,Z)) (c:=(bx,bY)) rfl s18 m4 trivial trivial (λx y=>MP (by omega) (by omega) x y) f2 f3 f4 λh15 gY=>?_;have S:=m3.grow gY;have ck1:M.aI=true:=(S.aP 0 rfl).aI;have ck2:kb.aI=true:=(S.aP 1 rfl).aI;simp -dsimp[ck1,ck2,bG];intro i5 f5;simp -dsimp;have o7:=S.PE (x:=M) (y:=kb) f5;obtain⟨q5,q6⟩:=(o7.perm perm_append_comm).out;refine s19 ⟨.sl i5 0 0 2 1 2,2,wJ _ M kb,wJ _ ((dY f g q).map bc) ((dY f g q).map bc),wJ _ [] [],[]⟩ _ _ _ ⟨q5.aP 0 rfl,by simp,λj hj=>by simp only[wJ];(repeat' split)<;>simp only[length_map]<;>omega⟩ (by simp only[LL.gy];rw[N9];exact q6) λh16 wP=>?_;simp -dsimp;refine s0 _ _ ?_;simp -dsimp;exact ln (a9.le_trans q5.le wP) hq
def tQ:en:=⟨[65],2000,[],[]⟩
def GR:List UInt8:=[65,66,67,68,69,70,71,72,73,74,75]
def tx(k:Nat):Part:=⟨GR++[UInt8.ofNat (48+k)],1073741824⟩
def mE:en:=⟨[65,66,67,68,69,70,71,72,73,74,75,57],0,(List.range 8).map tx,[[66,66,66,66,66,66,66,66,66,66,66,66],[67,67,67,67,67,67,67,67,67,67,67,67],[68,68,68,68,68,68,68,68,68,68,68,68],[69,69,69,69,69,69,69,69,69,69,69,69]]⟩
def rL:en:=⟨[66],1,[],[[90]]⟩
def DH:List UInt8:=[65,66,67,68,69,70,71,72,73,74,75,76]
def uw:List bZ:=[⟨1,[65],0,4001,1073741824,false⟩,⟨9223372036854775807,DH,4000,4001,1,true⟩]
def wb:List dC:=[⟨1,[65],1,0,0,1, -1,[]⟩,⟨256,[65],1073741824,4000,99,2,4000,DH⟩,⟨9223372036854775807,[66],2,0,0,3, -1,[]⟩]
def kr:dV:=⟨4000,4611686018427387904,4611686018427387904,[tQ,mE,rL],uw,wb⟩
theorem Oh:(allRows kr).length=11:=by decide +kernel
theorem Nw:∃r,(allRows kr)[4]?=some r /\ r.Key.length+r.Value.length=205:=by
 have:((allRows kr)[4]?.map λr=>r.Key.length+r.Value.length)=some 205:=by decide +kernel
 cases h:(allRows kr)[4]? with
 | none=>rw[h]at this;cases this
 | some r=>rw[h]at this;exact⟨r,rfl,Option.some.inj this⟩
theorem FZ:∀r∈allRows kr,r.Key.length <= 1000 /\ r.Value.length <= 1000:=by decide +kernel
def rT(i:Nat):fA:=⟨0,(i:Int)+1,1⟩
def gl(n:Nat):cW:=⟨0,0,0,[],0,[],(List.range n).map rT⟩
theorem OU:((fQ 3 4611686018427387904 (gl 2000)).1.length,(fQ 3 4611686018427387904 (gl 2000)).2)=(267,0):=by decide +kernel
theorem OG:((fQ 1 7 (gl 19)).1.length,(fQ 1 7 (gl 19)).2)=(3,0):=by decide +kernel
theorem Po:(gS 1 7 (fQ 1 7 (gl 19)).1).2=true:=by decide +kernel
def OQ(l:List Row)(k:List UInt8):List Row:=match l with
 | [a,b,c]=>[a,b,⟨k,c.Value⟩]
 | l=>l
theorem Pp:(gS 1 7 (OQ (fQ 1 7 (gl 19)).1 (dY 1 7 5))).2=false:=by decide +kernel
theorem Nl:((fQ 1 7 (gl 19)).1[1]?.map λr=>r.Value.length)=some 180:=by decide +kernel
theorem Hx:(dY 1 7 3).length=12 /\ (dY 1 7 5).length=12:=by decide +kernel
variable{C:aC}{N:zN}
section
variable{h:a9}{v:a7}{R:List (List a7)}{j:Nat}
end
section
variable{h0 h:a9}{vi vd vq vt:a7}{Q:zQ}{Y5:zL}
end
variable{C:aC}{N:zN}
theorem Qd{a:Nat}:V.toInt .u8 (.int .i64 (a:Int))=some (.int .u8 (((UInt8.ofNat a).toNat:Nat):Int)):=by
 rw[V.toInt_int,Au]
section
variable{h0 h:a9}{vi vq vt:a7}{Q:zQ}{Y2 Y3:zL}
end
end Go.Ab
namespace Go.Ab
open List
variable{C:aC}{N:zN}
theorem aG.re{h0 h:a9}{l l':List Ob}(a:aG h0 h l)(f:List Nat)(p:f.Nodup)(k:l'.map some=f.map λi=>l[i]?):aG h0 h l':=by
 have hlen:l'.length=f.length:=by have:=congrArg List.length k;simpa using this
 have key:∀(i:Nat)(hi:i<l'.length),l[f[i]'(by omega)]?=some l'[i]:=λi hi=>by
  have h1:=congrArg (λm=>m[i]?) k;simp only[getElem?_map,getElem?_eq_getElem hi,getElem?_eq_getElem (show i<f.length by omega),Option.map_some]at h1;exact(Option.some.inj h1).symm
 have mem:∀o∈l',o∈l:=λo hm=>by
  obtain⟨i,hi,rfl⟩:=mem_iff_getElem.1 hm;exact mem_of_getElem? (key i hi)
 refine⟨a.le,λo hm=>a.is o (mem o hm),λo hm=>a.own o (mem o hm),pairwise_iff_getElem.2 λi j hi q c=>?_⟩;have ki:=key i hi;have n:=key j q
 have b:f[i]'(by omega)≠f[j]'(by omega):=λe=>by
  have:=(nodup_iff_pairwise_ne.1 p);exact(pairwise_iff_getElem.1 this i j (by omega) (by omega) c) e
 obtain⟨li,t⟩:=List.getElem?_eq_some_iff.1 ki;obtain⟨d,s⟩:=List.getElem?_eq_some_iff.1 n;have g:=pairwise_iff_getElem.1 a.apart;rw[<-t,<-s];rcases Nat.lt_or_gt_of_ne b with h|h
 ·exact g _ _ li d h
 ·exact λid r hb=>g _ _ d li h id hb r
def fD.Spec(C:aC)(N:zN):Prop:=∀(h:a9)(Q:zQ),(∀x P y z h',P.map (·.1)=kr.cK->aG h h' (fU kr x P y z)->Q (.agg (fp kr x y z)) h')->C (N 460) [] h Q
theorem fD.spec(i:fD.aD C N):fD.Spec C N:=by
 intro h Q D;apply i;simp -dsimp[bG,-fD.l3];intro i5 G;have z:=(aG.start h).gU (id:=i5) (n:=4) (cp:=4) (es:=1) (cs:=[.str [66,66,66,66,66,66,66,66,66,66,66,66],.str [67,67,67,67,67,67,67,67,67,67,67,67],.str [68,68,68,68,68,68,68,68,68,68,68,68],.str [69,69,69,69,69,69,69,69,69,69,69,69]]) (L:=mE.dL.map tc) (R:=[]) G (by simp[mE,tc]) rfl (by simp[mE]) rfl;generalize bQ h i5 (cG _)=h1 at *;simp -dsimp[-fD.l3];refine aB.intro (λn vs e=>∃(k:Nat)(X:a7),k+n=8 /\ vs=[.int .i64 (k:Int),.agg [.str mE.Code,.int .i64 0,X,.sl i5 0 0 4 1 4]] /\ aG h e ([]++[.sl 1 (.sl i5 0 0 4 1 4) (mE.dL.map tc) []]++[.sl 2 X (((List.range k).map tx).map Part.cs) []])) 8 ?_ ⟨0,.aA,by omega,rfl,z.aA 2⟩;rintro Y n vs e ⟨k,X,hk,rfl,o⟩ F;have w:X.aI=true:=(o.aP 1 rfl).aI;simp -dsimp only[fD.l3,fD.k2,V.mw,B.aK];refine B.bF (λf=>?_) (λf=>?_)
 ·have b:k<8:=by have:=of_decide_eq_true f;omega
  have f1:V.aF 2 (.agg [.str mE.Code,.int .i64 0,X,.sl i5 0 0 4 1 4])=some X:=rfl;have e1:V.bin .add (.int .i64 48) (.int .i64 (k:Int))=some (.int .i64 ((48+k:Nat):Int)):=PX (a:=48) (by omega);have E:bN [(0,none,a7.int .u8 (((UInt8.ofNat (48+k)).toNat:Nat):Int))] (bG 1 [a7.int .u8 0])=some [a7.int .u8 (((UInt8.ofNat (48+k)).toNat:Nat):Int)]:=rfl;simp -dsimp only[B.eJ,f1,e1,Qd,E,B.aK];refine Qh (n:=1) (es:=1) (([UInt8.ofNat (48+k)]:List UInt8).map bc) rfl (by simp) rfl λi16 v o2=>?_;rw[hF (o2.aP 0 rfl)];have I:V.bin .add (.str [65,66,67,68,69,70,71,72,73,74,75]) (.str [UInt8.ofNat (48+k)])=some (.str (tx k).Item):=rfl;have e3:A.cD [(0,none,.str (tx k).Item),(1,none,(.int .i64 1073741824))] [.str [],.int .i64 0]=some (.agg (tx k).cs):=rfl;have e4:bN [(0,some 2,.agg (tx k).cs)] (bG 1 [.str [],.int .i64 0])=some (tx k).cs:=rfl;simp -dsimp only[I,e3,B.aK];rw[e4];refine(o.grow o2.le).push 1 rfl (cs:=(tx k).cs) rfl (by omega) (by simp;omega) (by simp[maxLen];omega) λd u c _=>?_;have r:d.aI=true:=(c.aP 1 rfl).aI;have H:V.cL 2 d (.agg [.str mE.Code,.int .i64 0,X,.sl i5 0 0 4 1 4])=some (.agg [.str mE.Code,.int .i64 0,d,.sl i5 0 0 4 1 4]):=by simp -dsimp[r]
  simp -dsimp only[B.eJ,H,eG (show k<4611686018427387904 by omega),B.aK];refine F (n-1) _ _ (by omega) ⟨k+1,d,by omega,rfl,?_⟩;rw[range_succ,map_append,map_append];exact c
 ·have b:k=8:=by have:=of_decide_eq_false f;omega
  subst b;simp -dsimp[w,bG];intro i25 m;have o2:=o.gU (id:=i25) (n:=1) (cp:=1) (es:=1) (cs:=[.str [90]]) (L:=rL.dL.map tc) (R:=[]) m (by simp[rL,tc]) rfl (by simp[rL]) rfl;generalize bQ e i25 (cG _)=v at *;simp -dsimp[w,bG];intro i27 l;have c:=o2.gU (id:=i27) (n:=3) (cp:=3) (es:=4) (cs:=[.str [65],.int .i64 2000,.aA,.aA,.str mE.Code,.int .i64 0,X,.sl i5 0 0 4 1 4,.str [66],.int .i64 1,.aA,.sl i25 0 0 1 1 1]) (L:=[(tQ,(a7.aA,a7.aA)),(mE,(X,a7.sl i5 0 0 4 1 4)),(rL,(a7.aA,a7.sl i25 0 0 1 1 1))].map bR.cs) (R:=[]) l (λp t=>by rw[append_nil]at t;obtain⟨q,_,rfl⟩:=mem_map.1 t;exact bR.len _ _) rfl (by simp) rfl;generalize bQ v i27 (cG _)=u at *;simp -dsimp[bG];intro i33 j;have s:=c.gU (id:=i33) (n:=2) (cp:=2) (es:=6) (cs:=uw.flatMap bZ.cs) (L:=uw.map bZ.cs) (R:=[]) j (by simp) rfl (by simp[uw]) rfl;simp only[uw,flatMap_cons,flatMap_nil,bZ.cs,DH,cons_append,nil_append]at s;generalize bQ u i33 (cG _)=J at *;simp -dsimp[bG];intro i38 g;have y:=s.gU (id:=i38) (n:=3) (cp:=3) (es:=8) (cs:=wb.flatMap dC.cs) (L:=wb.map dC.cs) (R:=[]) g (by simp) rfl (by simp[wb]) rfl;simp -dsimp;have x:=((((y.aA 2).aA 1).aA 2));refine aR (D (.sl i27 0 0 3 4 3) [(tQ,(a7.aA,a7.aA)),(mE,(X,a7.sl i5 0 0 4 1 4)),(rL,(a7.aA,a7.sl i25 0 0 1 1 1))] (.sl i33 0 0 2 6 2) (.sl i38 0 0 3 8 3) _ rfl (x.re [3,4,5,6,7,1,0,8,2] (by decide) rfl))
end Go.Ab
namespace Go.Ab
open List
variable{C:aC}{N:zN}
structure sS(s:dV):Prop where
 n1:s.cK.length <= 100000
 n2:s.bJ.length <= 100000
 n3:s.cE.length <= 100000
 inl:∀t∈s.cK,t.tN
theorem sS.w{h:a9}{s:dV}{X Y Z:a7}{P:List (en×(a7×a7))}{R1 R2 R3:List (List a7)}(m:sS s)(e:P.map (·.1)=s.cK)(h1:aJ h 4 X (P.map bR.cs) R1)(c:∀p∈P,sF.at_ h p.1 p.2)(b:aJ h 6 Y (s.bJ.map bZ.cs) R2)(a:aJ h 8 Z (s.cE.map dC.cs) R3):vL h s X Y Z:=by
 obtain⟨n1,n2,n3,inl⟩:=m;exact⟨⟨P,R1,e,h1,c⟩,⟨R2,b⟩,⟨R3,a⟩,by omega,by omega,by omega,inl⟩
theorem uH{h:a9}{l:List Ob}{P:List (en×(a7×a7))}(c:rq h l)(a:∀o∈bR.os false P,o∈l):∀p∈P,sF.at_ h p.1 p.2:=λp b=>by
 have h1:(u4 false p.2.1 p.1.cO).at h:=c _ (a _ (mem_flatMap.2 ⟨p,b,by simp[bR]⟩))
 have d:(uz false p.2.2 p.1.dL).at h:=c _ (a _ (mem_flatMap.2 ⟨p,b,by simp[bR]⟩))
 exact⟨⟨_,h1⟩,⟨_,d⟩⟩
def lI.Spec(C:aC)(N:zN):Prop:=∀(s:dV)(x y z:a7)(n:Int)(h:a9)(Q:zQ),iD h s x y z->s.cK≠[]->s.bJ≠[]->s.cK.length <= 1000->s.bJ.length <= 1000->s.cE.length <= 1000->(∀t∈s.cK,t.tN)->(∀s' c b a h',h.le h'->vL h' s' c b a->Q (.agg (fp s' c b a)) h')->C (N 461) [.agg (fp s x y z),.int .i64 n] h Q
theorem lI.spec(i:lI.aD C N)(s1:qy.Spec C N):lI.Spec C N:=by
 intro s x y z n h Q ha hI hL l1 l2 l3 M hq;have cx:=ha.items.aI;have cy:y.aI=true:=ha.iU.elim λ_ r=>r.aI;have cz:z.aI=true:=ha.lines.elim λ_ r=>r.aI;apply i;simp -dsimp[cx,cy,cz,-lI.k1];refine s1 s x y z h _ ha λX P Y Z h1 eP D=>?_;have cX:X.aI=true:=(D.aP 0 rfl).aI;have cY:Y.aI=true:=(D.aP 1 rfl).aI;have cZ:Z.aI=true:=(D.aP 2 rfl).aI;simp -dsimp[cX,cY,cZ,-lI.k1];cases P with
 | nil=>exact absurd eP.symm hI
 | cons p0 P=>
 obtain⟨d,k,g⟩:=p0;cases G:s.bJ with
 | nil=>exact absurd G hL
 | cons w0 Ls=>
 have l2':Ls.length+1 <= 1000:=by rw[G]at l2;exact l2
 have lP:P.length+1 <= 1000:=by
  have:=congrArg List.length eP;simp only[map_cons,length_cons,length_map]at this;omega
 have eI:s.cK=d::P.map (·.1):=eP.symm;have e:d.tN:=M d (by rw[eI];exact mem_cons_self ..);have hinP:∀t∈P.map (·.1),t.tN:=λt H=>M t (by rw[eI];exact mem_cons_of_mem _ H);have hO:=G;have fin:∀(h':a9)(a b c:Int)(u v w:a7)(I:List en)(O:List bZ)(L:List dC),h.le h'->vL h' ⟨a,b,c,I,O,L⟩ u v w->B.pv (V.bM 0 6 (.agg [.int .i64 a,.int .i64 b,.int .i64 c,u,v,w])) λv130=>B.pv (V.bU 0 6 v130 (.agg [.int .i64 0,.int .i64 0,.int .i64 0,.aA,.aA,.aA])) λc4=>B.pv (oneOf (cJ (V.bM 0 6 c4) (some []))) λv=>dn Q v h':=by
  intro h' a b c u v w I O L hle hw;have c1:=hw.items.aI;have c2:v.aI=true:=hw.iU.elim λ_ r=>r.aI;have c3:w.aI=true:=hw.lines.elim λ_ r=>r.aI;simp -dsimp[c1,c2,c3];exact aR (hq ⟨a,b,c,I,O,L⟩ u v w h' hle hw)
 have eL:∀j:Int,V.bin .eql (.int .i64 n) (.int .i64 j)=some (.bool (decide (n=j))):=λj=>by simp -dsimp
 have dP:∀{h'},h1.le h'->∀p∈P,sF.at_ h' p.1 p.2:=λhle p l=>sF.mono hle (uH (P:=P) D.is (λo q=>by
  refine mem_cons_of_mem _ (mem_cons_of_mem _ (mem_cons_of_mem _ ?_));exact mem_append_right [u4 false k d.cO,uz false g d.dL] q) p l)
 have g1:V.aF 3 (.agg (fp s X Y Z))=some X:=rfl;have g2:V.aF 4 (.agg (fp s X Y Z))=some Y:=rfl;have g3:V.aF 5 (.agg (fp s X Y Z))=some Z:=rfl;have f0:∀v:Int,V.cL 0 (.int .i64 v) (.agg (fp s X Y Z))=some (.agg [.int .i64 v,.int .i64 s.jo,.int .i64 s.jl,X,Y,Z]):=λv=>by simp -dsimp
 have f1:∀v:Int,V.cL 1 (.int .i64 v) (.agg (fp s X Y Z))=some (.agg [.int .i64 s.ju,.int .i64 v,.int .i64 s.jl,X,Y,Z]):=λv=>by simp -dsimp
 have f2:∀v:Int,V.cL 2 (.int .i64 v) (.agg (fp s X Y Z))=some (.agg [.int .i64 s.ju,.int .i64 s.jo,.int .i64 v,X,Y,Z]):=λv=>by simp -dsimp
 have f3:∀v:a7,v.aI=true->V.cL 3 v (.agg (fp s X Y Z))=some (.agg [.int .i64 s.ju,.int .i64 s.jo,.int .i64 s.jl,v,Y,Z]):=λv hv=>by simp -dsimp[hv]
 have f4:∀v:a7,v.aI=true->V.cL 4 v (.agg (fp s X Y Z))=some (.agg [.int .i64 s.ju,.int .i64 s.jo,.int .i64 s.jl,X,v,Z]):=λv hv=>by simp -dsimp[hv]
 have f5:∀v:a7,v.aI=true->V.cL 5 v (.agg (fp s X Y Z))=some (.agg [.int .i64 s.ju,.int .i64 s.jo,.int .i64 s.jl,X,Y,v]):=λv hv=>by simp -dsimp[hv]
 have hX:aJ h1 4 X (((d,(k,g))::P).map bR.cs) []:=D.aP 0 rfl;have i1:V.aM 4 X (.int .i64 0)=some (aV 4 X 0 0):=hX.dF (i:=0) (by simp);have i2:∀f,V.fieldAddr f (aV 4 X 0 0)=some (aV 4 X 0 f):=λf=>by have:=hX.jF (i:=0) (by simp) 0 f;rwa [Nat.zero_add]at this
 have i3:A.bX h1 (aV 4 X 0 0)=some (.str d.Code):=hX.bX (f:=0) (c:=bR.cs (d,(k,g))) rfl (by decide);have i4:A.fF h1 (aV 4 X 0 0) 4=some (.agg (bR.cs (d,(k,g)))):=hX.elem rfl;have hY:aJ h1 6 Y (s.bJ.map bZ.cs) []:=D.aP 1 rfl;have hZ:aJ h1 8 Z (s.cE.map dC.cs) []:=D.aP 2 rfl;rw[G]at hY;have j1:V.aM 6 Y (.int .i64 0)=some (aV 6 Y 0 0):=hY.dF (i:=0) (by simp);have j2:V.fieldAddr 4 (aV 6 Y 0 0)=some (aV 6 Y 0 4):=hY.jF (i:=0) (by simp) 0 4;have j4:A.fF h1 (aV 6 Y 0 0) 6=some (.agg w0.cs):=hY.elem rfl;have d0:∀{h'},h1.le h'->(∃R,aJ h' 2 k (d.cO.map Part.cs) R) /\ ∃R,aJ h' 1 g (d.dL.map tc) R:=λhle=>
  sF.mono hle (uH (P:=[(d,(k,g))]) D.is (λo q=>by
   refine mem_cons_of_mem _ (mem_cons_of_mem _ (mem_cons_of_mem _ ?_));exact mem_append_left (bR.os false P) (by simpa[DK.os]using q)) (d,(k,g)) (by simp))
 have mid:∀{a b c:Int}{I:List en}{O:List bZ}{L:List dC},I.length <= 100000->O.length <= 100000->L.length <= 100000->(∀t∈I,t.tN)->sS ⟨a,b,c,I,O,L⟩:=λh1 S W h4=>⟨h1,S,W,h4⟩;have allI:∀{t0:en},t0.tN->∀t∈t0::P.map (·.1),t.tN:=λh0 t H=>by
  rcases mem_cons.1 H with rfl|H
  ·exact h0
  ·exact hinP t H
 have num:∀a b c:Int,vL h1 ⟨a,b,c,s.cK,s.bJ,s.cE⟩ X Y Z:=λa b c=>
  sS.w (mid (by omega) (by omega) (by omega) M) eP hX (λp l=>by
   rcases mem_cons.1 l with rfl|l
   ·exact d0 (a9.le_refl _)
   ·exact dP (a9.le_refl _) p l) (by rw[G];exact hY) hZ
 have mT:∀o∈(Ob.sl 6 Y (s.bJ.map bZ.cs) []::Ob.sl 8 Z (s.cE.map dC.cs) []::bR.os false P),o∈(Ob.sl 6 Y (s.bJ.map bZ.cs) []::Ob.sl 8 Z (s.cE.map dC.cs) []::bR.os false ((d,(k,g))::P)):=λo q=>by
  rcases mem_cons.1 q with rfl|q
  ·exact mem_cons_self ..
  rcases mem_cons.1 q with rfl|q
  ·exact mem_cons_of_mem _ (mem_cons_self ..)
  exact mem_cons_of_mem _ (mem_cons_of_mem _ (mem_append_right [u4 false k d.cO,uz false g d.dL] q))
 have mS:∀o∈bR.os false [(d,(k,g))],o∈(Ob.sl 6 Y (s.bJ.map bZ.cs) []::Ob.sl 8 Z (s.cE.map dC.cs) []::bR.os false ((d,(k,g))::P)):=λo q=>by
  refine mem_cons_of_mem _ (mem_cons_of_mem _ ?_);exact mem_append_left (bR.os false P) (by simpa[DK.os]using q)
 generalize U:(Ob.sl 6 Y (s.bJ.map bZ.cs) []::Ob.sl 8 Z (s.cE.map dC.cs) []::bR.os false ((d,(k,g))::P))=T at mT mS;have D:aG h h1 (.sl 4 X (((d,(k,g))::P).map bR.cs) []::(T++[])):=by rw[append_nil,<-U];exact D
 have ji:∀{h':a9}{A:Ob}{B:List Ob},aG h h' (A::(T++B))->sF.at_ h' d (k,g):=λo=>
  uH (P:=[(d,(k,g))]) o.is (λo q=>mem_cons_of_mem _ (mem_append_left _ (mS o q))) (d,(k,g)) (by simp)
 have one:∀{h':a9}{B:List Ob}{t0:en}{u v:a7},aG h h' (.sl 4 X (((t0,(u,v))::P).map bR.cs) []::(T++B))->sF.at_ h' t0 (u,v)->t0.tN ->
   vL h' ⟨s.ju,s.jo,s.jl,t0::P.map (·.1),s.bJ,s.cE⟩ X Y Z:=λ{h' B t0 u v} o hd H=>
  sS.w (P:=(t0,(u,v))::P) (mid (by simp;omega) (by omega) (by omega) (allI H)) rfl (show aJ h' 4 X _ [] from o.is _ (mem_cons_self ..)) (λp l=>by
   rcases mem_cons.1 l with rfl|l
   ·exact hd
   ·exact uH (P:=P) o.is (λo q=>mem_cons_of_mem _ (mem_append_left _ (mT o (mem_cons_of_mem _ (mem_cons_of_mem _ q))))) p l)
   (show aJ h' 6 Y _ [] from o.is _ (mem_cons_of_mem _ (mem_append_left _ (mT _ (mem_cons_self ..))))) (show aJ h' 8 Z _ [] from o.is _ (mem_cons_of_mem _ (mem_append_left _ (mT _ (mem_cons_of_mem _ (mem_cons_self ..))))))
 have sY:∀{h':a9}{A:Ob}{B:List Ob},aG h h' (A::(T++B))->aJ h' 6 Y (s.bJ.map bZ.cs) []:=λo=>o.is _ (mem_cons_of_mem _ (mem_append_left _ (mT _ (mem_cons_self ..))));have sZ:∀{h':a9}{A:Ob}{B:List Ob},aG h h' (A::(T++B))->aJ h' 8 Z (s.cE.map dC.cs) []:=λo=>o.is _ (mem_cons_of_mem _ (mem_append_left _ (mT _ (mem_cons_of_mem _ (mem_cons_self ..)))));have allP:∀{h':a9}{A:Ob}{B:List Ob},aG h h' (A::(T++B))->∀p∈(d,(k,g))::P,sF.at_ h' p.1 p.2:=λo p l=>by
  rcases mem_cons.1 l with rfl|l
  ·exact ji o
  ·exact uH (P:=P) o.is (λo q=>mem_cons_of_mem _ (mem_append_left _ (mT o (mem_cons_of_mem _ (mem_cons_of_mem _ q))))) p l
 have two1:bN [(0,some 2,.agg [.str [66],.int .i64 1])] (bG 1 [.str [],.int .i64 0])=some (Part.cs ⟨[66],1⟩):=rfl;have two2:bN [(0,some 2,.agg [.str [66],.int .i64 1]),(2,some 2,.agg [.str [66],.int .i64 1])] (bG 2 [.str [],.int .i64 0])=some ([(⟨[66],1⟩:Part),⟨[66],1⟩].flatMap Part.cs):=rfl;have bldP:A.cD [(0,none,(.str [66])),(1,none,(.int .i64 1))] [.str [],.int .i64 0]=some (.agg [.str [66],.int .i64 1]):=rfl;have F:=D.le;simp -dsimp only[lI.k1,eL,B.aK];refine B.bF (λ_=>?_) (λ_=>?_)
 ·simp -dsimp only[B.eJ,f0,B.aK]
  exact fin _ _ _ _ _ _ _ _ _ _ F (num _ _ _)
 simp -dsimp only[eL,B.aK];refine B.bF (λ_=>?_) (λ_=>?_)
 ·simp -dsimp only[B.eJ,f0,B.aK]
  exact fin _ _ _ _ _ _ _ _ _ _ F (num _ _ _)
 simp -dsimp only[eL,B.aK];refine B.bF (λ_=>?_) (λ_=>?_)
 ·simp -dsimp only[B.eJ,f1,B.aK]
  exact fin _ _ _ _ _ _ _ _ _ _ F (num _ _ _)
 simp -dsimp only[eL,B.aK];refine B.bF (λ_=>?_) (λ_=>?_)
 ·simp -dsimp only[B.eJ,f2,B.aK]
  exact fin _ _ _ _ _ _ _ _ _ _ F (num _ _ _)
 simp -dsimp only[eL,B.aK];refine B.bF (λ_=>?_) (λ_=>?_)
 ·
  have J:bN [(0,some 4,.agg (bR.cs (d,(k,g))))] (bG 1 [.str [],.int .i64 0,.aA,.aA])=some (bR.cs (d,(k,g))):=vf bR d (k,g);simp -dsimp only[B.eJ,g1,i1,i4,B.iL,B.aK,J];refine D.push 0 rfl (cs:=bR.cs (d,(k,g))) rfl (by decide) (by simp;omega) (by simp[maxLen];omega) λX' S o2 _=>?_;have c':X'.aI=true:=(o2.aP 0 rfl).aI;simp -dsimp only[B.eJ,f3 X' c',B.aK];refine fin _ _ _ _ _ _ _ ((d::P.map (·.1))++[d]) s.bJ s.cE o2.le (sS.w (P:=((d,(k,g))::P)++[(d,(k,g))]) (mid (by simp;omega) (by omega) (by omega) λt H=>?_) (by simp) (R1:=[]) (by rw[map_append];exact o2.aP 0 rfl) (λp l=>?_) (sY o2) (sZ o2))
  ·rcases mem_append.1 H with H|H
   ·exact allI e t H
   ·rw[mem_singleton.1 H];exact e
  ·have:p∈(d,(k,g))::P:=by
    rcases mem_append.1 l with l|l
    ·exact l
    ·rw[mem_singleton.1 l];exact mem_cons_self ..
   exact allP o2 p this
 simp -dsimp only[eL,B.aK];refine B.bF (λ_=>?_) (λ_=>?_)
 ·
  simp -dsimp only[B.eJ,g1,i1,i2,B.aK];refine D.st 0 rfl (i:=0) (f:=1) (c:=bR.cs (d,(k,g))) rfl (by decide) rfl λS o2 _=>?_;exact fin _ _ _ _ _ _ _ _ _ _ o2.le (one (t0:={ d with jY:=2001 }) (u:=k) (v:=g) o2 (ji o2) e)
 simp -dsimp only[eL,B.aK];refine B.bF (λ_=>?_) (λ_=>?_)
 ·
  simp -dsimp only[B.eJ,g1,i1,i2,B.aK];refine D.st 0 rfl (i:=0) (f:=0) (c:=bR.cs (d,(k,g))) rfl (by decide) rfl λS o2 _=>?_;exact fin _ _ _ _ _ _ _ _ _ _ o2.le (one (t0:={ d with Code:=[97] }) (u:=k) (v:=g) o2 (ji o2) ⟨by simp,e.2⟩)
 simp -dsimp only[eL,B.aK];refine B.bF (λ_=>?_) (λ_=>?_)
 ·
  have J:bN [(0,none,.str d.Code)] (bG 1 [.str []])=some [.str d.Code]:=rfl;simp -dsimp only[B.eJ,g1,i1,i2,i3,B.fw,J,B.aK];intro id E;have o2:=D.gU (id:=id) (n:=1) (cp:=1) (es:=1) (cs:=[.str d.Code]) (L:=[d.Code].map tc) (R:=[]) E (by simp[tc]) rfl (by simp) rfl;simp -dsimp only[B.eJ,i1,i2,B.aK];refine o2.st 0 rfl (i:=0) (f:=3) (c:=bR.cs (d,(k,g))) rfl (by decide) rfl λW m _=>?_
  have m:aG h W (.sl 4 X ((({ d with dL:=[d.Code] },(k,.sl id 0 0 1 1 1))::P).map bR.cs) []::(T++[.sl 1 (.sl id 0 0 1 1 1) ([d.Code].map tc) []])):=by
   rw[append_nil]at m;exact m
  exact fin _ _ _ _ _ _ _ _ _ _ m.le (one m ⟨(ji m).1,[],m.is (.sl 1 (.sl id 0 0 1 1 1) ([d.Code].map tc) []) (by simp)⟩ ⟨e.1,e.2.1,λo q=>by rw[mem_singleton.1 q];exact e.1,e.2.2.2.1,by simp⟩)
 simp -dsimp only[eL,B.aK];refine B.bF (λ_=>?_) (λ_=>?_)
 ·
  simp -dsimp only[B.eJ,g1,i1,i2,bldP,two1,B.aK];intro id E;have o2:=D.gU (id:=id) (n:=1) (cp:=1) (es:=2) (cs:=Part.cs ⟨[66],1⟩) (L:=[(⟨[66],1⟩:Part)].map Part.cs) (R:=[]) E (by simp) rfl (by simp) rfl;simp -dsimp only[B.eJ,i1,i2,B.aK];refine o2.st 0 rfl (i:=0) (f:=2) (c:=bR.cs (d,(k,g))) rfl (by decide) rfl λW m _=>?_
  have m:aG h W (.sl 4 X ((({ d with cO:=[⟨[66],1⟩] },(.sl id 0 0 1 2 1,g))::P).map bR.cs) []::(T++[.sl 2 (.sl id 0 0 1 2 1) ([(⟨[66],1⟩:Part)].map Part.cs) []])):=by
   rw[append_nil]at m;exact m
  exact fin _ _ _ _ _ _ _ _ _ _ m.le (one m ⟨⟨[],m.is (.sl 2 (.sl id 0 0 1 2 1) ([(⟨[66],1⟩:Part)].map Part.cs) []) (by simp)⟩,(ji m).2⟩ ⟨e.1,λp l=>by rw[mem_singleton.1 l];simp,e.2.2.1,by simp,e.2.2.2.2⟩)
 simp -dsimp only[eL,B.aK];refine B.bF (λ_=>?_) (λ_=>?_)
 ·
  simp -dsimp only[B.eJ,g1,i1,i2,B.aK];refine D.st 0 rfl (i:=0) (f:=1) (c:=bR.cs (d,(k,g))) rfl (by decide) rfl λS o2 _=>?_;simp -dsimp only[B.eJ,g1,bldP,two2,B.aK];intro id E;have m:=o2.gU (id:=id) (n:=2) (cp:=2) (es:=2) (cs:=[(⟨[66],1⟩:Part),⟨[66],1⟩].flatMap Part.cs) (L:=[(⟨[66],1⟩:Part),⟨[66],1⟩].map Part.cs) (R:=[]) E (by simp) rfl (by simp) rfl;simp -dsimp only[B.eJ,i1,i2,B.aK];refine m.st 0 rfl (i:=0) (f:=2) (c:=bR.cs ({ d with jY:=0 },(k,g))) rfl (by decide) rfl λh4 K _=>?_
  have K:aG h h4 (.sl 4 X ((({ d with jY:=0,cO:=[⟨[66],1⟩,⟨[66],1⟩] },(.sl id 0 0 2 2 2,g))::P).map bR.cs) []::(T++[.sl 2 (.sl id 0 0 2 2 2) ([(⟨[66],1⟩:Part),⟨[66],1⟩].map Part.cs) []])):=by
   rw[append_nil]at K;exact K
  exact fin _ _ _ _ _ _ _ _ _ _ K.le (one K ⟨⟨[],K.is (.sl 2 (.sl id 0 0 2 2 2) ([(⟨[66],1⟩:Part),⟨[66],1⟩].map Part.cs) []) (by simp)⟩,(ji K).2⟩ ⟨e.1,λp l=>by simp at l;subst l;simp,e.2.2.1,by simp,e.2.2.2.2⟩)
 simp -dsimp only[eL,B.aK];refine B.bF (λ_=>?_) (λ_=>?_)
 ·
  have J:bN [(0,some 6,.agg w0.cs)] (bG 1 [.int .i64 0,.str [],.int .i64 0,.int .i64 0,.int .i64 0,.bool false])=some w0.cs:=by simp -dsimp[bG]
  simp -dsimp only[B.eJ,g2,j1,j4,B.iL,B.aK,J];rw[G]at U;have oL:aG h h1 ([.sl 4 X (((d,(k,g))::P).map bR.cs) []]++[.sl 6 Y ((w0::Ls).map bZ.cs) []]++(.sl 8 Z (s.cE.map dC.cs) []::bR.os false ((d,(k,g))::P))):=by
   rw[<-U,append_nil]at D;exact D
  refine oL.push 1 rfl (cs:=w0.cs) rfl (by omega) (by simp;omega) (by simp[maxLen];omega) λY' S o2 _=>?_;have c':Y'.aI=true:=(o2.aP 1 rfl).aI;simp -dsimp only[B.eJ,f4 Y' c',B.aK];exact fin _ _ _ _ _ _ _ (d::P.map (·.1)) ((w0::Ls)++[w0]) s.cE o2.le (sS.w (P:=(d,(k,g))::P) (mid (by simp;omega) (by simp;omega) (by omega) (allI e)) rfl (R1:=[]) (o2.aP 0 rfl) (λp l=>uH (P:=(d,(k,g))::P) o2.is (λo q=>mem_cons_of_mem _ (mem_cons_of_mem _ (mem_cons_of_mem _ q))) p l) (R2:=[]) (by rw[map_append];exact o2.aP 1 rfl) (o2.aP 2 rfl))
 simp -dsimp only[eL,B.aK];refine B.bF (λ_=>?_) (λ_=>?_)
 ·
  simp -dsimp only[B.eJ,g2,j1,j2,B.aK];rw[G]at U;have oL:aG h h1 ([.sl 4 X (((d,(k,g))::P).map bR.cs) []]++[.sl 6 Y ((w0::Ls).map bZ.cs) []]++(.sl 8 Z (s.cE.map dC.cs) []::bR.os false ((d,(k,g))::P))):=by
   rw[<-U,append_nil]at D;exact D
  refine oL.st 1 rfl (i:=0) (f:=4) (c:=w0.cs) rfl (by omega) rfl λS o2 _=>?_;exact fin _ _ _ _ _ _ _ (d::P.map (·.1)) ({ w0 with ek:=0 }::Ls) s.cE o2.le (sS.w (P:=(d,(k,g))::P) (mid (by simp;omega) (by simp;omega) (by omega) (allI e)) rfl (R1:=[]) (o2.aP 0 rfl) (λp l=>uH (P:=(d,(k,g))::P) o2.is (λo q=>mem_cons_of_mem _ (mem_cons_of_mem _ (mem_cons_of_mem _ q))) p l) (R2:=[]) (o2.aP 1 rfl) (o2.aP 2 rfl))
 simp -dsimp only[eL,B.aK];refine B.bF (λ_=>?_) (λ_=>?_)
 ·
  have hb:A.cD [(0,none,(.int .i64 9)),(1,none,(.str [65])),(2,none,(.int .i64 1)),(5,none,(.int .u8 1)),(6,none,(.int .i64 1))] [.int .i64 0,.str [],.int .i64 0,.int .i64 0,.int .i64 0,.int .u8 0,.int .i64 0,.str []]=some (.agg (dC.cs ⟨9,[65],1,0,0,1,1,[]⟩)):=rfl;have J:bN [(0,some 8,.agg (dC.cs ⟨9,[65],1,0,0,1,1,[]⟩))] (bG 1 [.int .i64 0,.str [],.int .i64 0,.int .i64 0,.int .i64 0,.int .u8 0,.int .i64 0,.str []])=some (dC.cs ⟨9,[65],1,0,0,1,1,[]⟩):=rfl;simp -dsimp only[hb,J,B.aK];intro id E;have o2:=D.gU (id:=id) (n:=1) (cp:=1) (es:=8) (cs:=dC.cs ⟨9,[65],1,0,0,1,1,[]⟩) (L:=[(⟨9,[65],1,0,0,1,1,[]⟩:dC)].map dC.cs) (R:=[]) E (by simp) rfl (by simp) rfl;have le2:=hU (cG (dC.cs ⟨9,[65],1,0,0,1,1,[]⟩)) E;simp -dsimp only[B.eJ,g3,B.aK];have oS:aG h1 _ [.sl 8 (.sl id 0 0 1 8 1) ([(⟨9,[65],1,0,0,1,1,[]⟩:dC)].map dC.cs) []]:=(aG.start h1).gU (id:=id) (n:=1) (cp:=1) (es:=8) (cs:=dC.cs ⟨9,[65],1,0,0,1,1,[]⟩) (L:=[(⟨9,[65],1,0,0,1,1,[]⟩:dC)].map dC.cs) (R:=[]) E (by simp) rfl (by simp) rfl;refine oS.bO 0 rfl (hZ.mono le2) (by omega) (by simp;omega) (by simp[maxLen];omega) λZ' W m _=>?_;have c':Z'.aI=true:=(m.aP 0 rfl).aI;simp -dsimp only[B.eJ,f5 Z' c',B.aK];have K:=D.grow m.le;exact fin _ _ _ _ _ _ _ s.cK s.bJ ([⟨9,[65],1,0,0,1,1,[]⟩]++s.cE) (a9.le_trans F m.le) (sS.w (P:=(d,(k,g))::P) (mid (by omega) (by omega) (by simp;omega) M) eP (R1:=[]) (K.aP 0 rfl) (allP K) (sY K) (R3:=[]) (by rw[map_append];exact m.aP 0 rfl))
 simp -dsimp only[eL,B.aK];refine B.bF (λ_=>?_) (λ_=>?_)
 ·
  have J:bN [(0,none,a7.str [66]),(1,none,.str [67]),(2,none,.str [68]),(3,none,.str [69]),(4,none,.str [70])] (bG 5 [a7.str []])=some [.str [66],.str [67],.str [68],.str [69],.str [70]]:=rfl;simp -dsimp only[B.eJ,g1,i1,i2,J,B.aK];intro id E;have o2:=D.gU (id:=id) (n:=5) (cp:=5) (es:=1) (cs:=[.str [66],.str [67],.str [68],.str [69],.str [70]]) (L:=[[66],[67],[68],[69],[70]].map tc) (R:=[]) E (by simp[tc]) rfl (by simp) rfl;simp -dsimp only[B.eJ,i1,i2,B.aK];refine o2.st 0 rfl (i:=0) (f:=3) (c:=bR.cs (d,(k,g))) rfl (by decide) rfl λW m _=>?_
  have m:aG h W (.sl 4 X ((({ d with dL:=[[66],[67],[68],[69],[70]] },(k,.sl id 0 0 5 1 5))::P).map bR.cs) []::(T++[.sl 1 (.sl id 0 0 5 1 5) (([[66],[67],[68],[69],[70]]:List (List UInt8)).map tc) []])):=by
   rw[append_nil]at m;exact m
  exact fin _ _ _ _ _ _ _ _ _ _ m.le (one m ⟨(ji m).1,[],m.is (.sl 1 (.sl id 0 0 5 1 5) (([[66],[67],[68],[69],[70]]:List (List UInt8)).map tc) []) (by simp)⟩ ⟨e.1,e.2.1,λo q=>by simp at q;rcases q with rfl|rfl|rfl|rfl|rfl<;>simp,e.2.2.2.1,by simp⟩)
 simp -dsimp only[eL,B.aK];refine B.bF (λ_=>?_) (λ_=>?_)
 ·simp -dsimp only[B.eJ,f1,B.aK]
  exact fin _ _ _ _ _ _ _ _ _ _ F (num _ _ _)
 simp -dsimp only[eL,B.aK];refine B.bF (λ_=>?_) (λ_=>?_)
 ·
  have hb:A.cD [(0,none,(.int .i64 9223372036854775807)),(1,none,(.str [65])),(2,some 2,.agg [.int .i64 0,.int .i64 1]),(4,none,(.int .i64 1))] [.int .i64 0,.str [],.int .i64 0,.int .i64 0,.int .i64 0,.bool false]=some (.agg (bZ.cs ⟨9223372036854775807,[65],0,1,1,false⟩)):=rfl;have hb0:A.cD [(0,none,(.int .i64 0)),(1,none,(.int .i64 1))] [.int .i64 0,.int .i64 0]=some (.agg [.int .i64 0,.int .i64 1]):=rfl;have J:bN [(0,some 6,.agg (bZ.cs ⟨9223372036854775807,[65],0,1,1,false⟩))] (bG 1 [.int .i64 0,.str [],.int .i64 0,.int .i64 0,.int .i64 0,.bool false])=some (bZ.cs ⟨9223372036854775807,[65],0,1,1,false⟩):=rfl;simp -dsimp only[B.eJ,g2,hb0,hb,B.aK,J];rw[G]at U;have oL:aG h h1 ([.sl 4 X (((d,(k,g))::P).map bR.cs) []]++[.sl 6 Y ((w0::Ls).map bZ.cs) []]++(.sl 8 Z (s.cE.map dC.cs) []::bR.os false ((d,(k,g))::P))):=by
   rw[<-U,append_nil]at D;exact D
  refine oL.push 1 rfl (cs:=bZ.cs ⟨9223372036854775807,[65],0,1,1,false⟩) rfl (by omega) (by simp;omega) (by simp[maxLen];omega) λY' S o2 _=>?_;have c':Y'.aI=true:=(o2.aP 1 rfl).aI;have f5':V.cL 5 .aA (.agg [.int .i64 s.ju,.int .i64 s.jo,.int .i64 s.jl,X,Y',Z])=some (.agg [.int .i64 s.ju,.int .i64 s.jo,.int .i64 s.jl,X,Y',.aA]):=by simp -dsimp
  simp -dsimp only[B.eJ,f4 Y' c',f5',B.aK];exact fin _ _ _ _ _ _ _ (d::P.map (·.1)) ((w0::Ls)++[⟨9223372036854775807,[65],0,1,1,false⟩]) [] o2.le (sS.w (P:=(d,(k,g))::P) (mid (by simp;omega) (by simp;omega) (by simp) (allI e)) rfl (R1:=[]) (o2.aP 0 rfl) (λp l=>uH (P:=(d,(k,g))::P) o2.is (λo q=>mem_cons_of_mem _ (mem_cons_of_mem _ (mem_cons_of_mem _ q))) p l) (R2:=[]) (by rw[map_append];exact o2.aP 1 rfl) (aJ.aA _ 8))
 simp -dsimp only[eL,B.aK];refine B.bF (λ_=>?_) (λ_=>?_)
 ·
  have hb1:A.cD [(0,none,(.int .i64 9223372036854775807)),(1,none,(.str [65])),(2,none,(.int .i64 1)),(5,none,(.int .u8 1)),(6,none,(.int .i64 (-1)))] [.int .i64 0,.str [],.int .i64 0,.int .i64 0,.int .i64 0,.int .u8 0,.int .i64 0,.str []]=some (.agg (dC.cs ⟨9223372036854775807,[65],1,0,0,1, -1,[]⟩)):=rfl;have hb2:A.cD [(0,none,(.int .i64 9223372036854775807)),(1,none,(.str [65])),(2,none,(.int .i64 2)),(5,none,(.int .u8 1)),(6,none,(.int .i64 (-1)))] [.int .i64 0,.str [],.int .i64 0,.int .i64 0,.int .i64 0,.int .u8 0,.int .i64 0,.str []]=some (.agg (dC.cs ⟨9223372036854775807,[65],2,0,0,1, -1,[]⟩)):=rfl;have J:bN [(0,some 8,.agg (dC.cs ⟨9223372036854775807,[65],1,0,0,1, -1,[]⟩)),(8,some 8,.agg (dC.cs ⟨9223372036854775807,[65],2,0,0,1, -1,[]⟩))] (bG 2 [.int .i64 0,.str [],.int .i64 0,.int .i64 0,.int .i64 0,.int .u8 0,.int .i64 0,.str []])=some ([(⟨9223372036854775807,[65],1,0,0,1, -1,[]⟩:dC),⟨9223372036854775807,[65],2,0,0,1, -1,[]⟩].flatMap dC.cs):=rfl;simp -dsimp only[B.eJ,g3,hb1,hb2,J,B.aK];have oL:aG h h1 ([.sl 4 X (((d,(k,g))::P).map bR.cs) []]++[.sl 6 Y (s.bJ.map bZ.cs) []]++[.sl 8 Z (s.cE.map dC.cs) []]++bR.os false ((d,(k,g))::P)):=by
   rw[<-U,append_nil]at D;exact D
  intro id E;have le2:=hU (cG ([(⟨9223372036854775807,[65],1,0,0,1, -1,[]⟩:dC),⟨9223372036854775807,[65],2,0,0,1, -1,[]⟩].flatMap dC.cs)) E;have sN:aJ (bQ h1 id _) 8 (.sl id 0 0 2 8 2) ([(⟨9223372036854775807,[65],1,0,0,1, -1,[]⟩:dC),⟨9223372036854775807,[65],2,0,0,1, -1,[]⟩].map dC.cs) []:=aJ.lit (dR ..) (by simp) rfl (by simp) rfl;refine(oL.grow le2).bO 2 rfl sN (by omega) (by simp;omega) (by simp[maxLen];omega) λZ' S o2 _=>?_;have c':Z'.aI=true:=(o2.aP 2 rfl).aI;simp -dsimp only[B.eJ,f5 Z' c',B.aK];exact fin _ _ _ _ _ _ _ (d::P.map (·.1)) s.bJ (s.cE++[⟨9223372036854775807,[65],1,0,0,1, -1,[]⟩,⟨9223372036854775807,[65],2,0,0,1, -1,[]⟩]) o2.le (sS.w (P:=(d,(k,g))::P) (mid (by simp;omega) (by omega) (by simp;omega) (allI e)) rfl (R1:=[]) (o2.aP 0 rfl) (λp l=>uH (P:=(d,(k,g))::P) o2.is (λo q=>mem_cons_of_mem _ (mem_cons_of_mem _ (mem_cons_of_mem _ q))) p l) (o2.aP 1 rfl) (R3:=[]) (by rw[map_append];exact o2.aP 2 rfl))
 ·exact fin _ _ _ _ _ _ _ _ _ _ F (num _ _ _)
end Go.Ab
namespace Go.Ab
open List
variable{C:aC}{N:zN}
abbrev iV:=Row×(a7×a7)
structure gT(h:a9)(x:a7)(P:List iV):Prop where
 sl:∃R,aJ h 2 x (P.map aQ.cs) R
 el:∀p∈P,aQ.at_ h p.1 p.2
theorem gT.mono{h h':a9}{x:a7}{P:List iV}(a:gT h x P)(hle:h.le h'):gT h' x P:=⟨a.sl.imp λ_ r=>r.mono hle,λp b=>aQ.mono hle (a.el p b)⟩
theorem gT.dl{h:a9}{x:a7}{P:List iV}(a:gT h x P):Dl aQ h x (P.map (·.1)):=a.sl.elim λR r=>⟨P,R,rfl,r,a.el⟩
theorem gT.aE{h:a9}{x:a7}{P:List iV}(a:gT h x P):V.aE x=some (.int .i64 (P.length:Int)):=a.sl.elim λR r=>by have:=r.aE;rwa [length_map]at this
theorem gT.slice{h:a9}{x:a7}{P:List iV}(a:gT h x P){lo hi:Nat}{u v:Option a7}(d:u=none /\ lo=0 \/ ∃k,u=some (.int k lo))(hb:v=none /\ hi=P.length \/ ∃k,v=some (.int k hi))(h1:lo <= hi)(e:hi <= P.length):
  ∃b,V.dS 2 x u v=some b /\ gT h b ((P.take hi).drop lo):=by
 obtain⟨R,r⟩:=a.sl;obtain⟨b,R',e1,f,_⟩:=r.kY (by omega) d hb h1 e;exact⟨b,e1,⟨R',f⟩,λp c=>a.el p (mem_of_mem_take (mem_of_mem_drop c))⟩
structure sJ(h0 h:a9)(x:a7)(P:List iV):Prop where
 o:aG h0 h [.sl 2 x (P.map aQ.cs) []]
 el:∀p∈P,aQ.at_ h0 p.1 p.2
theorem sJ.at{h0 h:a9}{x:a7}{P:List iV}(a:sJ h0 h x P):gT h x P:=⟨⟨[],a.o.aP 0 rfl⟩,λp b=>aQ.mono a.o.le (a.el p b)⟩
theorem sJ.start(h:a9):sJ h h .sz []:=⟨(aG.start h).sz 2,λp a=>by cases a⟩
theorem sJ.app{h0 h:a9}{x y:a7}{P M:List iV}{K:zQ}(a:sJ h0 h x P)(b:gT h0 y M)(e:P.length+M.length <= 100000)(d:∀z h',sJ h0 h' z (P++M)->K z h'):A.bO h 2 48 x y K:=by
 obtain⟨R,r⟩:=b.sl;refine a.o.bO 0 rfl (r.mono a.o.le) (by omega) (by simp;omega) (by simp[maxLen];omega) λz h' o _=>d z h' ⟨by rw[map_append];exact o,λp c=>?_⟩;rcases mem_append.1 c with c|c
 ·exact a.el p c
 ·exact b.el p c
theorem AD{h:a9}{P:List iV}{n:Nat}{cs:List a7}{id:Nat}(a:h id=none)(he:∀p∈P,aQ.at_ h p.1 p.2)(d:n=P.length)(e:cs=P.flatMap aQ.cs):gT (bQ h id (cG cs)) (.sl id 0 0 n 2 n) P:=by
 subst e d;refine⟨⟨[],aJ.lit (dR ..) (λq b=>?_) (by simp) (by simp) (by simp[flatMap_def])⟩,λp c=>aQ.mono (hU _ a) (he p c)⟩;rw[append_nil]at b;obtain⟨p,_,rfl⟩:=mem_map.1 b;exact aQ.len _ _
theorem gT.get{h:a9}{x:a7}{P:List iV}(a:gT h x P){i:Nat}{p:iV}(b:P[i]?=some p):V.aM 2 x (.int .i64 (i:Int))=some (aV 2 x i 0) /\ A.fF h (aV 2 x i 0) 2=some (.agg (aQ.cs p)) /\ V.fieldAddr 0 (aV 2 x i 0)=some (aV 2 x i 0) /\ V.fieldAddr 1 (aV 2 x i 0)=some (aV 2 x i 1) /\ A.bX h (aV 2 x i 0)=some p.2.1 /\ A.bX h (aV 2 x i 1)=some p.2.2:=by
 obtain⟨R,r⟩:=a.sl;have e:=vz r a.el b;exact⟨e.idx,e.cR,e.sV 0 0,e.sV 0 1,e.ld 0 (by decide),e.ld 1 (by decide)⟩
theorem HY(p q:iV):bN [(0,some 2,.agg (aQ.cs p)),(2,some 2,.agg (aQ.cs q))] (bG 2 [.aA,.aA])=some ([p,q].flatMap aQ.cs):=rfl
theorem PL(p q r:iV):bN [(0,some 2,.agg (aQ.cs p)),(2,some 2,.agg (aQ.cs q)),(4,some 2,.agg (aQ.cs r))] (bG 3 [.aA,.aA])=some ([p,q,r].flatMap aQ.cs):=rfl
abbrev Qc(x c v0 k1 v1 k2 v2:a7)(b a r2:Row):List Ob:=[.sl 2 x [[c,v0],[k1,v1],[k2,v2]] [],.sl 1 c (b.Key.map bc) [],.sl 1 v0 (b.Value.map bc) [],.sl 1 k1 (a.Key.map bc) [],.sl 1 v1 (a.Value.map bc) [],.sl 1 k2 (r2.Key.map bc) [],.sl 1 v2 (r2.Value.map bc) []]
theorem yo{h0 h:a9}{x:a7}{P:List iV}{c b r2:Row}(e:P.map (·.1)=[c,b,r2])(d:Df aQ h0 h x P):∃a v0 k1 v1 k2 v2,aG h0 h (Qc x a v0 k1 v1 k2 v2 c b r2):=by
 match P,e with
 | [(_,(a,v0)),(_,(k1,v1)),(_,(k2,v2))],e=>
  simp only[map_cons,map_nil,List.cons.injEq,and_true]at e;obtain⟨rfl,rfl,rfl⟩:=e;exact⟨a,v0,k1,v1,k2,v2,d⟩
theorem AE{h:a9}{x a v0 k1 v1 k2 v2:a7}{c b r2:Row}{R:List (List a7)}(s:aJ h 2 x [[a,v0],[k1,v1],[k2,v2]] R)(h0:aQ.at_ h c (a,v0))(h1:aQ.at_ h b (k1,v1))(e:aQ.at_ h r2 (k2,v2)):gT h x [(c,(a,v0)),(b,(k1,v1)),(r2,(k2,v2))]:=
 ⟨⟨R,s⟩,λp d=>by
  simp only[mem_cons,not_mem_nil,or_false]at d
  rcases d with rfl|rfl|rfl
  ·exact h0
  ·exact h1
  ·exact e⟩
theorem nk{h:a9}{k v:a7}{r:Row}{R S:List (List a7)}(hk:aJ h 1 k (r.Key.map bc) R)(a:aJ h 1 v (r.Value.map bc) S)(l1:r.Key.length <= 1000)(l2:r.Value.length <= 1000):aQ.at_ h r (k,v):=
 ⟨⟨⟨R,hk⟩,by unfold ep;omega⟩,⟨⟨S,a⟩,by unfold ep;omega⟩⟩
end Go.Ab
namespace Go.Ab
open List
variable{C:aC}{N:zN}
theorem Oa:∃b a r2:Row,fQ 1 7 (gl 19)=([b,a,r2],0) /\ a.Value.length=180 /\ (∀r∈[b,a,r2],r.Key.length <= 12 /\ r.Value.length <= 180) /\ (gS 1 7 [b,a,r2]).2=true /\ (gS 1 7 [b,a,⟨dY 1 7 5,r2.Value⟩]).2=false:=by
 have h1:=OG;have i:=Po;have h:=Pp;have g:=Nl;have f:=(yc 1 7 (gl 19)).2.2.2;generalize fQ 1 7 (gl 19)=p at *;obtain⟨l,e⟩:=p;simp only[Prod.mk.injEq]at h1;obtain⟨d,rfl⟩:=h1
 match l,d with
 | [b,a,r2],_=>
  refine⟨b,a,r2,rfl,Option.some.inj g,λr c=>?_,i,h⟩;have:=f r c;omega
theorem NZ(s1:gM.Spec C N)(s2:jO.Spec C N)(s3:nh.Spec C N)(s4:gF.Spec C N)(s5:mn.Spec C N){U:a7}{h:a9}{Q:zQ}(ht:kP h (gl 19) .aA U)(hq:∀h',h.le h'->Q (.bool true) h'):gx.k1 C N Q (.agg ((gl 19).cs .aA U)) h:=by
 have ft:V.bM 0 7 (.agg ((gl 19).cs .aA U))=some (.agg ((gl 19).cs .aA U)):=rfl;obtain⟨j,g,r2,H,h180,T,hok,hno⟩:=Oa;have z0:=T j (by simp);have z1:=T g (by simp);have z2:=T r2 (by simp);have kl5:(dY 1 7 5).length=12:=Hx.2;have kl3:(dY 1 7 3).length=12:=Hx.1;generalize hK5:dY 1 7 5=K5 at hno kl5;generalize hK3:dY 1 7 3=K3 at kl3;simp -dsimp only[gx.k1,ft,B.aK];refine s1 1 7 (gl 19) .aA U h _ ht (by simp[gl]) (by simp[gl]) λb P h1 eP o1=>?_;rw[H]at eP;obtain⟨k0,v0,k1,v1,k2,v2,K⟩:=yo eP o1;have bAt:∀{h'},h1.le h'->gT h' b [(j,(k0,v0)),(g,(k1,v1)),(r2,(k2,v2))]:=λhle=>
  AE ((K.aP 0 rfl).mono hle) (nk ((K.aP 1 rfl).mono hle) ((K.aP 2 rfl).mono hle) (by omega) (by omega)) (nk ((K.aP 3 rfl).mono hle) ((K.aP 4 rfl).mono hle) (by omega) (by omega)) (nk ((K.aP 5 rfl).mono hle) ((K.aP 6 rfl).mono hle) (by omega) (by omega))
 have bDl:∀{h'},h1.le h'->Dl aQ h' b [j,g,r2]:=λhle=>(bAt hle).dl;have lb:V.aE b=some (.int .i64 3):=(bAt (a9.le_refl h1)).aE;have n0:V.bin .neq (.int .i64 0) (.int .i64 0)=some (.bool false):=by simp -dsimp
 have n3:V.bin .neq (.int .i64 3) (.int .i64 3)=some (.bool false):=by simp -dsimp
 rw[H];simp -dsimp only[V.AP,getElem?_cons_zero,getElem?_cons_succ,n0,n3,lb,B.ia,Bool.not_false,B.fN,B.nJ,B.cond_false,B.aK];refine s2 b _ h1 _ (bDl (a9.le_refl _)) (by simp) λG PF h2 eF X=>?_;obtain⟨f0,g0,f1,g1,f2,g2,X⟩:=yo eF X;refine s2 b _ h2 _ (bDl X.le) (by simp) λo PC h3 eC oC=>?_;obtain⟨c0,d0,c1,d1,Z,d2,oC⟩:=yo eC oC;refine s3 1 7 5 h3 _ λkF h4 oK _=>?_;rw[hK5]at oK;have o4:=X.join (oC.join oK);have i1:V.aM 2 G (.int .i64 2)=some (aV 2 G 2 0):=(X.aP 0 rfl).dF (i:=2) (by simp);have i2:V.fieldAddr 0 (aV 2 G 2 0)=some (aV 2 G 2 0):=(X.aP 0 rfl).jF (i:=2) (by simp) 0 0;simp -dsimp only[i1,i2,B.aK];refine o4.st 0 rfl (i:=2) (f:=0) (c:=[f2,g2]) rfl (by omega) (oK.aP 0 rfl).aI λY o5 _=>?_;have W:aJ Y 2 o [[c0,d0],[c1,d1],[Z,d2]] []:=o5.aP 7 rfl;have j1:V.aM 2 o (.int .i64 1)=some (aV 2 o 1 0):=W.dF (i:=1) (by simp);have j2:V.fieldAddr 1 (aV 2 o 1 0)=some (aV 2 o 1 1):=W.jF (i:=1) (by simp) 0 1;have j3:A.bX Y (aV 2 o 1 1)=some d1:=W.bX (i:=1) (f:=1) rfl (by omega);have j4:V.aM 2 o (.int .i64 2)=some (aV 2 o 2 0):=W.dF (i:=2) (by simp);have j5:V.fieldAddr 1 (aV 2 o 2 0)=some (aV 2 o 2 1):=W.jF (i:=2) (by simp) 0 1;have j6:A.bX Y (aV 2 o 2 1)=some d2:=W.bX (i:=2) (f:=1) rfl (by omega);obtain⟨w,hw⟩:=dI (L:=g.Value) (k:=179) (by omega);have sd1:aJ Y 1 d1 (g.Value.map bc) []:=o5.aP 11 rfl;have j7:V.aM 1 d1 (.int .i64 179)=some (aV 1 d1 179 0):=sd1.dF (i:=179) (by rw[length_map];omega);have j8:A.bX Y (aV 1 d1 179 0)=some (.int .u8 (w.toNat:Int)):=sd1.cell (by rw[getElem?_map,hw];rfl);have hf:bN [(0,none,.int .u8 (w.toNat:Int))] (bG 1 [.int .u8 0])=some [.int .u8 (w.toNat:Int)]:=rfl;simp -dsimp only[j1,j2,j3,j4,j5,j6,j7,j8,hf,B.fw,B.aK];intro id hid;have o6:=o5.gU (id:=id) (n:=1) (cp:=1) (es:=1) (cs:=[.int .u8 (w.toNat:Int)]) (L:=[w].map bc) (R:=[]) hid (by simp) rfl (by simp) rfl
 have sd2:aJ (bQ Y id (cG [.int .u8 (w.toNat:Int)])) 1 d2 (r2.Value.map bc) []:=o6.aP 13 rfl;refine aG.bO (bytes:=1) o6 15 rfl sd2 (by omega) (by simp;omega) (by simp[maxLen];omega) λz h7 o7 _=>?_;have cz:z.aI=true:=(o7.aP 15 rfl).aI;simp -dsimp only[j4,j5,B.aK];refine o7.st 7 rfl (i:=2) (f:=1) (c:=[Z,d2]) rfl (by omega) cz λh8 o8 _=>?_;have sc8:aJ h8 2 o [[c0,d0],[c1,d1],[Z,z]] []:=o8.aP 7 rfl;have j9:A.bX h8 (aV 2 o 1 1)=some d1:=sc8.bX (i:=1) (f:=1) rfl (by omega);have sd8:aJ h8 1 d1 (g.Value.map bc) []:=o8.aP 11 rfl;obtain⟨y,Ry,y1,y2,_⟩:=sd8.kY (by omega) (lo:=0) (hi:=179) (a:=none) (b:=some (.int .i64 179)) (.inl ⟨rfl,rfl⟩) (.inr ⟨_,rfl⟩) (by omega) (by omega);simp -dsimp only[j1,j2,j9,y1,B.fw,B.aK];refine o8.st 7 rfl (i:=1) (f:=1) (c:=[c1,d1]) rfl (by omega) y2.aI λh9 o9 _=>?_;have sd9:aJ h9 1 d1 (g.Value.map bc) []:=o9.aP 11 rfl;obtain⟨y',Ry',y1',y2',_⟩:=sd9.kY (by omega) (lo:=0) (hi:=179) (a:=none) (b:=some (.int .i64 179)) (.inl ⟨rfl,rfl⟩) (.inr ⟨_,rfl⟩) (by omega) (by omega);rw[y1]at y1';cases y1';rw[drop_zero]at y2';refine s2 b _ h9 _ (bDl o9.le) (by simp) λu PT h10 eT oT=>?_;obtain⟨t0,u0,t1,u1,t2,u2,oT⟩:=yo eT oT;have o10:=o9.join oT;have st:aJ h10 2 u [[t0,u0],[t1,u1],[t2,u2]] []:=oT.aP 0 rfl;have l1:V.aM 2 u (.int .i64 2)=some (aV 2 u 2 0):=st.dF (i:=2) (by simp);have l2:V.fieldAddr 1 (aV 2 u 2 0)=some (aV 2 u 2 1):=st.jF (i:=2) (by simp) 0 1;have l3:A.bX h10 (aV 2 u 2 1)=some u2:=st.bX (i:=2) (f:=1) rfl (by omega);have hf0:bN [(0,none,a7.int .u8 0)] (bG 1 [.int .u8 0])=some [.int .u8 0]:=rfl;simp -dsimp only[l1,l2,l3,hf0,B.fw,B.aK];refine o10.push 22 rfl (cs:=[.int .u8 0]) rfl (by omega) (by simp;omega) (by simp[maxLen];omega) λq h11 o11 _=>?_;have cq:q.aI=true:=(o11.aP 22 rfl).aI;simp -dsimp only[l1,l2,B.aK];refine o11.st 16 rfl (i:=2) (f:=1) (c:=[t2,u2]) rfl (by omega) cq λh12 o12 _=>?_
 refine s2 b _ h12 _ (bDl o12.le) (by simp) λxm PM h13 eM oM=>?_;obtain⟨m0,O,m1,n1,m2,n2,oM⟩:=yo eM oM;refine s3 1 7 3 h13 _ λx h14 J _=>?_;rw[hK3]at J;have o14:=(o12.join oM).join J;have ckM:x.aI=true:=(J.aP 0 rfl).aI;have hbl:A.cD [(0,none,x)] [.aA,.aA]=some (.agg [x,.aA]):=by simp -dsimp[ckM]
 have hfm:bN [(0,some 2,.agg [x,.aA])] (bG 1 [.aA,.aA])=some [x,.aA]:=rfl;simp -dsimp only[hbl,hfm,B.aK];refine o14.push 23 rfl (cs:=[x,.aA]) rfl (by omega) (by simp) (by simp[maxLen]) λI l d _=>?_;have d:aG h1 l [.sl 2 G [[f0,g0],[f1,g1],[kF,g2]] [],.sl 1 f0 (j.Key.map bc) [],.sl 1 g0 (j.Value.map bc) [],.sl 1 f1 (g.Key.map bc) [],.sl 1 g1 (g.Value.map bc) [],.sl 1 f2 (r2.Key.map bc) [],.sl 1 g2 (r2.Value.map bc) [],
   .sl 2 o [[c0,d0],[c1,y],[Z,z]] [],.sl 1 c0 (j.Key.map bc) [],.sl 1 d0 (j.Value.map bc) [],.sl 1 c1 (g.Key.map bc) [],.sl 1 d1 (g.Value.map bc) [],.sl 1 Z (r2.Key.map bc) [],.sl 1 d2 (r2.Value.map bc) [],.sl 1 kF (K5.map bc) [],.sl 1 z ([w].map bc++r2.Value.map bc) [],
   .sl 2 u [[t0,u0],[t1,u1],[t2,q]] [],.sl 1 t0 (j.Key.map bc) [],.sl 1 u0 (j.Value.map bc) [],.sl 1 t1 (g.Key.map bc) [],.sl 1 u1 (g.Value.map bc) [],.sl 1 t2 (r2.Key.map bc) [],.sl 1 q (r2.Value.map bc++[[.int .u8 0]]) [],
   .sl 2 I [[m0,O],[m1,n1],[m2,n2],[x,.aA]] [],.sl 1 m0 (j.Key.map bc) [],.sl 1 O (j.Value.map bc) [],.sl 1 m1 (g.Key.map bc) [],.sl 1 n1 (g.Value.map bc) [],.sl 1 m2 (r2.Key.map bc) [],.sl 1 n2 (r2.Value.map bc) [],.sl 1 x (K3.map bc) []]:=d
 have m:h1.le l:=d.le;have vl:mx [j,g,r2] <= 10000000:=by simp[mx];omega
 refine s4 1 7 b _ l _ (bDl m) (by simp) vl λax ay h16 v=>?_;have ca:ax.aI=true:=(v.aP 0 rfl).aI;have cb:ay.aI=true:=(v.aP 1 rfl).aI;have stt:∀(t:cW)(a b:a7),a.aI=true->b.aI=true->V.bU 0 7 (.agg (t.cs a b)) (.agg [.int .i64 0,.int .i64 0,.int .i64 0,.str [],.int .u8 0,.aA,.aA])=some (.agg (t.cs a b)):=λt a b h1 h2=>by simp -dsimp[h1,h2]
 have farAt:gT l G [(j,(f0,g0)),(g,(f1,g1)),(⟨K5,r2.Value⟩,(kF,g2))]:=AE (d.aP 0 rfl) (nk (d.aP 1 rfl) (d.aP 2 rfl) (by omega) (by omega)) (nk (d.aP 3 rfl) (d.aP 4 rfl) (by omega) (by omega)) (nk (d.aP 14 rfl) (d.aP 6 rfl) (by show K5.length <= _;omega) (by show r2.Value.length <= _;omega));have sd15:aJ l 1 d1 (g.Value.map bc) []:=d.aP 11 rfl;obtain⟨y'',Ry'',F,E,_⟩:=sd15.kY (by omega) (lo:=0) (hi:=179) (a:=none) (b:=some (.int .i64 179)) (.inl ⟨rfl,rfl⟩) (.inr ⟨_,rfl⟩) (by omega) (by omega);rw[y1]at F;cases F;rw[drop_zero]at E;have cutAt:gT l o [(j,(c0,d0)),(⟨g.Key,g.Value.take 179⟩,(c1,y)),(⟨r2.Key,w::r2.Value⟩,(Z,z))]:=AE (d.aP 7 rfl) (nk (d.aP 8 rfl) (d.aP 9 rfl) (by omega) (by omega)) (nk (d.aP 10 rfl) E (by show g.Key.length <= _;omega) (by show (g.Value.take 179).length <= _;rw[length_take];omega)) (nk (d.aP 12 rfl) (d.aP 15 rfl) (by show r2.Key.length <= _;omega) (by show (w::r2.Value).length <= _;rw[length_cons];omega));have tailAt:gT l u [(j,(t0,u0)),(g,(t1,u1)),(⟨r2.Key,r2.Value++[0]⟩,(t2,q))]:=AE (d.aP 16 rfl) (nk (d.aP 17 rfl) (d.aP 18 rfl) (by omega) (by omega)) (nk (d.aP 19 rfl) (d.aP 20 rfl) (by omega) (by omega)) (nk (R:=[]) (S:=[]) (d.aP 21 rfl) (by show aJ l 1 q ((r2.Value++[0]).map bc) [];rw[map_append];exact d.aP 22 rfl) (by show r2.Key.length <= _;omega) (by show (r2.Value++[0]).length <= _;rw[length_append,length_singleton];omega));have moreAt:gT l I [(j,(m0,O)),(g,(m1,n1)),(r2,(m2,n2)),(⟨K3,[]⟩,(x,.aA))]:=⟨⟨[],d.aP 23 rfl⟩,λp hp=>by
  simp only[mem_cons,not_mem_nil,or_false]at hp;rcases hp with rfl|rfl|rfl|rfl
  ·exact nk (d.aP 24 rfl) (d.aP 25 rfl) (by show j.Key.length <= _;omega) (by show j.Value.length <= _;omega)
  ·exact nk (d.aP 26 rfl) (d.aP 27 rfl) (by show g.Key.length <= _;omega) (by show g.Value.length <= _;omega)
  ·exact nk (d.aP 28 rfl) (d.aP 29 rfl) (by show r2.Key.length <= _;omega) (by show r2.Value.length <= _;omega)
  ·exact nk (S:=[]) (d.aP 30 rfl) (aJ.aA l 1) (by show K3.length <= _;omega) (by simp)⟩
 have l1_15:=a9.le_trans o1.le m;simp -dsimp only[V.AP,getElem?_cons_zero,getElem?_cons_succ,stt _ _ _ ca cb,B.aK];refine s4 1 7 G _ h16 _ (farAt.mono v.le).dl (by simp) (by simp[mx];omega) λbx bY D M=>?_;have ca':bx.aI=true:=(M.aP 0 rfl).aI;have cb':bY.aI=true:=(M.aP 1 rfl).aI;have e:=a9.le_trans v.le M.le;have r:=ht.mono (a9.le_trans l1_15 e);have fin:=hq _ (a9.le_trans l1_15 e);obtain⟨a0,a1,_,_,_,_⟩:=(bAt (a9.le_trans m e)).get (i:=0) (p:=(j,(k0,v0))) rfl;obtain⟨a2,a3,_,_,_,_⟩:=(bAt (a9.le_trans m e)).get (i:=1) (p:=(g,(k1,v1))) rfl;obtain⟨a4,a5,_,_,_,_⟩:=(bAt (a9.le_trans m e)).get (i:=2) (p:=(r2,(k2,v2))) rfl;have a0:V.aM 2 b (.int .i64 0)=some (aV 2 b 0 0):=a0;have a2:V.aM 2 b (.int .i64 1)=some (aV 2 b 1 0):=a2;have a4:V.aM 2 b (.int .i64 2)=some (aV 2 b 2 0):=a4;have hno':(gS 1 7 ([(j,(f0,g0)),(g,(f1,g1)),(⟨K5,r2.Value⟩,(kF,g2))].map (·.1))).2=false:=hno;rw[hok,hno'];simp -dsimp only[V.AP,getElem?_cons_zero,getElem?_cons_succ,stt _ _ _ ca' cb',ft,B.mg,B.fN,V.jq,Bool.not_false,B.pR,B.aK];refine s5 1 7 0 (gl 19) .aA U G _ D _ r (farAt.mono e).dl (by simp) ?_;simp -dsimp only[ft,B.mg,B.fN,B.pR,B.aK];refine s5 1 7 0 (gl 19) .aA U o _ D _ r (cutAt.mono e).dl (by simp) ?_;simp -dsimp only[ft,B.mg,B.fN,B.pR,B.aK];refine s5 1 7 0 (gl 19) .aA U u _ D _ r (tailAt.mono e).dl (by simp) ?_;simp -dsimp only[ft,B.mg,B.fN,B.pR,B.aK];refine s5 1 7 0 (gl 19) .aA U I _ D _ r (moreAt.mono e).dl (by simp) ?_;simp -dsimp only[ft,B.mg,B.fN,B.pR,B.aK,a0,a1,a2,a3,a4,a5,B.iL,PL];intro id2 s;have litAt:=AD (n:=3) (P:=[(j,(k0,v0)),(r2,(k2,v2)),(g,(k1,v1))]) s (λp hp=>(bAt (a9.le_trans m e)).el p (by
  simp only[mem_cons,not_mem_nil,or_false]at hp ⊢;rcases hp with rfl|rfl|rfl
  ·exact .inl rfl
  ·exact .inr (.inr rfl)
  ·exact .inr (.inl rfl))) rfl rfl
 simp -dsimp only[B.mg,B.fN];refine s5 1 7 0 (gl 19) .aA U _ _ _ _ (r.mono (hU _ s)) litAt.dl (by simp) ?_;simp -dsimp only[B.pR];exact hq _ (a9.le_trans (a9.le_trans l1_15 e) (hU _ s))
def gx.Spec(C:aC)(N:zN):Prop:=∀(l a:a7)(b c:List iV)(h:a9)(Q:zQ),gT h l b->gT h a c->3 <= b.length->b.length <= 1000->2 <= c.length->(∀h',h.le h'->Q (.bool true) h')->C (N 459) [l,a] h Q
theorem gx.spec(i:gx.aD C N)(s0:kU.Spec C N)(s1:gM.Spec C N)(s2:jO.Spec C N)(s3:nh.Spec C N)(s4:gF.Spec C N)(s5:mn.Spec C N):gx.Spec C N:=by
 intro l a G PA h Q hl H n3 n1000 n2 hq;apply i;obtain⟨c,e0⟩:=dI (L:=PA) (k:=0) (by omega);obtain⟨p1,e1⟩:=dI (L:=PA) (k:=1) (by omega);obtain⟨S,a1,_⟩:=H.get e0;obtain⟨a2,a3,_⟩:=H.get e1;have S:V.aM 2 a (.int .i64 0)=some (aV 2 a 0 0):=S;have a2:V.aM 2 a (.int .i64 1)=some (aV 2 a 1 0):=a2;simp -dsimp only[gx.aY,gx.k6,S,a1,a2,a3,B.iL,B.aK,HY];intro id E;have tA:=AD (n:=2) (P:=[p1,c]) E (λp j=>H.el p (by
  simp only[mem_cons,not_mem_nil,or_false]at j;rcases j with rfl|rfl
  ·exact mem_of_getElem? e1
  ·exact mem_of_getElem? e0)) rfl rfl
 have s:=hU (cG ([p1,c].flatMap aQ.cs)) E;generalize bQ h id (cG ([p1,c].flatMap aQ.cs))=h1 at *;have F:=H.mono s;obtain⟨_,a1',_⟩:=F.get e0;simp -dsimp only[gx.k5,S,a1',B.iL,B.aK,HY];intro id2 g;have tB:=AD (n:=2) (P:=[c,c]) g (λp j=>F.el p (by
  simp only[mem_cons,not_mem_nil,or_false,or_self]at j;rw[j];exact mem_of_getElem? e0)) rfl rfl
 have r:=hU (cG ([c,c].flatMap aQ.cs)) g;generalize bQ h1 id2 (cG ([c,c].flatMap aQ.cs))=h2 at *;have t:=a9.le_trans s r;have x:=hl.mono t;have tA2:=tA.mono r;obtain⟨u,u1,u2⟩:=x.slice (lo:=0) (hi:=3) (u:=none) (v:=some (.int .i64 3)) (.inl ⟨rfl,rfl⟩) (.inr ⟨_,rfl⟩) (by omega) n3;obtain⟨w,w1,W⟩:=x.slice (lo:=3) (hi:=G.length) (u:=some (.int .i64 3)) (v:=none) (.inr ⟨_,rfl⟩) (.inl ⟨rfl,rfl⟩) n3 (by omega);rw[drop_zero]at u2;rw[take_length]at W;have put:∀{y:a7}{M:List iV}{K:zQ}{h':a9},h2.le h'->M.length=2->gT h' y M->(∀z m,h'.le m->Dl aQ m z ((G.take 3++M++G.drop 3).map (·.1))->K z m)->A.bO h' 2 48 .sz u λv36 h=>A.bO h 2 48 v36 y λv38 h=>A.bO h 2 48 v38 w K:=by
  intro y M K h' hle hM hy hK;refine(sJ.start h').app (u2.mono hle) (by simp;omega) λz1 h3 r1=>?_;refine r1.app hy (by simp;omega) λz2 O r2=>?_;refine r2.app (W.mono hle) (by simp;omega) λz3 J q=>?_;exact hK z3 J q.o.le q.at.dl
 have hlen:∀M:List iV,M.length=2->((G.take 3++M++G.drop 3).map (·.1)).length<4000000000000:=λM hM=>by simp;omega
 simp -dsimp only[gx.k4,u1,w1,B.aK];refine put (a9.le_refl _) rfl tA2 λZ h3 d d3=>?_;refine s0 Z _ h3 _ d3 (hlen _ rfl) ?_;simp -dsimp only[V.jq,Bool.not_true,B.ia,Bool.not_false,B.fN,u1,w1,B.aK];refine(sJ.start h3).app (u2.mono d) (by simp;omega) λz1 h3' r1=>?_;simp -dsimp only[B.ia,Bool.not_false,B.fN];refine r1.app (tB.mono d) (by simp;omega) λz2 h3'' r2=>?_;simp -dsimp only[B.ia,Bool.not_false,B.fN];refine r2.app (W.mono d) (by simp;omega) λX O q=>?_;have le4:=q.o.le;have d4:=q.at.dl;simp -dsimp only[B.ia,Bool.not_false,B.fN];refine s0 X _ O _ d4 (hlen _ rfl) ?_;have hf1:bN [(0,none,a7.int .u8 1)] (bG 1 [.int .u8 0])=some [.int .u8 1]:=rfl;simp -dsimp only[V.jq,Bool.not_true,B.ia,Bool.not_false,B.fN,B.nJ,B.aK,hf1];intro b D;have s3':aJ (bQ O b (cG [.int .u8 1])) 1 (.sl b 0 0 1 1 1) (([1]:List UInt8).map bc) []:=aJ.lit (dR ..) (by simp) rfl (by simp) rfl;have le5:=hU (cG [a7.int .u8 1]) D;generalize bQ O b (cG [.int .u8 1])=J at *;have hb1:A.cD [(1,none,a7.sl b 0 0 1 1 1)] [.aA,.aA]=some (.agg [.aA,.sl b 0 0 1 1 1]):=rfl;have hf2:bN [(0,some 2,a7.agg [.aA,.sl b 0 0 1 1 1])] (bG 1 [.aA,.aA])=some ([((⟨[],[1]⟩:Row),(a7.aA,a7.sl b 0 0 1 1 1))].flatMap aQ.cs):=rfl;simp -dsimp only[B.ia,Bool.not_false,B.fN,hb1,hf2,B.aK];intro id4 f;have t4:=AD (n:=1) (P:=[((⟨[],[1]⟩:Row),(a7.aA,a7.sl b 0 0 1 1 1))]) f (λp j=>by
  rw[mem_singleton.1 j];exact nk (R:=[]) (aJ.aA J 1) s3' (by simp) (by simp)) rfl rfl
 have le6:=hU (cG ([((⟨[],[1]⟩:Row),(a7.aA,a7.sl b 0 0 1 1 1))].flatMap aQ.cs)) f;generalize bQ J id4 (cG ([((⟨[],[1]⟩:Row),(a7.aA,a7.sl b 0 0 1 1 1))].flatMap aQ.cs))=I at *;simp -dsimp only[B.ia,Bool.not_false,B.fN];refine s0 _ _ I _ t4.dl (by simp) ?_;simp -dsimp only[V.jq,Bool.not_true,B.ia,Bool.not_false,B.fN,B.nJ,B.aK,B.cond_false];have l06:h.le I:=a9.le_trans t (a9.le_trans d (a9.le_trans le4 (a9.le_trans le5 le6)));refine aB.intro (λn vs hh=>∃(k:Nat)(U:a7),k+n=19 /\ vs=[.int .i64 ((k+1:Nat):Int),.agg ((gl k).cs .aA U)] /\ aG I hh [.sl 3 U (((List.range k).map rT).map fA.cs) []]) 19 ?_ ⟨0,.aA,by omega,rfl,(aG.start I).aA 3⟩;rintro Y n vs hh ⟨k,U,hk,rfl,o⟩ hY;have cU:U.aI=true:=(o.aP 0 rfl).aI;simp -dsimp only[gx.l3,gx.k2,V.mw,B.aK];refine B.bF (λhc=>?_) (λhc=>?_)
 ·have e:k<19:=by have:=of_decide_eq_true hc;omega
  have f1:V.aF 6 (.agg ((gl k).cs .aA U))=some U:=rfl;have e1:A.cD [(1,none,.int .i64 ((k+1:Nat):Int)),(2,none,(.int .i64 1))] [.int .i64 0,.int .i64 0,.int .i64 0]=some (.agg (rT k).cs):=rfl;have e2:bN [(0,some 3,.agg (rT k).cs)] (bG 1 [.int .i64 0,.int .i64 0,.int .i64 0])=some (rT k).cs:=rfl;simp -dsimp only[B.eJ,f1,e1,B.aK];rw[e2];refine o.push 0 rfl (cs:=(rT k).cs) rfl (by omega) (by simp;omega) (by simp[maxLen];omega) λT h7 o7 _=>?_;have cU':T.aI=true:=(o7.aP 0 rfl).aI;have e3:V.cL 6 T (.agg ((gl k).cs .aA U))=some (.agg ((gl (k+1)).cs .aA T)):=by simp -dsimp[cU',gl]
  simp -dsimp only[B.eJ,e3,eG (show k+1<4611686018427387904 by omega),B.aK];refine hY (n-1) _ _ (by omega) ⟨k+1,T,by omega,rfl,?_⟩;rw[range_succ,map_append,map_append];exact o7
 ·have e:k=19:=by have:=of_decide_eq_false hc;omega
  subst e;exact NZ s1 s2 s3 s4 s5 ⟨⟨[],aJ.aA hh 6⟩,⟨[],o.aP 0 rfl⟩⟩ λh' hle=>aR (hq h' (a9.le_trans l06 (a9.le_trans o.le hle)))
end Go.Ab
namespace Go.Ab
open List
variable{C:aC}{N:zN}
theorem HR:pd kr 20:=⟨by simp[kr,uw,wb],λt a=>by
 simp only[kr,mem_cons,not_mem_nil,or_false]at a
 rcases a with rfl|rfl|rfl<;>exact⟨by simp[tQ,mE,rL,oh],by simp[tQ,mE,rL,oh]⟩⟩
theorem OL:∀t∈kr.cK,t.tN:=λt b=>by
 simp only[kr,mem_cons,not_mem_nil,or_false]at b
 rcases b with rfl|rfl|rfl
 ·exact⟨by simp[tQ],by simp[tQ],by simp[tQ],by simp[tQ],by simp[tQ]⟩
 ·refine⟨by simp[mE],λp c=>?_,λo a=>?_,by simp[mE],by simp[mE]⟩
  ·obtain⟨k,_,rfl⟩:=mem_map.1 (show p∈(List.range 8).map tx from c)
   simp[tx,GR]
  ·simp only[mE,mem_cons,not_mem_nil,or_false]at a
   rcases a with rfl|rfl|rfl|rfl<;>simp
 ·exact⟨by simp[rL],by simp[rL],λo a=>by rw[mem_singleton.1 (show o∈[[90]] from a)];simp,by simp[rL],by simp[rL]⟩
abbrev Ej(a:Int):List a7:=[.int .i64 a]
theorem Mc(I:kk.Spec C N)(s1:mn.Spec C N){a:a7}{E:List Row}{h:a9}{Q:zQ}(O:Dl aQ h a E)(M:E.length<4000000000000)(K:∀h',h.le h'->Q (.bool true) h'):cF.k7 C N Q a h:=by
 have y:bN [(0,none,a7.int .i64 (-1)),(1,none,.int .i64 0),(2,none,.int .i64 3),(3,none,.int .i64 4)] (bG 4 [.int .i64 0])=some [.int .i64 (-1),.int .i64 0,.int .i64 3,.int .i64 4]:=rfl;have x:bN [(0,none,a7.int .i64 (-1)),(1,none,.int .i64 0),(2,none,.int .i64 1),(3,none,.int .i64 4611686018427387904),(4,none,.int .i64 4611686018427387905)] (bG 5 [.int .i64 0])=some [.int .i64 (-1),.int .i64 0,.int .i64 1,.int .i64 4611686018427387904,.int .i64 4611686018427387905]:=rfl;have t:bN [(0,none,a7.int .i64 (-1)),(1,none,.int .i64 0),(2,none,.int .i64 999),(3,none,.int .i64 1000)] (bG 4 [.int .i64 0])=some [.int .i64 (-1),.int .i64 0,.int .i64 999,.int .i64 1000]:=rfl;simp -dsimp only[cF.k7,y];intro i1 g1;have t1:aJ (bQ h i1 (cG [.int .i64 (-1),.int .i64 0,.int .i64 3,.int .i64 4])) 1 (.sl i1 0 0 4 1 4) (([-1,0,3,4]:List Int).map Ej) []:=aJ.lit (dR ..) (by simp) rfl (by simp) rfl;have r:=hU (cG [a7.int .i64 (-1),.int .i64 0,.int .i64 3,.int .i64 4]) g1;generalize bQ h i1 (cG [.int .i64 (-1),.int .i64 0,.int .i64 3,.int .i64 4])=h1 at *;simp -dsimp only[cF.k6,x];intro i2 g2;have t2:aJ (bQ h1 i2 (cG [.int .i64 (-1),.int .i64 0,.int .i64 1,.int .i64 4611686018427387904,.int .i64 4611686018427387905])) 1 (.sl i2 0 0 5 1 5) (([-1,0,1,4611686018427387904,4611686018427387905]:List Int).map Ej) []:=aJ.lit (dR ..) (by simp) rfl (by simp) rfl;have i:=hU (cG [a7.int .i64 (-1),.int .i64 0,.int .i64 1,.int .i64 4611686018427387904,.int .i64 4611686018427387905]) g2;generalize bQ h1 i2 (cG [.int .i64 (-1),.int .i64 0,.int .i64 1,.int .i64 4611686018427387904,.int .i64 4611686018427387905])=H at *;simp -dsimp only[cF.k5,t];intro i3 g3;have t3:aJ (bQ H i3 (cG [.int .i64 (-1),.int .i64 0,.int .i64 999,.int .i64 1000])) 1 (.sl i3 0 0 4 1 4) (([-1,0,999,1000]:List Int).map Ej) []:=aJ.lit (dR ..) (by simp) rfl (by simp) rfl
 have e:=hU (cG [a7.int .i64 (-1),.int .i64 0,.int .i64 999,.int .i64 1000]) g3;generalize bQ H i3 (cG [.int .i64 (-1),.int .i64 0,.int .i64 999,.int .i64 1000])=G at *;have g:=t1.mono (a9.le_trans i e);have f:=t2.mono e;have l:h.le G:=a9.le_trans r (a9.le_trans i e);have z:=O.mono l;refine aB.intro (λn vs s=>s=G /\ ∃k:Nat,k+n=4 /\ vs=[.int .i64 (k:Int)]) 4 ?_ ⟨rfl,0,by omega,rfl⟩;rintro Y n vs s ⟨D,k,hk,rfl⟩ R;subst D;simp -dsimp only[cF.l4,cF.k3,V.mw,B.aK];refine B.bF (λF=>?_) (λF=>?_)
 rotate_left
 ·refine I _ _ ?_
  exact K _ l
 have o:k<4:=by have:=of_decide_eq_true F;omega
 refine aB.intro (λn vs d=>d=s /\ ∃j:Nat,j+n=5 /\ vs=[.int .i64 (j:Int)]) 5 ?_ ⟨rfl,0,by omega,rfl⟩;rintro Z m vs d ⟨D,j,hm,rfl⟩ P;subst D;simp -dsimp only[cF.l2,cF.k1,V.mw,B.aK];refine B.bF (λq=>?_) (λq=>?_)
 rotate_left
 ·simp -dsimp only[eG (show k<4611686018427387904 by omega),B.aK]
  exact R (n-1) _ _ (by omega) ⟨rfl,k+1,by omega,rfl⟩
 have p:j<5:=by have:=of_decide_eq_true q;omega
 obtain⟨u,hu⟩:=dI (L:=([-1,0,3,4]:List Int)) (k:=k) (by simpa using o);obtain⟨v,J⟩:=dI (L:=([-1,0,1,4611686018427387904,4611686018427387905]:List Int)) (k:=j) (by simpa using p);have c:(k+j) % 4<4:=Nat.mod_lt _ (by omega);obtain⟨w,hw⟩:=dI (L:=([-1,0,999,1000]:List Int)) (k:=(k+j) % 4) (by simpa using c);have f1:V.aM 1 (.sl i1 0 0 4 1 4) (.int .i64 (k:Int))=some (aV 1 (.sl i1 0 0 4 1 4) k 0):=g.dF (by simpa using o);have f2:A.bX d (aV 1 (.sl i1 0 0 4 1 4) k 0)=some (.int .i64 u):=g.cell (by rw[getElem?_map,hu];rfl);have f3:V.aM 1 (.sl i2 0 0 5 1 5) (.int .i64 (j:Int))=some (aV 1 (.sl i2 0 0 5 1 5) j 0):=f.dF (by simpa using p);have f4:A.bX d (aV 1 (.sl i2 0 0 5 1 5) j 0)=some (.int .i64 v):=f.cell (by rw[getElem?_map,J];rfl);have e1:=sI (a:=k) (b:=j) (by omega);have S:V.bin .rem (.int .i64 ((k+j:Nat):Int)) (.int .i64 4)=some (.int .i64 (((k+j) % 4:Nat):Int)):=by
  rw[V.HA _ _ _ (by omega),show ((k+j:Nat):Int).tmod 4=(((k+j) % 4:Nat):Int) from rfl]
 have f5:V.aM 1 (.sl i3 0 0 4 1 4) (.int .i64 (((k+j) % 4:Nat):Int))=some (aV 1 (.sl i3 0 0 4 1 4) ((k+j) % 4) 0):=t3.dF (by simpa using c);have f6:A.bX d (aV 1 (.sl i3 0 0 4 1 4) ((k+j) % 4) 0)=some (.int .i64 w):=t3.cell (by rw[getElem?_map,hw];rfl);have hb:A.cD [(1,none,(.int .i64 3))] [.int .i64 0,.int .i64 0,.int .i64 0,.str [],.int .u8 0,.aA,.aA]=some (.agg (cW.cs ⟨0,3,0,[],0,[],[]⟩ .aA .aA)):=rfl;simp -dsimp only[f1,f2,f3,f4,e1,S,f5,f6,hb,B.fw,B.aK];refine s1 u v w ⟨0,3,0,[],0,[],[]⟩ .aA .aA a E d _ ⟨⟨[],aJ.aA d 6⟩,⟨[],aJ.aA d 3⟩⟩ z M ?_;simp -dsimp only[V.jq,Bool.not_true,B.cond_false,eG (show j<4611686018427387904 by omega),B.aK];exact P (m-1) _ _ (by omega) ⟨rfl,j+1,by omega,rfl⟩
def tV(y:a7):List Nat:=match cC y with
 | some id=>[id]
 | none=>[]
theorem Ds{y:a7}{i:Nat}:dK (tV y) i=true↔cC y=some i:=by
 unfold tV;cases cC y with
 | none=>exact⟨λh=>(by cases h),λh=>(by cases h)⟩
 | some id=>
  have e:dK [id] i=Nat.beq id i:=by
   show (bif Nat.beq id i then true else false)=_;cases Nat.beq id i<;>rfl
  show dK [id] i=true↔_;rw[e,Option.some.injEq];exact⟨Nat.eq_of_beq_eq_true,λh=>by rw[h];exact Nat.beq_refl i⟩
theorem OO(h:a9)(y:a7):∀id b,cC y=some id->disown h (tV y) id=some b->b.own=false:=λid b a hb=>by
 rw[Al (Ds.2 a)]at hb
 cases e:h id with
 | none=>rw[e]at hb;cases hb
 | some c=>rw[e]at hb;cases hb;rfl
theorem OP{h0 h:a9}{y:a7}(hle:h0.le h)(a:∀id,cC y=some id->h0 id=none):h0.le (disown h (tV y)):=λi b hb=>by
 cases hm:dK (tV y) i with
 | true=>rw[a i (Ds.1 hm)]at hb;cases hb
 | false=>rw[xa hm];exact hle i b hb
theorem Bs.disown{h:a9}{x:a7}{b:List UInt8}(hb:Bs h x b)(ids:List Nat):Bs (Ab.disown h ids) x b:=⟨hb.1.imp λ_ r=>r.disown ids,hb.2⟩
theorem gT.disown{h:a9}{x:a7}{P:List iV}(a:gT h x P)(ids:List Nat):gT (Ab.disown h ids) x P:=⟨a.sl.imp λ_ r=>r.disown ids,λp b=>⟨(a.el p b).1.disown ids,(a.el p b).2.disown ids⟩⟩
theorem Ou:∃a,fQ 3 4611686018427387904 (gl 2000)=(a,0) /\ a.length=267 /\ ∀r∈a,r.ok:=by
 have h1:=OU;have d:=(yc 3 4611686018427387904 (gl 2000)).2.2.2;generalize fQ 3 4611686018427387904 (gl 2000)=p at *;obtain⟨l,e⟩:=p;simp only[Prod.mk.injEq]at h1;obtain⟨c,rfl⟩:=h1;refine⟨l,rfl,c,λr b=>?_⟩;have:=d r b;exact⟨by unfold ep;omega,by unfold ep;omega⟩
theorem Md(hD:B6 C)(s0:kk.Spec C N)(s1:gM.Spec C N)(s2:mn.Spec C N)(s3:gx.Spec C N){l:a7}{r:List iV}{h:a9}{Q:zQ}(K:gT h l r)(Z:r.length=11)(hq:∀h',h.le h'->Q (.bool true) h'):cF.mK C N Q l h:=by
 have H:A.cD [] [.int .i64 0,.int .i64 0,.int .i64 0,.str [],.int .u8 0,.aA,.aA]=some (.agg (cW.cs ⟨0,0,0,[],0,[],[]⟩ .aA .aA)):=rfl;have hs0:V.bU 0 7 (.agg (cW.cs ⟨0,0,0,[],0,[],[]⟩ .aA .aA)) (.agg [.int .i64 0,.int .i64 0,.int .i64 0,.str [],.int .u8 0,.aA,.aA])=some (.agg ((gl 0).cs .aA .aA)):=by simp -dsimp[gl]
 simp -dsimp only[cF.mK,H,hs0,B.aK];refine aB.intro (λn vs hh=>∃(k:Nat)(U:a7),k+n=2000 /\ vs=[.int .i64 ((k+1:Nat):Int),.agg ((gl k).cs .aA U)] /\ aG h hh [.sl 3 U (((List.range k).map rT).map fA.cs) []]) 2000 ?_ ⟨0,.aA,by omega,rfl,(aG.start h).aA 3⟩;rintro Y n vs h1 ⟨k,U,hk,rfl,J⟩ hY;have cU:U.aI=true:=(J.aP 0 rfl).aI;simp -dsimp only[cF.BD,cF.jL,V.AQ,B.aK];refine B.bF (λhc=>?_) (λhc=>?_)
 ·have f:k<2000:=by have:=of_decide_eq_true hc;omega
  have f1:V.aF 6 (.agg ((gl k).cs .aA U))=some U:=rfl;have e1:A.cD [(1,none,.int .i64 ((k+1:Nat):Int)),(2,none,(.int .i64 1))] [.int .i64 0,.int .i64 0,.int .i64 0]=some (.agg (rT k).cs):=rfl;have e2:bN [(0,some 3,.agg (rT k).cs)] (bG 1 [.int .i64 0,.int .i64 0,.int .i64 0])=some (rT k).cs:=rfl;simp -dsimp only[B.eJ,f1,e1,B.aK];rw[e2];refine J.push 0 rfl (cs:=(rT k).cs) rfl (by omega) (by simp;omega) (by simp[maxLen];omega) λO h7 o7 _=>?_;have cU':O.aI=true:=(o7.aP 0 rfl).aI;have e3:V.cL 6 O (.agg ((gl k).cs .aA U))=some (.agg ((gl (k+1)).cs .aA O)):=by simp -dsimp[cU',gl]
  simp -dsimp only[B.eJ,e3,eG (show k+1<4611686018427387904 by omega),B.aK];refine hY (n-1) _ _ (by omega) ⟨k+1,O,by omega,rfl,?_⟩;rw[range_succ,map_append,map_append];exact o7
 have f:k=2000:=by have:=of_decide_eq_false hc;omega
 subst f;have ht:kP h1 (gl 2000) .aA U:=⟨⟨[],aJ.aA h1 6⟩,⟨[],J.aP 0 rfl⟩⟩;obtain⟨LA,j,w,hok⟩:=Ou;have lU:(gl 2000).Uses.length <= 100000000:=by
  show ((List.range 2000).map rT).length <= _;rw[length_map,length_range];omega
 have lO:(gl 2000).bJ.length <= 100000000:=Nat.zero_le _;have ft:V.bM 0 7 (.agg ((gl 2000).cs .aA U))=some (.agg ((gl 2000).cs .aA U)):=rfl;have ct:∃cs,(a7.agg ((gl 2000).cs .aA U))= .agg cs:=⟨_,rfl⟩;generalize gl 2000=T at *;simp -dsimp only[cF.k9,ft,B.aK];refine s1 3 4611686018427387904 T .aA U h1 _ ht lO lU λa P h2 I o2=>?_;rw[j]at I;have I:P.map (·.1)=LA:=I;have nP:P.length=267:=by rw[<-w,<-I,length_map]
 rw[j];have la:V.aE a=some (.int .i64 267):=by
  have:=(o2.aP 0 rfl:aJ h2 2 a (P.map aQ.cs) []).aE;rw[length_map,nP]at this;exact this
 have n0:V.bin .neq (.int .i64 0) (.int .i64 0)=some (.bool false):=by simp -dsimp
 have n1:V.bin .neq (.int .i64 267) (.int .i64 267)=some (.bool false):=by simp -dsimp
 have q:=J.le;have l12:h1.le h2:=o2.le;obtain⟨Rl,rl⟩:=K.sl;have sa:aJ h2 2 a (P.map aQ.cs) []:=o2.aP 0 rfl;simp -dsimp only[cF.k8,V.AP,getElem?_cons_zero,getElem?_cons_succ,n0,n1,la,ft,B.eJ,B.ia,Bool.not_false,B.fN,B.nJ,B.aK];refine sa.yO (o2.lg 0 rfl) (M:=r.map aQ.cs) (rl.mono (a9.le_trans q l12)) (by omega) (by simp;omega) (by simp[maxLen];omega) λS d F hw3 hb3 hf3 ho3=>?_;have o3:aG h1 d (.sl 2 S (P.map aQ.cs++r.map aQ.cs) []::aQ.os false P):=o2.jB 0 rfl F hw3 hb3 hf3;have D:h1.le d:=o3.le;have oa:=(ho3 a (P.map aQ.cs) (Old.refl sa)).at_;have eA:∀p∈P,aQ.at_ d p.1 p.2:=λp c=>aQ.mG (b:=false) (hok _ (by rw[<-I];exact mem_map_of_mem c)) λo ho=>o3.is o (mem_cons_of_mem _ (mem_flatMap.2 ⟨p,c,ho⟩));have rA:gT d a P:=⟨⟨[],oa⟩,eA⟩;have l03:=a9.le_trans q D
 have X:gT d S (P++r):=⟨⟨[],by rw[map_append];exact F⟩,λp c=>by
  rcases mem_append.1 c with c|c
  ·exact eA p c
  ·exact aQ.mono l03 (K.el p c)⟩
 have G:∀id,cC a=some id->h1 id=none:=λid s=>(o2.own (.sl 2 a (P.map aQ.cs) []) (mem_cons_self ..) id s).1;have g1:h1.le (disown d (tV a)):=OP D G;have g0:=a9.le_trans q g1;have gn:=OO d a;simp -dsimp only[B.ia,Bool.not_false,B.fN];refine hD _ _ d (tV a) _ (λi hi=>oa.known (Ds.1 hi)) ?_;have rA:=rA.disown (tV a);have X:=X.disown (tV a);generalize disown d (tV a)=g at *;refine s2 3 4611686018427387904 999 T .aA U S _ g _ (ht.mono g1) X.dl (by simp;omega) ?_;have hb1:A.cD [(0,none,(.int .i64 (-1)))] [.int .i64 0,.int .i64 0,.int .i64 0,.str [],.int .u8 0,.aA,.aA]=some (.agg (cW.cs ⟨-1,0,0,[],0,[],[]⟩ .aA .aA)):=rfl;obtain⟨Ra,ra⟩:=rA.sl;have W:=rl.mono g0;obtain⟨y,R,y2,y3,y4,y5⟩:=ra.PU (k:=266) (j1:= .i64) (j2:= .i64) (j3:= .i64) (by simp;omega);have R:V.nX 2 a (.int .i64 0) (.int .i64 266) (.int .i64 266)=some y:=R;simp -dsimp only[V.jq,Bool.not_true,B.ia,Bool.not_false,B.fN,B.nJ,B.aK,hb1,R];refine y2.Qm y4 (λe=>absurd (congrArg List.length e) (by rw[length_take,length_map,nP];decide)) (λid b s hb=>?_) W (by omega) (λe=>absurd (congrArg List.length e) (by rw[length_map,Z];decide)) (by simp;omega) (by simp[maxLen];omega) λz L t=>?_
 ·rcases y3 with e|⟨e,_⟩
  ·rw[e]at s;exact gn id b s hb
  ·rw[e]at s;cases s
 have rZ:gT L z (P.take 266++r):=⟨⟨[],by rw[map_append,map_take];exact t.aP 0 rfl⟩,λp c=>by
  rcases mem_append.1 c with c|c
  ·exact aQ.mono t.le (rA.el p (mem_of_mem_take c))
  ·exact aQ.mono (a9.le_trans g0 t.le) (K.el p c)⟩
 have tz:∀(h':a9)(e:Int),kP h' ⟨e,0,0,[],0,[],[]⟩ .aA .aA:=λh' e=>⟨⟨[],aJ.aA h' 6⟩,⟨[],aJ.aA h' 3⟩⟩;simp -dsimp only[B.ia,Bool.not_false,B.fN];refine s2 3 4611686018427387904 0 ⟨-1,0,0,[],0,[],[]⟩ .aA .aA z _ L _ (tz _ _) rZ.dl (by simp;omega) ?_;have m:=rA.mono t.le;obtain⟨v,v1,v2⟩:=m.slice (lo:=1) (hi:=P.length) (u:=some (.int .i64 1)) (v:=none) (.inr ⟨_,rfl⟩) (.inl ⟨rfl,rfl⟩) (by omega) (by omega);simp -dsimp only[V.jq,Bool.not_true,B.ia,Bool.not_false,B.fN,B.nJ,B.aK,H,v1];refine s2 3 4611686018427387904 0 ⟨0,0,0,[],0,[],[]⟩ .aA .aA v _ L _ (tz _ _) v2.dl (by simp;omega) ?_;simp -dsimp only[V.jq,Bool.not_true,B.ia,Bool.not_false,B.fN,B.nJ,B.aK,B.cond_false];have E:=a9.le_trans g0 t.le;refine s3 l a r P L _ (K.mono E) m (by omega) (by omega) (by omega) λh6 x=>?_;simp -dsimp only[V.jq,Bool.not_true,B.aK,B.cond_false];exact Mc s0 s2 (m.mono x).dl (by simp;omega) λh' hle=>hq h' (a9.le_trans E (a9.le_trans x hle))
end Go.Ab
namespace Go.Ab
open List
variable{C:aC}{N:zN}
theorem MQ{α:Type}{L:List α}{i:Nat}{q:α}(h:L[i]?=some q):L=L.take i++q::L.drop (i+1):=by
 obtain⟨hi,e⟩:=List.getElem?_eq_some_iff.1 h
 conv=>lhs;rw[<-take_append_drop i L,drop_eq_getElem_cons hi,e]
theorem O6{α:Type}{A D:List α}{q r:α}{i:Nat}(h:A.length=i):(A++q::D).set i r=A++r::D:=by
 subst h;simp
theorem HE(b:UInt8):V.bin .add (.int .u8 (b.toNat:Int)) (.int .u8 1)=some (.int .u8 (((UInt8.ofNat (b.toNat+1)).toNat:Nat):Int)):=by
 rw[V.fP,<-Au];rfl
abbrev tM(x b a:a7)(A D:List iV)(w:Row):List Ob:=[.sl 2 x ((A++(w,(b,a))::D).map aQ.cs) [],.sl 1 b (w.Key.map bc) [],.sl 1 a (w.Value.map bc) []]++(aQ.os false A++aQ.os false D)
theorem Hr{h0 h:a9}{x e d:a7}{A D:List iV}{w:Row}(o:aG h0 h (tM x e d A D w))(hw:w.Key.length <= 1001 /\ w.Value.length <= 1001)(g:∀p∈A,p.1.ok)(f:∀p∈D,p.1.ok):gT h x (A++(w,(e,d))::D):=by
 have side:∀(E:List iV),(∀o∈aQ.os false E,o∈tM x e d A D w)->(∀p∈E,p.1.ok)->∀p∈E,aQ.at_ h p.1 p.2:=λE f hk p a=>
  aQ.mG (b:=false) (hk p a) λob c=>o.is ob (f ob (mem_flatMap.2 ⟨p,a,c⟩))
 refine⟨⟨[],o.aP 0 rfl⟩,λp a=>?_⟩;rcases mem_append.1 a with a|a
 ·exact side A (λob c=>mem_append_right _ (mem_append_left _ c)) g p a
 rcases mem_cons.1 a with rfl|a
 ·exact⟨⟨⟨[],o.aP 1 rfl⟩,by show w.Key.length <= ep;unfold ep;omega⟩,⟨⟨[],o.aP 2 rfl⟩,by show w.Value.length <= ep;unfold ep;omega⟩⟩
 ·exact side D (λob c=>mem_append_right _ (mem_append_right _ c)) f p a
theorem Lx(r:kU.Spec C N)(s1:mV.jJ C N){l m b a:a7}{I A D:List iV}{p:iV}{w:Row}{i k:Nat}{h0 h:a9}{Q:zQ}{R Y5:zL}(y:gT h0 l I)(x:I[i]?=some p)(K:p.1.Value.length <= 1000)(hw:w.Key.length <= 1000 /\ w.Value.length <= 1000)(F:∀p∈A,p.1.ok)(E:∀p∈D,p.1.ok)(e:A.length=i)(S:i <= 100)(O:D.length <= 1000)
  (hk:k<100000) (o:aG h0 h (tM m b a A D w)) (M:∀h',h0.le h'->Y5 [.int .i64 ((k+1:Nat):Int)] h'):cF.r5 C N Q R Y5 l (.int .i64 (i:Int)) (.int .i64 (k:Int)) m h:=by
 have hlen:∀w v,((A++((w,v):iV)::D).map (·.1)).length<4000000000000:=λw v=>by simp;omega
 simp -dsimp only[cF.r5];refine r m _ h _ (Hr o (by omega) F E).dl (hlen _ _) ?_;obtain⟨f1,_,_,f2,_,f3⟩:=(y.mono o.le).get x;have j:=((y.mono o.le).el p (mem_of_getElem? x)).2;simp -dsimp only[V.jq,Bool.not_true,B.cond_false,B.aK,f1,f2,f3,B.fw];refine s1 p.2.2 p.1.Value h _ j λz h1 f=>?_;have g:bN [(0,none,a7.int .u8 0)] (bG 1 [.int .u8 0])=some [.int .u8 0]:=rfl;rw[g];have f:aG h h1 [.sl 1 z (p.1.Value.map bc) []]:=f;refine f.push 0 rfl (cs:=[.int .u8 0]) rfl (by omega) (by simp;omega) (by simp[maxLen];omega) λc H o2 _=>?_;have o2:aG h H [.sl 1 c ((p.1.Value++[0]).map bc) []]:=by rw[map_append];exact o2
 have u:=o.join o2;have q:aJ H 2 m ((A++(w,(b,a))::D).map aQ.cs) []:=u.aP 0 rfl;have hi:i<((A++(w,(b,a))::D).map aQ.cs).length:=by simp;omega
 have e1:V.aM 2 m (.int .i64 (i:Int))=some (aV 2 m i 0):=q.dF hi;have P:V.fieldAddr 1 (aV 2 m i 0)=some (aV 2 m i 1):=q.jF hi 0 1;have L:((A++(w,(b,a))::D).map aQ.cs)[i]?=some [b,a]:=by
  rw[map_append,map_cons,getElem?_append_right (by simp;omega)];simp[e,aQ]
 simp -dsimp only[e1,P,B.aK];refine u.st 0 rfl L (by omega) (o2.aP 0 rfl).aI λG t _=>?_;have e3:((A++(w,(b,a))::D).map aQ.cs).set i ([b,a].set 1 c)=(A++(⟨w.Key,p.1.Value++[0]⟩,(b,c))::D).map aQ.cs:=by
  rw[map_append,map_cons,O6 (by simpa using e),map_append,map_cons];rfl
 rw[e3]at t;have s:aG h0 G (tM m b c A D ⟨w.Key,p.1.Value++[0]⟩):=by
  have:=t.perm (l':=(tM m b c A D ⟨w.Key,p.1.Value++[0]⟩)++[.sl 1 a (w.Value.map bc) []]) (by
   simp only[tM,cons_append,nil_append,set_cons_zero];refine .cons _ (.cons _ ?_);refine List.Perm.trans (l₂:= .sl 1 a (w.Value.map bc) []::(.sl 1 c ((p.1.Value++[0]).map bc) []::(aQ.os false A++aQ.os false D))) (.cons _ perm_append_comm) ?_;exact(perm_append_comm (l₁:=[Ob.sl 1 a (w.Value.map bc) []]) (l₂:= .sl 1 c ((p.1.Value++[0]).map bc) []::(aQ.os false A++aQ.os false D))))
  exact this.sub (sublist_append_left _ _)
 have d:=s.le;have e4:V.bin .rem (.int .i64 (k:Int)) (.int .i64 20)=some (.int .i64 ((k % 20:Nat):Int)):=by
  rw[V.HA _ _ _ (by omega),show (k:Int).tmod 20=((k % 20:Nat):Int) from rfl]
 have fin:∀h',h0.le h'->Y5 [.int .i64 ((k+1:Nat):Int)] h':=M;by_cases J:k % 20=0
 ·have n:V.bin .eql (.int .i64 ((k % 20:Nat):Int)) (.int .i64 0)=some (.bool true):=by simp -dsimp[J]
  simp -dsimp only[e4,n,B.mg,B.fN,B.aK];refine r m _ G _ (Hr s ⟨by show w.Key.length <= _;omega,by show (p.1.Value++[0]).length <= _;simp;omega⟩ F E).dl (hlen _ _) ?_;simp -dsimp only[V.jq,Bool.not_true,B.mg,B.fN,B.pR,B.cond_false,B.aK,eG (show k<4611686018427387904 by omega)];exact fin _ d
 ·have n:V.bin .eql (.int .i64 ((k % 20:Nat):Int)) (.int .i64 0)=some (.bool false):=by
   have:¬ ((k % 20:Nat):Int)=0:=by omega
   rw[show V.bin .eql (.int .i64 ((k % 20:Nat):Int)) (.int .i64 0)=some (.bool (decide (((k % 20:Nat):Int)=0))) by simp -dsimp,decide_eq_false this]
  simp -dsimp only[e4,n,B.mg,B.Aj,B.nJ,B.cond_false,B.aK,eG (show k<4611686018427387904 by omega)];exact fin _ d
end Go.Ab
namespace Go.Ab
open List
variable{C:aC}{N:zN}
theorem Hq{E D:List iV}{w w':Row}{a:a7×a7}:(E++(w,a)::D).map aQ.cs=(E++(w',a)::D).map aQ.cs:=by
 rw[map_append,map_append,map_cons,map_cons];rfl
theorem Mb(s0:kU.Spec C N)(s1:mV.jJ C N)(s2:jO.Spec C N){l:a7}{P:List iV}{p:iV}{i:Nat}{h0:a9}{Q:zQ}{Y4:zL}(hl:gT h0 l P)(H:P[i]?=some p)(S:P.length=11)
  (hs:∀q∈P,q.1.Key.length <= 1000 /\ q.1.Value.length <= 1000) (hY:∀h',h0.le h'->Y4 [.int .i64 ((i+1:Nat):Int)] h'):aB (cF.wP C N Q Y4 l (.int .i64 (i:Int))) [.int .i64 0] h0:=by
 have hi:=(List.getElem?_eq_some_iff.1 H).1;have z:=mem_of_getElem? H;obtain⟨z1,z2⟩:=hs p z;refine aB.intro (λn vs hh=>h0.le hh /\ ∃k:Nat,k+n=p.1.Value.length+p.1.Key.length /\ vs=[.int .i64 (k:Int)]) (p.1.Value.length+p.1.Key.length) ?_ ⟨a9.le_refl _,0,by omega,rfl⟩;rintro Y5 n vs h ⟨y,k,hk,rfl⟩ Z;have a:=hl.mono y;obtain⟨f1,_,f4,f2,f5,f3⟩:=a.get H;have X:=(a.el p z).2;have Y:=(a.el p z).1;have T:=X.aE;have lk:=Y.aE;simp -dsimp only[cF.wP,cF.zg,f1,f2,f3,f4,f5,T,lk,sI (show p.1.Value.length+p.1.Key.length<4611686018427387904 by omega),gH,B.fw,B.aK];refine B.bF (λhc=>?_) (λhc=>?_)
 rotate_left
 ·simp -dsimp only[eG (show i<4611686018427387904 by omega),B.aK]
  exact hY _ y
 rw[decide_eq_true_eq]at hc;refine s2 l _ h _ a.dl (by simp;omega) λm t x eM oM=>?_;have nM:t.length=11:=by have:=congrArg List.length eM;simpa[S]using this
 have v:∀q∈t,q.1.ok:=λq u=>by
  have:q.1∈P.map (·.1):=by rw[<-eM];exact mem_map_of_mem u
  obtain⟨r,hr,e⟩:=mem_map.1 this;rw[<-e];have:=hs r hr;exact⟨by unfold ep;omega,by unfold ep;omega⟩
 obtain⟨q,u⟩:=dI (L:=t) (k:=i) (by omega);have G:q.1=p.1:=by
  have h1:(t.map (·.1))[i]?=some q.1:=by rw[getElem?_map,u];rfl
  rw[eM,getElem?_map,H]at h1;exact(Option.some.inj h1).symm
 obtain⟨qr,g,d⟩:=q;have G:qr=p.1:=G;subst G;have U:=MQ u;have O:(t.take i).length=i:=by rw[length_take];omega
 have hA:∀q∈t.take i,q.1.ok:=λq u=>v q (mem_of_mem_take u);have hD:∀q∈t.drop (i+1),q.1.ok:=λq u=>v q (mem_of_mem_drop u);have hDn:(t.drop (i+1)).length <= 1000:=by rw[length_drop];omega
 generalize t.take i=E at *;generalize t.drop (i+1)=D at *;subst U;have o:aG h x (tM m g d E D p.1):=by
  refine aG.perm oM ?_;rw[DK.um];refine .cons _ ?_;exact perm_append_comm_assoc (aQ.os false E) [Ob.sl 1 g (p.1.Key.map bc) [],Ob.sl 1 d (p.1.Value.map bc) []] (aQ.os false D)
 have W:=a.mono o.le;obtain⟨g1,_,g4,g2,g5,g3⟩:=W.get H;have I:aJ x 2 m ((E++(p.1,(g,d))::D).map aQ.cs) []:=o.aP 0 rfl;have F:i<((E++(p.1,(g,d))::D).map aQ.cs).length:=by simp;omega
 have M:((E++(p.1,(g,d))::D).map aQ.cs)[i]?=some [g,d]:=by
  rw[map_append,map_cons,getElem?_append_right (by simp;omega)];simp[O,aQ]
 have m1:V.aM 2 m (.int .i64 (i:Int))=some (aV 2 m i 0):=I.dF F;have m2:V.fieldAddr 1 (aV 2 m i 0)=some (aV 2 m i 1):=I.jF F 0 1;have m3:A.bX x (aV 2 m i 1)=some d:=I.bX M (by omega);have m4:V.fieldAddr 0 (aV 2 m i 0)=some (aV 2 m i 0):=I.jF F 0 0;have m5:A.bX x (aV 2 m i 0)=some g:=I.bX M (by omega);have fin:∀{w:Row}{R:a9},aG h R (tM m g d E D w)->w.Key.length <= 1000 /\ w.Value.length <= 1000->cF.r5 C N Q Y4 Y5 l (.int .i64 (i:Int)) (.int .i64 (k:Int)) m R:=λJ hw=>
  Lx s0 s1 a H z2 hw hA hD O (by omega) hDn (by omega) J λh' hle=>Z (n-1) _ _ (by omega) ⟨a9.le_trans y hle,k+1,by omega,rfl⟩
 simp -dsimp only[cF.wS,g1,g2,g3,T,gH,B.fw,B.aK];refine B.bF (λs=>?_) (λs=>?_)
 ·rw[decide_eq_true_eq]at s
  obtain⟨b,hb⟩:=dI s;have sv:aJ x 1 d (p.1.Value.map bc) []:=o.aP 2 rfl;have v1:V.aM 1 d (.int .i64 (k:Int))=some (aV 1 d k 0):=sv.dF (by rw[length_map];exact s);have v2:A.bX x (aV 1 d k 0)=some (.int .u8 (b.toNat:Int)):=sv.cell (by rw[getElem?_map,hb];rfl);simp -dsimp only[m1,m2,m3,v1,v2,HE,B.fw,B.aK];refine o.st 2 rfl (i:=k) (f:=0) (c:=bc b) (by rw[getElem?_map,hb];rfl) (by omega) rfl λR J _=>?_;refine fin (w:=⟨p.1.Key,p.1.Value.set k (UInt8.ofNat (b.toNat+1))⟩) ?_ ⟨z1,by show (p.1.Value.set k _).length <= _;rw[length_set];exact z2⟩;unfold tM;rw[Hq (w':=p.1),map_set];exact J
 ·rw[decide_eq_false_iff_not]at s
  obtain⟨j,hj⟩:∃j,k=p.1.Value.length+j:=⟨k-p.1.Value.length,by omega⟩;have K:j<p.1.Key.length:=by omega
  obtain⟨b,hb⟩:=dI K;have sk:aJ x 1 g (p.1.Key.map bc) []:=o.aP 1 rfl;have v1:V.aM 1 g (.int .i64 (j:Int))=some (aV 1 g j 0):=sk.dF (by rw[length_map];exact K);have v2:A.bX x (aV 1 g j 0)=some (.int .u8 (b.toNat:Int)):=sk.cell (by rw[getElem?_map,hb];rfl);have e1:V.bin .sub (.int .i64 (k:Int)) (.int .i64 (p.1.Value.length:Int))=some (.int .i64 (j:Int)):=by
   rw[V.nI,wrap_i64 (by omega) (by omega)];congr 2;omega
  simp -dsimp only[m1,m4,m5,g1,g2,g3,T,e1,v1,v2,HE,B.fw,B.aK];refine o.st 1 rfl (i:=j) (f:=0) (c:=bc b) (by rw[getElem?_map,hb];rfl) (by omega) rfl λR J _=>?_;refine fin (w:=⟨p.1.Key.set j (UInt8.ofNat (b.toNat+1)),p.1.Value⟩) ?_ ⟨by show (p.1.Key.set j _).length <= _;rw[length_set];exact z1,z2⟩;unfold tM;rw[Hq (w':=p.1),map_set];exact J
theorem Ly(W:B6 C)(j:kU.Spec C N)(s1:mV.jJ C N)(s2:jO.Spec C N)(M:kk.Spec C N)(L:gM.Spec C N)(K:mn.Spec C N)(J:gx.Spec C N){l:a7}{a:List iV}{h0:a9}{Q:zQ}(g:gT h0 l a)(e:a.length=11)
  (R:∀q∈a,q.1.Key.length <= 1000 /\ q.1.Value.length <= 1000) (S:∀h',h0.le h'->Q (.bool true) h'):aB (cF.sU C N Q l) [.int .i64 0] h0:=by
 have ll:=g.aE;refine aB.intro (λn vs U=>h0.le U /\ ∃i:Nat,i+n=a.length /\ vs=[.int .i64 (i:Int)]) a.length ?_ ⟨a9.le_refl _,0,by omega,rfl⟩;rintro Z n vs h ⟨b,i,hi,rfl⟩ m;simp -dsimp only[cF.sU,cF.xK,ll,gH,B.aK];refine B.bF (λk=>?_) (λk=>?_)
 rotate_left
 ·exact Md W M L K J (g.mono b) e λh' hle=>S h' (a9.le_trans b hle)
 rw[decide_eq_true_eq]at k;obtain⟨p,T⟩:=dI k;have c:=g.mono b;obtain⟨u,I,H⟩:=c.slice (lo:=0) (hi:=i) (u:=none) (v:=some (.int .i64 (i:Int))) (.inl ⟨rfl,rfl⟩) (.inr ⟨_,rfl⟩) (by omega) (by omega);obtain⟨w,G,F⟩:=c.slice (lo:=i+1) (hi:=a.length) (u:=some (.int .i64 ((i+1:Nat):Int))) (v:=none) (.inr ⟨_,rfl⟩) (.inl ⟨rfl,rfl⟩) (by omega) (by omega);obtain⟨x,E,D⟩:=c.slice (lo:=0) (hi:=i+1) (u:=none) (v:=some (.int .i64 ((i+1:Nat):Int))) (.inl ⟨rfl,rfl⟩) (.inr ⟨_,rfl⟩) (by omega) (by omega);obtain⟨y,A,z⟩:=c.slice (lo:=i) (hi:=a.length) (u:=some (.int .i64 (i:Int))) (v:=none) (.inr ⟨_,rfl⟩) (.inl ⟨rfl,rfl⟩) (by omega) (by omega);have t:=eG (show i<4611686018427387904 by omega);have lens:∀{lo hi:Nat},((a.take hi).drop lo).length <= 11:=fun{lo hi}=>by rw[length_drop,length_take];omega
 simp -dsimp only[cF.wR,I,t,G,B.aK];have L1:= @lens 0 i;have L2:= @lens (i+1) a.length;have L3:= @lens 0 (i+1);have L4:= @lens i a.length;refine(sJ.start h).app H (by simp only[length_nil];omega) λz1 h1 P=>?_;refine P.app F (by rw[nil_append];omega) λz2 s r2=>?_;refine j z2 _ s _ r2.at.dl (by rw[length_map,nil_append,length_append];omega) ?_;have d:=r2.o.le;simp -dsimp only[V.jq,Bool.not_true,gE,bH,B.ia,Bool.not_false,B.fN,t,E,A,B.aK];refine(sJ.start s).app (D.mono d) (by simp only[length_nil];omega) λz3 Y O=>?_;simp -dsimp only[gE,bH,B.ia,Bool.not_false,B.fN];refine O.app (z.mono d) (by rw[nil_append];omega) λz4 X r=>?_;simp -dsimp only[gE,bH,B.ia,Bool.not_false,B.fN];refine j z4 _ X _ r.at.dl (by rw[length_map,nil_append,length_append];omega) ?_;simp -dsimp only[V.jq,Bool.not_true,gE,bH,B.ia,Bool.not_false,B.fN,B.nJ,B.cond_false,B.aK];have f:=a9.le_trans b (a9.le_trans d r.o.le);exact Mb j s1 s2 (g.mono f) T e R λh' hle=>m (n-1) _ _ (by omega) ⟨a9.le_trans f hle,i+1,by omega,rfl⟩
def cF.Spec(C:aC)(N:zN):Prop:=∀(h:a9)(Q:zQ),Q (.bool true) h->C (N 462) [] h Q
theorem cF.spec(i:cF.aD C N)(hD:B6 C)(E:kU.Spec C N)(s1:mV.jJ C N)(s2:jO.Spec C N)(s3:kk.Spec C N)(A:gM.Spec C N)(s5:mn.Spec C N)(s6:gx.Spec C N)(T:fD.Spec C N)(s8:pI.Spec C N)(S:lI.Spec C N)(g:qj.Spec C N)(D:cM.Spec C N):cF.Spec C N:=by
 intro h Q I;apply i;refine aB.intro (λn vs hh=>h.le hh /\ ∃k:Nat,k+n=17 /\ vs=[.int .i64 (k:Int)]) 17 ?_ ⟨a9.le_refl _,0,by omega,rfl⟩;rintro Y n vs h0 ⟨u,k,hk,rfl⟩ hY;simp -dsimp only[cF.BC,cF.zf,V.mw,B.aK];refine B.bF (λX=>?_) (λX=>?_)
 ·have W:k<17:=by have:=of_decide_eq_true X;omega
  refine T h0 _ λx P y z h1 L j=>?_;have M:iD h1 kr x y z:=fU.at j (λo d=>d) L HR (by omega);refine S kr x y z (k:Int) h1 _ M (by simp[kr]) (by simp[kr,uw]) (by simp[kr]) (by simp[kr,uw]) (by simp[kr,wb]) OL λs' x' y' z' a s w2=>?_;refine g s' x' y' z' a _ w2 ?_;simp -dsimp only[V.jq,Bool.not_true,gE,bH,B.ia,Bool.not_false,B.fN,B.aK];refine s8 a _ λR P3 O z3 Z K U=>?_;have a3:iD Z jS R O z3:=fU.at U (λo d=>d) K AA (by omega);simp -dsimp only[gE,bH,B.ia,Bool.not_false,B.fN]
  refine S jS R O z3 (k:Int) Z _ a3 (by simp[jS]) (by simp[jS]) (by simp[jS]) (by simp[jS]) (by simp[jS]) (λt ht=>by
   rw[mem_singleton.1 (show t∈[uA] from ht)];exact⟨by simp[uA],by simp[uA],by simp[uA],by simp[uA],by simp[uA]⟩) λA x4 y4 z4 h4 r w4=>?_
  simp -dsimp only[gE,bH,B.ia,Bool.not_false,B.fN];refine g A x4 y4 z4 h4 _ w4 ?_;simp -dsimp only[V.jq,Bool.not_true,gE,bH,B.ia,Bool.not_false,B.fN,B.nJ,B.cond_false,B.aK,eG (show k<4611686018427387904 by omega)];exact hY (n-1) _ _ (by omega) ⟨a9.le_trans u (a9.le_trans j.le (a9.le_trans s (a9.le_trans U.le r))),k+1,by omega,rfl⟩
 refine T h0 _ λx P y z h1 L j=>?_;have M:iD h1 kr x y z:=fU.at j (λo d=>d) L HR (by omega);refine D kr x y z h1 _ M (by simp[kr,uw,wb]) λl w a eL F=>?_;have J:∀p∈w,aQ.ok p.1:=λp v=>by
  have:=FZ p.1 (by rw[<-eL];exact mem_map_of_mem v);exact⟨by unfold ep;omega,by unfold ep;omega⟩
 have f:gT a l w:=⟨⟨[],F.aP 0 rfl⟩,λp v=>aQ.mG (b:=false) (J p v) λo d=>F.is o (mem_cons_of_mem _ (mem_flatMap.2 ⟨p,v,d⟩))⟩;have m:w.length=11:=by rw[<-Oh,<-eL,length_map]
 obtain⟨r4,e4,H⟩:=Nw;rw[<-eL,getElem?_map]at e4;obtain⟨e,c,rfl⟩:=Option.map_eq_some_iff.1 e4;have hs:∀q∈w,q.1.Key.length <= 1000 /\ q.1.Value.length <= 1000:=λq I=>FZ q.1 (by rw[<-eL];exact mem_map_of_mem I);have G:h.le a:=a9.le_trans u (a9.le_trans j.le F.le);have ll:=f.aE;rw[m]at ll;obtain⟨f1,_,f4,f2,f5,f3⟩:=f.get c;have f1:V.aM 2 l (.int .i64 4)=some (aV 2 l 4 0):=f1;have lv:=(f.el e (mem_of_getElem? c)).2.aE;have lk:=(f.el e (mem_of_getElem? c)).1.aE;have n1:V.bin .neq (.int .i64 ((11:Nat):Int)) (.int .i64 11)=some (.bool false):=by simp -dsimp
 have n2:V.bin .neq (.int .i64 ((e.1.Key.length+e.1.Value.length:Nat):Int)) (.int .i64 205)=some (.bool false):=by rw[H];simp -dsimp
 simp -dsimp only[cF.wQ,ll,n1,f1,f2,f3,f4,f5,lv,lk,sI (show e.1.Key.length+e.1.Value.length<4611686018427387904 by omega),n2,gE,bH,B.ia,Bool.not_false,B.fN,B.nJ,B.fw,B.aK];refine E l _ a _ f.dl (by rw[length_map];omega) ?_;simp -dsimp only[V.jq,Bool.not_true,gE,bH,B.ia,Bool.not_false,B.fN,B.nJ,B.aK];refine E .aA [] a _ (Dl.aA aQ a) (by simp) ?_;simp -dsimp only[V.jq,Bool.not_true,gE,bH,B.ia,Bool.not_false,B.fN,B.nJ,B.aK,B.cond_false];exact Ly hD E s1 s2 s3 A s5 s6 f m hs λh' hle=>ln (a9.le_trans G hle) I
end Go.Ab
namespace Go.Ab
open List
variable{C:aC}{N:zN}
def nY:js:=⟨λi=>if i=15 then 2 else 1,λi=>if i=4 then 140737488351232 else 100000000,λi=>decide (i=4)||decide (i=15)⟩
theorem lh{i g:Nat}(h:nY.full i=false)(s:cH C g):je C nY i g:=⟨λe=>(by rw[h]at e;cases e),λ_=>s⟩
theorem HP{i g:Nat}(h:nY.full i=true)(s:oD C (nY.es i) (nY.mh i) g):je C nY i g:=⟨λ_=>s,λe=>(by rw[h]at e;cases e)⟩
theorem mo.Eg(i:mo.aD C N)(f0:cH C (N 80))(f1:cH C (N 81))(f2:cH C (N 82))(f3:cH C (N 83))(f4:oD C 1 140737488351232 (N 84))(f5:cH C (N 85))(f6:cH C (N 86))(f7:cH C (N 87))(f8:cH C (N 88))(f9:cH C (N 89))
  (f10:cH C (N 90)) (f11:cH C (N 91)) (f12:cH C (N 92)) (f13:cH C (N 93)) (f14:cH C (N 94)) (f15:oD C 2 100000000 (N 95)) (f16:cH C (N 96)) (f17:cH C (N 97)) (f18:cH C (N 98)) (f19:cH C (N 99)) (f20:cH C (N 100)) (f21:cH C (N 101)) (f22:cH C (N 102)):oU C nY (N 62):=by
 exact CN i nY (lh rfl f0) (lh rfl f1) (lh rfl f2) (lh rfl f3) (HP rfl f4) (lh rfl f5) (lh rfl f6) (lh rfl f7) (lh rfl f8) (lh rfl f9) (lh rfl f10) (lh rfl f11) (lh rfl f12) (lh rfl f13) (lh rfl f14) (HP rfl f15) (lh rfl f16) (lh rfl f17) (lh rfl f18) (lh rfl f19) (lh rfl f20) (lh rfl f21) (lh rfl f22)
theorem Pl(b a:LK):iu nY (λi=>if i=15 then a else if i=4 then b else []) 0 23=b.map (jK 1)++a.map (jK 2):=by
 have e:List.range' 0 23=[0,1,2,3,4,5,6,7,8,9,10,11,12,13,14,15,16,17,18,19,20,21,22]:=rfl;unfold iu;rw[e];simp[nY]
theorem OM(i:Nat)(h:nY.full i=false):i≠15 /\ i≠4:=by
 simp only[nY,Bool.or_eq_false_iff,decide_eq_false_iff_not]at h;omega
theorem lH.Eg(i:lH.aD C N)(s1:mO.aD C N)(s2:y0 aQ v3 C (N 315))(d:oU C nY (N 62)):Bj aQ C (N 307):=by
 intro ls x W h0 h Q hx f c g j e;refine i x h Q ?_;show oQ C (N 312) (N 62) x h (dn Q);exact LZ (K:=aQ) (inn:=v3) (b:=nY) (k:=15) (fo:=N 315) (fu:=N 312) (fb:=N 62) (by omega) (by omega) OM rfl (by simp[nY]) Pl (λt a=>rfl) Mp (λt a=>by simp[v3]) s1 s2 d hx f c g j λh' hle=>aR (e h' hle)
end Go.Ab
namespace Go.Ab.B4
open List
open Go.Ab Go.Proofs
def fD.I:Bx:=⟨[0,1,2],[11,22,28,34,39],41,[]⟩
theorem fD.L0{C:aC}(Q:zQ)(s:bB)(h:a9)(F:zQ)(a:F (.agg [i6 0,i6 0,i6 0,.aA,.aA,.aA]) h):dM P C fD.I (cA (Tryz.f38.body.getD .skip)) (Ex.then (λs h=>F (s 41) h) (pb P fD.I Tryz.f38.results.toList Q)) s h:=e1 a
theorem fD.L:sW P fD.I Tryz.f38 λC Q s h=>fD.aY C N h Q:=λ{C} b Q s h a=>eS b (λs h=>fD.k5 C N Q (s 41) h) (fD.L0 Q s h (fD.k5 C N Q) a) (λs h a=>eS b (λs h=>fD.k4 C N Q (s 41) (s 42) h) (e1 a) (λs h a=>eS b (λs h=>aB (fD.l3 C N Q (s 41) (s 42)) [(i6 0),(s 43)] h) (e1 a) (λs h a=>eS b (λs h=>fD.k1 C N Q (s 41) (s 42) (s 43) h) (eS b (λs h=>aB (fD.l3 C N Q (s 41) (s 42)) [(s 3),(s 43)] h) (e1 a) (λs h a=>eK (eL b [41,42] [3,43] (cV (fD.l3 C N Q)) a (λY1 s h a=>e1 a)))) (λs h a=>eS b (λs h=>fD.Iq C N Q (s 41) (s 42) h) (e1 a) (λs h a=>eS b (λs h=>fD.Ip C N Q (s 41) (s 42) h) (e1 a) (λs h a=>eS b (λs h=>fD.Io C N Q (s 41) (s 42) h) (e1 a) (λs h a=>e1 a)))))))
theorem fD.imp:fD.aD (AC P) N:=λh Q a=>eF mixed (fn:=Tryz.f38) (λb=>fD.L b (dn Q) (fv []) h a)
end Go.Ab.B4
