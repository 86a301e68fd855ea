/- What is proved: a part of the way to the statement: CkitH. No conditions. -/
import Derived.Test.YtlcijlhcilgknaaGreatQ9
import Derived.Test.YtlcijlhcilgknaaGreatQ8
set_option linter.unusedVariables false
set_option linter.unusedSimpArgs false
set_option maxRecDepth 100000
namespace Go.Ab
variable{C:zh}{N:zN}
abbrev LKs:=Nat->LK
namespace LKs
def none:LKs:=λ_=>[]
def one(k:Nat)(q:za×List (List za)):LKs:=λi=>if i=k then [q] else []
def add(D E:LKs):LKs:=λi=>D i++E i
def sum{α:Type}(l:List α)(f:α->LKs):LKs:=λi=>l.flatMap λa=>f a i
def on(L:Nat->List za)(D:LKs):Nat->List za:=λi=>L i++(D i).map (·.1)
theorem on_on(L:Nat->List za)(D E:LKs):on (on L D) E=on L (D.add E):=by
 funext i;simp[on,add]
theorem on_one(L:Nat->List za)(k:Nat)(q:za×List (List za)):upf L k (L k++[q.1])=on L (one k q):=by
 funext i;unfold upf on one;by_cases h:i=k
 ·subst h;simp
 ·simp[h]
theorem sum_take{α:Type}{l:List α}{f:α->LKs}{j:Nat}{a:α}(h:l[j]?=some a):sum (l.take (j+1)) f=(sum (l.take j) f).add (f a):=by
 funext i;simp only[sum,add];rw[take_succ h,List.flatMap_append];simp
theorem sum_le{α:Type}(l:List α)(f:α->LKs)(j i:Nat):(sum (l.take j) f i).length <= (sum l f i).length:=by
 have:sum l f i=sum (l.take j) f i++(l.drop j).flatMap λa=>f a i:=by
  simp only[sum];rw[<-List.flatMap_append,List.take_append_drop]
 rw[this,List.length_append];omega
theorem zyk{α:Type}{l:List α}{f:α->LKs}{j:Nat}{a:α}(h:l[j]?=some a)(i:Nat):(sum (l.take j) f i).length+(f a i).length <= (sum l f i).length:=by
 have:=sum_le l f (j+1) i;rw[sum_take h]at this;simpa[add]using this
end LKs
theorem zue(b:zwl)(D E:LKs)(i n:Nat):(zlt b (D.add E) i n).Perm (zlt b D i n++zlt b E i n):=by
 induction n generalizing i with
 | zero=>exact List.Perm.refl _
 | succ n ih=>
  rw[zo4,zo4,zo4];show ((D i++E i).map _++_).Perm _;rw[List.map_append];generalize (D i).map (obK (b.es i))=p;generalize (E i).map (obK (b.es i))=q;have:=ih (i+1);generalize zlt b (D.add E) (i+1) n=r at *;generalize zlt b D (i+1) n=u at *;generalize zlt b E (i+1) n=v at *;rw[List.append_assoc,List.append_assoc];refine List.Perm.append_left p ((List.Perm.append_left q this).trans ?_);rw[<-List.append_assoc,<-List.append_assoc];exact List.perm_append_comm.append_right v
theorem bagOb_none(b:zwl)(i n:Nat):zlt b LKs.none i n=[]:=by simp[zlt,LKs.none]
theorem zx4(b:zwl){k:Nat}(hk:k<23)(q:za×List (List za)):zlt b (LKs.one k q) 0 23=[obK (b.es k) q]:=by
 have g:∀(n i:Nat),zlt b (LKs.one k q) i n=if i <= k /\ k<i+n then [obK (b.es k) q] else []:=by
  intro n
  induction n with
  | zero=>intro i;rw[if_neg (by omega)];rfl
  | succ n ih=>
   intro i;rw[zo4,ih];by_cases h:i=k
   ·subst h
    rw[if_neg (by omega),if_pos (by omega)];simp[LKs.one]
   ·have:LKs.one k q i=[]:=by simp[LKs.one,h]
    rw[this];by_cases h2:i+1 <= k /\ k<i+1+n
    ·rw[if_pos h2,if_pos (by omega)];rfl
    ·rw[if_neg h2,if_neg (by omega)];rfl
 rw[g,if_pos (by omega)]
theorem bagOb_sum(b:zwl){α:Type}(l:List α)(f:α->LKs):(zlt b (LKs.sum l f) 0 23).Perm (l.flatMap λa=>zlt b (f a) 0 23):=by
 induction l with
 | nil=>rw[show LKs.sum ([]:List α) f=LKs.none from rfl,bagOb_none];exact List.Perm.refl _
 | cons a l ih=>
  have:LKs.sum (a::l) f=(f a).add (LKs.sum l f):=by funext i;simp[LKs.sum,LKs.add]
  rw[this,List.flatMap_cons];exact(zue b _ _ _ _).trans (ih.append_left _)
section
variable{T Ad:Type}
def OneG(K:DK T Ad)(inn:T->Ad->LKs)(C:zh)(g:Nat):Prop:=∀(h hh:zb)(id:Nat)(L:Nat->List za)(t:T)(a:Ad)(Q:zQ),zpr h hh id L->K.at_ h t a->(∀i,(L i).length+(inn t a i).length <= 100000000)->(∀h',zpr h h' id (LKs.on L (inn t a))->Q (.tup []) h')->C g [.ptr id 0 0,.agg (K.cells t a)] hh Q
def zsa(K:DK T Ad)(inn:T->Ad->LKs)(k:Nat)(y:za)(P:List (T×Ad)):LKs:=(LKs.one k (y,P.map K.cs)).add (LKs.sum P λp=>inn p.1 p.2)
def PutG(K:DK T Ad)(inn:T->Ad->LKs)(k:Nat)(C:zh)(g:Nat):Prop:=∀(h hh:zb)(id:Nat)(L:Nat->List za)(y:za)(P:List (T×Ad))(R:List (List za))(Q:zQ),zpr h hh id L->SlX h K.n y (P.map K.cs) R->(∀p∈P,K.at_ h p.1 p.2)->P.length <= 100000000->(∀i,(L i).length+(zsa K inn k y P i).length <= 100000000)->(∀h',zpr h h' id (LKs.on L (zsa K inn k y P))->Q (.tup []) h')->C g [.ptr id 0 0,y] hh Q
variable{K:DK T Ad}{inn:T->Ad->LKs}
theorem addL_le{K:DK T Ad}{inn:T->Ad->LKs}{k:Nat}{y:za}{P:List (T×Ad)}{j:Nat}{p:T×Ad}(hp:P[j]?=some p)(i:Nat):((LKs.one k (y,P.map K.cs)).add (LKs.sum (P.take j) λp=>inn p.1 p.2) i).length+(inn p.1 p.2 i).length <= (zsa K inn k y P i).length:=by
 have:=LKs.zyk (f:=λp:T×Ad=>inn p.1 p.2) hp i;simp only[zsa,LKs.add,List.length_append];omega
theorem zyt{k f g:Nat}(hk:k<23)(s1:OneG K inn C f)(i:∀(v0 v1:za)(h:zb)(Q:zQ),putD C k K.n f v0 v1 h (dn Q)->C g [v0,v1] h Q):PutG K inn k C g:=by
 intro h hh id L y P R Q hb hy ha hP hl hq;refine i _ _ _ _ ?_;have hl1:(L k).length <= 100000000:=by have:=hl k;omega
 refine zqk hk hb hy.zbl hl1 λh1 hb1=>?_;have e0:upf L k (L k++[y])=LKs.on L (LKs.one k (y,P.map K.cs)):=LKs.on_one L k (y,P.map K.cs);rw[e0]at hb1
 refine zd.intro (λn vs hh=>∃j:Nat,j+n=P.length /\ vs=[.int .i64 (j:Int)] /\ zpr h hh id (LKs.on L ((LKs.one k (y,P.map K.cs)).add (LKs.sum (P.take j) λp=>inn p.1 p.2)))) P.length ?_ ⟨0,by simp,rfl,by
  have:LKs.on L ((LKs.one k (y,P.map K.cs)).add (LKs.sum (P.take 0) λp=>inn p.1 p.2))=LKs.on L (LKs.one k (y,P.map K.cs)):=by funext i;simp[LKs.on,LKs.add,LKs.sum]
  rw[this];exact hb1⟩
 rintro Y n vs h2 ⟨j,hj,rfl,hb2⟩ hY;have hyy:=hy.mono hb2.le;have hly:=hyy.zbg;rw[List.length_map]at hly;simp -dsimp only[putD.l2,putD.k1,hly,V.zei,B.ze];refine B.zl (λhc=>?_) (λhc=>?_)
 ·have hjl:j<P.length:=by simpa using hc
  obtain⟨p,hp⟩:=zgd hjl;have ea:=slX_el (K:=K) hyy (λq hq=>K.mono hb2.le (ha q hq)) hp;simp -dsimp only[ea.idx,ea.ldn,B.ze,B.zno];refine s1 h h2 id _ p.1 p.2 _ hb2 (ha p (List.mem_of_getElem? hp)) (λi=>?_) λh3 hb3=>?_
  ·have h1:=hl i
   have h2:=addL_le (K:=K) (inn:=inn) (k:=k) (y:=y) hp i;simp only[LKs.on,List.length_append,List.length_map]at h2 ⊢;omega
  simp -dsimp only[zg0 (show j<4611686018427387904 by omega),B.ze];refine hY (P.length-(j+1)) _ _ (by omega) ⟨j+1,by omega,rfl,?_⟩;rw[LKs.sum_take hp];rw[LKs.on_on]at hb3;have:((LKs.one k (y,P.map K.cs)).add (LKs.sum (P.take j) λp=>inn p.1 p.2)).add (inn p.1 p.2)=(LKs.one k (y,P.map K.cs)).add ((LKs.sum (P.take j) λp=>inn p.1 p.2).add (inn p.1 p.2)):=by funext i;simp[LKs.add]
  rw[this]at hb3;exact hb3
 ·have hjl:j=P.length:=by
   have:¬ (j:Int)<P.length:=by simpa using hc
   omega
  rw[hjl,List.take_length]at hb2;exact z8 (hq h2 hb2)
structure Fits(b:zwl)(D:LKs):Prop where
 none:∀i,i<23->b.full i=false->D i=[]
 n_le:∀i,(D i).length <= 100000000
 zn7:∀i,i<23->∀q∈D i,q.2.length <= b.lim i
def allL(K:DK T Ad)(inn:T->Ad->LKs)(k:Nat)(ls:List (za×List (T×Ad))):LKs:=LKs.sum ls λp=>zsa K inn k p.1 p.2
def ApartG(K:DK T Ad)(inn:T->Ad->LKs)(k:Nat)(b:zwl)(C:zh)(g:Nat):Prop:=∀(ls:List (za×List (T×Ad)))(x:za)(W:List (List za))(h0 h:zb)(Q:zQ),SlX h0 1 x (ls.map λp=>[p.1]) W->zcx h0 h (allOb K ls)->(∀p∈ls,∀q∈p.2,K.ok q.1)->ls.length <= 100000->(∀p∈ls,p.2.length <= 100000000)->Fits b (allL K inn k ls)->(∀h',h0.le h'->Q (.bool true) h')->C g [x] h Q
theorem zxo{b:zwl}{k:Nat}(hk:k<23)(he:b.es k=K.n)(hinn:∀t a,(K.obs false t a).Perm (zlt b (inn t a) 0 23))(y:za)(P:List (T×Ad)):(Ob.sl K.n y (P.map K.cs) []::K.os false P).Perm (zlt b (zsa K inn k y P) 0 23):=by
 refine List.Perm.trans ?_ (zue b _ _ _ _).symm;rw[zx4 b hk,he];refine List.Perm.append (l₁:=[_]) (List.Perm.refl _) ?_;refine List.Perm.trans ?_ (bagOb_sum b _ _).symm
 induction P with
 | nil=>exact List.Perm.refl _
 | cons p P ih=>rw[List.flatMap_cons,List.flatMap_cons];exact(hinn _ _).append ih
theorem allG_perm{b:zwl}{k:Nat}(hk:k<23)(he:b.es k=K.n)(hinn:∀t a,(K.obs false t a).Perm (zlt b (inn t a) 0 23))(ls:List (za×List (T×Ad))):(allOb K ls).Perm (zlt b (allL K inn k ls) 0 23):=by
 refine List.Perm.trans ?_ (bagOb_sum b _ _).symm;unfold allOb
 induction ls with
 | nil=>exact List.Perm.refl _
 | cons p ls ih=>rw[List.flatMap_cons,List.flatMap_cons];exact(zxo hk he hinn p.1 p.2).append ih
theorem apartG_of{b:zwl}{k fu fb:Nat}(hk:k<23)(he:b.es k=K.n)(hinn:∀t a,(K.obs false t a).Perm (zlt b (inn t a) 0 23))(s1:PutG K inn k C fu)(s3:zui C b fb){g:Nat}(i:∀(v0:za)(h:zb)(Q:zQ),zso C fu fb v0 h (dn Q)->C g [v0] h Q):ApartG K inn k b C g:=by
 intro ls x W h0 h Q hx ho hok hn hP hf hq;refine i _ _ _ ?_;simp -dsimp[zso];intro id hid
 refine zd.intro (λn vs hh=>∃j:Nat,j+n=ls.length /\ vs=[.int .i64 j] /\ zpr h hh id (LKs.on (λ_=>[]) (allL K inn k (ls.take j)))) ls.length ?_ ⟨0,by simp,by simp,by
  have:=zpr.start hid;have e:LKs.on (λ_=>[]) (allL K inn k (ls.take 0))=λ_=>[]:=by funext i;simp[LKs.on,allL,LKs.sum]
  rw[e];exact this⟩
 rintro Y n vs hh ⟨j,hj,rfl,hb⟩ hY;have hxx:=hx.mono (zb.le_trans ho.le hb.le);have hlx:=hxx.zbg;rw[List.length_map]at hlx;simp -dsimp only[zso.l2,zso.k1,hlx,V.zei,B.ze];refine B.zl (λhc=>?_) (λhc=>?_)
 ·have hjl:j<ls.length:=by simpa using hc
  obtain⟨p,hp⟩:=zgd hjl;have hpm:=List.mem_of_getElem? hp;have hjk:j<(ls.map λp=>[p.1]).length:=by simpa using hjl
  have hld:A.ldv hh (elp 1 x j 0)=some p.1:=hxx.cell (by rw[List.getElem?_map,hp];rfl);simp -dsimp only[hxx.zjk hjk,hld,B.ze,B.zhd];have hsl:SlX h K.n p.1 (p.2.map K.cs) []:=ho.is (.sl K.n p.1 (p.2.map K.cs) []) (List.mem_flatMap.2 ⟨p,hpm,by simp⟩);have hat:∀q∈p.2,K.at_ h q.1 q.2:=λq hq=>K.zxg (b:=false) (hok p hpm q hq) λo hmo=>ho.is o (List.mem_flatMap.2 ⟨p,hpm,List.mem_cons_of_mem _ (List.mem_flatMap.2 ⟨q,hq,hmo⟩)⟩);refine s1 h hh id _ p.1 p.2 [] _ hb hsl hat (hP p hpm) (λi=>?_) λh3 hb3=>?_
  ·have h1:=LKs.zyk (f:=λp:za×List (T×Ad)=>zsa K inn k p.1 p.2) hp i
   have h2:=hf.n_le i;simp only[LKs.on,allL,List.nil_append,List.length_map]at h1 h2 ⊢;omega
  ·simp -dsimp only[zg0 (show j<4611686018427387904 by omega),B.ze]
   refine hY (n-1) _ _ (by omega) ⟨j+1,by omega,rfl,?_⟩;rw[LKs.on_on]at hb3;have:allL K inn k (ls.take (j+1))=(allL K inn k (ls.take j)).add (zsa K inn k p.1 p.2):=LKs.sum_take hp;rw[this];exact hb3
 ·have hjl:j=ls.length:=by
   have:¬ (j:Int)<ls.length:=by simpa using hc
   omega
  rw[hjl,List.take_length]at hb;obtain⟨xs,ob⟩:=hb;have hp:=allG_perm hk he hinn ls;obtain⟨q1,q2⟩:=(((ho.perm hp).join ob).perm List.perm_append_comm).out;obtain⟨id',e,hbx⟩:=q1.zte 23 zh6.getL;cases e;refine s3 id (allL K inn k ls) xs _ hh _ ⟨hbx,λi hi=>?_,hf.none,λi hi=>hf.n_le i,hf.zn7⟩ q2 λh' hle=>z8 (hq h' (zb.le_trans q1.le hle));have:=q1.zg1 i (zh6.zy2 hi);have e:(LKs.on (λ_=>[]) (allL K inn k ls) i).map sing=(allL K inn k ls i).map λq=>[q.1]:=by
   simp only[LKs.on,List.nil_append,List.map_map];rfl
  rw[e]at this;exact this
end
end Go.Ab
set_option maxRecDepth 100000
namespace Go.Ab
variable{C:zh}{N:zN}
namespace LKs
def cap(D:LKs)(c:Nat->Nat):Prop:=∀i,∀q∈D i,q.2.length <= c i
def cnt(D:LKs)(c:Nat):Prop:=∀i,(D i).length <= c
def sup(D:LKs)(S:Nat->Bool):Prop:=∀i,S i=false->D i=[]
theorem zvg{k:Nat}{c:Nat->Nat}{q:za×List (List za)}(h:q.2.length <= c k):(one k q).cap c:=λi r hr=>by
 unfold one at hr
 split at hr
 ·rename_i e
  subst e
  rw[List.mem_singleton.1 hr];exact h
 ·cases hr
theorem zx2{D E:LKs}{c:Nat->Nat}(h1:D.cap c)(h2:E.cap c):(D.add E).cap c:=λi r hr=>by
 rcases List.mem_append.1 hr with h|h
 ·exact h1 i r h
 ·exact h2 i r h
theorem cap_sum{α:Type}{l:List α}{f:α->LKs}{c:Nat->Nat}(h:∀a∈l,(f a).cap c):(sum l f).cap c:=λi r hr=>by
 obtain⟨a,ha,hr⟩:=List.mem_flatMap.1 hr
 exact h a ha i r hr
theorem fits_of{b:zwl}{D:LKs}{n:Nat}(h1:D.cap b.lim)(h2:D.cnt n)(hn:n <= 100000000)(h3:D.sup b.full):Fits b D:=⟨λi _ e=>h3 i e,λi=>Nat.le_trans (h2 i) hn,λi _ q hq=>h1 i q hq⟩
theorem zvf(k:Nat)(q:za×List (List za)):(one k q).cnt 1:=λi=>by
 unfold one;split<;>simp
theorem zx0{D E:LKs}{c d:Nat}(h1:D.cnt c)(h2:E.cnt d):(D.add E).cnt (c+d):=λi=>by
 have:=h1 i
 have:=h2 i
 simp only[add,List.length_append];omega
theorem cnt_sum{α:Type}{l:List α}{f:α->LKs}{c:Nat}(h:∀a∈l,(f a).cnt c):(sum l f).cnt (l.length*c):=λi=>by
 induction l with
 | nil=>simp[sum]
 | cons a l ih=>
  have h1:=ih λb hb=>h b (List.mem_cons_of_mem _ hb)
  have h2:=h a (List.mem_cons_self ..) i
  simp only[sum,List.flatMap_cons,List.length_append,List.length_cons,Nat.add_mul]at h1 ⊢
  omega
theorem cnt_le{D:LKs}{c d:Nat}(h:D.cnt c)(hd:c <= d):D.cnt d:=λi=>Nat.le_trans (h i) hd
theorem zum{k:Nat}{q:za×List (List za)}{S:Nat->Bool}(h:S k=true):(one k q).sup S:=λi hi=>by
 unfold one
 rw[if_neg]
 intro e;subst e;rw[h]at hi;cases hi
theorem zwq{D E:LKs}{S:Nat->Bool}(h1:D.sup S)(h2:E.sup S):(D.add E).sup S:=λi hi=>by
 show D i++E i=[]
 rw[h1 i hi,h2 i hi];rfl
theorem sup_sum{α:Type}{l:List α}{f:α->LKs}{S:Nat->Bool}(h:∀a∈l,(f a).sup S):(sum l f).sup S:=λi hi=>by
 show l.flatMap _=[]
 rw[List.flatMap_eq_nil_iff]
 exact λa ha=>h a ha i hi
end LKs
theorem two_puts{k j f g:Nat}(s1:zj8 C k f)(s2:zj8 C j g){h hh:zb}{id:Nat}{L:Nat->List za}{p q:za×List (List za)}{K:zQ}(hb:zpr h hh id L)(c1:p.1.zbl=true)(c2:q.1.zbl=true)
  (hl:∀i,(L i).length+(((LKs.one k p).add (LKs.one j q)) i).length <= 100000000) (hq:∀h',zpr h h' id (LKs.on L ((LKs.one k p).add (LKs.one j q)))->K (.tup []) h'):
  B.call C f [.ptr id 0 0,p.1] hh λ_ h=>B.call C g [.ptr id 0 0,q.1] h λ_ h=>K (.tup []) h:=by
 refine s1 h hh id L _ _ hb c1 (by have:=hl k;omega) λh1 hb1=>?_;rw[LKs.on_one L k p]at hb1;refine s2 h h1 id _ _ _ hb1 c2 ?_ λh2 hb2=>?_
 ·have:=hl j
  simp only[LKs.add,LKs.on,List.length_append,List.length_map]at this ⊢;omega
 rw[LKs.on_one _ j q,LKs.on_on]at hb2;exact hq h2 hb2
def zt1(t:Itm)(a:za×za):LKs:=(LKs.one 9 (a.1,t.zf7.map Part.cs)).add (LKs.one 3 (a.2,t.zes.map tc))
theorem ze4.spec(i:ze4.Imp C N):zj8 C 9 (N 481):=λh hh id B y Q hb hy hl hq=>i _ _ hh Q (zqk (k:=9) (by omega) hb hy hl λh' hb'=>z8 (hq h' hb'))
theorem zfs.spg(i:zfs.Imp C N)(s1:zj8 C 9 (N 481))(s2:zj8 C 3 (N 405)):OneG zeg zt1 C (N 480):=by
 intro h hh id L t a Q hb ha hl hq;obtain⟨⟨R1,a1⟩,⟨R2,a2⟩,hok⟩:=ha;have c1:=a1.zbl;have c2:=a2.zbl;apply i;simp -dsimp[zeg,c1,c2];exact two_puts s1 s2 (p:=(a.1,t.zf7.map Part.cs)) (q:=(a.2,t.zes.map tc)) hb c1 c2 hl λh2 hb2=>z8 (hq h2 hb2)
theorem zdp.spg(i:zdp.Imp C N)(s1:OneG zeg zt1 C (N 480)):PutG zeg zt1 10 C (N 475):=zyt (by omega) s1 i
abbrev StaP:={ p:Sta×List (Itm×(za×za)) // p.2.map (·.1)=p.1.zek }
def zk2:DK StaP (za×za×za) where
 n:=6
 bytes:=96
 z:=[.int .i64 0,.int .i64 0,.int .i64 0,.zbp,.zbp,.zbp]
 pos:=by omega
 small:=by omega
 zlen:=rfl
 cells t a:=zk3 t.1.1 a.1 a.2.1 a.2.2
 len _ _:=rfl
 at_ h t a:=(SlX h 4 a.1 (t.1.2.map zeg.cs) [] /\ ∀p∈t.1.2,zeg.at_ h p.1 p.2) /\ (SlX h 6 a.2.1 (t.1.1.zi9.map Lot.cs) [] /\ SlX h 8 a.2.2 (t.1.1.zgl.map zmh.cs) []) /\ ∀i∈t.1.1.zek,i.ok
 mono hle ha:=⟨⟨ha.1.1.mono hle,λp hp=>zeg.mono hle (ha.1.2 p hp)⟩,⟨ha.2.1.1.mono hle,ha.2.1.2.mono hle⟩,ha.2.2⟩
 ok t:=∀i∈t.1.1.zek,i.ok
 at_ok ha:=ha.2.2
 obs b t a:=StaO t.1.1 a.1 t.1.2 a.2.1 a.2.2
 zxg {b h t a} hk ha:=⟨⟨ha (.sl 4 a.1 (t.1.2.map zeg.cs) []) (by simp),λp hp=>zeg.zxg (b:=false) (hk _ (by rw[<-t.2];exact List.mem_map.2 ⟨p,hp,rfl⟩)) λo ho=>ha o (by simp only[StaO,List.mem_cons];exact .inr (.inr (.inr (List.mem_flatMap.2 ⟨p,hp,ho⟩))))⟩,
  ⟨ha (.sl 6 a.2.1 (t.1.1.zi9.map Lot.cs) []) (by simp),ha (.sl 8 a.2.2 (t.1.1.zgl.map zmh.cs) []) (by simp)⟩,hk⟩
def zof(t:StaP)(a:za×za×za):LKs:=(zsa zeg zt1 10 a.1 t.1.2).add ((LKs.one 6 (a.2.1,t.1.1.zi9.map Lot.cs)).add (LKs.one 11 (a.2.2,t.1.1.zgl.map zmh.cs)))
theorem ze6.spg(i:ze6.Imp C N)(s1:PutG zeg zt1 10 C (N 475))(s2:zj8 C 6 (N 130))(s3:zj8 C 11 (N 207)):OneG zk2 zof C (N 473):=by
 intro h hh id L t a Q hb ha hl hq;obtain⟨⟨a1,a1'⟩,⟨a2,a3⟩,hok⟩:=ha;have c1:=a1.zbl;have c2:=a2.zbl;have c3:=a3.zbl;apply i;simp -dsimp[zk2,c1,c2,c3];have hP:t.1.2.length <= 100000000:=by
  have:=hl 9;have e:(zof t a 9).length=t.1.2.length:=by
   have g:∀l:List (Itm×(za×za)),(l.map λ_=>1).sum=l.length:=λl=>by
    induction l with
    | nil=>rfl
    | cons a l ih=>rw[List.map_cons,List.sum_cons,ih,List.length_cons];omega
   simp[zof,zsa,LKs.add,LKs.one,LKs.sum,zt1,g]
  omega
 refine s1 h hh id L a.1 t.1.2 [] _ hb a1 a1' hP (λi=>?_) λh1 hb1=>?_
 ·have:=hl i
  simp only[zof,LKs.add,List.length_append]at this;omega
 refine two_puts s2 s3 (p:=(a.2.1,t.1.1.zi9.map Lot.cs)) (q:=(a.2.2,t.1.1.zgl.map zmh.cs)) hb1 c2 c3 (λi=>?_) λh2 hb2=>z8 (hq h2 ?_)
 ·have:=hl i
  simp only[zof,LKs.add,LKs.on,List.length_append,List.length_map]at this ⊢;omega
 rw[LKs.on_on]at hb2;exact hb2
theorem zdc.spg(i:zdc.Imp C N)(s1:OneG zk2 zof C (N 473)):PutG zk2 zof 14 C (N 470):=zyt (by omega) s1 i
end Go.Ab
set_option maxRecDepth 100000
namespace Go.Ab
variable{C:zh}{N:zN}
theorem zho.toL{es g:Nat}(s:zho C es g):zo5 C es 100000000 g:=λt h0 h Q ht ho hq=>s t h0 h Q ⟨ht.is,ht.n_le,ht.zn7⟩ ho hq
theorem zqr{b:zwl}{i g:Nat}(h:b.full i=false)(s:zdl C g):zis C b i g:=⟨λe=>(by rw[h]at e;cases e),λ_=>s⟩
theorem kind1{b:zwl}{i g:Nat}(h:b.full i=true)(s:zo5 C (b.es i) (b.lim i) g):zis C b i g:=⟨λ_=>s,λe=>(by rw[h]at e;cases e)⟩
theorem pair_perm(b:zwl){k j:Nat}(hk:k<23)(hj:j<23)(p q:za×List (List za)):[obK (b.es k) p,obK (b.es j) q].Perm (zlt b ((LKs.one k p).add (LKs.one j q)) 0 23):=by
 refine List.Perm.trans ?_ (zue b _ _ _ _).symm;rw[zx4 b hk,zx4 b hj];exact List.Perm.refl _
def zx3:zwl:=⟨λi=>if i=6 then 6 else if i=9 then 2 else if i=10 then 4 else if i=11 then 8 else if i=14 then 6 else 1,λ_=>100000000,λi=>decide (i=3)||decide (i=6)||decide (i=9)||decide (i=10)||decide (i=11)||decide (i=14)⟩
theorem zeu.sps(i:zeu.Imp C N)(f0:zdl C (N 80))(f1:zdl C (N 81))(f2:zdl C (N 82))(f3:zho C 1 (N 83))(f4:zdl C (N 84))(f5:zdl C (N 85))(f6:zho C 6 (N 86))(f7:zdl C (N 87))(f8:zdl C (N 88))(f9:zho C 2 (N 89))(f10:zo5 C 4 100000000 (N 90))(f11:zho C 8 (N 91))(f12:zdl C (N 92))(f13:zdl C (N 93))(f14:zho C 6 (N 94))(f15:zdl C (N 95))(f16:zdl C (N 96))(f17:zdl C (N 97))(f18:zdl C (N 98))(f19:zdl C (N 99))(f20:zdl C (N 100))(f21:zdl C (N 101))(f22:zdl C (N 102)):zui C zx3 (N 62):=zzf i zx3 (zqr rfl f0) (zqr rfl f1) (zqr rfl f2) (kind1 rfl f3.toL) (zqr rfl f4) (zqr rfl f5) (kind1 rfl f6.toL) (zqr rfl f7) (zqr rfl f8) (kind1 rfl f9.toL) (kind1 rfl f10) (kind1 rfl f11.toL) (zqr rfl f12) (zqr rfl f13) (kind1 rfl f14.toL) (zqr rfl f15) (zqr rfl f16) (zqr rfl f17) (zqr rfl f18) (zqr rfl f19) (zqr rfl f20) (zqr rfl f21) (zqr rfl f22)
theorem zbh.spec(i:zbh.Imp C N)(s1:zfa.Spec C N)(s2:zfb.Spec C N):zo5 C 4 100000000 (N 90):=λt h0 h Q ht ho hq=>i t.x h Q (flatD_spec zeg zta s1 s2 t ht ho λh' hle=>z8 (hq h' hle))
def zqq(k i:Int):Sta:=⟨mark k i,0,0,[],[],[]⟩
def zfg.Spec(C:zh)(N:zN):Prop:=∀(k i:Int)(h:zb)(Q:zQ),Q (.agg (zk3 (zqq k i) .zbp .zbp .zbp)) h->C (N 115) [.int .i64 k,.int .i64 i] h Q
theorem zfg.spec(i:zfg.Imp C N)(s1:zhe.Spec C N):zfg.Spec C N:=by
 intro k j h Q hq;apply i;simp +contextual -dsimp;refine s1 _ _ _ _ ?_;simp +contextual -dsimp;exact z8 hq
theorem staNil(k i:Int)(h:zb):zqd h (zqq k i) .zbp .zbp .zbp:=⟨Dl.zbp zeg h,⟨[],SlX.zbp h 6⟩,⟨[],SlX.zbp h 8⟩,by simp[zqq],by simp[zqq],by simp[zqq]⟩
theorem zbb.spec(i:zbb.Imp C N)(s1:zfg.Spec C N)(s2:zem.Spec C N):zho C 6 (N 94):=λt h0 h Q ht ho hq=>i t.x h Q (zo0 (elD (m:=λk i=>zk3 (zqq k i) .zbp .zbp .zbp) (bytes:=96) (by omega) (λ_ _=>rfl) rfl (by omega) s1 (λk i h Q hq=>s2 (zqq k i) (zqq k i) _ _ _ _ _ _ h Q (staNil k i h) (staNil k i h) (by simpa using hq))) ht.is ho ht.n_le ht.zn7 λh' hle=>z8 (hq h' hle))
theorem state_perm(t:StaP)(a:za×za×za):(zk2.obs false t a).Perm (zlt zx3 (zof t a) 0 23):=by
 refine List.Perm.trans ?_ (zue zx3 _ _ _ _).symm;have e1:=zxo (b:=zx3) (k:=10) (K:=zeg) (inn:=zt1) (by omega) rfl (λt a=>pair_perm zx3 (k:=9) (j:=3) (by omega) (by omega) (a.1,t.zf7.map Part.cs) (a.2,t.zes.map tc)) a.1 t.1.2;have e2:=pair_perm zx3 (k:=6) (j:=11) (by omega) (by omega) (a.2.1,t.1.1.zi9.map Lot.cs) (a.2.2,t.1.1.zgl.map zmh.cs);refine List.Perm.trans ?_ (e1.append e2);exact(List.perm_append_comm (l₁:=[Ob.sl 6 a.2.1 (t.1.1.zi9.map Lot.cs) [],Ob.sl 8 a.2.2 (t.1.1.zgl.map zmh.cs) []])).cons _
theorem zdz.spg(i:zdz.Imp C N)(s1:PutG zk2 zof 14 C (N 470))(s3:zui C zx3 (N 62)):ApartG zk2 zof 14 zx3 C (N 453):=apartG_of (by omega) rfl state_perm s1 s3 i
variable{C:zh}{N:zN}
section
variable{hb h0 h:zb}{l:List Ob}{p x:za}{b:List UInt8}{r:Rdr}
end
variable{C:zh}{N:zN}
variable{C:zh}{N:zN}
theorem ones_apart{T Ad:Type}{K:DK T Ad}{inn:T->Ad->LKs}{k g n:Nat}{b:zwl}(hn:K.n=n)(s:ApartG K inn k b C g){h0 h:zb}{t u:T}{a c:Ad}{Q:zQ}(ho:zcx h0 h (K.obs false t a++K.obs false u c))(ht:K.ok t)(hu:K.ok u)
  (hf:∀x y,Fits b (allL K inn k [(x,[(t,a)]),(y,[(u,c)])])) {i1 i2 i3:Nat} (f1:h i1=none) (f2:upd h i1 (zgh (K.cells t a)) i2=none) (f3:upd (upd h i1 (zgh (K.cells t a))) i2 (zgh (K.cells u c)) i3=none) (hq:∀h',h0.le h'->Q (.bool true) h'):
  C g [.sl i3 0 0 2 1 2] (upd (upd (upd h i1 (zgh (K.cells t a))) i2 (zgh (K.cells u c))) i3 (zgh [.sl i1 0 0 1 n 1,.sl i2 0 0 1 n 1])) Q:=by
 subst hn;have o1:=ho.zp9 f1 (n:=1) (cp:=1) (es:=K.n) (cs:=K.cells t a) (L:=[K.cells t a]) (R:=[]) (λp hp=>by rw[List.append_nil]at hp;rw[List.mem_singleton.1 hp];exact K.len t a) rfl (by simp) (by simp);have o2:=o1.zp9 f2 (n:=1) (cp:=1) (es:=K.n) (cs:=K.cells u c) (L:=[K.cells u c]) (R:=[]) (λp hp=>by rw[List.append_nil]at hp;rw[List.mem_singleton.1 hp];exact K.len u c) rfl (by simp) (by simp);have o3:=o2.zp9 f3 (n:=2) (cp:=2) (es:=1) (cs:=[.sl i1 0 0 1 K.n 1,.sl i2 0 0 1 K.n 1]) (L:=[[.sl i1 0 0 1 K.n 1],[.sl i2 0 0 1 K.n 1]]) (R:=[]) (by simp) rfl (by simp) rfl;obtain⟨q1,q2⟩:=(o3.perm List.perm_append_comm).out;have q2:zcx _ _ (allOb K [(.sl i1 0 0 1 K.n 1,[(t,a)]),(.sl i2 0 0 1 K.n 1,[(u,c)])]):=q2.perm (by
  simp only[allOb,DK.os,List.flatMap_cons,List.flatMap_nil,List.append_nil,List.map_cons,List.map_nil,List.cons_append];generalize K.obs false t a=p;generalize K.obs false u c=q;have e1:(p++q++[Ob.sl K.n (.sl i1 0 0 1 K.n 1) [K.cells t a] []]++[Ob.sl K.n (.sl i2 0 0 1 K.n 1) [K.cells u c] []]).Perm ([Ob.sl K.n (.sl i1 0 0 1 K.n 1) [K.cells t a] []]++(p++([Ob.sl K.n (.sl i2 0 0 1 K.n 1) [K.cells u c] []]++q))):=by
   refine List.Perm.trans (List.Perm.append_right _ List.perm_append_comm) ?_;rw[List.append_assoc,List.append_assoc];exact List.Perm.append_left _ (List.Perm.append_left _ List.perm_append_comm)
  exact e1)
 refine s _ _ [] _ _ Q (q1.zg1 0 rfl) q2 (λp hp q hq=>?_) (by simp) (λp hp=>?_) (hf _ _) λh' hle=>hq h' (zb.le_trans q1.le hle)
 ·simp only[List.mem_cons,List.not_mem_nil,or_false]at hp
  rcases hp with rfl|rfl
  ·rw[List.mem_singleton.1 hq];exact ht
  ·rw[List.mem_singleton.1 hq];exact hu
 ·simp only[List.mem_cons,List.not_mem_nil,or_false]at hp
  rcases hp with rfl|rfl<;>simp
theorem state_fits{s:Sta}{P Q:List (Itm×(za×za))}{e:P.map (·.1)=s.zek}{f:Q.map (·.1)=s.zek}{a c:za×za×za}(hn:StaN s 100000)(x y:za):Fits zx3 (allL zk2 zof 14 [(x,[(⟨(s,P),e⟩,a)]),(y,[(⟨(s,Q),f⟩,c)])]):=by
 have one:∀(x:za)(P:List (Itm×(za×za)))(e:P.map (·.1)=s.zek)(a:za×za×za),LKs.cap (zsa zk2 zof 14 x [(⟨(s,P),e⟩,a)]) zx3.lim /\ LKs.cnt (zsa zk2 zof 14 x [(⟨(s,P),e⟩,a)]) 1000000 /\ LKs.sup (zsa zk2 zof 14 x [(⟨(s,P),e⟩,a)]) zx3.full:=by
  intro x P e a;have hPl:P.length <= 100000:=by have:=congrArg List.length e;rw[List.length_map]at this;have:=hn.n;omega
  have hok:∀p∈P,p.1.ok:=λp hp=>hn.ok _ (by rw[<-e];exact List.mem_map.2 ⟨p,hp,rfl⟩);have n2:=hn.n;refine⟨?_,?_,?_⟩
  ·refine LKs.zx2 (LKs.zvg (by simp[zx3])) (LKs.cap_sum λq hq=>?_)
   rw[List.mem_singleton.1 hq];refine LKs.zx2 (LKs.zx2 (LKs.zvg (by simp[zx3];omega)) (LKs.cap_sum λp hp=>?_)) (LKs.zx2 (LKs.zvg ?_) (LKs.zvg ?_))
   ·obtain⟨k1,k2⟩:=hok p hp
    unfold few at k1 k2;exact LKs.zx2 (LKs.zvg (by simp[zx3];omega)) (LKs.zvg (by simp[zx3];omega))
   ·simp[zx3];omega
   ·simp[zx3];omega
  ·refine LKs.cnt_le (LKs.zx0 (LKs.zvf _ _) (LKs.cnt_sum (c:=900000) λq hq=>?_)) (by simp)
   rw[List.mem_singleton.1 hq];refine LKs.cnt_le (LKs.zx0 (LKs.zx0 (LKs.zvf _ _) (LKs.cnt_sum (c:=2) λp hp=>LKs.zx0 (LKs.zvf _ _) (LKs.zvf _ _))) (LKs.zx0 (LKs.zvf _ _) (LKs.zvf _ _))) (by simp only;omega)
  ·refine LKs.zwq (LKs.zum rfl) (LKs.sup_sum λq hq=>?_)
   exact LKs.zwq (LKs.zwq (LKs.zum rfl) (LKs.sup_sum λp hp=>LKs.zwq (LKs.zum rfl) (LKs.zum rfl))) (LKs.zwq (LKs.zum rfl) (LKs.zum rfl))
 have all:∀q∈[(x,[((⟨(s,P),e⟩:StaP),a)]),(y,[(⟨(s,Q),f⟩,c)])],LKs.cap (zsa zk2 zof 14 q.1 q.2) zx3.lim /\ LKs.cnt (zsa zk2 zof 14 q.1 q.2) 1000000 /\ LKs.sup (zsa zk2 zof 14 q.1 q.2) zx3.full:=by
  intro q hq;simp only[List.mem_cons,List.not_mem_nil,or_false]at hq;rcases hq with rfl|rfl
  ·exact one x P e a
  ·exact one y Q f c
 exact LKs.fits_of (n:=2*1000000) (LKs.cap_sum λq hq=>(all q hq).1) (LKs.cnt_sum λq hq=>(all q hq).2.1) (by omega) (LKs.sup_sum λq hq=>(all q hq).2.2)
variable{C:zh}{N:zN}
def zcy.Spec(C:zh)(N:zN):Prop:=∀(s:Sta)(x y z w:za)(L:List Key)(R:List (List za))(h:zb)(Q:zQ),zqd h s x y z->SlX h 1 w (L.map tc) R->L.length <= 100000000->s.zek.length+s.zi9.length+s.zgl.length <= 1000000->(∀x' P y' z' h',P.map (·.1)=(ztp s L).zek->zcx h h' (StaO (ztp s L) x' P y' z')->Q (.agg (zk3 (ztp s L) x' y' z')) h')->C (N 597) [.agg (zk3 s x y z),w] h Q
theorem zcy.spec(i:zcy.Imp C N)(s1:zf0.Spec C N):zcy.Spec C N:=by
 intro s x y z w L R h Q hs hw hL hn hq;obtain⟨hI,⟨R2,hy⟩,⟨R3,hz⟩,n1,n2,n3⟩:=hs;have cx:=hI.zbl;have cy:=hy.zbl;have cz:=hz.zbl;have lx:=hI.zbg;have ly:=hy.zbg;have lz:=hz.zbg;rw[List.length_map]at ly lz;apply i;simp -dsimp[cx,cy,cz,-zcy.l6,-zcy.k5];refine zd.intro (λn vs hh=>∃(j:Nat)(X:za)(P:List (Itm×(za×za))),j+n=s.zek.length /\ vs=[.int .i64 (j:Int),.agg [.int .i64 s.Now,.int .i64 s.znt,.int .i64 s.zlp,X,.zbp,.zbp]] /\ P.map (·.1)=(s.zek.take j).filter (λt=>decide (t.Code∈L)) /\ Df zeg h hh X P) s.zek.length ?_ ⟨0,.zbp,[],by simp,rfl,by simp,by simpa[Df,DK.os]using (zcx.start h).zbp zeg.n⟩;rintro Y n vs hh ⟨j,X,P,hj,rfl,eP,o⟩ hY;have hPl:P.length <= s.zek.length:=by
  have:=congrArg List.length eP;rw[List.length_map]at this;rw[this];exact zja _ _ _
 have cX:X.zbl=true:=(o.zg1 0 rfl).zbl;simp -dsimp only[zcy.l6,zcy.k5,B.zjj,V.zep,List.getElem?_cons_zero,List.getElem?_cons_succ,lx,V.zei,B.ze];refine B.zl (λhc=>?_) (λhc=>?_)
 ·rw[decide_eq_true_eq]at hc
  obtain⟨t,ht⟩:=zgd (L:=s.zek) (k:=j) (by omega);obtain⟨a,ea⟩:=(hI.mono o.le).get ht;have e1:V.zb4 4 x (.int .i64 (j:Int))=some (elp 4 x j 0):=ea.idx;have e2:A.zoj hh (elp 4 x j 0) 4=some (.agg [.str t.Code,.int .i64 t.Life,a.1,a.2]):=ea.ldn;obtain⟨⟨Rp,hp⟩,⟨Ro,ho⟩,hok⟩:(∃R,SlX hh 2 a.1 (t.zf7.map Part.cs) R) /\ (∃R,SlX hh 1 a.2 (t.zes.map tc) R) /\ t.ok:=ea.at_;have ca1:=hp.zbl;have ca2:=ho.zbl;have hf:=zl9 (λt:Itm=>decide (t.Code∈L)) ht;have e3:V.fieldAddr 0 (elp 4 x j 0)=some (elp 4 x j 0):=ea.fld 0 0;have e4:A.ldv hh (elp 4 x j 0)=some (.str t.Code):=ea.ld 0 (by decide);simp -dsimp only[B.zjj,V.zep,List.getElem?_cons_zero,List.getElem?_cons_succ,e1,e3,e4,B.zhd,B.ze];refine s1 w L R t.Code hh _ (hw.mono o.le) (by omega) ?_;refine B.zl (λhb=>?_) (λhb=>?_)
  ·rw[if_pos hb]at hf
   simp -dsimp[e1,e2,ca1,ca2,cX,-V.zfe];have hok':t.zf7.length <= few /\ t.zes.length <= few:=hok;unfold few at hok';refine((zcx.start hh).sz 2).ziw 0 rfl hp (by omega) (by simp;omega) (by simp[maxLen];omega) λp' h1 o1 _=>?_;have o1:zcx hh h1 [.sl 2 p' (t.zf7.map Part.cs) []]:=o1;have cp':p'.zbl=true:=(o1.zg1 0 rfl).zbl;simp -dsimp[ca1,ca2,cp',cX,-V.zfe];refine((zcx.start h1).sz 1).ziw 0 rfl (ho.mono o1.le) (by omega) (by simp;omega) (by simp[maxLen];omega) λq' h2 o2 _=>?_;have o2:zcx h1 h2 [.sl 1 q' (t.zes.map tc) []]:=o2;have cq':q'.zbl=true:=(o2.zg1 0 rfl).zbl;have hfl:zer [(0,some 4,.agg (zeg.cells t (p',q')))] (zgc 1 [.str [],.int .i64 0,.zbp,.zbp])=some (zeg.cells t (p',q')):=zt6 zeg t (p',q');have hfl:zer [(0,some 4,.agg [.str t.Code,.int .i64 t.Life,p',q'])] (zgc 1 [.str [],.int .i64 0,.zbp,.zbp])=some [.str t.Code,.int .i64 t.Life,p',q']:=hfl;simp -dsimp[cp',cq',cX,hfl,-V.zfe];have o3:=zcx.join o (o1.join o2);refine o3.push 0 rfl (cs:=[.str t.Code,.int .i64 t.Life,p',q']) rfl (by decide) (by simp;omega) (by simp[maxLen];omega) λX' h3 o4 _=>?_;have cX':X'.zbl=true:=(o4.zg1 0 rfl).zbl;simp -dsimp[cX',-V.zfe];rw[zg0 (show j<4611686018427387904 by omega)];simp -dsimp only[B.ze];refine hY (s.zek.length-(j+1)) _ _ (by omega) ⟨j+1,X',P++[(t,(p',q'))],by omega,rfl,by rw[hf,<-eP,List.map_append];rfl,?_⟩;unfold Df;rw[DK.ztu,DK.os_one,List.map_append];exact o4
  ·rw[if_neg (by rw[hb];exact Bool.false_ne_true),List.append_nil]at hf
   simp -dsimp only[zg0 (show j<4611686018427387904 by omega),B.ze];exact hY (s.zek.length-(j+1)) _ _ (by omega) ⟨j+1,X,P,by omega,rfl,by rw[hf];exact eP,o⟩
 ·rw[decide_eq_false_iff_not]at hc
  have:j=s.zek.length:=by omega
  subst this;rw[List.take_length]at eP;have o0:zcx h hh ([.sl 4 X (P.map zeg.cs) [],.sl 6 .zbp [] []]++zeg.os false P):=(zcx.zbp o 6).perm ((List.perm_append_comm (l₁:=zeg.os false P) (l₂:=[Ob.sl 6 .zbp [] []])).cons _);refine zd.intro (λn vs hh=>∃(j:Nat)(Yv:za),j+n=s.zi9.length /\ vs=[.int .i64 (j:Int),.agg [.int .i64 s.Now,.int .i64 s.znt,.int .i64 s.zlp,X,Yv,.zbp]] /\ zcx h hh ([.sl 4 X (P.map zeg.cs) [],.sl 6 Yv (((s.zi9.take j).filter (λt=>decide (t.Item∈L))).map Lot.cs) []]++zeg.os false P)) s.zi9.length ?_ ⟨0,.zbp,by simp,rfl,by simpa using o0⟩;rintro Y2 n vs h2 ⟨j,Yv,hj2,rfl,o⟩ hY2;have cYv:Yv.zbl=true:=(o.zg1 1 rfl).zbl;have hQl:=zja (λt:Lot=>decide (t.Item∈L)) s.zi9 j;simp -dsimp only[zcy.l4,zcy.k3,B.zjj,V.zep,List.getElem?_cons_zero,List.getElem?_cons_succ,ly,V.zei,B.ze];refine B.zl (λhc=>?_) (λhc=>?_)
  ·rw[decide_eq_true_eq]at hc
   obtain⟨t,ht⟩:=zgd (L:=s.zi9) (k:=j) (by omega);have f1:V.zb4 6 y (.int .i64 (j:Int))=some (elp 6 y j 0):=hy.zjk (by rw[List.length_map];omega);have f2:A.zoj h2 (elp 6 y j 0) 6=some (.agg t.cs):=(hy.mono o.le).elem (by rw[List.getElem?_map,ht];rfl);have hf:=zl9 (λt:Lot=>decide (t.Item∈L)) ht;have f3:V.fieldAddr 1 (elp 6 y j 0)=some (elp 6 y j 1):=hy.zob (by rw[List.length_map];omega) 0 1;have f4:A.ldv h2 (elp 6 y j 1)=some (.str t.Item):=(hy.mono o.le).ldv (f:=1) (c:=t.cs) (by rw[List.getElem?_map,ht];rfl) (by omega);simp -dsimp only[B.zjj,V.zep,List.getElem?_cons_zero,List.getElem?_cons_succ,f1,f3,f4,B.zhd,B.ze];refine s1 w L R t.Item h2 _ (hw.mono o.le) (by omega) ?_;refine B.zl (λhb=>?_) (λhb=>?_)
   ·rw[if_pos hb]at hf
    simp -dsimp[f1,f2,cX,cYv,zgc,-V.zfe];refine o.push 1 rfl (cs:=t.cs) rfl (by decide) (by simp;omega) (by simp[maxLen];omega) λY' h3 o4 _=>?_;have cY':Y'.zbl=true:=(o4.zg1 1 rfl).zbl;simp -dsimp[cY',-V.zfe];rw[zg0 (show j<4611686018427387904 by omega)];simp -dsimp only[B.ze];refine hY2 (s.zi9.length-(j+1)) _ _ (by omega) ⟨j+1,Y',by omega,rfl,?_⟩;rw[hf,List.map_append];exact o4
   ·rw[if_neg (by rw[hb];exact Bool.false_ne_true),List.append_nil]at hf
    simp -dsimp only[zg0 (show j<4611686018427387904 by omega),B.ze];exact hY2 (s.zi9.length-(j+1)) _ _ (by omega) ⟨j+1,Yv,by omega,rfl,by rw[hf];exact o⟩
  ·rw[decide_eq_false_iff_not]at hc
   have:j=s.zi9.length:=by omega
   subst this;rw[List.take_length]at o;have o0:zcx h h2 ([.sl 4 X (P.map zeg.cs) [],.sl 6 Yv ((s.zi9.filter (λt=>decide (t.Item∈L))).map Lot.cs) [],.sl 8 .zbp [] []]++zeg.os false P):=by
    have:=zcx.zbp o 8;exact this.perm (((List.perm_append_comm (l₁:=zeg.os false P) (l₂:=[Ob.sl 8 .zbp [] []])).cons _).cons _)
   refine zd.intro (λn vs hh=>∃(j:Nat)(Zv:za),j+n=s.zgl.length /\ vs=[.int .i64 (j:Int),.agg [.int .i64 s.Now,.int .i64 s.znt,.int .i64 s.zlp,X,Yv,Zv]] /\ zcx h hh ([.sl 4 X (P.map zeg.cs) [],.sl 6 Yv ((s.zi9.filter (λt=>decide (t.Item∈L))).map Lot.cs) [],.sl 8 Zv (((s.zgl.take j).filter (λt=>decide (t.Item∈L))).map zmh.cs) []]++zeg.os false P)) s.zgl.length ?_ ⟨0,.zbp,by simp,rfl,by simpa using o0⟩;rintro Y3 n vs h3 ⟨j,Zv,hj3,rfl,o⟩ hY3;have cZv:Zv.zbl=true:=(o.zg1 2 rfl).zbl;have hQl:=zja (λt:zmh=>decide (t.Item∈L)) s.zgl j;simp -dsimp only[zcy.l2,zcy.k1,B.zjj,V.zep,List.getElem?_cons_zero,List.getElem?_cons_succ,lz,V.zei,B.ze];refine B.zl (λhc=>?_) (λhc=>?_)
   ·rw[decide_eq_true_eq]at hc
    obtain⟨t,ht⟩:=zgd (L:=s.zgl) (k:=j) (by omega);have f1:V.zb4 8 z (.int .i64 (j:Int))=some (elp 8 z j 0):=hz.zjk (by rw[List.length_map];omega);have f2:A.zoj h3 (elp 8 z j 0) 8=some (.agg t.cs):=(hz.mono o.le).elem (by rw[List.getElem?_map,ht];rfl);have hf:=zl9 (λt:zmh=>decide (t.Item∈L)) ht;have f3:V.fieldAddr 1 (elp 8 z j 0)=some (elp 8 z j 1):=hz.zob (by rw[List.length_map];omega) 0 1;have f4:A.ldv h3 (elp 8 z j 1)=some (.str t.Item):=(hz.mono o.le).ldv (f:=1) (c:=t.cs) (by rw[List.getElem?_map,ht];rfl) (by omega);simp -dsimp only[B.zjj,V.zep,List.getElem?_cons_zero,List.getElem?_cons_succ,f1,f3,f4,B.zhd,B.ze];refine s1 w L R t.Item h3 _ (hw.mono o.le) (by omega) ?_;refine B.zl (λhb=>?_) (λhb=>?_)
    ·rw[if_pos hb]at hf
     simp -dsimp[f1,f2,cX,cYv,cZv,zgc,-V.zfe];refine o.push 2 rfl (cs:=t.cs) rfl (by decide) (by simp;omega) (by simp[maxLen];omega) λZ' h4 o4 _=>?_;have cZ':Z'.zbl=true:=(o4.zg1 2 rfl).zbl;simp -dsimp[cZ',-V.zfe];rw[zg0 (show j<4611686018427387904 by omega)];simp -dsimp only[B.ze];refine hY3 (s.zgl.length-(j+1)) _ _ (by omega) ⟨j+1,Z',by omega,rfl,?_⟩;rw[hf,List.map_append];exact o4
    ·rw[if_neg (by rw[hb];exact Bool.false_ne_true),List.append_nil]at hf
     simp -dsimp only[zg0 (show j<4611686018427387904 by omega),B.ze];exact hY3 (s.zgl.length-(j+1)) _ _ (by omega) ⟨j+1,Zv,by omega,rfl,by rw[hf];exact o⟩
   ·rw[decide_eq_false_iff_not]at hc
    have:j=s.zgl.length:=by omega
    subst this;rw[List.take_length]at o;simp -dsimp[cX,cYv,cZv];exact z8 (hq X P Yv Zv h3 eP o)
variable{C:zh}{N:zN}
def zu.Spec(C:zh)(N:zN):Prop:=∀(s:Sta)(x y z:za)(cs:List za)(k:UInt8)(item:Key)(lot line:Int)(h:zb)(Q:zQ),zqd h s x y z->s.zek.length <= 100000->AskC cs k item lot line->(∀x' h' R',h.le h'->SlX h' 1 x' ((zf9 s k item lot line).map tc) R'->Q x' h')->C (N 596) [.agg (zk3 s x y z),.agg cs] h Q
theorem zu.spec(i:zu.Imp C N)(s1:zec.Spec C N)(s2:zf0.Spec C N)(s3:zdb.Spec C N)(s4:zeb.Spec C N):zu.Spec C N:=by
 intro s x y z cs k item lot line h Q hs hn hc hq;obtain⟨hI,⟨R2,hy⟩,⟨R3,hz⟩,n1,n2,n3⟩:=hs;have cx:=hI.zbl;have cy:=hy.zbl;have cz:=hz.zbl;have ly:=hy.zbg;have lz:=hz.zbg;rw[List.length_map]at ly lz;have hcl:=hc.len;have bx:A.zsn 11 (.agg cs)=some (.agg cs):=by simp -dsimp[A.zsn,A.zo3,hcl]
 apply i;simp -dsimp only[zu.cps,zu.k14];simp -dsimp[cx,cy,cz,bx,zgc,-zu.k13];intro i9 f9;have o1:=(zcx.start h).zp9 (id:=i9) (n:=1) (cp:=1) (es:=1) (cs:=[.str [42]]) (L:=znc.map tc) (R:=[]) f9 (by decide) rfl (by decide) rfl;generalize upd h i9 (zgh [.str [42]])=h1 at *;have hst:SlX h1 1 (.sl i9 0 0 1 1 1) (znc.map tc) []:=o1.zg1 0 rfl;have hx1:=hI.mono o1.le;have g0:∀{n:Nat}{v:za},cs[n]?=some v->V.zb9 n (.agg cs)=some v:=λ{n v} e=>by simpa using e
 simp -dsimp only[zu.k13,B.zjj,V.zep,List.getElem?_cons_zero,List.getElem?_cons_succ,hc.item,B.ze];refine s1 x s.zek h1 _ hx1 (by omega) λv12 h2 R12 le2 h12=>?_;have cl:=zub s.zek;refine s2 v12 (zdd s.zek) R12 item h2 _ h12 (by omega) ?_;have lef:=zb.le_trans o1.le le2;have hx2:=hx1.mono le2;have hst2:=hst.mono le2;simp -dsimp only[B.zjj,V.zep,hc.kind,B.ze];have kq:∀n:Nat,n<256->(((k.toNat:Nat):Int)=(n:Int)↔k=UInt8.ofNat n):=λn hn=>by
  constructor
  ·intro e
   have:k.toNat=n:=by omega
   rw[<-this];simp
  ·intro e
   rw[e];have:(UInt8.ofNat n).toNat=n:=by simp;omega
   rw[this]
 have star:zf9 s k item lot line=znc->dn Q (.sl i9 0 0 1 1 1) h2:=λhcod=>by
  rw[hcod]at hq;exact z8 (hq _ _ [] lef hst2)
 have wl:∀c,(zim s.zek [c]).length <= s.zek.length+1:=λc=>by
  have:=zv9 s.zek [c];exact this
 have wth:∀(c:Key)(id:Nat)(K:zQ),h2 id=none->(∀v h3 R',h2.le h3->SlX h3 1 v ((zim s.zek [c]).map tc) R'->K v h3)->C (N 594) [x,.sl id 0 0 1 1 1] (upd h2 id (zgh [.str c])) K:=by
  intro c id K hid hK;have o2:=(zcx.start h2).zp9 (id:=id) (n:=1) (cp:=1) (es:=1) (cs:=[.str c]) (L:=[c].map tc) (R:=[]) hid (by simp[tc]) rfl (by simp) rfl;exact s3 x _ s.zek [c] [] _ K (hx2.mono o2.le) (by omega) (o2.zg1 0 rfl) (by simp) λv h3 R' le3 hv=>hK v h3 R' (zb.le_trans o2.le le3) hv
 by_cases ha:k=1 \/ k=2 \/ k=3 \/ k=12
 ·have hcod:zf9 s k item lot line=znc:=by
   rcases ha with rfl|rfl|rfl|rfl<;>rfl
  rcases ha with rfl|rfl|rfl|rfl<;>(simp -dsimp[-zu.k11];exact star hcod)
 have a1:k≠1:=λe=>ha (.inl e);have a2:k≠2:=λe=>ha (.inr (.inl e));have a3:k≠3:=λe=>ha (.inr (.inr (.inl e)));have a12:k≠12:=λe=>ha (.inr (.inr (.inr e)));have q1:decide ((k.toNat:Int)=1)=false:=decide_eq_false λe=>a1 ((kq 1 (by omega)).1 e);have q2:decide ((k.toNat:Int)=2)=false:=decide_eq_false λe=>a2 ((kq 2 (by omega)).1 e);have q3:decide ((k.toNat:Int)=3)=false:=decide_eq_false λe=>a3 ((kq 3 (by omega)).1 e);have q12:decide ((k.toNat:Int)=12)=false:=decide_eq_false λe=>a12 ((kq 12 (by omega)).1 e);simp -dsimp only[zu.k12,V.zg9,q1,q2,q3,q12,B.ze,B.cond_false];by_cases h4:k=4 \/ k=5
 ·have hcod:zf9 s k item lot line=if item∈zdd s.zek then ztg (zim s.zek [item]) lotT else znc:=by unfold zf9;rw[if_pos h4]
  have k2:zu.k1 C N (dn Q) (.sl i9 0 0 1 1 1) (.bool (decide (item∈zdd s.zek))) (.agg (zk3 s x y z)) (.agg cs) h2:=by
   by_cases hm:item∈zdd s.zek
   ·rw[if_pos hm]at hcod
    rw[hcod]at hq;simp -dsimp[hm,hc.item,zgc];intro i22 f22;refine wth item i22 _ f22 λv h3 R' le3 hv=>?_;refine s4.rd v _ R' lotT h3 _ hv (by have:=wl item;omega) λv' h4 R4 le4 hv4=>?_;exact z8 (hq v' h4 R4 (zb.le_trans lef (zb.le_trans le3 le4)) hv4)
   ·rw[if_neg hm]at hcod
    simp -dsimp[hm];exact star hcod
  rcases h4 with rfl|rfl
  ·simp -dsimp[-zu.k1]
   exact k2
  ·simp -dsimp[-zu.k1]
   exact k2
 have a4:k≠4:=λe=>h4 (.inl e);have a5:k≠5:=λe=>h4 (.inr e);have q4:decide ((k.toNat:Int)=4)=false:=decide_eq_false λe=>a4 ((kq 4 (by omega)).1 e);have q5:decide ((k.toNat:Int)=5)=false:=decide_eq_false λe=>a5 ((kq 5 (by omega)).1 e);simp -dsimp only[zu.k11,V.zg9,q4,q5,B.ze,B.cond_false];by_cases h9:k=9
 ·subst h9
  have hcod:zf9 s 9 item lot line=if item∈zdd s.zek then ztg (zim s.zek [item]) lineT else znc:=by unfold zf9;rw[if_neg h4,if_pos rfl]
  have e9:decide ((((9:UInt8).toNat:Nat):Int)=9)=true:=by decide
  simp -dsimp only[e9,B.cond_true];by_cases hm:item∈zdd s.zek
  ·rw[if_pos hm]at hcod
   rw[hcod]at hq;simp -dsimp[hm,hc.item,zgc];intro i22 f22;refine wth item i22 _ f22 λv h3 R' le3 hv=>?_;refine s4.rd v _ R' lineT h3 _ hv (by have:=wl item;omega) λv' h4 R4 le4 hv4=>?_;exact z8 (hq v' h4 R4 (zb.le_trans lef (zb.le_trans le3 le4)) hv4)
  ·rw[if_neg hm]at hcod
   simp -dsimp[hm];exact star hcod
 have q9:decide ((k.toNat:Int)=9)=false:=decide_eq_false λe=>h9 ((kq 9 (by omega)).1 e);simp -dsimp only[q9,B.cond_false,zu.k10,V.zg9,B.ze];by_cases h13:k=13 \/ k=15
 ·have hcod:zf9 s k item lot line=if item∈zdd s.zek then zim s.zek [item] else znc:=by unfold zf9;rw[if_neg h4,if_neg h9,if_pos h13]
  have k4:zu.k3 C N (dn Q) (.sl i9 0 0 1 1 1) (.bool (decide (item∈zdd s.zek))) (.agg (zk3 s x y z)) (.agg cs) h2:=by
   by_cases hm:item∈zdd s.zek
   ·rw[if_pos hm]at hcod
    rw[hcod]at hq;simp -dsimp[hm,hc.item,zgc];intro i22 f22;exact wth item i22 _ f22 λv h3 R' le3 hv=>z8 (hq v h3 R' (zb.le_trans lef le3) hv)
   ·rw[if_neg hm]at hcod
    simp -dsimp[hm];exact star hcod
  rcases h13 with rfl|rfl
  ·simp -dsimp[-zu.k3]
   exact k4
  ·simp -dsimp[-zu.k3]
   exact k4
 have a13:k≠13:=λe=>h13 (.inl e);have a15:k≠15:=λe=>h13 (.inr e);have q13:decide ((k.toNat:Int)=13)=false:=decide_eq_false λe=>a13 ((kq 13 (by omega)).1 e);have q15:decide ((k.toNat:Int)=15)=false:=decide_eq_false λe=>a15 ((kq 15 (by omega)).1 e);simp -dsimp only[q13,q15,B.cond_false,zu.k9,V.zg9,B.ze];by_cases h6:k=6 \/ k=7 \/ k=8
 ·have hcod:zf9 s k item lot line=match s.zi9.find? (λl=>decide (l.Id=lot)) with|some t=>zim s.zek [t.Item]|none=>znc:=by unfold zf9;rw[if_neg h4,if_neg h9,if_neg h13,if_pos h6];rfl
  have k5:zd (zu.l5 C N (dn Q) (.sl i9 0 0 1 1 1) (.agg (zk3 s x y z)) (.agg cs)) [.int .i64 0] h2:=by
   refine zd.intro (λn vs hh=>hh=h2 /\ ∃j:Nat,j+n=s.zi9.length /\ vs=[.int .i64 (j:Int)] /\ (s.zi9.take j).find? (λl=>decide (l.Id=lot))=none) s.zi9.length ?_ ⟨rfl,0,by simp,rfl,by simp⟩;rintro Y n vs hh ⟨rfl,j,hj,rfl,hno⟩ hY;have hy2:=hy.mono lef;simp -dsimp only[zu.l5,zu.k4,B.zjj,V.zep,List.getElem?_cons_zero,List.getElem?_cons_succ,B.ze,ly,V.zei];refine B.zl (λhb=>?_) (λhb=>?_)
   ·rw[decide_eq_true_eq]at hb
    obtain⟨t,ht⟩:=zgd (L:=s.zi9) (k:=j) (by omega);have f1:V.zb4 6 y (.int .i64 (j:Int))=some (elp 6 y j 0):=hy2.zjk (by rw[List.length_map];omega);have f2:V.fieldAddr 0 (elp 6 y j 0)=some (elp 6 y j 0):=hy2.zob (by rw[List.length_map];omega) 0 0;have f3:A.ldv hh (elp 6 y j 0)=some (.int .i64 t.Id):=hy2.ldv (f:=0) (c:=t.cs) (by rw[List.getElem?_map,ht];rfl) (by omega);have f4:V.fieldAddr 1 (elp 6 y j 0)=some (elp 6 y j 1):=hy2.zob (by rw[List.length_map];omega) 0 1;have f5:A.ldv hh (elp 6 y j 1)=some (.str t.Item):=hy2.ldv (f:=1) (c:=t.cs) (by rw[List.getElem?_map,ht];rfl) (by omega);simp -dsimp only[List.getElem?_cons_zero,List.getElem?_cons_succ,f1,f2,f3,B.zhd,B.zjj,V.zep,hc.lot,B.ze,V.zg9];refine B.zl (λhd=>?_) (λhd=>?_)
    ·have e1:s.zi9.find? (λl=>decide (l.Id=lot))=some t:=by
      conv=>lhs;rw[<-List.take_append_drop (j+1) s.zi9]
      rw[List.find?_append,take_succ ht,List.find?_append,hno];simp[hd,of_decide_eq_true hd]
     rw[e1]at hcod;rw[hcod]at hq;simp -dsimp[f1,f4,f5,zgc];intro i65 f65;exact wth t.Item i65 _ f65 λv h3 R' le3 hv=>z8 (hq v h3 R' (zb.le_trans lef le3) hv)
    ·simp -dsimp only[zg0 (show j<4611686018427387904 by omega),B.ze]
     refine hY (s.zi9.length-(j+1)) _ _ (by omega) ⟨rfl,j+1,by omega,rfl,?_⟩;rw[take_succ ht,List.find?_append,hno];simp[of_decide_eq_false hd]
   ·rw[decide_eq_false_iff_not]at hb
    have:j=s.zi9.length:=by omega
    subst this;rw[List.take_length]at hno;rw[hno]at hcod;exact star hcod
  rcases h6 with rfl|rfl|rfl
  ·simp -dsimp[-zu.l5]
   exact k5
  ·simp -dsimp[-zu.l5]
   exact k5
  ·simp -dsimp[-zu.l5]
   exact k5
 have a6:k≠6:=λe=>h6 (.inl e);have a7:k≠7:=λe=>h6 (.inr (.inl e));have a8:k≠8:=λe=>h6 (.inr (.inr e));have q6:decide ((k.toNat:Int)=6)=false:=decide_eq_false λe=>a6 ((kq 6 (by omega)).1 e);have q7:decide ((k.toNat:Int)=7)=false:=decide_eq_false λe=>a7 ((kq 7 (by omega)).1 e);have q8:decide ((k.toNat:Int)=8)=false:=decide_eq_false λe=>a8 ((kq 8 (by omega)).1 e);simp -dsimp only[q6,q7,q8,B.cond_false,zu.k8,V.zg9,B.ze];by_cases h10:k=10 \/ k=11 \/ k=14
 ·have hcod:zf9 s k item lot line=match s.zgl.find? (λl=>decide (l.Id=line)) with|some t=>zim s.zek [t.Item]|none=>znc:=by unfold zf9;rw[if_neg h4,if_neg h9,if_neg h13,if_neg h6,if_pos h10];rfl
  have k6:zd (zu.l7 C N (dn Q) (.sl i9 0 0 1 1 1) (.agg (zk3 s x y z)) (.agg cs)) [.int .i64 0] h2:=by
   refine zd.intro (λn vs hh=>hh=h2 /\ ∃j:Nat,j+n=s.zgl.length /\ vs=[.int .i64 (j:Int)] /\ (s.zgl.take j).find? (λl=>decide (l.Id=line))=none) s.zgl.length ?_ ⟨rfl,0,by simp,rfl,by simp⟩;rintro Y n vs hh ⟨rfl,j,hj,rfl,hno⟩ hY;have hz2:=hz.mono lef;simp -dsimp only[zu.l7,zu.k6,B.zjj,V.zep,List.getElem?_cons_zero,List.getElem?_cons_succ,B.ze,lz,V.zei];refine B.zl (λhb=>?_) (λhb=>?_)
   ·rw[decide_eq_true_eq]at hb
    obtain⟨t,ht⟩:=zgd (L:=s.zgl) (k:=j) (by omega);have f1:V.zb4 8 z (.int .i64 (j:Int))=some (elp 8 z j 0):=hz2.zjk (by rw[List.length_map];omega);have f2:V.fieldAddr 0 (elp 8 z j 0)=some (elp 8 z j 0):=hz2.zob (by rw[List.length_map];omega) 0 0;have f3:A.ldv hh (elp 8 z j 0)=some (.int .i64 t.Id):=hz2.ldv (f:=0) (c:=t.cs) (by rw[List.getElem?_map,ht];rfl) (by omega);have f4:V.fieldAddr 1 (elp 8 z j 0)=some (elp 8 z j 1):=hz2.zob (by rw[List.length_map];omega) 0 1;have f5:A.ldv hh (elp 8 z j 1)=some (.str t.Item):=hz2.ldv (f:=1) (c:=t.cs) (by rw[List.getElem?_map,ht];rfl) (by omega);simp -dsimp only[List.getElem?_cons_zero,List.getElem?_cons_succ,f1,f2,f3,B.zhd,B.zjj,V.zep,hc.line,B.ze,V.zg9];refine B.zl (λhd=>?_) (λhd=>?_)
    ·have e1:s.zgl.find? (λl=>decide (l.Id=line))=some t:=by
      conv=>lhs;rw[<-List.take_append_drop (j+1) s.zgl]
      rw[List.find?_append,take_succ ht,List.find?_append,hno];simp[hd,of_decide_eq_true hd]
     rw[e1]at hcod;rw[hcod]at hq;simp -dsimp[f1,f4,f5,zgc];intro i65 f65;exact wth t.Item i65 _ f65 λv h3 R' le3 hv=>z8 (hq v h3 R' (zb.le_trans lef le3) hv)
    ·simp -dsimp only[zg0 (show j<4611686018427387904 by omega),B.ze]
     refine hY (s.zgl.length-(j+1)) _ _ (by omega) ⟨rfl,j+1,by omega,rfl,?_⟩;rw[take_succ ht,List.find?_append,hno];simp[of_decide_eq_false hd]
   ·rw[decide_eq_false_iff_not]at hb
    have:j=s.zgl.length:=by omega
    subst this;rw[List.take_length]at hno;rw[hno]at hcod;exact star hcod
  rcases h10 with rfl|rfl|rfl
  ·simp -dsimp[-zu.l7]
   exact k6
  ·simp -dsimp[-zu.l7]
   exact k6
  ·simp -dsimp[-zu.l7]
   exact k6
 have a10:k≠10:=λe=>h10 (.inl e);have a11:k≠11:=λe=>h10 (.inr (.inl e));have a14:k≠14:=λe=>h10 (.inr (.inr e));have q10:decide ((k.toNat:Int)=10)=false:=decide_eq_false λe=>a10 ((kq 10 (by omega)).1 e);have q11:decide ((k.toNat:Int)=11)=false:=decide_eq_false λe=>a11 ((kq 11 (by omega)).1 e);have q14:decide ((k.toNat:Int)=14)=false:=decide_eq_false λe=>a14 ((kq 14 (by omega)).1 e);simp -dsimp only[q10,q11,q14,B.cond_false,V.zg9,B.ze];have hcod:zf9 s k item lot line=[]:=by
  unfold zf9;rw[if_neg h4,if_neg h9,if_neg h13,if_neg h6,if_neg h10,if_pos];by_cases h0:k<1
  ·exact .inl h0
  ·refine .inr ?_
   rw[UInt8.lt_iff_toNat_lt,show (15:UInt8).toNat=15 from rfl];have b0:¬ k.toNat<1:=λe=>h0 (by rw[UInt8.lt_iff_toNat_lt];exact e);have ne:∀n:Nat,n<256->k≠UInt8.ofNat n->k.toNat≠n:=λn hn e e2=>e ((kq n hn).1 (by omega));have:=ne 1 (by omega) a1;have:=ne 2 (by omega) a2;have:=ne 3 (by omega) a3;have:=ne 4 (by omega) a4;have:=ne 5 (by omega) a5;have:=ne 6 (by omega) a6;have:=ne 7 (by omega) a7;have:=ne 8 (by omega) a8;have:=ne 9 (by omega) h9;have:=ne 10 (by omega) a10;have:=ne 11 (by omega) a11;have:=ne 12 (by omega) a12;have:=ne 13 (by omega) a13;have:=ne 14 (by omega) a14;have:=ne 15 (by omega) a15;omega
 rw[hcod]at hq;exact z8 (hq .zbp h2 [] lef (SlX.zbp h2 1))
end Go.Ab
set_option maxRecDepth 100000
namespace Go.Ab
variable{C:zh}{N:zN}
theorem partT_n{s:Sta}(h:StaG s)(L:List Key):StaN (ztp s L) 100000:=by
 have h1:=List.length_filter_le (λt:Itm=>decide (t.Code∈L)) s.zek;have h2:=List.length_filter_le (λt:Lot=>decide (t.Item∈L)) s.zi9;have h3:=List.length_filter_le (λt:zmh=>decide (t.Item∈L)) s.zgl;have:=h.n;have:=h.items.n;refine⟨?_,λt ht=>?_⟩
 ·show (s.zek.filter _).length+(s.zi9.filter _).length+(s.zgl.filter _).length <= _
  omega
 ·have:=h.items.ok t (List.mem_filter.1 ht).1
  unfold Itm.ok few;omega
theorem withT_len1(I:List Itm)(c:Key):(zim I [c]).length <= I.length+1:=zv9 I [c]
theorem codesOf_len(s:Sta)(k:UInt8)(item:Key)(lot line:Int):(zf9 s k item lot line).length <= s.zek.length+2:=by
 have hw:=λc=>withT_len1 s.zek c;have hp:∀c m,(ztg (zim s.zek [c]) m).length <= s.zek.length+2:=λc m=>by
  have:=hw c;rw[putT_len (zlz _ _)];split<;>omega
 have hs:znc.length <= s.zek.length+2:=by simp[znc]
 unfold zf9;split
 ·split
  ·exact hp _ _
  ·exact hs
 split
 ·split
  ·exact hp _ _
  ·exact hs
 split
 ·split
  ·have:=hw item;omega
  ·exact hs
 split
 ·split
  ·rename_i t _;have:=hw t.Item;omega
  ·exact hs
 split
 ·split
  ·rename_i t _;have:=hw t.Item;omega
  ·exact hs
 split
 ·simp
 ·exact hs
def zd9.Spec(C:zh)(N:zN):Prop:=∀(s:Sta)(x y z:za)(cs:List za)(k:UInt8)(item:Key)(lot line:Int)(w:za)(M:List Key)(R:List (List za))(h:zb)(Q:zQ),StaW h s x y z->StaS s->AskC cs k item lot line->item.length<4611686018427387904->SlX h 1 w (M.map tc) R->M.length<4611686018427387904->(∀c∈M,c.length<4611686018427387904)->Q (.bool true) h->C (N 598) [.agg (zk3 s x y z),.agg cs,w] h Q
theorem zd9.spec(i:zd9.Imp C N)(s0:zf6.Spec C N)(s1:zdy.Spec C N)(s2:zc8.Spec C N)(s3:zfk.Spec C N)(s4:zen.Spec C N)(s5:zq.Spec C N)(s6:zci.Spec C N)(s7:zfl.Spec C N)(s8:zd8.Spec C N)
  (s9:zfh.Spec C N) (s10:zex.Spec C N) (s11:zu.Spec C N) (s12:zed.Spec C N) (s13:zcy.Spec C N) (s14:zem.Spec C N) (s15:zho C 1 (N 396)) (s16:ApartG zk2 zof 14 zx3 C (N 453)):zd9.Spec C N:=by
 intro s x y z cs k item lot line w M R h Q hW hS hA hit hw hM hMl hq;have cx:=hW.items.zbl;have cy:y.zbl=true:=hW.lots.elim λ_ r=>r.zbl;have cz:z.zbl=true:=hW.lines.elim λ_ r=>r.zbl;have hcl:=hA.len;have bx:A.zsn 11 (.agg cs)=some (.agg cs):=by simp -dsimp[hcl]
 have fx:V.zfp 0 11 (.agg cs)=some (.agg cs):=by
  simp -dsimp[hcl,List.take_of_length_le]
 have f2:V.zb9 2 (.agg cs)=some (.str item):=by simp -dsimp[hA.item]
 have ls:V.zkf (.str item)=some (.int .i64 (item.length:Int)):=rfl;apply i;simp -dsimp[cx,cy,cz,bx,-V.zep];refine s2 s x y z h _ hW hS λb hb=>?_;cases b with
 | true=>
  simp -dsimp[-V.zep];exact s0 _ _ (z8 hq)
 | false=>
 have hG:=hb rfl;simp -dsimp[-V.zep];refine s1 .zbp w [] M R h _ (Dl.zbp zxt h) (by simp) (by simp) hw hM hMl λb2 hb2=>?_;cases b2 with
 | true=>
  simp -dsimp[-V.zep];exact s0 _ _ (z8 hq)
 | false=>
 obtain⟨_,hM2⟩:=hb2 rfl;by_cases hi:item.length <= 1000
 rotate_left
 ·have hi':(1000:Int)<item.length:=by omega
  simp -dsimp[f2,hi',-V.zep];exact s0 _ _ (z8 hq)
 have hi':¬ (1000:Int)<item.length:=by omega
 simp -dsimp[f2,hi',cx,cy,cz,-V.zep];have ha:=hG.at hW;have hn:=hG.n;have hnI:=hG.items.n;refine s3 s x y z h _ ha λx1 P PM y1 z1 h1 eP eM o1 k1=>?_;have c1:=k1.items.dl.zbl;have c2:=k1.lots.zbl;have c3:=k1.lines.zbl;refine s4 w M R h1 _ (hw.mono o1.le) (by omega) λw1 h2 o2=>?_;have t2:SlX h2 1 w1 (M.map tc) zi7:=o2.zg1 0 rfl;have k2:=k1.mono o2.le;simp -dsimp[c1,c2,c3,fx,hcl,List.take_of_length_le];refine s5 s x1 y1 z1 cs k item lot line h2 _ k2.at (by omega) hA λn h3 o3=>?_;refine s5 s x1 y1 z1 cs k item lot line h3 _ (k2.mono o3.le).at (by omega) hA λm h4 o4=>?_;have o34:=o3.join o4;simp -dsimp[c1,c2,c3];refine s6 s x1 y1 z1 w1 M zi7 h4 _ (k2.mono o34.le).at (t2.mono o34.le) (by omega) (by omega) λpx PP py pz h5 eP5 o5=>?_;have o35:=o34.join o5;refine s6 s x1 y1 z1 w1 M zi7 h5 _ (k2.mono o35.le).at (t2.mono o35.le) (by omega) (by omega) λqx QQ qy qz h6 eQ6 o6=>?_;have o36:=o35.join o6;have l26:=o36.le;have l16:=zb.le_trans o2.le l26;have l06:=zb.le_trans o1.le l16;have cp1:px.zbl=true:=(o5.zg1 0 rfl).zbl;have cp2:py.zbl=true:=(o5.zg1 1 rfl).zbl;have cp3:pz.zbl=true:=(o5.zg1 2 rfl).zbl;have cq1:qx.zbl=true:=(o6.zg1 0 rfl).zbl;have cq2:qy.zbl=true:=(o6.zg1 1 rfl).zbl;have cq3:qz.zbl=true:=(o6.zg1 2 rfl).zbl;simp -dsimp[c1,c2,c3,cp1,cp2,cp3,cq1,cq2,cq3,cx,cy,cz];refine s7 s s x1 y1 z1 x y z h6 _ (k1.mono l16) (ha.mono l06) ?_;simp -dsimp;refine s8 w1 w M M R h6 _ (t2.mono l26) (hw.mono l06) (by omega) ?_;simp -dsimp[c1,c2,c3];have oo:=o1.join (o2.join o36);obtain⟨q1,q2⟩:=(oo.perm List.perm_append_comm).out;refine s9 s x1 y1 z1 P PM _ h6 _ eP eM q2 (λt ht=>by have:=hG.items.ok t ht;unfold Itm.ok few;omega) (by omega) λh7 le7=>?_;have p7:=q1.grow le7;obtain⟨q3,q4⟩:=(p7.perm (List.perm_append_comm (l₁:=[Ob.sl 1 w1 (M.map tc) zi7]))).out;refine s10 _ h7 w1 _ _ _ q4 rfl (by simp;omega) λh8 le8=>?_;have p8:=q3.grow le8;simp -dsimp[fx,cx,cy,cz,hcl,List.take_of_length_le]
 refine s11 s x y z cs k item lot line h8 _ (ha.mono p8.le) (by omega) hA λrn h9 Rn le9 sn=>?_;have p9:=p8.grow le9;have cl:=codesOf_len s k item lot line;have tn:SlX h9 1 n ((zf9 s k item lot line).map tc) []:=p9.is (.sl 1 n ((zf9 s k item lot line).map tc) []) (by simp);refine s12 n rn _ _ [] Rn h9 _ tn sn (by omega) ?_;rw[show decide (zf9 s k item lot line=zf9 s k item lot line)=true from decide_eq_true rfl];simp -dsimp[cx,cy,cz,cp1,cp2,cp3];refine s13 s x y z w M R h9 _ (ha.mono p9.le) (hw.mono p9.le) (by omega) (by omega) λrx RR ry rz h10 eR o10=>?_;have p10:=p9.grow o10.le;have hN:=partT_n hG M;have aP:zqd h10 (ztp s M) px py pz:=StaO.at p10 (λo ho=>List.mem_append_left _ (List.mem_append_right _ ho)) eP5 hN (by omega);have aR:zqd h10 (ztp s M) rx ry rz:=StaO.at o10 (λo ho=>ho) eR hN (by omega);have cr1:rx.zbl=true:=(o10.zg1 0 rfl).zbl;have cr2:ry.zbl=true:=(o10.zg1 1 rfl).zbl;have cr3:rz.zbl=true:=(o10.zg1 2 rfl).zbl;simp -dsimp[cr1,cr2,cr3,cp1,cp2,cp3];refine s14 _ _ _ _ _ _ _ _ h10 _ aP aR ?_;have p10':zcx h h10 ((StaO (ztp s M) px PP py pz++StaO (ztp s M) qx QQ qy qz)++[Ob.sl 1 n ((zf9 s k item lot line).map tc) [],Ob.sl 1 m ((zf9 s k item lot line).map tc) []]):=by
  refine p10.perm ?_;rw[List.append_assoc];exact List.perm_append_comm
 obtain⟨m1,m2⟩:=p10'.out;have cn1:n.zbl=true:=(m2.zg1 0 rfl).zbl;have cn2:m.zbl=true:=(m2.zg1 1 rfl).zbl;simp -dsimp[cn1,cn2,zgc];intro id hid;have o7:=m2.lit2L (x:=n) (y:=m) hid;obtain⟨q5,q6⟩:=(o7.perm List.perm_append_comm).out;simp -dsimp;refine s15 ⟨.sl id 0 0 2 1 2,2,twoL _ n m,twoL _ ((zf9 s k item lot line).map tc) ((zf9 s k item lot line).map tc),twoL _ [] [],[]⟩ _ _ _ ⟨q5.zg1 0 rfl,by simp,λj hj=>by simp only[twoL];(repeat' split)<;>simp only[List.length_map]<;>omega⟩ (by simp only[LL.obs];rw[Objs_twoL];exact q6) λh11 l11=>?_;have p11:=m1.grow (zb.le_trans q5.le l11);simp -dsimp[cp1,cp2,cp3,zgc];intro i1 g1;simp -dsimp[cq1,cq2,cq3,zgc];intro i2 g2;simp -dsimp[zgc];intro i3 g3;simp -dsimp;refine ones_apart (K:=zk2) (t:=⟨(ztp s M,PP),eP5⟩) (u:=⟨(ztp s M,QQ),eQ6⟩) (a:=(px,py,pz)) (c:=(qx,qy,qz)) rfl s16 p11 hN.ok hN.ok (λx y=>state_fits hN x y) g1 g2 g3 λh12 l12=>?_;simp -dsimp;refine s0 _ _ ?_;simp -dsimp;exact dn_le l12 hq
variable{C:zh}{N:zN}
variable{C:zh}{N:zN}
variable{C:zh}{N:zN}
variable{C:zh}{N:zN}
variable{C:zh}{N:zN}
section
variable{h:zb}{v:za}{R:List (List za)}{j:Nat}
end
section
variable{h0 h:zb}{vi vd vq vt:za}{Q:zQ}{Y5:zL}
end
variable{C:zh}{N:zN}
section
variable{h0 h:zb}{vi vq vt:za}{Q:zQ}{Y2 Y3:zL}
end
end Go.Ab
set_option maxRecDepth 100000
namespace Go.Ab
variable{C:zh}{N:zN}
end Go.Ab
set_option maxRecDepth 100000
namespace Go.Ab
variable{C:zh}{N:zN}
end Go.Ab
