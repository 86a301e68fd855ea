/- What is proved: a part of the way to the statement: CkitH. No conditions. -/
import Derived.Test.YtlcijlhcilgknaaGreatQ9
import Derived.Test.YtlcijlhcilgknaaGreatQ8
set_option linter.unusedVariables false
set_option linter.unusedSimpArgs false
set_option maxRecDepth 100000
namespace Go.Ab
open List
variable{C:zh}{N:zN}
abbrev LKs:=Nat->LK
namespace LKs
def none:LKs:=λ_=>[]
def one(k:Nat)(q:za×List (List za)):LKs:=λi=>if i=k then [q] else []
def add(D E:LKs):LKs:=λi=>D i++E i
def sum{α:Type}(l:List α)(f:α->LKs):LKs:=λi=>l.flatMap λa=>f a i
def on(L:Nat->List za)(D:LKs):Nat->List za:=λi=>L i++(D i).map (·.1)
theorem on_on(L:Nat->List za)(D E:LKs):on (on L D) E=on L (D.add E):=by
 funext i;simp[on,add]
theorem on_one(L:Nat->List za)(k:Nat)(q:za×List (List za)):upf L k (L k++[q.1])=on L (one k q):=by
 funext i;unfold upf on one;by_cases h:i=k
 ·subst h;simp
 ·simp[h]
theorem sum_take{α:Type}{l:List α}{f:α->LKs}{j:Nat}{a:α}(h:l[j]?=some a):sum (l.take (j+1)) f=(sum (l.take j) f).add (f a):=by
 funext i;simp only[sum,add];rw[take_succ h,flatMap_append];simp
theorem sum_le{α:Type}(l:List α)(f:α->LKs)(j i:Nat):(sum (l.take j) f i).length <= (sum l f i).length:=by
 have:sum l f i=sum (l.take j) f i++(l.drop j).flatMap λa=>f a i:=by
  simp only[sum];rw[<-flatMap_append,take_append_drop]
 rw[this,length_append];omega
theorem zys{α:Type}{l:List α}{f:α->LKs}{j:Nat}{a:α}(h:l[j]?=some a)(i:Nat):(sum (l.take j) f i).length+(f a i).length <= (sum l f i).length:=by
 have:=sum_le l f (j+1) i;rw[sum_take h]at this;simpa[add]using this
end LKs
theorem zup(b:zwu)(D E:LKs)(i n:Nat):(zl2 b (D.add E) i n).Perm (zl2 b D i n++zl2 b E i n):=by
 induction n generalizing i with
 | zero=>exact List.Perm.refl _
 | succ n ih=>
  rw[zpq,zpq,zpq];show ((D i++E i).map _++_).Perm _;rw[map_append];generalize (D i).map (obK (b.es i))=p;generalize (E i).map (obK (b.es i))=q;have:=ih (i+1);generalize zl2 b (D.add E) (i+1) n=r at *;generalize zl2 b D (i+1) n=u at *;generalize zl2 b E (i+1) n=v at *;rw[append_assoc,append_assoc];refine List.Perm.append_left p ((List.Perm.append_left q this).trans ?_);rw[<-append_assoc,<-append_assoc];exact perm_append_comm.append_right v
theorem bagOb_none(b:zwu)(i n:Nat):zl2 b LKs.none i n=[]:=by simp[zl2,LKs.none]
theorem zyd(b:zwu){k:Nat}(hk:k<23)(q:za×List (List za)):zl2 b (LKs.one k q) 0 23=[obK (b.es k) q]:=by
 have g:∀(n i:Nat),zl2 b (LKs.one k q) i n=if i <= k /\ k<i+n then [obK (b.es k) q] else []:=by
  intro n
  induction n with
  | zero=>intro i;rw[if_neg (by omega)];rfl
  | succ n ih=>
   intro i;rw[zpq,ih];by_cases h:i=k
   ·subst h
    rw[if_neg (by omega),if_pos (by omega)];simp[LKs.one]
   ·have:LKs.one k q i=[]:=by simp[LKs.one,h]
    rw[this];by_cases h2:i+1 <= k /\ k<i+1+n
    ·rw[if_pos h2,if_pos (by omega)];rfl
    ·rw[if_neg h2,if_neg (by omega)];rfl
 rw[g,if_pos (by omega)]
theorem bagOb_sum(b:zwu){α:Type}(l:List α)(f:α->LKs):(zl2 b (LKs.sum l f) 0 23).Perm (l.flatMap λa=>zl2 b (f a) 0 23):=by
 induction l with
 | nil=>rw[show LKs.sum ([]:List α) f=LKs.none from rfl,bagOb_none];exact List.Perm.refl _
 | cons a l ih=>
  have:LKs.sum (a::l) f=(f a).add (LKs.sum l f):=by funext i;simp[LKs.sum,LKs.add]
  rw[this,flatMap_cons];exact(zup b _ _ _ _).trans (ih.append_left _)
section
variable{T Ad:Type}
def OneG(K:DK T Ad)(inn:T->Ad->LKs)(C:zh)(g:Nat):Prop:=∀(h hh:zb)(id:Nat)(L:Nat->List za)(t:T)(a:Ad)(Q:zQ),zqd h hh id L->K.at_ h t a->(∀i,(L i).length+(inn t a i).length <= 100000000)->(∀h',zqd h h' id (LKs.on L (inn t a))->Q (.tup []) h')->C g [.ptr id 0 0,.agg (K.cells t a)] hh Q
def zsr(K:DK T Ad)(inn:T->Ad->LKs)(k:Nat)(y:za)(P:List (T×Ad)):LKs:=(LKs.one k (y,P.map K.cs)).add (LKs.sum P λp=>inn p.1 p.2)
def PutG(K:DK T Ad)(inn:T->Ad->LKs)(k:Nat)(C:zh)(g:Nat):Prop:=∀(h hh:zb)(id:Nat)(L:Nat->List za)(y:za)(P:List (T×Ad))(R:List (List za))(Q:zQ),zqd h hh id L->SlX h K.n y (P.map K.cs) R->(∀p∈P,K.at_ h p.1 p.2)->P.length <= 100000000->(∀i,(L i).length+(zsr K inn k y P i).length <= 100000000)->(∀h',zqd h h' id (LKs.on L (zsr K inn k y P))->Q (.tup []) h')->C g [.ptr id 0 0,y] hh Q
variable{K:DK T Ad}{inn:T->Ad->LKs}
theorem addL_le{K:DK T Ad}{inn:T->Ad->LKs}{k:Nat}{y:za}{P:List (T×Ad)}{j:Nat}{p:T×Ad}(hp:P[j]?=some p)(i:Nat):((LKs.one k (y,P.map K.cs)).add (LKs.sum (P.take j) λp=>inn p.1 p.2) i).length+(inn p.1 p.2 i).length <= (zsr K inn k y P i).length:=by
 have:=LKs.zys (f:=λp:T×Ad=>inn p.1 p.2) hp i;simp only[zsr,LKs.add,length_append];omega
theorem zy1{k f g:Nat}(hk:k<23)(s1:OneG K inn C f)(i:∀(v0 v1:za)(h:zb)(Q:zQ),putD C k K.n f v0 v1 h (dn Q)->C g [v0,v1] h Q):PutG K inn k C g:=by
 intro h hh id L y P R Q hb hy ha hP hl hq;refine i _ _ _ _ ?_;have hl1:(L k).length <= 100000000:=by have:=hl k;omega
 refine zq3 hk hb hy.zbm hl1 λh1 hb1=>?_;have e0:upf L k (L k++[y])=LKs.on L (LKs.one k (y,P.map K.cs)):=LKs.on_one L k (y,P.map K.cs);rw[e0]at hb1
 refine zd.intro (λn vs hh=>∃j:Nat,j+n=P.length /\ vs=[.int .i64 (j:Int)] /\ zqd h hh id (LKs.on L ((LKs.one k (y,P.map K.cs)).add (LKs.sum (P.take j) λp=>inn p.1 p.2)))) P.length ?_ ⟨0,by simp,rfl,by
  have:LKs.on L ((LKs.one k (y,P.map K.cs)).add (LKs.sum (P.take 0) λp=>inn p.1 p.2))=LKs.on L (LKs.one k (y,P.map K.cs)):=by funext i;simp[LKs.on,LKs.add,LKs.sum]
  rw[this];exact hb1⟩
 rintro Y n vs h2 ⟨j,hj,rfl,hb2⟩ hY;have hyy:=hy.mono hb2.le;have hly:=hyy.zbi;rw[length_map]at hly;simp -dsimp only[putD.l2,putD.k1,hly,V.zeh,B.ze];refine B.zm (λhc=>?_) (λhc=>?_)
 ·have hjl:j<P.length:=by simpa using hc
  obtain⟨p,hp⟩:=zgf hjl;have ea:=slX_el (K:=K) hyy (λq hq=>K.mono hb2.le (ha q hq)) hp;simp -dsimp only[ea.idx,ea.ldn,B.ze,B.zn5];refine s1 h h2 id _ p.1 p.2 _ hb2 (ha p (mem_of_getElem? hp)) (λi=>?_) λh3 hb3=>?_
  ·have h1:=hl i
   have h2:=addL_le (K:=K) (inn:=inn) (k:=k) (y:=y) hp i;simp only[LKs.on,length_append,length_map]at h2 ⊢;omega
  simp -dsimp only[zg8 (show j<4611686018427387904 by omega),B.ze];refine hY (P.length-(j+1)) _ _ (by omega) ⟨j+1,by omega,rfl,?_⟩;rw[LKs.sum_take hp];rw[LKs.on_on]at hb3;have:((LKs.one k (y,P.map K.cs)).add (LKs.sum (P.take j) λp=>inn p.1 p.2)).add (inn p.1 p.2)=(LKs.one k (y,P.map K.cs)).add ((LKs.sum (P.take j) λp=>inn p.1 p.2).add (inn p.1 p.2)):=by funext i;simp[LKs.add]
  rw[this]at hb3;exact hb3
 ·have hjl:j=P.length:=by
   have:¬ (j:Int)<P.length:=by simpa using hc
   omega
  rw[hjl,take_length]at hb2;exact zba (hq h2 hb2)
structure Fits(b:zwu)(D:LKs):Prop where
 none:∀i,i<23->b.full i=false->D i=[]
 n_le:∀i,(D i).length <= 100000000
 zoq:∀i,i<23->∀q∈D i,q.2.length <= b.lim i
def allL(K:DK T Ad)(inn:T->Ad->LKs)(k:Nat)(ls:List (za×List (T×Ad))):LKs:=LKs.sum ls λp=>zsr K inn k p.1 p.2
def ApartG(K:DK T Ad)(inn:T->Ad->LKs)(k:Nat)(b:zwu)(C:zh)(g:Nat):Prop:=∀(ls:List (za×List (T×Ad)))(x:za)(W:List (List za))(h0 h:zb)(Q:zQ),SlX h0 1 x (ls.map λp=>[p.1]) W->zcw h0 h (allOb K ls)->(∀p∈ls,∀q∈p.2,K.ok q.1)->ls.length <= 100000->(∀p∈ls,p.2.length <= 100000000)->Fits b (allL K inn k ls)->(∀h',h0.le h'->Q (.bool true) h')->C g [x] h Q
theorem zxx{b:zwu}{k:Nat}(hk:k<23)(he:b.es k=K.n)(hinn:∀t a,(K.obs false t a).Perm (zl2 b (inn t a) 0 23))(y:za)(P:List (T×Ad)):(Ob.sl K.n y (P.map K.cs) []::K.os false P).Perm (zl2 b (zsr K inn k y P) 0 23):=by
 refine List.Perm.trans ?_ (zup b _ _ _ _).symm;rw[zyd b hk,he];refine List.Perm.append (l₁:=[_]) (List.Perm.refl _) ?_;refine List.Perm.trans ?_ (bagOb_sum b _ _).symm
 induction P with
 | nil=>exact List.Perm.refl _
 | cons p P ih=>rw[flatMap_cons,flatMap_cons];exact(hinn _ _).append ih
theorem allG_perm{b:zwu}{k:Nat}(hk:k<23)(he:b.es k=K.n)(hinn:∀t a,(K.obs false t a).Perm (zl2 b (inn t a) 0 23))(ls:List (za×List (T×Ad))):(allOb K ls).Perm (zl2 b (allL K inn k ls) 0 23):=by
 refine List.Perm.trans ?_ (bagOb_sum b _ _).symm;unfold allOb
 induction ls with
 | nil=>exact List.Perm.refl _
 | cons p ls ih=>rw[flatMap_cons,flatMap_cons];exact(zxx hk he hinn p.1 p.2).append ih
theorem apartG_of{b:zwu}{k fu fb:Nat}(hk:k<23)(he:b.es k=K.n)(hinn:∀t a,(K.obs false t a).Perm (zl2 b (inn t a) 0 23))(s1:PutG K inn k C fu)(s3:zuu C b fb){g:Nat}(i:∀(v0:za)(h:zb)(Q:zQ),zs3 C fu fb v0 h (dn Q)->C g [v0] h Q):ApartG K inn k b C g:=by
 intro ls x W h0 h Q hx ho hok hn hP hf hq;refine i _ _ _ ?_;simp -dsimp[zs3];intro id hid
 refine zd.intro (λn vs hh=>∃j:Nat,j+n=ls.length /\ vs=[.int .i64 j] /\ zqd h hh id (LKs.on (λ_=>[]) (allL K inn k (ls.take j)))) ls.length ?_ ⟨0,by simp,by simp,by
  have:=zqd.start hid;have e:LKs.on (λ_=>[]) (allL K inn k (ls.take 0))=λ_=>[]:=by funext i;simp[LKs.on,allL,LKs.sum]
  rw[e];exact this⟩
 rintro Y n vs hh ⟨j,hj,rfl,hb⟩ hY;have hxx:=hx.mono (zb.le_trans ho.le hb.le);have hlx:=hxx.zbi;rw[length_map]at hlx;simp -dsimp only[zs3.l2,zs3.k1,hlx,V.zeh,B.ze];refine B.zm (λhc=>?_) (λhc=>?_)
 ·have hjl:j<ls.length:=by simpa using hc
  obtain⟨p,hp⟩:=zgf hjl;have hpm:=mem_of_getElem? hp;have hjk:j<(ls.map λp=>[p.1]).length:=by simpa using hjl
  have hld:A.ldv hh (elp 1 x j 0)=some p.1:=hxx.cell (by rw[getElem?_map,hp];rfl);simp -dsimp only[hxx.zjp hjk,hld,B.ze,B.zha];have hsl:SlX h K.n p.1 (p.2.map K.cs) []:=ho.is (.sl K.n p.1 (p.2.map K.cs) []) (mem_flatMap.2 ⟨p,hpm,by simp⟩);have hat:∀q∈p.2,K.at_ h q.1 q.2:=λq hq=>K.zxp (b:=false) (hok p hpm q hq) λo hmo=>ho.is o (mem_flatMap.2 ⟨p,hpm,mem_cons_of_mem _ (mem_flatMap.2 ⟨q,hq,hmo⟩)⟩);refine s1 h hh id _ p.1 p.2 [] _ hb hsl hat (hP p hpm) (λi=>?_) λh3 hb3=>?_
  ·have h1:=LKs.zys (f:=λp:za×List (T×Ad)=>zsr K inn k p.1 p.2) hp i
   have h2:=hf.n_le i;simp only[LKs.on,allL,nil_append,length_map]at h1 h2 ⊢;omega
  ·simp -dsimp only[zg8 (show j<4611686018427387904 by omega),B.ze]
   refine hY (n-1) _ _ (by omega) ⟨j+1,by omega,rfl,?_⟩;rw[LKs.on_on]at hb3;have:allL K inn k (ls.take (j+1))=(allL K inn k (ls.take j)).add (zsr K inn k p.1 p.2):=LKs.sum_take hp;rw[this];exact hb3
 ·have hjl:j=ls.length:=by
   have:¬ (j:Int)<ls.length:=by simpa using hc
   omega
  rw[hjl,take_length]at hb;obtain⟨xs,ob⟩:=hb;have hp:=allG_perm hk he hinn ls;obtain⟨q1,q2⟩:=(((ho.perm hp).join ob).perm perm_append_comm).out;obtain⟨id',e,hbx⟩:=q1.zts 23 zid.getL;cases e;refine s3 id (allL K inn k ls) xs _ hh _ ⟨hbx,λi hi=>?_,hf.none,λi hi=>hf.n_le i,hf.zoq⟩ q2 λh' hle=>zba (hq h' (zb.le_trans q1.le hle));have:=q1.zgz i (zid.zza hi);have e:(LKs.on (λ_=>[]) (allL K inn k ls) i).map sing=(allL K inn k ls i).map λq=>[q.1]:=by
   simp only[LKs.on,nil_append,map_map];rfl
  rw[e]at this;exact this
end
end Go.Ab
namespace Go.Ab
open List
variable{C:zh}{N:zN}
namespace LKs
def cap(D:LKs)(c:Nat->Nat):Prop:=∀i,∀q∈D i,q.2.length <= c i
def cnt(D:LKs)(c:Nat):Prop:=∀i,(D i).length <= c
def sup(D:LKs)(S:Nat->Bool):Prop:=∀i,S i=false->D i=[]
theorem zvp{k:Nat}{c:Nat->Nat}{q:za×List (List za)}(h:q.2.length <= c k):(one k q).cap c:=λi r hr=>by
 unfold one at hr
 split at hr
 ·rename_i e
  subst e
  rw[mem_singleton.1 hr];exact h
 ·cases hr
theorem zya{D E:LKs}{c:Nat->Nat}(h1:D.cap c)(h2:E.cap c):(D.add E).cap c:=λi r hr=>by
 rcases mem_append.1 hr with h|h
 ·exact h1 i r h
 ·exact h2 i r h
theorem cap_sum{α:Type}{l:List α}{f:α->LKs}{c:Nat->Nat}(h:∀a∈l,(f a).cap c):(sum l f).cap c:=λi r hr=>by
 obtain⟨a,ha,hr⟩:=mem_flatMap.1 hr
 exact h a ha i r hr
theorem fits_of{b:zwu}{D:LKs}{n:Nat}(h1:D.cap b.lim)(h2:D.cnt n)(hn:n <= 100000000)(h3:D.sup b.full):Fits b D:=⟨λi _ e=>h3 i e,λi=>Nat.le_trans (h2 i) hn,λi _ q hq=>h1 i q hq⟩
theorem zvo(k:Nat)(q:za×List (List za)):(one k q).cnt 1:=λi=>by
 unfold one;split<;>simp
theorem zx8{D E:LKs}{c d:Nat}(h1:D.cnt c)(h2:E.cnt d):(D.add E).cnt (c+d):=λi=>by
 have:=h1 i
 have:=h2 i
 simp only[add,length_append];omega
theorem cnt_sum{α:Type}{l:List α}{f:α->LKs}{c:Nat}(h:∀a∈l,(f a).cnt c):(sum l f).cnt (l.length*c):=λi=>by
 induction l with
 | nil=>simp[sum]
 | cons a l ih=>
  have h1:=ih λb hb=>h b (mem_cons_of_mem _ hb)
  have h2:=h a (mem_cons_self ..) i
  simp only[sum,flatMap_cons,length_append,length_cons,Nat.add_mul]at h1 ⊢
  omega
theorem cnt_le{D:LKs}{c d:Nat}(h:D.cnt c)(hd:c <= d):D.cnt d:=λi=>Nat.le_trans (h i) hd
theorem zuy{k:Nat}{q:za×List (List za)}{S:Nat->Bool}(h:S k=true):(one k q).sup S:=λi hi=>by
 unfold one
 rw[if_neg]
 intro e;subst e;rw[h]at hi;cases hi
theorem zwx{D E:LKs}{S:Nat->Bool}(h1:D.sup S)(h2:E.sup S):(D.add E).sup S:=λi hi=>by
 show D i++E i=[]
 rw[h1 i hi,h2 i hi];rfl
theorem sup_sum{α:Type}{l:List α}{f:α->LKs}{S:Nat->Bool}(h:∀a∈l,(f a).sup S):(sum l f).sup S:=λi hi=>by
 show l.flatMap _=[]
 rw[flatMap_eq_nil_iff]
 exact λa ha=>h a ha i hi
end LKs
theorem two_puts{k j f g:Nat}(s1:zkh C k f)(s2:zkh C j g){h hh:zb}{id:Nat}{L:Nat->List za}{p q:za×List (List za)}{K:zQ}(hb:zqd h hh id L)(c1:p.1.zbm=true)(c2:q.1.zbm=true)
  (hl:∀i,(L i).length+(((LKs.one k p).add (LKs.one j q)) i).length <= 100000000) (hq:∀h',zqd h h' id (LKs.on L ((LKs.one k p).add (LKs.one j q)))->K (.tup []) h'):
  B.call C f [.ptr id 0 0,p.1] hh λ_ h=>B.call C g [.ptr id 0 0,q.1] h λ_ h=>K (.tup []) h:=by
 refine s1 h hh id L _ _ hb c1 (by have:=hl k;omega) λh1 hb1=>?_;rw[LKs.on_one L k p]at hb1;refine s2 h h1 id _ _ _ hb1 c2 ?_ λh2 hb2=>?_
 ·have:=hl j
  simp only[LKs.add,LKs.on,length_append,length_map]at this ⊢;omega
 rw[LKs.on_one _ j q,LKs.on_on]at hb2;exact hq h2 hb2
def zue(t:Itm)(a:za×za):LKs:=(LKs.one 9 (a.1,t.zgc.map Part.cs)).add (LKs.one 3 (a.2,t.zep.map tc))
theorem ze9.spec(i:ze9.Imp C N):zkh C 9 (N 481):=λh hh id B y Q hb hy hl hq=>i _ _ hh Q (zq3 (k:=9) (by omega) hb hy hl λh' hb'=>zba (hq h' hb'))
theorem zfv.spg(i:zfv.Imp C N)(s1:zkh C 9 (N 481))(s2:zkh C 3 (N 405)):OneG zd3 zue C (N 480):=by
 intro h hh id L t a Q hb ha hl hq;obtain⟨⟨R1,a1⟩,⟨R2,a2⟩,hok⟩:=ha;have c1:=a1.zbm;have c2:=a2.zbm;apply i;simp -dsimp[zd3,c1,c2];exact two_puts s1 s2 (p:=(a.1,t.zgc.map Part.cs)) (q:=(a.2,t.zep.map tc)) hb c1 c2 hl λh2 hb2=>zba (hq h2 hb2)
theorem zdt.spg(i:zdt.Imp C N)(s1:OneG zd3 zue C (N 480)):PutG zd3 zue 10 C (N 475):=zy1 (by omega) s1 i
abbrev StaP:={ p:Sta×List (Itm×(za×za)) // p.2.map (·.1)=p.1.zet }
def zlf:DK StaP (za×za×za) where
 n:=6
 bytes:=96
 z:=[.int .i64 0,.int .i64 0,.int .i64 0,.zbj,.zbj,.zbj]
 pos:=by omega
 small:=by omega
 zlen:=rfl
 cells t a:=zlz t.1.1 a.1 a.2.1 a.2.2
 len _ _:=rfl
 at_ h t a:=(SlX h 4 a.1 (t.1.2.map zd3.cs) [] /\ ∀p∈t.1.2,zd3.at_ h p.1 p.2) /\ (SlX h 6 a.2.1 (t.1.1.zjf.map Lot.cs) [] /\ SlX h 8 a.2.2 (t.1.1.zgq.map znh.cs) []) /\ ∀i∈t.1.1.zet,i.ok
 mono hle ha:=⟨⟨ha.1.1.mono hle,λp hp=>zd3.mono hle (ha.1.2 p hp)⟩,⟨ha.2.1.1.mono hle,ha.2.1.2.mono hle⟩,ha.2.2⟩
 ok t:=∀i∈t.1.1.zet,i.ok
 at_ok ha:=ha.2.2
 obs b t a:=StaO t.1.1 a.1 t.1.2 a.2.1 a.2.2
 zxp {b h t a} hk ha:=⟨⟨ha (.sl 4 a.1 (t.1.2.map zd3.cs) []) (by simp),λp hp=>zd3.zxp (b:=false) (hk _ (by rw[<-t.2];exact mem_map.2 ⟨p,hp,rfl⟩)) λo ho=>ha o (by simp only[StaO,mem_cons];exact .inr (.inr (.inr (mem_flatMap.2 ⟨p,hp,ho⟩))))⟩,
  ⟨ha (.sl 6 a.2.1 (t.1.1.zjf.map Lot.cs) []) (by simp),ha (.sl 8 a.2.2 (t.1.1.zgq.map znh.cs) []) (by simp)⟩,hk⟩
def zoy(t:StaP)(a:za×za×za):LKs:=(zsr zd3 zue 10 a.1 t.1.2).add ((LKs.one 6 (a.2.1,t.1.1.zjf.map Lot.cs)).add (LKs.one 11 (a.2.2,t.1.1.zgq.map znh.cs)))
theorem zfb.spg(i:zfb.Imp C N)(s1:PutG zd3 zue 10 C (N 475))(s2:zkh C 6 (N 130))(s3:zkh C 11 (N 207)):OneG zlf zoy C (N 473):=by
 intro h hh id L t a Q hb ha hl hq;obtain⟨⟨a1,a1'⟩,⟨a2,a3⟩,hok⟩:=ha;have c1:=a1.zbm;have c2:=a2.zbm;have c3:=a3.zbm;apply i;simp -dsimp[zlf,c1,c2,c3];have hP:t.1.2.length <= 100000000:=by
  have:=hl 9;have e:(zoy t a 9).length=t.1.2.length:=by
   have g:∀l:List (Itm×(za×za)),(l.map λ_=>1).sum=l.length:=λl=>by
    induction l with
    | nil=>rfl
    | cons a l ih=>rw[map_cons,sum_cons,ih,length_cons];omega
   simp[zoy,zsr,LKs.add,LKs.one,LKs.sum,zue,g]
  omega
 refine s1 h hh id L a.1 t.1.2 [] _ hb a1 a1' hP (λi=>?_) λh1 hb1=>?_
 ·have:=hl i
  simp only[zoy,LKs.add,length_append]at this;omega
 refine two_puts s2 s3 (p:=(a.2.1,t.1.1.zjf.map Lot.cs)) (q:=(a.2.2,t.1.1.zgq.map znh.cs)) hb1 c2 c3 (λi=>?_) λh2 hb2=>zba (hq h2 ?_)
 ·have:=hl i
  simp only[zoy,LKs.add,LKs.on,length_append,length_map]at this ⊢;omega
 rw[LKs.on_on]at hb2;exact hb2
theorem zdf.spg(i:zdf.Imp C N)(s1:OneG zlf zoy C (N 473)):PutG zlf zoy 14 C (N 470):=zy1 (by omega) s1 i
end Go.Ab
namespace Go.Ab
open List
variable{C:zh}{N:zN}
theorem zhd.toL{es g:Nat}(s:zhd C es g):zpr C es 100000000 g:=λt h0 h Q ht ho hq=>s t h0 h Q ⟨ht.is,ht.n_le,ht.zoq⟩ ho hq
theorem zrb{b:zwu}{i g:Nat}(h:b.full i=false)(s:zdn C g):ziy C b i g:=⟨λe=>(by rw[h]at e;cases e),λ_=>s⟩
theorem kind1{b:zwu}{i g:Nat}(h:b.full i=true)(s:zpr C (b.es i) (b.lim i) g):ziy C b i g:=⟨λ_=>s,λe=>(by rw[h]at e;cases e)⟩
theorem pair_perm(b:zwu){k j:Nat}(hk:k<23)(hj:j<23)(p q:za×List (List za)):[obK (b.es k) p,obK (b.es j) q].Perm (zl2 b ((LKs.one k p).add (LKs.one j q)) 0 23):=by
 refine List.Perm.trans ?_ (zup b _ _ _ _).symm;rw[zyd b hk,zyd b hj];exact List.Perm.refl _
def zyc:zwu:=⟨λi=>if i=6 then 6 else if i=9 then 2 else if i=10 then 4 else if i=11 then 8 else if i=14 then 6 else 1,λ_=>100000000,λi=>decide (i=3)||decide (i=6)||decide (i=9)||decide (i=10)||decide (i=11)||decide (i=14)⟩
theorem ze0.sps(i:ze0.Imp C N)(f0:zdn C (N 80))(f1:zdn C (N 81))(f2:zdn C (N 82))(f3:zhd C 1 (N 83))(f4:zdn C (N 84))(f5:zdn C (N 85))(f6:zhd C 6 (N 86))(f7:zdn C (N 87))(f8:zdn C (N 88))(f9:zhd C 2 (N 89))(f10:zpr C 4 100000000 (N 90))(f11:zhd C 8 (N 91))(f12:zdn C (N 92))(f13:zdn C (N 93))(f14:zhd C 6 (N 94))(f15:zdn C (N 95))(f16:zdn C (N 96))(f17:zdn C (N 97))(f18:zdn C (N 98))(f19:zdn C (N 99))(f20:zdn C (N 100))(f21:zdn C (N 101))(f22:zdn C (N 102)):zuu C zyc (N 62):=zzm i zyc (zrb rfl f0) (zrb rfl f1) (zrb rfl f2) (kind1 rfl f3.toL) (zrb rfl f4) (zrb rfl f5) (kind1 rfl f6.toL) (zrb rfl f7) (zrb rfl f8) (kind1 rfl f9.toL) (kind1 rfl f10) (kind1 rfl f11.toL) (zrb rfl f12) (zrb rfl f13) (kind1 rfl f14.toL) (zrb rfl f15) (zrb rfl f16) (zrb rfl f17) (zrb rfl f18) (zrb rfl f19) (zrb rfl f20) (zrb rfl f21) (zrb rfl f22)
theorem zbk.spec(i:zbk.Imp C N)(s1:zff.Spec C N)(s2:zfg.Spec C N):zpr C 4 100000000 (N 90):=λt h0 h Q ht ho hq=>i t.x h Q (flatD_spec zd3 zp1 s1 s2 t ht ho λh' hle=>zba (hq h' hle))
def zq9(k i:Int):Sta:=⟨mark k i,0,0,[],[],[]⟩
def zfj.Spec(C:zh)(N:zN):Prop:=∀(k i:Int)(h:zb)(Q:zQ),Q (.agg (zlz (zq9 k i) .zbj .zbj .zbj)) h->C (N 115) [.int .i64 k,.int .i64 i] h Q
theorem zfj.spec(i:zfj.Imp C N)(s1:zhl.Spec C N):zfj.Spec C N:=by
 intro k j h Q hq;apply i;simp +contextual -dsimp;refine s1 _ _ _ _ ?_;simp +contextual -dsimp;exact zba hq
theorem staNil(k i:Int)(h:zb):zqx h (zq9 k i) .zbj .zbj .zbj:=⟨Dl.zbj zd3 h,⟨[],SlX.zbj h 6⟩,⟨[],SlX.zbj h 8⟩,by simp[zq9],by simp[zq9],by simp[zq9]⟩
theorem zbc.spec(i:zbc.Imp C N)(s1:zfj.Spec C N)(s2:zev.Spec C N):zhd C 6 (N 94):=λt h0 h Q ht ho hq=>i t.x h Q (zpn (elD (m:=λk i=>zlz (zq9 k i) .zbj .zbj .zbj) (bytes:=96) (by omega) (λ_ _=>rfl) rfl (by omega) s1 (λk i h Q hq=>s2 (zq9 k i) (zq9 k i) _ _ _ _ _ _ h Q (staNil k i h) (staNil k i h) (by simpa using hq))) ht.is ho ht.n_le ht.zoq λh' hle=>zba (hq h' hle))
theorem state_perm(t:StaP)(a:za×za×za):(zlf.obs false t a).Perm (zl2 zyc (zoy t a) 0 23):=by
 refine List.Perm.trans ?_ (zup zyc _ _ _ _).symm;have e1:=zxx (b:=zyc) (k:=10) (K:=zd3) (inn:=zue) (by omega) rfl (λt a=>pair_perm zyc (k:=9) (j:=3) (by omega) (by omega) (a.1,t.zgc.map Part.cs) (a.2,t.zep.map tc)) a.1 t.1.2;have e2:=pair_perm zyc (k:=6) (j:=11) (by omega) (by omega) (a.2.1,t.1.1.zjf.map Lot.cs) (a.2.2,t.1.1.zgq.map znh.cs);refine List.Perm.trans ?_ (e1.append e2);exact(perm_append_comm (l₁:=[Ob.sl 6 a.2.1 (t.1.1.zjf.map Lot.cs) [],Ob.sl 8 a.2.2 (t.1.1.zgq.map znh.cs) []])).cons _
theorem zd1.spg(i:zd1.Imp C N)(s1:PutG zlf zoy 14 C (N 470))(s3:zuu C zyc (N 62)):ApartG zlf zoy 14 zyc C (N 453):=apartG_of (by omega) rfl state_perm s1 s3 i
variable{C:zh}{N:zN}
section
variable{hb h0 h:zb}{l:List Ob}{p x:za}{b:List UInt8}{r:Rdr}
end
variable{C:zh}{N:zN}
theorem ones_apart{T Ad:Type}{K:DK T Ad}{inn:T->Ad->LKs}{k g n:Nat}{b:zwu}(hn:K.n=n)(s:ApartG K inn k b C g){h0 h:zb}{t u:T}{a c:Ad}{Q:zQ}(ho:zcw h0 h (K.obs false t a++K.obs false u c))(ht:K.ok t)(hu:K.ok u)
  (hf:∀x y,Fits b (allL K inn k [(x,[(t,a)]),(y,[(u,c)])])) {i1 i2 i3:Nat} (f1:h i1=none) (f2:upd h i1 (zgl (K.cells t a)) i2=none) (f3:upd (upd h i1 (zgl (K.cells t a))) i2 (zgl (K.cells u c)) i3=none) (hq:∀h',h0.le h'->Q (.bool true) h'):
  C g [.sl i3 0 0 2 1 2] (upd (upd (upd h i1 (zgl (K.cells t a))) i2 (zgl (K.cells u c))) i3 (zgl [.sl i1 0 0 1 n 1,.sl i2 0 0 1 n 1])) Q:=by
 subst hn;have o1:=ho.zpz f1 (n:=1) (cp:=1) (es:=K.n) (cs:=K.cells t a) (L:=[K.cells t a]) (R:=[]) (λp hp=>by rw[append_nil]at hp;rw[mem_singleton.1 hp];exact K.len t a) rfl (by simp) (by simp);have o2:=o1.zpz f2 (n:=1) (cp:=1) (es:=K.n) (cs:=K.cells u c) (L:=[K.cells u c]) (R:=[]) (λp hp=>by rw[append_nil]at hp;rw[mem_singleton.1 hp];exact K.len u c) rfl (by simp) (by simp);have o3:=o2.zpz f3 (n:=2) (cp:=2) (es:=1) (cs:=[.sl i1 0 0 1 K.n 1,.sl i2 0 0 1 K.n 1]) (L:=[[.sl i1 0 0 1 K.n 1],[.sl i2 0 0 1 K.n 1]]) (R:=[]) (by simp) rfl (by simp) rfl;obtain⟨q1,q2⟩:=(o3.perm perm_append_comm).out;have q2:zcw _ _ (allOb K [(.sl i1 0 0 1 K.n 1,[(t,a)]),(.sl i2 0 0 1 K.n 1,[(u,c)])]):=q2.perm (by
  simp only[allOb,DK.os,flatMap_cons,flatMap_nil,append_nil,map_cons,map_nil,cons_append];generalize K.obs false t a=p;generalize K.obs false u c=q;have e1:(p++q++[Ob.sl K.n (.sl i1 0 0 1 K.n 1) [K.cells t a] []]++[Ob.sl K.n (.sl i2 0 0 1 K.n 1) [K.cells u c] []]).Perm ([Ob.sl K.n (.sl i1 0 0 1 K.n 1) [K.cells t a] []]++(p++([Ob.sl K.n (.sl i2 0 0 1 K.n 1) [K.cells u c] []]++q))):=by
   refine List.Perm.trans (List.Perm.append_right _ perm_append_comm) ?_;rw[append_assoc,append_assoc];exact List.Perm.append_left _ (List.Perm.append_left _ perm_append_comm)
  exact e1)
 refine s _ _ [] _ _ Q (q1.zgz 0 rfl) q2 (λp hp q hq=>?_) (by simp) (λp hp=>?_) (hf _ _) λh' hle=>hq h' (zb.le_trans q1.le hle)
 ·simp only[mem_cons,not_mem_nil,or_false]at hp
  rcases hp with rfl|rfl
  ·rw[mem_singleton.1 hq];exact ht
  ·rw[mem_singleton.1 hq];exact hu
 ·simp only[mem_cons,not_mem_nil,or_false]at hp
  rcases hp with rfl|rfl<;>simp
theorem state_fits{s:Sta}{P Q:List (Itm×(za×za))}{e:P.map (·.1)=s.zet}{f:Q.map (·.1)=s.zet}{a c:za×za×za}(hn:StaN s 100000)(x y:za):Fits zyc (allL zlf zoy 14 [(x,[(⟨(s,P),e⟩,a)]),(y,[(⟨(s,Q),f⟩,c)])]):=by
 have one:∀(x:za)(P:List (Itm×(za×za)))(e:P.map (·.1)=s.zet)(a:za×za×za),LKs.cap (zsr zlf zoy 14 x [(⟨(s,P),e⟩,a)]) zyc.lim /\ LKs.cnt (zsr zlf zoy 14 x [(⟨(s,P),e⟩,a)]) 1000000 /\ LKs.sup (zsr zlf zoy 14 x [(⟨(s,P),e⟩,a)]) zyc.full:=by
  intro x P e a;have hPl:P.length <= 100000:=by have:=congrArg List.length e;rw[length_map]at this;have:=hn.n;omega
  have hok:∀p∈P,p.1.ok:=λp hp=>hn.ok _ (by rw[<-e];exact mem_map.2 ⟨p,hp,rfl⟩);have n2:=hn.n;refine⟨?_,?_,?_⟩
  ·refine LKs.zya (LKs.zvp (by simp[zyc])) (LKs.cap_sum λq hq=>?_)
   rw[mem_singleton.1 hq];refine LKs.zya (LKs.zya (LKs.zvp (by simp[zyc];omega)) (LKs.cap_sum λp hp=>?_)) (LKs.zya (LKs.zvp ?_) (LKs.zvp ?_))
   ·obtain⟨k1,k2⟩:=hok p hp
    unfold few at k1 k2;exact LKs.zya (LKs.zvp (by simp[zyc];omega)) (LKs.zvp (by simp[zyc];omega))
   ·simp[zyc];omega
   ·simp[zyc];omega
  ·refine LKs.cnt_le (LKs.zx8 (LKs.zvo _ _) (LKs.cnt_sum (c:=900000) λq hq=>?_)) (by simp)
   rw[mem_singleton.1 hq];refine LKs.cnt_le (LKs.zx8 (LKs.zx8 (LKs.zvo _ _) (LKs.cnt_sum (c:=2) λp hp=>LKs.zx8 (LKs.zvo _ _) (LKs.zvo _ _))) (LKs.zx8 (LKs.zvo _ _) (LKs.zvo _ _))) (by simp only;omega)
  ·refine LKs.zwx (LKs.zuy rfl) (LKs.sup_sum λq hq=>?_)
   exact LKs.zwx (LKs.zwx (LKs.zuy rfl) (LKs.sup_sum λp hp=>LKs.zwx (LKs.zuy rfl) (LKs.zuy rfl))) (LKs.zwx (LKs.zuy rfl) (LKs.zuy rfl))
 have all:∀q∈[(x,[((⟨(s,P),e⟩:StaP),a)]),(y,[(⟨(s,Q),f⟩,c)])],LKs.cap (zsr zlf zoy 14 q.1 q.2) zyc.lim /\ LKs.cnt (zsr zlf zoy 14 q.1 q.2) 1000000 /\ LKs.sup (zsr zlf zoy 14 q.1 q.2) zyc.full:=by
  intro q hq;simp only[mem_cons,not_mem_nil,or_false]at hq;rcases hq with rfl|rfl
  ·exact one x P e a
  ·exact one y Q f c
 exact LKs.fits_of (n:=2*1000000) (LKs.cap_sum λq hq=>(all q hq).1) (LKs.cnt_sum λq hq=>(all q hq).2.1) (by omega) (LKs.sup_sum λq hq=>(all q hq).2.2)
variable{C:zh}{N:zN}
def zc2.Spec(C:zh)(N:zN):Prop:=∀(s:Sta)(x y z w:za)(L:List Key)(R:List (List za))(h:zb)(Q:zQ),zqx h s x y z->SlX h 1 w (L.map tc) R->L.length <= 100000000->s.zet.length+s.zjf.length+s.zgq.length <= 1000000->(∀x' P y' z' h',P.map (·.1)=(zt5 s L).zet->zcw h h' (StaO (zt5 s L) x' P y' z')->Q (.agg (zlz (zt5 s L) x' y' z')) h')->C (N 597) [.agg (zlz s x y z),w] h Q
theorem zc2.spec(i:zc2.Imp C N)(s1:zf1.Spec C N):zc2.Spec C N:=by
 intro s x y z w L R h Q hs hw hL hn hq;obtain⟨hI,⟨R2,hy⟩,⟨R3,hz⟩,n1,n2,n3⟩:=hs;have cx:=hI.zbm;have cy:=hy.zbm;have cz:=hz.zbm;have lx:=hI.zbi;have ly:=hy.zbi;have lz:=hz.zbi;rw[length_map]at ly lz;apply i;simp -dsimp[cx,cy,cz,-zc2.l6,-zc2.k5];refine zd.intro (λn vs hh=>∃(j:Nat)(X:za)(P:List (Itm×(za×za))),j+n=s.zet.length /\ vs=[.int .i64 (j:Int),.agg [.int .i64 s.Now,.int .i64 s.zob,.int .i64 s.zlx,X,.zbj,.zbj]] /\ P.map (·.1)=(s.zet.take j).filter (λt=>decide (t.Code∈L)) /\ Df zd3 h hh X P) s.zet.length ?_ ⟨0,.zbj,[],by simp,rfl,by simp,by simpa[Df,DK.os]using (zcw.start h).zbj zd3.n⟩;rintro Y n vs hh ⟨j,X,P,hj,rfl,eP,o⟩ hY;have hPl:P.length <= s.zet.length:=by
  have:=congrArg List.length eP;rw[length_map]at this;rw[this];exact zjg _ _ _
 have cX:X.zbm=true:=(o.zgz 0 rfl).zbm;simp -dsimp only[zc2.l6,zc2.k5,B.zjr,V.zey,getElem?_cons_zero,getElem?_cons_succ,lx,V.zeh,B.ze];refine B.zm (λhc=>?_) (λhc=>?_)
 ·rw[decide_eq_true_eq]at hc
  obtain⟨t,ht⟩:=zgf (L:=s.zet) (k:=j) (by omega);obtain⟨a,ea⟩:=(hI.mono o.le).get ht;have e1:V.zb3 4 x (.int .i64 (j:Int))=some (elp 4 x j 0):=ea.idx;have e2:A.zo3 hh (elp 4 x j 0) 4=some (.agg [.str t.Code,.int .i64 t.Life,a.1,a.2]):=ea.ldn;obtain⟨⟨Rp,hp⟩,⟨Ro,ho⟩,hok⟩:(∃R,SlX hh 2 a.1 (t.zgc.map Part.cs) R) /\ (∃R,SlX hh 1 a.2 (t.zep.map tc) R) /\ t.ok:=ea.at_;have ca1:=hp.zbm;have ca2:=ho.zbm;have hf:=zmk (λt:Itm=>decide (t.Code∈L)) ht;have e3:V.fieldAddr 0 (elp 4 x j 0)=some (elp 4 x j 0):=ea.fld 0 0;have e4:A.ldv hh (elp 4 x j 0)=some (.str t.Code):=ea.ld 0 (by decide);simp -dsimp only[B.zjr,V.zey,getElem?_cons_zero,getElem?_cons_succ,e1,e3,e4,B.zha,B.ze];refine s1 w L R t.Code hh _ (hw.mono o.le) (by omega) ?_;refine B.zm (λhb=>?_) (λhb=>?_)
  ·rw[if_pos hb]at hf
   simp -dsimp[e1,e2,ca1,ca2,cX,-V.zex];have hok':t.zgc.length <= few /\ t.zep.length <= few:=hok;unfold few at hok';refine((zcw.start hh).sz 2).zif 0 rfl hp (by omega) (by simp;omega) (by simp[maxLen];omega) λp' h1 o1 _=>?_;have o1:zcw hh h1 [.sl 2 p' (t.zgc.map Part.cs) []]:=o1;have cp':p'.zbm=true:=(o1.zgz 0 rfl).zbm;simp -dsimp[ca1,ca2,cp',cX,-V.zex];refine((zcw.start h1).sz 1).zif 0 rfl (ho.mono o1.le) (by omega) (by simp;omega) (by simp[maxLen];omega) λq' h2 o2 _=>?_;have o2:zcw h1 h2 [.sl 1 q' (t.zep.map tc) []]:=o2;have cq':q'.zbm=true:=(o2.zgz 0 rfl).zbm;have hfl:zed [(0,some 4,.agg (zd3.cells t (p',q')))] (zfs 1 [.str [],.int .i64 0,.zbj,.zbj])=some (zd3.cells t (p',q')):=zui zd3 t (p',q');have hfl:zed [(0,some 4,.agg [.str t.Code,.int .i64 t.Life,p',q'])] (zfs 1 [.str [],.int .i64 0,.zbj,.zbj])=some [.str t.Code,.int .i64 t.Life,p',q']:=hfl;simp -dsimp[cp',cq',cX,hfl,-V.zex];have o3:=zcw.join o (o1.join o2);refine o3.push 0 rfl (cs:=[.str t.Code,.int .i64 t.Life,p',q']) rfl (by decide) (by simp;omega) (by simp[maxLen];omega) λX' h3 o4 _=>?_;have cX':X'.zbm=true:=(o4.zgz 0 rfl).zbm;simp -dsimp[cX',-V.zex];rw[zg8 (show j<4611686018427387904 by omega)];simp -dsimp only[B.ze];refine hY (s.zet.length-(j+1)) _ _ (by omega) ⟨j+1,X',P++[(t,(p',q'))],by omega,rfl,by rw[hf,<-eP,map_append];rfl,?_⟩;unfold Df;rw[DK.zq8,DK.os_one,map_append];exact o4
  ·rw[if_neg (by rw[hb];exact Bool.false_ne_true),append_nil]at hf
   simp -dsimp only[zg8 (show j<4611686018427387904 by omega),B.ze];exact hY (s.zet.length-(j+1)) _ _ (by omega) ⟨j+1,X,P,by omega,rfl,by rw[hf];exact eP,o⟩
 ·rw[decide_eq_false_iff_not]at hc
  have:j=s.zet.length:=by omega
  subst this;rw[take_length]at eP;have o0:zcw h hh ([.sl 4 X (P.map zd3.cs) [],.sl 6 .zbj [] []]++zd3.os false P):=(zcw.zbj o 6).perm ((perm_append_comm (l₁:=zd3.os false P) (l₂:=[Ob.sl 6 .zbj [] []])).cons _);refine zd.intro (λn vs hh=>∃(j:Nat)(Yv:za),j+n=s.zjf.length /\ vs=[.int .i64 (j:Int),.agg [.int .i64 s.Now,.int .i64 s.zob,.int .i64 s.zlx,X,Yv,.zbj]] /\ zcw h hh ([.sl 4 X (P.map zd3.cs) [],.sl 6 Yv (((s.zjf.take j).filter (λt=>decide (t.Item∈L))).map Lot.cs) []]++zd3.os false P)) s.zjf.length ?_ ⟨0,.zbj,by simp,rfl,by simpa using o0⟩;rintro Y2 n vs h2 ⟨j,Yv,hj2,rfl,o⟩ hY2;have cYv:Yv.zbm=true:=(o.zgz 1 rfl).zbm;have hQl:=zjg (λt:Lot=>decide (t.Item∈L)) s.zjf j;simp -dsimp only[zc2.l4,zc2.k3,B.zjr,V.zey,getElem?_cons_zero,getElem?_cons_succ,ly,V.zeh,B.ze];refine B.zm (λhc=>?_) (λhc=>?_)
  ·rw[decide_eq_true_eq]at hc
   obtain⟨t,ht⟩:=zgf (L:=s.zjf) (k:=j) (by omega);have f1:V.zb3 6 y (.int .i64 (j:Int))=some (elp 6 y j 0):=hy.zjp (by rw[length_map];omega);have f2:A.zo3 h2 (elp 6 y j 0) 6=some (.agg t.cs):=(hy.mono o.le).elem (by rw[getElem?_map,ht];rfl);have hf:=zmk (λt:Lot=>decide (t.Item∈L)) ht;have f3:V.fieldAddr 1 (elp 6 y j 0)=some (elp 6 y j 1):=hy.zot (by rw[length_map];omega) 0 1;have f4:A.ldv h2 (elp 6 y j 1)=some (.str t.Item):=(hy.mono o.le).ldv (f:=1) (c:=t.cs) (by rw[getElem?_map,ht];rfl) (by omega);simp -dsimp only[B.zjr,V.zey,getElem?_cons_zero,getElem?_cons_succ,f1,f3,f4,B.zha,B.ze];refine s1 w L R t.Item h2 _ (hw.mono o.le) (by omega) ?_;refine B.zm (λhb=>?_) (λhb=>?_)
   ·rw[if_pos hb]at hf
    simp -dsimp[f1,f2,cX,cYv,zfs,-V.zex];refine o.push 1 rfl (cs:=t.cs) rfl (by decide) (by simp;omega) (by simp[maxLen];omega) λY' h3 o4 _=>?_;have cY':Y'.zbm=true:=(o4.zgz 1 rfl).zbm;simp -dsimp[cY',-V.zex];rw[zg8 (show j<4611686018427387904 by omega)];simp -dsimp only[B.ze];refine hY2 (s.zjf.length-(j+1)) _ _ (by omega) ⟨j+1,Y',by omega,rfl,?_⟩;rw[hf,map_append];exact o4
   ·rw[if_neg (by rw[hb];exact Bool.false_ne_true),append_nil]at hf
    simp -dsimp only[zg8 (show j<4611686018427387904 by omega),B.ze];exact hY2 (s.zjf.length-(j+1)) _ _ (by omega) ⟨j+1,Yv,by omega,rfl,by rw[hf];exact o⟩
  ·rw[decide_eq_false_iff_not]at hc
   have:j=s.zjf.length:=by omega
   subst this;rw[take_length]at o;have o0:zcw h h2 ([.sl 4 X (P.map zd3.cs) [],.sl 6 Yv ((s.zjf.filter (λt=>decide (t.Item∈L))).map Lot.cs) [],.sl 8 .zbj [] []]++zd3.os false P):=by
    have:=zcw.zbj o 8;exact this.perm (((perm_append_comm (l₁:=zd3.os false P) (l₂:=[Ob.sl 8 .zbj [] []])).cons _).cons _)
   refine zd.intro (λn vs hh=>∃(j:Nat)(Zv:za),j+n=s.zgq.length /\ vs=[.int .i64 (j:Int),.agg [.int .i64 s.Now,.int .i64 s.zob,.int .i64 s.zlx,X,Yv,Zv]] /\ zcw h hh ([.sl 4 X (P.map zd3.cs) [],.sl 6 Yv ((s.zjf.filter (λt=>decide (t.Item∈L))).map Lot.cs) [],.sl 8 Zv (((s.zgq.take j).filter (λt=>decide (t.Item∈L))).map znh.cs) []]++zd3.os false P)) s.zgq.length ?_ ⟨0,.zbj,by simp,rfl,by simpa using o0⟩;rintro Y3 n vs h3 ⟨j,Zv,hj3,rfl,o⟩ hY3;have cZv:Zv.zbm=true:=(o.zgz 2 rfl).zbm;have hQl:=zjg (λt:znh=>decide (t.Item∈L)) s.zgq j;simp -dsimp only[zc2.l2,zc2.k1,B.zjr,V.zey,getElem?_cons_zero,getElem?_cons_succ,lz,V.zeh,B.ze];refine B.zm (λhc=>?_) (λhc=>?_)
   ·rw[decide_eq_true_eq]at hc
    obtain⟨t,ht⟩:=zgf (L:=s.zgq) (k:=j) (by omega);have f1:V.zb3 8 z (.int .i64 (j:Int))=some (elp 8 z j 0):=hz.zjp (by rw[length_map];omega);have f2:A.zo3 h3 (elp 8 z j 0) 8=some (.agg t.cs):=(hz.mono o.le).elem (by rw[getElem?_map,ht];rfl);have hf:=zmk (λt:znh=>decide (t.Item∈L)) ht;have f3:V.fieldAddr 1 (elp 8 z j 0)=some (elp 8 z j 1):=hz.zot (by rw[length_map];omega) 0 1;have f4:A.ldv h3 (elp 8 z j 1)=some (.str t.Item):=(hz.mono o.le).ldv (f:=1) (c:=t.cs) (by rw[getElem?_map,ht];rfl) (by omega);simp -dsimp only[B.zjr,V.zey,getElem?_cons_zero,getElem?_cons_succ,f1,f3,f4,B.zha,B.ze];refine s1 w L R t.Item h3 _ (hw.mono o.le) (by omega) ?_;refine B.zm (λhb=>?_) (λhb=>?_)
    ·rw[if_pos hb]at hf
     simp -dsimp[f1,f2,cX,cYv,cZv,zfs,-V.zex];refine o.push 2 rfl (cs:=t.cs) rfl (by decide) (by simp;omega) (by simp[maxLen];omega) λZ' h4 o4 _=>?_;have cZ':Z'.zbm=true:=(o4.zgz 2 rfl).zbm;simp -dsimp[cZ',-V.zex];rw[zg8 (show j<4611686018427387904 by omega)];simp -dsimp only[B.ze];refine hY3 (s.zgq.length-(j+1)) _ _ (by omega) ⟨j+1,Z',by omega,rfl,?_⟩;rw[hf,map_append];exact o4
    ·rw[if_neg (by rw[hb];exact Bool.false_ne_true),append_nil]at hf
     simp -dsimp only[zg8 (show j<4611686018427387904 by omega),B.ze];exact hY3 (s.zgq.length-(j+1)) _ _ (by omega) ⟨j+1,Zv,by omega,rfl,by rw[hf];exact o⟩
   ·rw[decide_eq_false_iff_not]at hc
    have:j=s.zgq.length:=by omega
    subst this;rw[take_length]at o;simp -dsimp[cX,cYv,cZv];exact zba (hq X P Yv Zv h3 eP o)
variable{C:zh}{N:zN}
def zx.Spec(C:zh)(N:zN):Prop:=∀(s:Sta)(x y z:za)(cs:List za)(k:UInt8)(item:Key)(lot line:Int)(h:zb)(Q:zQ),zqx h s x y z->s.zet.length <= 100000->AskC cs k item lot line->(∀x' h' R',h.le h'->SlX h' 1 x' ((zgg s k item lot line).map tc) R'->Q x' h')->C (N 596) [.agg (zlz s x y z),.agg cs] h Q
theorem zx.spec(i:zx.Imp C N)(s1:zeg.Spec C N)(s2:zf1.Spec C N)(s3:zdb.Spec C N)(s4:zej.Spec C N):zx.Spec C N:=by
 intro s x y z cs k item lot line h Q hs hn hc hq;obtain⟨hI,⟨R2,hy⟩,⟨R3,hz⟩,n1,n2,n3⟩:=hs;have cx:=hI.zbm;have cy:=hy.zbm;have cz:=hz.zbm;have ly:=hy.zbi;have lz:=hz.zbi;rw[length_map]at ly lz;have hcl:=hc.len;have bx:A.zs2 11 (.agg cs)=some (.agg cs):=by simp -dsimp[A.zs2,A.zpp,hcl]
 apply i;simp -dsimp only[zx.cps,zx.k14];simp -dsimp[cx,cy,cz,bx,zfs,-zx.k13];intro i9 f9;have o1:=(zcw.start h).zpz (id:=i9) (n:=1) (cp:=1) (es:=1) (cs:=[.str [42]]) (L:=zns.map tc) (R:=[]) f9 (by decide) rfl (by decide) rfl;generalize upd h i9 (zgl [.str [42]])=h1 at *;have hst:SlX h1 1 (.sl i9 0 0 1 1 1) (zns.map tc) []:=o1.zgz 0 rfl;have hx1:=hI.mono o1.le;have g0:∀{n:Nat}{v:za},cs[n]?=some v->V.zcc n (.agg cs)=some v:=λ{n v} e=>by simpa using e
 simp -dsimp only[zx.k13,B.zjr,V.zey,getElem?_cons_zero,getElem?_cons_succ,hc.item,B.ze];refine s1 x s.zet h1 _ hx1 (by omega) λv12 h2 R12 le2 h12=>?_;have cl:=zn8 s.zet;refine s2 v12 (zci s.zet) R12 item h2 _ h12 (by omega) ?_;have lef:=zb.le_trans o1.le le2;have hx2:=hx1.mono le2;have hst2:=hst.mono le2;simp -dsimp only[B.zjr,V.zey,hc.kind,B.ze];have kq:∀n:Nat,n<256->(((k.toNat:Nat):Int)=(n:Int)↔k=UInt8.ofNat n):=λn hn=>by
  constructor
  ·intro e
   have:k.toNat=n:=by omega
   rw[<-this];simp
  ·intro e
   rw[e];have:(UInt8.ofNat n).toNat=n:=by simp;omega
   rw[this]
 have star:zgg s k item lot line=zns->dn Q (.sl i9 0 0 1 1 1) h2:=λhcod=>by
  rw[hcod]at hq;exact zba (hq _ _ [] lef hst2)
 have wl:∀c,(zgy s.zet [c]).length <= s.zet.length+1:=λc=>by
  have:=zty s.zet [c];exact this
 have wth:∀(c:Key)(id:Nat)(K:zQ),h2 id=none->(∀v h3 R',h2.le h3->SlX h3 1 v ((zgy s.zet [c]).map tc) R'->K v h3)->C (N 594) [x,.sl id 0 0 1 1 1] (upd h2 id (zgl [.str c])) K:=by
  intro c id K hid hK;have o2:=(zcw.start h2).zpz (id:=id) (n:=1) (cp:=1) (es:=1) (cs:=[.str c]) (L:=[c].map tc) (R:=[]) hid (by simp[tc]) rfl (by simp) rfl;exact s3 x _ s.zet [c] [] _ K (hx2.mono o2.le) (by omega) (o2.zgz 0 rfl) (by simp) λv h3 R' le3 hv=>hK v h3 R' (zb.le_trans o2.le le3) hv
 by_cases ha:k=1 \/ k=2 \/ k=3 \/ k=12
 ·have hcod:zgg s k item lot line=zns:=by
   rcases ha with rfl|rfl|rfl|rfl<;>rfl
  rcases ha with rfl|rfl|rfl|rfl<;>(simp -dsimp[-zx.k11];exact star hcod)
 have a1:k≠1:=λe=>ha (.inl e);have a2:k≠2:=λe=>ha (.inr (.inl e));have a3:k≠3:=λe=>ha (.inr (.inr (.inl e)));have a12:k≠12:=λe=>ha (.inr (.inr (.inr e)));have q1:decide ((k.toNat:Int)=1)=false:=decide_eq_false λe=>a1 ((kq 1 (by omega)).1 e);have q2:decide ((k.toNat:Int)=2)=false:=decide_eq_false λe=>a2 ((kq 2 (by omega)).1 e);have q3:decide ((k.toNat:Int)=3)=false:=decide_eq_false λe=>a3 ((kq 3 (by omega)).1 e);have q12:decide ((k.toNat:Int)=12)=false:=decide_eq_false λe=>a12 ((kq 12 (by omega)).1 e);simp -dsimp only[zx.k12,V.zhh,q1,q2,q3,q12,B.ze,B.cond_false];by_cases h4:k=4 \/ k=5
 ·have hcod:zgg s k item lot line=if item∈zci s.zet then ztu (zgy s.zet [item]) lotT else zns:=by unfold zgg;rw[if_pos h4]
  have k2:zx.k1 C N (dn Q) (.sl i9 0 0 1 1 1) (.bool (decide (item∈zci s.zet))) (.agg (zlz s x y z)) (.agg cs) h2:=by
   by_cases hm:item∈zci s.zet
   ·rw[if_pos hm]at hcod
    rw[hcod]at hq;simp -dsimp[hm,hc.item,zfs];intro i22 f22;refine wth item i22 _ f22 λv h3 R' le3 hv=>?_;refine s4.rd v _ R' lotT h3 _ hv (by have:=wl item;omega) λv' h4 R4 le4 hv4=>?_;exact zba (hq v' h4 R4 (zb.le_trans lef (zb.le_trans le3 le4)) hv4)
   ·rw[if_neg hm]at hcod
    simp -dsimp[hm];exact star hcod
  rcases h4 with rfl|rfl
  ·simp -dsimp[-zx.k1]
   exact k2
  ·simp -dsimp[-zx.k1]
   exact k2
 have a4:k≠4:=λe=>h4 (.inl e);have a5:k≠5:=λe=>h4 (.inr e);have q4:decide ((k.toNat:Int)=4)=false:=decide_eq_false λe=>a4 ((kq 4 (by omega)).1 e);have q5:decide ((k.toNat:Int)=5)=false:=decide_eq_false λe=>a5 ((kq 5 (by omega)).1 e);simp -dsimp only[zx.k11,V.zhh,q4,q5,B.ze,B.cond_false];by_cases h9:k=9
 ·subst h9
  have hcod:zgg s 9 item lot line=if item∈zci s.zet then ztu (zgy s.zet [item]) lineT else zns:=by unfold zgg;rw[if_neg h4,if_pos rfl]
  have e9:decide ((((9:UInt8).toNat:Nat):Int)=9)=true:=by decide
  simp -dsimp only[e9,B.cond_true];by_cases hm:item∈zci s.zet
  ·rw[if_pos hm]at hcod
   rw[hcod]at hq;simp -dsimp[hm,hc.item,zfs];intro i22 f22;refine wth item i22 _ f22 λv h3 R' le3 hv=>?_;refine s4.rd v _ R' lineT h3 _ hv (by have:=wl item;omega) λv' h4 R4 le4 hv4=>?_;exact zba (hq v' h4 R4 (zb.le_trans lef (zb.le_trans le3 le4)) hv4)
  ·rw[if_neg hm]at hcod
   simp -dsimp[hm];exact star hcod
 have q9:decide ((k.toNat:Int)=9)=false:=decide_eq_false λe=>h9 ((kq 9 (by omega)).1 e);simp -dsimp only[q9,B.cond_false,zx.k10,V.zhh,B.ze];by_cases h13:k=13 \/ k=15
 ·have hcod:zgg s k item lot line=if item∈zci s.zet then zgy s.zet [item] else zns:=by unfold zgg;rw[if_neg h4,if_neg h9,if_pos h13]
  have k4:zx.k3 C N (dn Q) (.sl i9 0 0 1 1 1) (.bool (decide (item∈zci s.zet))) (.agg (zlz s x y z)) (.agg cs) h2:=by
   by_cases hm:item∈zci s.zet
   ·rw[if_pos hm]at hcod
    rw[hcod]at hq;simp -dsimp[hm,hc.item,zfs];intro i22 f22;exact wth item i22 _ f22 λv h3 R' le3 hv=>zba (hq v h3 R' (zb.le_trans lef le3) hv)
   ·rw[if_neg hm]at hcod
    simp -dsimp[hm];exact star hcod
  rcases h13 with rfl|rfl
  ·simp -dsimp[-zx.k3]
   exact k4
  ·simp -dsimp[-zx.k3]
   exact k4
 have a13:k≠13:=λe=>h13 (.inl e);have a15:k≠15:=λe=>h13 (.inr e);have q13:decide ((k.toNat:Int)=13)=false:=decide_eq_false λe=>a13 ((kq 13 (by omega)).1 e);have q15:decide ((k.toNat:Int)=15)=false:=decide_eq_false λe=>a15 ((kq 15 (by omega)).1 e);simp -dsimp only[q13,q15,B.cond_false,zx.k9,V.zhh,B.ze];by_cases h6:k=6 \/ k=7 \/ k=8
 ·have hcod:zgg s k item lot line=match s.zjf.find? (λl=>decide (l.Id=lot)) with|some t=>zgy s.zet [t.Item]|none=>zns:=by unfold zgg;rw[if_neg h4,if_neg h9,if_neg h13,if_pos h6];rfl
  have k5:zd (zx.l5 C N (dn Q) (.sl i9 0 0 1 1 1) (.agg (zlz s x y z)) (.agg cs)) [.int .i64 0] h2:=by
   refine zd.intro (λn vs hh=>hh=h2 /\ ∃j:Nat,j+n=s.zjf.length /\ vs=[.int .i64 (j:Int)] /\ (s.zjf.take j).find? (λl=>decide (l.Id=lot))=none) s.zjf.length ?_ ⟨rfl,0,by simp,rfl,by simp⟩;rintro Y n vs hh ⟨rfl,j,hj,rfl,hno⟩ hY;have hy2:=hy.mono lef;simp -dsimp only[zx.l5,zx.k4,B.zjr,V.zey,getElem?_cons_zero,getElem?_cons_succ,B.ze,ly,V.zeh];refine B.zm (λhb=>?_) (λhb=>?_)
   ·rw[decide_eq_true_eq]at hb
    obtain⟨t,ht⟩:=zgf (L:=s.zjf) (k:=j) (by omega);have f1:V.zb3 6 y (.int .i64 (j:Int))=some (elp 6 y j 0):=hy2.zjp (by rw[length_map];omega);have f2:V.fieldAddr 0 (elp 6 y j 0)=some (elp 6 y j 0):=hy2.zot (by rw[length_map];omega) 0 0;have f3:A.ldv hh (elp 6 y j 0)=some (.int .i64 t.Id):=hy2.ldv (f:=0) (c:=t.cs) (by rw[getElem?_map,ht];rfl) (by omega);have f4:V.fieldAddr 1 (elp 6 y j 0)=some (elp 6 y j 1):=hy2.zot (by rw[length_map];omega) 0 1;have f5:A.ldv hh (elp 6 y j 1)=some (.str t.Item):=hy2.ldv (f:=1) (c:=t.cs) (by rw[getElem?_map,ht];rfl) (by omega);simp -dsimp only[getElem?_cons_zero,getElem?_cons_succ,f1,f2,f3,B.zha,B.zjr,V.zey,hc.lot,B.ze,V.zhh];refine B.zm (λhd=>?_) (λhd=>?_)
    ·have e1:s.zjf.find? (λl=>decide (l.Id=lot))=some t:=by
      conv=>lhs;rw[<-take_append_drop (j+1) s.zjf]
      rw[find?_append,take_succ ht,find?_append,hno];simp[hd,of_decide_eq_true hd]
     rw[e1]at hcod;rw[hcod]at hq;simp -dsimp[f1,f4,f5,zfs];intro i65 f65;exact wth t.Item i65 _ f65 λv h3 R' le3 hv=>zba (hq v h3 R' (zb.le_trans lef le3) hv)
    ·simp -dsimp only[zg8 (show j<4611686018427387904 by omega),B.ze]
     refine hY (s.zjf.length-(j+1)) _ _ (by omega) ⟨rfl,j+1,by omega,rfl,?_⟩;rw[take_succ ht,find?_append,hno];simp[of_decide_eq_false hd]
   ·rw[decide_eq_false_iff_not]at hb
    have:j=s.zjf.length:=by omega
    subst this;rw[take_length]at hno;rw[hno]at hcod;exact star hcod
  rcases h6 with rfl|rfl|rfl
  ·simp -dsimp[-zx.l5]
   exact k5
  ·simp -dsimp[-zx.l5]
   exact k5
  ·simp -dsimp[-zx.l5]
   exact k5
 have a6:k≠6:=λe=>h6 (.inl e);have a7:k≠7:=λe=>h6 (.inr (.inl e));have a8:k≠8:=λe=>h6 (.inr (.inr e));have q6:decide ((k.toNat:Int)=6)=false:=decide_eq_false λe=>a6 ((kq 6 (by omega)).1 e);have q7:decide ((k.toNat:Int)=7)=false:=decide_eq_false λe=>a7 ((kq 7 (by omega)).1 e);have q8:decide ((k.toNat:Int)=8)=false:=decide_eq_false λe=>a8 ((kq 8 (by omega)).1 e);simp -dsimp only[q6,q7,q8,B.cond_false,zx.k8,V.zhh,B.ze];by_cases h10:k=10 \/ k=11 \/ k=14
 ·have hcod:zgg s k item lot line=match s.zgq.find? (λl=>decide (l.Id=line)) with|some t=>zgy s.zet [t.Item]|none=>zns:=by unfold zgg;rw[if_neg h4,if_neg h9,if_neg h13,if_neg h6,if_pos h10];rfl
  have k6:zd (zx.l7 C N (dn Q) (.sl i9 0 0 1 1 1) (.agg (zlz s x y z)) (.agg cs)) [.int .i64 0] h2:=by
   refine zd.intro (λn vs hh=>hh=h2 /\ ∃j:Nat,j+n=s.zgq.length /\ vs=[.int .i64 (j:Int)] /\ (s.zgq.take j).find? (λl=>decide (l.Id=line))=none) s.zgq.length ?_ ⟨rfl,0,by simp,rfl,by simp⟩;rintro Y n vs hh ⟨rfl,j,hj,rfl,hno⟩ hY;have hz2:=hz.mono lef;simp -dsimp only[zx.l7,zx.k6,B.zjr,V.zey,getElem?_cons_zero,getElem?_cons_succ,B.ze,lz,V.zeh];refine B.zm (λhb=>?_) (λhb=>?_)
   ·rw[decide_eq_true_eq]at hb
    obtain⟨t,ht⟩:=zgf (L:=s.zgq) (k:=j) (by omega);have f1:V.zb3 8 z (.int .i64 (j:Int))=some (elp 8 z j 0):=hz2.zjp (by rw[length_map];omega);have f2:V.fieldAddr 0 (elp 8 z j 0)=some (elp 8 z j 0):=hz2.zot (by rw[length_map];omega) 0 0;have f3:A.ldv hh (elp 8 z j 0)=some (.int .i64 t.Id):=hz2.ldv (f:=0) (c:=t.cs) (by rw[getElem?_map,ht];rfl) (by omega);have f4:V.fieldAddr 1 (elp 8 z j 0)=some (elp 8 z j 1):=hz2.zot (by rw[length_map];omega) 0 1;have f5:A.ldv hh (elp 8 z j 1)=some (.str t.Item):=hz2.ldv (f:=1) (c:=t.cs) (by rw[getElem?_map,ht];rfl) (by omega);simp -dsimp only[getElem?_cons_zero,getElem?_cons_succ,f1,f2,f3,B.zha,B.zjr,V.zey,hc.line,B.ze,V.zhh];refine B.zm (λhd=>?_) (λhd=>?_)
    ·have e1:s.zgq.find? (λl=>decide (l.Id=line))=some t:=by
      conv=>lhs;rw[<-take_append_drop (j+1) s.zgq]
      rw[find?_append,take_succ ht,find?_append,hno];simp[hd,of_decide_eq_true hd]
     rw[e1]at hcod;rw[hcod]at hq;simp -dsimp[f1,f4,f5,zfs];intro i65 f65;exact wth t.Item i65 _ f65 λv h3 R' le3 hv=>zba (hq v h3 R' (zb.le_trans lef le3) hv)
    ·simp -dsimp only[zg8 (show j<4611686018427387904 by omega),B.ze]
     refine hY (s.zgq.length-(j+1)) _ _ (by omega) ⟨rfl,j+1,by omega,rfl,?_⟩;rw[take_succ ht,find?_append,hno];simp[of_decide_eq_false hd]
   ·rw[decide_eq_false_iff_not]at hb
    have:j=s.zgq.length:=by omega
    subst this;rw[take_length]at hno;rw[hno]at hcod;exact star hcod
  rcases h10 with rfl|rfl|rfl
  ·simp -dsimp[-zx.l7]
   exact k6
  ·simp -dsimp[-zx.l7]
   exact k6
  ·simp -dsimp[-zx.l7]
   exact k6
 have a10:k≠10:=λe=>h10 (.inl e);have a11:k≠11:=λe=>h10 (.inr (.inl e));have a14:k≠14:=λe=>h10 (.inr (.inr e));have q10:decide ((k.toNat:Int)=10)=false:=decide_eq_false λe=>a10 ((kq 10 (by omega)).1 e);have q11:decide ((k.toNat:Int)=11)=false:=decide_eq_false λe=>a11 ((kq 11 (by omega)).1 e);have q14:decide ((k.toNat:Int)=14)=false:=decide_eq_false λe=>a14 ((kq 14 (by omega)).1 e);simp -dsimp only[q10,q11,q14,B.cond_false,V.zhh,B.ze];have hcod:zgg s k item lot line=[]:=by
  unfold zgg;rw[if_neg h4,if_neg h9,if_neg h13,if_neg h6,if_neg h10,if_pos];by_cases h0:k<1
  ·exact .inl h0
  ·refine .inr ?_
   rw[UInt8.lt_iff_toNat_lt,show (15:UInt8).toNat=15 from rfl];have b0:¬ k.toNat<1:=λe=>h0 (by rw[UInt8.lt_iff_toNat_lt];exact e);have ne:∀n:Nat,n<256->k≠UInt8.ofNat n->k.toNat≠n:=λn hn e e2=>e ((kq n hn).1 (by omega));have:=ne 1 (by omega) a1;have:=ne 2 (by omega) a2;have:=ne 3 (by omega) a3;have:=ne 4 (by omega) a4;have:=ne 5 (by omega) a5;have:=ne 6 (by omega) a6;have:=ne 7 (by omega) a7;have:=ne 8 (by omega) a8;have:=ne 9 (by omega) h9;have:=ne 10 (by omega) a10;have:=ne 11 (by omega) a11;have:=ne 12 (by omega) a12;have:=ne 13 (by omega) a13;have:=ne 14 (by omega) a14;have:=ne 15 (by omega) a15;omega
 rw[hcod]at hq;exact zba (hq .zbj h2 [] lef (SlX.zbj h2 1))
end Go.Ab
namespace Go.Ab
open List
variable{C:zh}{N:zN}
theorem partT_n{s:Sta}(h:StaG s)(L:List Key):StaN (zt5 s L) 100000:=by
 have h1:=length_filter_le (λt:Itm=>decide (t.Code∈L)) s.zet;have h2:=length_filter_le (λt:Lot=>decide (t.Item∈L)) s.zjf;have h3:=length_filter_le (λt:znh=>decide (t.Item∈L)) s.zgq;have:=h.n;have:=h.items.n;refine⟨?_,λt ht=>?_⟩
 ·show (s.zet.filter _).length+(s.zjf.filter _).length+(s.zgq.filter _).length <= _
  omega
 ·have:=h.items.ok t (mem_filter.1 ht).1
  unfold Itm.ok few;omega
theorem withT_len1(I:List Itm)(c:Key):(zgy I [c]).length <= I.length+1:=zty I [c]
theorem codesOf_len(s:Sta)(k:UInt8)(item:Key)(lot line:Int):(zgg s k item lot line).length <= s.zet.length+2:=by
 have hw:=λc=>withT_len1 s.zet c;have hp:∀c m,(ztu (zgy s.zet [c]) m).length <= s.zet.length+2:=λc m=>by
  have:=hw c;rw[putT_len (zl8 _ _)];split<;>omega
 have hs:zns.length <= s.zet.length+2:=by simp[zns]
 unfold zgg;split
 ·split
  ·exact hp _ _
  ·exact hs
 split
 ·split
  ·exact hp _ _
  ·exact hs
 split
 ·split
  ·have:=hw item;omega
  ·exact hs
 split
 ·split
  ·rename_i t _;have:=hw t.Item;omega
  ·exact hs
 split
 ·split
  ·rename_i t _;have:=hw t.Item;omega
  ·exact hs
 split
 ·simp
 ·exact hs
def zeb.Spec(C:zh)(N:zN):Prop:=∀(s:Sta)(x y z:za)(cs:List za)(k:UInt8)(item:Key)(lot line:Int)(w:za)(M:List Key)(R:List (List za))(h:zb)(Q:zQ),StaW h s x y z->StaS s->AskC cs k item lot line->item.length<4611686018427387904->SlX h 1 w (M.map tc) R->M.length<4611686018427387904->(∀c∈M,c.length<4611686018427387904)->Q (.bool true) h->C (N 598) [.agg (zlz s x y z),.agg cs,w] h Q
theorem zeb.spec(i:zeb.Imp C N)(s0:ze7.Spec C N)(s1:zdu.Spec C N)(s2:zdc.Spec C N)(s3:zfn.Spec C N)(s4:zeq.Spec C N)(s5:zt.Spec C N)(s6:zcl.Spec C N)(s7:zfo.Spec C N)(s8:zec.Spec C N)
  (s9:zfk.Spec C N) (s10:zew.Spec C N) (s11:zx.Spec C N) (s12:zef.Spec C N) (s13:zc2.Spec C N) (s14:zev.Spec C N) (s15:zhd C 1 (N 396)) (s16:ApartG zlf zoy 14 zyc C (N 453)):zeb.Spec C N:=by
 intro s x y z cs k item lot line w M R h Q hW hS hA hit hw hM hMl hq;have cx:=hW.items.zbm;have cy:y.zbm=true:=hW.lots.elim λ_ r=>r.zbm;have cz:z.zbm=true:=hW.lines.elim λ_ r=>r.zbm;have hcl:=hA.len;have bx:A.zs2 11 (.agg cs)=some (.agg cs):=by simp -dsimp[hcl]
 have fx:V.ze5 0 11 (.agg cs)=some (.agg cs):=by
  simp -dsimp[hcl,take_of_length_le]
 have f2:V.zcc 2 (.agg cs)=some (.str item):=by simp -dsimp[hA.item]
 have ls:V.zkp (.str item)=some (.int .i64 (item.length:Int)):=rfl;apply i;simp -dsimp[cx,cy,cz,bx,-V.zey];refine s2 s x y z h _ hW hS λb hb=>?_;cases b with
 | true=>
  simp -dsimp[-V.zey];exact s0 _ _ (zba hq)
 | false=>
 have hG:=hb rfl;simp -dsimp[-V.zey];refine s1 .zbj w [] M R h _ (Dl.zbj zyl h) (by simp) (by simp) hw hM hMl λb2 hb2=>?_;cases b2 with
 | true=>
  simp -dsimp[-V.zey];exact s0 _ _ (zba hq)
 | false=>
 obtain⟨_,hM2⟩:=hb2 rfl;by_cases hi:item.length <= 1000
 rotate_left
 ·have hi':(1000:Int)<item.length:=by omega
  simp -dsimp[f2,hi',-V.zey];exact s0 _ _ (zba hq)
 have hi':¬ (1000:Int)<item.length:=by omega
 simp -dsimp[f2,hi',cx,cy,cz,-V.zey];have ha:=hG.at hW;have hn:=hG.n;have hnI:=hG.items.n;refine s3 s x y z h _ ha λx1 P PM y1 z1 h1 eP eM o1 k1=>?_;have c1:=k1.items.dl.zbm;have c2:=k1.lots.zbm;have c3:=k1.lines.zbm;refine s4 w M R h1 _ (hw.mono o1.le) (by omega) λw1 h2 o2=>?_;have t2:SlX h2 1 w1 (M.map tc) zh2:=o2.zgz 0 rfl;have k2:=k1.mono o2.le;simp -dsimp[c1,c2,c3,fx,hcl,take_of_length_le];refine s5 s x1 y1 z1 cs k item lot line h2 _ k2.at (by omega) hA λn h3 o3=>?_;refine s5 s x1 y1 z1 cs k item lot line h3 _ (k2.mono o3.le).at (by omega) hA λm h4 o4=>?_;have o34:=o3.join o4;simp -dsimp[c1,c2,c3];refine s6 s x1 y1 z1 w1 M zh2 h4 _ (k2.mono o34.le).at (t2.mono o34.le) (by omega) (by omega) λpx PP py pz h5 eP5 o5=>?_;have o35:=o34.join o5;refine s6 s x1 y1 z1 w1 M zh2 h5 _ (k2.mono o35.le).at (t2.mono o35.le) (by omega) (by omega) λqx QQ qy qz h6 eQ6 o6=>?_;have o36:=o35.join o6;have l26:=o36.le;have l16:=zb.le_trans o2.le l26;have l06:=zb.le_trans o1.le l16;have cp1:px.zbm=true:=(o5.zgz 0 rfl).zbm;have cp2:py.zbm=true:=(o5.zgz 1 rfl).zbm;have cp3:pz.zbm=true:=(o5.zgz 2 rfl).zbm;have cq1:qx.zbm=true:=(o6.zgz 0 rfl).zbm;have cq2:qy.zbm=true:=(o6.zgz 1 rfl).zbm;have cq3:qz.zbm=true:=(o6.zgz 2 rfl).zbm;simp -dsimp[c1,c2,c3,cp1,cp2,cp3,cq1,cq2,cq3,cx,cy,cz];refine s7 s s x1 y1 z1 x y z h6 _ (k1.mono l16) (ha.mono l06) ?_;simp -dsimp;refine s8 w1 w M M R h6 _ (t2.mono l26) (hw.mono l06) (by omega) ?_;simp -dsimp[c1,c2,c3];have oo:=o1.join (o2.join o36);obtain⟨q1,q2⟩:=(oo.perm perm_append_comm).out;refine s9 s x1 y1 z1 P PM _ h6 _ eP eM q2 (λt ht=>by have:=hG.items.ok t ht;unfold Itm.ok few;omega) (by omega) λh7 le7=>?_;have p7:=q1.grow le7;obtain⟨q3,q4⟩:=(p7.perm (perm_append_comm (l₁:=[Ob.sl 1 w1 (M.map tc) zh2]))).out;refine s10 _ h7 w1 _ _ _ q4 rfl (by simp;omega) λh8 le8=>?_;have p8:=q3.grow le8;simp -dsimp[fx,cx,cy,cz,hcl,take_of_length_le]
 refine s11 s x y z cs k item lot line h8 _ (ha.mono p8.le) (by omega) hA λrn h9 Rn le9 sn=>?_;have p9:=p8.grow le9;have cl:=codesOf_len s k item lot line;have tn:SlX h9 1 n ((zgg s k item lot line).map tc) []:=p9.is (.sl 1 n ((zgg s k item lot line).map tc) []) (by simp);refine s12 n rn _ _ [] Rn h9 _ tn sn (by omega) ?_;rw[show decide (zgg s k item lot line=zgg s k item lot line)=true from decide_eq_true rfl];simp -dsimp[cx,cy,cz,cp1,cp2,cp3];refine s13 s x y z w M R h9 _ (ha.mono p9.le) (hw.mono p9.le) (by omega) (by omega) λrx RR ry rz h10 eR o10=>?_;have p10:=p9.grow o10.le;have hN:=partT_n hG M;have aP:zqx h10 (zt5 s M) px py pz:=StaO.at p10 (λo ho=>mem_append_left _ (mem_append_right _ ho)) eP5 hN (by omega);have aR:zqx h10 (zt5 s M) rx ry rz:=StaO.at o10 (λo ho=>ho) eR hN (by omega);have cr1:rx.zbm=true:=(o10.zgz 0 rfl).zbm;have cr2:ry.zbm=true:=(o10.zgz 1 rfl).zbm;have cr3:rz.zbm=true:=(o10.zgz 2 rfl).zbm;simp -dsimp[cr1,cr2,cr3,cp1,cp2,cp3];refine s14 _ _ _ _ _ _ _ _ h10 _ aP aR ?_;have p10':zcw h h10 ((StaO (zt5 s M) px PP py pz++StaO (zt5 s M) qx QQ qy qz)++[Ob.sl 1 n ((zgg s k item lot line).map tc) [],Ob.sl 1 m ((zgg s k item lot line).map tc) []]):=by
  refine p10.perm ?_;rw[append_assoc];exact perm_append_comm
 obtain⟨m1,m2⟩:=p10'.out;have cn1:n.zbm=true:=(m2.zgz 0 rfl).zbm;have cn2:m.zbm=true:=(m2.zgz 1 rfl).zbm;simp -dsimp[cn1,cn2,zfs];intro id hid;have o7:=m2.lit2L (x:=n) (y:=m) hid;obtain⟨q5,q6⟩:=(o7.perm perm_append_comm).out;simp -dsimp;refine s15 ⟨.sl id 0 0 2 1 2,2,twoL _ n m,twoL _ ((zgg s k item lot line).map tc) ((zgg s k item lot line).map tc),twoL _ [] [],[]⟩ _ _ _ ⟨q5.zgz 0 rfl,by simp,λj hj=>by simp only[twoL];(repeat' split)<;>simp only[length_map]<;>omega⟩ (by simp only[LL.obs];rw[Objs_twoL];exact q6) λh11 l11=>?_;have p11:=m1.grow (zb.le_trans q5.le l11);simp -dsimp[cp1,cp2,cp3,zfs];intro i1 g1;simp -dsimp[cq1,cq2,cq3,zfs];intro i2 g2;simp -dsimp[zfs];intro i3 g3;simp -dsimp;refine ones_apart (K:=zlf) (t:=⟨(zt5 s M,PP),eP5⟩) (u:=⟨(zt5 s M,QQ),eQ6⟩) (a:=(px,py,pz)) (c:=(qx,qy,qz)) rfl s16 p11 hN.ok hN.ok (λx y=>state_fits hN x y) g1 g2 g3 λh12 l12=>?_;simp -dsimp;refine s0 _ _ ?_;simp -dsimp;exact dn_le l12 hq
variable{C:zh}{N:zN}
section
variable{h:zb}{v:za}{R:List (List za)}{j:Nat}
end
section
variable{h0 h:zb}{vi vd vq vt:za}{Q:zQ}{Y5:zL}
end
variable{C:zh}{N:zN}
theorem toU8{a:Nat}:V.toInt .u8 (.int .i64 (a:Int))=some (.int .u8 (((UInt8.ofNat a).toNat:Nat):Int)):=by
 rw[V.toInt_int,u8_wrapN]
section
variable{h0 h:zb}{vi vq vt:za}{Q:zQ}{Y2 Y3:zL}
end
end Go.Ab
namespace Go.Ab
open List
variable{C:zh}{N:zN}
def zk4(i:Nat):Key:=[82,UInt8.ofNat (48+i / 10),UInt8.ofNat (48+i % 10)]
def zjy(q:Nat):Itm:=⟨zk4 (59-q),0,[],if q=0 \/ q=29 then [] else [zk4 (60-q)]⟩
def zw7(m:Nat):List Itm:=(List.range m).map zjy
theorem row_g0:zd2 (zw7 60) (zk4 0)=(List.range 31).map zk4:=by decide +kernel
theorem row_g1:zd2 (zw7 60) (zk4 31)=(List.range' 31 29).map zk4:=by decide +kernel
theorem zt0:zci (zw7 60)=(List.range 31).map zk4++(List.range' 31 29).map zk4:=by decide +kernel
theorem row_two:(ofT (zw7 60)).length=2:=by
 have m0:zk4 0∈zci (zw7 60):=by rw[zt0];decide
 have m1:zk4 31∈zci (zw7 60):=by rw[zt0];decide
 unfold ofT;rw[length_map];have e:(zci (zw7 60)).filter (λc=>decide ((zd2 (zw7 60) c).head?=some c))=(zci (zw7 60)).filter (λc=>decide (c=zk4 0)||decide (c=zk4 31)):=filter_congr λc hc=>by
  rw[zt0,mem_append]at hc;rcases hc with hc|hc
  ·have h1:c∈zd2 (zw7 60) (zk4 0):=by rw[row_g0];exact hc
   have h2:c≠zk4 31:=λe=>by rw[e]at hc;revert hc;decide
   rw[zmt m0 h1,row_g0,decide_eq_false h2,Bool.or_false];show decide (some (zk4 0)=some c)=_;exact decide_eq_decide.2 ⟨λh=>(Option.some.inj h).symm,λh=>by rw[h]⟩
  ·have h1:c∈zd2 (zw7 60) (zk4 31):=by rw[row_g1];exact hc
   have h2:c≠zk4 0:=λe=>by rw[e]at hc;revert hc;decide
   rw[zmt m1 h1,row_g1,decide_eq_false h2,Bool.false_or];show decide (some (zk4 31)=some c)=_;exact decide_eq_decide.2 ⟨λh=>(Option.some.inj h).symm,λh=>by rw[h]⟩
 rw[e,zt0];decide
theorem zrj(m:Nat):(zw7 m).length=m:=by simp[zw7]
theorem rowI_succ(m:Nat):zw7 (m+1)=zw7 m++[zjy m]:=by simp[zw7,range_succ]
theorem rowI_in(m:Nat):∀t∈zw7 m,t.inLen:=by
 intro t ht;obtain⟨q,_,rfl⟩:=mem_map.1 ht;refine⟨by simp[zjy,zk4],by simp[zjy],?_,by simp[zjy],?_⟩
 ·unfold zjy;dsimp only;split
  ·simp
  ·intro o ho;rw[mem_singleton.1 ho];simp[zk4]
 ·unfold zjy;dsimp only;split<;>simp
theorem Dl_W{h:zb}{x:za}{L:List Itm}(hx:Dl zd3 h x L):Dl zyl h x L:=by
 obtain⟨P,R,e,s,a⟩:=hx;exact⟨P,R,e,s,λp hp=>⟨(a p hp).1,(a p hp).2.1⟩⟩
theorem five_in:∀t∈zwe,t.inLen:=by
 intro t ht;simp only[zwe,mem_cons,not_mem_nil,or_false]at ht;rcases ht with rfl|rfl|rfl|rfl|rfl<;>simp[Itm.inLen]
theorem zwf(s0:ze7.Spec C N)(s1:zer.Spec C N)(s2:zek.Spec C N){Q:zQ}{h0:zb}(hq:∀h',h0.le h'->Q (.bool true) h'):zd (zj.l3 C N Q) [.zbj,.int .i64 59] h0:=by
 refine zd.intro (λn vs hh=>∃(q:Nat)(x:za)(P:List (Itm×za×za)),q+n=60 /\ vs=[x,.int .i64 (59-(q:Int))] /\ P.map (·.1)=zw7 q /\ zcw h0 hh (.sl 4 x (P.map zd3.cs) []::zd3.os false P)) 60 ?_ ⟨0,.zbj,[],by omega,rfl,rfl,by simpa[DK.os]using (zcw.start h0).zbj 4⟩;rintro Y n vs hh ⟨q,x,P,hn,rfl,eP,o⟩ hY;have lP:P.length=q:=by have:=congrArg List.length eP;rwa [length_map,zrj]at this
 have hok:∀p∈P,zd3.ok p.1:=λp hp=>by
  have:p.1∈zw7 q:=by rw[<-eP];exact mem_map_of_mem hp
  obtain⟨j,_,e⟩:=mem_map.1 this;rw[<-e];refine⟨by simp[zjy,few],?_⟩;unfold zjy;dsimp only;split<;>simp[few]
 have hd:Dl zd3 hh x (zw7 q):=by rw[<-eP];exact Df.dl o hok
 have lx:=hd.zbi;rw[zrj]at lx;simp -dsimp only[zj.l3,zj.k2,V.zk5,B.ze];refine B.zm (λhc=>?_) (λhc=>?_)
 ·have hq60:q<60:=by
   have:=of_decide_eq_true hc;omega
  obtain⟨i,hi,hi2⟩:∃i:Nat,(59:Int)-q=(i:Int) /\ i=59-q:=⟨59-q,by omega,rfl⟩;rw[hi];have hi3:i<60:=by omega
  have e1:V.bin .quo (.int .i64 (i:Int)) (.int .i64 10)=some (.int .i64 ((i / 10:Nat):Int)):=by
   rw[V.zmy _ _ _ (by omega),show (i:Int).tdiv 10=((i / 10:Nat):Int) from rfl,wrap_i64 (by omega) (by omega)]
  have e2:V.bin .add (.int .i64 48) (.int .i64 ((i / 10:Nat):Int))=some (.int .i64 ((48+i / 10:Nat):Int)):=add64 (a:=48) (by omega);have e3:V.bin .rem (.int .i64 (i:Int)) (.int .i64 10)=some (.int .i64 ((i % 10:Nat):Int)):=by
   rw[V.bin_rem _ _ _ (by omega),show (i:Int).tmod 10=((i % 10:Nat):Int) from rfl]
  have e4:V.bin .add (.int .i64 48) (.int .i64 ((i % 10:Nat):Int))=some (.int .i64 ((48+i % 10:Nat):Int)):=add64 (a:=48) (by omega);simp -dsimp only[e1,e2,e3,e4,toU8,B.ze];have hf:zed [(0,none,za.int .u8 (((UInt8.ofNat (48+i / 10)).toNat:Nat):Int)),(1,none,za.int .u8 (((UInt8.ofNat (48+i % 10)).toNat:Nat):Int))] (zfs 2 [za.int .u8 0])=some [za.int .u8 (((UInt8.ofNat (48+i / 10)).toNat:Nat):Int),za.int .u8 (((UInt8.ofNat (48+i % 10)).toNat:Nat):Int)]:=rfl;rw[hf];refine litO (n:=2) (es:=1) (([UInt8.ofNat (48+i / 10),UInt8.ofNat (48+i % 10)]:List UInt8).map bc) rfl (by simp) rfl λi84 h1 o1=>?_;rw[zyb (o1.zgz 0 rfl)];have e5:V.bin .add (.str [82]) (.str [UInt8.ofNat (48+i / 10),UInt8.ofNat (48+i % 10)])=some (.str (zk4 i)):=rfl;have p1:=(o.grow o1.le).zbj 2;simp -dsimp only[e5,B.ze];have hci:zk4 i=(zjy q).Code:=by rw[hi2];rfl
  have next:∀(v:za)(h2:zb),zcw h0 h2 (.sl 4 x (P.map zd3.cs) []::zd3.os false P++[.sl 2 .zbj [] []]++[.sl 1 v ((zjy q).zep.map tc) []])->B.zg1 h2 (some [.str (zk4 i),.int .i64 0,.zbj,v]) λi106 h=>B.zif h 4 72 x (.sl i106 0 0 1 4 1) λv107 h=>B.pv (V.bin .sub (.int .i64 (i:Int)) (.int .i64 1)) λv75=>Y [v107,v75] h:=by
   intro v h2 p2;rw[hci];refine p2.push (cs:=zd3.cs (zjy q,(.zbj,v))) 0 rfl rfl (by decide) (by simp;omega) (by simp[maxLen];omega) λx' h3 o3 _=>?_;have e6:V.bin .sub (.int .i64 (i:Int)) (.int .i64 1)=some (.int .i64 (59-((q+1:Nat):Int))):=by
    rw[V.zi9,wrap_i64 (by omega) (by omega)];congr 2;omega
   simp -dsimp only[e6,B.ze];refine hY (n-1) _ _ (by omega) ⟨q+1,x',P++[(zjy q,(.zbj,v))],by omega,rfl,by rw[map_append,eP,rowI_succ];rfl,?_⟩;rw[map_append,DK.zq8,DK.os_one];have:=o3;simp only[append_assoc,cons_append,set_cons_zero]at this;exact this
  by_cases hno:q=0 \/ q=29
  ·have hO:(zjy q).zep=[]:=by unfold zjy;dsimp only;rw[if_pos hno]
   have p2:=p1.zbj 1;have:=next .zbj h1 (by rw[hO];exact p2)
   rcases hno with rfl|rfl
   ·have hi':i=59:=hi2
    subst hi';simp -dsimp[lx,zfs]at this ⊢;exact this
   ·have hi':i=30:=hi2
    subst hi';simp -dsimp[lx,zfs]at this ⊢;exact this
  ·have hO:(zjy q).zep=[zk4 (60-q)]:=by unfold zjy;dsimp only;rw[if_neg hno]
   have hq0:0<q:=by omega
   have hi30:¬ (i:Int)=30:=by omega
   have hi30':¬ i=30:=by omega
   have g1:decide ((0:Int)<(q:Int))=true:=by simp;omega
   obtain⟨q',rfl⟩:∃q',q=q'+1:=⟨q-1,by omega⟩;have hr:(zw7 (q'+1))[q']?=some (zjy q'):=by rw[rowI_succ,getElem?_append_right (by rw[zrj];omega),zrj];simp
   obtain⟨p,o',f1,f2,f3,f4,f5,f6,_⟩:=itm_get (hd.mono o1.le) hr;have e7:V.bin .sub (.int .i64 ((q'+1:Nat):Int)) (.int .i64 1)=some (.int .i64 (q':Int)):=by
    rw[zwz (by omega) (by omega)];rfl
   have hpc:(zjy q').Code=zk4 (60-(q'+1)):=by show zk4 _=zk4 _;congr 1;omega
   have g2:V.bin .neq (.int .i64 (i:Int)) (.int .i64 30)=some (.bool true):=by simp -dsimp[hi30]
   have hb:A.bld [(0,none,.str (zk4 i))] [.str [],.int .i64 0,.zbj,.zbj]=some (.agg [.str (zk4 i),.int .i64 0,.zbj,.zbj]):=rfl;have hs:V.zqf 0 4 (.agg [.str (zk4 i),.int .i64 0,.zbj,.zbj]) (.agg [.str [],.int .i64 0,.zbj,.zbj])=some (.agg [.str (zk4 i),.int .i64 0,.zbj,.zbj]):=by simp -dsimp
   simp -dsimp only[hb,hs,lx,V.bin_gtr,g1,g2,B.zi1,B.zdr,zk3,B.ze,B.zhx,B.cond_true,e7,f1,f3,f6,B.zha];have hf2:zed [(0,none,.str (zjy q').Code)] (zfs 1 [.str []])=some [.str (zjy q').Code]:=rfl;rw[hf2];intro i102 hid;have p2:=p1.zpz (id:=i102) (n:=1) (cp:=1) (es:=1) (cs:=[.str (zjy q').Code]) (L:=(zjy (q'+1)).zep.map tc) (R:=[]) hid (by rw[hO];simp[tc]) (by rw[hO];rfl) (by rw[hO];simp) (by rw[hO,hpc];rfl);have:=next _ _ p2
   simp -dsimp[zfs]at this ⊢;exact this
 ·have hq60:q=60:=by
   have:=of_decide_eq_false hc;omega
  subst hq60;simp -dsimp only[zj.k1];refine s1 x (zw7 60) hh _ hd (by rw[zrj];omega) λg PG h1 eG oG=>?_;have lg:V.zbi g=some (.int .i64 2):=by
   have:=(rowsT_at oG λb hb=>hb).zbi;rw[eG,row_two]at this;exact this
  simp -dsimp[lg,zfs];refine litT (n:=2) [[82,48,53],[81]] rfl rfl λi2 h2 o2=>?_;simp -dsimp;refine s2 x _ (zw7 60) [[82,48,53],[81]] [] h2 _ (Dl_W (hd.mono (zb.le_trans oG.le o2.le))) (by rw[zrj];omega) (rowI_in 60) (o2.zgz 0 rfl) (by simp) (by simp) ?_;simp -dsimp;refine s0 _ _ ?_;simp -dsimp;exact hq _ (zb.le_trans o.le (zb.le_trans oG.le o2.le))
end Go.Ab
namespace Go.Ab
open List
variable{C:zh}{N:zN}
def numLots:List Lot:=[⟨1,[75],0,0,0,false⟩,⟨2,[67],0,0,0,false⟩,⟨2,[65],0,0,0,false⟩,⟨3,[90],0,0,0,false⟩]
def zwn:List znh:=[⟨1,[66],0,0,0,0,0,[67]⟩,⟨2,[68],0,0,0,0,0,[]⟩,⟨2,[65],0,0,0,0,0,[]⟩,⟨3,[90],0,0,0,0,0,[]⟩]
def numS:Sta:=⟨3,4,5,zwe,numLots,zwn⟩
theorem numS_ok:StaS numS:=⟨by
 intro l hl
 simp only[numS,numLots,mem_cons,not_mem_nil,or_false]at hl
 rcases hl with rfl|rfl|rfl|rfl<;>simp,by
 intro l hl
 simp only[numS,zwn,mem_cons,not_mem_nil,or_false]at hl
 rcases hl with rfl|rfl|rfl|rfl<;>simp⟩
def oddX(a b p:za):List (Itm×za×za):=[(⟨[65],0,[],[[68]]⟩,.zbj,a),(⟨[],0,[],[[],[90]]⟩,.zbj,b),(⟨[88],0,[⟨[88],1⟩],[]⟩,p,.zbj)]
def oddI:List Itm:=zwe++[⟨[65],0,[],[[68]]⟩,⟨[],0,[],[[],[90]]⟩,⟨[88],0,[⟨[88],1⟩],[]⟩]
theorem odd_in:∀t∈oddI,t.inLen:=by
 intro t ht;simp only[oddI,zwe,mem_append,mem_cons,not_mem_nil,or_false]at ht;rcases ht with (rfl|rfl|rfl|rfl|rfl)|rfl|rfl|rfl<;>simp[Itm.inLen]
theorem zwg(s0:ze7.Spec C N)(s1:zer.Spec C N)(s2:zek.Spec C N)(s3:zge.Spec C N){Q:zQ}{h:zb}(hq:∀h',h.le h'->Q (.bool true) h'):zj.k5 C N Q h:=by
 simp -dsimp only[zj.k5];refine s3 _ _ λi o p ha h1 la o1 ho hp=>?_;simp -dsimp[zfs,-zj.k4];refine litT (n:=1) [[68]] rfl rfl λi2 h2 o2=>?_;simp -dsimp[zfs,-zj.k4];refine litT (n:=2) [[],[90]] rfl rfl λi3 h3 o3=>?_;simp -dsimp[zfs,-zj.k4];refine litO (n:=1) (es:=2) ([(⟨[88],1⟩:Part)].map Part.cs) rfl (by simp) rfl λi4 h4 o4=>?_;simp -dsimp[zfs,-zj.k4];refine litO (n:=3) (es:=4) ((oddX (.sl i2 0 0 1 1 1) (.sl i3 0 0 2 1 2) (.sl i4 0 0 1 2 1)).map zd3.cs) rfl (λp hp=>by obtain⟨q,_,rfl⟩:=mem_map.1 hp;rfl) rfl λi5 h5 o5=>?_;have oo:=(((o1.join o2).join o3).join o4).join o5;have hy5:=o5.zgz 0 rfl;obtain⟨q1,q2⟩:=(show zcw ha h5 (([Ob.sl 1 (.sl i2 0 0 1 1 1) [tc [68]] [],.sl 1 (.sl i3 0 0 2 1 2) ([[],[90]].map tc) [],.sl 2 (.sl i4 0 0 1 2 1) [Part.cs ⟨[88],1⟩] [],.sl 4 (.sl i5 0 0 3 4 3) ((oddX (.sl i2 0 0 1 1 1) (.sl i3 0 0 2 1 2) (.sl i4 0 0 1 2 1)).map zd3.cs) []])++[.sl 4 (.sl i 0 0 5 4 5) ((zvk o p).map zd3.cs) []]) from oo.perm (perm_append_comm (l₁:=[Ob.sl 4 (.sl i 0 0 5 4 5) ((zvk o p).map zd3.cs) []]))).out;generalize h5.zox [Ob.sl 4 (.sl i 0 0 5 4 5) ((zvk o p).map zd3.cs) []]=hb at q1 q2;have a2:SlX hb 1 (.sl i2 0 0 1 1 1) [tc [68]] []:=q1.zgz 0 rfl;have a3:SlX hb 1 (.sl i3 0 0 2 1 2) ([[],[90]].map tc) []:=q1.zgz 1 rfl;have a4:SlX hb 2 (.sl i4 0 0 1 2 1) [Part.cs ⟨[88],1⟩] []:=q1.zgz 2 rfl;refine q2.zif 0 rfl hy5 (by omega) (by simp[zvk,oddX]) (by simp[zvk,oddX,maxLen]) λx' h6 o6 _=>?_;have o6:zcw hb h6 [.sl 4 x' ((zvk o p).map zd3.cs++(oddX (.sl i2 0 0 1 1 1) (.sl i3 0 0 2 1 2) (.sl i4 0 0 1 2 1)).map zd3.cs) []]:=o6;have hle:h.le h6:=zb.le_trans la (zb.le_trans q1.le o6.le);have hz:∀t:Itm,t.zgc=[]->t.zep=[]->zd3.at_ h6 t (.zbj,.zbj):=λt e1 e2=>
  ⟨⟨[],by rw[e1];exact SlX.zbj h6 2⟩,⟨[],by rw[e2];exact SlX.zbj h6 1⟩,by rw[e1];simp[few],by rw[e2];simp[few]⟩
 have hd:Dl zd3 h6 x' oddI:=by
  refine⟨zvk o p++oddX (.sl i2 0 0 1 1 1) (.sl i3 0 0 2 1 2) (.sl i4 0 0 1 2 1),[],rfl,by rw[map_append];exact o6.zgz 0 rfl,λq hq=>?_⟩;rcases mem_append.1 hq with hq|hq
  ·exact fiveP_at (ho.mono (zb.le_trans q1.le o6.le)) (hp.mono (zb.le_trans q1.le o6.le)) q hq
  ·simp only[oddX,mem_cons,not_mem_nil,or_false]at hq
   rcases hq with rfl|rfl|rfl
   ·exact⟨⟨[],SlX.zbj h6 2⟩,⟨[],a2.mono o6.le⟩,by simp[few],by simp[few]⟩
   ·exact⟨⟨[],SlX.zbj h6 2⟩,⟨[],a3.mono o6.le⟩,by simp[few],by simp[few]⟩
   ·exact⟨⟨[],a4.mono o6.le⟩,⟨[],SlX.zbj h6 1⟩,by simp[few],by simp[few]⟩
 simp -dsimp only[zj.k4];simp -dsimp[zfs,-zj.l3];refine litT (n:=5) [[68],[88],[],[90],[68]] rfl rfl λj1 h7 o7=>?_;refine s2 _ _ oddI [[68],[88],[],[90],[68]] [] h7 _ (Dl_W (hd.mono o7.le)) (by decide) odd_in (o7.zgz 0 rfl) (by simp) (by simp) ?_;simp -dsimp[zfs,-zj.l3];refine litT (n:=3) [[65],[65],[66]] rfl rfl λj2 h8 o8=>?_;simp -dsimp[-zj.l3];refine s2 _ _ [] [[65],[65],[66]] [] h8 _ (Dl.zbj zyl h8) (by simp) (by simp) (o8.zgz 0 rfl) (by simp) (by simp) ?_;simp -dsimp[-zj.l3];refine s2 _ _ oddI [] [] h8 _ (Dl_W (hd.mono (zb.le_trans o7.le o8.le))) (by decide) odd_in (SlX.zbj h8 1) (by simp) (by simp) ?_;simp -dsimp[-zj.l3];exact zwf s0 s1 s2 λh' l=>hq h' (zb.le_trans hle (zb.le_trans o7.le (zb.le_trans o8.le l)))
def sixT:List Key:=[[],[65],[66],[75],[90],[42]]
def fourT:List Key:=[[65],[90],[],[66]]
def zj.Spec(C:zh)(N:zN):Prop:=∀(h:zb)(Q:zQ),Q (.bool true) h->C (N 599) [] h Q
theorem zj.spec(i:zj.Imp C N)(s0:ze7.Spec C N)(s1:zer.Spec C N)(s2:zek.Spec C N)(s3:zge.Spec C N)(s4:zeb.Spec C N):zj.Spec C N:=by
 intro h Q hq;apply i;simp -dsimp only[zj.cps,zj.k10];refine s3.rd _ _ λx h1 l1 hx=>?_;have cx:=hx.zbm;simp -dsimp[cx,zfs,-zj.l9];refine litO (n:=4) (es:=6) (numLots.map Lot.cs) rfl (by simp[numLots]) rfl λi2 h2 o2=>?_;simp -dsimp[cx,zfs,-zj.l9];refine litO (n:=4) (es:=8) (zwn.map znh.cs) rfl (by simp[zwn]) rfl λi3 h3 o3=>?_;simp -dsimp[cx,-zj.l9];have hle:=zb.le_trans l1 (zb.le_trans o2.le o3.le);have hW:StaW h3 numS x (.sl i2 0 0 4 6 4) (.sl i3 0 0 4 8 4):=⟨Dl_W (hx.mono (zb.le_trans o2.le o3.le)),⟨[],(o2.zgz 0 rfl).mono o3.le⟩,⟨[],o3.zgz 0 rfl⟩,by decide,by decide,by decide,five_in⟩;refine zd.intro (λn vs hh=>h3.le hh /\ ∃k:Nat,k+n=20 /\ vs=[.int .i64 (k:Int)]) 20 ?_ ⟨zb.le_refl _,0,by omega,rfl⟩;rintro Y n vs hh ⟨le3,k,hn,rfl⟩ hY;simp -dsimp only[zj.l9,zj.k8];by_cases hk:k<20
 rotate_left
 ·have hk':¬ (k:Int)<20:=by omega
  simp -dsimp[hk',hk,-zj.k5,-zj.l7];exact zwg s0 s1 s2 s3 λh' l=>dn_le (zb.le_trans hle (zb.le_trans le3 l)) hq
 have hk':(k:Int)<20:=by omega
 simp -dsimp[hk',hk,-zj.k5,-zj.l7];refine zd.intro (λn vs h4=>hh.le h4 /\ ∃j:Nat,j+n=6 /\ vs=[.int .i64 ((j:Int)-1)]) 6 ?_ ⟨zb.le_refl _,0,by omega,rfl⟩;rintro Z n2 vs h4 ⟨le4,j,hn2,rfl⟩ hZ;simp -dsimp only[zj.l7,zj.k6];by_cases hj:j<6
 rotate_left
 ·have hj':¬ (j:Int)-1<5:=by omega
  simp -dsimp[hj'];rw[wrap_i64 (by omega) (by omega)];exact hY (n-1) _ _ (by omega) ⟨zb.le_trans le3 le4,k+1,by omega,by simp⟩
 have hj':(j:Int)-1<5:=by omega
 have e1:V.bin .add (.int .i64 ((j:Int)-1)) (.int .i64 1)=some (.int .i64 (j:Int)):=by
  rw[V.zex,wrap_i64 (by omega) (by omega)];congr 2;omega
 have e3:V.bin .rem (.int .i64 (j:Int)) (.int .i64 4)=some (.int .i64 ((j % 4:Nat):Int)):=by
  rw[V.bin_rem _ _ _ (by omega),show (j:Int).tmod 4=((j % 4:Nat):Int) from rfl]
 have hlt:V.bin .lss (.int .i64 ((j:Int)-1)) (.int .i64 5)=some (.bool true):=by rw[V.zeh,decide_eq_true hj']
 simp -dsimp only[hlt,toU8,B.ze,B.cond_true];have hf:zed [(0,none,za.str []),(1,none,.str [65]),(2,none,.str [66]),(3,none,.str [75]),(4,none,.str [90]),(5,none,.str [42])] (zfs 6 [za.str []])=some ([za.str [],.str [65],.str [66],.str [75],.str [90],.str [42]]):=rfl;rw[hf];refine litT (n:=6) sixT rfl rfl λi31 h5 o5=>?_;have s5:SlX h5 1 (.sl i31 0 0 6 1 6) (sixT.map tc) []:=o5.zgz 0 rfl;obtain⟨item,hi⟩:=zgf (L:=sixT) (k:=j) (by simpa[sixT]using hj);have f1:V.zb3 1 (.sl i31 0 0 6 1 6) (.int .i64 (j:Int))=some (elp 1 (.sl i31 0 0 6 1 6) j 0):=s5.zjp (by simpa[sixT]using hj);have f2:A.ldv h5 (elp 1 (.sl i31 0 0 6 1 6) j 0)=some (.str item):=s5.cell (by rw[getElem?_map,hi];rfl);have hb:A.bld [(0,none,za.int .u8 (((UInt8.ofNat k).toNat:Nat):Int)),(2,none,.str item),(7,none,.int .i64 ((j:Int)-1)),(8,none,.int .i64 ((j:Int)-1))] [.int .u8 0,.int .i64 0,.str [],.int .i64 0,.int .i64 0,.int .i64 0,.int .i64 0,.int .i64 0,.int .i64 0,.zbj,.zbj] =
   some (.agg [.int .u8 (((UInt8.ofNat k).toNat:Nat):Int),.int .i64 0,.str item,.int .i64 0,.int .i64 0,.int .i64 0,.int .i64 0,.int .i64 ((j:Int)-1),.int .i64 ((j:Int)-1),.zbj,.zbj]):=rfl
 have hf2:zed [(0,none,za.str [65]),(1,none,.str [90]),(2,none,.str []),(3,none,.str [66])] (zfs 4 [za.str []])=some ([za.str [65],.str [90],.str [],.str [66]]):=rfl;simp -dsimp only[e1,e3,f1,f2,hb,B.zha,B.ze,hf2];simp -dsimp[cx,-V.zex,-V.zi9];simp -dsimp only[e1,e3,hf2,B.ze];refine litT (n:=4) fourT rfl rfl λi41 h6 o6=>?_;have s6:SlX h6 1 (.sl i41 0 0 4 1 4) (fourT.map tc) []:=o6.zgz 0 rfl;obtain⟨y1,R1,g1,g2,_⟩:=s6.sliceIn (by omega) (lo:=0) (hi:=j % 4) (a:=none) (b:=some (.int .i64 ((j % 4:Nat):Int))) (.inl ⟨rfl,rfl⟩) (.inr ⟨_,rfl⟩) (by omega) (by simp[fourT];omega);rw[drop_zero]at g2;have hM:∀c∈fourT.take (j % 4),c.length<4611686018427387904:=λc hc=>by
  have:=mem_of_mem_take hc;simp only[fourT,mem_cons,not_mem_nil,or_false]at this;rcases this with rfl|rfl|rfl|rfl<;>simp
 have hil:item.length<4611686018427387904:=by
  have:=mem_of_getElem? hi;simp only[sixT,mem_cons,not_mem_nil,or_false]at this;rcases this with rfl|rfl|rfl|rfl|rfl|rfl<;>simp
 have le36:=zb.le_trans le3 (zb.le_trans le4 (zb.le_trans o5.le o6.le));simp -dsimp only[g1,B.ze];refine s4 numS x _ _ _ (UInt8.ofNat k) item ((j:Int)-1) ((j:Int)-1) y1 (fourT.take (j % 4)) R1 h6 _ (hW.mono le36) numS_ok ⟨rfl,by simp,rfl,rfl,rfl⟩ hil g2 (by rw[length_take];simp[fourT];omega) hM ?_;simp -dsimp[-V.zex]
 first|rw[e1]|skip
 simp -dsimp only[B.ze];exact hZ (n2-1) _ _ (by omega) ⟨zb.le_trans le4 (zb.le_trans o5.le o6.le),j+1,by omega,by congr 2;omega⟩
end Go.Ab
