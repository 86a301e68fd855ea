/- What is proved: a part of the way to the statement: Crow2. No conditions. -/
import Derived.Test.YtljejbplojnnpaaGreatQ7
import Derived.Test.YtljejbplojnnpaaGreatQ2
import Derived.Test.YtljejbplojnnpaaGreatQ6
set_option linter.unusedVariables false
set_option linter.unusedSimpArgs false
set_option maxRecDepth 100000
namespace Go.Ab
open List
variable{C:aC}{N:zN}
def lC(hb h0 h:a9)(l:List Ob)(p:a7)(b:List UInt8)(r:dE):Prop:=∃z R,aJ hb 1 z ((b.drop r.at_).map bc) R /\ aG h0 h (l++[.box p [z,.bool r.bad]]) /\ hb.le h0 /\ r.at_ <= b.length /\ b.length<4611686018427387904
section
variable{hb h0 h:a9}{l:List Ob}{p:a7}{b:List UInt8}{r:dE}
theorem mB{o:Ob}:(l++[o])[l.length]?=some o:=by simp
theorem vD{o o':Ob}:(l++[o]).set l.length o'=l++[o']:=by simp
theorem lC.ptr(s:lC hb h0 h l p b r):∃id,p= .ptr id 0 0 /\ A.bX h (.ptr id 0 1)=some (.bool r.bad):=by
 obtain⟨z,R,d,c,_⟩:=s;obtain⟨id,rfl,a⟩:=c.fE l.length mB;exact⟨id,rfl,by simp[e9 a]⟩
end
def iq.Spec(C:aC)(N:zN):Prop:=∀(hb h0 h:a9)(l:List Ob)(p:a7)(b:List UInt8)(r:dE)(k:Nat)(Q:zQ),lC hb h0 h l p b r->k <= 8->(∀h',lC hb h0 h' l p b (aL b k r).2->Q (.int .i64 (aL b k r).1) h')->C (N 432) [p,.int .i64 (k:Int)] h Q
theorem iq.spec(i:iq.aD C N):iq.Spec C N:=by
 intro hb h0 h l p b r k Q K hk u;apply i;obtain⟨z,R,t,A,hle,M,s⟩:=K;obtain⟨id,rfl,F⟩:=A.fE l.length mB;have x:=t.mono (a9.le_trans hle A.le);have g:=x.aE;rw[length_map,length_drop]at g;simp +contextual -dsimp[e9 F,g];refine A.jW l.length mB rfl (by simp) λh1 f _=>?_;rw[vD]at f;obtain⟨J,e,m⟩:=f.fE l.length mB;cases e;have v:=t.mono (a9.le_trans hle f.le);simp +contextual -dsimp[e9 m];refine B.bF (λo=>?_) (λo=>?_)
 ·have e1:aL b k r=(0,⟨r.at_,true⟩):=by unfold aL;rw[if_pos];cases d:r.bad<;>simp[d]at o ⊢;omega
  rw[e1]at u;refine aR (u _ ⟨z,R,t,?_,hle,M,s⟩);simpa[o]using f
 ·have d:r.bad=false:=by cases d:r.bad<;>simp[d]at o ⊢
  have O:r.at_+k <= b.length:=by simp[d]at o;omega
  have e1:aL b k r=(IntKind.i64.wrap (gL ((b.drop r.at_).take k)),⟨r.at_+k,false⟩):=by unfold aL;rw[if_neg];simp[d];omega
  rw[e1]at u;obtain⟨y,R',Z,e3,_⟩:=v.kY (by omega) (lo:=0) (hi:=k) (a:=none) (b:=some (.int .i64 (k:Int))) (.inl ⟨rfl,rfl⟩) (.inr ⟨_,rfl⟩) (by omega) (by simp;omega);obtain⟨w,R2,f2,f3,_⟩:=t.kY (by omega) (lo:=k) (hi:=(b.drop r.at_).length) (a:=some (.int .i64 (k:Int))) (b:=none) (.inr ⟨_,rfl⟩) (.inl ⟨rfl,by simp⟩) (by simp;omega) (by simp);rw[drop_zero]at e3;rw[take_length,drop_drop]at f3;have g:=e3.aE;have D:((b.drop r.at_).take k).length=k:=by simp;omega
  rw[length_map,D]at g;simp -dsimp only[iq.k4,B.mZ,V.mW,B.aK,B.fw,e9 m,Nat.zero_add,getElem?_cons_zero,List.set,getElem?_cons_succ,Z,g];refine aB.intro (λn vs G=>∃j:Nat,j+n=k /\ vs=[.int .i64 (IntKind.i64.wrap (gL (((b.drop r.at_).take k).take j))),.int .i64 j] /\ G=h1) k ?_ ⟨0,by simp,by simp[gL];rfl,rfl⟩;rintro Y n vs G ⟨j,hn,rfl,rfl⟩ T;simp +contextual -dsimp;refine B.bF (λI=>?_) (λI=>?_)<;>simp at I
  ·obtain⟨c,H⟩:=dI (L:=(b.drop r.at_).take k) (k:=j) (by omega)
   have P:j<(((b.drop r.at_).take k).map bc).length:=by rw[length_map];omega
   have S:=wA c;have U:IntKind.i64.wrap (c.toNat:Int)=c.toNat:=wrap_i64 (by omega) (by omega);have X:=e3.cell (get_map H);have W:bS.c c= .int .u8 c.toNat:=rfl;simp +contextual -dsimp[e3.dF P,X,W,H8 (k:= .i64) (j:= .u64) (b:=8) (by omega) (by simp[IntKind.bits]),U];rw[HL _ _ (by omega) (by omega)];simp +contextual -dsimp[fH (n:=j) (by omega)];refine T (n-1) _ _ (by omega) ⟨j+1,by omega,?_,rfl⟩;rw[take_succ H,zZ,wrap_wrap];simp
  ·have E:j=k:=by omega
   subst E;rw[take_take,Nat.min_self];simp -dsimp only[iq.k1,B.mZ,V.mW,B.aK,B.fw,e9 m,Nat.zero_add,getElem?_cons_zero,List.set,getElem?_cons_succ,f2];refine f.jW l.length mB f3.aI (by simp) λh4 q _=>aR (u _ ⟨w,R2,f3,?_,hle,by simp only;omega,s⟩);rw[vD]at q;simpa[o]using q
def ou.Spec(C:aC)(N:zN):Prop:=∀(hb h0 h:a9)(l:List Ob)(p:a7)(b:List UInt8)(r:dE)(Q:zQ),lC hb h0 h l p b r->(∀h',lC hb h0 h' l p b (cT b r).2->Q (.str (cT b r).1) h')->C (N 440) [p] h Q
theorem ou.spec(i:ou.aD C N)(s1:pO.Spec C N):ou.Spec C N:=by
 intro hb h0 h l p b r Q t m;apply i;obtain⟨z,R,o,n,hle,u,k⟩:=t;obtain⟨id,rfl,j⟩:=n.fE l.length mB;simp +contextual -dsimp[e9 j];refine B.bF (λq=>?_) (λq=>?_)
 ·rw[show cT b r=([],r) by simp[cT,q]]at m
  exact aR (m _ ⟨z,R,o,n,hle,u,k⟩)
 ·rw[show cT b r=((ik (b.drop r.at_)).1,⟨r.at_+(ik (b.drop r.at_)).2.1, !(ik (b.drop r.at_)).2.2⟩) by simp[cT,q]]at m
  have f:=zY (b.drop r.at_);simp +contextual -dsimp[e9 j];refine s1 z _ _ _ _ (o.mono (a9.le_trans hle n.le)) (by simp;omega) ?_;simp +contextual -dsimp;refine n.jW l.length mB rfl (by simp) λh1 c _=>?_;rw[vD]at c;obtain⟨s,e,g⟩:=c.fE l.length mB;cases e;obtain⟨w,R2,f2,f3,_⟩:=o.kY (by omega) (lo:=(ik (b.drop r.at_)).2.1) (hi:=(b.drop r.at_).length) (a:=some (.int .i64 ((ik (b.drop r.at_)).2.1:Int))) (b:=none) (.inr ⟨_,rfl⟩) (.inl ⟨rfl,by simp⟩) f (by simp);rw[take_length,drop_drop]at f3;rw[length_drop]at f;simp -dsimp only[B.mZ,V.mW,B.aK,B.fw,e9 g,Nat.zero_add,getElem?_cons_zero,getElem?_cons_succ,List.set,f2];refine c.jW l.length mB f3.aI (by simp) λv d _=>aR (m _ ⟨w,R2,f3,?_,hle,by simp only;omega,k⟩);rw[vD]at d;exact d
theorem A7{n m:Int}(h:n % 18446744073709551616=m % 18446744073709551616):∀k,k <= 8->be n k=be m k
 | 0,_=>rfl
 | k+1,hk=>by
  rw[be,be,A7 h k (by omega)]
  congr 1
  refine Ao ?_
  rw[<-A6 n k (by omega),<-A6 m k (by omega),h]
theorem Gl(c:UInt8)(l:List UInt8):gL (c::l)=256 ^ l.length*c.toNat+gL l:=by
 have gen:∀(l:List UInt8)(a:Nat),l.foldl (λn c=>256*n+c.toNat) a=256 ^ l.length*a+gL l:=by
  intro l
  induction l with
  | nil=>intro a;simp[gL]
  | cons d r b=>
   intro a;simp only[foldl_cons,length_cons];rw[b];have e:gL (d::r)=256 ^ r.length*d.toNat+gL r:=by
    show List.foldl (λn c=>256*n+c.toNat) (256*0+d.toNat) r=_;rw[b];simp
   rw[e,Nat.pow_succ,Nat.mul_add];have:256 ^ r.length*(256*a)=256 ^ r.length*256*a:=by rw[Nat.mul_assoc]
   omega
 show List.foldl (λn c=>256*n+c.toNat) (256*0+c.toNat) l=_;rw[gen];simp
theorem Fm:∀(w:List UInt8),be (gL w:Nat) w.length=w
 | []=>rfl
 | c::w=>by
  have hw:=A8 w.length w rfl;have h:=wA c;have e:=Fm w;have b:(2:Int) ^ (8*w.length)=((256 ^ w.length:Nat):Int):=by
   rw[Int.pow_mul];simp
  have key:∀k,k <= w.length->be ((gL (c::w):Nat):Int) k=be ((gL w:Nat):Int) k:=by
   intro k
   induction k with
   | zero=>intro _;rfl
   | succ k ihk=>
    intro hk;rw[be,be,ihk (by omega)];congr 1;refine Ao ?_;have e1:(2:Int) ^ (8*k)=((256 ^ k:Nat):Int):=by rw[Int.pow_mul];simp
    rw[e1,Int.fdiv_eq_ediv_of_nonneg _ (Int.natCast_nonneg _),Int.fdiv_eq_ediv_of_nonneg _ (Int.natCast_nonneg _),Gl];have d:256 ^ w.length=256 ^ k*(256*256 ^ (w.length-(k+1))):=by
     rw[<-Nat.mul_assoc,Nat.mul_comm (256 ^ k) 256,<-Nat.pow_succ',<-Nat.pow_add];congr 1;omega
    have e3:256 ^ w.length*c.toNat+gL w=gL w+256 ^ k*(256*(256 ^ (w.length-(k+1))*c.toNat)):=by
     rw[d,Nat.mul_assoc,Nat.mul_assoc];omega
    have a:0<256 ^ k:=Nat.pow_pos (by omega);have e4:((256 ^ w.length*c.toNat+gL w) / 256 ^ k:Nat)=gL w / 256 ^ k+256*(256 ^ (w.length-(k+1))*c.toNat):=by
     rw[e3,Nat.add_mul_div_left _ _ a]
    have g:(((256 ^ w.length*c.toNat+gL w:Nat):Int)) / ((256 ^ k:Nat):Int)=(((256 ^ w.length*c.toNat+gL w) / 256 ^ k:Nat):Int):=by rw[Int.natCast_ediv]
    have f:((gL w:Nat):Int) / ((256 ^ k:Nat):Int)=((gL w / 256 ^ k:Nat):Int):=by rw[Int.natCast_ediv]
    rw[g,f,e4];omega
  rw[length_cons,be,key w.length (Nat.le_refl _),e];congr 1;rw[b,Int.fdiv_eq_ediv_of_nonneg _ (Int.natCast_nonneg _),Gl];have a:0<256 ^ w.length:=Nat.pow_pos (by omega);have e1:((256 ^ w.length*c.toNat+gL w) / 256 ^ w.length:Nat)=c.toNat:=by
   rw[Nat.add_comm,Nat.add_mul_div_left _ _ a,Nat.div_eq_of_lt hw];omega
  have d:(((256 ^ w.length*c.toNat+gL w:Nat):Int)) / ((256 ^ w.length:Nat):Int)=((c.toNat:Nat):Int):=by rw[<-Int.natCast_ediv,e1]
  rw[d];apply UInt8.toNat_inj.1;have:=D5 (c.toNat:Int);omega
theorem OV{w:List UInt8}(hw:w.length <= 8):be (IntKind.i64.wrap (gL w)) w.length=w:=by
 rw[A7 (m:=(gL w:Nat)) (by rw[IntKind.wrap_i64];omega) _ hw];exact Fm w
theorem Px(n:Int):be n 1=[dN n]:=by
 show [dN (n.fdiv (2 ^ (8*0)))]=_;rw[show (2:Int) ^ (8*0)=1 from rfl,Int.fdiv_one]
section
variable{b post:List UInt8}{a:Nat}
end
structure sg(b:List UInt8)(r r':dE)(w:List UInt8):Prop where
 drop:b.drop r.at_=w++b.drop r'.at_
 at_:r'.at_=r.at_+w.length
 le:r'.at_ <= b.length
 ok:r.bad=false
theorem sg.seq{b:List UInt8}{r c r2:dE}{w a:List UInt8}(h:sg b r c w)(k:sg b c r2 a):sg b r r2 (w++a):=
 ⟨by rw[h.drop,k.drop,append_assoc],by rw[k.at_,h.at_,length_append];omega,k.le,h.ok⟩
theorem sg.take{b:List UInt8}{r':dE}{w:List UInt8}(g:sg b ⟨0,false⟩ r' w):b.take r'.at_=w:=by
 have a:=g.at_;simp only[Nat.zero_add]at a;have c:b=w++b.drop r'.at_:=g.drop;have:=congrArg (List.take w.length) c;rw[take_left]at this;rw[a];exact this
theorem sj{b:List UInt8}{k:Nat}{r:dE}(h:r.bad=true):(aL b k r).2.bad=true:=by
 unfold aL;rw[if_pos (.inl h)]
theorem MD(n:Int):tP (IntKind.i64.wrap n):=by
 unfold tP;rw[IntKind.wrap_i64];omega
theorem oG{b:List UInt8}{k:Nat}{r:dE}(hk:k <= 8)(h:(aL b k r).2.bad=false)(hle:r.at_ <= b.length):sg b r (aL b k r).2 (be (aL b k r).1 k) /\ tP (aL b k r).1:=by
 unfold aL at h ⊢;split at h
 ·cases h
 ·rename_i a
  rw[if_neg a];simp only[not_or]at a;have c:((b.drop r.at_).take k).length=k:=by simp;omega
  have hb:=OV (w:=(b.drop r.at_).take k) (by omega);rw[c]at hb;refine⟨⟨?_,?_,?_,by simpa using a.1⟩,MD _⟩
  ·simp only
   rw[hb,<-drop_drop,take_append_drop]
  ·simp only[gr]
  ·simp only;omega
theorem w5(b:List UInt8)(r:dE):0 <= (aL b 1 r).1 /\ (aL b 1 r).1 <= 255:=by
 unfold aL;split
 ·simp
 ·rename_i h
  simp only[not_or]at h;have:=A8 1 ((b.drop r.at_).take 1) (by simp;omega);rw[wrap_i64 (by omega) (by omega)];omega
theorem CV{b:List UInt8}{r:dE}(h:r.bad=true):(cT b r).2.bad=true:=by
 unfold cT;rw[if_pos h];exact h
theorem Gx{b:List UInt8}{r:dE}(h:(cT b r).2.bad=false)(hle:r.at_ <= b.length):sg b r (cT b r).2 (fO (cT b r).1) /\ ((cT b r).1=[] \/ eu (cT b r).1=true):=by
 have d:=wh (b:=b) (r:=r) hle;cases hb:r.bad with
 | true=>rw[CV hb]at h;cases h
 | false=>
  have e:cT b r=((ik (b.drop r.at_)).1,⟨r.at_+(ik (b.drop r.at_)).2.1, !(ik (b.drop r.at_)).2.2⟩):=by simp[cT,hb]
  rw[e]at h d ⊢;simp only[Bool.not_eq_eq_eq_not,Bool.not_false]at h d ⊢;cases g:b.drop r.at_ with
  | nil=>rw[g]at h;cases h
  | cons c q=>
   rw[g,ug]at h d;rw[ug];split at h
   ·cases h
   ·rename_i f
    rw[if_neg f]at d ⊢;simp only[not_or,not_and,Bool.not_eq_false]at f;have hlen:(q.take c.toNat).length=c.toNat:=by simp;omega
    have a:q.take c.toNat=[] \/ eu (q.take c.toNat)=true:=by
     by_cases j:q.take c.toNat=[]
     ·exact .inl j
     ·exact .inr (f.2 j)
    have i:fO (q.take c.toNat)=c::q.take c.toNat:=by
     have:UInt8.ofNat (q.take c.toNat).length=c:=by rw[hlen];simp
     rcases a with a|a
     ·rw[a]at this ⊢;rw[<-this];rfl
     ·have:=Cu (s:=q.take c.toNat) (by rw[a];simp)
      rw[this.1];congr 1
    refine⟨⟨?_,?_,d,hb⟩,a⟩
    ·simp only
     rw[i,<-drop_drop,g,Nat.add_comm 1,drop_succ_cons,cons_append,take_append_drop]
    ·simp only;rw[i,length_cons,hlen];omega
theorem nH{p q:Bool}(h:p=true->q=true)(a:q=false):p=false:=by cases p with
 | false=>rfl
 | true=>rw[h rfl]at a;cases a
theorem NI{b:List UInt8}{r:dE}(h:(fR b r).2.bad=false)(hle:r.at_ <= b.length):sg b r (fR b r).2 (sn (fR b r).1) /\ (fR b r).1.ok:=by
 simp only[fR,Bool.or_eq_false_iff,decide_eq_false_iff_not]at h;obtain⟨a,k⟩:=h;have c:=nH sj a;have d:=nH sj c;have f:=nH sj d;have i:=nH sj f;have h1:=nH CV i;obtain⟨g1,i1⟩:=oG (by omega) h1 hle;obtain⟨g2,_⟩:=Gx i g1.le;obtain⟨g3,_⟩:=oG (by omega) f g2.le;obtain⟨g4,_⟩:=oG (by omega) d g3.le;obtain⟨g5,i5⟩:=oG (by omega) c g4.le;obtain⟨g6,_⟩:=oG (by omega) a g5.le;have j:=w5 b (aL b 8 (aL b 2 (aL b 2 (cT b (aL b 8 r).2).2).2).2).2;refine⟨?_,i1,i5⟩;have g:=((((g1.seq g2).seq g3).seq g4).seq g5).seq g6
 have e:be (aL b 1 (aL b 8 (aL b 2 (aL b 2 (cT b (aL b 8 r).2).2).2).2).2).1 1=be (bif decide ((aL b 1 (aL b 8 (aL b 2 (aL b 2 (cT b (aL b 8 r).2).2).2).2).2).1=1) then 1 else 0) 1:=by
  generalize aL b 1 (aL b 8 (aL b 2 (aL b 2 (cT b (aL b 8 r).2).2).2).2).2=e at *;by_cases h1:e.1=1
  ·rw[h1];rfl
  ·have:e.1=0:=by omega
   rw[this];rfl
 rw[e]at g;refine⟨g.drop,g.at_,g.le,g.ok⟩
theorem NH{b:List UInt8}{r:dE}(h:(il b r).2.bad=false)(hle:r.at_ <= b.length):sg b r (il b r).2 (uu (il b r).1) /\ (il b r).1.ok:=by
 simp only[il]at h;have a:=nH sj h;have h1:=nH sj a;obtain⟨g1,i1⟩:=oG (by omega) h1 hle;obtain⟨g2,i2⟩:=oG (by omega) a g1.le;obtain⟨g3,i3⟩:=oG (by omega) h g2.le;exact⟨(g1.seq g2).seq g3,i1,i2,i3⟩
theorem CU{T:Type}{one:dE->T×dE}:∀(n:Nat){r:dE},r.bad=true->(cP one n r).2.bad=true
 | 0,_,h=>h
 | n+1,_,h=>by rw[cP,if_pos h];exact h
theorem CT{T:Type}{one:dE->T×dE}{f:T->List UInt8}{P:T->Prop}{b:List UInt8}(h1:∀r:dE,(one r).2.bad=false->r.at_ <= b.length->sg b r (one r).2 (f (one r).1) /\ P (one r).1):∀(n:Nat)(r:dE),(cP one n r).2.bad=false->r.at_ <= b.length ->
  sg b r (cP one n r).2 ((cP one n r).1.flatMap f) /\ (cP one n r).1.length=n /\ ∀x∈(cP one n r).1,P x
 | 0,r,h,hle=>⟨⟨by simp[cP],by simp[cP],hle,h⟩,rfl,by simp[cP]⟩
 | n+1,r,h,hle=>by
  by_cases hb:r.bad=true
  ·rw[cP,if_pos hb]at h;rw[hb]at h;cases h
  ·rw[cP,if_neg hb]at h ⊢
   simp only at h ⊢
   have d:=nH (CU n) h
   obtain⟨g1,c⟩:=h1 r d hle
   obtain⟨g2,l2,a⟩:=CT h1 n _ h g1.le
   refine⟨?_,by simp[l2],λx hx=>?_⟩
   ·rw[flatMap_cons];exact g1.seq g2
   ·rcases mem_cons.1 hx with rfl|hx
    ·exact c
    ·exact a x hx
theorem FE{b:List UInt8}(h:(fY b).2.2=0):km (fY b).1=true /\ (fY b).1.ok /\ fX (fY b).1=(b.take (fY b).2.1,0) /\ (fY b).2.1 <= b.length /\ 2 <= (fY b).2.1:=by
 rw[zM]at h ⊢;unfold mb at h ⊢;split at h
 ·cases h
 ·rename_i e
  rw[if_neg e];simp only[Bool.or_eq_true,not_or,Bool.not_eq_true,Bool.not_eq_false',Bool.not_eq_eq_eq_not,Bool.not_true,Bool.not_false]at e;obtain⟨a,d⟩:=e;have d:km (mr b).1=true:=by simpa using d
  refine⟨d,?_⟩;simp only;unfold mr at a d ⊢;split at a
  ·rename_i he
   rw[if_pos he]at d ⊢;simp only[pN]at a d ⊢;have k:=nH (CU _) a;have l:=nH sj k;have m:=nH (CU _) l;have n:=nH sj m;have o:=nH sj n;have n3:=nH CV o;have n2:=nH sj n3;have n1:=nH sj n2;obtain⟨g1,_⟩:=oG (by omega) n1 (Nat.zero_le _);obtain⟨g2,i2⟩:=oG (by omega) n2 g1.le;obtain⟨g3,_⟩:=oG (by omega) n3 g2.le;obtain⟨g4,_⟩:=Gx o g3.le;obtain⟨g5,_⟩:=oG (by omega) n g4.le;obtain⟨g6,_⟩:=oG (by omega) m g5.le;obtain⟨q,l7,t⟩:=CT (P:=bZ.ok) (λr h1 j=>NI h1 j) _ _ l g6.le;obtain⟨p,_⟩:=oG (by omega) k q.le;obtain⟨u,l9,s⟩:=CT (P:=fA.ok) (λr h1 j=>NH h1 j) _ _ a p.le;refine⟨⟨i2,t,s⟩,?_⟩;have m6:=rJ b (aL b 1 (cT b (aL b 2 (aL b 8 (aL b 2 ⟨0,false⟩).2).2).2).2).2;have m8:=rJ b (cP (fR b) (aL b 2 (aL b 1 (cT b (aL b 2 (aL b 8 (aL b 2 ⟨0,false⟩).2).2).2).2).2).1.toNat (aL b 2 (aL b 1 (cT b (aL b 2 (aL b 8 (aL b 2 ⟨0,false⟩).2).2).2).2).2).2).2;have g:=(((((((g1.seq g2).seq g3).seq g4).seq g5).seq g6).seq q).seq p).seq u;generalize w:cP (il b) (aL b 2 (cP (fR b) (aL b 2 (aL b 1 (cT b (aL b 2 (aL b 8 (aL b 2 ⟨0,false⟩).2).2).2).2).2).1.toNat (aL b 2 (aL b 1 (cT b (aL b 2 (aL b 8 (aL b 2 ⟨0,false⟩).2).2).2).2).2).2).2).1.toNat (aL b 2 (cP (fR b) (aL b 2 (aL b 1 (cT b (aL b 2 (aL b 8 (aL b 2 ⟨0,false⟩).2).2).2).2).2).1.toNat (aL b 2 (aL b 1 (cT b (aL b 2 (aL b 8 (aL b 2 ⟨0,false⟩).2).2).2).2).2).2).2).2=R at *;generalize x:cP (fR b) (aL b 2 (aL b 1 (cT b (aL b 2 (aL b 8 (aL b 2 ⟨0,false⟩).2).2).2).2).2).1.toNat (aL b 2 (aL b 1 (cT b (aL b 2 (aL b 8 (aL b 2 ⟨0,false⟩).2).2).2).2).2).2=L at *;have e1:(L.1.length:Int)=(aL b 2 (aL b 1 (cT b (aL b 2 (aL b 8 (aL b 2 ⟨0,false⟩).2).2).2).2).2).1:=by rw[l7];omega
   have v:(R.1.length:Int)=(aL b 2 L.2).1:=by rw[l9];omega
   have c:fX ⟨(aL b 2 ⟨0,false⟩).1,(aL b 8 (aL b 2 ⟨0,false⟩).2).1,(aL b 2 (aL b 8 (aL b 2 ⟨0,false⟩).2).2).1-1,(cT b (aL b 2 (aL b 8 (aL b 2 ⟨0,false⟩).2).2).2).1,dN (aL b 1 (cT b (aL b 2 (aL b 8 (aL b 2 ⟨0,false⟩).2).2).2).2).1,L.1,R.1⟩=(b.take R.2.at_,0):=by
    unfold fX;rw[if_neg (by rw[d];simp),if_neg (by simp only;omega)];simp only[vX,e1,v,<-Px,Int.sub_add_cancel];rw[g.take]
   refine⟨c,g.le,?_⟩;have i:=g.at_;simp only[length_append,gr]at i;omega
  ·rename_i he
   rw[if_neg he]at d ⊢;obtain⟨g1,i1⟩:=oG (by omega) a (Nat.zero_le _);refine⟨⟨by simp[tP],by simp,by simp⟩,?_⟩;have f:=zB d;simp only at f;have c:fX ⟨(aL b 2 ⟨0,false⟩).1,0,0,[],0,[],[]⟩=(b.take (aL b 2 ⟨0,false⟩).2.at_,0):=by
    unfold fX;rw[if_neg (by rw[d];simp),if_pos (by simp only;omega)];rw[g1.take]
   refine⟨c,g1.le,?_⟩;have i:=g1.at_;simp only[gr,Nat.zero_add]at i ⊢;omega
variable{C:aC}{N:zN}
def nR(b:List UInt8)(r:dE):Part×dE:=
 let c:=cT b r
 let q:=aL b 4 c.2
 (⟨c.1,q.1⟩,q.2)
def mF(b c:List UInt8)(r:dE):en×dE:=
 let f:=aL b 2 r
 let n:=aL b 1 f.2
 let ps:=cP (nR b) n.1.toNat n.2
 let m:=aL b 1 ps.2
 let os:=cP (cT b) m.1.toNat m.2
 (⟨c,f.1,ps.1,os.1⟩,os.2)
def tD(b:List UInt8)(id:Int)(r:dE):bZ×dE:=
 let c:=cT b r
 let f:=aL b 2 c.2
 let u:=aL b 2 f.2
 let q:=aL b 4 u.2
 let e:=aL b 1 q.2
 (⟨id,c.1,f.1,u.1,q.1,decide (e.1=1)⟩,e.2)
def tC(b:List UInt8)(id:Int)(r:dE):dC×dE:=
 let c:=cT b r
 let q:=aL b 4 c.2
 let a:=aL b 2 q.2
 let k:=aL b 1 a.2
 let s:=aL b 1 k.2
 let d:=aL b 2 s.2
 let o:=cT b d.2
 (⟨id,c.1,q.1,a.1,k.1,dN s.1,IntKind.i64.wrap (d.1-1),o.1⟩,o.2)
theorem uV{T:Type}{one:dE->T×dE}{t:Nat}{r:dE}(h:0<t->r.bad=true):cP one t r=([],r):=by
 cases t with
 | zero=>rfl
 | succ t=>simp[cP,h (by omega)]
def iz.Spec(C:aC)(N:zN):Prop:=∀(hb h0 h:a9)(p:a7)(b c:List UInt8)(r:dE)(Q:zQ),lC hb h0 h [] p b r->(∀a h',lC hb h0 h' (bR.gy false (mF b c r).1 a) p b (mF b c r).2->Q (.agg (bR.cells (mF b c r).1 a)) h')->C (N 433) [p,.str c] h Q
theorem lC.push{hb h0 h:a9}{l:List Ob}{p:a7}{b:List UInt8}{r:dE}{es bytes k:Nat}{x:a7}{L:List (List a7)}{cs:List a7}{K:zQ}(s:lC hb h0 h l p b r)(hk:l[k]?=some (.sl es x L []))(e:cs.length=es)(d:0<es)(f:(L.length+1)*bytes <= 140737488355328)(hm:L.length+1 <= maxLen)
  (n:∀a h',lC hb h0 h' (l.set k (.sl es a (L++[cs]) [])) p b r->K a h'):B.bL h (some cs) λid h=>B.bO h es bytes x (.sl id 0 0 1 es 1) K:=by
 obtain⟨z,R,j,m,hle⟩:=s;have i:k<l.length:=(List.getElem?_eq_some_iff.1 hk).1;have c:(l++[.box p [z,.bool r.bad]])[k]?=some (.sl es x L []):=by rw[getElem?_append_left i];exact hk
 refine m.push k c e d f hm λa h' g _=>n a h' ⟨z,R,j,?_,hle⟩;rw[set_append_left _ _ i]at g;exact g
theorem iz.spec(i:iz.aD C N)(s1:iq.Spec C N)(s2:ou.Spec C N):iz.Spec C N:=by
 intro hb h0 h p b c r Q F q;apply i
 try simp -dsimp only[iz.aY,iz.k5]
 refine s1 hb h0 h [] p b r 2 _ F (by omega) λh1 E=>?_;simp +contextual -dsimp;refine s1 hb h0 h1 [] p b _ 1 _ E (by omega) λh2 o=>?_;have n2:=w5 b (aL b 2 r).2;unfold mF at q;generalize aL b 2 r=f at *;obtain⟨life,S⟩:=f;simp only at n2 E o q ⊢;generalize aL b 1 S=g at *;obtain⟨n,r2⟩:=g;simp only at n2 o q ⊢;have d:lC hb h0 h2 [.sl 2 .aA [] []] p b r2:=by
  obtain⟨z,R,A,s,hle⟩:=o;exact⟨z,R,A,(s.aA 2).perm (List.Perm.swap ..),hle⟩
 refine aB.intro (λt vs v=>∃(x:a7)(acc:List Part)(r:dE),vs=[.int .i64 (t:Int),.agg [.str c,.int .i64 life,x,.aA]] /\ acc.length+t <= 255 /\ acc++(cP (nR b) t r).1=(cP (nR b) n.toNat r2).1 /\ (cP (nR b) t r).2=(cP (nR b) n.toNat r2).2 /\ lC hb h0 v [.sl 2 x (acc.map Part.cs) []] p b r) n.toNat ?_
  ⟨.aA,[],r2,by rw[Int.toNat_of_nonneg n2.1],by simp;omega,rfl,rfl,d⟩
 rintro Y t vs v ⟨x,acc,r,rfl,V,e1,I,F⟩ X;obtain⟨id,rfl,j⟩:=F.ptr;simp +contextual -dsimp[j];refine B.bF (λH=>?_) (λH=>?_)<;>simp at H
 ·obtain⟨t,rfl⟩:∃u,t=u+1:=⟨t-1,by omega⟩
  simp only[cP,H.2,Bool.false_eq_true,if_false]at e1 I;refine s2 hb h0 v _ _ b r _ F λL d=>?_;simp +contextual -dsimp;refine s1 hb h0 L _ _ b _ 4 _ d (by omega) λP l=>?_;simp +contextual -dsimp;refine l.push (k:=0) rfl rfl (by omega) (by simp;omega) (by simp[maxLen];omega) λw h5 a=>?_;have e4:IntKind.i64.wrap (t:Int)=(t:Int):=by rw[wrap_i64 (by omega) (by omega)]
  have M:w.aI=true:=by
   obtain⟨z,R,A,s,hle⟩:=a;exact(s.aP 0 rfl).aI
  simp +contextual -dsimp[e4,M];refine X t _ _ (by omega) ⟨w,acc++[(nR b r).1],(nR b r).2,rfl,by simp;omega,?_,I,?_⟩
  ·rw[<-e1,append_assoc];rfl
  ·rw[map_append];exact a
 ·rw[uV (by simpa using H),append_nil]at e1
  rw[uV (by simpa using H)]at I;simp only at I;subst e1;rw[<-I]at q;refine s1 hb h0 v _ _ b r 1 _ F (by omega) λL d=>?_;have n3:=w5 b r;generalize U:(cP (nR b) n.toNat r2).1=ps at *;generalize aL b 1 r=g at *;obtain⟨m,J⟩:=g;simp only at n3 d q ⊢;have l:lC hb h0 L [.sl 2 x (ps.map Part.cs) [],.sl 1 .aA [] []] (.ptr id 0 0) b J:=by
   obtain⟨z,R,A,s,hle⟩:=d;exact⟨z,R,A,(s.aA 1).perm (.cons _ (List.Perm.swap ..)),hle⟩
  refine aB.intro (λt vs v=>∃(y:a7)(acc:List (List UInt8))(r:dE),vs=[.int .i64 (t:Int),.agg [.str c,.int .i64 life,x,y]] /\ acc.length+t <= 255 /\ acc++(cP (cT b) t r).1=(cP (cT b) m.toNat J).1 /\ (cP (cT b) t r).2=(cP (cT b) m.toNat J).2 /\ lC hb h0 v [.sl 2 x (ps.map Part.cs) [],.sl 1 y (acc.map tc) []] (.ptr id 0 0) b r) m.toNat ?_
   ⟨.aA,[],J,by rw[Int.toNat_of_nonneg n3.1],by simp;omega,rfl,rfl,l⟩
  rintro Z t2 vs P ⟨y,acc,r',rfl,O,e3,e4,a⟩ W;obtain⟨T,e,j⟩:=a.ptr;cases e;simp +contextual -dsimp[j];refine B.bF (λG=>?_) (λG=>?_)<;>simp at G
  ·obtain⟨t2,rfl⟩:∃u,t2=u+1:=⟨t2-1,by omega⟩
   simp only[cP,G.2,Bool.false_eq_true,if_false]at e3 e4;refine s2 hb h0 P _ _ b r' _ a λh5 K=>?_;simp +contextual -dsimp;refine K.push (k:=1) rfl rfl (by omega) (by simp;omega) (by simp[maxLen];omega) λw h6 D=>?_;have e6:IntKind.i64.wrap (t2:Int)=(t2:Int):=by rw[wrap_i64 (by omega) (by omega)]
   have M:w.aI=true:=by
    obtain⟨z,R,A,s,hle⟩:=D;exact(s.aP 1 rfl).aI
   simp +contextual -dsimp[e6,M];refine W t2 _ _ (by omega) ⟨w,acc++[(cT b r').1],(cT b r').2,rfl,by simp;omega,?_,e4,?_⟩
   ·rw[<-e3,append_assoc];rfl
   ·rw[map_append];exact D
  ·rw[uV (by simpa using G),append_nil]at e3
   rw[uV (by simpa using G)]at e4;simp only at e4;subst e3;rw[<-e4]at q;simp +contextual -dsimp;exact aR (q (x,y) _ a)
def ql.Spec(C:aC)(N:zN):Prop:=∀(hb h0 h:a9)(l:List Ob)(p:a7)(b:List UInt8)(id:Int)(r:dE)(Q:zQ),lC hb h0 h l p b r->(∀h',lC hb h0 h' l p b (tD b id r).2->Q (.agg (tD b id r).1.cs) h')->C (N 434) [p,.int .i64 id] h Q
theorem ql.spec(i:ql.aD C N)(s1:iq.Spec C N)(s2:ou.Spec C N):ql.Spec C N:=by
 intro hb h0 h l p b id r Q g j;apply i
 try simp +contextual -dsimp
 refine s2 hb h0 h l p b r _ g λh1 f=>?_;simp +contextual -dsimp;refine s1 hb h0 h1 l p b _ 2 _ f (by omega) λn e=>?_;refine s1 hb h0 n l p b _ 2 _ e (by omega) λm d=>?_;simp +contextual -dsimp;refine s1 hb h0 m l p b _ 4 _ d (by omega) λk c=>?_;simp +contextual -dsimp;refine s1 hb h0 k l p b _ 1 _ c (by omega) λo a=>?_;simp +contextual -dsimp;exact aR (j _ a)
def qi.Spec(C:aC)(N:zN):Prop:=∀(hb h0 h:a9)(l:List Ob)(p:a7)(b:List UInt8)(id:Int)(r:dE)(Q:zQ),lC hb h0 h l p b r->(∀h',lC hb h0 h' l p b (tC b id r).2->Q (.agg (tC b id r).1.cs) h')->C (N 435) [p,.int .i64 id] h Q
theorem qi.spec(i:qi.aD C N)(s1:iq.Spec C N)(s2:ou.Spec C N):qi.Spec C N:=by
 intro hb h0 h l p b id r Q k m;apply i
 try simp +contextual -dsimp
 refine s2 hb h0 h l p b r _ k λh1 j=>?_;simp +contextual -dsimp;refine s1 hb h0 h1 l p b _ 4 _ j (by omega) λt g=>?_;simp +contextual -dsimp;refine s1 hb h0 t l p b _ 2 _ g (by omega) λs f=>?_;refine s1 hb h0 s l p b _ 1 _ f (by omega) λq e=>?_;simp +contextual -dsimp;refine s1 hb h0 q l p b _ 1 _ e (by omega) λo d=>?_;simp +contextual -dsimp[mz];refine s1 hb h0 o l p b _ 2 _ d (by omega) λn c=>?_;simp +contextual -dsimp;refine s2 hb h0 n l p b _ _ c λu a=>?_;simp +contextual -dsimp;exact aR (m _ a)
variable{C:aC}{N:zN}
def pk.Spec(C:aC)(N:zN):Prop:=∀(x:a7)(L:List (List UInt8))(R:List (List a7))(s:List UInt8)(h:a9)(Q:zQ),aJ h 1 x (L.map tc) R->L.length<4611686018427387904->(∀n:Int,(0 <= n↔s∈L)->Q (.int .i64 n) h)->C (N 445) [x,.str s] h Q
theorem pk.spec(i:pk.aD C N):pk.Spec C N:=by
 intro x L R s h Q hx m f;apply i;have b:=hx.aE;rw[length_map]at b;simp -dsimp only[pk.aY,te.aY,b,B.aK];refine aB.intro (λn vs c=>∃k:Nat,k+n=L.length /\ vs=[.int .i64 (k:Int)] /\ c=h /\ s∉L.take k) L.length ?_ ⟨0,by simp,rfl,rfl,by simp⟩;rintro Y n vs c ⟨k,l,rfl,rfl,a⟩ g;simp -dsimp only[te.l2,te.k1,gH,B.aK];refine B.bF (λe=>?_) (λe=>?_)
 ·rw[decide_eq_true_eq]at e
  obtain⟨w,hw⟩:=dI e;have hk:k<(L.map tc).length:=by simpa using e
  have e1:A.bX c (aV 1 x k 0)=some (.str w):=hx.cell (get_map hw);have j:V.aM (dH 16 (.str []) 0).es x (.int .i64 (k:Int))=some (aV 1 x k 0):=hx.dF hk;have e3:∀(p:a7)(K:a7->Prop),(dH 16 (.str []) 0).ld c p K=B.pv (A.bX c p) K:=λ_ _=>rfl;simp -dsimp only[j,e3,e1,B.aK,V.rB];refine B.bF (λd=>?_) (λd=>?_)
  ·rw[decide_eq_true_eq]at d
   subst d;exact aR (f k ⟨λ_=>mem_of_getElem? hw,λ_=>by omega⟩)
  ·rw[decide_eq_false_iff_not]at d
   simp -dsimp only[eG (show k<4611686018427387904 by omega),B.aK];refine g (L.length-(k+1)) _ _ (by omega) ⟨k+1,by omega,rfl,rfl,?_⟩;rw[take_succ hw];simp[a,d]
 ·rw[decide_eq_false_iff_not]at e
  have:k=L.length:=by omega
  subst this;rw[take_length]at a;exact aR (f (-1) ⟨λh=>by omega,λh=>absurd h a⟩)
def pj.Spec(C:aC)(N:zN):Prop:=∀(x:a7)(L:List (List UInt8))(R:List (List a7))(s:List UInt8)(h:a9)(Q:zQ),aJ h 1 x (L.map tc) R->L.length<4611686018427387904->Q (.bool (decide (s∈L))) h->C (N 442) [x,.str s] h Q
theorem pj.spec(i:pj.aD C N)(s1:pk.Spec C N):pj.Spec C N:=by
 intro x L R s h Q hx c a;apply i;simp -dsimp only[pj.aY,EJ.aY];refine s1 x L R s h _ hx c λn b=>?_;simp -dsimp only[V.xw,B.aK];rw[decide_eq_decide.2 b];exact aR a
def kJ.Spec(C:aC)(N:zN):Prop:=∀(most:Nat)(x:a7)(L:List (List UInt8))(R:List (List a7))(h:a9)(Q:zQ),aJ h 1 x (L.map tc) R->L.length<4611686018427387904->Q (.bool (rm most L)) h->C (N 441) [.int .i64 (most:Int),x] h Q
theorem kJ.spec(i:kJ.aD C N)(s1:iA.Spec C N)(s2:pj.Spec C N):kJ.Spec C N:=by
 intro most x L R h Q hx y g;apply i;have f:=hx.aE;rw[length_map]at f;simp -dsimp only[kJ.aY,f,B.aK];refine aB.intro (λn vs o=>∃k:Nat,k+n=L.length /\ vs=[.int .i64 (k:Int)] /\ o=h /\ (L.take k).all eu=true /\ (L.take k).Nodup) L.length ?_ ⟨0,by simp,rfl,rfl,rfl,by simp⟩;rintro Y n vs o ⟨k,u,rfl,rfl,c,d⟩ r;simp -dsimp only[kJ.l2,kJ.k1,gH,B.aK];refine B.bF (λj=>?_) (λj=>?_)
 ·rw[decide_eq_true_eq]at j
  obtain⟨w,hw⟩:=dI j;have hk:k<(L.map tc).length:=by simpa using j
  have e1:A.bX o (aV 1 x k 0)=some (.str w):=hx.cell (get_map hw);have t:V.aM 1 x (.int .i64 (k:Int))=some (aV 1 x k 0):=hx.dF hk;obtain⟨z,R',e3,e4,_⟩:=hx.kY (by omega) (lo:=0) (hi:=k) (a:=none) (b:=some (.int .i64 (k:Int))) (.inl ⟨rfl,rfl⟩) (.inr ⟨_,rfl⟩) (by omega) (by omega);rw[drop_zero]at e4;simp -dsimp only[t,e1,B.fw,B.aK];refine s1 _ _ _ ?_;simp +contextual -dsimp[e3];refine B.gG (v:= .bool (decide (w∈L.take k))) (λ_ Q g=>s2 z _ _ _ _ _ e4 (by simp;omega) g) ?_;simp -dsimp;have step:eu w=true->w∉L.take k->(L.take (k+1)).all eu=true /\ (L.take (k+1)).Nodup:=λh1 l=>by
   rw[take_succ hw];refine⟨by simp only[all_append,c,Bool.true_and,all_cons,all_nil,Bool.and_true,h1],?_⟩;rw[nodup_append];exact⟨d,by simp,λa q b hb e=>by rw[mem_singleton.1 hb]at e;subst e;exact l q⟩
  refine B.bF (λm=>?_) (λm=>?_)
  ·have:rm most L=false:=by
    unfold rm;by_cases h1:eu w=true
    ·refine Bool.and_eq_false_iff.2 (.inr (Bool.and_eq_false_iff.2 (.inl (decide_eq_false λl=>?_))))
     have s:w∈L.take k:=by simpa[h1]using m
     have p:(L.take (k+1)).Nodup:=l.sublist (take_sublist _ _);rw[take_succ hw,nodup_append]at p;exact p.2.2 w s w (by simp) rfl
    ·refine Bool.and_eq_false_iff.2 (.inl ?_)
     rw[<-Bool.not_eq_true,all_eq_true];exact λl=>h1 (l w (mem_of_getElem? hw))
   rw[this]at g;exact aR g
  ·have h1:eu w=true /\ w∉L.take k:=by
    cases h:eu w<;>simp[h]at m ⊢;exact m
   simp -dsimp only[eG (show k<4611686018427387904 by omega),B.aK];refine r (L.length-(k+1)) _ _ (by omega) ⟨k+1,by omega,rfl,rfl,step h1.1 h1.2⟩
 ·rw[decide_eq_false_iff_not]at j
  have:k=L.length:=by omega
  subst this;rw[take_length]at c d;simp -dsimp only[DZ,f,B.aK];have:rm most L=decide (L.length <= most):=by unfold rm;rw[c,decide_eq_true d];rfl
  rw[this]at g;exact aR g
def ir.Spec(C:aC)(N:zN):Prop:=∀(t:en)(a:a7×a7)(h:a9)(Q:zQ),bR.at_ h t a->Q (.bool (iQ t)) h->C (N 438) [.agg (bR.cells t a)] h Q
theorem ir.spec(i:ir.aD C N)(s1:kJ.Spec C N):ir.Spec C N:=by
 intro t a h Q E j;obtain⟨⟨R1,r⟩,⟨R2,J⟩,I,H⟩:(∃R,aJ h 2 a.1 (t.cO.map Part.cs) R) /\ (∃R,aJ h 1 a.2 (t.dL.map tc) R) /\ t.ok:=E;unfold oh at I H;apply i;have l1:=r.aE;rw[length_map]at l1;simp -dsimp[bR];intro id o;have u:=(aG.start h).gU (id:=id) (n:=1) (cp:=1) (es:=1) (cs:=[.str t.Code]) (L:=[t.Code].map tc) (R:=[]) o (by simp) rfl (by simp) rfl;refine u.bO 0 rfl (J.mono u.le) (by omega) (by simp;omega) (by simp[maxLen];omega) λs z o2 _=>?_;have d:=o2.aP 0 rfl;have d:aJ z 1 s ((t.Code::t.dL).map tc) []:=d;refine s1 5 s _ _ _ _ d (by simp;omega) ?_;simp -dsimp[l1];have fin:∀(b:Bool)(h':a9),h.le h'->iQ t=b->dn Q (.bool b) h':=λb h' hle e=>by rw[e]at j;exact ln hle j
 refine B.bF (λhb=>?_) (λhb=>?_)
 ·refine fin _ _ o2.le ?_
  have hb:rm 5 (t.Code::t.dL)=false:=by simpa using hb
  unfold iQ;rw[hb];rfl
 ·have hb:rm 5 (t.Code::t.dL)=true:=by simpa using hb
  simp +contextual -dsimp[l1];refine B.bF (λq=>?_) (λq=>?_)
  ·have l:t.cO=[]:=by simpa using q
   simp +contextual -dsimp;refine fin _ _ o2.le ?_;unfold iQ;rw[hb,l];simp
  ·have l:t.cO≠[]:=by simpa using q
   have hk:iQ t=(xE t&&(decide (t.jY=0)&&rm 8 (yv t))):=by unfold iQ;rw[hb,decide_eq_false l];rfl
   simp -dsimp[l1];refine aB.intro (λn vs x=>∃(k:Nat)(y:a7),k+n=t.cO.length /\ vs=[y,.int .i64 (k:Int)] /\ aG h x [.sl 1 y (((t.cO.take k).map Part.Item).map tc) []] /\ (t.cO.take k).all (λp=>decide (1 <= p.ek)&&decide (p.ek <= 1073741824))=true) t.cO.length ?_ ⟨0,.aA,by simp,rfl,by simpa using ((aG.start z).aA 1).back o2.le,rfl⟩;rintro Y n vs x ⟨k,y,K,rfl,f,c⟩ F;simp -dsimp only[ir.l3,ir.k2,gH,B.aK];refine B.bF (λg=>?_) (λg=>?_)
   ·rw[decide_eq_true_eq]at g
    obtain⟨w,hw⟩:=dI g;have m:k<(t.cO.map Part.cs).length:=by simpa using g
    have e1:=(r.mono f.le).elem (get_map hw);have G:V.aM 2 a.1 (.int .i64 (k:Int))=some (aV 2 a.1 k 0):=r.dF m;simp +contextual -dsimp[e1,G,-V.fP];have bad:(decide (w.ek<1)||decide (1073741824<w.ek))= !(decide (1 <= w.ek)&&decide (w.ek <= 1073741824)):=by
     rw[Bool.eq_iff_iff];simp<;>omega
    refine B.bF (λhe=>?_) (λhe=>?_)
    ·refine fin _ _ f.le ?_
     have:xE t=false:=by
      unfold xE;rw[all_eq_false];exact⟨w,mem_of_getElem? hw,by rw[bad,Bool.not_eq_true']at he;rw[he];exact Bool.false_ne_true⟩
     rw[hk,this];rfl
    ·refine f.push 0 rfl rfl (by omega) (by simp;omega) (by simp[maxLen];omega) λA M D _=>?_
     simp -dsimp only[eG (show k<4611686018427387904 by omega),B.aK];refine F (t.cO.length-(k+1)) _ _ (by omega) ⟨k+1,A,by omega,rfl,?_,?_⟩
     ·rw[take_succ hw,map_append,map_append];exact D
     ·rw[take_succ hw,all_append,c]
      rw[bad]at he;simpa using he
   ·rw[decide_eq_false_iff_not]at g
    have:k=t.cO.length:=by omega
    subst this;rw[take_length]at f c;simp +contextual -dsimp;refine B.gG (v:= .bool (rm 8 (yv t))) (λ_ Q j=>s1 8 y _ _ _ _ (f.aP 0 rfl) (by simp;omega) j) ?_;simp -dsimp;refine fin _ _ f.le ?_;rw[hk,show xE t=true from c];rfl
variable{C:aC}{N:zN}
structure iD(h:a9)(s:dV)(x y z:a7):Prop where
 items:Dl bR h x s.cK
 iU:∃R,aJ h 6 y (s.bJ.map bZ.cs) R
 lines:∃R,aJ h 8 z (s.cE.map dC.cs) R
 n1:s.cK.length <= 100000000
 n2:s.bJ.length <= 100000000
 n3:s.cE.length <= 100000000
theorem iD.mono{h h':a9}{s:dV}{x y z:a7}(a:iD h s x y z)(hle:h.le h'):iD h' s x y z:=⟨a.items.mono hle,a.iU.imp λ_ r=>r.mono hle,a.lines.imp λ_ r=>r.mono hle,a.n1,a.n2,a.n3⟩
abbrev fp(s:dV)(x y z:a7):List a7:=[.int .i64 s.ju,.int .i64 s.jo,.int .i64 s.jl,x,y,z]
theorem G2{T:Type}{ok:T->Bool}{lt:T->T->Bool}:∀(l:List T)(p:Option T)(x:T),hV ok lt p (l++[x])=(hV ok lt p l&&(ok x&&jT lt x ((l.getLast?).or p)))
 | [],p,x=>by simp[hV]
 | a::l,p,x=>by
  have:=G2 (ok:=ok) (lt:=lt) l (some a) x;have e:(l.getLast?).or (some a)=((a::l).getLast?).or p:=by
   rw[getLast?_cons];cases l.getLast? <;>rfl
  rw[cons_append,hV,this,hV,e];simp only[Bool.and_assoc]
theorem vY{T:Type}{ok:T->Bool}{lt:T->T->Bool}{l:List T}{k:Nat}{x:T}(hx:l[k]?=some x):hV ok lt none (l.take (k+1))=(hV ok lt none (l.take k)&&(ok x&&(decide (k=0)||jT lt x l[k-1]?))):=by
 rw[take_succ hx,G2];have hk:k<l.length:=(List.getElem?_eq_some_iff.1 hx).1;cases k with
 | zero=>simp[jT]
 | succ k=>
  have e:((l.take (k+1)).getLast?).or none=l[k+1-1]? :=by
   rw[Option.or_none,getLast?_eq_getElem?,length_take,Nat.min_eq_left (by omega),getElem?_take_of_lt (by omega)]
  rw[e];simp
theorem xH:V.bin .add (.int .i64 0) (.int .i64 1)=some (.int .i64 ((0+1:Nat):Int)):=rfl
def gB.Spec(C:aC)(N:zN):Prop:=∀(s:dV)(x y z:a7)(h:a9)(Q:zQ),iD h s x y z->Q (.bool (jz s)) h->C (N 426) [.agg (fp s x y z)] h Q
theorem gB.spec(i:gB.aD C N)(s1:ir.Spec C N)(s2:pL.Spec C N)(J:qT.Spec C N):gB.Spec C N:=by
 intro s x y z h Q O g;obtain⟨hi,⟨R1,l⟩,⟨R2,j⟩,n1,n2,n3⟩:=O;apply i;have l1:=hi.aE;have l2:=l.aE;have l3:=j.aE;rw[length_map]at l2 l3;have hx:=hi.aI;have T:=l.aI;have S:=j.aI;simp +contextual -dsimp[l1];refine aB.intro (λn vs o=>∃k:Nat,k+n=s.cK.length /\ vs=[.bool (uG s&&hV iQ (λa b=>iC a.Code b.Code) none (s.cK.take k)),.int .i64 (k:Int)] /\ o=h) s.cK.length ?_ ⟨0,by simp,by unfold uG;simp[hV],rfl⟩;rintro Y n vs o ⟨k,hk,rfl,rfl⟩ q;simp -dsimp only[gB.l6,gB.k5,gH,B.aK];refine B.bF (λd=>?_) (λd=>?_)
 ·rw[decide_eq_true_eq]at d
  obtain⟨w,hw⟩:=dI d;obtain⟨a,I⟩:=hi.get hw;have e1:=I.idx;have D:=I.cR;have e3:V.bU 0 4 (.agg (bR.cells w a)) (.agg [.str [],.int .i64 0,.aA,.aA])=some (.agg (bR.cells w a)):=wW bR w a;simp -dsimp only[show V.aM 4 x (.int .i64 (k:Int))=some (aV 4 x k 0) from e1,show A.fF o (aV 4 x k 0) 4=some (.agg (bR.cells w a)) from D,e3,B.iL,B.aK];have step:=vY (ok:=iQ) (lt:=λa b:en=>iC a.Code b.Code) hw;generalize r:(uG s&&hV iQ (λa b=>iC a.Code b.Code) none (s.cK.take k))=P at *;simp +contextual -dsimp[bR];refine B.gG (v:= .bool (iQ w)) (λ_ Q g=>s1 w a _ _ I.at_ g) ?_;have fin:∀b:Bool,b=(P&&(iQ w&&(decide (k=0)||jT (λa b:en=>iC a.Code b.Code) w s.cK[k-1]?)))->Y [.bool b,.int .i64 ((k+1:Nat):Int)] o:=λb e=>by
   refine q (s.cK.length-(k+1)) _ _ (by omega) ⟨k+1,by omega,?_,rfl⟩;rw[step,<-Bool.and_assoc,r,<-e]
  by_cases h0:k=0
  ·subst h0
   simp +contextual -dsimp[-V.fP,xH];refine fin _ (by simp)
  ·obtain⟨u,hu⟩:=dI (L:=s.cK) (k:=k-1) (by omega)
   obtain⟨c,H⟩:=hi.get hu;have p:=vJ (a:=k) (by omega) (by omega);have f1:V.aM 4 x (.int .i64 ((k-1:Nat):Int))=some (aV 4 x (k-1) 0):=H.idx;have f2:V.fieldAddr 0 (aV 4 x (k-1) 0)=some (aV 4 x (k-1) 0):=H.sV 0 0;have f3:A.bX o (aV 4 x (k-1) 0)=some (.str u.Code):=H.ld 0 (by decide);simp +contextual -dsimp[-V.fP,-V.nI,eG (show k<4611686018427387904 by omega),p,h0,f1,f2,f3,V.Ot,bR];refine fin _ (by rw[hu,decide_eq_false h0];simp[jT,Bool.and_assoc])
 ·rw[decide_eq_false_iff_not]at d
  have:k=s.cK.length:=by omega
  subst this;rw[take_length];generalize G:(uG s&&hV iQ (λa b=>iC a.Code b.Code) none s.cK)=P1;simp +contextual -dsimp[l2];refine aB.intro (λn vs t=>∃k:Nat,k+n=s.bJ.length /\ vs=[.bool (P1&&hV kN (λa b=>decide (a.Id<b.Id)) none (s.bJ.take k)),.int .i64 (k:Int)] /\ t=o) s.bJ.length ?_ ⟨0,by simp,by simp[hV],rfl⟩;rintro Y2 n2 vs t ⟨k,M,rfl,rfl⟩ q;simp -dsimp only[gB.l4,gB.k3,gH,B.aK];refine B.bF (λd=>?_) (λd=>?_)
  ·rw[decide_eq_true_eq]at d
   obtain⟨w,hw⟩:=dI d;have m:k<(s.bJ.map bZ.cs).length:=by simpa using d
   have e1:V.aM 6 y (.int .i64 (k:Int))=some (aV 6 y k 0):=l.dF m;have D:=l.elem (get_map hw);have step:=vY (ok:=kN) (lt:=λa b:bZ=>decide (a.Id<b.Id)) hw;generalize r:(P1&&hV kN (λa b=>decide (a.Id<b.Id)) none (s.bJ.take k))=P at *;simp +contextual -dsimp[e1,D];refine B.gG (v:= .bool (kN w)) (λ_ Q g=>s2 w _ _ g) ?_;have fin:∀b:Bool,b=(P&&(kN w&&(decide (k=0)||jT (λa b:bZ=>decide (a.Id<b.Id)) w s.bJ[k-1]?)))->Y2 [.bool b,.int .i64 ((k+1:Nat):Int)] t:=λb e=>by
    refine q (s.bJ.length-(k+1)) _ _ (by omega) ⟨k+1,by omega,?_,rfl⟩;rw[step,<-Bool.and_assoc,r,<-e]
   by_cases h0:k=0
   ·subst h0
    simp +contextual -dsimp[-V.fP,xH];refine fin _ (by simp)
   ·obtain⟨u,hu⟩:=dI (L:=s.bJ) (k:=k-1) (by omega)
    have p:=vJ (a:=k) (by omega) (by omega);have f:k-1<(s.bJ.map bZ.cs).length:=by simp;omega
    have f1:V.aM 6 y (.int .i64 ((k-1:Nat):Int))=some (aV 6 y (k-1) 0):=l.dF f;have f2:V.fieldAddr 0 (aV 6 y (k-1) 0)=some (aV 6 y (k-1) 0):=l.jF f 0 0;have f3:A.bX t (aV 6 y (k-1) 0)=some (.int .i64 u.Id):=l.bX (get_map hu) (by omega);simp +contextual -dsimp[-V.fP,-V.nI,eG (show k<4611686018427387904 by omega),p,h0,f1,f2,f3];refine fin _ (by rw[hu,decide_eq_false h0];simp[jT,Bool.and_assoc])
  ·rw[decide_eq_false_iff_not]at d
   have:k=s.bJ.length:=by omega
   subst this;rw[take_length];generalize F:(P1&&hV kN (λa b=>decide (a.Id<b.Id)) none s.bJ)=P2;simp +contextual -dsimp[l3];refine aB.intro (λn vs E=>∃k:Nat,k+n=s.cE.length /\ vs=[.bool (P2&&hV kL (λa b=>decide (a.Id<b.Id)) none (s.cE.take k)),.int .i64 (k:Int)] /\ E=t) s.cE.length ?_ ⟨0,by simp,by simp[hV],rfl⟩;rintro Y3 R vs E ⟨k,K,rfl,rfl⟩ q;simp -dsimp only[gB.l2,gB.k1,gH,B.aK];refine B.bF (λd=>?_) (λd=>?_)
   ·rw[decide_eq_true_eq]at d
    obtain⟨w,hw⟩:=dI d;have m:k<(s.cE.map dC.cs).length:=by simpa using d
    have e1:V.aM 8 z (.int .i64 (k:Int))=some (aV 8 z k 0):=j.dF m;have D:=j.elem (get_map hw);have step:=vY (ok:=kL) (lt:=λa b:dC=>decide (a.Id<b.Id)) hw;generalize r:(P2&&hV kL (λa b=>decide (a.Id<b.Id)) none (s.cE.take k))=P at *;simp +contextual -dsimp[e1,D];refine B.gG (v:= .bool (kL w)) (λ_ Q g=>J w _ _ g) ?_;have fin:∀b:Bool,b=(P&&(kL w&&(decide (k=0)||jT (λa b:dC=>decide (a.Id<b.Id)) w s.cE[k-1]?)))->Y3 [.bool b,.int .i64 ((k+1:Nat):Int)] E:=λb e=>by
     refine q (s.cE.length-(k+1)) _ _ (by omega) ⟨k+1,by omega,?_,rfl⟩;rw[step,<-Bool.and_assoc,r,<-e]
    by_cases h0:k=0
    ·subst h0
     simp +contextual -dsimp[-V.fP,xH];refine fin _ (by simp)
    ·obtain⟨u,hu⟩:=dI (L:=s.cE) (k:=k-1) (by omega)
     have p:=vJ (a:=k) (by omega) (by omega);have f:k-1<(s.cE.map dC.cs).length:=by simp;omega
     have f1:V.aM 8 z (.int .i64 ((k-1:Nat):Int))=some (aV 8 z (k-1) 0):=j.dF f;have f2:V.fieldAddr 0 (aV 8 z (k-1) 0)=some (aV 8 z (k-1) 0):=j.jF f 0 0;have f3:A.bX E (aV 8 z (k-1) 0)=some (.int .i64 u.Id):=j.bX (get_map hu) (by omega);simp +contextual -dsimp[-V.fP,-V.nI,eG (show k<4611686018427387904 by omega),p,h0,f1,f2,f3];refine fin _ (by rw[hu,decide_eq_false h0];simp[jT,Bool.and_assoc])
   ·rw[decide_eq_false_iff_not]at d
    have:k=s.cE.length:=by omega
    subst this;rw[take_length];refine aR ?_;have e:(P2&&hV kL (λa b=>decide (a.Id<b.Id)) none s.cE)=jz s:=by
     rw[<-F,<-G];unfold jz w9 yK yB;simp only[Bool.and_assoc]
    rw[e];exact g
variable{C:aC}{N:zN}
theorem qY{h:a9}{x:a7}{L:List Row}(hx:Dl aQ h x L){i:Nat}{r:Row}(c:L[i]?=some r):∃k v,V.aM 2 x (.int .i64 (i:Int))=some (aV 2 x i 0) /\ A.fF h (aV 2 x i 0) 2=some (.agg [k,v]) /\ V.fieldAddr 0 (aV 2 x i 0)=some (aV 2 x i 0) /\
  V.fieldAddr 1 (aV 2 x i 0)=some (aV 2 x i 1) /\ A.bX h (aV 2 x i 0)=some k /\ A.bX h (aV 2 x i 1)=some v /\ Bs h k r.Key /\ Bs h v r.Value:=by
 obtain⟨a,b⟩:=hx.get c;exact⟨a.1,a.2,b.idx,b.cR,b.sV 0 0,b.sV 0 1,b.ld 0 (by decide),b.ld 1 (by decide),b.at_.1,b.at_.2⟩
theorem Ic{α:Type}[DecidableEq α](s:List α):decide ((s.length:Int)=0)=decide (s=[]):=by
 cases s with
 | nil=>rfl
 | cons a s=>simp;omega
def q8.Spec(C:aC)(N:zN):Prop:=∀(x y:a7)(a b:List UInt8)(h:a9)(Q:zQ),Bs h x a->Bs h y b->Q (.int .i64 (vK a b)) h->C (N 274) [x,y] h Q
theorem q8.spec(i:q8.aD C N)(i2:zC.aD C N):q8.Spec C N:=λx y a b h Q ⟨⟨R,hx⟩,_⟩ ⟨⟨S,c⟩,_⟩ d=>i x y h Q (i2 x y a b R S h _ hx c (aR d))
def nC.Spec(C:aC)(N:zN):Prop:=∀(x y:a7)(a b:List UInt8)(h:a9)(Q:zQ),Bs h x a->Bs h y b->Q (.bool (decide (a=b))) h->C (N 273) [x,y] h Q
theorem nC.spec(i:nC.aD C N):nC.Spec C N:=λx y a b h Q ⟨⟨R,hx⟩,_⟩ ⟨⟨S,c⟩,_⟩ d=>by
 apply i
 simp -dsimp only[nC.aY,hF hx,hF c,V.rB,B.aK]
 exact aR d
theorem Fc{h:a9}{s:List UInt8}{K:zQ}(d:s.length <= ep)(hk:∀c h',aG h h' [gw false c s]->K c h'):B.oE h (.str s) K:=by
 refine⟨by unfold ep at d;omega,λid a=>hk _ _ ?_⟩;exact(aG.start h).gU (id:=id) (n:=s.length) (cp:=s.length) (es:=1) (cs:=s.map λb=> .int .u8 b.toNat) (L:=s.map bc) (R:=[]) a (by simp) (by simp) (by simp) (by rw[append_nil,AR])
variable{C:aC}{N:zN}
def vP(h h':a9)(p:a7)(o:Option Nat):Prop:=match o with
 | none=>∃x,A.bX h p=some x /\ A.bX h' p=some x
 | some n=>∃x,A.fF h p n=some x /\ A.fF h' p n=some x
theorem Bd{h h':a9}{p q:a7}{o u:Option Nat}{K:zQ}{v:a7}(h1:vP h h' p o)(b:vP h h' q u)(hk:K v h'):B.jV h [(p,o),(q,u)] K v h':=by
 refine⟨λr a=>?_,hk⟩;rcases mem_cons.1 a with rfl|a
 ·unfold vP at h1;cases o<;>exact h1
 ·rw[mem_singleton.1 a];unfold vP at b;cases u<;>exact b
theorem Bf{h h':a9}{p:a7}{o:Option Nat}{K:zQ}{v:a7}(h1:vP h h' p o)(hk:K v h'):B.jV h [(p,o)] K v h':=by
 refine⟨λr a=>?_,hk⟩;rw[mem_singleton.1 a];unfold vP at h1;cases o<;>exact h1
theorem aG.y7{h0 h h':a9}{l l':List Ob}(c:aG h0 h l)(d:aG h h' l'):∃h1:a9,h0.le h1 /\ h1.le h' /\ aG h1 h' l /\ rq h1 l':=by
 obtain⟨b,a⟩:=((c.join d).perm perm_append_comm).out;exact⟨_,b.le,a.le,a,b.is⟩
structure uQ(C:aC)(E:fi)(Mk:a9->Int->Int->List a7->Prop)(v:List a7->a7):Prop where
 pos:0<E.es
 mJ:E.z.length=E.es
 len:∀{h:a9}{k i:Int}{c:List a7},Mk h k i c->c.length=E.es
 mono:∀{h h':a9}{k i:Int}{c:List a7},h.le h'->Mk h k i c->Mk h' k i c
 new:∀{h:a9}{k i:Int}{c:List a7},Mk h k i c->bN [(0,E.kp,v c)] (bG 1 E.z)=some c
 call:∀(k i:Int)(h:a9)(Q:zQ),(∀c h' l,aG h h' l->(∀h1,rq h1 l->Mk h1 k i c)->Q (v c) h')->C E.f [.int .i64 k,.int .i64 i] h Q
 ld:∀{h:a9}{x:a7}{L R:List (List a7)}{i:Nat}{c:List a7}{K:a7->Prop},aJ h E.es x L R->L[i]?=some c->K (v c)->E.ld h (aV E.es x i 0) K
 qd:∀{h h':a9}{x:a7}{L R:List (List a7)}{i:Nat}{c:List a7},aJ h E.es x L R->aJ h' E.es x L R->L[i]?=some c->vP h h' (aV E.es x i 0) E.kp
 st:∀{h:a9}{x:a7}{L R:List (List a7)}{i:Nat}{c c0:List a7}{k j:Int}{K:a9->Prop},aJ h E.es x L R->(∀id b,cC x=some id->h id=some b->b.own=true)->L[i]?=some c0->Mk h k j c ->
  (∀h',aJ h' E.es x (L.set i c) R->(∀id b,cC x=some id->h' id=some b->b.own=true)->iH x h h'->K h')->E.st h (aV E.es x i 0) (v c) K
 eq:∀{h:a9}{k i:Int}{c c':List a7}{K:zQ},Mk h k i c->Mk h k i c'->K (.bool true) h->E.eq h (v c) (v c') K
def ky(Mk:a9->Int->Int->List a7->Prop)(h:a9)(k s:Nat)(D:List (List a7)):Prop:=∀(i:Nat)(c:List a7),D[i]?=some c->Mk h (k:Int) ((s+i:Nat):Int) c
section
variable{E:fi}{Mk:a9->Int->Int->List a7->Prop}{v:List a7->a7}{h0 h h':a9}{k s:Nat}{D:List (List a7)}
theorem ky.mono(S:uQ C E Mk v)(m:ky Mk h k s D)(hle:h.le h'):ky Mk h' k s D:=λi c a=>S.mono hle (m i c a)
theorem ky.nil(Mk:a9->Int->Int->List a7->Prop)(h:a9)(k s:Nat):ky Mk h k s []:=λi c a=>by simp at a
theorem ky.snoc{c:List a7}(m:ky Mk h k s D)(f:Mk h (k:Int) ((s+D.length:Nat):Int) c):ky Mk h k s (D++[c]):=λi d a=>by
 rw[getElem?_append]at a;split at a
 ·exact m i d a
 ·rename_i b
  have hi:i-D.length=0:=by
   cases e:i-D.length with
   | zero=>rfl
   | succ j=>rw[e]at a;simp at a
  rw[hi]at a;simp only[getElem?_cons_zero,Option.some.injEq]at a;subst a;have:i=D.length:=by omega
  subst this;exact f
theorem ky.append{b:List (List a7)}(m:ky Mk h k s D)(c:ky Mk h k (s+D.length) b):ky Mk h k s (D++b):=λi d a=>by
 rw[getElem?_append]at a
 split at a
 ·exact m i d a
 ·have:=c _ _ a
  rwa [show s+D.length+(i-D.length)=s+i by omega]at this
end
structure FD(E:fi)(h0 h:a9)(v5:a7)(n:Nat)(xs:Nat->a7)(X:Nat->List (List a7))(ys:Nat->a7)(F:Nat->List (List a7))(gs:Nat->a7):Prop where
 own:aG h0 h (cS E.es n ys F (λ_=>[])++[.sl 1 v5 (fx n λj=>[gs j]) []])
 ji:∀j,j<n->Old h E.es (xs j) (X j) (ys j) (F j)
section
variable{E:fi}{Mk:a9->Int->Int->List a7->Prop}{v:List a7->a7}{h0 h h':a9}{x v5:a7}{n k:Nat}{xs ys gs:Nat->a7}{X F:Nat->List (List a7)}{W:List (List a7)}{Q:zQ}
theorem FD.grow(fs:FD E h0 h v5 n xs X ys F gs)(hle:h.le h'):FD E h0 h' v5 n xs X ys F gs:=⟨fs.own.grow hle,λj a=>(fs.ji j a).mono hle⟩
theorem FD.y7(fs:FD E h0 h v5 n xs X ys F gs){l':List Ob}(d:aG h h' l'):∃h1:a9,h0.le h1 /\ h1.le h' /\ FD E h1 h' v5 n xs X ys F gs /\ rq h1 l':=by
 obtain⟨h1,a,b,o,c⟩:=fs.own.y7 d;exact⟨h1,a,b,⟨o,λj e=>(fs.ji j e).mono d.le⟩,c⟩
theorem FD.lB(fs:FD E h0 h v5 n xs X ys F gs):aJ h 1 v5 (fx n λj=>[gs j]) []:=fs.own.aP n cS.sR
theorem FD.rY(fs:FD E h0 h v5 n xs X ys F gs)(hk:k<n):aJ h E.es (ys k) (F k) []:=fs.own.aP k (cS.lq hk)
theorem FD.jB(fs:FD E h0 h v5 n xs X ys F gs)(hk:k<n){y:a7}{L:List (List a7)}(h1:aJ h' E.es y L [])(g:∀id b,cC y=some id->h' id=some b->b.own=true)
  (c:∀j b,h j=some b->cC (ys k)≠some j->h' j=some b) (f:cC y=cC (ys k) \/ ∀id,cC y=some id->h id=none) (d:Old h' E.es (xs k) (X k) y L):FD E h0 h' v5 n xs X (dU ys k y) (dU F k L) gs:=by
 refine⟨?_,λj a=>?_⟩
 ·have:=fs.own.jB k (cS.lq hk) (o':= .sl E.es y L []) h1 g c f
  rwa [cS.DX hk,Ae]at this
 ·by_cases e:j=k
  ·subst e;rw[gR,gR];exact d
  ·rw[jy _ _ e,jy _ _ e]
   exact(fs.ji j a).other (z:=ys k) c (fs.own.ne (cS.lq a) (cS.lq hk) e)
theorem FD.store(fs:FD E h0 h v5 n xs X ys F gs)(hk:k<n){y:a7}(c:y.aI=true){K:a9->Prop}(d:∀h',FD E h0 h' v5 n xs X ys F (dU gs k y)->K h'):A.st h (aV 1 v5 k 0) y K:=by
 refine fs.own.st n cS.sR (xg _ hk) (by omega) c λh' b hb=>d h' ⟨?_,λj a=>?_⟩
 ·rw[cS.DW]at b
  have e:(fx n λj=>[gs j]).set k ([gs k].set 0 y)=fx n λj=>[dU gs k y j]:=by
   rw[GJ];refine F6 λj a=>?_;unfold dU;split<;>rfl
  rwa [e]at b
 ·exact(fs.ji j a).other hb (fs.own.ne (cS.lq a) cS.sR (by omega))
theorem FD.push(S:uQ C E Mk v)(fs:FD E h0 h v5 n xs X ys F gs)(hk:k<n){cs:List a7}(b:cs.length=E.es)(hb:((F k).length+1)*E.bytes <= 140737488355328)(c:(F k).length+1 <= maxLen){K:zQ}
  (d:∀y h',FD E h0 h' v5 n xs X (dU ys k y) (dU F k (F k++[cs])) gs->K y h'):A.bL h (some cs) λi h=>A.bO h E.es E.bytes (ys k) (.sl i 0 0 1 E.es 1) K:=λi hi=>by
 have a:=fs.grow (hU (cG cs) hi)
 refine(a.rY hk).yO (a.own.lg k (cS.lq hk)) (M:=[cs]) (R':=[]) (aJ.lit (dR ..) (by simpa using b) rfl (by simp) (by simp)) S.pos (by simpa using hb) (by simpa using c) λy h' h1 j g f e=>?_
 exact d y h' (a.jB hk h1 j g f (e _ _ (a.ji k hk)))
theorem yA(hx:aJ h 1 x (fx n λj=>[xs j]) W)(a:aJ h' 1 x (fx n λj=>[xs j]) W)(hk:k<n):vP h h' (aV 1 x k 0) none:=⟨_,j0 hx hk,j0 a hk⟩
theorem PN(S:uQ C E Mk v)(hx:aJ h0 1 x (fx n λj=>[xs j]) W)(fs:FD E h0 h v5 n xs X ys F gs)(hn:n <= 100000000)(J:∀j,j<n->(X j).length <= 4611686018427380000)
  (w:∀j,j<n->gs j=ys j) (z:∀j,j<n->ky Mk h0 j 0 (X j)) (A:∀j i c,j<n->i<(X j).length->(F j)[i]?=some c->Mk h0 (j:Int) (i:Int) c) (D:∀j,j<n->(X j).length <= (F j).length) (G:∀h',h0.le h'->Q (.bool true) h'):aB (aH.gY E C Q x v5) [.int .i64 0] h:=by
 refine aB.intro (λt vs y=>∃k:Nat,k+t=n /\ vs=[.int .i64 k] /\ h.le y) n ?_ ⟨0,by simp,by simp,a9.le_refl h⟩;rintro Y t vs y ⟨k,ht,rfl,hle⟩ M;have l:=fs.grow hle;have a:=hx.mono l.own.le;simp -dsimp[oP a];refine B.bF (λhb=>?_) (λhb=>?_)<;>simp -dsimp at hb ⊢
 ·refine aB.intro (λt vs P=>∃i:Nat,i+t=(X k).length /\ vs=[.int .i64 i] /\ h.le P) (X k).length ?_ ⟨0,by simp,by simp,hle⟩
  rintro Z t' vs h3 ⟨i,hi,rfl,b⟩ K;have f3:=fs.grow b;have a:=hx.mono f3.own.le;have hold:=(f3.ji k hb).at_;have H:=J k hb;have u:=hold.aE;simp -dsimp[iK a hb,j0 a hb,u];refine B.bF (λg=>?_) (λg=>?_)<;>simp -dsimp at g ⊢
  ·have r:=f3.rY hb
   have I:=D k hb;obtain⟨U,f⟩:=dI (L:=X k) (k:=i) g;obtain⟨T,e⟩:=dI (L:=F k) (k:=i) (by omega);have m1:=z k hb i U f;have m2:=A k i T hb g e;rw[Nat.zero_add]at m1;have e1:V.aM E.es (xs k) (.int .i64 (i:Int))=some (aV E.es (xs k) i 0):=hold.dF g;have R:V.aM E.es (ys k) (.int .i64 (i:Int))=some (aV E.es (ys k) i 0):=r.dF (by omega);simp -dsimp only[iK a hb,j0 a hb,e1,B.aK,B.fw];refine S.ld hold f ?_;refine S.call _ _ _ _ λc4 O l4 m q=>?_;have f4:=f3.grow m.le;have s:=hx.mono f4.own.le;refine Bd (yA a s hb) (S.qd hold (hold.mono m.le) f) ?_;refine S.eq (S.mono f4.own.le m1) (q O m.is) ?_;have e3:=j0 f4.lB hb;rw[w k hb]at e3;have d:=f4.rY hb;simp -dsimp[iK f4.lB hb,e3,R];refine S.ld d e ?_;refine S.call _ _ _ _ λc5 N l5 o p=>?_;have f5:=f4.grow o.le;refine Bd (yA f4.lB f5.lB hb) (S.qd d (f5.rY hb) e) ?_;simp -dsimp;refine S.eq (S.mono f5.own.le m2) (p N o.is) ?_;simp -dsimp[fH (n:=i) (by omega)];exact K ((X k).length-(i+1)) _ _ (by omega) ⟨i+1,by omega,by simp,a9.le_trans b (a9.le_trans m.le o.le)⟩
  ·simp -dsimp[fH (n:=k) (by omega)]
   exact M (n-(k+1)) _ _ (by omega) ⟨k+1,by omega,by simp,b⟩
 ·exact G _ l.own.le
theorem PO(S:uQ C E Mk v)(hx:aJ h0 1 x (fx n λj=>[xs j]) W)(fs:FD E h0 h v5 n xs X ys F gs)(hn:n <= 100000000)(hl:∀j,j<n->(X j).length <= 4611686018427380000 /\ ((X j).length+64)*E.bytes <= 140737488355328)
  (l:∀j,j<n->gs j=ys j) (mX:∀j,j<n->ky Mk h0 j 0 (X j)) (H:∀j i c,j<n->i<(X j).length->(F j)[i]?=some c->Mk h0 (j:Int) (i:Int) c) (I:∀j,j<n->(X j).length <= (F j).length) (hq:∀h',h0.le h'->Q (.bool true) h'):aB (aH.ic E C Q x v5) [.int .i64 0] h:=by
 refine aB.intro (λt vs J=>∃(k:Nat)(ys gs:Nat->a7)(F:Nat->List (List a7)),k+t=n /\ vs=[.int .i64 k] /\ FD E h0 J v5 n xs X ys F gs /\ (∀j,j<n->gs j=ys j) /\ (∀j i c,j<n->i<(X j).length->(F j)[i]?=some c->Mk h0 (j:Int) (i:Int) c) /\ ∀j,j<n->(X j).length <= (F j).length) n ?_
  ⟨0,ys,gs,F,by simp,by simp,fs,l,H,I⟩
 rintro Y t vs h ⟨k,ys,gs,F,ht,rfl,fs,l,H,I⟩ hY;have m:=hx.mono fs.own.le;simp -dsimp[oP m];refine B.bF (λhb=>?_) (λhb=>?_)<;>simp -dsimp at hb ⊢
 ·have w:=hl k hb
  have h64:64*E.bytes <= 140737488355328:=Nat.le_trans (Nat.mul_le_mul_right _ (by omega)) w.2;refine⟨S.pos,(aG.start h).eO (es:=E.es) S.mJ (by omega) (by omega) (by omega) (by omega) λy h1 u=>?_⟩;simp only[nil_append]at u;refine aB.intro (λt vs J=>∃(i:Nat)(q:a9)(M:List (List a7)),i+t=64 /\ vs=[.int .i64 i] /\ h.le q /\ M.length=i /\ ∃R,aG q J [.sl E.es y (M++(fx 64 λ_=>E.z).drop i) R]) 64 ?_ ⟨0,h,[],by simp,by simp,a9.le_refl h,rfl,_,by simpa using u⟩;rintro Z t' vs J ⟨i,q,M,hi,rfl,d,G,R,r⟩ hZ;simp -dsimp;refine B.bF (λp=>?_) (λp=>?_)<;>simp -dsimp at p ⊢
  ·have e1:IntKind.i64.wrap ((k:Int)+n)=((k+n:Nat):Int):=by rw[wrap_i64 (by omega) (by omega)];omega
   have f:=m.mono (a9.le_trans d r.le);have a:i<(fx 64 λ_=>E.z).length:=by simp;omega
   have N:i<(M++(fx 64 λ_=>E.z).drop i).length:=by simp;omega
   simp -dsimp only[oP f,B.aK,V.fP,e1];refine S.call _ _ _ _ λc2 h2 l2 o2 L=>?_;obtain⟨O,q1,q2,g,hat⟩:=r.y7 o2;simp -dsimp only[(g.aP 0 rfl).dF N,B.aK];have D:(M++(fx 64 λ_=>E.z).drop i)[i]?=some (fx 64 λ_=>E.z)[i]:=by
    rw[getElem?_append_right (by omega),G,Nat.sub_self,getElem?_drop];simp[a]
   refine S.st (g.aP 0 rfl) (g.lg 0 rfl) D (L h2 o2.is) λU K T P=>?_;have s:(M++(fx 64 λ_=>E.z).drop i).set i c2=(M++[c2])++(fx 64 λ_=>E.z).drop (i+1):=by
    rw[set_append_right _ _ (by omega),G,Nat.sub_self,drop_eq_getElem_cons a,set_cons_zero,append_assoc];rfl
   rw[s]at K;simp -dsimp[fH (n:=i) (by omega)];exact hZ (64-(i+1)) _ _ (by omega) ⟨i+1,O,M++[c2],by omega,by simp,a9.le_trans d q1,by simp[G],R,g.jB 0 rfl (o':= .sl E.es y _ R) K T P (.inl rfl)⟩
  ·have a:i=64:=by omega
   have hd:(fx 64 λ_=>E.z).drop 64=[]:=drop_of_length_le (by simp);rw[a,hd,append_nil]at r;have fh:=fs.grow (a9.le_trans d r.le);have hold:=fh.ji k hb;have f:=m.mono (a9.le_trans d r.le);simp -dsimp[iK f hb,j0 f hb];refine hold.at_.yO (λid b e1 e2=>?_) (r.aP 0 rfl) S.pos (by rw[G,a];exact w.2) (by simp[maxLen,G,a];omega) λy' h2 U K T P h7=>?_
   ·rcases hold.ft with e|⟨e,_⟩
    ·rw[e]at e1;cases e1
    ·rw[e]at e1;exact fh.own.lg k (cS.lq hb) id b e1 e2
   ·have f2:FD E h0 h2 v5 n xs X (dU ys k y') (dU F k (X k++M)) gs:=fh.jB hb U K (λj b e1 e2=>T j b e1 λe3=>by
      rcases hold.ft with e|⟨e,_⟩
      ·rw[e]at e3;cases e3
      ·rw[e]at e3;exact e2 e3) (by
      rcases P with e|e
      ·rcases hold.ft with e'|⟨e',_⟩
       ·exact .inr λid A=>by rw[e,e']at A;cases A
       ·exact .inl (e.trans e')
      ·exact .inr e) (h7 _ _ (Old.refl hold.at_))
    simp -dsimp[iK f2.lB hb];refine f2.store hb U.aI λh8 f3=>?_;simp -dsimp[fH (n:=k) (by omega)];refine hY (n-(k+1)) _ _ (by omega) ⟨k+1,_,_,_,by omega,by simp,f3,λj o=>?_,λj i c o hi p=>?_,λj o=>?_⟩
    ·by_cases e:j=k
     ·subst e;rw[gR,gR]
     ·rw[jy _ _ e,jy _ _ e];exact l j o
    ·by_cases e:j=k
     ·subst e
      rw[gR,getElem?_append_left hi]at p;have:=mX j hb i c p
      rwa [Nat.zero_add]at this
     ·rw[jy _ _ e]at p;exact H j i c o hi p
    ·by_cases e:j=k
     ·subst e;rw[gR];simp
     ·rw[jy _ _ e];exact I j o
 ·exact PN S hx fs hn (λj o=>(hl j o).1) l mX H I hq
theorem PQ(S:uQ C E Mk v)(hx:aJ h0 1 x (fx n λj=>[xs j]) W)(fs:FD E h0 h v5 n xs X ys F gs)(N:n <= 100000000)(I:∀j,j<n->(X j).length <= 4611686018427380000 /\ ((X j).length+64)*E.bytes <= 140737488355328)
  (p:∀j,j<n->gs j=ys j) (G:∀j,j<n->ky Mk h0 j 0 (X j)) (H:∀j,j<n->ky Mk h0 j 0 (F j)) (A:∀j,j<n->(F j).length=(X j).length+64) (M:∀h',h0.le h'->Q (.bool true) h'):aB (aH.ib E C Q x v5) [.int .i64 0] h:=by
 refine aB.intro (λt vs J=>∃k:Nat,k+t=n /\ vs=[.int .i64 k] /\ h.le J) n ?_ ⟨0,by simp,by simp,a9.le_refl h⟩;rintro Y t vs J ⟨k,ht,rfl,hle⟩ R;have r:=fs.grow hle;have l:=hx.mono r.own.le;simp -dsimp[oP l];refine B.bF (λhb=>?_) (λhb=>?_)<;>simp -dsimp at hb ⊢
 ·refine aB.intro (λt vs h2=>∃i:Nat,i+t=(X k).length+64 /\ vs=[.int .i64 i] /\ h.le h2) ((X k).length+64) ?_ ⟨0,by simp,by simp,hle⟩
  rintro Z t' vs h3 ⟨i,hi,rfl,a⟩ K;have f3:=fs.grow a;have l:=hx.mono f3.own.le;have hold:=(f3.ji k hb).at_;have O:=(I k hb).1;have o:=hold.aE;have e:=f3.rY hb;have m:=e.aE;rw[A k hb]at m;have e3:=j0 f3.lB hb;rw[p k hb]at e3;simp -dsimp[iK f3.lB hb,e3,m];refine B.bF (λq=>?_) (λq=>?_)
  ·have q:i<(X k).length+64:=by simp at q;omega
   have P:=A k hb;obtain⟨c2,f⟩:=dI (L:=F k) (k:=i) (by omega);have m2:=H k hb i c2 f;rw[Nat.zero_add]at m2;have e2:V.aM E.es (ys k) (.int .i64 (i:Int))=some (aV E.es (ys k) i 0):=e.dF (by omega);simp -dsimp only[iK f3.lB hb,e3,e2,B.aK,B.fw];refine S.ld e f ?_;refine S.call _ _ _ _ λc4 U l4 s z=>?_;have f4:=f3.grow s.le;have b:=hx.mono f4.own.le;refine Bd (yA f3.lB f4.lB hb) (S.qd e (f4.rY hb) f) ?_;refine S.eq (S.mono f4.own.le m2) (z U s.is) ?_;by_cases u:i<(X k).length
   ·obtain⟨c1,g⟩:=dI (L:=X k) (k:=i) u
    have m1:=G k hb i c1 g;rw[Nat.zero_add]at m1;have d:=(f4.ji k hb).at_;have e1:V.aM E.es (xs k) (.int .i64 (i:Int))=some (aV E.es (xs k) i 0):=hold.dF u;simp -dsimp[iK b hb,j0 b hb,o,u,e1];refine S.ld d g ?_;refine S.call _ _ _ _ λc5 T l5 w y=>?_;have f5:=f4.grow w.le;refine Bd (yA b (hx.mono f5.own.le) hb) (S.qd d ((f5.ji k hb).at_) g) ?_;simp -dsimp;refine S.eq (S.mono f5.own.le m1) (y T w.is) ?_;simp -dsimp[fH (n:=i) (by omega)];exact K ((X k).length+64-(i+1)) _ _ (by omega) ⟨i+1,by omega,by simp,a9.le_trans a (a9.le_trans s.le w.le)⟩
   ·simp -dsimp[iK b hb,j0 b hb,o,u]
    simp -dsimp[fH (n:=i) (by omega)];exact K ((X k).length+64-(i+1)) _ _ (by omega) ⟨i+1,by omega,by simp,a9.le_trans a s.le⟩
  ·simp -dsimp[fH (n:=k) (by omega)]
   exact R (n-(k+1)) _ _ (by omega) ⟨k+1,by omega,by simp,a⟩
 ·exact PO S (hx:=hx) (fs:=r) N I p G (λj i c D hi q=>by have:=H j D i c q;rwa [Nat.zero_add]at this) (λj D=>by rw[A j D];omega) M
theorem PR(S:uQ C E Mk v)(hx:aJ h0 1 x (fx n λj=>[xs j]) W)(fs:FD E h0 h v5 n xs X xs X gs)(hn:n <= 100000000)(R:∀j,j<n->(X j).length <= 4611686018427380000 /\ ((X j).length+64)*E.bytes <= 140737488355328)
  (O:∀j,j<n->ky Mk h0 j 0 (X j)) (hq:∀h',h0.le h'->Q (.bool true) h'):aB (aH.gu E C Q x v5) [.int .i64 0] h:=by
 refine aB.intro (λt vs z=>∃(k:Nat)(a:a9)(ys gs:Nat->a7)(F:Nat->List (List a7)),k+t=n /\ vs=[.int .i64 k] /\ h0.le a /\ FD E a z v5 n xs X ys F gs /\ (∀j,j<k->gs j=ys j /\ ky Mk a j 0 (F j) /\ (F j).length=(X j).length+64) /\ ∀j,k <= j->ys j=xs j /\ F j=X j) n ?_
  ⟨0,h0,_,gs,_,by simp,by simp,a9.le_refl h0,fs,by simp,λj _=>⟨rfl,rfl⟩⟩
 rintro Y t vs h ⟨k,a,ys,gs,F,ht,rfl,c,fs,f,s⟩ hY;have m:=hx.mono c;have o:=m.mono fs.own.le;simp -dsimp[oP o];refine B.bF (λhb=>?_) (λhb=>?_)<;>simp -dsimp at hb ⊢
 ·have hk:=s k (Nat.le_refl k)
  have J:=R k hb;simp -dsimp[iK o hb,j0 o hb];refine aB.intro (λt vs z=>∃(i:Nat)(y:a7)(d:a9)(M:List (List a7)),i+t=64 /\ vs=[y,.int .i64 i] /\ a.le d /\ M.length=i /\ ky Mk d k (X k).length M /\ FD E d z v5 n xs X (dU ys k y) (dU F k (X k++M)) gs) 64 ?_ ⟨0,xs k,a,[],by simp,by simp,a9.le_refl a,rfl,ky.nil _ _ _ _,?_⟩
  ·rintro Z t' vs z ⟨i,y,d,M,hi,rfl,b,w,P,f1⟩ hZ
   have q:=(m.mono b).mono f1.own.le;have hold:=(f1.ji k hb).at_;have I:=hold.aE;have U:dU ys k y k=y:=gR ..;simp -dsimp;refine B.bF (λT=>?_) (λT=>?_)<;>simp -dsimp at T ⊢
   ·have e1:IntKind.i64.wrap (((X k).length:Int)+i)=(((X k).length+i:Nat):Int):=by rw[wrap_i64 (by omega) (by omega)];omega
    simp -dsimp only[iK q hb,j0 q hb,I,B.aK,B.fw,V.fP,e1];refine S.call _ _ _ _ λc2 h2 l2 o2 G=>?_;obtain⟨u,N,q2,f2,L⟩:=f1.y7 o2;have H:=G u L;rw[S.new H];have hbound:((X k).length+i+1)*E.bytes <= 140737488355328:=Nat.le_trans (Nat.mul_le_mul_right _ (by omega)) J.2;have:=f2.push S hb (cs:=c2) (S.len H) (by rw[gR,length_append,w];exact hbound) (by rw[gR,length_append,w];simp[maxLen];omega) (K:=λA h=>B.pv (V.bin .add (.int .i64 (i:Int)) (.int .i64 1)) λD=>Z [A,D] h) λy' h3 f3=>?_
    ·rw[U]at this;exact this
    ·simp -dsimp[fH (n:=i) (by omega)]
     refine hZ (64-(i+1)) _ _ (by omega) ⟨i+1,y',u,M++[c2],by omega,by simp,a9.le_trans b N,by simp[w],(P.mono S N).snoc (by rw[w];exact H),?_⟩;rw[uy,uy,gR,append_assoc]at f3;exact f3
   ·have r:i=64:=by omega
    subst r;simp -dsimp[iK f1.lB hb];have p:=(f1.rY hb).aI;rw[U]at p;refine f1.store hb p λh2 f2=>?_;simp -dsimp[fH (n:=k) (by omega)];have l:=a9.le_trans c b;refine hY (n-(k+1)) _ _ (by omega) ⟨k+1,d,_,_,_,by omega,by simp,l,f2,λj g=>?_,λj g=>?_⟩
    ·by_cases e:j=k
     ·subst e;rw[gR,gR,gR]
      refine⟨rfl,?_,by rw[length_append,w]⟩;refine((O j hb).mono S l).append ?_;rw[Nat.zero_add];exact P
     ·rw[jy _ _ e,jy _ _ e,jy _ _ e]
      have:=f j (by omega);exact⟨this.1,this.2.1.mono S b,this.2.2⟩
    ·rw[jy _ _ (by omega),jy _ _ (by omega)];exact s j (by omega)
  ·have e1:dU ys k (xs k)=ys:=by rw[<-hk.1,si]
   have e2:dU F k (X k++[])=F:=by rw[append_nil,<-hk.2,si]
   rw[e1,e2];exact fs
 ·have:k=n:=by omega
  subst this;exact PQ S m fs hn R (λj g=>(f j g).1) (λj g=>(O j g).mono S c) (λj g=>(f j g).2.1) (λj g=>(f j g).2.2) λh' hle=>hq h' (a9.le_trans c hle)
theorem Gf(S:uQ C E Mk v){D R:Nat->List (List a7)}(hx:aJ h0 1 x (fx n λj=>[xs j]) W)(F:aG h0 h (cS E.es n xs D R))(hn:n <= 100000000)(hl:∀j,j<n->(D j).length <= 4611686018427380000 /\ ((D j).length+64)*E.bytes <= 140737488355328)
  (hq:∀h',h0.le h'->Q (.bool true) h'):aH E C x h Q:=by
 refine aB.intro (λt vs L=>∃(k:Nat)(b:a9)(G:Nat->List (List a7)),k+t=n /\ vs=[.int .i64 k] /\ h0.le b /\ aG b L (cS E.es n xs G R) /\ (∀j,j<k->ky Mk b j 0 (G j) /\ (G j).length=(D j).length) /\ ∀j,k <= j->G j=D j) n ?_
  ⟨0,h0,D,by simp,by simp,a9.le_refl h0,F,by simp,λj _=>rfl⟩
 rintro Y t vs h ⟨k,b,G,ht,rfl,m,F,r,I⟩ hY;have q:=hx.mono m;have w:=q.mono F.le;simp -dsimp[oP w];refine B.bF (λhb=>?_) (λhb=>?_)<;>simp -dsimp at hb ⊢
 ·have hlk:=(hl k hb).1
  have V:=I k (Nat.le_refl k);refine aB.intro (λt vs L=>∃(i:Nat)(o:a9)(M:List (List a7)),i+t=(D k).length /\ vs=[.int .i64 i] /\ b.le o /\ M.length=i /\ ky Mk o k 0 M /\ aG o L (cS E.es n xs (dU G k (M++(D k).drop i)) R)) (D k).length ?_ ⟨0,b,[],by simp,by simp,a9.le_refl b,rfl,ky.nil _ _ _ _,?_⟩
  ·rintro Z t' vs L ⟨i,o,M,hi,rfl,d,O,mM,a⟩ hZ
   have f:=(q.mono d).mono a.le;have u:=a.aP k (cS.get hb);rw[gR]at u;have H:=u.aE;have T:(M++(D k).drop i).length=(D k).length:=by simp;omega
   rw[T]at H;simp -dsimp[iK f hb,j0 f hb,H];refine B.bF (λN=>?_) (λN=>?_)<;>simp -dsimp at N ⊢
   ·have P:i<(M++(D k).drop i).length:=by omega
    simp -dsimp only[iK f hb,j0 f hb,B.aK,B.fw];refine S.call _ _ _ _ λc2 h2 l2 o2 s=>Bf (yA f (f.mono o2.le) hb) ?_;obtain⟨K,q1,q2,g,X⟩:=a.y7 o2;have l:=g.aP k (cS.get hb);rw[gR]at l;simp -dsimp only[l.dF P,B.aK];have J:(M++(D k).drop i)[i]?=some (D k)[i]:=by
     rw[getElem?_append_right (by omega),O,Nat.sub_self,getElem?_drop];simp[N]
    refine S.st l (g.lg k (cS.get hb)) J (s h2 o2.is) λh3 h4 h5 h6=>?_;have A:(M++(D k).drop i).set i c2=(M++[c2])++(D k).drop (i+1):=by
     rw[set_append_right _ _ (by omega),O,Nat.sub_self,drop_eq_getElem_cons N,set_cons_zero,append_assoc];rfl
    rw[A]at h4;have h7:=g.jB k (cS.get hb) (o':= .sl E.es (xs k) _ (R k)) h4 h5 h6 (.inl rfl);rw[cS.set,si,si,uy]at h7;simp -dsimp[fH (n:=i) (by omega)];exact hZ ((D k).length-(i+1)) _ _ (by omega) ⟨i+1,K,M++[c2],by omega,by simp,a9.le_trans d q1,by simp[O],(mM.mono S q1).snoc (by rw[Nat.zero_add,O];exact s K X),h7⟩
   ·have U:i=(D k).length:=by omega
    rw[U,drop_length,append_nil]at a;simp -dsimp[fH (n:=k) (by omega)];refine hY (n-(k+1)) _ _ (by omega) ⟨k+1,o,_,by omega,by simp,a9.le_trans m d,a,λj p=>?_,λj p=>?_⟩
    ·by_cases e:j=k
     ·subst e;rw[gR];exact⟨mM,by omega⟩
     ·rw[jy _ _ e]
      have:=r j (by omega);exact⟨this.1.mono S d,this.2⟩
    ·rw[jy _ _ (by omega)];exact I j (by omega)
  ·simp only[nil_append,drop_zero]
   rw[<-V,si];exact F
 ·have:k=n:=by omega
  subst this;simp -dsimp only[oP w,B.aK];refine⟨Nat.one_pos,?_⟩;refine F.eO (bytes:=24) (es:=1) (n:=k) (c:=k) (z:=[.aA]) rfl (by omega) (by omega) (by omega) (by omega) λy h1 a=>?_;have e1:((k:Int)).toNat=k:=by simp
  rw[e1,Nat.sub_self,CM]at a;have g:=a.yU;exact PR S q ⟨g,λj p=>Old.refl (g.aP j (cS.lq p))⟩ hn (λj p=>by rw[(r j p).2];exact hl j p) (λj p=>(r j p).1) λh' hle=>hq h' (a9.le_trans m hle)
end
variable{C:aC}{N:zN}
end Go.Ab
namespace Go.Ab
open List
variable{C:aC}{N:zN}
theorem Iv{es bytes f g:Nat}{z:List a7}{m:Int->Int->List a7}(n:0<es)(hm:∀k i,(m k i).length=es)(p:z.length=es)(hb:bytes <= 1000)(s1:∀(k i:Int)(h:a9)(Q:zQ),Q (.agg (m k i)) h->C f [.int .i64 k,.int .i64 i] h Q)
  (s2:∀(k i:Int)(h:a9)(Q:zQ),Q (.bool true) h->C g [.agg (m k i),.agg (m k i)] h Q):
  uE C (pZ C es bytes z f g) m (λk i=> .agg (m k i)) where
 pos:=n
 small:=hb
 len _ _:=hm _ _
 mJ:=p
 new k i:=by
  have d:bG 1 z=z:=by unfold bG;split<;>simp
  have h1:=hm k i;show bN [(0,some es,a7.agg (m k i))] (bG 1 z)=_;rw[d];simp[h1,p]
 call:=s1
 ld a b hk:=by
  simp only[pZ,B.iL]at a ⊢;rw[a.elem b];exact hk
 qd a b:=⟨_,a.elem b⟩
 st {h x L R i c k j K} a l b hk:=by
  refine a.gp l b (hm _ _) (by simp[pZ]) ?_;have o:=a.len c (mem_append_left _ (mem_of_getElem? b));have e:c.take 0++m k j++c.drop (0+es)=m k j:=by
   have:c.length=es:=o;simp[this]
  rw[e];exact hk
 eq hk:=s2 _ _ _ _ hk
theorem cW.eq_iff(t u:cW):t=u↔(((((t.kE=u.kE /\ t.Id=u.Id) /\ t.Day=u.Day) /\ t.Code=u.Code) /\ t.State=u.State) /\ t.bJ=u.bJ) /\ t.Uses=u.Uses:=by
 cases t;cases u;simp only[cW.mk.injEq,and_assoc]
def ov.Spec(C:aC)(N:zN):Prop:=∀(t u:cW)(x y z w:a7)(h:a9)(Q:zQ),kP h t x y->kP h u z w->t.bJ.length<4611686018427387904->t.Uses.length<4611686018427387904->Q (.bool (decide (t=u))) h->C (N 42) [.agg (t.cs x y),.agg (u.cs z w)] h Q
theorem ov.spec(i:ov.aD C N)(s1:ow.Spec C N)(s2:pE.Spec C N):ov.Spec C N:=by
 intro t u x y z w h Q b hu h1 c a;obtain⟨⟨R1,j⟩,⟨l,f⟩⟩:=b;obtain⟨⟨R2,g⟩,⟨k,d⟩⟩:=hu;apply i;simp +contextual -dsimp[yE];refine B.gG (λ_ _ a=>s1 x z _ _ _ _ _ _ j g h1 a) ?_;simp +contextual -dsimp;refine B.gG (λ_ _ a=>s2 y w _ _ _ _ _ _ f d c a) ?_;simp +contextual -dsimp;have e:decide (t=u)=(decide (t.kE=u.kE)&&decide (t.Id=u.Id)&&decide (t.Day=u.Day)&&decide (t.Code=u.Code)&&decide (t.State=u.State)&&decide (t.bJ=u.bJ)&&decide (t.Uses=u.Uses)):=by
  rw[Bool.eq_iff_iff];simp[cW.eq_iff]
 rw[e]at a;exact aR a
def qF.Spec(C:aC)(N:zN):Prop:=∀(t:cW)(x y:a7)(h:a9)(Q:zQ),kP h t x y->t.bJ.length <= 100000000->t.Uses.length <= 100000000->(∀b a h',aG h h' [.sl 6 b (t.bJ.map bZ.cs) uv,.sl 3 a (t.Uses.map fA.cs) yi]->Q (.agg (t.cs b a)) h')->C (N 27) [.agg (t.cs x y)] h Q
theorem qF.spec(i:qF.aD C N)(s1:ox.Spec C N)(s2:pG.Spec C N):qF.Spec C N:=by
 intro t x y h Q f h1 j g;obtain⟨⟨R1,l⟩,⟨n,k⟩⟩:=f;apply i;simp +contextual -dsimp;refine s1 x _ _ _ _ l h1 λe m a=>?_;have c:=(a.aP 0 rfl).aI;simp +contextual -dsimp[c];refine s2 y _ _ _ _ (k.mono a.le) j λd hb ob=>?_;have b:=(ob.aP 0 rfl).aI;simp +contextual -dsimp[b];exact aR (g e d hb (a.join ob))
structure wm(h:a9)(t:cW)(x y:a7):Prop where
 iU:aJ h 6 x (t.bJ.map bZ.cs) uv
 sK:aJ h 3 y (t.Uses.map fA.cs) yi
theorem wm.at_{h:a9}{t:cW}{x y:a7}(a:wm h t x y):kP h t x y:=⟨⟨_,a.iU⟩,⟨_,a.sK⟩⟩
theorem wm.mono{h H:a9}{t:cW}{x y:a7}(a:wm h t x y)(hle:h.le H):wm H t x y:=⟨a.iU.mono hle,a.sK.mono hle⟩
def qH.Spec(C:aC)(N:zN):Prop:=∀(t u:cW)(x y z w:a7)(h:a9)(Q:zQ),wm h t x y->kP h u z w->t.bJ.length <= 100000000->t.Uses.length <= 100000000->Q (.bool (decide (t=u))) h->C (N 30) [.agg (t.cs x y),.agg (u.cs z w)] h Q
theorem qH.spec(i:qH.aD C N)(d:ov.Spec C N)(s1:mq.Spec C N)(s2:nb.Spec C N):qH.Spec C N:=by
 intro t u x y z w h Q c hu h1 f a;have b:=hu;obtain⟨⟨R2,j⟩,⟨k,g⟩⟩:=hu;apply i;simp +contextual -dsimp;refine d t u x y z w _ _ c.at_ b (by omega) (by omega) ?_;simp +contextual -dsimp;refine B.gG (λ_ _ a=>s1 x z _ _ _ _ _ c.iU j h1 a) ?_;simp +contextual -dsimp;refine B.gG (λ_ _ a=>s2 y w _ _ _ _ _ c.sK g f a) ?_;simp +contextual -dsimp;have e:decide (t=u)=(decide (t=u)&&decide (t.bJ=u.bJ)&&decide (t.Uses=u.Uses)):=by
  rw[Bool.eq_iff_iff];simp[cW.eq_iff]
  intros;simp_all
 rw[e]at a;exact aR a
def qD.Spec(C:aC)(N:zN):Prop:=∀(t:cW)(x y:a7)(h0 h:a9)(Q:zQ),aG h0 h [.sl 6 x (t.bJ.map bZ.cs) uv,.sl 3 y (t.Uses.map fA.cs) yi]->t.bJ.length <= 100000000->t.Uses.length <= 100000000->(∀h',h0.le h'->Q (.bI []) h')->C (N 31) [.agg (t.cs x y)] h Q
theorem qD.spec(i:qD.aD C N)(s1:pF.Spec C N)(s2:qC.Spec C N):qD.Spec C N:=by
 intro t x y h0 h Q f h1 g e;apply i;obtain⟨d,c⟩:=(f.perm (List.Perm.swap ..)).out (l1:=[_]) (l2:=[_]);simp +contextual -dsimp;refine s1 _ _ x _ _ _ c (by simp) (by simpa using h1) λk b=>?_;simp +contextual -dsimp;refine s2 _ _ y _ _ _ (d.grow b) (by simp) (by simpa using g) λj a=>?_;exact aR (e _ a)
def xh(k i:Int):cW:=⟨0,mark k i,0,[],0,[],[]⟩
def qB.Spec(C:aC)(N:zN):Prop:=∀(k i:Int)(h:a9)(Q:zQ),Q (.agg ((xh k i).cs .aA .aA)) h->C (N 114) [.int .i64 k,.int .i64 i] h Q
theorem qB.spec(i:qB.aD C N)(s1:lL.Spec C N):qB.Spec C N:=by
 intro k j h Q a;apply i;simp +contextual -dsimp;refine s1 _ _ _ _ ?_;simp +contextual -dsimp;exact aR a
theorem eV.spec(i:eV.aD C N)(s1:qB.Spec C N)(s2:ov.Spec C N):jm C 7 (N 93):=λt h0 h Q a c b=>i t.x h Q (vW (Iv (m:=λk i=>(xh k i).cs .aA .aA) (bytes:=96) (by omega) (λ_ _=>rfl) rfl (by omega) s1 (λk i h Q b=>s2 (xh k i) (xh k i) _ _ _ _ _ _ ⟨⟨_,aJ.aA h 6⟩,⟨_,aJ.aA h 3⟩⟩ ⟨⟨_,aJ.aA h 6⟩,⟨_,aJ.aA h 3⟩⟩ (by simp[xh]) (by simp[xh]) (by simpa using b))) a.is c a.nn a.nL λh' hle=>aR (b h' hle))
end Go.Ab
namespace Go.Ab
open List
variable{C:aC}{N:zN}
abbrev uK(v:a7):List a7:=[v]
def jA(h a:a9)(id:Nat)(B:Nat->List a7):Prop:=∃xs:Nat->a7,aG h a (cS 1 23 xs (λi=>(B i).map uK) (λ_=>[])++[.box (.ptr id 0 0) (fill 23 xs)])
theorem aG.OH{h0 h:a9}{l:List Ob}(d:aG h0 h l)(es n:Nat):aG h0 h (cS es n (λ_=> .aA) (λ_=>[]) (λ_=>[])++l):=by
 have mem:∀o∈cS es n (λ_=>a7.aA) (λ_=>[]) (λ_=>[]),o= .sl es .aA [] []:=λo hm=>by
  obtain⟨j,_,rfl⟩:=mem_map.1 hm;rfl
 refine⟨d.le,λo hm=>?_,λo hm=>?_,pairwise_append.2 ⟨?_,d.apart,λa f b _ id c=>by rw[mem a f]at c;cases c⟩⟩
 ·rcases mem_append.1 hm with hm|hm
  ·rw[mem o hm];exact aJ.aA h es
  ·exact d.is o hm
 ·rcases mem_append.1 hm with hm|hm
  ·intro id c;rw[mem o hm]at c;cases c
  ·exact d.own o hm
 ·rw[pairwise_iff_forall_sublist]
  intro a b e id c;rw[mem a (e.subset (by simp))]at c;cases c
theorem jA.start{h:a9}{id:Nat}(a:h id=none):jA h (bQ h id (cG (fill 23 λ_=> .aA))) id λ_=>[]:=by
 refine⟨λ_=> .aA,?_⟩;have:=((aG.start h).ni a (fill 23 λ_=> .aA)).OH 1 23;simpa using this
def DY(k:Nat)(v0 v1:a7)(h:a9)(Q:zQ):Prop:=B.nilCheck v0 λv6=>B.pv (V.fieldAddr k v6) λd=>B.ld h d λc=>B.bL h (bN [(0,none,v1)] (bG 1 [.aA])) λi10 h=>B.bO h 1 24 c (.sl i10 0 0 1 1 1) λv11 h=>B.nilCheck v0 λb=>B.pv (V.fieldAddr k b) λa=>B.st h a v11 λh=>Q (.bI []) h
theorem uW{k:Nat}(hk:k<23){h f:a9}{id:Nat}{B:Nat->List a7}{y:a7}{Q:zQ}(hb:jA h f id B)(n:y.aI=true)(r:(B k).length <= 100000000)(o:∀h',jA h h' id (dU B k (B k++[y]))->Q (.bI []) h'):DY k (.ptr id 0 0) y f Q:=by
 obtain⟨xs,j⟩:=hb;obtain⟨m,e,g⟩:=j.fE 23 cS.sR;cases e;have e1:A.bX f (.ptr id 0 k)=some (xs k):=by rw[e9 g,A5 _ hk]
 have c:bG 1 [a7.aA]=[a7.aA]:=rfl;simp -dsimp[DY,e1,c,n];refine j.push k (cS.lq hk) rfl (by omega) (by simp;omega) (by simp[maxLen];omega) λl h1 b _=>?_;rw[cS.DX hk,Ae]at b;have d:=(b.aP k (cS.lq hk)).aI;rw[gR]at d;simp -dsimp;refine b.jW 23 cS.sR d (by simpa using hk) λp a _=>?_;rw[cS.DW,Oi]at a;refine o p ⟨dU xs k l,?_⟩;have q:dU (λi=>(B i).map uK) k ((B k).map uK++[[y]])=λi=>(dU B k (B k++[y]) i).map uK:=by
  funext i;unfold dU;split
  ·rename_i e;subst e;simp
  ·rfl
 rw[q]at a;exact a
section
variable{h0 h:a9}{id:Nat}{B:Nat->List a7}{D R:Nat->Nat->List (List a7)}{xs:Nat->a7}{Q:zQ}
end
end Go.Ab
namespace Go.Ab
open List
variable{C:aC}{N:zN}
def jQ(C:aC)(k g:Nat):Prop:=∀(h a:a9)(id:Nat)(B:Nat->List a7)(y:a7)(Q:zQ),jA h a id B->y.aI=true->(B k).length <= 100000000->(∀h',jA h h' id (dU B k (B k++[y]))->Q (.bI []) h')->C g [.ptr id 0 0,y] a Q
@[simp] def oQ.k1(C:aC)(g i:Nat)(Q:zQ)(Y1:zL)(v0 d v4:a7)(h:a9):Prop:=B.pv (V.aE v0) λe=>B.pv (V.bin .lss v4 e) λv10=>B.cond v10 (B.pv (V.aM 1 v0 v4) λb=>B.ld h b λa=>B.call C g [d,a] h λf h=>B.pv (V.bin .add v4 (.int .i64 1)) λc=>Y1 [c] h) (B.call C i [d] h λv20 h=>Q v20 h)
@[simp] def oQ.l2(C:aC)(b c:Nat)(Q:zQ)(v0 a:a7):zG|[v4],h,Y1=>oQ.k1 C b c Q Y1 v0 a v4 h|_,_,_=>False
def oQ(C:aC)(a b:Nat)(v0:a7)(h:a9)(Q:zQ):Prop:=B.pv (A.cD [] [.aA,.aA,.aA,.aA,.aA,.aA,.aA,.aA,.aA,.aA,.aA,.aA,.aA,.aA,.aA,.aA,.aA,.aA,.aA,.aA,.aA,.aA,.aA]) λv5=>B.bL h (A.kZ 23 v5) λi6 h=>aB (oQ.l2 C a b Q v0 (.ptr i6 0 0)) [(.int .i64 0)] h
theorem jA.le{h a:a9}{id:Nat}{B:Nat->List a7}(hb:jA h a id B):h.le a:=by obtain⟨_,b⟩:=hb;exact b.le
@[simp] theorem QY{es:Nat}{xs:Nat->a7}{D R:Nat->List (List a7)}:cS es 0 xs D R=[]:=rfl
theorem ua.spec(i:ua.aD C N):jQ C 4 (N 63):=λh e id B y Q hb b d c=>i _ _ e Q (uW (k:=4) (by omega) hb b d λh' a=>aR (c h' a))
theorem ud.spec(i:ud.aD C N):jQ C 6 (N 130):=λh e id B y Q hb b d c=>i _ _ e Q (uW (k:=6) (by omega) hb b d λh' a=>aR (c h' a))
theorem uc.spec(i:uc.aD C N):jQ C 8 (N 131):=λh e id B y Q hb b d c=>i _ _ e Q (uW (k:=8) (by omega) hb b d λh' a=>aR (c h' a))
end Go.Ab
namespace Go.Ab
open List
variable{C:aC}{N:zN}
structure LL.za(mh:Nat)(t:LL)(h0:a9):Prop where
 is:aJ h0 1 t.x (fx t.n λj=>[t.xs j]) t.W
 nn:t.n <= 100000000
 nL:∀j,j<t.n->(t.D j).length <= mh
def oD(C:aC)(es mh g:Nat):Prop:=∀(t:LL)(h0 h:a9)(Q:zQ),t.za mh h0->aG h0 h (t.gy es)->(∀h',h0.le h'->Q (.bool true) h')->C g [t.x] h Q
theorem Qk{T Ad:Type}[DecidableEq T](K:DK T Ad){f g:Nat}{mk:Int->Int->T}(s:∀k i,K.ok (mk k i))(s1:wH K mk C f)(s2:wG K C g):
  uQ C (pZ C K.n K.bytes K.z f g) (λh k i c=>∃a,c=K.cells (mk k i) a /\ K.at_ h (mk k i) a) a7.agg where
 pos:=K.pos
 mJ:=K.mJ
 len:=by rintro h k i c ⟨a,rfl,_⟩;exact K.len _ a
 mono:=by rintro h h' k i c hle ⟨a,rfl,m⟩;exact⟨a,rfl,K.mono hle m⟩
 new:=by rintro h k i c ⟨a,rfl,_⟩;exact vf K _ a
 call k i h Q u:=s1 k i h Q λa h' o=>u _ h' _ o λh1 m=>⟨a,rfl,K.mG (s k i) m⟩
 ld l r hk:=by
  simp only[pZ,B.iL]at l ⊢;rw[l.elem r];exact hk
 qd l d r:=⟨_,l.elem r,d.elem r⟩
 st:=by
  rintro h x L R i c c0 k j Q l p q ⟨a,rfl,m⟩ hk;have d:aJ h K.n x L R:=l;refine d.gp p q (K.len _ a) (by simp) ?_;have t:c0.length=K.n:=d.len c0 (mem_append_left _ (mem_of_getElem? q));have e:c0.take 0++K.cells (mk k j) a++c0.drop (0+K.n)=K.cells (mk k j) a:=by simp[t]
  rw[e];exact hk
 eq:=by
  rintro h k i c c' Q ⟨a,rfl,m⟩ ⟨b,rfl,hb⟩ hk;refine s2 _ _ _ _ _ _ m hb ?_;rw[decide_eq_true rfl];exact hk
theorem Ql{f:Nat}(s1:∀(k i:Int)(h:a9)(Q:zQ),Q (.int .u8 ((nF k i).toNat:Int)) h->C f [.int .i64 k,.int .i64 i] h Q):uQ C (dH 1 (.int .u8 0) f) (λ_ k i c=>c=bc (nF k i)) (λc=>c.headD .aA) where
 pos:=Nat.one_pos
 mJ:=rfl
 len:=by rintro h k i c rfl;rfl
 mono:=λ_ h=>h
 new:=by
  rintro h k i c rfl;show bN [(0,none,a7.int .u8 ((nF k i).toNat:Int))] (bG 1 [.int .u8 0])=some [a7.int .u8 ((nF k i).toNat:Int)];simp[bG]
 call k i h Q n:=s1 k i h Q (n (bc (nF k i)) h [] (aG.start h) λ_ _=>rfl)
 ld {h x L R i c K} d e hk:=by
  have a:aJ h 1 x L R:=d;have b:c.length=1:=a.len c (mem_append_left _ (mem_of_getElem? e));obtain⟨u,rfl⟩:=length_eq_one_iff.1 b;simp only[dH,B.fw]at d ⊢;rw[a.cell e];exact hk
 qd {h h' x L R i c} d m e:=by
  have a:aJ h 1 x L R:=d;have b:c.length=1:=a.len c (mem_append_left _ (mem_of_getElem? e));obtain⟨u,rfl⟩:=length_eq_one_iff.1 b;exact⟨_,a.cell e,aJ.cell m e⟩
 st:=by
  rintro h x L R i c c0 k j Q d g l rfl hk;have a:aJ h 1 x L R:=d;have b:c0.length=1:=a.len c0 (mem_append_left _ (mem_of_getElem? l));obtain⟨u,rfl⟩:=length_eq_one_iff.1 b;exact a.st g l (by omega) rfl hk
 eq:=by
  rintro h k i c c' Q rfl rfl hk;show B.pv (V.bin .eql (a7.int .u8 ((nF k i).toNat:Int)) (a7.int .u8 ((nF k i).toNat:Int))) λv=>Q v h;simp only[V.tF,decide_true,B.aK];exact hk
theorem kh.sT(i:kh.aD C N)(s1:na.Spec C N):oD C 1 140737488351232 (N 84):=λt h0 h Q a c b=>
 i t.x h Q (Gf (Ql s1) a.is c a.nn (λj d=>by have:=a.nL j d;exact⟨by omega,by simp[dH];omega⟩) λh' hle=>aR (b h' hle))
theorem Gb{T Ad:Type}[DecidableEq T](K:DK T Ad){f g:Nat}{mk:Int->Int->T}(b:∀k i,K.ok (mk k i))(s1:wH K mk C f)(s2:wG K C g)(t:LL){h0 h:a9}{Q:zQ}(a:t.za 100000000 h0)(d:aG h0 h (t.gy K.n))(c:∀h',h0.le h'->Q (.bool true) h'):
  aH (pZ C K.n K.bytes K.z f g) C t.x h Q:=by
 refine Gf (Qk K b s1 s2) a.is d a.nn (λj e=>?_) c;have:=a.nL j e;have l:=Nat.mul_le_mul (show (t.D j).length+64 <= 100000064 by omega) K.small;exact⟨by omega,by show ((t.D j).length+64)*K.bytes <= _;omega⟩
theorem ff.spec(i:ff.aD C N)(s1:n9.Spec C N)(s2:nB.Spec C N):oD C 2 100000000 (N 95):=λt h0 h Q a c b=>i t.x h Q (Gb aQ CI s1 s2 t a c λh' hle=>aR (b h' hle))
structure js where
 es:Nat->Nat
 mh:Nat->Nat
 full:Nat->Bool
abbrev LK:=List (a7×List (List a7))
def jK(es:Nat)(q:a7×List (List a7)):Ob:= .sl es q.1 q.2 []
def LK.ll(l:LK)(x:a7):LL:=⟨x,l.length,λj=>(l.getD j (.aA,[])).1,λj=>(l.getD j (.aA,[])).2,λ_=>[],[]⟩
theorem LK.gy(l:LK)(x:a7)(es:Nat):(l.ll x).gy es=l.map (jK es):=by
 apply ext_getElem?;intro j;unfold LL.gy LK.ll;by_cases a:j<l.length
 ·rw[cS.get a,getElem?_map,getElem?_eq_getElem a]
  simp[jK,a]
 ·rw[getElem?_eq_none (by simp;omega),getElem?_eq_none (by simp;omega)]
theorem LK.fx(l:LK):fx l.length (λj=>[(l.getD j (.aA,[])).1])=l.map λq=>[q.1]:=by
 apply ext_getElem?;intro j;by_cases a:j<l.length
 ·rw[xg _ a,getElem?_map,getElem?_eq_getElem a];simp[a]
 ·rw[getElem?_eq_none (by simp;omega),getElem?_eq_none (by simp;omega)]
def je(C:aC)(b:js)(i g:Nat):Prop:=(b.full i=true->oD C (b.es i) (b.mh i) g) /\ (b.full i=false->cH C g)
structure B7(b:js)(h0:a9)(id:Nat)(L:Nat->LK)(xs:Nat->a7):Prop where
 box:h0 id=some (cG (fill 23 xs))
 is:∀i,i<23->aJ h0 1 (xs i) ((L i).map λq=>[q.1]) []
 none:∀i,i<23->b.full i=false->L i=[]
 nn:∀i,i<23->(L i).length <= 100000000
 nL:∀i,i<23->∀q∈L i,q.2.length <= b.mh i
def iu(b:js)(L:Nat->LK)(i n:Nat):List Ob:=(List.range' i n).flatMap λi=>(L i).map (jK (b.es i))
theorem yb(b:js)(L:Nat->LK)(i n:Nat):iu b L i (n+1)=(L i).map (jK (b.es i))++iu b L (i+1) n:=by
 simp[iu,range'_succ]
section
variable{b:js}{h0 h:a9}{id:Nat}{L:Nat->LK}{xs:Nat->a7}{Q:zQ}
theorem B7.ld(hb:B7 b h0 id L xs)(hle:h0.le h){i:Nat}(hi:i<23):A.bX h (.ptr id 0 i)=some (xs i):=by
 rw[e9 (hle _ _ hb.box),A5 _ hi]
theorem kq{g:Nat}(i:Nat)(s:je C b i g)(hb:B7 b h0 id L xs)(n:Nat)(hi:i<23)(a:aG h0 h (iu b L i (n+1)))(l:∀h',aG h0 h' (iu b L (i+1) n)->Q (.bool true) h'):C g [xs i] h Q:=by
 rw[yb]at a;cases f:b.full i with
 | true=>
  obtain⟨d,k⟩:=(a.perm perm_append_comm).out;have hx:=(hb.is i hi).mono d.le;rw[<-LK.fx]at hx;rw[<-LK.gy (L i) (xs i)]at d k;refine s.1 f ((L i).ll (xs i)) _ h Q ⟨by rw[<-LK.gy (L i) (xs i)]at hx;exact hx,hb.nn i hi,λj m=>?_⟩ k λh' hle=>l h' (d.grow hle);have c:j<(L i).length:=m;show ((L i).getD j (.aA,[])).2.length <= _;rw[getD_eq_getElem?_getD,getElem?_eq_getElem c];exact hb.nL i hi _ (getElem_mem c)
 | false=>
  have e:=hb.none i hi f;have hx:=hb.is i hi;rw[e]at hx a;simp only[map_nil,nil_append]at hx a;exact s.2 f (xs i) [] h h Q (hx.mono a.le) (a9.le_refl h) λh' hle=>l h' (a.grow hle)
end
def oU(C:aC)(b:js)(g:Nat):Prop:=∀(id:Nat)(L:Nat->LK)(xs:Nat->a7)(h0 h:a9)(Q:zQ),B7 b h0 id L xs->aG h0 h (iu b L 0 23)->(∀h',h0.le h'->Q (.bool true) h')->C g [.ptr id 0 0] h Q
theorem CN(i:mo.aD C N)(b:js)(f0:je C b 0 (N 80))(f1:je C b 1 (N 81))(f2:je C b 2 (N 82))(f3:je C b 3 (N 83))(f4:je C b 4 (N 84))(f5:je C b 5 (N 85))(f6:je C b 6 (N 86))(f7:je C b 7 (N 87))(f8:je C b 8 (N 88))
  (f9:je C b 9 (N 89)) (f10:je C b 10 (N 90)) (f11:je C b 11 (N 91)) (f12:je C b 12 (N 92)) (f13:je C b 13 (N 93)) (f14:je C b 14 (N 94)) (f15:je C b 15 (N 95)) (f16:je C b 16 (N 96)) (f17:je C b 17 (N 97)) (f18:je C b 18 (N 98)) (f19:je C b 19 (N 99))
  (f20:je C b 20 (N 100)) (f21:je C b 21 (N 101)) (f22:je C b 22 (N 102)):oU C b (N 62):=by
 intro id L xs h0 h Q hb a c;apply i;simp -dsimp[hb.ld a.le (i:=0) (by omega)];refine kq 0 f0 hb 22 (by omega) a λh a=>?_;simp -dsimp[hb.ld a.le (i:=1) (by omega)];refine kq 1 f1 hb 21 (by omega) a λh a=>?_;simp -dsimp[hb.ld a.le (i:=2) (by omega)];refine kq 2 f2 hb 20 (by omega) a λh a=>?_;simp -dsimp[hb.ld a.le (i:=3) (by omega)];refine kq 3 f3 hb 19 (by omega) a λh a=>?_;simp -dsimp[hb.ld a.le (i:=4) (by omega)];refine kq 4 f4 hb 18 (by omega) a λh a=>?_;simp -dsimp[hb.ld a.le (i:=5) (by omega)];refine kq 5 f5 hb 17 (by omega) a λh a=>?_;simp -dsimp[hb.ld a.le (i:=6) (by omega)];refine kq 6 f6 hb 16 (by omega) a λh a=>?_;simp -dsimp[hb.ld a.le (i:=7) (by omega)];refine kq 7 f7 hb 15 (by omega) a λh a=>?_;simp -dsimp[hb.ld a.le (i:=8) (by omega)];refine kq 8 f8 hb 14 (by omega) a λh a=>?_;simp -dsimp[hb.ld a.le (i:=9) (by omega)];refine kq 9 f9 hb 13 (by omega) a λh a=>?_;simp -dsimp[hb.ld a.le (i:=10) (by omega)];refine kq 10 f10 hb 12 (by omega) a λh a=>?_;simp -dsimp[hb.ld a.le (i:=11) (by omega)];refine kq 11 f11 hb 11 (by omega) a λh a=>?_;simp -dsimp[hb.ld a.le (i:=12) (by omega)];refine kq 12 f12 hb 10 (by omega) a λh a=>?_;simp -dsimp[hb.ld a.le (i:=13) (by omega)];refine kq 13 f13 hb 9 (by omega) a λh a=>?_;simp -dsimp[hb.ld a.le (i:=14) (by omega)];refine kq 14 f14 hb 8 (by omega) a λh a=>?_;simp -dsimp[hb.ld a.le (i:=15) (by omega)];refine kq 15 f15 hb 7 (by omega) a λh a=>?_;simp -dsimp[hb.ld a.le (i:=16) (by omega)];refine kq 16 f16 hb 6 (by omega) a λh a=>?_;simp -dsimp[hb.ld a.le (i:=17) (by omega)];refine kq 17 f17 hb 5 (by omega) a λh a=>?_;simp -dsimp[hb.ld a.le (i:=18) (by omega)];refine kq 18 f18 hb 4 (by omega) a λh a=>?_;simp -dsimp[hb.ld a.le (i:=19) (by omega)];refine kq 19 f19 hb 3 (by omega) a λh a=>?_;simp -dsimp[hb.ld a.le (i:=20) (by omega)];refine kq 20 f20 hb 2 (by omega) a λh a=>?_;simp -dsimp[hb.ld a.le (i:=21) (by omega)]
 refine kq 21 f21 hb 1 (by omega) a λh a=>?_;simp -dsimp[hb.ld a.le (i:=22) (by omega)];refine kq 22 f22 hb 0 (by omega) a λh a=>?_
 try simp -dsimp
 exact aR (c _ a.le)
variable{C:aC}{N:zN}
def po.Spec(C:aC)(N:zN):Prop:=∀(n:Nat)(h:a9)(Q:zQ),n <= 100000000->(∀x h' R,aG h h' [.sl 1 x [] R]->Q x h')->C (N 444) [.aA,.int .i64 (n:Int)] h Q
theorem po.spec(i:po.aD C N):po.Spec C N:=by
 intro n h Q l d;apply i;have e0:V.bin .lss (.int .i64 (n:Int)) (.int .i64 0)=some (.bool (decide (n<0))):=gH (b:=0);have e1:V.bin .sub (.int .i64 0) (.int .i64 0)=some (.int .i64 0):=rfl;have j:V.bin .sub (.int .i64 (n:Int)) (.int .i64 0)=some (.int .i64 (n:Int)):=DP (b:=0) (by omega) (by omega);simp -dsimp only[po.aY,vR.aY,vR.k1,e0,e1,j,V.vI,V.aE,V.D7,B.aK,Nat.not_lt_zero,decide_false,B.cond_false];refine B.bF (λhb=>?_) (λhb=>?_)
 ·have hb:0<n:=by simpa using hb
  have e3:V.dS (dH 1 (.int .u8 0) 0).es .aA none (some (.int .i64 0))=some .aA:=rfl;have f:V.vI .aA=some (.int .i64 0):=rfl;have el:V.aE .aA=some (.int .i64 0):=rfl;simp -dsimp only[f,e3,B.aK];refine⟨⟨rfl,by omega,by simp[dH];omega,by simp[maxLen];omega⟩,λid a=>?_⟩;have e:bG (n:Int).toNat (dH 1 (.int .u8 0) 0).z=List.replicate n (.int .u8 0):=by rw[Int.toNat_natCast];exact GS n _
  rw[e];have o:=(aG.start h).gU (id:=id) (n:=n) (cp:=n) (es:=1) (cs:=List.replicate n (.int .u8 0)) (L:=List.replicate n [.int .u8 0]) (R:=[]) a (by simp) (by simp) (by simp) (by simp);obtain⟨y,e4,g⟩:=aG.PS (x:= .sl id 0 0 n 1 n) o Nat.one_pos (k:=0) (by omega);rw[Int.toNat_natCast];simp -dsimp only[el,B.aK];have c:V.dS (dH 1 (.int .u8 0) 0).es (.sl id 0 0 n (dH 1 (.int .u8 0) 0).es n) none (some (.int .i64 0))=some y:=e4;simp -dsimp only[c,B.aK];exact aR (d y _ _ g)
 ·exact aR (d _ _ _ ((aG.start h).aA 1))
def ie.Spec(C:aC)(N:zN):Prop:=∀(x:a7)(xs:List a7)(L:List (List UInt8))(R:List (List a7))(h:a9)(Q:zQ),aJ h 1 x (xs.map λy=>[y]) R->xs.length=L.length->(∀(i:Nat)(y:a7)(l:List UInt8),xs[i]?=some y->L[i]?=some l->∃R,aJ h 1 y (l.map bc) R)->L.length <= 1000->L.flatten.length <= 100000000->(∀a h' R',aG h h' [.sl 1 a (L.flatten.map bc) R']->Q a h')->C (N 439) [x] h Q
theorem ie.spec(i:ie.aD C N)(s1:po.Spec C N):ie.Spec C N:=by
 intro x xs L R h Q hx g l A j w;apply i;have hlen:=hx.aE;rw[length_map,g]at hlen;simp -dsimp only[ie.aY,hlen,B.aK];have cell:∀{c:a9}(hle:h.le c){k:Nat}(hk:k<L.length){K:a7->Prop},(∀y R2,aJ c 1 y (L[k].map bc) R2->K y)->B.pv (V.aM 1 x (.int .i64 (k:Int))) (λv=>B.ld c v K):=λ{c} hle {k} hk {K} G=>by
  have D:(xs.map λy=>[y])[k]?=some [xs[k]'(by omega)]:=by rw[getElem?_map,getElem?_eq_getElem (by omega)];rfl
  have e:V.aM 1 x (.int .i64 (k:Int))=some (aV 1 x k 0):=hx.dF (by simp;omega);rw[e,B.aK];rw[B.fw,(hx.mono hle).cell D,B.aK];obtain⟨R2,f⟩:=l k _ _ (getElem?_eq_getElem (by omega)) (getElem?_eq_getElem hk);exact G _ _ (f.mono hle)
 refine aB.intro (λt vs c=>c=h /\ ∃k:Nat,k+t=L.length /\ vs=[.int .i64 ((L.take k).flatten.length:Int),.int .i64 (k:Int)]) L.length ?_ ⟨rfl,0,by omega,rfl⟩;rintro Y t vs c ⟨rfl,k,I,rfl⟩ F;simp -dsimp only[ie.l4,ie.k3,gH,B.aK];refine B.bF (λhb=>?_) (λhb=>?_)
 ·rw[decide_eq_true_eq]at hb
  have m:=Cz hb;have hle:=CQ L (k+1);refine cell (a9.le_refl _) hb λy R2 s=>?_;have e1:=s.aE;rw[length_map]at e1;have H:V.bin .lss (.int .i64 (((L.take k).flatten.length+L[k].length:Nat):Int)) (.int .i64 0)=some (.bool false):=by
   exact(gH (b:=0)).trans (by simp)
  simp -dsimp only[e1,sI (a:=(L.take k).flatten.length) (b:=L[k].length) (by omega),H,B.aK,B.cond_false,eG (show k<4611686018427387904 by omega)];exact F (t-1) _ _ (by omega) ⟨rfl,k+1,by omega,by rw[m]⟩
 ·rw[decide_eq_false_iff_not]at hb
  have hk:k=L.length:=by omega
  subst hk;rw[take_length];refine s1 _ _ _ j λn h1 R1 q=>?_;simp -dsimp only[hlen,B.aK];refine aB.intro (λt vs f=>∃(k:Nat)(y:a7)(R2:List (List a7)),k+t=L.length /\ vs=[y,.int .i64 (k:Int)] /\ aG c f [.sl 1 y ((L.take k).flatten.map bc) R2]) L.length ?_ ⟨0,n,R1,by omega,rfl,q⟩;rintro Z t2 vs f ⟨k,y,R2,u,rfl,o2⟩ E;simp -dsimp only[ie.l2,ie.k1,gH,B.aK];refine B.bF (λd=>?_) (λd=>?_)
  ·rw[decide_eq_true_eq]at d
   have m:=Cz d;have hle:=CQ L (k+1);refine cell o2.le d λz R3 r=>?_;refine o2.bO 0 rfl r Nat.one_pos (by simp only[length_map];omega) (by simp only[length_map,maxLen];omega) λo h' p _=>?_;simp -dsimp only[eG (show k<4611686018427387904 by omega),B.aK];refine E (t2-1) _ _ (by omega) ⟨k+1,o,[],by omega,rfl,?_⟩;rw[take_add_one,getElem?_eq_getElem d,Option.toList_some,flatten_append,flatten_singleton,map_append];exact p
  ·rw[decide_eq_false_iff_not]at d
   have hk:k=L.length:=by omega
   subst hk;rw[take_length]at o2;exact aR (w _ _ _ o2)
def ke(h:a9):List a7->List (List UInt8)->Prop|[],[]=>True|y::ys,l::ls=>(∃R,aJ h 1 y (l.map bc) R) /\ ke h ys ls|_,_=>False
theorem ke.mono{h h':a9}(hle:h.le h'):∀{ys:List a7}{ls:List (List UInt8)},ke h ys ls->ke h' ys ls|[],[],_=>trivial|_::_,_::_,⟨⟨R,a⟩,b⟩=>⟨⟨R,a.mono hle⟩,ke.mono hle b⟩
theorem ke.len{h:a9}:∀{ys:List a7}{ls:List (List UInt8)},ke h ys ls->ys.length=ls.length|[],[],_=>rfl|_::_,_::_,⟨_,b⟩=>congrArg (· + 1) (ke.len b)
theorem ke.get{h:a9}:∀{ys:List a7}{ls:List (List UInt8)},ke h ys ls->∀(i:Nat)(y:a7)(l:List UInt8),ys[i]?=some y->ls[i]?=some l->∃R,aJ h 1 y (l.map bc) R
 | [],[],_,i,y,l,h1,_=>by simp at h1
 | _::_,_::_,⟨a,b⟩,0,y,l,h1,c=>by cases h1;cases c;exact a
 | _::_,_::_,⟨a,b⟩,i+1,y,l,h1,c=>ke.get b i y l h1 c
theorem ke.snoc{h:a9}{y:a7}{l:List UInt8}(c:∃R,aJ h 1 y (l.map bc) R):∀{ys:List a7}{ls:List (List UInt8)},ke h ys ls->ke h (ys++[y]) (ls++[l])|[],[],_=>⟨c,trivial⟩|_::_,_::_,⟨a,b⟩=>⟨a,ke.snoc c b⟩
theorem aG.cutAt{h0 h:a9}{l:List Ob}(a:aG h0 h l)(k:Nat){es:Nat}{x:a7}{L R:List (List a7)}(hk:l[k]?=some (.sl es x L R)):aG h0 h (l.set k (.sl es x L [])):=a.jB k hk (o':= .sl es x L []) (aJ.cut (a.aP k hk)) (λid b c hb=>a.lg k hk id b c hb) (λ_ _ h _=>h) (.inl rfl)
def lZ.Spec(C:aC)(N:zN):Prop:=∀(x:a7)(xs:List a7)(L:List (List UInt8))(R:List (List a7))(h:a9)(Q:zQ),aJ h 1 x (xs.map λy=>[y]) R->ke h xs L->L.length <= 1000->L.flatten.length <= 100000000->(∀a h',aG h h' [gw false a L.flatten]->Q a h')->C (N 424) [x] h Q
theorem lZ.spec(i:lZ.aD C N)(s1:ie.Spec C N):lZ.Spec C N:=by
 intro x xs L R h Q hx a h1 d c;apply i;simp -dsimp only[lZ.aY];exact s1 x xs L R h _ hx a.len a.get h1 d λb h' R' o=>aR (c b h' (o.cutAt 0 rfl))
abbrev jg(p out:a7)(P:List (Row×(a7×a7))):List Ob:= .box p [out]:: .sl 2 out (P.map aQ.cs) []::aQ.os false P
def nd.Spec(C:aC)(N:zN):Prop:=∀(h0 h:a9)(p out k:a7)(P:List (Row×(a7×a7)))(key:List UInt8)(x:a7)(xs:List a7)(L:List (List UInt8))(R:List (List a7))(Q:zQ),aG h0 h (jg p out P++[gw false k key])->aJ h 1 x (xs.map λy=>[y]) R->ke h xs L->L.length <= 1000->L.flatten.length <= 100000000->P.length <= 1000000->(∀out' v h',aG h0 h' (jg p out' (P++[(⟨key,L.flatten⟩,(k,v))]))->Q (.bI []) h')->C (N 425) [k,x,p] h Q
theorem nd.spec(i:nd.aD C N)(s1:lZ.Spec C N):nd.Spec C N:=by
 intro h0 h p out k P key x xs L R Q a hx n h1 r u m;apply i;obtain⟨id,rfl,hb⟩:=a.fE 0 rfl;have hk:k.aI=true:=((a.is (gw false k key) (by simp)):(gw false k key).at h).aI;simp -dsimp[e9 hb];refine s1 x xs L R h _ hx n h1 r λv q f=>?_;have c:=a.join f;obtain⟨j,e,b⟩:=c.fE 0 rfl;cases e;have l:v.aI=true:=((f.is (gw false v L.flatten) (by simp)):(gw false v L.flatten).at q).aI;refine Bf ⟨out,by simp[e9 hb],by simp[e9 b]⟩ ?_;simp -dsimp[hk,l];refine c.push 1 rfl rfl (by omega) (by simp;omega) (by simp[maxLen];omega) λout' t d _=>?_;have s:out'.aI=true:=(d.aP 1 rfl).aI;refine d.jW 0 rfl s (by simp) λo g _=>?_;refine aR (m out' v o ?_);unfold jg;rw[DK.um,DK.v7,map_append];simpa[aQ]using g
variable{C:aC}{N:zN}
theorem aG.lay{h0 h:a9}{l l':List Ob}(c:aG h0 h (l++l')):∃hb:a9,h0.le hb /\ hb.le h /\ aG hb h l /\ rq hb l':=by
 obtain⟨b,a⟩:=(c.perm perm_append_comm).out;exact⟨_,b.le,a.le,a,b.is⟩
theorem CR:∀ys:List a7,(ys.map λy=>[y]).flatten=ys
 | []=>rfl
 | y::r=>by rw[map_cons,flatten_cons,CR r];rfl
theorem gN{hb d h1:a9}{l:List Ob}{x:a7}{M:List UInt8}{xs:List a7}{L:List (List UInt8)}(g:aG hb d l)(f:ke hb xs L)(e:aG d h1 [.sl 1 x (M.map bc) []]):
  ∃c:a9,hb.le c /\ aG c h1 l /\ ke c (xs++[x]) (L++[M]):=by
 obtain⟨b,m1,m2,o,a⟩:=(g.join e).lay;exact⟨b,m1,o,(f.mono m1).snoc ⟨[],a (.sl 1 x (M.map bc) []) (by simp)⟩⟩
theorem lK{h:a9}{s:List UInt8}{cs:List a7}(n:Nat){K:Nat->a9->Prop}(c:cs=s.map λb=> .int .u8 (b.toNat:Int))(d:n=s.length)(hk:∀id h',aG h h' [.sl 1 (.sl id 0 0 n 1 n) (s.map bc) []]->K id h'):
  B.bL h (some cs) K:=λid a=>by
 refine hk _ _ ?_
 exact(aG.start h).gU (L:=s.map bc) (R:=[]) a (by simp) (by simpa using d) (by simp;omega) (by rw[append_nil,AR,c])
theorem ux{h0 h:a9}{x:a7}{s:List UInt8}{K:a7->Prop}(c:aG h0 h [.sl 1 x (s.map bc) []])(a:s≠[])(hk:K x):B.conv h x K:=by
 have hx:=c.aP 0 rfl;rcases hx.at_ with⟨e,_⟩|⟨id,g,off,cp,b,hi,h1,fl,d,f,l,j,k⟩
 ·exact absurd (map_eq_nil_iff.1 e) a
 ·subst h1
  have:=c.lg 0 rfl id b rfl d;have i:0<s.length:=length_pos_iff.2 a;simp only[B.conv,A.conv,d,f,this,Option.isSome_some];refine⟨?_,hk⟩;simp;omega
theorem DM{hb d:a9}{l:List Ob}{v:a7}{xs ys:List a7}{m:Nat}{K:zQ}(e:aG hb d (l++[.sl 1 v (xs.map λy=>[y]) []]))(hm:m=ys.length)(j:xs.length+ys.length <= 1000)
  (g:∀a h',aG hb h' (l++[.sl 1 a ((xs++ys).map λy=>[y]) []])->K a h'):B.bL d (some ys) λi h=>B.bO h 1 24 v (.sl i 0 0 m 1 m) K:=λid b=>by
 have f:ys=((ys.map λy=>[y])++[]).flatten:=by rw[append_nil,CR]
 refine(e.grow (hU _ b)).bO l.length mB (M:=ys.map λy=>[y]) (R':=[]) (aJ.lit (dR ..) (by simp) (by simpa using hm) (by simp;omega) f) Nat.one_pos (by simp;omega) (by simp[maxLen];omega) λa h' c _=>g a h' ?_
 rw[vD]at c
 rw[map_append];exact c
theorem tK{hb b:a9}{l:List Ob}{ys:List a7}(m:Nat){K:Nat->a9->Prop}(c:aG hb b l)(hm:m=ys.length)
  (e:∀id h',b.le h'->aG hb h' (l++[.sl 1 (.sl id 0 0 m 1 m) (ys.map λy=>[y]) []])->K id h'):B.bL b (some ys) K:=λid a=>by
 have d:ys=((ys.map λy=>[y])++[]).flatten:=by rw[append_nil,CR]
 exact e _ _ (hU _ a) (c.gU a (by simp) (by simpa using hm) (by simp;omega) d)
theorem CJ{t:en}(h:iQ t=true):t.cO.length <= 8 /\ t.dL.length <= 4 /\ (∀p∈t.cO,eu p.Item=true) /\ eu t.Code=true /\ ∀o∈t.dL,eu o=true:=by
 unfold iQ rm at h;simp only[Bool.and_eq_true,all_eq_true,length_cons,decide_eq_true_eq]at h;obtain⟨⟨h1,f,d⟩,a⟩:=h;refine⟨?_,by omega,?_,h1 _ (by simp),λo c=>h1 o (by simp[c])⟩
 ·by_cases e:t.cO=[]
  ·rw[e];simp
  ·rw[decide_eq_false e]at a
   simp only[cond_false,Bool.and_eq_true,decide_eq_true_eq]at a;have:=a.2.2.2.2;unfold yv at this;simpa using this
 ·by_cases e:t.cO=[]
  ·rw[e];simp
  ·rw[decide_eq_false e]at a
   simp only[cond_false,Bool.and_eq_true,all_eq_true]at a;exact λp b=>a.2.2.1 _ (mem_map.2 ⟨p,b,rfl⟩)
theorem A2{T:Type}{ok:T->Bool}{lt:T->T->Bool}:∀{l:List T}{p:Option T},hV ok lt p l=true->∀x∈l,ok x=true
 | [],_,_,x,hx=>by cases hx
 | a::l,p,h,x,hx=>by
  rw[hV]at h
  simp only[Bool.and_eq_true]at h
  rcases mem_cons.1 hx with rfl|hx
  ·exact h.1.1
  ·exact A2 h.2 x hx
variable{C:aC}{N:zN}
theorem DG(s1:iY.Spec C N)(s2:nd.Spec C N){h0 h:a9}{p out k:a7}{P:List (Row×(a7×a7))}{key:List UInt8}{n:Int}{j:Nat}{K:zQ}(i:aG h0 h (jg p out P++[gw false k key]))(l:j <= 8)(m:P.length <= 1000000)
  (o:∀out' v h',aG h0 h' (jg p out' (P++[(⟨key,be n j⟩,(k,v))]))->K (.bI []) h'):
  B.call C (N 423) [.int .i64 n,.int .i64 (j:Int)] h λb h=>B.bL h (bN [(0,none,b)] (bG 1 [.aA])) λi27 h=>B.ks h C (.fn (N 425) [] [p]) [k,.sl i27 0 0 1 1 1] K:=by
 refine s1 n j _ _ l λa h1 e=>?_;have c:=(e.aP 0 rfl).aI;simp -dsimp[c];refine tK 1 (i.join e) rfl (ys:=[a]) λid d hle o2=>?_;generalize a7.sl id 0 0 1 1 1=v at *;simp -dsimp only[B.ym,nil_append,cons_append];have hx:aJ d 1 a ((be n j).map bc) []:=o2.is (.sl 1 a ((be n j).map bc) []) (by simp);have g:aJ d 1 v ([a].map λy=>[y]) []:=o2.is (.sl 1 v ([a].map λy=>[y]) []) (by simp);refine s2 h0 d p out k P key v [a] [be n j] [] _ (o2.sub (by simp)) g ⟨⟨_,hx⟩,trivial⟩ (by simp) (by simp;omega) m λout' w q f=>o out' w q ?_;simpa using f
theorem NA(s1:iY.Spec C N)(s2:nd.Spec C N)(s3:nf.Spec C N)(s4:lZ.Spec C N){h0 h:a9}{s:dV}{p z out:a7}{R:List (List a7)}{P:List (Row×(a7×a7))}{Q:zQ}(hn:aJ h0 8 z (s.cE.map dC.cs) R)(hl:P.length+s.cE.length <= 1000000)(j:aG h0 h (jg p out P))
  (hq:∀out' f h',f.map (·.1)=P.map (·.1)++s.cE.map rh->aG h0 h' (jg p out' f)->Q out' h'):
  aB (cM.l2 C N Q p (.fn (N 425) [] [p]) z (.int .i64 s.cE.length)) [.int .i64 0] h:=by
 refine aB.intro (λn vs Z=>∃(k:Nat)(out:a7)(f:List (Row×(a7×a7))),k+n=s.cE.length /\ vs=[.int .i64 (k:Int)] /\ f.map (·.1)=P.map (·.1)++(s.cE.take k).map rh /\ aG h0 Z (jg p out f)) s.cE.length ?_ ⟨0,out,P,by simp,rfl,by simp,j⟩;rintro Y n vs Z ⟨k,out,f,hk,rfl,c,j⟩ hY;have hPl:=congrArg List.length c;simp only[length_map,length_append,length_take]at hPl;simp -dsimp only[cM.l2,cM.k1,gH,B.aK];refine B.bF (λq=>?_) (λq=>?_)
 ·rw[decide_eq_true_eq]at q
  obtain⟨w,hw⟩:=dI q;have X:k<(s.cE.map dC.cs).length:=by simpa using q
  have e1:V.aM 8 z (.int .i64 (k:Int))=some (aV 8 z k 0):=hn.dF X;have e2:=(hn.mono j.le).elem (get_map hw);have e3:IntKind.u8.wrap w.pe=((dN w.pe).toNat:Int):=mz _;simp -dsimp[e1,e2,e3];refine s1 w.Id 8 _ _ (by omega) λG h1 o1=>?_;obtain⟨b1,m1,W,p1⟩:=gN (xs:=[]) (L:=[]) j trivial o1;simp -dsimp;refine lK 1 (s:=[111]) rfl rfl λi153 h2 o2=>?_;refine ux o2 (by simp) ?_;obtain⟨b2,m2,m,H⟩:=gN W p1 o2;generalize a7.sl i153 0 0 1 1 1=F at *;have c1:=(H.get 0 G _ rfl rfl).elim λ_ r=>r.aI;have c2:=(H.get 1 F _ rfl rfl).elim λ_ r=>r.aI;simp -dsimp[c1,c2];refine tK 2 m rfl (ys:=[F,G]) λi158 h3 o o3=>?_;generalize a7.sl i158 0 0 2 1 2=a3 at *;have p3:=H.mono (a9.le_trans m.le o);refine s4 a3 [F,G] [[111],be w.Id 8] [] _ _ (o3.is (.sl 1 a3 ([F,G].map λy=>[y]) []) (by simp)) ⟨p3.2.1,p3.1,trivial⟩ (by simp) (by simp) λkey h4 o4=>?_;have U:aG b2 h4 (jg p out f++[gw false key ([[111],be w.Id 8].flatten)]):=(o3.join o4).sub ((sublist_append_left _ _).append_right _);refine s3 w.Item _ _ λE h5 o5=>?_;obtain⟨b5,m5,T,p5⟩:=gN (xs:=[]) (L:=[]) U trivial o5;refine s1 w.ek 4 _ _ (by omega) λD h6 o6=>?_;obtain⟨b6,m6,S,p6⟩:=gN T p5 o6;refine s1 w.tR 2 _ _ (by omega) λA h7 o7=>?_;obtain⟨b7,m7,O,p7⟩:=gN S p6 o7;refine s1 (IntKind.i64.wrap (w.Day+1)) 2 _ _ (by omega) λx h8 o8=>?_;obtain⟨b8,m8,M,p8⟩:=gN O p7 o8;refine s3 w.Code _ _ λu h9 o9=>?_;obtain⟨b9,m9,K,p9⟩:=gN M p8 o9;simp -dsimp;refine lK 2 (s:=[dN w.pe,w.State]) rfl rfl λi174 h10 J=>?_;obtain⟨b10,Eh,g,a⟩:=gN K p9 J;generalize a7.sl i174 0 0 2 1 2=d at *;have c5:=(a.get 0 E _ rfl rfl).elim λ_ r=>r.aI;have c6:=(a.get 1 D _ rfl rfl).elim λ_ r=>r.aI;have c7:=(a.get 2 A _ rfl rfl).elim λ_ r=>r.aI;have c8:=(a.get 3 x _ rfl rfl).elim λ_ r=>r.aI;have c9:=(a.get 4 u _ rfl rfl).elim λ_ r=>r.aI;have c10:=(a.get 5 d _ rfl rfl).elim λ_ r=>r.aI;simp -dsimp[c5,c6,c7,c8,c9,c10]
  refine tK 6 g rfl (ys:=[E,D,A,d,x,u]) λi182 h11 i l=>?_;generalize a7.sl i182 0 0 6 1 6=t at *;have b:=a.mono (a9.le_trans g.le i);simp -dsimp only[B.ym,nil_append,cons_append];refine s2 b10 h11 p out key f _ t [E,D,A,d,x,u] [fO w.Item,be w.ek 4,be w.tR 2,[dN w.pe,w.State],be (IntKind.i64.wrap (w.Day+1)) 2,fO w.Code] [] _ (l.sub (sublist_append_left _ _)) (l.is (.sl 1 t ([E,D,A,d,x,u].map λy=>[y]) []) (by simp)) ⟨b.1,b.2.1,b.2.2.1,b.2.2.2.2.2.1,b.2.2.2.1,b.2.2.2.2.1,trivial⟩ (by simp) ?_ (by omega) λout' v h12 I=>?_
  ·have h1:=kl w.Item
   have h2:=kl w.Code;simp;omega
  ·simp -dsimp only[eG (show k<4611686018427387904 by omega),B.aK]
   refine hY (s.cE.length-(k+1)) _ _ (by omega) ⟨k+1,out',_,by omega,rfl,?_,I.back ?_⟩
   ·rw[map_append,c,take_succ hw,map_append,append_assoc]
    have e:be (IntKind.i64.wrap (w.Day+1)) 2=be (w.Day+1) 2:=A7 (by rw[IntKind.wrap_i64];omega) 2 (by omega);simp[rh,AL,e]
   ·exact a9.le_trans m1 (a9.le_trans m2 (a9.le_trans m5 (a9.le_trans m6 (a9.le_trans m7 (a9.le_trans m8 (a9.le_trans m9 Eh))))))
 ·rw[decide_eq_false_iff_not]at q
  have:k=s.cE.length:=by omega
  subst this;rw[take_length]at c;obtain⟨id,rfl,hb⟩:=j.fE 0 rfl;simp -dsimp[e9 hb];exact hq out f Z c j
variable{C:aC}{N:zN}
theorem Oz(s1:iY.Spec C N)(s2:nd.Spec C N)(s3:nf.Spec C N)(s4:lZ.Spec C N){h0 h:a9}{s:dV}{p x y z out:a7}{R R2:List (List a7)}{P:List (Row×(a7×a7))}{Q:zQ}(hy:aJ h0 6 y (s.bJ.map bZ.cs) R)(hn:aJ h0 8 z (s.cE.map dC.cs) R2)
  (hl:P.length+s.bJ.length+s.cE.length <= 1000000) (l:aG h0 h (jg p out P)) (hq:∀out' f h',f.map (·.1)=P.map (·.1)++(s.bJ.map rk++s.cE.map rh)->aG h0 h' (jg p out' f)->Q out' h'):
  aB (cM.l7 C N Q p (.fn (N 425) [] [p]) y (.int .i64 s.bJ.length) (.agg (fp s x y z))) [.int .i64 0] h:=by
 refine aB.intro (λn vs t=>∃(k:Nat)(out:a7)(f:List (Row×(a7×a7))),k+n=s.bJ.length /\ vs=[.int .i64 (k:Int)] /\ f.map (·.1)=P.map (·.1)++(s.bJ.take k).map rk /\ aG h0 t (jg p out f)) s.bJ.length ?_ ⟨0,out,P,by simp,rfl,by simp,l⟩;rintro Y n vs t ⟨k,out,f,hk,rfl,g,l⟩ hY;have hPl:=congrArg List.length g;simp only[length_map,length_append,length_take]at hPl;simp -dsimp only[cM.l7,cM.k6,gH,B.aK];refine B.bF (λH=>?_) (λH=>?_)
 ·rw[decide_eq_true_eq]at H
  obtain⟨w,hw⟩:=dI H;have hkl:k<(s.bJ.map bZ.cs).length:=by simpa using H
  have e1:V.aM 6 y (.int .i64 (k:Int))=some (aV 6 y k 0):=hy.dF hkl;have e2:=(hy.mono l.le).elem (get_map hw)
  have tail:∀(here:a7)(j:a9)(t:a9),h0.le j->aG j t (jg p out f)->ke j [here] [[bif w.rH then 1 else 0]] ->
    cM.k3 C N Q Y p (.fn (N 425) [] [p]) here y (.int .i64 s.bJ.length) (.int .i64 (k:Int)) (.agg (fp s x y z)) (.agg w.cs) t:=by
   intro here j t E l p0;simp -dsimp;refine s1 w.Id 8 _ _ (by omega) λU h1 o1=>?_;obtain⟨b1,m1,ho1,p1⟩:=gN l p0 o1;simp -dsimp;refine lK 1 (s:=[108]) rfl rfl λi153 h2 o2=>?_;refine ux o2 (by simp) ?_;obtain⟨b2,m2,b,J⟩:=gN ho1 p1 o2;generalize a7.sl i153 0 0 1 1 1=T at *;have c1:=(J.get 1 U _ rfl rfl).elim λ_ r=>r.aI;have c2:=(J.get 2 T _ rfl rfl).elim λ_ r=>r.aI;simp -dsimp[c1,c2];refine tK 2 b rfl (ys:=[T,U]) λi158 h3 G A=>?_;generalize a7.sl i158 0 0 2 1 2=a3 at *;have p3:=J.mono (a9.le_trans b.le G);refine s4 a3 [T,U] [[108],be w.Id 8] [] _ _ (A.is (.sl 1 a3 ([T,U].map λy=>[y]) []) (by simp)) ⟨p3.2.2.1,p3.2.1,trivial⟩ (by simp) (by simp) λkey h4 u=>?_;have ho4:aG b2 h4 (jg p out f++[gw false key ([[108],be w.Id 8].flatten)]):=(A.join u).sub ((sublist_append_left _ _).append_right _);refine s3 w.Item _ _ λS h5 o5=>?_;obtain⟨b5,m5,ho5,p5⟩:=gN (xs:=[here]) (L:=[[bif w.rH then 1 else 0]]) ho4 ⟨J.1,trivial⟩ o5;refine s1 w.oe 2 _ _ (by omega) λO h6 o6=>?_;obtain⟨b6,m6,Z,p6⟩:=gN ho5 p5 o6;refine s1 w.oY 2 _ _ (by omega) λM h7 o7=>?_;obtain⟨b7,m7,X,p7⟩:=gN Z p6 o7;refine s1 w.ek 4 _ _ (by omega) λK h8 o8=>?_;obtain⟨b8,m8,F,q⟩:=gN X p7 o8;have c0:=(q.get 0 here _ rfl rfl).elim λ_ r=>r.aI;have c5:=(q.get 1 S _ rfl rfl).elim λ_ r=>r.aI;have c6:=(q.get 2 O _ rfl rfl).elim λ_ r=>r.aI;have c7:=(q.get 3 M _ rfl rfl).elim λ_ r=>r.aI;have c8:=(q.get 4 K _ rfl rfl).elim λ_ r=>r.aI;simp -dsimp[c0,c5,c6,c7,c8];refine tK 5 F rfl (ys:=[S,O,M,K,here]) λi182 h11 m D=>?_;generalize a7.sl i182 0 0 5 1 5=I at *;have d:=q.mono (a9.le_trans F.le m);simp -dsimp only[B.ym,nil_append,cons_append]
   refine s2 b8 h11 p out key f _ I [S,O,M,K,here] [fO w.Item,be w.oe 2,be w.oY 2,be w.ek 4,[bif w.rH then 1 else 0]] [] _ (D.sub (sublist_append_left _ _)) (D.is (.sl 1 I ([S,O,M,K,here].map λy=>[y]) []) (by simp)) ⟨d.2.1,d.2.2.1,d.2.2.2.1,d.2.2.2.2.1,d.1,trivial⟩ (by simp) ?_ (by omega) λout' v h12 W=>?_
   ·have h1:=kl w.Item
    simp;omega
   ·simp -dsimp only[eG (show k<4611686018427387904 by omega),B.aK]
    refine hY (s.bJ.length-(k+1)) _ _ (by omega) ⟨k+1,out',_,by omega,rfl,?_,W.back ?_⟩
    ·rw[map_append,g,take_succ hw,map_append,append_assoc]
     simp[rk,Ba]
    ·exact a9.le_trans E (a9.le_trans m1 (a9.le_trans m2 (a9.le_trans m5 (a9.le_trans m6 (a9.le_trans m7 m8)))))
  simp -dsimp only[cM.k5];simp -dsimp[e1,e2];refine lK 1 (s:=[0]) rfl rfl λi114 h2 o2=>?_;generalize a7.sl i114 0 0 1 1 1=here at *;have b:=l.join o2;refine B.bF (λhb=>?_) (λhb=>?_)
  ·have hx:=b.aP (jg p out f).length mB
   have e5:V.aM 1 here (.int .i64 0)=some (aV 1 here 0 0):=hx.dF (i:=0) (by simp);simp -dsimp only[e5,B.aK];refine b.st (jg p out f).length mB (i:=0) (c:=bc 0) rfl (by omega) rfl λh3 A _=>?_;rw[vD]at A;obtain⟨j,E,_,u,a⟩:=A.lay;refine tail here j h3 E u ⟨⟨[],?_⟩,trivial⟩;rw[hb];exact a _ (mem_singleton_self _)
  ·obtain⟨j,E,_,u,a⟩:=b.lay
   refine tail here j h2 E u ⟨⟨[],?_⟩,trivial⟩;rw[hb];exact a _ (mem_singleton_self _)
 ·rw[decide_eq_false_iff_not]at H
  have:k=s.bJ.length:=by omega
  subst this;rw[take_length]at g;have l3:=hn.aE;rw[length_map]at l3;simp -dsimp[l3];refine NA s1 s2 s3 s4 hn (by omega) l λout' P2 h' e o=>hq out' P2 h' ?_ o;rw[e,g,append_assoc]
theorem V.Hk(a b:List UInt8)(h:a.length+b.length <= 140737488355328):V.bin .add (.str a) (.str b)=some (.str (a++b)):=by
 simp only[V.bin,V.yG];rw[if_neg];simp only[IntKind.max,IntKind.bits,IntKind.signed];simp;omega
theorem HS{T:Type}(f g:T->List UInt8):∀l:List T,(l.flatMap λp=>[f p,g p]).flatten=l.flatMap λp=>f p++g p
 | []=>rfl
 | a::l=>by simp only[flatMap_cons,flatten_append,HS f g l];simp
theorem Pu{T:Type}(f:T->List UInt8)(l:List T):(l.map f).flatten=l.flatMap f:=rfl
abbrev DS(v:a7)(xs:List a7):Ob:= .sl 1 v (xs.map λy=>[y]) []
theorem NB(s1:iY.Spec C N)(s2:nd.Spec C N)(s3:nf.Spec C N)(s4:lZ.Spec C N){h0 h:a9}{s:dV}{p x y z out:a7}{P:List (Row×(a7×a7))}{Q:zQ}(ha:iD h0 s x y z)(hk:∀t∈s.cK,iQ t=true)
  (hl:P.length+s.cK.length+s.bJ.length+s.cE.length <= 1000000) (T:aG h0 h (jg p out P)) (F:∀out' d h',d.map (·.1)=P.map (·.1)++(s.cK.map tE++(s.bJ.map rk++s.cE.map rh))->aG h0 h' (jg p out' d)->Q out' h'):
  aB (cM.sU C N Q p (.fn (N 425) [] [p]) x (.int .i64 s.cK.length) (.agg (fp s x y z))) [.int .i64 0] h:=by
 obtain⟨hi,⟨R,hy⟩,⟨R2,hn⟩,n1,n2,n3⟩:=ha;refine aB.intro (λn vs K=>∃(k:Nat)(out:a7)(d:List (Row×(a7×a7))),k+n=s.cK.length /\ vs=[.int .i64 (k:Int)] /\ d.map (·.1)=P.map (·.1)++(s.cK.take k).map tE /\ aG h0 K (jg p out d)) s.cK.length ?_ ⟨0,out,P,by simp,rfl,by simp,T⟩;rintro Y n vs K ⟨k,out,d,hkn,rfl,i,T⟩ hY;have hPl:=congrArg List.length i;simp only[length_map,length_append,length_take]at hPl;simp -dsimp only[cM.sU,cM.xK,gH,B.aK];refine B.bF (λhc=>?_) (λhc=>?_)
 ·rw[decide_eq_true_eq]at hc
  obtain⟨w,hw⟩:=dI hc;obtain⟨P0,R0,eP0,s0,at0⟩:=hi;obtain⟨a,Z⟩:∃a,P0[k]?=some (w,a):=by
   rw[<-eP0,getElem?_map]at hw;obtain⟨q,h1,h2⟩:=Option.map_eq_some_iff.1 hw;exact⟨q.2,by rw[h1,<-h2]⟩
  have ea:=vz (s0.mono T.le) (λp hp=>bR.mono T.le (at0 p hp)) Z;simp only at ea;obtain⟨f1,f2,f3,f4,f5⟩:=CJ (hk w (mem_of_getElem? hw));obtain⟨⟨Ra,O⟩,⟨Rb,M⟩,_⟩:(∃R,aJ h0 2 a.1 (w.cO.map Part.cs) R) /\ (∃R,aJ h0 1 a.2 (w.dL.map tc) R) /\ w.ok:=at0 _ (mem_of_getElem? Z);have l1:=O.aE;have l2:=M.aE;rw[length_map]at l1 l2;have e1:V.aM 4 x (.int .i64 (k:Int))=some (aV 4 x k 0):=ea.idx;have e2:A.fF K (aV 4 x k 0) 4=some (.agg (bR.cells w a)):=ea.cR;have e3:V.bU 0 4 (.agg (bR.cells w a)) (.agg [.str [],.int .i64 0,.aA,.aA])=some (.agg (bR.cells w a)):=wW bR w a;have u1:IntKind.u8.wrap (w.cO.length:Int)=((dN w.cO.length).toNat:Int):=mz _;have u2:IntKind.u8.wrap (w.dL.length:Int)=((dN w.dL.length).toNat:Int):=mz _;simp -dsimp only[cM.wR,e1,e2,e3,B.iL,B.aK];simp -dsimp[bR,l1,u1];refine s1 w.jY 2 _ _ (by omega) λa1 h1 o1=>?_;obtain⟨b1,m1,ho1,p1⟩:=gN (xs:=[]) (L:=[]) T trivial o1;simp -dsimp;refine lK 1 (s:=[dN w.cO.length]) rfl rfl λi59 h2 o2=>?_;obtain⟨b2,m2,ho2,p2⟩:=gN ho1 p1 o2;generalize a7.sl i59 0 0 1 1 1=a2 at *;have c1:=(p2.get 0 a1 _ rfl rfl).elim λ_ r=>r.aI;have c2:=(p2.get 1 a2 _ rfl rfl).elim λ_ r=>r.aI;simp -dsimp[c1,c2];refine tK 2 ho2 rfl (ys:=[a1,a2]) λi60 h3 hle3 ho3=>?_;generalize a7.sl i60 0 0 2 1 2=v0 at *;have m03:h0.le b2:=a9.le_trans m1 m2;simp -dsimp[bR,l1];have ep3:ke b2 [a1,a2] ([be w.jY 2,[dN w.cO.length]]++(w.cO.take 0).flatMap λp=>[fO p.Item,be p.ek 4]):=p2;refine aB.intro (λt vs K=>∃(j:Nat)(v:a7)(xs:List a7)(b:a9),j+t=w.cO.length /\ vs=[v,.int .i64 (j:Int)] /\ h0.le b /\ aG b K (jg p out d++[DS v xs]) /\ ke b xs ([be w.jY 2,[dN w.cO.length]]++(w.cO.take j).flatMap λp=>[fO p.Item,be p.ek 4])) w.cO.length ?_ ⟨0,v0,[a1,a2],b2,by omega,rfl,m03,ho3,ep3⟩;rintro Y5 t vs h4 ⟨j,v,xs,b,hj,rfl,m4,I,U⟩ hY5;have E:=U.len
  have D:∀j,(([be w.jY 2,[dN w.cO.length]]++(w.cO.take j).flatMap λp=>[fO p.Item,be p.ek 4]):List (List UInt8)).length <= 2+2*j:=λj=>by
   have:∀l:List Part,(l.flatMap λp=>[fO p.Item,be p.ek 4]).length=2*l.length:=λl=>by
    induction l with
    | nil=>rfl
    | cons a l ih=>rw[flatMap_cons,length_append,ih];simp;omega
   rw[length_append,this,length_take];simp;omega
  simp -dsimp only[cM.zd,cM.r5,gH,B.aK];refine B.bF (λhd=>?_) (λhd=>?_)
  ·rw[decide_eq_true_eq]at hd
   obtain⟨q,F⟩:=dI hd;have J:j<(w.cO.map Part.cs).length:=by simpa using hd
   have g1:V.aM 2 a.1 (.int .i64 (j:Int))=some (aV 2 a.1 j 0):=O.dF J;have g2:=(O.mono (a9.le_trans m4 I.le)).elem (get_map F);simp -dsimp[g1,g2];refine s3 q.Item _ _ λS h5 X=>?_;obtain⟨b5,m5,H,p5⟩:=gN I U X;refine s1 q.ek 4 _ _ (by omega) λa6 h6 o6=>?_;obtain⟨b6,m6,G,p6⟩:=gN H p5 o6;have c5:S.aI=true:=(X.aP 0 rfl).aI;have c6:a6.aI=true:=(o6.aP 0 rfl).aI;simp -dsimp[c5,c6];have:=D j;refine DM (ys:=[S,a6]) G rfl (by simp;omega) λv' h7 c=>?_;simp -dsimp only[eG (show j<4611686018427387904 by omega),B.aK];refine hY5 (t-1) _ _ (by omega) ⟨j+1,v',xs++[S,a6],b6,by omega,rfl,a9.le_trans m4 (a9.le_trans m5 m6),c,?_⟩;rw[take_succ F,flatMap_append];simpa using p6
  ·rw[decide_eq_false_iff_not]at hd
   have:j=w.cO.length:=by omega
   subst this;rw[take_length]at U;have hc0:=D w.cO.length;rw[take_length]at hc0;generalize hL:([be w.jY 2,[dN w.cO.length]]++w.cO.flatMap λp=>[fO p.Item,be p.ek 4]:List (List UInt8))=L0 at *;have E:=U.len;simp -dsimp[l2,u2];refine lK 1 (s:=[dN w.dL.length]) rfl rfl λi83 h5 X=>?_;obtain⟨b5,m5,H,p5⟩:=gN I U X;generalize a7.sl i83 0 0 1 1 1=a3 at *;have c3:a3.aI=true:=(X.aP 0 rfl).aI;simp -dsimp[c3];refine DM (ys:=[a3]) H rfl (by simp;omega) λv1 h6 G=>?_;simp -dsimp[l2];refine aB.intro (λt vs K=>∃(j:Nat)(v:a7)(xs:List a7)(b:a9),j+t=w.dL.length /\ vs=[v,.int .i64 (j:Int)] /\ h0.le b /\ aG b K (jg p out d++[DS v xs]) /\ ke b xs (L0++[[dN w.dL.length]]++(w.dL.take j).map fO)) w.dL.length ?_ ⟨0,v1,xs++[a3],b5,by omega,rfl,a9.le_trans m4 m5,G,by simpa using p5⟩;rintro Y6 t2 vs h7 ⟨j,v,xs,b,hj2,rfl,m7,c,p7⟩ hY6;have E:=p7.len;simp only[length_append,length_map,length_take,length_cons,length_nil]at E;simp -dsimp only[cM.ze,cM.k9,gH,B.aK];refine B.bF (λhe=>?_) (λhe=>?_)
   ·rw[decide_eq_true_eq]at he
    obtain⟨q,F⟩:=dI he;have J:j<(w.dL.map tc).length:=by simpa using he
    have g1:V.aM 1 a.2 (.int .i64 (j:Int))=some (aV 1 a.2 j 0):=M.dF J;have g2:A.bX h7 (aV 1 a.2 j 0)=some (.str q):=(M.mono (a9.le_trans m7 c.le)).cell (get_map F);simp -dsimp only[g1,g2,B.fw,B.aK];refine s3 q _ _ λS h8 W=>?_;obtain⟨b8,m8,g,p8⟩:=gN c p7 W;have c5:S.aI=true:=(W.aP 0 rfl).aI;simp -dsimp[c5];refine DM (ys:=[S]) g rfl (by simp;omega) λv' h9 ho9=>?_;simp -dsimp only[eG (show j<4611686018427387904 by omega),B.aK];refine hY6 (t2-1) _ _ (by omega) ⟨j+1,v',xs++[S],b8,by omega,rfl,a9.le_trans m7 m8,ho9,?_⟩;rw[take_succ F,map_append,<-append_assoc];exact p8
   ·rw[decide_eq_false_iff_not]at he
    have:j=w.dL.length:=by omega
    subst this;rw[take_length]at p7;have ef:(L0++[[dN w.dL.length]]++w.dL.map fO).flatten=u6 w:=by
     rw[<-hL];simp only[flatten_append,HS,Pu,u6];simp
    have g1:=ui (f:=λp:Part=>fO p.Item++be p.ek 4) (m:=17) (λp=>by have:=kl p.Item;simp;omega) w.cO;have g2:=ui (f:=fO) (m:=13) kl w.dL;have el:(u6 w).length <= 1000:=by
     unfold u6;simp only[length_append,length_cons,gr];omega
    have fc:(105::w.Code).length <= ep:=by
     have:w.Code.length <= 12:=by
      unfold eu at f4;simp only[Bool.and_eq_true,decide_eq_true_eq]at f4;exact f4.1.2
     unfold ep;simp;omega
    have es:V.bin .add (.str [105]) (.str w.Code)=some (.str (105::w.Code)):=V.Hk [105] w.Code (by unfold ep at fc;simp at fc ⊢;omega);simp -dsimp[es];refine Fc (s:=105::w.Code) fc λkey h8 W=>?_;have g:aG b h8 (jg p out d++[gw false key (105::w.Code)]):=(c.join W).sub ((sublist_append_left _ _).append_right _);have hv8:aJ h8 1 v (xs.map λy=>[y]) []:=(c.join W).is (DS v xs) (by simp);simp -dsimp only[B.ym,nil_append,cons_append];refine s2 b h8 p out key d _ v xs _ [] _ g hv8 (p7.mono g.le) (by simp;omega) (by rw[ef];omega) (by omega) λout' u h9 o9=>?_;simp -dsimp only[eG (show k<4611686018427387904 by omega),B.aK];rw[ef]at o9;refine hY (n-1) _ _ (by omega) ⟨k+1,out',_,by omega,rfl,?_,o9.back m7⟩;rw[map_append,i,take_succ hw,map_append,append_assoc];rfl
 ·rw[decide_eq_false_iff_not]at hc
  have:k=s.cK.length:=by omega
  subst this;rw[take_length]at i;have l2:=hy.aE;rw[length_map]at l2;simp -dsimp[l2];refine Oz s1 s2 s3 s4 hy hn (by omega) T λout' P2 h' e o=>F out' P2 h' ?_ o;rw[e,i,append_assoc]
variable{C:aC}{N:zN}
def cM.Spec(C:aC)(N:zN):Prop:=∀(s:dV)(x y z:a7)(h:a9)(Q:zQ),iD h s x y z->s.cK.length+s.bJ.length+s.cE.length <= 100000->(∀a P h',P.map (·.1)=allRows s->Df aQ h h' a P->Q a h')->C (N 412) [.agg (fp s x y z)] h Q
theorem cM.spec(i:cM.aD C N)(q:gB.Spec C N)(s1:iY.Spec C N)(s2:nd.Spec C N)(m:nf.Spec C N)(l:lZ.Spec C N):cM.Spec C N:=by
 intro s x y z h Q a hlen k;have hx:=a.items.aI;have J:y.aI=true:=a.iU.elim λ_ r=>r.aI;have I:z.aI=true:=a.lines.elim λ_ r=>r.aI;have l1:=a.items.aE;apply i;simp -dsimp;refine q s x y z h _ a ?_;simp -dsimp;refine B.bF (λhb=>?_) (λhb=>?_)
 ·have hb:jz s=false:=by simpa using hb
  refine aR (k .aA [] h (by unfold allRows;rw[hb];rfl) (by simpa[Df,DK.os]using (aG.start h).aA aQ.n))
 ·have hb:jz s=true:=by simpa using hb
  intro i3 d;have c:=((aG.start h).ni d [.aA]).aA 2;generalize bQ h i3 (cG [.aA])=h1 at *;generalize K:a7.ptr i3 0 0=p at *;have c:aG h h1 (jg p .aA []):=c;simp -dsimp;refine lK 4 (s:=[42,100,97,121]) rfl rfl λi22 F o2=>?_;refine ux o2 (by simp) ?_;generalize a7.sl i22 0 0 4 1 4=k1 at *;have D:aG h F (jg p .aA []++[gw false k1 [42,100,97,121]]):=c.join o2;simp -dsimp;refine DG (j:=2) s1 s2 D (by omega) (by simp) λout1 v1 R A=>?_;simp -dsimp;refine lK 5 (s:=[42,108,105,110,101]) rfl rfl λi30 P g=>?_;refine ux g (by simp) ?_;generalize a7.sl i30 0 0 5 1 5=k2 at *;have w:=A.join g;simp -dsimp;refine DG (j:=8) s1 s2 w (by omega) (by simp) λout2 v2 O v=>?_;simp -dsimp;refine lK 4 (s:=[42,108,111,116]) rfl rfl λi38 M f=>?_;refine ux f (by simp) ?_;generalize a7.sl i38 0 0 4 1 4=k3 at *;have u:=v.join f;simp -dsimp;refine DG (j:=8) s1 s2 u (by omega) (by simp) λout3 H L b=>?_;simp -dsimp[l1];have hk:∀t∈s.cK,iQ t=true:=by
   unfold jz w9 at hb;simp only[Bool.and_eq_true]at hb;exact A2 hb.2.1
  refine NB s1 s2 m l a hk (by simp;omega) b λout' G E e o=>aR (k out' G E ?_ (o.sub (sublist_cons_self _ _)));rw[e];unfold allRows;rw[hb];rfl
def hS:dV:=⟨0,0,0,[],[],[]⟩
def oV(x:Row)(s:dV):dV×Bool:=if x.Key=[42,100,97,121] then ({ s with ju:=(aL x.Value 2 ⟨0,false⟩).1 },(aL x.Value 2 ⟨0,false⟩).2.bad) else if x.Key=[42,108,111,116] then ({ s with jo:=(aL x.Value 8 ⟨0,false⟩).1 },(aL x.Value 8 ⟨0,false⟩).2.bad) else if x.Key=[42,108,105,110,101] then ({ s with jl:=(aL x.Value 8 ⟨0,false⟩).1 },(aL x.Value 8 ⟨0,false⟩).2.bad) else if x.Key.head?=some 105 then ({ s with cK:=s.cK++[(mF x.Value (x.Key.drop 1) ⟨0,false⟩).1] },(mF x.Value (x.Key.drop 1) ⟨0,false⟩).2.bad) else if x.Key.head?=some 108 then ({ s with bJ:=s.bJ++[(tD x.Value (aL (x.Key.drop 1) 8 ⟨0,false⟩).1 ⟨0,false⟩).1] },(tD x.Value (aL (x.Key.drop 1) 8 ⟨0,false⟩).1 ⟨0,false⟩).2.bad||(aL (x.Key.drop 1) 8 ⟨0,false⟩).2.bad) else if x.Key.head?=some 111 then ({ s with cE:=s.cE++[(tC x.Value (aL (x.Key.drop 1) 8 ⟨0,false⟩).1 ⟨0,false⟩).1] },(tC x.Value (aL (x.Key.drop 1) 8 ⟨0,false⟩).1 ⟨0,false⟩).2.bad||(aL (x.Key.drop 1) 8 ⟨0,false⟩).2.bad) else (s,true)
def rr(p:Option Row)(x:Row):Bool:=(match p with|some q=>decide (0 <= vK q.Key x.Key)|none=>false)||decide (x.Key=[])
def rI:List Row->Option Row->dV->List Row->Option (dV×List Row)|[],_,s,m=>some (s,m)|x::l,p,s,m=>if rr p x=true then none else if x.Key.head?=some 97 then rI l (some x) s m else if (oV x s).2=true then none else rI l (some x) (oV x s).1 (m++[x])
def DQ:Option (dV×List Row)->dV×Int|some (s,m)=>if allRows s=m /\ m≠[] then (s,0) else (hS,4)|none=>(hS,4)
def jb(l:List Row):dV×Int:=DQ (rI l none hS [])
variable{C:aC}{N:zN}
def qL.Spec(C:aC)(N:zN):Prop:=wG aQ C (N 430)
theorem qL.spec(i:qL.aD C N)(s1:nC.Spec C N):qL.Spec C N:=by
 intro t u a b h Q d hb c;obtain⟨j,g⟩:Bs h a.1 t.Key /\ Bs h a.2 t.Value:=d;obtain⟨f,e⟩:Bs h b.1 u.Key /\ Bs h b.2 u.Value:=hb;apply i;simp -dsimp[aQ];refine s1 _ _ _ _ _ _ j f ?_;simp +contextual -dsimp;refine B.gG (v:= .bool (decide (t.Value=u.Value))) (λ_ Q c=>s1 _ _ _ _ _ _ g e c) ?_;simp -dsimp;refine aR ?_;have:decide (t=u)=(decide (t.Key=u.Key)&&decide (t.Value=u.Value)):=by
  cases t;cases u;simp[Row.mk.injEq]
 rw[this]at c;exact c
def kG.Spec(C:aC)(N:zN):Prop:=∀(x y:a7)(L M:List Row)(h:a9)(Q:zQ),Dl aQ h x L->Dl aQ h y M->L.length<4611686018427387904->Q (.bool (decide (L=M))) h->C (N 431) [x,y,.fn (N 430) [] []] h Q
theorem kG.spec(i:kG.aD C N)(s1:qL.Spec C N):kG.Spec C N:=by
 intro x y L M h Q hx p hlen c;have d:=hx.aE;have l:=p.aE;apply i;simp -dsimp[d,l];refine B.bF (λhb=>?_) (λhb=>?_)<;>simp -dsimp at hb ⊢
 ·rw[decide_eq_false λe=>hb (by rw[e])]at c
  exact aR c
 ·simp -dsimp only[d,B.aK]
  refine aB.intro (λn vs f=>∃k:Nat,k+n=L.length /\ vs=[.int .i64 (k:Int)] /\ f=h /\ L.take k=M.take k) L.length ?_ ⟨0,by simp,rfl,rfl,by simp⟩;rintro Y n vs f ⟨k,s,rfl,rfl,he⟩ q;simp -dsimp only[kG.l2,kG.k1,gH,B.aK];refine B.bF (λj=>?_) (λj=>?_)
  ·rw[decide_eq_true_eq]at j
   obtain⟨w,hw⟩:=dI j;obtain⟨u,hu⟩:=dI (L:=M) (k:=k) (by omega);obtain⟨a,o⟩:=hx.get hw;obtain⟨b,m⟩:=p.get hu;have e1:V.aM 2 x (.int .i64 (k:Int))=some (aV 2 x k 0):=o.idx;have r:A.fF f (aV 2 x k 0) 2=some (.agg (aQ.cells w a)):=o.cR;have e3:V.aM 2 y (.int .i64 (k:Int))=some (aV 2 y k 0):=m.idx;have e4:A.fF f (aV 2 y k 0) 2=some (.agg (aQ.cells u b)):=m.cR;have f1:V.bU 0 2 (.agg (aQ.cells w a)) (.agg [.aA,.aA])=some (.agg (aQ.cells w a)):=wW aQ w a;have f2:V.bU 0 2 (.agg (aQ.cells u b)) (.agg [.aA,.aA])=some (.agg (aQ.cells u b)):=wW aQ u b;have f3:V.bM 0 2 (.agg (aQ.cells w a))=some (.agg (aQ.cells w a)):=xW aQ w a;have f4:V.bM 0 2 (.agg (aQ.cells u b))=some (.agg (aQ.cells u b)):=xW aQ u b;simp -dsimp only[e1,r,e3,e4,f1,f2,f3,f4,B.aK,B.iL,B.ym,nil_append,append_nil];refine s1 _ _ _ _ _ _ o.at_ m.at_ ?_;simp -dsimp only[V.jq,B.aK];refine B.bF (λg=>?_) (λg=>?_)<;>simp -dsimp at g
   ·rw[decide_eq_false λe=>by subst e;rw[hw]at hu;cases hu;exact g rfl]at c
    exact aR c
   ·simp -dsimp only[eG (show k<4611686018427387904 by omega),B.aK]
    refine q (L.length-(k+1)) _ _ (by omega) ⟨k+1,by omega,rfl,rfl,?_⟩;rw[take_succ hw,take_succ hu,he,g]
  ·rw[decide_eq_false_iff_not]at j
   rw[take_of_length_le (by omega),take_of_length_le (by omega)]at he;rw[decide_eq_true he]at c;exact aR c
variable{C:aC}{N:zN}
abbrev fU(s:dV)(x:a7)(P:List (en×(a7×a7)))(y z:a7):List Ob:= .sl 4 x (P.map bR.cs) []:: .sl 6 y (s.bJ.map bZ.cs) []:: .sl 8 z (s.cE.map dC.cs) []::bR.os false P
structure pd(s:dV)(k:Nat):Prop where
 n:s.cK.length+s.bJ.length+s.cE.length <= k
 ok:∀t∈s.cK,t.ok
theorem fU.at{h0 h:a9}{s:dV}{x y z:a7}{P:List (en×(a7×a7))}{l:List Ob}(c:aG h0 h l)(a:∀o∈fU s x P y z,o∈l)(e:P.map (·.1)=s.cK){k:Nat}(f:pd s k)(hk:k <= 100000000):iD h s x y z:=by
 obtain⟨n,ok⟩:=f;refine⟨?_,⟨[],c.is (.sl 6 y (s.bJ.map bZ.cs) []) (a _ (by simp))⟩,⟨[],c.is (.sl 8 z (s.cE.map dC.cs) []) (a _ (by simp))⟩,by omega,by omega,by omega⟩;rw[<-e];refine yM (K:=bR) (b:=false) (l:=l) (R:=[]) (λp d=>ok _ (by rw[<-e];exact mem_map.2 ⟨p,d,rfl⟩)) c.is (a _ (mem_cons_self ..)) λo hm=>a _ ?_;simp only[fU,mem_cons];exact .inr (.inr (.inr hm))
theorem LU{t:en}(h1:t.cO.length <= 8)(a:t.dL.length <= 4):(u6 t).length <= 192:=by
 have g1:=ui (f:=λp:Part=>fO p.Item++be p.ek 4) (m:=17) (λp=>by have:=kl p.Item;simp;omega) t.cO;have g2:=ui (f:=fO) (m:=13) kl t.dL;unfold u6;simp only[length_append,length_cons,gr];omega
theorem KX{s:dV}:∀r∈allRows s,1 <= r.Key.length /\ r.Key.length <= 13 /\ r.Key.length+r.Value.length <= 205:=by
 unfold allRows;cases hb:jz s with
 | false=>simp
 | true=>
  unfold jz w9 at hb;simp only[Bool.and_eq_true]at hb;intro r a;simp only[cond_true,vj,qV,cons_append,nil_append,mem_cons,mem_append,mem_map]at a;rcases a with rfl|rfl|rfl|⟨t,b,rfl⟩|⟨t,_,rfl⟩|⟨t,_,rfl⟩
  ·simp
  ·simp
  ·simp
  ·obtain⟨k1,k2,k3,k4,k5⟩:=CJ (A2 hb.2.1 t b)
   have:=Co k4;have:=LU k1 k2;simp only[tE,length_cons];omega
  ·have:=kl t.Item
   simp[rk,Ba];omega
  ·have:=kl t.Item
   have:=kl t.Code;simp[rh,AL];omega
theorem Aa{s:dV}:∀r∈allRows s,aQ.ok r:=λr a=>by
 have:=KX r a
 show r.Key.length <= ep /\ r.Value.length <= ep
 unfold ep
 omega
theorem rQ{S:List Ob}{a b:Ob}:((S++[a])++[b]).Perm ((S++[b])++[a]):=by
 rw[append_assoc,append_assoc];exact List.Perm.append_left S (List.Perm.swap ..)
theorem P7{U V:List Ob}{a b:Ob}:(U++[a]++(V++[b])).Perm (U++V++[b]++[a]):=by
 have h:(U++([a]++(V++[b]))).Perm (U++((V++[b])++[a])):=List.Perm.append_left U perm_append_comm;simpa only[append_assoc]using h
theorem Gw{T:Type}(one:dE->T×dE)(n:Int)(r:dE)(h:n <= 255):(cP one n.toNat r).1.length <= oh:=by
 have:=tu one n.toNat r;unfold oh;omega
theorem NJ(b c:List UInt8)(r:dE):(mF b c r).1.ok:=⟨Gw _ _ _ (w5 _ _).2,Gw _ _ _ (w5 _ _).2⟩
def et.Spec(C:aC)(N:zN):Prop:=∀(x:a7)(L:List Row)(h:a9)(Q:zQ),Dl aQ h x L->L.length <= 100000->(∀c P b a h',P.map (·.1)=(jb L).1.cK->pd (jb L).1 L.length->aG h h' (fU (jb L).1 c P b a)->Q (.bI [.agg (fp (jb L).1 c b a),.int .i64 (jb L).2]) h')->C (N 413) [x] h Q
theorem V.H6(s:List UInt8):s≠[]->V.uD (.str s) (some (.int .i64 1)) none=some (.str (s.drop 1)):=λh=>by
 have:1 <= s.length:=length_pos_iff.2 h
 simp[V.uD,V.ends,V.wF,V.asNat,this]
def nm(L:List Row)(k:Nat):Option Row:=if k=0 then none else L[k-1]?
theorem et.spec(i:et.aD C N)(s1:q8.Spec C N)(s2:iq.Spec C N)(s3:iz.Spec C N)(s4:ql.Spec C N)(s5:qi.Spec C N)(s6:cM.Spec C N)(s7:kG.Spec C N):et.Spec C N:=by
 intro x L h Q hx hlen O;apply i;have hlx:=hx.aE;simp -dsimp only[et.aY,et.jL,hlx,B.aK];have o0:aG h h (.sl 2 .aA [] []::fU hS .aA [] .aA .aA):=(((aG.start h).aA 2).aA 4).aA 6 |>.aA 8;refine aB.intro (λn vs R=>∃(k:Nat)(mine:a7)(M:List (Row×(a7×a7)))(s:dV)(X:a7)(P:List (en×(a7×a7)))(Y Z:a7),k+n=L.length /\ vs=[mine,.int .i64 (k:Int),.agg [.int .i64 0,.int .i64 0,.int .i64 0,.aA,.aA,.aA],.agg (fp s X Y Z)] /\ P.map (·.1)=s.cK /\ pd s k /\ M.length <= k /\ (∀q∈M,aQ.at_ h q.1 q.2) /\
   aG h R (.sl 2 mine (M.map aQ.cs) []::fU s X P Y Z) /\ rI (L.drop k) (nm L k) s (M.map (·.1))=rI L none hS []) L.length ?_ ⟨0,.aA,[],hS,.aA,[],.aA,.aA,by simp,rfl,rfl,⟨by simp[hS],by simp[hS]⟩,by simp,by simp,o0,rfl⟩
 rintro Y n vs R ⟨k,mine,M,s,X,P,F,Z,hk,rfl,hP,E,hM,hat,H,d⟩ hY;have zero:∀h',h.le h'->jb L=(hS,4)->dn Q (.bI [.agg [.int .i64 0,.int .i64 0,.int .i64 0,.aA,.aA,.aA],.int .i64 4]) h':=λh' hle e=>by
  rw[e]at O;exact ln hle (O .aA [] .aA .aA h rfl ⟨by simp[hS],by simp[hS]⟩ (((aG.start h).aA 4).aA 6 |>.aA 8))
 simp -dsimp only[et.l9,gH,B.aK];refine B.bF (λhc=>?_) (λhc=>?_)
 ·rw[decide_eq_true_eq]at hc
  obtain⟨w,hw⟩:=dI hc;have hxx:=hx.mono H.le;obtain⟨P0,R0,eP0,sx,at0⟩:=id hx;obtain⟨⟨J,z⟩,hq0⟩:∃a,P0[k]?=some (w,a):=by
   rw[<-eP0,getElem?_map]at hw;obtain⟨q,h1,h2⟩:=Option.map_eq_some_iff.1 hw;exact⟨q.2,by rw[h1,<-h2]⟩
  have ea:=vz (sx.mono H.le) (λp hp=>aQ.mono H.le (at0 p hp)) hq0;have e1:V.aM 2 x (.int .i64 (k:Int))=some (aV 2 x k 0):=ea.idx;have e2:A.fF R (aV 2 x k 0) 2=some (.agg [J,z]):=ea.cR;obtain⟨d1,d2⟩:Bs h J w.Key /\ Bs h z w.Value:=at0 _ (mem_of_getElem? hq0);have a1:=d1.mono H.le;have cv:=d2.aI;have hd:L.drop k=w::L.drop (k+1):=by
   rw[drop_eq_getElem_cons hc];congr 1;rw[getElem?_eq_getElem hc]at hw;exact Option.some.inj hw
  have U:nm L (k+1)=some w:=by unfold nm;simpa using hw
  rw[hd,rI]at d;have no:rr (nm L k) w=true->dn Q (.bI [.agg [.int .i64 0,.int .i64 0,.int .i64 0,.aA,.aA,.aA],.int .i64 4]) R:=λe=>zero R H.le (by
   unfold jb;rw[<-d,if_pos e];rfl)
  have go:rr (nm L k) w=false->et.k6 C N (dn Q) Y x mine x (.int .i64 (L.length:Int)) (.int .i64 (k:Int)) (.agg [.int .i64 0,.int .i64 0,.int .i64 0,.aA,.aA,.aA]) (.agg (fp s X F Z)) (.agg [J,z]) R:=by
   intro e;rw[if_neg (by rw[e];exact Bool.false_ne_true)]at d;obtain⟨c,r,f⟩:∃c r,w.Key=c::r:=by
    cases R:w.Key with
    | nil=>unfold rr at e;rw[R]at e;simp at e
    | cons c r=>exact⟨c,r,rfl⟩
   obtain⟨Rk,b0⟩:=d1.1;have b1:=b0.mono H.le;have g1:V.aM 1 J (.int .i64 0)=some (aV 1 J 0 0):=b1.dF (i:=0) (by rw[f];simp);have g2:A.bX R (aV 1 J 0 0)=some (.int .u8 (c.toNat:Int)):=b1.cell (by rw[f];rfl);simp -dsimp[g1,g2];refine B.bF (λhb=>?_) (λhb=>?_)
   ·have hb:(c.toNat:Int)=97:=by simpa using hb
    have W:w.Key.head?=some 97:=by
     rw[f];have h1:c.toNat=97:=by omega
     have:c=97:=UInt8.toNat_inj.1 h1;rw[this];rfl
    rw[if_pos W]at d;simp -dsimp only[eG (show k<4611686018427387904 by omega),B.aK];exact hY (L.length-(k+1)) _ _ (by omega) ⟨k+1,mine,M,s,X,P,F,Z,by omega,rfl,hP,⟨by have:=E.n;omega,E.ok⟩,by omega,hat,H,by rw[U];exact d⟩
   ·have hb:¬ (c.toNat:Int)=97:=by simpa using hb
    have W:¬ w.Key.head?=some 97:=by
     rw[f];intro e;have e:c=97:=Option.some.inj e;rw[e]at hb;exact hb rfl
    rw[if_neg W]at d;simp -dsimp only[et.k5];simp -dsimp;refine H.push 0 rfl (cs:=[J,z]) rfl (by omega) (by simp;omega) (by simp[maxLen];omega) λmine' h2 o2 _=>?_;obtain⟨kt,Rt,t1,t2,_⟩:=b0.kY (by omega) (lo:=1) (hi:=w.Key.length) (a:=some (.int .i64 1)) (b:=none) (.inr ⟨_,rfl⟩) (.inl ⟨rfl,rfl⟩) (by rw[f];simp) (by omega);rw[take_length]at t2;have ct:=t2.aI;simp -dsimp[cv,t1,ct];intro i52 h52;have o3:=o2.ni h52 [z,.bool false];generalize bQ h2 i52 (cG [z,.bool false])=h3 at *;simp -dsimp;intro i57 h57;have o4:=o3.ni h57 [kt,.bool false];generalize bQ h3 i57 (cG [kt,.bool false])=h4 at *;have o4:aG h h4 (((.sl 2 mine' ((M++[(w,(J,z))]).map aQ.cs) []::fU s X P F Z)++[.box (.ptr i52 0 0) [z,.bool false]])++[.box (.ptr i57 0 0) [kt,.bool false]]):=by
     rw[map_append];exact o4
    have after:∀(s':dV)(I:a7)(P':List (en×(a7×a7)))(Y' Z' u1 u2:a7)(b1 b2:Bool)(h':a9),aG h h' (((.sl 2 mine' ((M++[(w,(J,z))]).map aQ.cs) []::fU s' I P' Y' Z')++[.box (.ptr i52 0 0) [u1,.bool b1]])++[.box (.ptr i57 0 0) [u2,.bool b2]]) ->
      oV w s=(s',b1||b2)->P'.map (·.1)=s'.cK->pd s' (k+1)->et.k2 C N (dn Q) Y x mine' (.ptr i52 0 0) (.ptr i57 0 0) x (.int .i64 (L.length:Int)) (.int .i64 (k:Int)) (.agg [.int .i64 0,.int .i64 0,.int .i64 0,.aA,.aA,.aA]) (.agg (fp s' I Y' Z')) h':=by
     intro s' I P' Y' Z' u1 u2 b1 b2 h' o' er eP hN';obtain⟨_,e,w1⟩:=(o'.perm rQ).fE _ mB;cases e;obtain⟨_,e,w2⟩:=o'.fE _ mB;cases e;simp +contextual -dsimp[e9 w1,e9 w2];rw[er]at d;refine B.bF (λhb=>?_) (λhb=>?_)
     ·have hbb:(b1||b2)=true:=by cases b1<;>cases b2<;>simp at hb ⊢
      simp -dsimp;refine zero h' o'.le ?_;unfold jb;rw[<-d,if_pos hbb];rfl
     ·have hbb:¬ (b1||b2)=true:=by cases b1<;>cases b2<;>simp at hb ⊢
      rw[if_neg hbb]at d;simp -dsimp only[eG (show k<4611686018427387904 by omega),B.aK];refine hY (L.length-(k+1)) _ _ (by omega) ⟨k+1,mine',M++[(w,(J,z))],s',I,P',Y',Z',by omega,rfl,eP,hN',by simp;omega,?_,o'.sub (by rw[append_assoc];exact sublist_append_left _ _),?_⟩
      ·intro q O
       rcases mem_append.1 O with O|O
       ·exact hat q O
       ·rw[mem_singleton.1 O];exact⟨d1,d2⟩
      ·rw[U,map_append];exact d
    have hkl:w.Key.length <= ep:=d1.2;have hvl:w.Value.length <= ep:=d2.2;unfold ep at hkl hvl;have rv:lC h h h4 ((.sl 2 mine' ((M++[(w,(J,z))]).map aQ.cs) []::fU s X P F Z)++[.box (.ptr i57 0 0) [kt,.bool false]]) (.ptr i52 0 0) w.Value ⟨0,false⟩:=by
     obtain⟨Rv,hv⟩:=d2.1;exact⟨z,Rv,hv,o4.perm rQ,a9.le_refl h,Nat.zero_le _,by omega⟩
    have ri:lC h h h4 ((.sl 2 mine' ((M++[(w,(J,z))]).map aQ.cs) []::fU s X P F Z)++[.box (.ptr i52 0 0) [z,.bool false]]) (.ptr i57 0 0) (w.Key.drop 1) ⟨0,false⟩:=
     ⟨kt,Rt,t2,o4,a9.le_refl h,Nat.zero_le _,by simp;omega⟩
    have es:=λK=>hF (b0.mono o4.le) K;have ei:V.lS (.str w.Key) (.int .i64 0)=some (.int .u8 (c.toNat:Int)):=Ai (k:=0) (by rw[f];rfl);have ec:=V.H6 w.Key (by rw[f];exact cons_ne_nil _ _);have y:pd s (k+1):=⟨by have:=E.n;omega,E.ok⟩;simp -dsimp only[et.k3,B.eJ,V.kH,getElem?_cons_zero,B.aK,es,V.rB];refine B.bF (λl=>?_) (λl=>?_)
    ·rw[decide_eq_true_eq]at l
     refine s2 _ _ _ _ _ _ _ 2 _ rv (by omega) λS T=>?_;obtain⟨u,_,_,G,_⟩:=T;simp -dsimp;exact after { s with ju:=(aL w.Value 2 ⟨0,false⟩).1 } X P F Z u kt _ false S (G.perm rQ) (by unfold oV;rw[if_pos l,Bool.or_false]) hP ⟨y.n,y.ok⟩
    rw[decide_eq_false_iff_not]at l;simp -dsimp only[B.aK,V.rB];refine B.bF (λv=>?_) (λv=>?_)
    ·rw[decide_eq_true_eq]at v
     refine s2 _ _ _ _ _ _ _ 8 _ rv (by omega) λS T=>?_;obtain⟨u,_,_,G,_⟩:=T;simp -dsimp;exact after { s with jo:=(aL w.Value 8 ⟨0,false⟩).1 } X P F Z u kt _ false S (G.perm rQ) (by unfold oV;rw[if_neg l,if_pos v,Bool.or_false]) hP ⟨y.n,y.ok⟩
    rw[decide_eq_false_iff_not]at v;simp -dsimp only[B.aK,V.rB];refine B.bF (λD=>?_) (λD=>?_)
    ·rw[decide_eq_true_eq]at D
     refine s2 _ _ _ _ _ _ _ 8 _ rv (by omega) λS T=>?_;obtain⟨u,_,_,G,_⟩:=T;simp -dsimp;exact after { s with jl:=(aL w.Value 8 ⟨0,false⟩).1 } X P F Z u kt _ false S (G.perm rQ) (by unfold oV;rw[if_neg l,if_neg v,if_pos D,Bool.or_false]) hP ⟨y.n,y.ok⟩
    rw[decide_eq_false_iff_not]at D;have hd0:w.Key.head?=some c:=by rw[f];rfl
    have toc:∀n:Nat,n<256->((c.toNat:Int)=n↔w.Key.head?=some (UInt8.ofNat n)):=λn hn=>by
     rw[hd0];constructor
     ·intro e
      have e:c.toNat=n:=by omega
      rw[<-e];simp
     ·intro e
      have e:c=UInt8.ofNat n:=Option.some.inj e;rw[e];simp;omega
    simp -dsimp only[ei,B.aK,V.tF];refine B.bF (λg=>?_) (λg=>?_)
    ·rw[decide_eq_true_eq]at g
     have g:w.Key.head?=some 105:=(toc 105 (by omega)).1 g;simp -dsimp[ec,-drop_one];obtain⟨q1,q2⟩:=(o4.perm rQ).out;obtain⟨Rv,hv⟩:=d2.1;refine s3 h _ h4 _ w.Value (w.Key.drop 1) ⟨0,false⟩ _ ⟨z,Rv,hv,q2,q1.le,Nat.zero_le _,by omega⟩ λa S T=>?_;obtain⟨u,_,_,G,_⟩:=T;have o6:=q1.join G;have hf:=vf bR (mF w.Value (w.Key.drop 1) ⟨0,false⟩).1 a;simp -dsimp only[show bN [(0,some 4,a7.agg (bR.cells (mF w.Value (w.Key.drop 1) ⟨0,false⟩).1 a))] (bG 1 [.str [],.int .i64 0,.aA,.aA])=some (bR.cells (mF w.Value (w.Key.drop 1) ⟨0,false⟩).1 a) from hf];have hPl:P.length <= k:=by have:=E.n;rw[<-hP,length_map]at this;omega
     refine o6.push 1 rfl (bR.len _ a) (by decide) (by simp;omega) (by simp[maxLen];omega) λI h6 o7 _=>?_;have cX:I.aI=true:=(o7.aP 1 rfl).aI;simp -dsimp[cX];refine after { s with cK:=s.cK++[(mF w.Value (w.Key.drop 1) ⟨0,false⟩).1] } I (P++[((mF w.Value (w.Key.drop 1) ⟨0,false⟩).1,a)]) F Z u kt (mF w.Value (w.Key.drop 1) ⟨0,false⟩).2.bad false h6 (o7.perm ?_) (by unfold oV;rw[if_neg l,if_neg v,if_neg D,if_pos g,Bool.or_false]) (by rw[map_append,hP];rfl) ⟨by simp;have:=E.n;omega,λt ht=>?_⟩
     ·unfold fU
      rw[DK.um,DK.v7];simp only[map_append,map_cons,map_nil];exact(((P7.cons _).cons _).cons _).cons _
     ·rcases mem_append.1 ht with ht|ht
      ·exact E.ok t ht
      ·rw[mem_singleton.1 ht];exact NJ _ _ _
    rw[decide_eq_false_iff_not]at g;have g:¬ w.Key.head?=some 105:=λe=>g ((toc 105 (by omega)).2 e);simp -dsimp only[ei,B.aK,V.tF];refine B.bF (λj=>?_) (λj=>?_)
    ·rw[decide_eq_true_eq]at j
     have j:w.Key.head?=some 108:=(toc 108 (by omega)).1 j;simp -dsimp[-drop_one];refine s2 _ _ _ _ _ _ _ 8 _ ri (by omega) λS T=>?_;obtain⟨u2,_,_,G,_⟩:=T;obtain⟨Rv,hv⟩:=d2.1;refine s4 h h S _ _ w.Value _ ⟨0,false⟩ _ ⟨z,Rv,hv,G.perm rQ,a9.le_refl h,Nat.zero_le _,by omega⟩ λh6 r6=>?_;obtain⟨u,_,_,o6,_⟩:=r6;simp -dsimp[-drop_one];refine(o6.perm rQ).push 2 rfl rfl (by decide) (by simp;have:=E.n;omega) (by simp[maxLen];have:=E.n;omega) λI h7 o7 _=>?_;have cX:I.aI=true:=(o7.aP 2 rfl).aI;simp -dsimp[cX,-drop_one];refine after { s with bJ:=s.bJ++[(tD w.Value (aL (w.Key.drop 1) 8 ⟨0,false⟩).1 ⟨0,false⟩).1] } X P I Z u u2 _ _ h7 (o7.perm ?_) (by unfold oV;rw[if_neg l,if_neg v,if_neg D,if_neg g,if_pos j]) hP ⟨by simp;have:=E.n;omega,y.ok⟩;unfold fU;simp only[map_append,map_cons,map_nil];exact List.Perm.refl _
    rw[decide_eq_false_iff_not]at j;have j:¬ w.Key.head?=some 108:=λe=>j ((toc 108 (by omega)).2 e);simp -dsimp only[ei,B.aK,V.tF];refine B.bF (λm=>?_) (λm=>?_)
    ·rw[decide_eq_true_eq]at m
     have m:w.Key.head?=some 111:=(toc 111 (by omega)).1 m;simp -dsimp[-drop_one];refine s2 _ _ _ _ _ _ _ 8 _ ri (by omega) λS T=>?_;obtain⟨u2,_,_,G,_⟩:=T;obtain⟨Rv,hv⟩:=d2.1;refine s5 h h S _ _ w.Value _ ⟨0,false⟩ _ ⟨z,Rv,hv,G.perm rQ,a9.le_refl h,Nat.zero_le _,by omega⟩ λh6 r6=>?_;obtain⟨u,_,_,o6,_⟩:=r6;simp -dsimp[-drop_one];refine(o6.perm rQ).push 3 rfl rfl (by decide) (by simp;have:=E.n;omega) (by simp[maxLen];have:=E.n;omega) λI h7 o7 _=>?_;have cX:I.aI=true:=(o7.aP 3 rfl).aI;simp -dsimp[cX,-drop_one];refine after { s with cE:=s.cE++[(tC w.Value (aL (w.Key.drop 1) 8 ⟨0,false⟩).1 ⟨0,false⟩).1] } X P F I u u2 _ _ h7 (o7.perm ?_) (by unfold oV;rw[if_neg l,if_neg v,if_neg D,if_neg g,if_neg j,if_pos m]) hP ⟨by simp;have:=E.n;omega,y.ok⟩;unfold fU;simp only[map_append,map_cons,map_nil];exact List.Perm.refl _
    rw[decide_eq_false_iff_not]at m;have m:¬ w.Key.head?=some 111:=λe=>m ((toc 111 (by omega)).2 e);simp -dsimp only[B.mZ,V.mW,B.aK,Nat.zero_add];have o4':=o4.perm rQ;refine o4'.jW _ mB rfl (by simp) λS G _=>?_;rw[vD]at G;exact after s X P F Z z kt true false S (G.perm rQ) (by unfold oV;rw[if_neg l,if_neg v,if_neg D,if_neg g,if_neg j,if_neg m];rfl) hP y
  simp -dsimp only[et.k8,e1,e2,B.iL,B.aK];by_cases h0:k=0
  ·subst h0
   simp -dsimp[a1.aE,Ic,-et.k6];refine B.bF (λhb=>?_) (λhb=>?_)
   ·simp -dsimp
    exact no (by unfold rr nm;simpa using hb)
   ·exact go (by unfold rr nm;simpa using hb)
  ·obtain⟨u,hu⟩:=dI (L:=L) (k:=k-1) (by omega)
   obtain⟨kp,vp,f1,f2,f3,f4,f5,f6,c1,c2⟩:=qY hxx hu;have sk:=vJ (a:=k) (by omega) (by omega);have hk0:0<k:=by omega
   have hpv:nm L k=some u:=by unfold nm;rw[if_neg h0];exact hu
   simp -dsimp[sk,f1,f3,f5,hk0,-V.nI,-et.k6];refine s1 _ _ _ _ _ _ c1 a1 ?_;simp +contextual -dsimp[a1.aE,Ic,-et.k6];refine B.bF (λhb=>?_) (λhb=>?_)
   ·simp -dsimp
    refine no ?_;unfold rr;rw[hpv];simpa using hb
   ·refine go ?_
    unfold rr;rw[hpv];simpa using hb
 ·rw[decide_eq_false_iff_not]at hc
  have:k=L.length:=by omega
  subst this;rw[drop_length,rI]at d;have ha:iD R s X F Z:=fU.at H (λo hm=>mem_cons_of_mem _ hm) hP E (by omega);have cx:=ha.items.aI;have cy:F.aI=true:=ha.iU.elim λ_ r=>r.aI;have cz:Z.aI=true:=ha.lines.elim λ_ r=>r.aI;simp -dsimp;refine s6 s X F Z R _ ha (by have:=E.n;omega) λx' P' h1 eP o1=>?_;have dx:Dl aQ h1 x' (allRows s):=by
   rw[<-eP];exact Df.dl o1 λp hp=>Aa _ (by rw[<-eP];exact mem_map.2 ⟨p,hp,rfl⟩)
  have dm:Dl aQ h1 mine (M.map (·.1)):=⟨M,[],rfl,(H.aP 0 rfl).mono o1.le,λq O=>aQ.mono (a9.le_trans H.le o1.le) (hat q O)⟩;have hal:(allRows s).length<4611686018427387904:=by
   unfold allRows;cases jz s<;>simp[vj,qV];have:=E.n;omega
  refine s7 x' mine _ _ h1 _ dx dm hal ?_;have lm:=dm.aE;have hle:h.le h1:=a9.le_trans H.le o1.le;simp +contextual -dsimp[lm,-length_map];refine B.bF (λhb=>?_) (λhb=>?_)
  ·simp -dsimp
   refine zero h1 hle ?_;unfold jb;rw[<-d];show (if allRows s=M.map (·.1) /\ M.map (·.1)≠[] then _ else _)=_;rw[if_neg];intro e;simp[e.1]at hb;exact e.2 (by rw[hb];rfl)
  ·simp -dsimp
   have e:jb L=(s,0):=by
    unfold jb;rw[<-d];show (if allRows s=M.map (·.1) /\ M.map (·.1)≠[] then _ else _)=_;rw[if_pos];simp only[Bool.or_eq_false_iff,Bool.not_eq_false',decide_eq_true_eq,decide_eq_false_iff_not]at hb;exact⟨hb.1,λe=>hb.2 (map_eq_nil_iff.1 e)⟩
   rw[e]at O;exact ln o1.le (O X P F Z R hP E (H.sub (sublist_cons_self _ _)))
def jc(s r k:Int):Bool:=((((decide (s<0)||decide (4 <= s))||decide (r<1))||decide (4611686018427387904<r))||decide (k<0))||decide (1000 <= k)
def dY(s r k:Int):List UInt8:=bif jc s r k then [] else 97::dN s::(be r 8++be k 2)
def gC(b:List UInt8):Nat:=(b.length+179) / 180
def mA(b:List UInt8)(i:Nat):List UInt8:=(b.drop (180*i)).take 180
def kM(s r:Int)(b:List UInt8)(i:Nat):Row:=⟨dY s r i,mA b i⟩
def fQ(s r:Int)(t:cW):List Row×Int:=if (fX t).2≠0 \/ dY s r 0=[] then ([],2) else ((List.range (gC (fX t).1)).map (kM s r (fX t).1),0)
def iP(s r:Int)(x:Row):Bool:=decide (x.Key.length=12)&&decide (x.Key.take 10=(dY s r 0).take 10)
def xz(s r:Int)(b:List UInt8)(n:Nat)(x:Row):Bool:=((decide (x.Key=dY s r n)&&decide (b.length=n*180))&&decide (0<x.Value.length))&&decide (x.Value.length <= 180)
def kO(s r:Int):List Row->List UInt8->Nat->Bool->List UInt8×Bool|[],b,_,w=>(b,w)|x::l,b,n,w=>if iP s r x=true then kO s r l (b++x.Value) (n+1) (w&&xz s r b n x) else kO s r l b n w
def vE(q:List UInt8×Bool):cW×Bool:=if q.2=true /\ (fY q.1).2.2=0 /\ (fY q.1).2.1=q.1.length then ((fY q.1).1,true) else (pM,false)
def gS(s r:Int)(l:List Row):cW×Bool:=if dY s r 0=[] then (pM,false) else vE (kO s r l [] 0 true)
variable{C:aC}{N:zN}
theorem H5{h:a9}{es:Nat}{x:a7}{L R:List (List a7)}(hx:aJ h es x L R)(a:L≠[]):V.ry .eql x .aA=some (.bool false):=by
 rcases hx.at_ with⟨e,_⟩|⟨id,g,off,cp,b,hi,h1,_⟩
 ·exact absurd e a
 ·subst h1;rfl
def nh.Spec(C:aC)(N:zN):Prop:=∀(s r k:Int)(h:a9)(Q:zQ),(∀a h',aG h h' [gw false a (dY s r k)]->(dY s r k=[]->a= .aA)->Q a h')->C (N 427) [.int .i64 s,.int .i64 r,.int .i64 k] h Q
theorem yj{s r k:Int}(h:jc s r k=false):(dY s r k).length=12:=by simp[dY,h]
theorem nh.spec(i:nh.aD C N)(s1:iY.Spec C N)(s2:lZ.Spec C N):nh.Spec C N:=by
 intro s r k h Q j;apply i;simp +contextual -dsimp;have z:(((((decide (s<0)||decide (4 <= s))||decide (r<1))||decide (4611686018427387904<r))||decide (k<0))||decide (1000 <= k))=jc s r k:=rfl
 try rw[z]
 refine B.bF (λhb=>?_) (λhb=>?_)
 ·have e:dY s r k=[]:=by unfold dY;rw[hb];rfl
  rw[e]at j;exact aR (j .aA h ((aG.start h).aA 1) λ_=>rfl)
 ·have e:dY s r k=97::dN s::(be r 8++be k 2):=by unfold dY;rw[hb];rfl
  simp -dsimp[mz];refine lK 2 (s:=[97,dN s]) rfl rfl λi31 h1 w=>?_;obtain⟨K,m1,m,u⟩:=gN (xs:=[]) (L:=[]) (aG.start h) trivial w;generalize a7.sl i31 0 0 2 1 2=g at *;refine s1 r 8 _ _ (by omega) λf H o2=>?_;obtain⟨J,m2,l,t⟩:=gN m u o2;refine s1 k 2 _ _ (by omega) λd G v=>?_;obtain⟨I,m3,a,c⟩:=gN l t v;have E:=(c.get 0 g _ rfl rfl).elim λ_ r=>r.aI;have D:=(c.get 1 f _ rfl rfl).elim λ_ r=>r.aI;have A:=(c.get 2 d _ rfl rfl).elim λ_ r=>r.aI;simp -dsimp[E,D,A];refine tK 3 a rfl (ys:=[g,f,d]) λi36 F b o=>?_;generalize a7.sl i36 0 0 3 1 3=p at *;refine s2 p [g,f,d] [[97,dN s],be r 8,be k 2] [] _ _ (o.is (.sl 1 p ([g,f,d].map λy=>[y]) []) (by simp)) (c.mono (a9.le_trans a.le b)) (by simp) (by simp) λq x n=>aR (j q x ?_ ?_)
  ·rw[e]
   have:([[97,dN s],be r 8,be k 2]:List (List UInt8)).flatten=97::dN s::(be r 8++be k 2):=by simp
   rw[this]at n;exact n.back (a9.le_trans m1 (a9.le_trans m2 (a9.le_trans m3 o.le)))
  ·rw[e];simp
def pJ.Spec(C:aC)(N:zN):Prop:=∀(x:a7)(s:List UInt8)(h:a9)(Q:zQ),Bs h x s->(∀a h',aG h h' [gw false a s]->Q a h')->C (N 428) [x] h Q
theorem pJ.spec(i:pJ.aD C N):pJ.Spec C N:=by
 intro x s h Q hx a;apply i;obtain⟨⟨R,hx⟩,c⟩:=hx;have cp:B.bO h 1 1 .sz x (λe h=>dn Q e h):=by
  refine aG.bO ((aG.start h).sz 1) 0 rfl hx (by omega) (by simp;unfold ep at c;omega) (by simp[maxLen];unfold ep at c;omega) λd h' h1 _=>aR (a d h' ?_);simpa[gw]using h1
 simp -dsimp only[pJ.aY];rcases hx.at_ with⟨e1,k,rfl|rfl⟩|⟨id,g,off,f,b,hi,rfl,j⟩
 ·simp -dsimp[V.ry]
  have e1:s=[]:=map_eq_nil_iff.1 e1;rw[e1]at a;exact aR (a _ _ ((aG.start h).aA 1))
 ·simp -dsimp[V.ry]
  exact cp
 ·simp -dsimp[V.ry]
  rw[length_map]at cp;exact cp
def qk.Spec(C:aC)(N:zN):Prop:=∀(x y:a7)(a b:List UInt8)(h:a9)(Q:zQ),Bs h x a->Bs h y b->Q (.bool (decide (a.take b.length=b))) h->C (N 436) [x,y] h Q
theorem qk.spec(i:qk.aD C N)(s1:nC.Spec C N):qk.Spec C N:=by
 intro x y a b h Q hx k d;apply i;have j:=hx.aE;have g:=k.aE;by_cases f:b.length <= a.length
 ·obtain⟨⟨R,c⟩,m⟩:=hx
  obtain⟨z,R',e1,l,_⟩:=c.kY (by omega) (lo:=0) (hi:=b.length) (a:=none) (b:=some (.int .i64 (b.length:Int))) (.inl ⟨rfl,rfl⟩) (.inr ⟨_,rfl⟩) (by omega) f;rw[drop_zero]at l;simp +contextual -dsimp[j,g,f,e1];refine s1 z y _ b h _ ⟨⟨R',l⟩,by simp;unfold ep at *;omega⟩ k ?_;simp -dsimp;exact aR d
 ·simp +contextual -dsimp[j,g,f]
  have:decide (a.take b.length=b)=false:=decide_eq_false λe=>by
   have:=congrArg List.length e;simp at this;omega
  rw[this]at d;exact aR d
theorem aJ.PV{h:a9}{es:Nat}{x:a7}{L R:List (List a7)}(c:aJ h es x L R){lo hi:Nat}{j1 j2 j3:IntKind}(h1:lo<hi)(b:hi <= L.length):
  ∃d,V.nX es x (.int j1 (lo:Int)) (.int j2 (hi:Int)) (.int j3 (hi:Int))=some d /\ aJ h es d ((L.take hi).drop lo) []:=by
 rcases c.at_ with⟨e,n,l⟩|⟨id,g,off,cp,m,k,k1,j,k2,k3,k4,k5,k6⟩
 ·subst e;simp at b;omega
 ·subst k1
  refine⟨.sl id g (off+lo*es) (hi-lo) es 0,?_,⟨λp a=>c.len p (mem_append_left _ (mem_of_mem_take (mem_of_mem_drop (by simpa using a)))),.inr ⟨id,g,off+lo*es,0,m,k,?_,?_,k2,k3,?_,k5,?_⟩⟩⟩
  ·simp only[V.nX,V.asNat]
   rw[if_pos (by omega),if_pos (by omega)];simp only[Int.toNat_natCast];rw[if_pos ⟨by omega,Nat.le_refl _,by omega,trivial⟩,if_neg (by omega)];simp
  ·simp[Nat.min_eq_left b]
  ·simp[Nat.min_eq_left b]
  ·have i:lo*es+(hi-lo)*es=hi*es:=by rw[<-Nat.add_mul];congr 1;omega
   have f:hi*es <= (L.length+R.length)*es:=Nat.mul_le_mul_right _ (by omega);simp only[length_drop,length_take,Nat.min_eq_left b,length_nil,Nat.add_zero];omega
  ·have i:lo*es+(hi-lo)*es=hi*es:=by rw[<-Nat.add_mul];congr 1;omega
   have f:hi*es <= (L.length+R.length)*es:=Nat.mul_le_mul_right _ (by omega);simp only[length_drop,length_take,Nat.min_eq_left b,length_nil,Nat.add_zero,append_nil];have e1:((L.take hi).drop lo).flatten=((L++R).flatten.take (hi*es)).drop (lo*es):=by
    rw[GI (λp a=>c.len p (mem_append_left _ (mem_of_mem_take a))),Da (λp a=>c.len p (mem_append_left _ a)),<-take_append_of_le_length (l₂:=R.flatten) (by rw[ve (λp a=>c.len p (mem_append_left _ a))];exact Nat.mul_le_mul_right _ b),<-flatten_append]
   rw[e1,<-k6,take_take,Nat.min_eq_left f,<-drop_drop];rw[drop_take,<-i,Nat.add_sub_cancel_left]
variable{C:aC}{N:zN}
def oH(b:List UInt8)(i:Nat):Nat:=min (180*i+180) b.length
def w6(v:a7)(b:List UInt8)(i:Nat):a7:=(V.nX 1 v (.int .i64 ((180*i:Nat):Int)) (.int .i64 (oH b i:Int)) (.int .i64 (oH b i:Int))).getD .aA
theorem xd{b:List UInt8}{i:Nat}:i<gC b↔180*i<b.length:=by unfold gC;omega
theorem G1{h:a9}{v:a7}{b:List UInt8}{R:List (List a7)}(c:aJ h 1 v (b.map bc) R){i:Nat}(hi:i<gC b):
  V.nX 1 v (.int .i64 ((180*i:Nat):Int)) (.int .i64 (oH b i:Int)) (.int .i64 (oH b i:Int))=some (w6 v b i) /\ aJ h 1 (w6 v b i) ((mA b i).map bc) []:=by
 rw[xd]at hi;obtain⟨a,e1,e⟩:=c.PV (lo:=180*i) (hi:=oH b i) (j1:= .i64) (j2:= .i64) (j3:= .i64) (by unfold oH;omega) (by rw[length_map];unfold oH;omega);have e3:w6 v b i=a:=by unfold w6;rw[e1];rfl
 refine⟨by rw[e3];exact e1,?_⟩;rw[e3];have e4:((b.map bc).take (oH b i)).drop (180*i)=(mA b i).map bc:=by
  unfold mA oH;rw[<-map_take,<-map_drop,drop_take];congr 1;by_cases d:180*i+180 <= b.length
  ·rw[Nat.min_eq_left d];congr 1;omega
  ·rw[Nat.min_eq_right (by omega),take_of_length_le (by simp),take_of_length_le (by simp;omega)]
 rw[<-e4];exact e
def vk(v:a7)(b:List UInt8):List (List a7):=(List.range (gC b)).map λi=>[w6 v b i]
theorem ml.iter(r:gD C)(i:ml.aD C N){p q v:a7}{b:List UInt8}{R:List (List a7)}(y:b.length <= 100000000):Iter C (N 443) [] [p,q] (λh=>A.bX h p=some v /\ A.bX h q=some (.int .i64 180) /\ aJ h 1 v (b.map bc) R) (vk v b):=by
 intro id I Z h Q g l h0 d n;refine i (.qb id) p q h Q ?_;have pl:(vk v b).length=gC b:=by simp[vk]
 simp -dsimp only[ml.aY];refine aB.intro (λt vs c=>∃k:Nat,k+t=gC b /\ vs=[.int .i64 ((180*k:Nat):Int)] /\ I k c) (gC b) ?_ ⟨0,by omega,rfl,h0⟩;rintro Y t vs c ⟨k,m,rfl,f⟩ o;obtain⟨d1,d2,d3⟩:=g k c f;have el:=d3.aE;rw[length_map]at el;simp -dsimp only[ml.l2,ml.k1,B.fw,d1,d2,el,gH,B.aK];refine B.bF (λhb=>?_) (λhb=>?_)
 ·rw[decide_eq_true_eq]at hb
  have hk:k<gC b:=xd.2 hb;obtain⟨w,R2,f2,f3,_⟩:=d3.kY (by omega) (lo:=180*k) (hi:=b.length) (a:=some (.int .i64 ((180*k:Nat):Int))) (b:=none) (.inr ⟨_,rfl⟩) (.inl ⟨rfl,rfl⟩) (by omega) (by omega);have lw:=f3.aE;rw[take_length,length_map,length_drop]at lw;obtain⟨g1,g2⟩:=G1 d3 hk;have em:V.min2 (.int .i64 180) (.int .i64 ((b.length-180*k:Nat):Int))=some (.int .i64 ((oH b k-180*k:Nat):Int)):=by
   rw[V.GY];congr 2;unfold oH;omega
  have u:V.bin .add (.int .i64 ((180*k:Nat):Int)) (.int .i64 ((oH b k-180*k:Nat):Int))=some (.int .i64 (oH b k:Int)):=by
   rw[sI (by unfold oH;omega)];congr 3;unfold oH;omega
  have s:V.bin .add (.int .i64 ((180*k:Nat):Int)) (.int .i64 180)=some (.int .i64 ((180*(k+1):Nat):Int)):=by
   have:=sI (a:=180*k) (b:=180) (by omega);rw[show ((180:Nat):Int)=180 from rfl]at this;rw[this];congr 3
  simp -dsimp only[B.fw,d1,d2,f2,lw,em,u,g1,B.aK,B.N5];refine r _ _ _ _ _ (λv h' j=>?_) (l k _ c (by unfold vk;rw[getElem?_map,getElem?_range hk];rfl) f);rcases j with⟨e,h1⟩|⟨e,h1⟩
  ·obtain⟨D,x,z⟩:=g (k+1) h' h1
   simp -dsimp only[e,V.jq,Bool.not_true,B.cond_false,B.fw,x,s,B.aK];exact o (t-1) _ _ (by omega) ⟨k+1,by omega,rfl,h1⟩
  ·simp -dsimp only[e,V.jq,Bool.not_false,B.cond_true,B.aK]
   exact aR (n h' h1)
 ·rw[decide_eq_false_iff_not]at hb
  have:¬ k<gC b:=λh=>hb (xd.1 h);have:k=gC b:=by omega
  exact aR (d c (by rw[pl,<-this];exact f))
variable{C:aC}{N:zN}
def pn.Spec(C:aC)(N:zN):Prop:=∀(v:a7)(h:a9)(Q:zQ),v.aI=true->(∀i j h',aG h h' [.box (.ptr i 0 0) [v],.box (.ptr j 0 0) [.int .i64 180]]->Q (.fn (N 443) [] [.ptr i 0 0,.ptr j 0 0]) h')->C (N 429) [v,.int .i64 180] h Q
theorem pn.spec(i:pn.aD C N):pn.Spec C N:=by
 intro v h Q b c;apply i;simp -dsimp[pn.aY,b];intro i2 f;have a:=(aG.start h).ni f [v];generalize bQ h i2 (cG [v])=h1 at *;simp -dsimp;intro i3 d;have o2:=a.ni d [.int .i64 180];obtain⟨_,e,hb⟩:=o2.fE 1 rfl;cases e;simp -dsimp[e9 hb];exact aR (c _ _ _ o2)
theorem Cy(t:cW):(fX t).1.length <= 100000:=by
 unfold fX;split
 ·simp
 ·rename_i h
  have a:km t=true:=by cases h':km t<;>simp_all
  split
  ·simp
  ·rename_i e
   obtain⟨_,_,d⟩:=zB a;obtain⟨_,c,b,_⟩:=d e;have g:=Dm t.bJ t.bJ.length c;have f:=Dd t.Uses t.Uses.length b;rw[take_length]at g f;have i:=kl t.Code;simp only[vX,length_append,gr,length_cons,length_nil];omega
def gM.Spec(C:aC)(N:zN):Prop:=∀(s r:Int)(t:cW)(x y:a7)(h:a9)(Q:zQ),kP h t x y->t.bJ.length <= 100000000->t.Uses.length <= 100000000->(∀a P h',P.map (·.1)=(fQ s r t).1->Df aQ h h' a P->Q (.bI [a,.int .i64 (fQ s r t).2]) h')->C (N 415) [.int .i64 s,.int .i64 r,.agg (t.cs x y)] h Q
theorem gM.spec(i:gM.aD C N)(hC:gD C)(s1:fW.Spec C N)(s2:nh.Spec C N)(s3:pn.Spec C N)(i4:ml.aD C N)(s5:pJ.Spec C N):gM.Spec C N:=by
 intro s r t x y h Q U Z Y J;have cx:=U.iU.elim λ_ r=>r.aI;have cy:=U.sK.elim λ_ r=>r.aI;apply i;simp -dsimp;intro i3 h3;have o1:=(aG.start h).ni h3 [.int .i64 s];generalize bQ h i3 (cG [.int .i64 s])=h1 at *;simp -dsimp;intro f h4;have o2:=o1.ni h4 [.int .i64 r];generalize bQ h1 f (cG [.int .i64 r])=h2 at *;simp -dsimp;refine s1 t x y h2 _ (U.mono o2.le) Z Y λv h5 o3=>?_;have H:=o2.join o3;obtain⟨_,e,b3⟩:=H.fE 0 rfl;cases e;obtain⟨_,e,b4⟩:=H.fE 1 rfl;cases e;simp -dsimp;have bad:∀h',h.le h'->fQ s r t=([],2)->dn Q (.bI [.aA,.int .i64 2]) h':=λh' hle e=>by
  rw[e]at J;exact ln hle (J .aA [] h rfl (by simpa[Df,DK.os]using (aG.start h).aA aQ.n))
 by_cases he:(fX t).2=0
 ·simp -dsimp[he,e9 b3,e9 b4]
  refine s2 s r 0 h5 _ λT h6 o5 hk=>?_;have o6:=H.join o5;by_cases m:dY s r 0=[]
  ·rw[hk m]
   simp -dsimp[V.ry];exact bad h6 o6.le (by unfold fQ;rw[if_pos (.inr m)])
  ·have X:=H5 (o5.aP 0 rfl:aJ h6 1 T ((dY s r 0).map bc) []) (by simpa using m)
   simp -dsimp[X,he];intro i10 h10;have o7:=(o6.ni h10 [.aA]).aA 2;generalize bQ h6 i10 (cG [.aA])=h7 at *;have hv:v.aI=true:=(o3.aP 0 rfl).aI;simp -dsimp;refine s3 v h7 _ hv λi2 j2 h8 o8=>?_;have M:=o7.join o8;have S:aG h h8 (jg (.ptr i10 0 0) .aA []++([.box (.ptr i3 0 0) [.int .i64 s],.box (.ptr f 0 0) [.int .i64 r],.sl 1 v ((fX t).1.map bc) [],gw false T (dY s r 0)]++[.box (.ptr i2 0 0) [v],.box (.ptr j2 0 0) [.int .i64 180]])):=by
    have M:aG h h8 (([.box (.ptr i3 0 0) [.int .i64 s],.box (.ptr f 0 0) [.int .i64 r],.sl 1 v ((fX t).1.map bc) [],gw false T (dY s r 0)]++jg (.ptr i10 0 0) .aA [])++[.box (.ptr i2 0 0) [v],.box (.ptr j2 0 0) [.int .i64 180]]):=M;rw[<-append_assoc];exact M.perm (perm_append_comm.append_right _)
   obtain⟨hb,m1,m2,O,g⟩:=S.lay;obtain⟨_,e,c3⟩:=g (.box (.ptr i3 0 0) [.int .i64 s]) (by simp);cases e;obtain⟨_,e,c4⟩:=g (.box (.ptr f 0 0) [.int .i64 r]) (by simp);cases e;obtain⟨_,e,c2⟩:=g (.box (.ptr i2 0 0) [v]) (by simp);cases e;obtain⟨_,e,d2⟩:=g (.box (.ptr j2 0 0) [.int .i64 180]) (by simp);cases e;have z:aJ hb 1 v ((fX t).1.map bc) []:=g (.sl 1 v ((fX t).1.map bc) []) (by simp);have hbl:=Cy t;have D:fQ s r t=((List.range (gC (fX t).1)).map (kM s r (fX t).1),0):=by
    unfold fQ;rw[if_neg];rintro(e|e)
    ·exact e he
    ·exact m e
   rw[D]at J;generalize hB:(fX t).1=b at *;have hpn:gC b <= 1000:=by unfold gC;omega
   refine Ms (ml.iter hC i4 (p:= .ptr i2 0 0) (q:= .ptr j2 0 0) (v:=v) (b:=b) (R:=[]) (by omega)) (λh1 h2 hle d=>?_)
    (λk c=>∃out P,P.map (·.1)=(List.range k).map (kM s r b) /\ aG hb c (jg (.ptr i10 0 0) out P)) (λ_ _=>False) ?_ ?_ ⟨.aA,[],rfl,O⟩ ?_ (λj c e=>e.elim)
   ·exact⟨vA hle d.1,vA hle d.2.1,d.2.2.mono hle⟩
   ·rintro k c ⟨out,P,e,o⟩
    exact⟨by rw[e9 (o.le _ _ c2)];rfl,by rw[e9 (o.le _ _ d2)];rfl,z.mono o.le⟩
   ·rintro k xx c E a ⟨out,P,eP,o⟩ hE0 _
    have hk:k<gC b:=by
     have:=(List.getElem?_eq_some_iff.1 a).1;simpa[vk]using this
    have a:xx=[w6 v b k]:=by
     unfold vk at a;rw[getElem?_map,getElem?_range hk]at a;exact(Option.some.inj a).symm
    subst a;have hPl:P.length=k:=by have:=congrArg List.length eP;simpa using this
    obtain⟨_,e,u⟩:=o.fE 0 rfl;cases e;have lo:=(o.aP 1 rfl:aJ c 2 out (P.map aQ.cs) []).aE;rw[length_map,hPl]at lo;have r3:A.bX c (.ptr i3 0 0)=some (.int .i64 s):=by rw[e9 (o.le _ _ c3)];rfl
    have r4:A.bX c (.ptr f 0 0)=some (.int .i64 r):=by rw[e9 (o.le _ _ c4)];rfl
    have l:A.bX c (.ptr i10 0 0)=some out:=by rw[e9 u];rfl
    simp -dsimp only[W1,gM.r2,gM.k1,B.fw,r3,r4,l,lo,B.aK];refine s2 s r k c _ λI F q1 _=>?_;have L:=o.join q1;obtain⟨_,e,w⟩:=L.fE 0 rfl;cases e;refine Bf ⟨out,l,by rw[e9 w];rfl⟩ ?_;have W:Bs F (w6 v b k) (mA b k):=⟨⟨[],((G1 z hk).2).mono L.le⟩,by unfold mA ep;simp;omega⟩;refine s5 _ _ _ _ W λG h12 q3=>?_;have q4:=L.join q3;obtain⟨_,e,K⟩:=q4.fE 0 rfl;cases e;refine Bf ⟨out,by rw[e9 w];rfl,by rw[e9 K];rfl⟩ ?_;have ck:I.aI=true:=(q1.aP 0 rfl:aJ F 1 I ((dY s r k).map bc) []).aI;have cvv:G.aI=true:=(q3.aP 0 rfl:aJ h12 1 G ((mA b k).map bc) []).aI;simp -dsimp[ck,cvv];refine q4.push 1 rfl (cs:=[I,G]) rfl (by omega) (by simp;omega) (by simp[maxLen];omega) λout' h13 q5 _=>?_;have co:out'.aI=true:=(q5.aP 1 rfl).aI;refine q5.jW 0 (off:=0) rfl co (by simp) λh14 q6 _=>?_;refine hE0 h14 ⟨out',P++[(kM s r b k,(I,G))],?_,?_⟩
    ·rw[map_append,eP,range_succ,map_append];rfl
    ·unfold jg
     rw[DK.um,DK.v7,map_append];simpa[aQ,kM]using q6
   ·rintro c ⟨out,P,e,o⟩
    have pl:(vk v b).length=gC b:=by simp[vk]
    rw[pl]at e;refine RK.here ?_;obtain⟨_,e2,u⟩:=o.fE 0 rfl;cases e2;have l:A.bX c (.ptr i10 0 0)=some out:=by rw[e9 u];rfl
    simp -dsimp only[B.fw,l,B.aK];exact aR (J out P c e ((o.back m1).sub (sublist_cons_self _ _)))
 ·simp -dsimp[he]
  exact bad h5 H.le (by unfold fQ;rw[if_pos (.inl he)])
variable{C:aC}{N:zN}
def mx(L:List Row):Nat:=(L.flatMap Row.Value).length
abbrev uJ(t:cW)(x y:a7):List Ob:=[.sl 6 x (t.bJ.map bZ.cs) [],.sl 3 y (t.Uses.map fA.cs) []]
def gF.Spec(C:aC)(N:zN):Prop:=∀(s r:Int)(x:a7)(L:List Row)(h:a9)(Q:zQ),Dl aQ h x L->L.length <= 1000000->mx L <= 10000000->(∀b a h',aG h h' (uJ (gS s r L).1 b a)->Q (.bI [.agg ((gS s r L).1.cs b a),.bool (gS s r L).2]) h')->C (N 414) [.int .i64 s,.int .i64 r,x] h Q
theorem Fp{L:List Row}{k:Nat}{w:Row}(hw:L[k]?=some w):mx (L.take (k+1))=mx (L.take k)+w.Value.length:=by
 unfold mx;rw[take_succ hw,flatMap_append,length_append];simp
theorem Ac(L:List Row)(k:Nat):mx (L.take k) <= mx L:=by
 unfold mx
 conv=>rhs;rw[<-take_append_drop k L,flatMap_append,length_append]
 omega
theorem gF.spec(i:gF.aD C N)(s1:nh.Spec C N)(s2:qk.Spec C N)(s3:nC.Spec C N)(s4:iZ.Spec C N):gF.Spec C N:=by
 intro s r x L h Q hx hl hv G;apply i;simp -dsimp only[gF.aY,gF.k5];refine s1 s r 0 h _ λk0 h1 K hk=>?_;have zero:∀h',h.le h'->gS s r L=(pM,false)->dn Q (.bI [.agg [.int .i64 0,.int .i64 0,.int .i64 0,.str [],.int .u8 0,.aA,.aA],.bool false]) h':=λh' hle e=>by
  rw[e]at G;exact ln hle (G .aA .aA h (((aG.start h).aA 6).aA 3))
 by_cases j:dY s r 0=[]
 ·rw[hk j]
  simp -dsimp[V.ry];exact zero h1 K.le (by unfold gS;rw[if_pos j])
 ·have W:aJ h1 1 k0 ((dY s r 0).map bc) []:=K.aP 0 rfl
  have P:=H5 W (by simpa using j);have S:jc s r 0=false:=by
   cases hb:jc s r 0 with
   | false=>rfl
   | true=>exact absurd (by unfold dY;rw[hb];rfl) j
  have mK:=yj S;have l0:=W.aE;rw[length_map,mK]at l0;have f:gS s r L=vE (kO s r L [] 0 true):=by unfold gS;rw[if_neg j]
  have R:=hx.aE;simp -dsimp only[gF.k4,P,R,B.aK,B.cond_false];refine aB.intro (λt vs l=>∃(k n:Nat)(y:a7)(b:List UInt8)(w:Bool),k+t=L.length /\ vs=[y,.int .i64 (n:Int),.bool w,.int .i64 (k:Int)] /\ n <= k /\ b.length <= mx (L.take k) /\ aG h1 l [.sl 1 y (b.map bc) []] /\ kO s r (L.drop k) b n w=kO s r L [] 0 true) L.length ?_ ⟨0,0,.aA,[],true,by simp,rfl,by omega,by simp,(aG.start h1).aA 1,rfl⟩;rintro Y t vs l ⟨k,n,y,b,w,hkt,rfl,hnk,hbl,o,p⟩ hY;have hle:h.le l:=a9.le_trans K.le o.le;have M:=hx.mono hle;have vle:=Ac L k;simp -dsimp only[gF.l3,gF.k2,gH,B.aK];refine B.bF (λq=>?_) (λq=>?_)
  ·rw[decide_eq_true_eq]at q
   obtain⟨z,F⟩:=dI q;obtain⟨kx,vx,e1,e2,e3,e4,e5,e6,X,a2⟩:=qY M F;have hd:L.drop k=z::L.drop (k+1):=by
    rw[drop_eq_getElem_cons q];congr 1;rw[getElem?_eq_getElem q]at F;exact Option.some.inj F
   rw[hd,kO]at p;have vst:=Fp F;have vle1:=Ac L (k+1);have l1:=X.aE;have l2:=a2.aE;have u:=(o.aP 0 rfl:aJ l 1 y (b.map bc) []).aE;rw[length_map]at u;obtain⟨z0,R0,f1,f2,_⟩:=W.kY (by omega) (lo:=0) (hi:=10) (a:=none) (b:=some (.int .i64 ((10:Nat):Int))) (.inl ⟨rfl,rfl⟩) (.inr ⟨_,rfl⟩) (by omega) (by omega);rw[drop_zero]at f2;have f1:V.dS 1 k0 none (some (.int .i64 10))=some z0:=f1;have v:Bs l z0 ((dY s r 0).take 10):=⟨⟨R0,f2.mono o.le⟩,by unfold ep;simp;omega⟩;have T:((dY s r 0).take 10).length=10:=by simp;omega
   have skip:iP s r z=false->Y [y,.int .i64 (n:Int),.bool w,.int .i64 ((k+1:Nat):Int)] l:=λe=>by
    rw[if_neg (by rw[e];exact Bool.false_ne_true)]at p;exact hY (L.length-(k+1)) _ _ (by omega) ⟨k+1,n,y,b,w,by omega,rfl,by omega,by omega,o,p⟩
   by_cases D:z.Key.length=12
   ·have m:decide ((z.Key.length:Int)=12)=true:=by rw[decide_eq_true_eq];omega
    simp -dsimp[e1,e2,l1,l0,m,f1];refine s2 kx z0 z.Key _ l _ X v ?_;rw[T];simp -dsimp;refine B.bF (λA=>?_) (λA=>?_)
    ·simp -dsimp only[eG (show k<4611686018427387904 by omega),B.aK]
     exact skip (by unfold iP;rw[Bool.not_eq_true']at A;rw[A,Bool.and_false])
    ·rw[Bool.not_eq_false']at A
     have hm:iP s r z=true:=by unfold iP;rw[decide_eq_true D,A];rfl
     rw[if_pos hm]at p;have em:V.bin .mul (.int .i64 (n:Int)) (.int .i64 180)=some (.int .i64 ((n*180:Nat):Int)):=by rw[V.yz,wrap_i64 (by omega) (by omega)];simp
     have ee:decide (((b.length:Nat):Int)=((n*180:Nat):Int))=decide (b.length=n*180):=decide_eq_decide.2 (by omega);have fin:∀(c:Bool)(g:a9),l.le g->aG h1 g [.sl 1 y (b.map bc) []]->c=(w&&xz s r b n z) ->
       B.bO g 1 1 y vx λJ h=>B.pv (V.bin .add (.int .i64 (n:Int)) (.int .i64 1)) λI=>B.pv (V.bin .add (.int .i64 (k:Int)) (.int .i64 1)) λH=>Y [J,I,.bool c,H] h:=by
      intro c g d o2 ec;obtain⟨⟨Rv,O⟩,_⟩:=a2.mono d;refine o2.bO 0 rfl O (by omega) (by simp;omega) (by simp[maxLen];omega) λE h3 o3 _=>?_;simp -dsimp only[eG (show n<4611686018427387904 by omega),eG (show k<4611686018427387904 by omega),B.aK];refine hY (L.length-(k+1)) _ _ (by omega) ⟨k+1,n+1,E,b++z.Value,c,by omega,rfl,by omega,by simp;omega,by rw[map_append];exact o3,?_⟩;rw[<-p,ec]
     have hnb:n+1<4611686018427387904:=by omega
     cases w with
     | false=>
      simp -dsimp[-V.fP,-V.yz];exact fin false l (a9.le_refl _) o rfl
     | true=>
      simp -dsimp;refine s1 s r n l _ λkv g o2 _=>?_;have bk:Bs g kv (dY s r n):=⟨⟨[],o2.aP 0 rfl⟩,by unfold dY ep;cases jc s r n<;>simp⟩;simp -dsimp;refine s3 kx kv _ _ g _ (X.mono o2.le) bk ?_;have l2':=l2;simp +contextual -dsimp[u,l2,em,-V.yz,-V.fP];refine fin _ g o2.le (o.grow o2.le) ?_;unfold xz;have q1:((b.length:Int)=(n:Int)*180)↔b.length=n*180:=by omega
      have q2:((z.Value.length:Int) <= 180)↔z.Value.length <= 180:=by omega
      rw[decide_eq_decide.2 q1,decide_eq_decide.2 q2,Bool.true_and];cases decide (z.Key=dY s r n)<;>cases decide (b.length=n*180)<;>cases decide (0<z.Value.length)<;>rfl
   ·have m:decide ((z.Key.length:Int)=12)=false:=by rw[decide_eq_false_iff_not];omega
    simp -dsimp[e1,e2,l1,l0,m,-V.fP,eG (show k<4611686018427387904 by omega)];exact skip (by unfold iP;rw[decide_eq_false D];rfl)
  ·rw[decide_eq_false_iff_not]at q
   have:k=L.length:=by omega
   subst this;rw[drop_length,kO]at p;rw[<-p]at f;have hy:=o.aP 0 rfl;have u:V.aE y=some (.int .i64 (b.length:Int)):=by have:=hy.aE;rwa [length_map]at this
   simp -dsimp only[gF.k1];refine s4 y b l _ ⟨⟨[],hy⟩,by omega⟩ λZ E g o2=>?_;have cx:Z.aI=true:=(o2.aP 0 rfl).aI;have cy:E.aI=true:=(o2.aP 1 rfl).aI;have d:h.le g:=a9.le_trans hle o2.le;cases w with
   | false=>
    simp -dsimp[cW.val];exact zero g d (by rw[f];unfold vE;rw[if_neg];rintro⟨e,_⟩;cases e)
   | true=>
    by_cases g1:(fY b).2.2=0
    ·by_cases g2:(fY b).2.1=b.length
     ·simp -dsimp[cW.val,g1,g2,u]
      have:gS s r L=((fY b).1,true):=by rw[f];unfold vE;rw[if_pos ⟨rfl,g1,g2⟩]
      rw[this]at G;exact aR (G Z E g (o2.back hle))
     ·have U:¬ ((fY b).2.1:Int)=b.length:=by omega
      simp -dsimp[cW.val,g1,U,u];exact zero g d (by rw[f];unfold vE;rw[if_neg];rintro⟨_,_,e⟩;exact g2 e)
    ·simp -dsimp[cW.val,g1]
     exact zero g d (by rw[f];unfold vE;rw[if_neg];rintro⟨_,e,_⟩;exact g1 e)
def sF:DK en (a7×a7) where
 n:=4
 bytes:=72
 z:=[.str [],.int .i64 0,.aA,.aA]
 pos:=by omega
 small:=by omega
 mJ:=rfl
 cells t a:=[.str t.Code,.int .i64 t.jY,a.1,a.2]
 len _ _:=rfl
 at_ h t a:=(∃R,aJ h 2 a.1 (t.cO.map Part.cs) R) /\ (∃R,aJ h 1 a.2 (t.dL.map tc) R)
 mono hle c:=⟨c.1.imp λ_ r=>r.mono hle,c.2.imp λ_ r=>r.mono hle⟩
 ok _:=True
 xB _:=trivial
 gy b t a:=[u4 b a.1 t.cO,uz b a.2 t.dL]
 mG {b h t a} _ c:=⟨⟨_,show aJ h 2 a.1 (t.cO.map Part.cs) (bif b then wa else []) from c (u4 b a.1 t.cO) (by simp)⟩,⟨_,show aJ h 1 a.2 (t.dL.map tc) (bif b then uX else []) from c (uz b a.2 t.dL) (by simp)⟩⟩
theorem OK{h:a9}{x:a7}{L:List en}(hx:Dl sF h x L)(b:∀t∈L,t.ok):Dl bR h x L:=by
 obtain⟨P,R,rfl,s,c⟩:=hx;exact⟨P,R,rfl,s,λp a=>⟨(c p a).1,(c p a).2,b p.1 (mem_map_of_mem a)⟩⟩
def en.tN(t:en):Prop:=t.Code.length<4611686018427387904 /\ (∀p∈t.cO,p.Item.length<4611686018427387904) /\ (∀o∈t.dL,o.length<4611686018427387904) /\ t.cO.length<100000000000000000 /\ t.dL.length<100000000000000000
variable{C:aC}{N:zN}
def q7.Spec(C:aC)(N:zN):Prop:=∀(x:a7)(L:List dC)(R:List (List a7))(h:a9)(Q:zQ),aJ h 8 x (L.map dC.cs) R->L.length <= 100000000->(∀a h',aG h h' [.sl 8 a (L.map dC.cs) []]->Q a h')->C (N 437) [x] h Q
theorem q7.spec(i:q7.aD C N):q7.Spec C N:=λx L R h Q hx hlen b=>i x h Q (Am (by omega) (by omega) hx (by simpa using hlen) λa h' c=>aR (b a h' c))
def nv.Spec(C:aC)(N:zN):Prop:=∀(s t:dV)(x y z u v w:a7)(h:a9)(Q:zQ),iD h s x y z->iD h t u v w->Q (.bool (decide (s=t))) h->C (N 116) [.agg (fp s x y z),.agg (fp t u v w)] h Q
theorem dV.eq_iff(s t:dV):s=t↔((((s.ju=t.ju /\ s.jo=t.jo) /\ s.jl=t.jl) /\ s.cK=t.cK) /\ s.bJ=t.bJ) /\ s.cE=t.cE:=by
 cases s;cases t;simp[dV.mk.injEq,and_assoc]
theorem nv.spec(i:nv.aD C N)(s1:lF.Spec C N)(s2:ow.Spec C N)(b:py.Spec C N):nv.Spec C N:=by
 intro s t x y z u v w h Q d c a;obtain⟨l,⟨R2,k⟩,⟨R3,j⟩,n1,n2,n3⟩:=d;obtain⟨g,⟨n,f⟩,⟨m,e⟩,m1,m2,m3⟩:=c;apply i;simp +contextual -dsimp;refine B.gG (v:= .bool (decide (s.cK=t.cK))) (λ_ Q a=>s1 _ _ _ _ _ _ l g (by omega) a) ?_;simp +contextual -dsimp;refine B.gG (v:= .bool (decide (s.bJ=t.bJ))) (λ_ Q a=>s2 _ _ _ _ _ _ _ _ k f (by omega) a) ?_;simp +contextual -dsimp;refine B.gG (v:= .bool (decide (s.cE=t.cE))) (λ_ Q a=>b _ _ _ _ _ _ _ _ j e (by omega) a) ?_;simp -dsimp;refine aR ?_;have:decide (s=t)=(((((decide (s.ju=t.ju)&&decide (s.jo=t.jo))&&decide (s.jl=t.jl))&&decide (s.cK=t.cK))&&decide (s.bJ=t.bJ))&&decide (s.cE=t.cE)):=by
  rw[Bool.eq_iff_iff];simp only[decide_eq_true_eq,Bool.and_eq_true];exact dV.eq_iff s t
 rw[this]at a;exact a
def qy.Spec(C:aC)(N:zN):Prop:=∀(s:dV)(x y z:a7)(h:a9)(Q:zQ),iD h s x y z->(∀c P b a h',P.map (·.1)=s.cK->aG h h' (fU s c P b a)->Q (.agg (fp s c b a)) h')->C (N 420) [.agg (fp s x y z)] h Q
theorem qy.spec(i:qy.aD C N)(s1:lG.Spec C N)(s2:qJ.Spec C N)(j:q7.Spec C N):qy.Spec C N:=by
 intro s x y z h Q k l;obtain⟨t,⟨R2,r⟩,⟨R3,q⟩,n1,n2,n3⟩:=k;apply i;simp -dsimp;refine s1 _ _ _ _ t n1 λb P h1 e f=>?_;have p:b.aI=true:=(f.aP 0 rfl).aI;simp -dsimp[p];refine s2 _ _ _ _ _ (r.mono f.le) n2 λd u o2=>?_;have o:=(o2.aP 0 rfl).aI;have a:=f.join o2;simp -dsimp[o];refine j _ _ _ _ _ (q.mono a.le) n3 λc m g=>?_;have n:=(g.aP 0 rfl).aI;simp -dsimp[n];refine aR (l b P d c m e ((a.join g).perm ?_));show List.Perm (.sl 4 b (P.map bR.cs) []::((bR.os false P++[.sl 6 d (s.bJ.map bZ.cs) []])++[.sl 8 c (s.cE.map dC.cs) []])) (.sl 4 b (P.map bR.cs) []::([.sl 6 d (s.bJ.map bZ.cs) [],.sl 8 c (s.cE.map dC.cs) []]++bR.os false P));rw[append_assoc];exact perm_append_comm.cons _
structure vL(h:a9)(s:dV)(x y z:a7):Prop where
 items:Dl sF h x s.cK
 iU:∃R,aJ h 6 y (s.bJ.map bZ.cs) R
 lines:∃R,aJ h 8 z (s.cE.map dC.cs) R
 n1:s.cK.length<4611686018427387904
 n2:s.bJ.length<1000000000000000000
 n3:s.cE.length<1000000000000000000
 inl:∀t∈s.cK,t.tN
structure Ed(s:dV):Prop where
 n:s.cK.length+s.bJ.length+s.cE.length <= 2000
 ok:∀t∈s.cK,t.cO.length <= 2000 /\ t.dL.length <= 2000
theorem Ed.at{h:a9}{s:dV}{x y z:a7}(b:Ed s)(a:vL h s x y z):iD h s x y z:=
 ⟨OK a.items λt c=>by have:=b.ok t c;unfold en.ok oh;omega,a.iU,a.lines,by have:=b.n;omega,by have:=b.n;omega,by have:=b.n;omega⟩
theorem Od{h:a9}{x:a7}{L:List en}(hx:Dl sF h x L){i:Nat}{r:en}(c:L[i]?=some r):∃p o,V.aM 4 x (.int .i64 (i:Int))=some (aV 4 x i 0) /\
  V.fieldAddr 2 (aV 4 x i 0)=some (aV 4 x i 2) /\ V.fieldAddr 3 (aV 4 x i 0)=some (aV 4 x i 3) /\ A.bX h (aV 4 x i 2)=some p /\ A.bX h (aV 4 x i 3)=some o /\ V.aE p=some (.int .i64 (r.cO.length:Int)) /\ V.aE o=some (.int .i64 (r.dL.length:Int)):=by
 obtain⟨a,b⟩:=hx.get c;obtain⟨⟨R1,e⟩,⟨R2,d⟩⟩:=b.at_;have l1:=e.aE;have l2:=d.aE;rw[length_map]at l1 l2;exact⟨a.1,a.2,b.idx,b.sV 0 2,b.sV 0 3,b.ld 2 (by decide),b.ld 3 (by decide),l1,l2⟩
def jP.Spec(C:aC)(N:zN):Prop:=∀(s:dV)(x y z:a7)(h:a9)(Q:zQ),vL h s x y z->(∀b:Bool,(b=false->Ed s)->Q (.bool b) h)->C (N 416) [.agg (fp s x y z)] h Q
theorem jP.spec(i:jP.aD C N):jP.Spec C N:=by
 intro s x y z h Q H l;obtain⟨hx,⟨R2,E⟩,⟨R3,D⟩,n1,n2,n3,inl⟩:=H;have g:=hx.aE;have v:=E.aE;have u:=D.aE;rw[length_map]at v u;apply i;have U:=sI (a:=s.bJ.length) (b:=s.cE.length) (by omega);simp -dsimp[v,u,U,-V.fP];refine aB.intro (λt vs G=>G=h /\ ∃k n:Nat,k+t=s.cK.length /\ vs=[.int .i64 (n:Int),.int .i64 (k:Int)] /\ n<4000000000000000000 /\ s.bJ.length+s.cE.length+k <= n /\ (n <= 2000->∀t∈s.cK.take k,t.cO.length <= 2000 /\ t.dL.length <= 2000)) s.cK.length ?_ ⟨rfl,0,s.bJ.length+s.cE.length,by omega,rfl,by omega,by omega,λ_ t h=>(by simp at h)⟩;rintro Y t vs h ⟨rfl,k,n,W,rfl,Z,A,d⟩ I;simp -dsimp only[jP.l2,jP.k1];by_cases hk:k<s.cK.length
 ·by_cases q:n <= 2000
  ·have c:(n:Int) <= 2000:=by omega
   obtain⟨r,j⟩:=dI hk;obtain⟨p,o,e1,e4,O,M,L,K,J⟩:=Od hx j;obtain⟨_,_,_,X,F⟩:=inl r (mem_of_getElem? j);have T:=eG (show n<4611686018427387904 by omega);have S:=sI (a:=n+1) (b:=r.cO.length) (by omega);have R:=sI (a:=n+1+r.cO.length) (b:=r.dL.length) (by omega);have P:=eG (show k<4611686018427387904 by omega);simp -dsimp[g,hk,c,-V.fP];simp -dsimp only[B.eJ,V.kH,getElem?_cons_zero,getElem?_cons_succ,B.fw,B.aK,e1,e4,O,M,L,K,J,T,S,R,P];refine I (t-1) _ _ (by omega) ⟨rfl,k+1,n+1+r.cO.length+r.dL.length,by omega,rfl,by omega,by omega,λhle w hw=>?_⟩;rw[take_succ j,mem_append]at hw;rcases hw with hw|hw
   ·exact d q w hw
   ·rw[mem_singleton.1 hw];omega
  ·have c:¬ (n:Int) <= 2000:=by omega
   have f:(2000:Int)<n:=by omega
   simp -dsimp[g,hk,c,f];exact aR (l true λe=>by cases e)
 ·have m:k=s.cK.length:=by omega
  subst m;rw[take_length]at d;simp -dsimp[g];by_cases q:n <= 2000
  ·have c:¬ (2000:Int)<n:=by omega
   simp -dsimp[c];exact aR (l false λ_=>⟨by omega,d q⟩)
  ·have c:(2000:Int)<n:=by omega
   simp -dsimp[c];exact aR (l true λe=>by cases e)
structure PY(L:List Row):Prop where
 n:L.length <= 2000
 v:mx L <= 200000
def jx.Spec(C:aC)(N:zN):Prop:=∀(x:a7)(L:List Row)(h:a9)(Q:zQ),Dl aQ h x L->L.length<4000000000000->(∀b:Bool,(b=false->PY L)->Q (.bool b) h)->C (N 417) [x] h Q
theorem jx.spec(i:jx.aD C N):jx.Spec C N:=by
 intro x L h Q hx J j;have g:=hx.aE;apply i;refine aB.intro (λt vs q=>q=h /\ ∃k n:Nat,k+t=L.length /\ vs=[.int .i64 (n:Int),.int .i64 (k:Int)] /\ n<4000000000000000000 /\ mx (L.take k) <= n) L.length ?_ ⟨rfl,0,0,by omega,rfl,by omega,by simp[mx]⟩;rintro Y t vs h ⟨rfl,k,n,H,rfl,I,d⟩ s;simp -dsimp only[jx.l3,jx.k2];by_cases hk:k<L.length
 ·by_cases u:n <= 200000
  ·have c:(n:Int) <= 200000:=by omega
   obtain⟨r,m⟩:=dI hk;obtain⟨G,F,e1,K,e3,e4,y,w,p,o⟩:=qY hx m;have f1:=p.2;have f2:=o.2;unfold ep at f1 f2;have E:=eG (show n<4611686018427387904 by omega);have D:=sI (a:=n+1) (b:=r.Key.length) (by omega);have A:=sI (a:=n+1+r.Key.length) (b:=r.Value.length) (by omega);have z:=eG (show k<4611686018427387904 by omega);simp -dsimp[g,hk,c,-V.fP];simp -dsimp only[B.fw,B.aK,e1,e3,e4,y,w,p.aE,o.aE,E,D,A,z];refine s (t-1) _ _ (by omega) ⟨rfl,k+1,n+1+r.Key.length+r.Value.length,by omega,rfl,by omega,?_⟩;have:=Fp m;omega
  ·have c:¬ (n:Int) <= 200000:=by omega
   have f:(200000:Int)<n:=by omega
   simp -dsimp[g,hk,c,f];exact aR (j true λe=>by cases e)
 ·have l:k=L.length:=by omega
  subst l;rw[take_length]at d;simp -dsimp[g];by_cases u:n <= 200000
  ·have c:¬ (200000:Int)<n:=by omega
   have v:decide ((2000:Int)<L.length)=decide (2000<L.length):=decide_eq_decide.2 (by omega);simp -dsimp[c,g]
   first|rw[v]|skip
   exact aR (j _ λe=>⟨by simpa using e,by omega⟩)
  ·have c:(200000:Int)<n:=by omega
   simp -dsimp[c];exact aR (j true λe=>by cases e)
variable{C:aC}{N:zN}
@[simp] def nS.k1(C:aC)(n f:Nat)(Q:zQ)(Y1:zL)(e v4:a7)(h:a9):Prop:=B.pv (V.aE e) λd=>B.pv (V.bin .lss v4 d) λc=>B.cond c (B.call C f [(.int .i64 2),v4] h λv30 h=>B.pv (V.aM n e v4) λa=>B.gp h a n v30 λh=>B.pv (V.bin .add v4 (.int .i64 1)) λb=>Y1 [b] h) (Q (.bI []) h)
@[simp] def nS.l2(C:aC)(n b:Nat)(Q:zQ)(a:a7):zG|[v4],h,Y1=>nS.k1 C n b Q Y1 a v4 h|_,_,_=>False
@[simp] def nS.k3(C:aC)(n c:Nat)(Q:zQ)(v0:a7)(h:a9):Prop:=B.pv (V.aE v0) λb=>B.pv (V.bin .add b (.int .i64 12)) λa=>B.pv (V.dS n v0 none (some a)) λv20=>aB (nS.l2 C n c Q v20) [(.int .i64 0)] h
@[simp] def nS.k4(C:aC)(n fo f:Nat)(Q:zQ)(Y2:zL)(v0 v2:a7)(h:a9):Prop:=B.pv (V.aE v0) λd=>B.pv (V.bin .lss v2 d) λc=>B.cond c (B.pv (V.aM n v0 v2) λb=>B.cR h b n λa=>B.call C fo [a] h λe h=>B.pv (V.bin .add v2 (.int .i64 1)) λv10=>Y2 [v10] h) (nS.k3 C n f Q v0 h)
@[simp] def nS.l5(C:aC)(n fo a:Nat)(Q:zQ)(v0:a7):zG|[v2],h,Y2=>nS.k4 C n fo a Q Y2 v0 v2 h|_,_,_=>False
def nS(C:aC)(n fo a:Nat)(v0:a7)(h:a9)(Q:zQ):Prop:=aB (nS.l5 C n fo a Q v0) [(.int .i64 0)] h
section
variable{T Ad:Type}(K:DK T Ad)
def DT(K:DK T Ad)(C:aC)(f:Nat):Prop:=∀(t:T)(a:Ad)(h0 h:a9)(Q:zQ),K.ok t->aG h0 h (K.gy true t a)->(∀h',h0.le h'->Q (.bI []) h')->C f [.agg (K.cells t a)] h Q
theorem FL{mk:Int->Int->T}{fo w:Nat}(y:DT K C fo)(A:wH K mk C w){h0 h:a9}{x:a7}{P d:List (T×Ad)}{Q:zQ}(F:aG h0 h (.sl K.n x (P.map K.cs) (d.map K.cs)::(K.os true P++K.os false d)))(s:∀p∈P,K.ok p.1)(J:d.length=12)(R:P.length <= 100000000)
  (E:∀h',h0.le h'->Q (.bI []) h'):nS C K.n fo w x h Q:=by
 have t:aG h0 h (.sl K.n x (P.map K.cs) (d.map K.cs)::K.os true P):=F.sub (List.Sublist.cons_cons _ (sublist_append_left _ _));have e1:IntKind.i64.wrap ((P.length:Int)+12)=((P.length+12:Nat):Int):=by rw[wrap_i64 (by omega) (by omega)];omega
 refine aB.intro (λn vs f=>∃k:Nat,k+n=P.length /\ vs=[.int .i64 k] /\ aG h0 f (.sl K.n x (P.map K.cs) (d.map K.cs)::K.os true (P.drop k))) P.length ?_ ⟨0,by omega,rfl,t⟩;rintro Y n vs f ⟨k,hk,rfl,o⟩ u;have hx:=o.aP 0 rfl;have g:=hx.aE;rw[length_map]at g;simp -dsimp only[nS.l5,nS.k4,g,gH,B.aK];refine B.bF (λhb=>?_) (λhb=>?_)
 ·rw[decide_eq_true_eq]at hb
  have I:P.drop k=P[k]::P.drop (k+1):=drop_eq_getElem_cons hb;have G:(P.map K.cs)[k]?=some (K.cells P[k].1 P[k].2):=by rw[getElem?_map,getElem?_eq_getElem hb];rfl
  have m:V.aM K.n x (.int .i64 (k:Int))=some (aV K.n x k 0):=hx.dF (by simpa using hb);simp -dsimp only[m,B.iL,hx.elem G,B.aK];rw[I]at o;have L:K.os true (P[k]::P.drop (k+1))=K.gy true P[k].1 P[k].2++K.os true (P.drop (k+1)):=by simp only[DK.os,flatMap_cons]
  rw[L]at o;have o':aG h0 f ((.sl K.n x (P.map K.cs) (d.map K.cs)::K.os true (P.drop (k+1)))++K.gy true P[k].1 P[k].2):=o.perm (by
   rw[cons_append];exact List.Perm.cons _ (perm_append_comm))
  obtain⟨q,o2⟩:=o'.out;refine y _ _ _ _ _ (s _ (getElem_mem hb)) o2 λh' hle=>?_;simp -dsimp only[eG (show k<4611686018427387904 by omega),B.aK];exact u (n-1) _ _ (by omega) ⟨k+1,by omega,rfl,q.grow hle⟩
 ·rw[decide_eq_false_iff_not]at hb
  have q:aG h0 f [.sl K.n x (P.map K.cs) (d.map K.cs)]:=o.sub (List.Sublist.cons_cons _ (nil_sublist _));obtain⟨z,M,e3,e4⟩:=hx.slice K.pos (lo:=0) (hi:=P.length+12) (a:=none) (b:=some (.int .i64 ((P.length+12:Nat):Int))) (.inl ⟨rfl,rfl⟩) (.inr ⟨_,rfl⟩) (by omega) (by simp;omega);have h1:((P.map K.cs++d.map K.cs).take (P.length+12)).drop 0=P.map K.cs++d.map K.cs:=by rw[drop_zero,take_of_length_le];simp;omega
  rw[h1]at e3;simp -dsimp only[nS.k3,g,V.fP,e1,M,B.aK];have r:aG h0 f [.sl K.n z (P.map K.cs++d.map K.cs) ((P.map K.cs++d.map K.cs).drop (P.length+12))]:=q.jB 0 rfl (o':= .sl K.n z (P.map K.cs++d.map K.cs) ((P.map K.cs++d.map K.cs).drop (P.length+12))) e3 (λid b H hb=>q.lg 0 rfl id b (by show cC x=some id;rw[<-e4];exact H) hb) (λj b hb _=>hb) (.inl e4);refine aB.intro (λn vs f=>∃(k:Nat)(L':List (List a7)),k+n=P.length+12 /\ vs=[.int .i64 k] /\ L'.length=P.length+12 /\ aG h0 f [.sl K.n z L' ((P.map K.cs++d.map K.cs).drop (P.length+12))]) (P.length+12) ?_ ⟨0,_,by omega,rfl,by simp[J],r⟩;rintro Y n vs f ⟨k,L',O,rfl,l,e⟩ u;have i:=(e.aP 0 rfl).aE;rw[l]at i;simp -dsimp only[nS.l2,nS.k1,i,gH,B.aK];refine B.bF (λv=>?_) (λv=>?_)
  ·rw[decide_eq_true_eq]at v
   have hk:k<L'.length:=by omega
   refine A _ _ _ _ λN U o2=>?_;simp -dsimp only[(e.aP 0 rfl).dF hk,B.aK];refine(e.grow o2.le).HG 0 rfl (c:=L'[k]) (by simp[hk]) (K.len _ N) λS D _=>?_;simp -dsimp only[eG (show k<4611686018427387904 by omega),B.aK];exact u (P.length+12-(k+1)) _ _ (by omega) ⟨k+1,_,by omega,rfl,by simp[l],D⟩
  ·exact E _ e.le
end
variable{C:aC}{N:zN}
def qE.Spec(C:aC)(N:zN):Prop:=DT bR C (N 401)
theorem qE.spec(i:qE.aD C N)(s1:qs.Spec C N)(s2:qp.Spec C N):qE.Spec C N:=by
 intro t a h0 h Q b e g;apply i;have e:aG h0 h ([.sl 2 a.1 (t.cO.map Part.cs) wa]++[.sl 1 a.2 (t.dL.map tc) uX]):=e;have d:=e.perm (perm_append_comm);obtain⟨f,o2⟩:=d.out;simp -dsimp[bR];refine s1 _ _ _ _ _ _ o2 (by simp[marks]) (by rw[length_map];exact b.1) λh1 hle=>?_;refine s2 _ _ _ _ _ _ (f.grow hle) (by simp[uX,jG]) (by rw[length_map];exact b.2) λj c=>?_;exact aR (g _ c)
def jj.Spec(C:aC)(N:zN):Prop:=∀(x:a7)(P a:List (en×a7×a7))(h0 h:a9)(Q:zQ),aG h0 h (.sl 4 x (P.map bR.cs) (a.map bR.cs)::(bR.os true P++bR.os false a))->(∀p∈P,bR.ok p.1)->a.length=12->P.length <= 100000000->(∀h',h0.le h'->Q (.bI []) h')->C (N 393) [x] h Q
theorem jj.spec(i:jj.aD C N)(s1:qE.Spec C N)(s2:n6.Spec C N):jj.Spec C N:=λx P f h0 h Q c a e d b=>i x h Q (FL bR s1 s2 c a e d λh' hle=>aR (b h' hle))
variable{C:aC}{N:zN}
abbrev Ih(s:dV)(x:a7)(P a:List (en×(a7×a7)))(y z:a7):List Ob:=(.sl 4 x (P.map bR.cs) (a.map bR.cs)::(bR.os true P++bR.os false a))++[.sl 6 y (s.bJ.map bZ.cs) uv]++[.sl 8 z (s.cE.map dC.cs) xe]
structure wM(h:a9)(s:dV)(x y z:a7):Prop where
 items:oZ bR sm h x s.cK
 iU:aJ h 6 y (s.bJ.map bZ.cs) uv
 lines:aJ h 8 z (s.cE.map dC.cs) xe
 n1:s.cK.length <= 100000000
 n2:s.bJ.length <= 100000000
 n3:s.cE.length <= 100000000
theorem wM.at{h:a9}{s:dV}{x y z:a7}(k:wM h s x y z):iD h s x y z:=⟨k.items.dl,⟨_,k.iU⟩,⟨_,k.lines⟩,k.n1,k.n2,k.n3⟩
theorem wM.mono{h h':a9}{s:dV}{x y z:a7}(k:wM h s x y z)(hle:h.le h'):wM h' s x y z:=⟨k.items.mono hle,k.iU.mono hle,k.lines.mono hle,k.n1,k.n2,k.n3⟩
def qv.Spec(C:aC)(N:zN):Prop:=∀(s:dV)(x y z:a7)(h:a9)(Q:zQ),iD h s x y z->(∀c P d b a h',P.map (·.1)=s.cK->d.map (·.1)=pU sm->aG h h' (Ih s c P d b a)->wM h' s c b a->Q (.agg (fp s c b a)) h')->C (N 446) [.agg (fp s x y z)] h Q
theorem qv.spec(i:qv.aD C N)(s1:jv.Spec C N)(s2:ox.Spec C N)(k:pC.Spec C N):qv.Spec C N:=by
 intro s x y z h Q m n;obtain⟨f,⟨R2,u⟩,⟨R3,t⟩,n1,n2,n3⟩:=m;apply i;simp -dsimp;refine s1 _ _ _ _ f n1 λd P v h1 e em c=>?_;have r:d.aI=true:=(c.aP 0 rfl).aI;simp -dsimp[r];refine s2 _ _ _ _ _ (u.mono c.le) n2 λj w o2=>?_;have q:=(o2.aP 0 rfl).aI;have b:=c.join o2;simp -dsimp[q];refine k _ _ _ _ _ (t.mono b.le) n3 λg o a=>?_;have p:=(a.aP 0 rfl).aI;simp -dsimp[p];have l:=b.join a;have k1:oZ bR sm h1 d s.cK:=oZ.of C8 f.ok e em c;refine aR (n d P v j g o e em l ⟨k1.mono (a9.le_trans o2.le a.le),(o2.aP 0 rfl).mono a.le,a.aP 0 rfl,n1,n2,n3⟩)
def qw.Spec(C:aC)(N:zN):Prop:=∀(s t:dV)(x y z u v w:a7)(h:a9)(Q:zQ),wM h s x y z->iD h t u v w->Q (.bool (decide (s=t))) h->C (N 447) [.agg (fp s x y z),.agg (fp t u v w)] h Q
theorem qw.spec(i:qw.aD C N)(r:nv.Spec C N)(s1:kj.Spec C N)(s2:mq.Spec C N)(q:mR.Spec C N):qw.Spec C N:=by
 intro s t x y z u v w h Q j g a;have h0:=j.at
 obtain⟨p,o,n,n1,n2,n3⟩:=j;have f:=g;obtain⟨m,⟨D,l⟩,⟨A,k⟩,m1,m2,m3⟩:=g;have d:=p.dl.aI;have c:=o.aI;have b:=n.aI;have d1:=m.aI;have d2:=l.aI;have d3:=k.aI;apply i;simp +contextual -dsimp[d,c,b,d1,d2,d3];refine r _ _ _ _ _ _ _ _ _ _ h0 f ?_;simp +contextual -dsimp[d,c,b,d1,d2,d3];refine B.gG (v:= .bool (decide (s.cK=t.cK))) (λ_ Q a=>s1 _ _ _ _ _ _ p m (by omega) a) ?_;simp +contextual -dsimp[d,c,b,d1,d2,d3];refine B.gG (v:= .bool (decide (s.bJ=t.bJ))) (λ_ Q a=>s2 _ _ _ _ _ _ _ o l (by omega) a) ?_;simp +contextual -dsimp[d,c,b,d1,d2,d3];refine B.gG (v:= .bool (decide (s.cE=t.cE))) (λ_ Q a=>q _ _ _ _ _ _ _ n k (by omega) a) ?_;simp -dsimp;refine aR ?_;have:decide (s=t)=(((decide (s=t)&&decide (s.cK=t.cK))&&decide (s.bJ=t.bJ))&&decide (s.cE=t.cE)):=by
  by_cases e:s=t
  ·subst e;simp
  ·simp[e]
 rw[this]at a;exact a
def qq.Spec(C:aC)(N:zN):Prop:=∀(s:dV)(x y z:a7)(P a:List (en×(a7×a7)))(h0 h:a9)(Q:zQ),P.map (·.1)=s.cK->a.map (·.1)=pU sm->aG h0 h (Ih s x P a y z)->(∀t∈s.cK,t.ok)->s.cK.length+s.bJ.length+s.cE.length <= 100000000->(∀h',h0.le h'->Q (.bI []) h')->C (N 448) [.agg (fp s x y z)] h Q
theorem qq.spec(i:qq.aD C N)(s1:jj.Spec C N)(s2:pF.Spec C N)(k:qt.Spec C N):qq.Spec C N:=by
 intro s x y z P g h0 h Q f n a d t l;apply i;have a:aG h0 h (((.sl 4 x (P.map bR.cs) (g.map bR.cs)::(bR.os true P++bR.os false g))++[.sl 6 y (s.bJ.map bZ.cs) uv])++[.sl 8 z (s.cE.map dC.cs) xe]):=a;have r:x.aI=true:=(a.aP 0 rfl).aI;have a:=a.perm perm_append_comm;obtain⟨b,e⟩:=a.out;have o:=(b.aP 0 rfl).aI;have q:y.aI=true:=((e.perm perm_append_comm).aP 0 rfl).aI;simp -dsimp[r,q,o];obtain⟨c,j⟩:=(e.perm perm_append_comm).out;refine s1 _ _ _ _ _ _ j (λp m=>d _ (by rw[<-f];exact mem_map.2 ⟨p,m,rfl⟩)) (by have:=congrArg List.length n;rw[length_map]at this;rw[this];simp[pU]) (by have:=congrArg List.length f;rw[length_map]at this;rw[this];omega) λh1 l1=>?_;have c:=c.grow l1;refine s2 _ _ _ _ _ _ c (by simp[uv,marks]) (by rw[length_map];omega) λv l2=>?_;have b:=b.grow l2;refine k _ _ _ _ _ _ b (by simp[xe,marks]) (by rw[length_map];omega) λu l3=>?_;exact aR (l _ l3)
def qu.jJ(C:aC)(N:zN):Prop:=∀(h0 h:a9)(x:a7)(s:List UInt8)(Q:zQ),aG h0 h [gw true x s]->s.length <= ep->(∀h',h0.le h'->Q (.bI []) h')->C (N 40) [x] h Q
theorem qu.sT(i:qu.aD C N)(s1:na.Spec C N):qu.jJ C N:=λh0 h x s Q a hlen b=>
 i x h Q (Fy (es:=1) (st:=λh p v K=>B.st h p v K) (by omega) (v:=λi=> .int .u8 ((nF 2 i).toNat:Int)) (s1 2) (λa hi c=>GV rfl a hi c) (a:aG h0 h [.sl 1 x (s.map bc) _]) (by simp[GD,marks]) (by rw[length_map];unfold ep at hlen;omega) λh' hle=>aR (b h' hle))
def jk.Bq(C:aC)(N:zN):Prop:=∀(x:a7)(L:List Row)(h:a9)(Q:zQ),Dl aQ h x L->L.length <= 100000000->(∀a P b h',P.map (·.1)=L->b.map (·.1)=pU vo->aG h h' (.sl 2 a (P.map aQ.cs) (b.map aQ.cs)::(aQ.os true P++aQ.os false b))->oZ aQ vo h' a L->Q a h')->C (N 254) [x] h Q
theorem jk.Qq(i:jk.aD C N)(s1:n9.Spec C N)(s2:qP.Spec C N):jk.Bq C N:=λx L h Q hx e d=>i x h Q (FT (K:=aQ) s1 s2 hx e λc P f h' e1 b a=>aR (d c P f h' e1 b a (oZ.of CI hx.ok e1 b a)))
def qO.Spec(C:aC)(N:zN):Prop:=DT aQ C (N 468)
theorem qO.spec(i:qO.aD C N)(s1:qu.jJ C N):qO.Spec C N:=by
 intro t a h0 h Q b c g;apply i;have c:aG h0 h ([gw true a.1 t.Key]++[gw true a.2 t.Value]):=c;have e:=c.perm (perm_append_comm);obtain⟨f,o2⟩:=e.out;have k:a.1.aI=true:=(c.aP 0 rfl).aI;have j:a.2.aI=true:=(c.aP 1 rfl).aI;simp -dsimp[aQ,k,j];refine s1 _ _ _ _ _ o2 b.1 λh1 hle=>?_;refine s1 _ _ _ _ _ (f.grow hle) b.2 λl d=>?_;exact aR (g _ d)
def iW.Spec(C:aC)(N:zN):Prop:=∀(x:a7)(P a:List (Row×a7×a7))(h0 h:a9)(Q:zQ),aG h0 h (.sl 2 x (P.map aQ.cs) (a.map aQ.cs)::(aQ.os true P++aQ.os false a))->(∀p∈P,aQ.ok p.1)->a.length=12->P.length <= 100000000->(∀h',h0.le h'->Q (.bI []) h')->C (N 451) [x] h Q
theorem iW.spec(i:iW.aD C N)(s1:qO.Spec C N)(s2:n9.Spec C N):iW.Spec C N:=λx P f h0 h Q c a e d b=>i x h Q (FL aQ s1 s2 c a e d λh' hle=>aR (b h' hle))
end Go.Ab
namespace Go.Ab
open List
variable{C:aC}{N:zN}
@[simp] def sM.k1(C:aC)(n f:Nat)(Q:zQ)(Y1:zL)(v0 v1 v4:a7)(h:a9):Prop:=B.pv (V.aE v1) λd=>B.pv (V.bin .lss v4 d) λc=>B.cond c (B.pv (V.aM n v1 v4) λb=>B.cR h b n λa=>B.call C f [v0,a] h λe h=>B.pv (V.bin .add v4 (.int .i64 1)) λv20=>Y1 [v20] h) (Q (.bI []) h)
@[simp] def sM.l2(C:aC)(n f:Nat)(Q:zQ)(v0 v1:a7):zG|[v4],h,Y1=>sM.k1 C n f Q Y1 v0 v1 v4 h|_,_,_=>False
def sM(C:aC)(k n f:Nat)(v0 v1:a7)(h:a9)(Q:zQ):Prop:=DY k v0 v1 h λ_ h=>aB (sM.l2 C n f Q v0 v1) [(.int .i64 0)] h
section
variable{T Ad:Type}{K:DK T Ad}{inn:T->Ad->LK}
abbrev jD(inn:T->Ad->LK)(P:List (T×Ad)):LK:=P.flatMap λp=>inn p.1 p.2
def y0(K:DK T Ad)(inn:T->Ad->LK)(C:aC)(g:Nat):Prop:=∀(h b:a9)(id:Nat)(L:Nat->List a7)(t:T)(a:Ad)(Q:zQ),jA h b id L->K.at_ b t a->(L 4).length+(inn t a).length <= 100000000->(∀h',jA h h' id (dU L 4 (L 4++(inn t a).map (·.1)))->Q (.bI []) h')->C g [.ptr id 0 0,.agg (K.cells t a)] b Q
theorem MX{k f:Nat}(hk:k<23)(m:k≠4)(s1:y0 K inn C f){h i:a9}{id:Nat}{L:Nat->List a7}{y:a7}{P:List (T×Ad)}{R:List (List a7)}{Q:zQ}(hb:jA h i id L)(t:aJ h K.n y (P.map K.cs) R)(w:∀p∈P,K.at_ h p.1 p.2)
  (l1:(L k).length <= 100000000) (l2:(L 4).length+(jD inn P).length <= 100000000) (l3:P.length <= 100000000)
  (l:∀h',jA h h' id (dU (dU L k (L k++[y])) 4 (L 4++(jD inn P).map (·.1)))->Q (.bI []) h'):sM C k K.n f (.ptr id 0 0) y i Q:=by
 refine uW hk hb t.aI l1 λh1 r=>?_;have e4:dU L k (L k++[y]) 4=L 4:=jy _ _ (Ne.symm m)
 refine aB.intro (λn vs i=>∃j:Nat,j+n=P.length /\ vs=[.int .i64 (j:Int)] /\ jA h i id (dU (dU L k (L k++[y])) 4 (L 4++(jD inn (P.take j)).map (·.1)))) P.length ?_ ⟨0,by simp,rfl,by
  have:dU (dU L k (L k++[y])) 4 (L 4++(jD inn (P.take 0)).map (·.1))=dU L k (L k++[y]):=by
   simp only[take_zero,flatMap_nil,map_nil,append_nil]
   conv=>lhs;rw[<-e4]
   exact si _ _
  rw[this];exact r⟩
 rintro Y n vs v ⟨j,A,rfl,a⟩ x;have c:=t.mono a.le;have d:=c.aE;rw[length_map]at d;simp -dsimp only[sM.l2,sM.k1,d,V.mw,B.aK];refine B.bF (λo=>?_) (λo=>?_)
 ·have b:j<P.length:=by simpa using o
  obtain⟨p,u⟩:=dI b;have s:=vz (K:=K) c (λq l=>K.mono a.le (w q l)) u;have hsplit:P.take (j+1)=P.take j++[p]:=take_succ u;have hlen:(jD inn (P.take j)).length+(inn p.1 p.2).length <= (jD inn P).length:=by
   have e:P=P.take (j+1)++P.drop (j+1):=(take_append_drop _ _).symm;have z:jD inn P=jD inn (P.take j)++(inn p.1 p.2++jD inn (P.drop (j+1))):=by
    conv=>lhs;rw[e,hsplit]
    simp[jD]
   rw[z];simp only[length_append];omega
  simp -dsimp only[s.idx,s.cR,B.aK,B.iL];refine s1 h v id _ p.1 p.2 _ a s.at_ (by rw[gR];simp only[length_append,length_map];omega) λD g=>?_;simp -dsimp only[eG (show j<4611686018427387904 by omega),B.aK];refine x (P.length-(j+1)) _ _ (by omega) ⟨j+1,by omega,rfl,?_⟩;rw[uy,gR,append_assoc]at g;rw[hsplit];simpa[jD]using g
 ·have b:j=P.length:=by
   have:¬ (j:Int)<P.length:=by simpa using o
   omega
  rw[b,take_length]at a;exact l v a
def pX(K:DK T Ad)(ls:List (a7×List (T×Ad))):List Ob:=ls.flatMap λp=> .sl K.n p.1 (p.2.map K.cs) []::K.os false p.2
theorem MM(b:∀t a,K.gy false t a=(inn t a).map (jK 1))(ls:List (a7×List (T×Ad))):(pX K ls).Perm ((ls.flatMap λp=>jD inn p.2).map (jK 1)++(ls.map λp=>(p.1,p.2.map K.cs)).map (jK K.n)):=by
 have d:∀P:List (T×Ad),K.os false P=(jD inn P).map (jK 1):=λP=>by
  unfold DK.os jD
  induction P with
  | nil=>rfl
  | cons p P c=>rw[flatMap_cons,flatMap_cons,map_append,<-c,b]
 induction ls with
 | nil=>exact List.Perm.refl _
 | cons p ls c=>
  unfold pX at c ⊢;rw[flatMap_cons,flatMap_cons,map_append,map_cons,map_cons,d];simp only[append_assoc];have h1:=c.append_left ((jD inn p.2).map (jK 1));refine(List.Perm.cons _ h1).trans ?_;have:(jK K.n (p.1,p.2.map K.cs))=Ob.sl K.n p.1 (p.2.map K.cs) []:=rfl;rw[<-this];rw[<-append_assoc,<-append_assoc];exact perm_middle.symm
def Bj(K:DK T Ad)(C:aC)(g:Nat):Prop:=∀(ls:List (a7×List (T×Ad)))(x:a7)(W:List (List a7))(h0 h:a9)(Q:zQ),aJ h0 1 x (ls.map λp=>[p.1]) W->aG h0 h (pX K ls)->(∀p∈ls,∀q∈p.2,K.ok q.1)->ls.length <= 1000->(∀p∈ls,p.2.length <= 3000)->(∀h',h0.le h'->Q (.bool true) h')->C g [x] h Q
theorem He{c:Nat}(d:∀t a,(inn t a).length <= c)(P:List (T×Ad)):(jD inn P).length <= P.length*c:=by
 induction P with
 | nil=>simp[jD]
 | cons p P b=>
  have:=d p.1 p.2;simp only[jD,flatMap_cons,length_append,length_cons,Nat.add_mul]at b ⊢;omega
theorem LZ{b:js}{k fo fu:Nat}(hk:k<23)(m:k≠4)(hf:∀i,b.full i=false->i≠k /\ i≠4)(F:b.mh 4=140737488351232)(P:3000 <= b.mh k)
  (z:∀(f u:LK),iu b (λi=>if i=k then u else if i=4 then f else []) 0 23=f.map (jK 1)++u.map (jK K.n))
  (G:∀t a,K.gy false t a=(inn t a).map (jK 1)) (hlen:∀t a,K.ok t->∀q∈inn t a,q.2.length <= ep) (v:∀t a,(inn t a).length <= 8)
  (s1:∀(v0 v1:a7)(h:a9)(Q:zQ),sM C k K.n fo v0 v1 h (dn Q)->C fu [v0,v1] h Q) (s2:y0 K inn C fo) {fb:Nat} (s3:oU C b fb)
  {ls:List (a7×List (T×Ad))} {x:a7} {W:List (List a7)} {h0 h:a9} {Q:zQ} (hx:aJ h0 1 x (ls.map λp=>[p.1]) W) (I:aG h0 h (pX K ls)) (D:∀p∈ls,∀q∈p.2,K.ok q.1) (hn:ls.length <= 1000) (y:∀p∈ls,p.2.length <= 3000)
  (c:∀h',h0.le h'->Q (.bool true) h'):oQ C fu fb x h Q:=by
 simp -dsimp[oQ];intro id U;have mN:∀l:List (a7×List (T×Ad)),(∀p∈l,p.2.length <= 3000)->(l.flatMap λp=>jD inn p.2).length <= l.length*24000:=by
  intro l
  induction l with
  | nil=>intro _;simp
  | cons p l ih=>
   intro y;have h1:=ih λq c=>y q (mem_cons_of_mem _ c);have L:=He (inn:=inn) v p.2;have h3:=y p (by simp);have h4:=Nat.mul_le_mul_right 8 h3;simp only[flatMap_cons,length_append,length_cons,Nat.add_mul]at h1 ⊢;omega
 let bagOf:List (a7×List (T×Ad))->Nat->List a7:=λl i=>if i=k then l.map (·.1) else if i=4 then (l.flatMap λp=>jD inn p.2).map (·.1) else []
 have step:∀(l:List (a7×List (T×Ad)))(p:a7×List (T×Ad)),dU (dU (bagOf l) k (bagOf l k++[p.1])) 4 (bagOf l 4++(jD inn p.2).map (·.1))=bagOf (l++[p]):=λl p=>by
  funext i;show dU (dU (bagOf l) k (bagOf l k++[p.1])) 4 (bagOf l 4++(jD inn p.2).map (·.1)) i=if i=k then (l++[p]).map (·.1) else if i=4 then ((l++[p]).flatMap λp=>jD inn p.2).map (·.1) else []
  unfold dU;by_cases h1:i=4
  ·subst h1
   simp only[if_true,if_neg (Ne.symm m)];show (if 4=k then l.map (·.1) else if 4=4 then (l.flatMap λp=>jD inn p.2).map (·.1) else [])++_=_;rw[if_neg (Ne.symm m),if_pos rfl];simp
  ·by_cases L:i=k
   ·subst L
    simp only[if_neg h1,if_true];show (if i=i then l.map (·.1) else _)++_=_;rw[if_pos rfl];simp
   ·simp only[if_neg h1,if_neg L]
    show (if i=k then _ else if i=4 then _ else [])=[];rw[if_neg L,if_neg h1]
 refine aB.intro (λn vs J=>∃j:Nat,j+n=ls.length /\ vs=[.int .i64 j] /\ jA h J id (bagOf (ls.take j))) ls.length ?_ ⟨0,by simp,by simp,by
  have:=jA.start U;have e:bagOf (ls.take 0)=λ_=>[]:=by funext i;show (if i=k then _ else if i=4 then _ else [])=[];split<;>simp
  rw[e];exact this⟩
 rintro Y n vs J ⟨j,hj,rfl,hb⟩ hY;have w:=hx.mono (a9.le_trans I.le hb.le);have E:=w.aE;rw[length_map]at E;simp -dsimp only[oQ.l2,oQ.k1,E,V.mw,B.aK];refine B.bF (λZ=>?_) (λZ=>?_)
 ·have s:j<ls.length:=by simpa using Z
  obtain⟨p,d⟩:=dI s;have g:=mem_of_getElem? d;have S:j<(ls.map λp=>[p.1]).length:=by simpa using s
  have R:A.bX J (aV 1 x j 0)=some p.1:=w.cell (by rw[getElem?_map,d];rfl);simp -dsimp only[w.dF S,R,B.aK,B.fw];have N:aJ h K.n p.1 (p.2.map K.cs) []:=I.is (.sl K.n p.1 (p.2.map K.cs) []) (mem_flatMap.2 ⟨p,g,by simp⟩);have hat:∀q∈p.2,K.at_ h q.1 q.2:=λq c=>K.mG (b:=false) (D p g q c) λo O=>I.is o (mem_flatMap.2 ⟨p,g,mem_cons_of_mem _ (mem_flatMap.2 ⟨q,c,O⟩)⟩);have c1:=mN (ls.take j) λq c=>y q (mem_of_mem_take c);have c2:=He (inn:=inn) v p.2;have c3:=y p g;have c4:=Nat.mul_le_mul_right 8 c3;have c5:(ls.take j).length*24000 <= 1000*24000:=Nat.mul_le_mul_right _ (by rw[length_take];omega);refine s1 _ _ _ _ (MX hk m s2 hb N hat ?_ ?_ (by omega) λh3 H=>aR ?_)
  ·show (if k=k then (ls.take j).map (·.1) else _).length <= _
   rw[if_pos rfl,length_map,length_take];omega
  ·show (if 4=k then _ else if 4=4 then ((ls.take j).flatMap λp=>jD inn p.2).map (·.1) else []).length+_ <= _
   rw[if_neg (Ne.symm m),if_pos rfl,length_map];omega
  ·simp -dsimp only[eG (show j<4611686018427387904 by omega),B.aK]
   refine hY (n-1) _ _ (by omega) ⟨j+1,by omega,rfl,?_⟩;rw[step]at H;rw[take_succ d];exact H
 ·have s:j=ls.length:=by
   have:¬ (j:Int)<ls.length:=by simpa using Z
   omega
  rw[s,take_length]at hb
  let f:LK:=ls.flatMap λp=>jD inn p.2
  let u:LK:=ls.map λp=>(p.1,p.2.map K.cs)
  obtain⟨xs,ob⟩:=hb;have d:=MM G ls;rw[<-z]at d;obtain⟨M,q2⟩:=(((I.perm d).join ob).perm perm_append_comm).out;obtain⟨id',e,hbx⟩:=M.fE 23 cS.sR;cases e;have c1:=mN ls y;have c5:ls.length*24000 <= 1000*24000:=Nat.mul_le_mul_right _ hn;refine s3 id (λi=>if i=k then u else if i=4 then f else []) xs _ J Q ⟨hbx,λi hi=>?_,λi hi X=>?_,λi hi=>?_,λi hi q c=>?_⟩ q2 λh' hle=>c h' (a9.le_trans M.le hle)
  ·have:=M.aP i (cS.lq hi)
   have e:(bagOf ls i).map uK=((λi=>if i=k then u else if i=4 then f else []) i:LK).map λq=>[q.1]:=by
    show (if i=k then ls.map (·.1) else if i=4 then f.map (·.1) else []).map uK=(if i=k then u else if i=4 then f else []).map λq=>[q.1];split
    ·rw[map_map,map_map];rfl
    ·split
     ·rw[map_map];rfl
     ·rfl
   rw[e]at this;exact this
  ·have:=hf i X
   show (if i=k then u else if i=4 then f else [])=[];rw[if_neg this.1,if_neg this.2]
  ·show (if i=k then u else if i=4 then f else []).length <= _
   split
   ·show (ls.map _).length <= _
    rw[length_map];omega
   ·split
    ·show (ls.flatMap _).length <= _
     omega
    ·simp
  ·have c:q∈(if i=k then u else if i=4 then f else []):=c
   by_cases e:i=k
   ·rw[if_pos e]at c
    obtain⟨p,d,rfl⟩:=mem_map.1 c;have:=y p d;rw[e];simp only[length_map];omega
   ·rw[if_neg e]at c
    by_cases e4:i=4
    ·rw[if_pos e4]at c
     obtain⟨p,d,c⟩:=mem_flatMap.1 c;obtain⟨r,hr,c⟩:=mem_flatMap.1 c;rw[e4,F];exact hlen r.1 r.2 (D p d r hr) q c
    ·rw[if_neg e4]at c;cases c
end
def v3(t:Row)(a:a7×a7):LK:=[(a.1,t.Key.map bc),(a.2,t.Value.map bc)]
theorem qm.spec(i:qm.aD C N)(s1:jQ C 4 (N 63)):y0 aQ v3 C (N 315):=by
 intro h c id L t a Q hb g f e;obtain⟨l,k⟩:Bs c a.1 t.Key /\ Bs c a.2 t.Value:=g;simp only[v3,length_cons,length_nil]at f;apply i;simp -dsimp[aQ];refine s1 h c id L _ _ hb l.aI (by omega) λh1 d=>?_;refine s1 h h1 id _ _ _ d k.aI (by rw[gR];simp;omega) λj b=>?_;rw[gR,uy,append_assoc]at b;exact aR (e j b)
theorem Mp(t:Row)(a:a7×a7)(hk:aQ.ok t):∀q∈v3 t a,q.2.length <= ep:=by
 intro q b;simp only[v3,mem_cons,not_mem_nil,or_false]at b;rcases b with rfl|rfl
 ·simpa using hk.1
 ·simpa using hk.2
def pW(x:Row):Bool:=decide (x.Key.head?=some 97)
def yQ:Option Row->List Row->Bool|_,[]=>true|p,x::l=> !rr p x&&yQ (some x) l
def AX:List Row->dV->Option dV|[],s=>some s|x::l,s=>if (oV x s).2=true then none else AX l (oV x s).1
abbrev ko(l:List Row):List Row:=l.filter λx=> !pW x
theorem CC:∀(l:List Row)(p:Option Row)(s s':dV)(m a:List Row),rI l p s m=some (s',a)->yQ p l=true /\ a=m++ko l /\ AX (ko l) s=some s'
 | [],p,s,s',m,a,h=>by
  cases h
  simp[yQ,AX]
 | x::l,p,s,s',m,a,h=>by
  rw[rI]at h
  by_cases b:rr p x=true
  ·rw[if_pos b]at h;cases h
  ·rw[if_neg b]at h
   have b:rr p x=false:=by simpa using b
   by_cases c:x.Key.head?=some 97
   ·rw[if_pos c]at h
    have e:ko (x::l)=ko l:=by simp[ko,pW,c]
    obtain⟨h1,f,d⟩:=CC l (some x) s s' m a h
    rw[e]
    exact⟨by simp[yQ,b,h1],f,d⟩
   ·rw[if_neg c]at h
    have e:ko (x::l)=x::ko l:=by simp[ko,pW,c]
    by_cases hb:(oV x s).2=true
    ·rw[if_pos hb]at h;cases h
    ·rw[if_neg hb]at h
     obtain⟨h1,f,d⟩:=CC l (some x) _ s' _ a h
     rw[e]
     refine⟨by simp[yQ,b,h1],by rw[f,append_assoc];rfl,?_⟩
     rw[AX,if_neg hb];exact d
structure P4(s:dV):Prop where
 RC:0 <= s.ju
 RB:s.ju <= 4000
 RE:0<s.jo
 RD:s.jo <= 4611686018427387904
 R7:0<s.jl
 R6:s.jl <= 4611686018427387904
 items:w9 s.cK=true
 iU:yK s.bJ=true
 lines:yB s.cE=true
theorem Na{s:dV}:jz s=true↔P4 s:=by
 unfold jz uG;simp only[Bool.and_eq_true,decide_eq_true_eq];constructor
 ·rintro⟨⟨⟨⟨⟨⟨a,b⟩,c⟩,d⟩,e⟩,f⟩,g,h,i⟩
  exact⟨a,b,c,d,e,f,g,h,i⟩
 ·rintro⟨a,b,c,d,e,f,g,h,i⟩
  exact⟨⟨⟨⟨⟨⟨a,b⟩,c⟩,d⟩,e⟩,f⟩,g,h,i⟩
theorem Ns(p a b:List UInt8):iC (p++a) (p++b)=iC a b:=by
 induction p with
 | nil=>rfl
 | cons c p d=>rw[cons_append,cons_append,xk,d];simp
theorem Gm(n k:Nat):be (n:Int) (k+1)=UInt8.ofNat (n / 256 ^ k % 256)::be (n:Int) k:=by
 rw[be];congr 1;have e1:(2:Int) ^ (8*k)=((256 ^ k:Nat):Int):=by rw[Int.pow_mul];simp
 rw[e1,Int.fdiv_eq_ediv_of_nonneg _ (Int.natCast_nonneg _),<-Int.natCast_ediv];apply UInt8.toNat_inj.1;have h1:=D5 ((n / 256 ^ k:Nat):Int);have a:(UInt8.ofNat (n / 256 ^ k % 256)).toNat=n / 256 ^ k % 256:=by simp
 rw[a];omega
theorem Hb:∀(k a b:Nat),iC (be (a:Int) k) (be (b:Int) k)=decide (a % 256 ^ k<b % 256 ^ k)
 | 0,a,b=>by simp[be,Nt,Nat.mod_one]
 | k+1,a,b=>by
  rw[Gm,Gm,xk,Hb k a b];have e1:a % 256 ^ (k+1)=a % 256 ^ k+256 ^ k*(a / 256 ^ k % 256):=by rw[Nat.pow_succ,Nat.mod_mul]
  have e:b % 256 ^ (k+1)=b % 256 ^ k+256 ^ k*(b / 256 ^ k % 256):=by rw[Nat.pow_succ,Nat.mod_mul]
  rw[e1,e];have d:0<256 ^ k:=Nat.pow_pos (by omega);have g:=Nat.mod_lt a d;have hb:=Nat.mod_lt b d;have hu:a / 256 ^ k % 256<256:=Nat.mod_lt _ (by omega);have f:b / 256 ^ k % 256<256:=Nat.mod_lt _ (by omega);generalize a / 256 ^ k % 256=u at *;generalize b / 256 ^ k % 256=v at *;generalize a % 256 ^ k=x at *;generalize b % 256 ^ k=y at *;generalize 256 ^ k=m at *;have lt:(UInt8.ofNat u<UInt8.ofNat v)↔u<v:=by
   rw[UInt8.lt_iff_toNat_lt];simp;omega
  have eq:(UInt8.ofNat u==UInt8.ofNat v)=decide (u=v):=by
   rw[Bool.eq_iff_iff,beq_iff_eq,decide_eq_true_eq,<-UInt8.toNat_inj];simp;omega
  rw[eq,decide_eq_decide.2 lt];rcases Nat.lt_trichotomy u v with h|h|h
  ·have c:m*(u+1) <= m*v:=Nat.mul_le_mul_left _ h
   rw[Nat.mul_add,Nat.mul_one]at c;rw[decide_eq_true h,decide_eq_true (show x+m*u<y+m*v by omega)];rfl
  ·subst h
   rw[decide_eq_false (Nat.lt_irrefl _),decide_eq_true rfl,Bool.false_or,Bool.true_and];exact decide_eq_decide.2 (by omega)
  ·have c:m*(v+1) <= m*u:=Nat.mul_le_mul_left _ h
   rw[Nat.mul_add,Nat.mul_one]at c;rw[decide_eq_false (show ¬ u<v by omega),decide_eq_false (show ¬ u=v by omega),decide_eq_false (show ¬ x+m*u<y+m*v by omega)];rfl
theorem Pg{T:Type}{R:Row->Row->Prop}{f:T->Row}{S:T->T->Prop}{l:List T}(h:l.Pairwise S)(c:∀x∈l,∀y∈l,S x y->R (f x) (f y)):(l.map f).Pairwise R:=by
 rw[pairwise_map];exact h.imp_of_mem λhx a b=>c _ hx _ a b
theorem CY{s r:Int}(h:jc s r 0=false){i:Nat}(hi:i<1000):jc s r (i:Int)=false:=by
 unfold jc at h ⊢;simp only[Bool.or_eq_false_iff,decide_eq_false_iff_not]at h ⊢;omega
theorem AO{s r:Int}(h:jc s r 0=false){i:Nat}(hi:i<1000):dY s r (i:Int)=97::dN s::(be r 8++be (i:Int) 2):=by
 unfold dY;rw[CY h hi];rfl
theorem Dn{s r:Int}:dY s r 0=[]↔jc s r 0=true:=by
 unfold dY;cases jc s r 0<;>simp
theorem Hc{s r:Int}(h:jc s r 0=false){i:Nat}(hi:i<1000):(dY s r (i:Int)).take 10=97::dN s::be r 8:=by
 rw[AO h hi];simp[take_append]
theorem Nu{s r:Int}(h:jc s r 0=false):(dY s r 0).take 10=97::dN s::be r 8:=Hc h (i:=0) (by omega)
theorem M5{s r:Int}(h:jc s r 0=false)(b:List UInt8){i:Nat}(hi:i<1000):iP s r (kM s r b i)=true:=by
 unfold iP kM;simp only;rw[yj (CY h hi),Hc h hi,Nu h];simp
theorem Mf(b:List UInt8)(k:Nat):b.take (180*k)++mA b k=b.take (180*(k+1)):=by
 unfold mA;rw[show 180*(k+1)=180*k+180 by omega,take_add]
theorem EW{s r:Int}(h:jc s r 0=false){b:List UInt8}(hb:gC b <= 1000):∀(m k:Nat)(l:List Row),k+m=gC b->kO s r ((List.range' k m).map (kM s r b)++l) (b.take (180*k)) k true=kO s r l b (k+m) true
 | 0,k,l,hk=>by
  have:b.take (180*k)=b:=take_of_length_le (by unfold gC at hk;omega);rw[this];rfl
 | m+1,k,l,hk=>by
  have a:k<gC b:=by omega
  have c:=xd.1 a;rw[range'_succ,map_cons,cons_append,kO,if_pos (M5 h b (by omega))];have e1:b.take (180*k)++(kM s r b k).Value=b.take (180*(k+1)):=Mf b k;have d:xz s r (b.take (180*k)) k (kM s r b k)=true:=by
   unfold xz kM mA;simp only[Bool.and_eq_true,decide_eq_true_eq,length_take,length_drop];refine⟨⟨⟨?_,?_⟩,?_⟩,?_⟩<;>first|trivial|omega
  rw[e1,d,Bool.true_and];have:=EW h hb m (k+1) l (by omega);rw[this];congr 1;omega
theorem Ow{s r:Int}(h:jc s r 0=false){b:List UInt8}(hb:gC b <= 1000):∀x∈(List.range (gC b)).map (kM s r b),∃q,x.Key=97::q:=by
 intro x hx;obtain⟨i,hi,rfl⟩:=mem_map.1 hx;exact⟨_,AO h (by have:=mem_range.1 hi;omega)⟩
theorem Pz{s r:Int}(h:jc s r 0=false){b:List UInt8}(hb:gC b <= 1000):((List.range (gC b)).map (kM s r b)).Pairwise (λx y=>iC x.Key y.Key=true):=by
 refine Pg (S:=λa b=>a<b) pairwise_lt_range λi hi j d c=>?_;have h1:=mem_range.1 hi;have e:=mem_range.1 d;show iC (dY s r i) (dY s r j)=true;rw[AO h (by omega),AO h (by omega),xk,xk,Ns,Hb,Nat.mod_eq_of_lt (by simp;omega),Nat.mod_eq_of_lt (by simp;omega)];simp[c]
theorem Lz:(fY []).2.2≠0:=λh=>by
 obtain⟨_,_,_,h1,a⟩:=FE h
 simp at h1
 omega
theorem xX(t:cW):gC (fX t).1 <= 1000:=by
 have:=Cy t;unfold gC;omega
theorem Gn{s r:Int}{t:cW}(he:(fX t).2=0)(hk:jc s r 0=false):fQ s r t=((List.range (gC (fX t).1)).map (kM s r (fX t).1),0):=by
 unfold fQ;rw[if_neg];rintro(e|e)
 ·exact e he
 ·rw[Dn,hk]at e;cases e
theorem Ma{s r:Int}{t:cW}(h:¬ ((fX t).2=0 /\ jc s r 0=false)):fQ s r t=([],2):=by
 unfold fQ;rw[if_pos];by_cases he:(fX t).2=0
 ·right
  rw[Dn];cases hk:jc s r 0 with
  | true=>rfl
  | false=>exact absurd ⟨he,hk⟩ h
 ·exact .inl he
theorem yc(s r:Int)(t:cW):(∀x∈(fQ s r t).1,∃q,x.Key=97::q) /\ (fQ s r t).1.Pairwise (λx y=>iC x.Key y.Key=true) /\ (fQ s r t).1.length <= 1000 /\ (∀x∈(fQ s r t).1,x.Key.length=12 /\ x.Value.length <= 180):=by
 by_cases h:(fX t).2=0 /\ jc s r 0=false
 ·rw[Gn h.1 h.2]
  refine⟨Ow h.2 (xX t),Pz h.2 (xX t),by simpa using xX t,λx hx=>?_⟩;obtain⟨i,hi,rfl⟩:=mem_map.1 hx;have:=mem_range.1 hi;have:=xX t;refine⟨yj (CY h.2 (by omega)),?_⟩;simp only[kM,mA,length_take];omega
 ·rw[Ma h]
  exact⟨by simp,.nil,by simp,by simp⟩
variable{C:aC}{N:zN}
def uA:en:=⟨[65],5,[],[]⟩
def DA:bZ:=⟨1,[65],3,8,5,true⟩
def jS:dV:=⟨3,2,1,[uA],[DA],[]⟩
theorem AA:pd jS 2:=⟨by simp[jS],λt a=>by rw[mem_singleton.1 a];exact⟨Nat.zero_le _,Nat.zero_le _⟩⟩
theorem CD:allRows jS=[⟨[42,100,97,121],[0,3]⟩,⟨[42,108,105,110,101],[0,0,0,0,0,0,0,1]⟩,⟨[42,108,111,116],[0,0,0,0,0,0,0,2]⟩,⟨[105,65],[0,5,0,0]⟩,⟨[108,0,0,0,0,0,0,0,1],[1,65,0,3,0,8,0,0,0,5,1]⟩]:=by decide +kernel
theorem L7:jb (allRows jS)=(jS,0):=by decide +kernel
def sG:cW:=⟨5,0,0,[],0,[],[]⟩
theorem ye:fQ 1 7 sG=([⟨[97,1,0,0,0,0,0,0,0,7,0,0],[0,5]⟩],0):=by decide +kernel
theorem Nx:gS 1 7 (fQ 1 7 sG).1=(sG,true):=by decide +kernel
def pI.Spec(C:aC)(N:zN):Prop:=∀(h:a9)(Q:zQ),(∀x P y z h',P.map (·.1)=jS.cK->aG h h' (fU jS x P y z)->Q (.agg (fp jS x y z)) h')->C (N 422) [] h Q
theorem pI.spec(i:pI.aD C N):pI.Spec C N:=by
 intro h Q c;apply i;simp -dsimp;intro i2 f;have b:=(aG.start h).gU (id:=i2) (n:=1) (cp:=1) (es:=4) (cs:=[.str [65],.int .i64 5,.aA,.aA]) (L:=[bR.cs (uA,(.aA,.aA))]) (R:=[]) f (λp d=>by rw[mem_singleton.1 d];rfl) rfl (by simp) rfl;generalize bQ h i2 (cG _)=h1 at *;simp -dsimp;intro i5 e;have o2:=b.gU (id:=i5) (n:=1) (cp:=1) (es:=6) (cs:=DA.cs) (L:=[DA.cs]) (R:=[]) e (by simp) rfl (by simp) (by simp);have a:=((o2.aA 8).aA 2).aA 1;simp -dsimp;exact aR (c _ [(uA,(.aA,.aA))] _ _ _ rfl a)
def kk.Spec(C:aC)(N:zN):Prop:=∀(h:a9)(Q:zQ),Q (.bool true) h->C (N 418) [] h Q
theorem kk.spec(i:kk.aD C N)(s1:pI.Spec C N)(s2:cM.Spec C N)(s3:et.Spec C N)(s4:gM.Spec C N)(s5:gF.Spec C N)(J:nw.jJ C N)(s7:nv.Spec C N):kk.Spec C N:=by
 intro h Q hq;apply i;simp -dsimp only[kk.aY,kk.k1];refine s1 _ _ λx P y z h1 eP o1=>?_;have a1:iD h1 jS x y z:=fU.at o1 (λo B=>B) eP AA (by omega);refine s2 _ _ _ _ _ _ a1 (by simp[jS]) λr R h2 eR o2=>?_;have dr:Dl aQ h2 r (allRows jS):=by
  rw[<-eR];exact Df.dl o2 λp O=>Aa (s:=jS) _ (by rw[<-eR];exact mem_map.2 ⟨p,O,rfl⟩)
 have lr:=dr.aE;rw[show (allRows jS).length=5 by rw[CD];rfl]at lr;have M:=L7;simp -dsimp[lr];refine s3 r _ h2 _ dr (by rw[CD];simp) λx3 P3 y3 z3 f D S G=>?_;rw[M]at D S G ⊢;have I:iD f jS x3 y3 z3:=fU.at G (λo B=>B) D AA (by omega);have c1:=I.items.aI;have c2:y3.aI=true:=I.iU.elim λ_ r=>r.aI;have c3:z3.aI=true:=I.lines.elim λ_ r=>r.aI;simp -dsimp;have ht:kP f sG .aA .aA:=⟨⟨[],aJ.aA f 6⟩,⟨[],aJ.aA f 3⟩⟩;refine s4 1 7 sG .aA .aA f _ ht (by simp[sG]) (by simp[sG]) λa A h4 eA o4=>?_;have da:Dl aQ h4 a (fQ 1 7 sG).1:=by
  rw[<-eA];exact Df.dl o4 λp O=>by
   have:p.1∈(fQ 1 7 sG).1:=by rw[<-eA];exact mem_map.2 ⟨p,O,rfl⟩
   rw[ye]at this;rw[mem_singleton.1 this];exact⟨by simp[ep],by simp[ep]⟩
 simp -dsimp;refine s5 1 7 a _ h4 _ da (by rw[ye];simp) (by rw[ye];simp[mx]) λu v h5 t=>?_;rw[Nx]at t ⊢;have e5:(fQ 1 7 sG).2=0:=by rw[ye]
 rw[e5];rw[ye]at da;have e:f.le h5:=a9.le_trans o4.le t.le;have m:=dr.mono (a9.le_trans G.le e);rw[CD]at m;have E:=da.mono t.le;obtain⟨k0,v0,l,e02,e03,e04,e05,e06,b01,b02⟩:=qY m (i:=0) rfl;obtain⟨k4,v4,b,e42,Z,Y,X,k,b41,b42⟩:=qY m (i:=4) rfl;obtain⟨ka,va,j,ea2,U,ea4,g,ea6,ba1,ba2⟩:=qY E (i:=0) rfl;obtain⟨Rk,q0⟩:=b01.1;have l:V.aM 2 r (.int .i64 0)=some (aV 2 r 0 0):=l;have j:V.aM 2 a (.int .i64 0)=some (aV 2 a 0 0):=j;have b:V.aM 2 r (.int .i64 4)=some (aV 2 r 4 0):=b;have cu:u.aI=true:=(t.aP 0 rfl).aI;have cv:v.aI=true:=(t.aP 1 rfl).aI;have la:=E.aE;simp -dsimp[sG,l,e03,e05,hF q0,b,Z,X];refine lK 9 (s:=[108,0,0,0,0,0,0,0,1]) rfl rfl λi39 h6 n=>?_;simp -dsimp;refine J k4 _ _ _ h6 _ (b41.mono n.le) ⟨⟨[],n.aP 0 rfl⟩,by simp[ep]⟩ ?_;have k:=vA n.le k;simp -dsimp[b,Y,k];refine lK 11 (s:=[1,65,0,3,0,8,0,0,0,5,1]) rfl rfl λi47 h7 F=>?_;simp -dsimp;refine J v4 _ _ _ h7 _ ((b42.mono n.le).mono F.le) ⟨⟨[],F.aP 0 rfl⟩,by simp[ep]⟩ ?_;simp -dsimp;refine s1 _ _ λx8 P8 y8 z8 H W L=>?_;have a8:iD H jS x8 y8 z8:=fU.at L (λo B=>B) W AA (by omega);have d:f.le H:=a9.le_trans e (a9.le_trans n.le (a9.le_trans F.le L.le));simp -dsimp;refine s7 jS jS _ _ _ _ _ _ H _ (I.mono d) a8 ?_;have c:h5.le H:=a9.le_trans n.le (a9.le_trans F.le L.le);have g:=vA c g;simp -dsimp[la,j,U,g];refine lK 12 (s:=[97,1,0,0,0,0,0,0,0,7,0,0]) rfl rfl λi73 q K=>?_;simp -dsimp;refine J ka _ _ _ q _ ((ba1.mono c).mono K.le) ⟨⟨[],K.aP 0 rfl⟩,by simp[ep]⟩ ?_;simp -dsimp;have az:iD q hS .aA .aA .aA:=⟨Dl.aA bR q,⟨[],aJ.aA q 6⟩,⟨[],aJ.aA q 8⟩,by simp[hS],by simp[hS],by simp[hS]⟩;refine s2 hS _ _ _ q _ az (by simp[hS]) λr2 R2 T zk w=>?_;have ez:allRows hS=[]:=by decide +kernel
 rw[ez]at zk;have zk:R2=[]:=map_eq_nil_iff.1 zk;subst zk;have lz:=(w.aP 0 rfl:aJ T 2 r2 [] []).aE;simp -dsimp[lz];refine ln ?_ hq;exact a9.le_trans o1.le (a9.le_trans o2.le (a9.le_trans G.le (a9.le_trans d (a9.le_trans K.le w.le))))
variable{C:aC}{N:zN}
def kK.Spec(C:aC)(N:zN):Prop:=∀(s:List UInt8)(c:UInt8)(h:a9)(Q:zQ),s.length<4611686018427387904->Q (.bool (decide (c∈s))) h->C (N 477) [.str s,.int .u8 (c.toNat:Int)] h Q
theorem OZ(a b:UInt8):decide ((a.toNat:Int)=(b.toNat:Int))=decide (a=b):=by
 rw[Bool.eq_iff_iff];simp only[decide_eq_true_eq];exact⟨λh=>UInt8.toNat_inj.1 (by omega),λh=>by rw[h]⟩
theorem kK.spec(i:kK.aD C N):kK.Spec C N:=by
 intro s c h Q l e;apply i;have ls:V.lR (.str s)=some (.int .i64 (s.length:Int)):=rfl;refine aB.intro (λn vs g=>g=h /\ ∃k:Nat,k+n=s.length /\ vs=[.int .i64 (k:Int)] /\ c∉s.take k) s.length ?_ ⟨rfl,0,by omega,rfl,by simp⟩;rintro Y n vs g ⟨rfl,k,hk,rfl,a⟩ j;simp -dsimp only[kK.l2,kK.k1,ls,gH,B.aK];refine B.bF (λf=>?_) (λf=>?_)
 ·rw[decide_eq_true_eq]at f
  obtain⟨b,hb⟩:=dI f;simp -dsimp only[Ai hb,V.tF,OZ,B.aK];refine B.bF (λd=>?_) (λd=>?_)
  ·rw[decide_eq_true_eq]at d
   subst d;rw[decide_eq_true (mem_of_getElem? hb)]at e;exact aR e
  ·rw[decide_eq_false_iff_not]at d
   simp -dsimp only[eG (show k<4611686018427387904 by omega),B.aK];refine j (n-1) _ _ (by omega) ⟨rfl,k+1,by omega,rfl,?_⟩;rw[take_succ hb];simp[a,Ne.symm d]
 ·rw[decide_eq_false_iff_not]at f
  rw[take_of_length_le (by omega)]at a;rw[decide_eq_false a]at e;exact aR e
def rE(l:List (List UInt8))(c:List UInt8):Bool:=(l.all λo=>eu o&& !decide (o=c))&&(decide l.Nodup&&decide (l.length <= 4))
def rK(l:List Part):Bool:=(l.all λp=>eu p.Item&&(decide (1 <= p.ek)&&decide (p.ek <= 1073741824)))&&(decide (l.map Part.Item).Nodup&&(decide (1 <= l.length)&&decide (l.length <= 8)))
theorem FP{T:Type}{l:List T}{x:T}(h:l.Nodup)(hx:x∉l):(l++[x]).Nodup:=by
 rw[nodup_append];exact⟨h,by simp,λa c b hb e=>by rw[mem_singleton.1 hb]at e;subst e;exact hx c⟩
theorem G8{T:Type}{l:List T}{k:Nat}{x:T}(hk:l[k]?=some x)(hx:x∈l.take k):¬ l.Nodup:=λh=>by
 have a:(l.take (k+1)).Nodup:=h.sublist (take_sublist _ _)
 rw[take_succ hk,nodup_append]at a
 exact a.2.2 x hx x (by simp) rfl
def gZ.Spec(C:aC)(N:zN):Prop:=∀(x:a7)(L:List (List UInt8))(R:List (List a7))(c:List UInt8)(h:a9)(Q:zQ),aJ h 1 x (L.map tc) R->L.length<4611686018427387904->Q (.bool (rE L c)) h->C (N 479) [x,.str c] h Q
theorem gZ.spec(i:gZ.aD C N)(s1:iX.Spec C N):gZ.Spec C N:=by
 intro x L R c h Q hx E f;apply i;have r:=hx.aE;rw[length_map]at r;refine aB.intro (λn vs l=>l=h /\ ∃k:Nat,k+n=L.length /\ vs=[.int .i64 (k:Int)] /\ ((L.take k).all λo=>eu o&& !decide (o=c))=true /\ (L.take k).Nodup) L.length ?_ ⟨rfl,0,by omega,rfl,rfl,by simp⟩;rintro Y n vs l ⟨rfl,k,hk,rfl,a,d⟩ D;simp -dsimp only[gZ.l5,gZ.k4,r,gH,B.aK];refine B.bF (λp=>?_) (λp=>?_)
 ·rw[decide_eq_true_eq]at p
  obtain⟨w,hw⟩:=dI p;have s:k<(L.map tc).length:=by simpa using p
  have e1:V.aM 1 x (.int .i64 (k:Int))=some (aV 1 x k 0):=hx.dF s;have y:A.bX l (aV 1 x k 0)=some (.str w):=hx.cell (get_map hw);simp -dsimp only[gZ.k3,e1,y,B.fw,B.aK];refine s1 w l _ ?_;simp +contextual -dsimp[e1,y];refine B.bF (λhb=>?_) (λhb=>?_)
  ·have hb:(eu w&& !decide (w=c))=false:=by
    revert hb;cases eu w<;>cases decide (w=c)<;>simp
   have:rE L c=false:=by
    unfold rE;rw[xy hw hb];rfl
   rw[this]at f;exact aR f
  ·have hb:(eu w&& !decide (w=c))=true:=by
    revert hb;cases eu w<;>cases decide (w=c)<;>simp
   refine aB.intro (λm vs v=>v=l /\ ∃j:Nat,j+m=k /\ vs=[.int .i64 (j:Int)] /\ w∉L.take j) k ?_ ⟨rfl,0,by omega,rfl,by simp⟩;rintro Z m vs v ⟨rfl,j,F,rfl,g⟩ z;simp -dsimp only[gZ.l2,gZ.k1,gH,B.aK];refine B.bF (λq=>?_) (λq=>?_)
   ·rw[decide_eq_true_eq]at q
    obtain⟨u,hu⟩:=dI (L:=L) (k:=j) (by omega);have t:j<(L.map tc).length:=by simp;omega
    have f1:V.aM 1 x (.int .i64 (j:Int))=some (aV 1 x j 0):=hx.dF t;have f2:A.bX v (aV 1 x j 0)=some (.str u):=hx.cell (get_map hu);simp -dsimp only[e1,y,f1,f2,B.fw,B.aK,V.rB];refine B.bF (λhe=>?_) (λhe=>?_)
    ·rw[decide_eq_true_eq]at he
     subst he;have:rE L c=false:=by
      unfold rE;rw[decide_eq_false (G8 hw (mem_of_getElem? (by rw[getElem?_take_of_lt q];exact hu)))];simp
     rw[this]at f;exact aR f
    ·rw[decide_eq_false_iff_not]at he
     simp -dsimp only[eG (show j<4611686018427387904 by omega),B.aK];refine z (m-1) _ _ (by omega) ⟨rfl,j+1,by omega,rfl,?_⟩;rw[take_succ hu];simp[g,Ne.symm he]
   ·rw[decide_eq_false_iff_not]at q
    have:j=k:=by omega
    subst this;simp -dsimp only[eG (show j<4611686018427387904 by omega),B.aK];refine D (n-1) _ _ (by omega) ⟨rfl,j+1,by omega,rfl,xn a hw hb,?_⟩;rw[take_succ hw];exact FP d g
 ·rw[decide_eq_false_iff_not]at p
  have:k=L.length:=by omega
  subst this;rw[take_length]at a d;have e:V.bin .leq (.int .i64 (L.length:Int)) (.int .i64 4)=some (.bool (decide (L.length <= 4))):=DZ (b:=4);simp -dsimp only[r,e,B.aK];have:rE L c=decide (L.length <= 4):=by unfold rE;rw[a,decide_eq_true d];rfl
  rw[this]at f;exact aR f
def hE.Spec(C:aC)(N:zN):Prop:=∀(x:a7)(L:List Part)(R:List (List a7))(h:a9)(Q:zQ),aJ h 2 x (L.map Part.cs) R->L.length<4611686018427387904->Q (.bool (rK L)) h->C (N 478) [x] h Q
theorem hE.spec(i:hE.aD C N)(s1:iX.Spec C N):hE.Spec C N:=by
 intro x L R h Q hx J c;apply i;have r:=hx.aE;rw[length_map]at r;refine aB.intro (λn vs g=>g=h /\ ∃k:Nat,k+n=L.length /\ vs=[.int .i64 (k:Int)] /\ ((L.take k).all λp=>eu p.Item&&(decide (1 <= p.ek)&&decide (p.ek <= 1073741824)))=true /\ ((L.take k).map Part.Item).Nodup) L.length ?_ ⟨rfl,0,by omega,rfl,rfl,by simp⟩;rintro Y n vs g ⟨rfl,k,hk,rfl,a,d⟩ H;simp -dsimp only[hE.l5,r,gH,B.aK];refine B.bF (λq=>?_) (λq=>?_)
 ·rw[decide_eq_true_eq]at q
  obtain⟨w,hw⟩:=dI q;have f:k<(L.map Part.cs).length:=by simpa using q
  have e1:V.aM 2 x (.int .i64 (k:Int))=some (aV 2 x k 0):=hx.dF f;have e3:V.fieldAddr 0 (aV 2 x k 0)=some (aV 2 x k 0):=hx.jF f 0 0;have e4:V.fieldAddr 1 (aV 2 x k 0)=some (aV 2 x k 1):=hx.jF f 0 1;have y:A.bX g (aV 2 x k 0)=some (.str w.Item):=hx.bX (get_map hw) (by omega);have I:A.bX g (aV 2 x k 1)=some (.int .i64 w.ek):=hx.bX (get_map hw) (by omega);simp -dsimp only[hE.k4,e1,y,e3,B.fw,B.aK];refine s1 w.Item g _ ?_;simp +contextual -dsimp[e1,e4,I];have v:(eu w.Item&&(decide (1 <= w.ek)&&decide (w.ek <= 1073741824)))= !((!eu w.Item||decide (w.ek<1))||decide (1073741824<w.ek)):=by
   have E:decide (w.ek<1)= !decide (1 <= w.ek):=by rw[Bool.eq_iff_iff];simp
   have D:decide (1073741824<w.ek)= !decide (w.ek <= 1073741824):=by rw[Bool.eq_iff_iff];simp
   rw[E,D];cases eu w.Item<;>cases decide (1 <= w.ek)<;>cases decide (w.ek <= 1073741824)<;>rfl
  refine B.bF (λhb=>?_) (λhb=>?_)
  ·have:rK L=false:=by
    unfold rK;rw[xy hw (by rw[v,hb];rfl)];rfl
   rw[this]at c;exact aR c
  ·refine aB.intro (λm vs t=>t=g /\ ∃j:Nat,j+m=k /\ vs=[.int .i64 (j:Int)] /\ w.Item∉(L.take j).map Part.Item) k ?_ ⟨rfl,0,by omega,rfl,by simp⟩
   rintro Z m vs t ⟨rfl,j,K,rfl,l⟩ G;simp -dsimp only[hE.l3,hE.k2,gH,B.aK];refine B.bF (λs=>?_) (λs=>?_)
   ·rw[decide_eq_true_eq]at s
    obtain⟨u,hu⟩:=dI (L:=L) (k:=j) (by omega);have o:j<(L.map Part.cs).length:=by simp;omega
    have f1:V.aM 2 x (.int .i64 (j:Int))=some (aV 2 x j 0):=hx.dF o;have f3:V.fieldAddr 0 (aV 2 x j 0)=some (aV 2 x j 0):=hx.jF o 0 0;have f2:A.bX t (aV 2 x j 0)=some (.str u.Item):=hx.bX (get_map hu) (by omega);simp -dsimp only[e1,y,e3,f1,f2,f3,B.fw,B.aK,V.rB];refine B.bF (λhe=>?_) (λhe=>?_)
    ·rw[decide_eq_true_eq]at he
     have hm:w.Item∈(L.map Part.Item).take k:=by
      refine mem_of_getElem? (i:=j) ?_;rw[getElem?_take_of_lt s,getElem?_map,hu,<-he];rfl
     have:rK L=false:=by
      unfold rK;rw[decide_eq_false (G8 (by rw[getElem?_map,hw];rfl) hm)];simp
     rw[this]at c;exact aR c
    ·rw[decide_eq_false_iff_not]at he
     simp -dsimp only[eG (show j<4611686018427387904 by omega),B.aK];refine G (m-1) _ _ (by omega) ⟨rfl,j+1,by omega,rfl,?_⟩;rw[take_succ hu,map_append,mem_append];rintro(h|h)
     ·exact l h
     ·exact he (mem_singleton.1 h).symm
   ·rw[decide_eq_false_iff_not]at s
    have:j=k:=by omega
    subst this;simp -dsimp only[eG (show j<4611686018427387904 by omega),B.aK];refine H (n-1) _ _ (by omega) ⟨rfl,j+1,by omega,rfl,xn a hw (by rw[v,hb];rfl),?_⟩;rw[take_succ hw,map_append];exact FP d l
 ·rw[decide_eq_false_iff_not]at q
  have:k=L.length:=by omega
  subst this;rw[take_length]at a d;have f1:decide ((1:Int) <= L.length)=decide (1 <= L.length):=decide_eq_decide.2 (by omega);have f2:decide ((L.length:Int) <= 8)=decide (L.length <= 8):=decide_eq_decide.2 (by omega);have e:V.bin .geq (.int .i64 (L.length:Int)) (.int .i64 1)=some (.bool (decide (1 <= L.length))):=by rw[V.xw,f1]
  have z:V.bin .leq (.int .i64 (L.length:Int)) (.int .i64 8)=some (.bool (decide (L.length <= 8))):=DZ (b:=8);have F:rK L=(decide (1 <= L.length)&&decide (L.length <= 8)):=by unfold rK;rw[a,decide_eq_true d];rfl
  rw[F]at c;by_cases h1:1 <= L.length
  ·simp +contextual -dsimp[r,e,z,h1,-V.xw,-V.AQ]
   rw[decide_eq_true h1,Bool.true_and]at c;exact aR c
  ·simp +contextual -dsimp[r,e,z,h1,-V.xw,-V.AQ]
   rw[decide_eq_false h1,Bool.false_and]at c;exact aR c
variable{C:aC}{N:zN}
structure gJ.Spec(C:aC)(N:zN):Prop where
 io:∀(h:a9)(Q:zQ),Q (.bI [.str [105,111],.bool true]) h->C (N 476) [.int .u8 3] h Q
 ip:∀(h:a9)(Q:zQ),Q (.bI [.str [105,112],.bool true]) h->C (N 476) [.int .u8 2] h Q
theorem gJ.spec(i:gJ.aD C N):gJ.Spec C N:=⟨λh Q a=>by
 apply i
 simp -dsimp
 exact aR a,λh Q a=>by
 apply i
 simp -dsimp
 exact aR a⟩
structure qM.Spec(C:aC)(N:zN):Prop where
 io:∀(c:List UInt8)(y:a7)(L:List (List UInt8))(R:List (List a7))(h:a9)(Q:zQ),aJ h 1 y (L.map tc) R->L.length<4611686018427387904->Q (.bool (eu c&&rE L c)) h ->
  C (N 474) [.agg [.int .u8 3,.int .i64 0,.str c,.int .i64 0,.int .i64 0,.int .i64 0,.int .i64 0,.int .i64 0,.int .i64 0,.aA,y]] h Q
 ip:∀(c:List UInt8)(y:a7)(L:List Part)(R:List (List a7))(h:a9)(Q:zQ),aJ h 2 y (L.map Part.cs) R->L.length<4611686018427387904->Q (.bool (eu c&&rK L)) h ->
  C (N 474) [.agg [.int .u8 2,.int .i64 0,.str c,.int .i64 0,.int .i64 0,.int .i64 0,.int .i64 0,.int .i64 0,.int .i64 0,y,.aA]] h Q
theorem iE(s1:kK.Spec C N){s:List UInt8}{c:UInt8}{n:Int}(b:n=(c.toNat:Int)){h:a9}{Q:zQ}(d:s.length<100)(a:Q (.bool (decide (c∈s))) h):C (N 477) [.str s,.int .u8 n] h Q:=by
 rw[b];exact s1 s c h Q (by omega) a
theorem qM.spec(i:qM.aD C N)(s1:gJ.Spec C N)(s2:kK.Spec C N)(k:iX.Spec C N)(m:hE.Spec C N)(l:gZ.Spec C N):qM.Spec C N:=by
 constructor
 ·intro c y L R h Q b j a
  have g:=b.aE;rw[length_map]at g;have n:=b.aI;apply i;simp -dsimp;refine s1.io _ _ ?_;simp -dsimp;refine iE s2 (c:=105) rfl (by simp) ?_;by_cases e:c=[]
  ·subst e
   simp -dsimp;exact aR a
  simp -dsimp[e];refine k c _ _ ?_;cases d:eu c with
  | false=>
   rw[d]at a;simp -dsimp;exact aR a
  | true=>
  rw[d]at a;simp -dsimp;refine iE s2 (c:=113) rfl (by simp) ?_;simp -dsimp;refine iE s2 (c:=113) rfl (by simp) ?_;simp -dsimp;refine iE s2 (c:=100) rfl (by simp) ?_;simp -dsimp;refine iE s2 (c:=108) rfl (by simp) ?_;simp -dsimp;refine iE s2 (c:=108) rfl (by simp) ?_;simp -dsimp;refine iE s2 (c:=114) rfl (by simp) ?_;simp -dsimp;refine iE s2 (c:=116) rfl (by simp) ?_;simp -dsimp;refine iE s2 (c:=116) rfl (by simp) ?_;simp -dsimp;refine iE s2 (c:=110) rfl (by simp) ?_;simp -dsimp;refine iE s2 (c:=110) rfl (by simp) ?_;simp -dsimp;refine iE s2 (c:=112) rfl (by simp) ?_;simp -dsimp;refine iE s2 (c:=112) rfl (by simp) ?_;simp -dsimp;refine iE s2 (c:=111) rfl (by simp) ?_;simp -dsimp;refine l y L R c h _ b j ?_;simp -dsimp;cases f:rE L c with
  | true=>
   rw[f]at a;simp -dsimp;exact aR a
  | false=>
   rw[f]at a;simp -dsimp;refine iE s2 (c:=111) rfl (by simp) ?_;simp -dsimp;exact aR a
 ·intro c y L R h Q b j a
  have g:=b.aE;rw[length_map]at g;have n:=b.aI;apply i;simp -dsimp;refine s1.ip _ _ ?_;simp -dsimp;refine iE s2 (c:=105) rfl (by simp) ?_;by_cases e:c=[]
  ·subst e
   simp -dsimp;exact aR a
  simp -dsimp[e];refine k c _ _ ?_;cases d:eu c with
  | false=>
   rw[d]at a;simp -dsimp;exact aR a
  | true=>
  rw[d]at a;simp -dsimp;refine iE s2 (c:=113) rfl (by simp) ?_;simp -dsimp;refine iE s2 (c:=113) rfl (by simp) ?_;simp -dsimp;refine iE s2 (c:=100) rfl (by simp) ?_;simp -dsimp;refine iE s2 (c:=108) rfl (by simp) ?_;simp -dsimp;refine iE s2 (c:=108) rfl (by simp) ?_;simp -dsimp;refine iE s2 (c:=114) rfl (by simp) ?_;simp -dsimp;refine iE s2 (c:=116) rfl (by simp) ?_;simp -dsimp;refine iE s2 (c:=116) rfl (by simp) ?_;simp -dsimp;refine iE s2 (c:=110) rfl (by simp) ?_;simp -dsimp;refine iE s2 (c:=110) rfl (by simp) ?_;simp -dsimp;refine iE s2 (c:=112) rfl (by simp) ?_;simp -dsimp;refine m y L R h _ b j ?_;simp -dsimp;cases f:rK L with
  | true=>
   rw[f]at a;simp -dsimp;refine iE s2 (c:=112) rfl (by simp) ?_;simp -dsimp;refine iE s2 (c:=111) rfl (by simp) ?_;simp -dsimp;refine iE s2 (c:=111) rfl (by simp) ?_;simp -dsimp;exact aR a
  | false=>
   rw[f]at a;simp -dsimp;exact aR a
theorem OJ(t:en):iQ t=(eu t.Code&&((eu t.Code&&rE t.dL t.Code)&&bif decide (t.cO=[]) then decide (1 <= t.jY)&&decide (t.jY <= 2000) else decide (t.jY=0)&&(eu t.Code&&rK t.cO))):=by
 unfold iQ rm rE rK xE yv;rw[Bool.eq_iff_iff];by_cases a:t.cO=[]
 ·rw[a]
  simp only[decide_true,cond_true,Bool.and_eq_true,all_eq_true,decide_eq_true_eq,length_cons,nodup_cons,mem_cons,Bool.not_eq_true',decide_eq_false_iff_not];constructor
  ·rintro⟨⟨h1,⟨d,h⟩,i⟩,c,g⟩
   have b:=h1 _ (.inl rfl);exact⟨b,⟨b,λo f=>⟨h1 o (.inr f),λe=>by subst e;exact d f⟩,h,by omega⟩,by omega,g⟩
  ·rintro⟨b,⟨_,h1,d,h⟩,i,c⟩
   exact⟨⟨λx hx=>hx.elim (λe=>by rw[e];exact b) λhx=>(h1 x hx).1,⟨λhm=>(h1 _ hm).2 rfl,d⟩,by omega⟩,by omega,c⟩
 ·rw[decide_eq_false a]
  have j:1 <= t.cO.length:=length_pos_iff.2 a;simp only[cond_false,Bool.and_eq_true,all_eq_true,decide_eq_true_eq,length_cons,nodup_cons,mem_cons,Bool.not_eq_true',decide_eq_false_iff_not,mem_map,length_map];constructor
  ·rintro⟨⟨h1,⟨d,h⟩,i⟩,c,g,l,k,m⟩
   have b:=h1 _ (.inl rfl);exact⟨b,⟨b,λo f=>⟨h1 o (.inr f),λe=>by subst e;exact d f⟩,h,by omega⟩,g,b,λp a=>⟨l _ ⟨p,a,rfl⟩,c p a⟩,k,j,m⟩
  ·rintro⟨b,⟨_,h1,d,h⟩,i,_,c,g,l,k⟩
   exact⟨⟨λx hx=>hx.elim (λe=>by rw[e];exact b) λhx=>(h1 x hx).1,⟨λhm=>(h1 _ hm).2 rfl,d⟩,by omega⟩,λp a=>(c p a).2,i,λx ⟨p,a,e⟩=>by rw[<-e];exact(c p a).1,g,k⟩
variable{C:aC}{N:zN}
theorem V.Hj(a b:List UInt8):V.bin .geq (.str a) (.str b)=some (.bool (!iC a b)):=rfl
variable{C:aC}{N:zN}
def jw.Spec(C:aC)(N:zN):Prop:=∀(n:Int)(k:Nat)(h:a9)(Q:zQ),k <= 8->(∀a h',aG h h' [.sl 1 a ((be n k).map bc) []]->Q a h')->C (N 466) [.int .i64 n,.int .i64 (k:Int)] h Q
theorem jw.spec(i:jw.aD C N):jw.Spec C N:=by
 intro n k h Q hk f;apply i;have e0:IntKind.i64.wrap ((k:Int)-1)=(k:Int)-1:=wrap_i64 (by omega) (by omega);simp +contextual -dsimp[e0];refine aB.intro (λt vs d=>∃(x:a7)(pre:List UInt8),t <= k /\ vs=[x,.int .i64 ((t:Int)-1)] /\ pre++be n t=be n k /\ aG h d [.sl 1 x (pre.map bc) []]) k ?_ ⟨.aA,[],Nat.le_refl _,rfl,rfl,(aG.start h).aA 1⟩;rintro Y t vs d ⟨x,pre,o,rfl,he,c⟩ g;simp +contextual -dsimp;have a:=congrArg List.length he;simp only[length_append,gr]at a;refine B.bF (λhb=>?_) (λhb=>?_)<;>simp at hb
 ·obtain⟨t,rfl⟩:∃u,t=u+1:=⟨t-1,by omega⟩
  have e1:((t+1:Nat):Int)-1=(t:Int):=by omega
  have m:IntKind.i64.wrap (8*(t:Int))=8*(t:Int):=wrap_i64 (by omega) (by omega);have l:IntKind.u64.wrap (8*(t:Int))=8*(t:Int):=by rw[wrap_u64];omega
  have e3:V.bin .shr (.int .u64 (IntKind.u64.wrap n)) (.int .u64 (8*(t:Int)))=some (.int .u64 ((n % 18446744073709551616).fdiv (2 ^ (8*t)))):=by
   rw[wrap_u64,wz (by omega) (by simp[IntKind.bits];omega)];congr 4
  have j:dN ((n % 18446744073709551616).fdiv (2 ^ (8*t)))=dN (n.fdiv (2 ^ (8*t))):=Ao (A6 n t (by omega));have e4:IntKind.i64.wrap ((t:Int)-1)=(t:Int)-1:=wrap_i64 (by omega) (by omega);rw[e1];simp +contextual -dsimp[m,l,e3,mz,j];refine c.push 0 rfl rfl (by omega) (by simp;omega) (by simp[maxLen];omega) λe h' b _=>?_;simp +contextual -dsimp[e4];refine g t _ _ (by omega) ⟨e,pre++[dN (n.fdiv (2 ^ (8*t)))],by omega,rfl,?_,?_⟩
  ·rw[<-he,be,append_assoc];rfl
  ·rw[map_append];exact b
 ·have:t=0:=by omega
  subst this;rw[be,append_nil]at he;subst he;exact aR (f _ _ c)
def jM.Spec(C:aC)(N:zN):Prop:=∀(x:a7)(xs:List a7)(L:List (List UInt8))(R:List (List a7))(h:a9)(Q:zQ),aJ h 1 x (xs.map λy=>[y]) R->ke h xs L->L.length <= 1000->L.flatten.length <= 100000000->(∀a h',aG h h' [gw false a L.flatten]->Q a h')->C (N 471) [x] h Q
theorem jM.spec(i:jM.aD C N):jM.Spec C N:=by
 intro x xs L R h Q hx f p n m;apply i;have c:=f.len;have e:=hx.aE;rw[length_map,c]at e;refine aB.intro (λt vs g=>∃(k:Nat)(y:a7),k+t=L.length /\ vs=[y,.int .i64 (k:Int)] /\ aG h g [.sl 1 y ((L.take k).flatten.map bc) []]) L.length ?_ ⟨0,.aA,by omega,rfl,(aG.start h).aA 1⟩;rintro Y t vs g ⟨k,y,hk,rfl,o⟩ r;simp -dsimp only[jM.l2,jM.k1,e,gH,B.aK];refine B.bF (λa=>?_) (λa=>?_)
 ·rw[decide_eq_true_eq]at a
  have s:=Cz a;have hle:=CQ L (k+1);have q:(xs.map λy=>[y])[k]?=some [xs[k]'(by omega)]:=by rw[getElem?_map,getElem?_eq_getElem (by omega)];rfl
  have b:V.aM 1 x (.int .i64 (k:Int))=some (aV 1 x k 0):=hx.dF (by simp;omega);obtain⟨R2,d⟩:=f.get k _ _ (getElem?_eq_getElem (by omega)) (getElem?_eq_getElem a);simp -dsimp only[b,(hx.mono o.le).cell q,B.fw,B.aK];refine o.bO 0 rfl (d.mono o.le) Nat.one_pos (by simp only[length_map];omega) (by simp only[length_map,maxLen];omega) λj h' l _=>?_;simp -dsimp only[eG (show k<4611686018427387904 by omega),B.aK];refine r (t-1) _ _ (by omega) ⟨k+1,j,by omega,rfl,?_⟩;rw[take_add_one,getElem?_eq_getElem a,Option.toList_some,flatten_append,flatten_singleton,map_append];exact l
 ·rw[decide_eq_false_iff_not]at a
  have hk:k=L.length:=by omega
  subst hk;rw[take_length]at o;exact aR (m _ _ o)
def qS.Spec(C:aC)(N:zN):Prop:=∀(t:en)(a:a7×a7)(h:a9)(Q:zQ),bR.at_ h t a->Q (.bool (iQ t)) h->C (N 472) [.agg (bR.cells t a)] h Q
theorem qS.spec(i:qS.aD C N)(s1:iX.Spec C N)(s2:qM.Spec C N):qS.Spec C N:=by
 intro t a h Q j b;obtain⟨⟨R1,e⟩,⟨R2,g⟩,n,m⟩:(∃R,aJ h 2 a.1 (t.cO.map Part.cs) R) /\ (∃R,aJ h 1 a.2 (t.dL.map tc) R) /\ t.ok:=j;unfold oh at n m;have l1:=e.aE;rw[length_map]at l1;have l:=e.aI;have k:=g.aI;rw[OJ]at b;apply i;simp -dsimp[bR];refine s1 _ _ _ ?_;cases c:eu t.Code with
 | false=>
  rw[c]at b;simp -dsimp;exact aR b
 | true=>
 rw[c]at b;simp -dsimp[k];refine s2.io _ _ _ _ _ _ g (by omega) ?_;rw[c];simp -dsimp[l1];cases f:rE t.dL t.Code with
 | false=>
  rw[f]at b;simp -dsimp;exact aR b
 | true=>
 rw[f]at b;simp -dsimp[l1];by_cases d:t.cO=[]
 ·rw[decide_eq_true d]at b
  simp +contextual -dsimp[d];exact aR b
 ·rw[decide_eq_false d]at b
  simp +contextual -dsimp[d,l];refine B.gG (v:= .bool (eu t.Code&&rK t.cO)) (λ_ Q b=>s2.ip _ _ _ _ _ _ e (by omega) b) ?_;rw[c];simp -dsimp;refine aR ?_;simpa using b
def gA.Spec(C:aC)(N:zN):Prop:=∀(s:dV)(x y z:a7)(h:a9)(Q:zQ),iD h s x y z->Q (.bool (jz s)) h->C (N 467) [.agg (fp s x y z)] h Q
theorem Dj{T:Type}{ok:T->Bool}{lt:T->T->Bool}{l:List T}{k:Nat}{x:T}(hx:l[k]?=some x)(hb:(ok x&&(decide (k=0)||jT lt x l[k-1]?))=false):hV ok lt none l=false:=by
 have key:∀(b:List T)(a:List T)(p:Option T),hV ok lt p a=false->hV ok lt p (a++b)=false:=by
  intro b a
  induction a with
  | nil=>intro p h;cases h
  | cons c a d=>
   intro p h;rw[hV]at h;rw[cons_append,hV];cases h1:(ok c&&jT lt c p) with
   | false=>rfl
   | true=>
    rw[h1,Bool.true_and]at h;rw[Bool.true_and];exact d _ h
 have h1:=vY (ok:=ok) (lt:=lt) hx;rw[hb,Bool.and_false]at h1;have:=key (l.drop (k+1)) _ _ h1
 rwa [take_append_drop]at this
theorem gA.spec(i:gA.aD C N)(s1:qS.Spec C N)(s2:pH.Spec C N)(R:qN.Spec C N):gA.Spec C N:=by
 intro s x y z h Q S O;obtain⟨hi,⟨R1,D⟩,⟨R2,v⟩,n1,n2,n3⟩:=S;have l1:=hi.aE;have l2:=D.aE;have l3:=v.aE;rw[length_map]at l2 l3;have hx:=hi.aI;have W:=D.aI;have U:=v.aI;have no:jz s=false->dn Q (.bool false) h:=λe=>by rw[e]at O;exact aR O
 have F:uG s= !(((((decide (s.ju<0)||decide (4000<s.ju))||decide (s.jo<1))||decide (4611686018427387904<s.jo))||decide (s.jl<1))||decide (4611686018427387904<s.jl)):=by
  unfold uG;rw[Bool.eq_iff_iff];simp only[Bool.and_eq_true,decide_eq_true_eq,Bool.not_eq_true',Bool.or_eq_false_iff,decide_eq_false_iff_not];omega
 apply i;simp +contextual -dsimp;refine B.bF (λhb=>?_) (λhb=>?_)
 ·refine no ?_
  unfold jz;rw[F,hb];rfl
 ·have T:uG s=true:=by rw[F,hb];rfl
  refine aB.intro (λn vs E=>E=h /\ ∃k:Nat,k+n=s.cK.length /\ vs=[.int .i64 (k:Int)] /\ hV iQ (λa b=>iC a.Code b.Code) none (s.cK.take k)=true) s.cK.length ?_ ⟨rfl,0,by omega,rfl,rfl⟩;rintro Y n vs E ⟨rfl,k,hk,rfl,m⟩ J;simp -dsimp only[gA.l6,gA.k5,B.eJ,V.kH,getElem?_cons_succ,getElem?_cons_zero,l1,gH,B.aK];refine B.bF (λg=>?_) (λg=>?_)
  ·rw[decide_eq_true_eq]at g
   obtain⟨w,hw⟩:=dI g;obtain⟨a,K⟩:=hi.get hw;have e1:V.aM 4 x (.int .i64 (k:Int))=some (aV 4 x k 0):=K.idx;have M:A.fF E (aV 4 x k 0) 4=some (.agg (bR.cells w a)):=K.cR;have e3:V.fieldAddr 0 (aV 4 x k 0)=some (aV 4 x k 0):=K.sV 0 0;have e4:A.bX E (aV 4 x k 0)=some (.str w.Code):=K.ld 0 (by decide);have q:=eG (show k<4611686018427387904 by omega);have step:=vY (ok:=iQ) (lt:=λa b:en=>iC a.Code b.Code) hw;have stop:(iQ w&&(decide (k=0)||jT (λa b:en=>iC a.Code b.Code) w s.cK[k-1]?))=false->dn Q (.bool false) E:=λe=>no (by
    have:=Dj (ok:=iQ) (lt:=λa b:en=>iC a.Code b.Code) hw e;unfold jz w9;rw[this,Bool.false_and,Bool.and_false])
   have next:(iQ w&&(decide (k=0)||jT (λa b:en=>iC a.Code b.Code) w s.cK[k-1]?))=true->Y [.int .i64 ((k+1:Nat):Int)] E:=λe=>
    J (n-1) _ _ (by omega) ⟨rfl,k+1,by omega,rfl,by rw[step,m,e];rfl⟩
   simp -dsimp only[B.eJ,V.kH,getElem?_cons_succ,getElem?_cons_zero,e1,M,B.iL,B.aK];refine s1 w a E _ K.at_ ?_;cases d:iQ w with
   | false=>
    simp -dsimp;exact stop (by rw[d];rfl)
   | true=>
   by_cases h0:k=0
   ·subst h0
    simp -dsimp only[V.jq,Bool.not_true,B.aK,B.ia,Bool.not_false,B.fN];simp -dsimp[-V.fP];simp -dsimp only[xH,B.aK];exact next (by rw[d];rfl)
   ·obtain⟨u,hu⟩:=dI (L:=s.cK) (k:=k-1) (by omega)
    obtain⟨c,P⟩:=hi.get hu;have I:=vJ (a:=k) (by omega) (by omega);have f1:V.aM 4 x (.int .i64 ((k-1:Nat):Int))=some (aV 4 x (k-1) 0):=P.idx;have f2:V.fieldAddr 0 (aV 4 x (k-1) 0)=some (aV 4 x (k-1) 0):=P.sV 0 0;have f3:A.bX E (aV 4 x (k-1) 0)=some (.str u.Code):=P.ld 0 (by decide);have r:(0:Int)<k:=by omega
    have f:0<k:=by omega
    simp -dsimp[r,f,I,f1,f2,f3,e1,e3,e4,V.Hj,-V.fP,-V.nI];refine B.bF (λt=>?_) (λt=>?_)
    ·refine stop ?_
     rw[d,hu,decide_eq_false h0];simpa[jT]using t
    ·simp -dsimp only[q,B.aK]
     refine next ?_
     rw[d,hu,decide_eq_false h0];simpa[jT]using t
  ·rw[decide_eq_false_iff_not]at g
   have:k=s.cK.length:=by omega
   subst this;rw[take_length]at m;refine aB.intro (λn vs G=>G=E /\ ∃k:Nat,k+n=s.bJ.length /\ vs=[.int .i64 (k:Int)] /\ hV kN (λa b=>decide (a.Id<b.Id)) none (s.bJ.take k)=true) s.bJ.length ?_ ⟨rfl,0,by omega,rfl,rfl⟩;rintro Y2 n vs G ⟨rfl,k,hk,rfl,l⟩ J;simp -dsimp only[gA.l4,gA.k3,B.eJ,V.kH,getElem?_cons_succ,getElem?_cons_zero,l2,gH,B.aK];refine B.bF (λg=>?_) (λg=>?_)
   ·rw[decide_eq_true_eq]at g
    obtain⟨w,hw⟩:=dI g;have p:k<(s.bJ.map bZ.cs).length:=by simpa using g
    have e1:V.aM 6 y (.int .i64 (k:Int))=some (aV 6 y k 0):=D.dF p;have M:=D.elem (get_map hw);have e3:V.fieldAddr 0 (aV 6 y k 0)=some (aV 6 y k 0):=D.jF p 0 0;have e4:A.bX G (aV 6 y k 0)=some (.int .i64 w.Id):=D.bX (get_map hw) (by omega);have q:=eG (show k<4611686018427387904 by omega);have step:=vY (ok:=kN) (lt:=λa b:bZ=>decide (a.Id<b.Id)) hw;have stop:(kN w&&(decide (k=0)||jT (λa b:bZ=>decide (a.Id<b.Id)) w s.bJ[k-1]?))=false->dn Q (.bool false) G:=λe=>no (by
     have:=Dj (ok:=kN) (lt:=λa b:bZ=>decide (a.Id<b.Id)) hw e;unfold jz yK;rw[this,Bool.false_and,Bool.and_false,Bool.and_false])
    have next:(kN w&&(decide (k=0)||jT (λa b:bZ=>decide (a.Id<b.Id)) w s.bJ[k-1]?))=true->Y2 [.int .i64 ((k+1:Nat):Int)] G:=λe=>
     J (n-1) _ _ (by omega) ⟨rfl,k+1,by omega,rfl,by rw[step,l,e];rfl⟩
    simp -dsimp only[B.eJ,V.kH,getElem?_cons_succ,getElem?_cons_zero,e1,M,B.iL,B.aK];refine s2 w G _ ?_;cases d:kN w with
    | false=>
     simp -dsimp;exact stop (by rw[d];rfl)
    | true=>
    by_cases h0:k=0
    ·subst h0
     simp -dsimp only[V.jq,Bool.not_true,B.aK,B.ia,Bool.not_false,B.fN];simp -dsimp[-V.fP];simp -dsimp only[xH,B.aK];exact next (by rw[d];rfl)
    ·obtain⟨u,hu⟩:=dI (L:=s.bJ) (k:=k-1) (by omega)
     have I:=vJ (a:=k) (by omega) (by omega);have o:k-1<(s.bJ.map bZ.cs).length:=by simp;omega
     have f1:V.aM 6 y (.int .i64 ((k-1:Nat):Int))=some (aV 6 y (k-1) 0):=D.dF o;have f2:V.fieldAddr 0 (aV 6 y (k-1) 0)=some (aV 6 y (k-1) 0):=D.jF o 0 0;have f3:A.bX G (aV 6 y (k-1) 0)=some (.int .i64 u.Id):=D.bX (get_map hu) (by omega);have r:(0:Int)<k:=by omega
     have f:0<k:=by omega
     simp -dsimp[r,f,I,f1,f2,f3,e1,e3,e4,-V.fP,-V.nI];refine B.bF (λt=>?_) (λt=>?_)
     ·refine stop ?_
      rw[d,hu,decide_eq_false h0];simpa[jT]using t
     ·simp -dsimp only[q,B.aK]
      refine next ?_
      rw[d,hu,decide_eq_false h0];simpa[jT]using t
   ·rw[decide_eq_false_iff_not]at g
    have:k=s.bJ.length:=by omega
    subst this;rw[take_length]at l;refine aB.intro (λn vs H=>H=G /\ ∃k:Nat,k+n=s.cE.length /\ vs=[.int .i64 (k:Int)] /\ hV kL (λa b=>decide (a.Id<b.Id)) none (s.cE.take k)=true) s.cE.length ?_ ⟨rfl,0,by omega,rfl,rfl⟩;rintro Y3 n vs H ⟨rfl,k,hk,rfl,j⟩ J;simp -dsimp only[gA.l2,gA.k1,B.eJ,V.kH,getElem?_cons_succ,getElem?_cons_zero,l3,gH,B.aK];refine B.bF (λg=>?_) (λg=>?_)
    ·rw[decide_eq_true_eq]at g
     obtain⟨w,hw⟩:=dI g;have p:k<(s.cE.map dC.cs).length:=by simpa using g
     have e1:V.aM 8 z (.int .i64 (k:Int))=some (aV 8 z k 0):=v.dF p;have M:=v.elem (get_map hw);have e3:V.fieldAddr 0 (aV 8 z k 0)=some (aV 8 z k 0):=v.jF p 0 0;have e4:A.bX H (aV 8 z k 0)=some (.int .i64 w.Id):=v.bX (get_map hw) (by omega);have q:=eG (show k<4611686018427387904 by omega);have step:=vY (ok:=kL) (lt:=λa b:dC=>decide (a.Id<b.Id)) hw;have stop:(kL w&&(decide (k=0)||jT (λa b:dC=>decide (a.Id<b.Id)) w s.cE[k-1]?))=false->dn Q (.bool false) H:=λe=>no (by
      have:=Dj (ok:=kL) (lt:=λa b:dC=>decide (a.Id<b.Id)) hw e;unfold jz yB;rw[this,Bool.and_false,Bool.and_false,Bool.and_false])
     have next:(kL w&&(decide (k=0)||jT (λa b:dC=>decide (a.Id<b.Id)) w s.cE[k-1]?))=true->Y3 [.int .i64 ((k+1:Nat):Int)] H:=λe=>
      J (n-1) _ _ (by omega) ⟨rfl,k+1,by omega,rfl,by rw[step,j,e];rfl⟩
     simp -dsimp only[B.eJ,V.kH,getElem?_cons_succ,getElem?_cons_zero,e1,M,B.iL,B.aK];refine R w H _ ?_;cases d:kL w with
     | false=>
      simp -dsimp;exact stop (by rw[d];rfl)
     | true=>
     by_cases h0:k=0
     ·subst h0
      simp -dsimp only[V.jq,Bool.not_true,B.aK,B.ia,Bool.not_false,B.fN];simp -dsimp[-V.fP];simp -dsimp only[xH,B.aK];exact next (by rw[d];rfl)
     ·obtain⟨u,hu⟩:=dI (L:=s.cE) (k:=k-1) (by omega)
      have I:=vJ (a:=k) (by omega) (by omega);have o:k-1<(s.cE.map dC.cs).length:=by simp;omega
      have f1:V.aM 8 z (.int .i64 ((k-1:Nat):Int))=some (aV 8 z (k-1) 0):=v.dF o;have f2:V.fieldAddr 0 (aV 8 z (k-1) 0)=some (aV 8 z (k-1) 0):=v.jF o 0 0;have f3:A.bX H (aV 8 z (k-1) 0)=some (.int .i64 u.Id):=v.bX (get_map hu) (by omega);have r:(0:Int)<k:=by omega
      have f:0<k:=by omega
      simp -dsimp[r,f,I,f1,f2,f3,e1,e3,e4,-V.fP,-V.nI];refine B.bF (λt=>?_) (λt=>?_)
      ·refine stop ?_
       rw[d,hu,decide_eq_false h0];simpa[jT]using t
      ·simp -dsimp only[q,B.aK]
       refine next ?_
       rw[d,hu,decide_eq_false h0];simpa[jT]using t
    ·rw[decide_eq_false_iff_not]at g
     have:k=s.cE.length:=by omega
     subst this;rw[take_length]at j;have e:jz s=true:=by
      unfold jz w9 yK yB;rw[T,m,l,j];rfl
     rw[e]at O;exact aR O
end Go.Ab
