/- What is proved: a part of the way to the statement: SrtK. No conditions. -/
import Derived.Test.YtneeejngeoaaoaaQ6
import Derived.Test.YtneeejngeoaaoaaQ2
import Derived.KernelRfl
import Derived.Lib.Bytealg
set_option linter.unusedVariables false
set_option linter.unusedSimpArgs false
set_option maxRecDepth 100000
namespace Go.Ab
open List
variable{C:z5}{N:zN}
section
variable{E:zbb}{T:Type}{cs:T->List za}{v:T->za}
end
variable{C:z5}
structure zdg{X:Type}(a b:Nat)(G G':List X):Prop where
 perm:G'.Perm G
 out:∀i,i<a \/ b <= i->G'[i]?=G[i]?
theorem zdg.refl{X:Type}(a b:Nat)(G:List X):zdg a b G G:=⟨.refl _,λ_ _=>rfl⟩
theorem zdg.trans{X:Type}{a b:Nat}{G G' G'':List X}(x:zdg a b G G')(y:zdg a b G' G''):zdg a b G G'':=⟨y.perm.trans x.perm,λi hi=>(y.out i hi).trans (x.out i hi)⟩
theorem zdg.mono{X:Type}{a b a' b':Nat}{G G':List X}(x:zdg a b G G')(ha:a' <= a)(hb:b <= b'):zdg a' b' G G':=⟨x.perm,λi hi=>x.out i (by omega)⟩
theorem zdg.len{X:Type}{a b:Nat}{G G':List X}(x:zdg a b G G'):G'.length=G.length:=x.perm.length_eq
theorem zdg.same{X:Type}{a b:Nat}{G G':List X}(w:zdg a b G G'){k:Nat}(hk:k<a \/ b <= k)(h1:k<G'.length)(h2:k<G.length):G'[k]=G[k]:=by
 have:=w.out k hk;rw[getElem?_eq_getElem h1,getElem?_eq_getElem h2]at this;exact Option.some.inj this
def swp{X:Type}(G:List X)(i j:Nat)(hi:i<G.length)(hj:j<G.length):List X:=(G.set i G[j]).set j G[i]
theorem swp_perm{X:Type}{G:List X}{i j:Nat}(hi:i<G.length)(hj:j<G.length):(swp G i j hi hj).Perm G:=by
 unfold swp;exact set_set_perm hi hj
theorem swp_get{X:Type}{G:List X}{i j:Nat}(hi:i<G.length)(hj:j<G.length)(k:Nat):(swp G i j hi hj)[k]?=if k=j then some G[i] else if k=i then some G[j] else G[k]? :=by
 unfold swp;rw[getElem?_set];by_cases e:j=k
 ·subst e;simp[hj]
 ·rw[if_neg e,if_neg (Ne.symm e),getElem?_set]
  by_cases e2:i=k
  ·subst e2;simp[hi]
  ·rw[if_neg e2,if_neg (Ne.symm e2)]
theorem ze7{X:Type}{G:List X}{i j a b:Nat}(hi:i<G.length)(hj:j<G.length)(h1:a <= i)(h2:i<b)(h3:a <= j)(h4:j<b):zdg a b G (swp G i j hi hj):=⟨swp_perm hi hj,λk hk=>by
 rw[swp_get,if_neg (by omega),if_neg (by omega)]⟩
section
variable{E:zbb}{X:Type}{cs:X->List za}{v:X->za}{h0 h:zb}{x f:za}{G:List X}{R:List (List za)}{c:X->X->Int}
theorem Rw.swap(ho:Rw E cs h0 h x G R)(S:zd8 E cs v){i j:Nat}(hi:i<G.length)(hj:j<G.length){K:zb->Prop}(hk:∀h',Rw E cs h0 h' x (swp G i j hi hj) R->K h'):
  E.st h (elp E.es x i 0) (v G[j]) λh=>E.st h (elp E.es x j 0) (v G[i]) K:=by
 refine ho.st S (t:=G[j]) hi λh1 o1=>?_;exact o1.st S (t:=G[i]) (by simpa using hj) λh2 o2=>hk h2 o2
theorem quo4{a:Nat}(h:a<4611686018427387904):V.bin .quo (.int .i64 (a:Int)) (.int .i64 4)=some (.int .i64 ((a / 4:Nat):Int)):=by
 rw[V.bin_quo _ _ _ (by omega),show (a:Int).tdiv 4=((a / 4:Nat):Int) from rfl,wrap_i64 (by omega) (by omega)]
theorem mulN{a b:Nat}(h:a*b<4611686018427387904):V.bin .mul (.int .i64 (a:Int)) (.int .i64 (b:Int))=some (.int .i64 ((a*b:Nat):Int)):=by
 rw[V.bin_mul,show (a:Int)*(b:Int)=((a*b:Nat):Int) by simp,wrap_i64 (by omega) (by omega)]
theorem zpq{a b:Nat}(h:a+b<4611686018427387904):V.bin .add (.int .i64 (a:Int)) (.int .i64 (b:Int))=some (.int .i64 ((a+b:Nat):Int)):=by
 rw[V.zh7,show (a:Int)+(b:Int)=((a+b:Nat):Int) by simp,wrap_i64 (by omega) (by omega)]
theorem zjz{a b:Nat}(h:b <= a)(h2:a<4611686018427387904):V.bin .sub (.int .i64 (a:Int)) (.int .i64 (b:Int))=some (.int .i64 ((a-b:Nat):Int)):=by
 rw[V.zju,show (a:Int)-(b:Int)=((a-b:Nat):Int) by omega,wrap_i64 (by omega) (by omega)]
theorem geqN{a b:Nat}:V.bin .geq (.int .i64 (a:Int)) (.int .i64 (b:Int))=some (.bool (decide (b <= a))):=by rw[V.zna];congr 3;exact propext (by omega)
end
variable{C:z5}
structure zrt{X:Type}(c:X->X->Int)(a b:Nat)(G:List X)(i j:Nat):Prop where
 hb:b <= G.length
 hi:a<i
 hj:j<b
 hij:i <= j+1
 lo:∀k (h:k<G.length) (ha:a<G.length),a<k->k<i->c G[k] G[a]<0
 hi2:∀k (h:k<G.length) (ha:a<G.length),j<k->k<b->¬ c G[k] G[a]<0
structure zjp{X:Type}(c:X->X->Int)(a b m:Nat)(G:List X):Prop where
 ge:a <= m
 lt:m<b
 hb:b <= G.length
 lo:∀k (h:k<G.length) (hm:m<G.length),a <= k->k<m->c G[k] G[m]<0
 hi:∀k (h:k<G.length) (hm:m<G.length),m<k->k<b->¬ c G[k] G[m]<0
section
variable{E:zbb}{X:Type}{cs:X->List za}{v:X->za}{h0 h:zb}{x f:za}{G:List X}{R:List (List za)}{c:X->X->Int}{Q:zQ}{Y1:zL}{a b i j:Nat}
theorem zgk{X:Type}{G:List X}{i j:Nat}(hi:i<G.length)(hj:j<G.length){k:Nat}(hk:k<(swp G i j hi hj).length)(hk':k<G.length):(swp G i j hi hj)[k]=if k=j then G[i] else if k=i then G[j] else G[k]:=by
 have:=swp_get hi hj k;rw[getElem?_eq_getElem hk]at this;split at this
 ·rename_i e;rw[if_pos e];exact Option.some.inj this
 ·rename_i e;rw[if_neg e]
  split at this
  ·rename_i e2;rw[if_pos e2];exact Option.some.inj this
  ·rename_i e2;rw[if_neg e2,getElem?_eq_getElem hk']at *;exact Option.some.inj this
theorem zjr{X:Type}{G:List X}{i j:Nat}(hi:i<G.length)(hj:j<G.length):(swp G i j hi hj).length=G.length:=by simp[swp]
theorem zrt.done(p:zrt c a b G i j)(hab:a<b)(hc:j<i)(hj:j<G.length)(ha:a<G.length):zjp c a b j (swp G j a hj ha):=by
 have h1:=p.hi;have h2:=p.hij;have h3:=p.hj;have h4:=p.hb;have hl:=zjr hj ha;have pj:∀(hm:j<(swp G j a hj ha).length),(swp G j a hj ha)[j]=G[a]:=λhm=>by
  rw[zgk hj ha hm hj];by_cases e:j=a
  ·subst e;simp
  ·rw[if_neg e,if_pos rfl]
 refine⟨by omega,h3,by omega,λk hk hm k1 k2=>?_,λk hk hm k1 k2=>?_⟩
 ·rw[pj,zgk hj ha hk (by omega)]
  by_cases e:k=a
  ·rw[if_pos e];exact p.lo j hj ha (by omega) (by omega)
  ·rw[if_neg e,if_neg (by omega)];exact p.lo k (by omega) ha (by omega) (by omega)
 ·rw[pj,zgk hj ha hk (by omega),if_neg (by omega),if_neg (by omega)]
  exact p.hi2 k (by omega) ha k1 k2
theorem zrt.swap(p:zrt c a b G i j)(hc:i <= j)(hi:i<G.length)(hj:j<G.length)(ha:a<G.length)(h1:¬ c G[i] G[a]<0)(h2:c G[j] G[a]<0):zrt c a b (swp G i j hi hj) (i+1) (j-1):=by
 have k1:=p.hi;have k2:=p.hij;have k3:=p.hj;have k4:=p.hb;have hne:i≠j:=λe=>by subst e;exact h1 h2
 have hl:=zjr hi hj;have pa:∀(hm:a<(swp G i j hi hj).length),(swp G i j hi hj)[a]=G[a]:=λhm=>by rw[zgk hi hj hm ha,if_neg (by omega),if_neg (by omega)]
 refine⟨by omega,by omega,by omega,by omega,λk hk hm q1 q2=>?_,λk hk hm q1 q2=>?_⟩
 ·rw[pa,zgk hi hj hk (by omega),if_neg (by omega)]
  by_cases e:k=i
  ·rw[if_pos e];exact h2
  ·rw[if_neg e];exact p.lo k (by omega) ha q1 (by omega)
 ·rw[pa,zgk hi hj hk (by omega)]
  by_cases e:k=j
  ·rw[if_pos e];exact h1
  ·rw[if_neg e,if_neg (by omega)];exact p.hi2 k (by omega) ha (by omega) q2
end
variable{C:z5}
section
variable{E:zbb}{X:Type}{cs:X->List za}{v:X->za}{h0 h:zb}{x f:za}{G:List X}{R:List (List za)}{c:X->X->Int}{Q:zQ}{a b i j:Nat}
abbrev PartQ(E:zbb){X:Type}(cs:X->List za)(h0:zb)(x:za)(c:X->X->Int)(a b:Nat)(R:List (List za))(G:List X)(Q:zQ):Prop:=∀h' m G' t,zjp c a b m G'->zdg a b G G'->Rw E cs h0 h' x G' R->Q (.tup [.int .i64 (m:Int),.bool t]) h'
end
variable{C:z5}
structure EInv{X:Type}(c:X->X->Int)(a b:Nat)(G:List X)(i j:Nat):Prop where
 hb:b <= G.length
 hi:a<i
 hj:j<b
 hij:i <= j+1
 lo:∀k (h:k<G.length) (ha:a<G.length),a<k->k<i->¬ c G[a] G[k]<0
 hi2:∀k (h:k<G.length) (ha:a<G.length),j<k->k<b->c G[a] G[k]<0
theorem EInv.swap{X:Type}{c:X->X->Int}{a b i j:Nat}{G:List X}(p:EInv c a b G i j)(hc:i <= j)(hi:i<G.length)(hj:j<G.length)(ha:a<G.length)(h1:c G[a] G[i]<0)(h2:¬ c G[a] G[j]<0):EInv c a b (swp G i j hi hj) (i+1) (j-1):=by
 have k1:=p.hi;have k2:=p.hij;have k3:=p.hj;have k4:=p.hb;have hne:i≠j:=λe=>by subst e;exact h2 h1
 have hl:=zjr hi hj;have pa:∀(hm:a<(swp G i j hi hj).length),(swp G i j hi hj)[a]=G[a]:=λhm=>by rw[zgk hi hj hm ha,if_neg (by omega),if_neg (by omega)]
 refine⟨by omega,by omega,by omega,by omega,λk hk hm q1 q2=>?_,λk hk hm q1 q2=>?_⟩
 ·rw[pa,zgk hi hj hk (by omega),if_neg (by omega)]
  by_cases e:k=i
  ·rw[if_pos e];exact h2
  ·rw[if_neg e];exact p.lo k (by omega) ha q1 (by omega)
 ·rw[pa,zgk hi hj hk (by omega)]
  by_cases e:k=j
  ·rw[if_pos e];exact h1
  ·rw[if_neg e,if_neg (by omega)];exact p.hi2 k (by omega) ha (by omega) q2
section
variable{E:zbb}{X:Type}{cs:X->List za}{v:X->za}{h0 h:zb}{x f:za}{G:List X}{R:List (List za)}{c:X->X->Int}{Q:zQ}{Y1:zL}{a b i j:Nat}
end
structure SInv{X:Type}(c:X->X->Int)(a n lo r:Nat)(G:List X):Prop where
 len:a+n <= G.length
 heap:∀k,0<k->(hk:k<n)->lo <= (k-1) / 2->(k-1) / 2≠r->(h1:a+(k-1) / 2<G.length)->(h2:a+k<G.length)->¬ c G[a+(k-1) / 2] G[a+k]<0
 grand:lo <= (r-1) / 2->0<r->∀k,0<k->(hk:k<n)->(k-1) / 2=r->(h1:a+(r-1) / 2<G.length)->(h2:a+k<G.length)->¬ c G[a+(r-1) / 2] G[a+k]<0
def Heap{X:Type}(c:X->X->Int)(a n lo:Nat)(G:List X):Prop:=∀k,0<k->(hk:k<n)->lo <= (k-1) / 2->(h1:a+(k-1) / 2<G.length)->(h2:a+k<G.length)->¬ c G[a+(k-1) / 2] G[a+k]<0
section
variable{X:Type}{c:X->X->Int}{a n lo r ch:Nat}{G:List X}
theorem SInv.done(p:SInv c a n lo r G)(hr:∀k,0<k->k<n->(k-1) / 2=r->(h1:a+r<G.length)->(h2:a+k<G.length)->¬ c G[a+r] G[a+k]<0):Heap c a n lo G:=λk h0 hk hl h1 h2=>by
 by_cases e:(k-1) / 2=r
 ·have:=hr k h0 hk e (by rw[<-e];exact h1) h2
  simp only[e];exact this
 ·exact p.heap k h0 hk hl e h1 h2
theorem SInv.step(W:znb (zeu c))(p:SInv c a n lo r G)(hlo:lo <= r)(hch:ch<n)(hp:(ch-1) / 2=r)(h0:0<ch)(hr:a+r<G.length)(hc:a+ch<G.length)(hlt:c G[a+r] G[a+ch]<0)
  (hmax:∀k,0<k->k<n->(k-1) / 2=r->(h2:a+k<G.length)->¬ c G[a+ch] G[a+k]<0):SInv c a n lo ch (swp G (a+r) (a+ch) hr hc):=by
 have hl:=zjr hr hc;have hrc:r<ch:=by omega
 have asym:¬ c G[a+ch] G[a+r]<0:=by
  have:=W.asym (a:=G[a+r]) (b:=G[a+ch]) (by unfold zeu;exact decide_eq_true hlt);unfold zeu at this;exact of_decide_eq_false this
 refine⟨by rw[hl];exact p.len,λk k0 hk hlk hne h1 h2=>?_,λ_ _ k k0 hk hkp h1 h2=>?_⟩
 ·have g1:a+(k-1) / 2<G.length:=by omega
  have g2:a+k<G.length:=by omega
  rw[zgk hr hc h1 g1,zgk hr hc h2 g2,if_neg (by omega:¬ a+(k-1) / 2=a+ch)];by_cases e1:(k-1) / 2=r
  ·rw[if_pos (by omega)]
   by_cases e2:k=ch
   ·rw[if_pos (by omega)];exact asym
   ·rw[if_neg (by omega),if_neg (by omega)];exact hmax k k0 hk e1 g2
  ·rw[if_neg (by omega)]
   by_cases e2:k=r
   ·rw[if_neg (by omega),if_pos (by omega)]
    subst e2;exact p.grand hlk k0 ch h0 hch hp g1 hc
   ·rw[if_neg (by omega),if_neg (by omega)];exact p.heap k k0 hk hlk e1 g1 g2
 ·have g1:a+(ch-1) / 2<G.length:=by omega
  have g2:a+k<G.length:=by omega
  rw[zgk hr hc h1 g1,zgk hr hc h2 g2,if_neg (by omega),if_pos (by omega),if_neg (by omega),if_neg (by omega)];have:=p.heap k k0 hk (by omega) (by omega) (by omega) g2;simp only[hkp]at this;exact this
end
variable{C:z5}
section
variable{E:zbb}{X:Type}{cs:X->List za}{v:X->za}{h0 h:zb}{x f:za}{G:List X}{R:List (List za)}{c:X->X->Int}{Q:zQ}{Y1:zL}{a n lo r ch:Nat}
end
section
variable{X:Type}{c:X->X->Int}{a b n lo:Nat}{G G':List X}
theorem Heap.sinv{X:Type}{c:X->X->Int}{a n lo:Nat}{G:List X}(p:Heap c a n (lo+1) G)(hl:a+n <= G.length):SInv c a n lo lo G:=⟨hl,λk k0 hk h1 hne h2 h3=>p k k0 hk (by omega) h2 h3,λh1 h0=>by omega⟩
theorem Heap.none_{X:Type}{c:X->X->Int}{a n lo:Nat}{G:List X}(h:n <= 2*lo+1):Heap c a n lo G:=λk k0 hk h1 _ _=>by omega
theorem Heap.root(W:znb (zeu c))(p:Heap c a n 0 G)(hl:a+n <= G.length):∀(k:Nat)(hk:k<n),¬ c (G[a]'(by omega)) (G[a+k]'(by omega))<0:=by
 intro k
 induction k using Nat.strongRecOn with
 | ind k ih=>
  intro hk;by_cases e:k=0
  ·subst e
   have:=W.irr (G[a]'(by omega));unfold zeu at this;simpa using this
  ·have h1:=ih ((k-1) / 2) (by omega) (by omega)
   have h2:=p k (by omega) hk (by omega) (by omega) (by omega);have:=W.zo1 (a:=G[a]'(by omega)) (b:=G[a+(k-1) / 2]'(by omega)) (c:=G[a+k]'(by omega)) (by unfold zeu;exact decide_eq_false h1) (by unfold zeu;exact decide_eq_false h2);unfold zeu at this;exact of_decide_eq_false this
theorem zdg.take(w:zdg a b G G'):G'.take a=G.take a:=ext_getElem? λi=>by
 rw[getElem?_take,getElem?_take]
 split
 ·rename_i h;exact w.out i (.inl h)
 ·rfl
theorem zdg.drop(w:zdg a b G G'):G'.drop b=G.drop b:=ext_getElem? λi=>by
 rw[getElem?_drop,getElem?_drop];exact w.out (b+i) (.inr (by omega))
theorem split3(hab:a <= b)(G:List X):G=G.take a++((G.take b).drop a++G.drop b):=by
 have h1:G.take a=(G.take b).take a:=by rw[take_take,Nat.min_eq_left hab]
 rw[h1,<-append_assoc,take_append_drop,take_append_drop]
theorem zdg.mid(w:zdg a b G G')(hab:a <= b):((G'.take b).drop a).Perm ((G.take b).drop a):=by
 have h:=w.perm;rw[split3 hab G,split3 hab G',w.take,w.drop]at h;exact(perm_append_right_iff _).1 ((perm_append_left_iff _).1 h)
theorem zdg.mem(w:zdg a b G G'){k:Nat}(h1:a <= k)(h2:k<b)(hk:k<G'.length):∃k',a <= k' /\ k'<b /\ ∃h':k'<G.length,G'[k]=G[k']:=by
 have hm:G'[k]∈(G'.take b).drop a:=by
  rw[mem_iff_getElem?];refine⟨k-a,?_⟩;rw[getElem?_drop,getElem?_take,if_pos (by omega),Nat.add_sub_cancel' h1,getElem?_eq_getElem hk]
 have:=(w.mid (by omega)).mem_iff.1 hm;rw[mem_iff_getElem?]at this;obtain⟨i,hi⟩:=this;rw[getElem?_drop,getElem?_take]at hi;split at hi
 ·rename_i hlt
  obtain⟨hb,e⟩:=List.getElem?_eq_some_iff.1 hi;exact⟨a+i,by omega,hlt,hb,e.symm⟩
 ·cases hi
def Cut{X:Type}(c:X->X->Int)(A B a b:Nat)(G:List X):Prop:=∀p q,A <= p->p<q->q<B->p<a \/ b <= q->∀(h1:p<G.length)(h2:q<G.length),¬ c G[q] G[p]<0
def Srt{X:Type}(c:X->X->Int)(A B:Nat)(G:List X):Prop:=∀p q,A <= p->p<q->q<B->∀(h1:p<G.length)(h2:q<G.length),¬ c G[q] G[p]<0
theorem Cut.within{A B:Nat}(x:Cut c A B a b G)(w:zdg a b G G')(ha:A <= a)(hb:b <= B):Cut c A B a b G':=λp q hp hpq hq h h1 h2=>by
 have hl:=w.len
 rcases h with h|h
 ·rw[w.same (.inl h) h1 (by omega)]
  by_cases hq2:a <= q /\ q<b
  ·obtain⟨q',h3,h4,h5,e⟩:=w.mem hq2.1 hq2.2 h2
   rw[e];exact x p q' hp (by omega) (by omega) (.inl h) (by omega) h5
  ·rw[w.same (by omega) h2 (by omega)];exact x p q hp hpq hq (.inl h) _ _
 ·rw[w.same (k:=q) (.inr h) h2 (by omega)]
  by_cases hp2:a <= p /\ p<b
  ·obtain⟨p',h3,h4,h5,e⟩:=w.mem hp2.1 hp2.2 h1
   rw[e];exact x p' q (by omega) (by omega) hq (.inr h) h5 (by omega)
  ·rw[w.same (k:=p) (by omega) h1 (by omega)];exact x p q hp hpq hq (.inr h) _ _
theorem Cut.join{A B:Nat}(x:Cut c A B a b G)(s:Srt c a b G):Srt c A B G:=λp q hp hpq hq h1 h2=>by
 by_cases h:p<a \/ b <= q
 ·exact x p q hp hpq hq h h1 h2
 ·exact s p q (by omega) hpq (by omega) h1 h2
theorem Cut.small{A B:Nat}(x:Cut c A B a b G)(s:b <= a+1):Srt c A B G:=x.join λp q _ _ _ _ _=>by omega
theorem within_mid{M:List X}(hab:a <= b)(hb:b <= G.length)(hp:M.Perm ((G.take b).drop a)):zdg a b G (G.take a++(M++G.drop b)):=by
 have hl:=hp.length_eq;simp only[length_drop,length_take]at hl;refine⟨?_,λi hi=>?_⟩
 ·have:=(hp.append_right (G.drop b)).append_left (G.take a)
  rw[<-split3 hab G]at this;exact this
 ·rcases hi with hi|hi
  ·rw[getElem?_append_left (by rw[length_take];omega),getElem?_take,if_pos hi]
  ·rw[getElem?_append_right (by rw[length_take];omega),getElem?_append_right (by rw[length_take];omega),getElem?_drop,length_take]
   congr 1;omega
theorem srt_mid{M:List X}(hab:a <= b)(hb:b <= G.length)(hl:M.length=b-a)(hp:M.Pairwise λx y=>¬ c y x<0):Srt c a b (G.take a++(M++G.drop b)):=λp q hp1 hpq hq h1 h2=>by
 have e:∀k (h1:a <= k) (h2:k<b) (hk:k<(G.take a++(M++G.drop b)).length),(G.take a++(M++G.drop b))[k]=M[k-a]'(by omega):=λk h1 h2 hk=>by
  rw[getElem_append_right (by rw[length_take];omega),getElem_append_left (by rw[length_take];omega)]
  congr 1;rw[length_take];omega
 rw[e p hp1 (by omega),e q (by omega) hq]
 exact pairwise_iff_getElem.1 hp _ _ _ _ (by omega)
end
variable{C:z5}
section
variable{E:zbb}{X:Type}{cs:X->List za}{v:X->za}{h0 h:zb}{x f:za}{G:List X}{R:List (List za)}{c:X->X->Int}{Q:zQ}{a b:Nat}
end
variable{C:z5}
def Pre{X:Type}(c:X->X->Int)(a b:Nat)(G:List X):Prop:=0<a->∀i,a <= i->i<b->∀(h1:i<G.length)(h2:a-1<G.length),¬ c G[i] G[a-1]<0
theorem Pre.within{X:Type}{c:X->X->Int}{a b:Nat}{G G':List X}(p:Pre c a b G)(w:zdg a b G G'):Pre c a b G':=λh0 i h1 h2 h3 h4=>by
 have hl:=w.len
 obtain⟨k,k1,k2,k3,e⟩:=w.mem h1 h2 h3
 rw[e,w.same (k:=a-1) (.inl (by omega)) h4 (by omega)]
 exact p h0 k k1 k2 _ _
def But1{X:Type}(c:X->X->Int)(A B j:Nat)(G:List X):Prop:=∀p q,A <= p->p<q->q<B->q≠j->∀(h1:p<G.length)(h2:q<G.length),¬ c G[q] G[p]<0
section
variable{X:Type}{c:X->X->Int}{A B j:Nat}{G:List X}
theorem But1.done(W:znb (zeu c))(x:But1 c A B j G)(hj:j<G.length)(h:j <= A \/ ∀(h1:j-1<G.length),¬ c G[j] G[j-1]<0):Srt c A B G:=λp q h1 h2 h3 h4 h5=>by
 by_cases e:q=j
 ·subst e
  have h:=h.resolve_left (by omega)
  by_cases e2:p=q-1
  ·subst e2;exact h _
  ·have k1:=x p (q-1) h1 (by omega) (by omega) (by omega) h4 (by omega)
   have:=W.zo1 (a:=G[q]) (b:=G[q-1]'(by omega)) (c:=G[p]) (by unfold zeu;exact decide_eq_false (h _)) (by unfold zeu;exact decide_eq_false k1)
   unfold zeu at this;exact of_decide_eq_false this
 ·exact x p q h1 h2 h3 e h4 h5
theorem But1.step(W:znb (zeu c))(x:But1 c A B j G)(hA:A<j)(hj:j<G.length)(hj1:j-1<G.length)(hlt:c G[j] G[j-1]<0):But1 c A B (j-1) (swp G j (j-1) hj hj1):=λp q h1 h2 h3 h4 h5 h6=>by
 have hl:=zjr hj hj1
 rw[zgk hj hj1 h6 (by omega),if_neg h4,zgk hj hj1 h5 (by omega)]
 by_cases e:q=j
 ·rw[if_pos e]
  split
  ·have:=W.asym (a:=G[j]) (b:=G[j-1]) (by unfold zeu;exact decide_eq_true hlt)
   unfold zeu at this;exact of_decide_eq_false this
  ·rw[if_neg (by omega)];exact x p (j-1) h1 (by omega) (by omega) (by omega) (by omega) hj1
 ·rw[if_neg e]
  split
  ·exact x j q (by omega) (by omega) h3 e hj (by omega)
  ·split
   ·exact x (j-1) q (by omega) (by omega) h3 e hj1 (by omega)
   ·exact x p q h1 h2 h3 e (by omega) (by omega)
end
section
variable{E:zbb}{X:Type}{cs:X->List za}{v:X->za}{h0 h:zb}{x f:za}{G:List X}{R:List (List za)}{c:X->X->Int}{Q:zQ}{Y1:zL}{a b i s:Nat}
end
variable{C:z5}{N:zN}
theorem SlX.zoa{T:Type}{h:zb}{es:Nat}{x:za}{f:T->List za}{L:List T}{R:List (List za)}(hs:SlX h es x (L.map f) R)(hes:0<es){lo hi:Nat}{a b:Option za}(ha:a=none /\ lo=0 \/ ∃k,a=some (.int k lo))(hb:b=none /\ hi=L.length \/ ∃k,b=some (.int k hi))(h1:lo <= hi)(h2:hi <= L.length):
  ∃x' R',V.zh6 es x a b=some x' /\ SlX h es x' (((L.take hi).drop lo).map f) R' /\ zht x'=zht x:=by
 obtain⟨x',e1,e2,e3⟩:=hs.slice hes ha (by simpa using hb) h1 (by simp;omega);refine⟨x',(L.map f++R).drop hi,e1,?_,e3⟩
 rwa [take_append_of_le_length (by simpa using h2),<-map_take,<-map_drop]at e2
variable{C:z5}{N:zN}
def be(n:Int):Nat->List UInt8|0=>[]|k+1=>byt (n.fdiv (2 ^ (8*k)))::be n k
@[simp] theorem be_len(n:Int):∀k,(be n k).length=k
 | 0=>rfl
 | k+1=>by simp[be,be_len n k]
variable{C:z5}{N:zN}
theorem bin_shl{k j:IntKind}{a b:Int}(h0:0 <= b)(h1:b<k.bits):V.bin .shl (.int k a) (.int j b)=some (.int k (k.wrap (a*2 ^ b.toNat))):=by
 simp only[V.bin,V.shift];rw[if_neg (by omega),Nat.min_eq_left (by omega)]
variable{C:z5}{N:zN}
theorem V.bin_xor(k:IntKind)(a b:Int):V.bin .xor (.int k a) (.int k b)=some (.int k (k.wrap (BitVec.ofInt k.bits a ^^^ BitVec.ofInt k.bits b).toNat)):=by simp[V.bin,V.arith]
theorem V.bin_and(k:IntKind)(a b:Int):V.bin .and (.int k a) (.int k b)=some (.int k (k.wrap (BitVec.ofInt k.bits a &&& BitVec.ofInt k.bits b).toNat)):=by simp[V.bin,V.arith]
theorem wrapU{n:Nat}(h:n<18446744073709551616):IntKind.u64.wrap (n:Int)=n:=by rw[wrap_u64];omega
theorem toUN{n:Nat}(h:n<18446744073709551616):V.toInt .u64 (.int .i64 (n:Int))=some (.int .u64 (n:Int)):=by rw[V.toInt_int,wrapU h]
theorem toIN{k:IntKind}{n:Nat}(h:n<4611686018427387904):V.toInt .i64 (.int k (n:Int))=some (.int .i64 (n:Int)):=by rw[V.toInt_int,wrap_i64 (by omega) (by omega)]
theorem and_le{z:Int}{m:Nat}(h:m<4611686018427387904):∃o:Nat,o <= m /\ V.bin .and (.int .u64 z) (.int .u64 (m:Int))=some (.int .u64 (o:Int)):=by
 refine⟨(BitVec.ofInt 64 z &&& BitVec.ofInt 64 (m:Int)).toNat,?_,?_⟩
 ·rw[BitVec.toNat_and]
  refine Nat.le_trans Nat.and_le_right ?_;rw[BitVec.toNat_ofInt];omega
 ·rw[V.bin_and]
  show some (za.int .u64 (IntKind.u64.wrap ((BitVec.ofInt 64 z &&& BitVec.ofInt 64 (m:Int)).toNat:Int)))=_;rw[wrapU (BitVec.isLt _)]
def lenT:List UInt8:=[0,1,2,2,3,3,3,3,4,4,4,4,4,4,4,4,5,5,5,5,5,5,5,5,5,5,5,5,5,5,5,5,6,6,6,6,6,6,6,6,6,6,6,6,6,6,6,6,6,6,6,6,6,6,6,6,6,6,6,6,6,6,6,6,7,7,7,7,7,7,7,7,7,7,7,7,7,7,7,7,7,7,7,7,7,7,7,7,7,7,7,7,7,7,7,7,7,7,7,7,7,7,7,7,7,7,7,7,7,7,7,7,7,7,7,7,7,7,7,7,7,7,7,7,7,7,7,7,8,8,8,8,8,8,8,8,8,8,8,8,8,8,8,8,8,8,8,8,8,8,8,8,8,8,8,8,8,8,8,8,8,8,8,8,8,8,8,8,8,8,8,8,8,8,8,8,8,8,8,8,8,8,8,8,8,8,8,8,8,8,8,8,8,8,8,8,8,8,8,8,8,8,8,8,8,8,8,8,8,8,8,8,8,8,8,8,8,8,8,8,8,8,8,8,8,8,8,8,8,8,8,8,8,8,8,8,8,8,8,8,8,8,8,8,8,8,8,8,8,8,8,8,8,8,8,8]
theorem idxStr_u8{s:List UInt8}{k:Nat}{b:UInt8}(hb:s[k]?=some b):V.znz (.str s) (.int .u8 (k:Int))=some (.int .u8 b.toNat):=by
 simp[V.znz,hb]
theorem lenT_all:∀k:Fin 256,∃b:Fin 9,lenT[k.val]?=some (UInt8.ofNat b.val) /\ (0<k.val->2 ^ b.val <= 2*k.val):=by decide +kernel
theorem lenTab{k:Nat}(h:k<256):∃b:Nat,V.znz (.str lenT) (.int .u8 (k:Int))=some (.int .u8 (b:Int)) /\ b <= 8 /\ (0<k->2 ^ b <= 2*k):=by
 obtain⟨b,e,hb⟩:=lenT_all ⟨k,h⟩;have hb9:=b.isLt;refine⟨b.val,?_,by omega,hb⟩;rw[idxStr_u8 e];congr 2;rw[UInt8.toNat_ofNat',Nat.mod_eq_of_lt (by omega)]
theorem Len64_k1{Q:zQ}{v0 v2:za}{h:zb}:zbi.k1 C N Q v0 v2 h=(B.pv (V.toInt .u8 v0) λv21=>B.pv (V.znz (.str lenT) v21) λv22=>B.pv (V.toInt .i64 v22) λv23=>B.pv (V.bin .add v2 v23) λv24=>Q v24 h):=rfl
theorem Len64_spec{x:Nat}(hx:x <= 100000000){h:zb}{Q:zQ}(hq:∀r:Nat,r <= 32->(0<x->2 ^ r <= 2*x)->Q (.int .i64 (r:Int)) h):zbi.cps C N (.int .u64 (x:Int)) h Q:=by
 have fin:∀(y s:Nat),y<256->s <= 24->(0<x->0<y)->2 ^ s*y <= x->zbi.k1 C N Q (.int .u64 (y:Int)) (.int .i64 (s:Int)) h:=λy s hy hs h0 hle=>by
  obtain⟨b,e,hb,hp⟩:=lenTab hy;have e1:V.toInt .u8 (.int .u64 (y:Int))=some (.int .u8 (y:Int)):=by rw[V.toInt_int,wrap_u8];congr 2;omega
  rw[Len64_k1];simp -dsimp only[e1,B.zf,e,toIN (show b<4611686018427387904 by omega),zpq (show s+b<4611686018427387904 by omega)];refine hq (s+b) (by omega) λhx0=>?_;have h1:=hp (h0 hx0);have h2:2 ^ s*2 ^ b <= 2 ^ s*(2*y):=Nat.mul_le_mul_left _ h1;rw[Nat.pow_add];have h3:2 ^ s*(2*y)=2*(2 ^ s*y):=by rw[Nat.mul_left_comm]
  omega
 have sh:∀(y j:Nat),j<64->V.bin .shr (.int .u64 (y:Int)) (.int .u64 (j:Int))=some (.int .u64 ((y / 2 ^ j:Nat):Int)):=λy j hj=>by
  rw[bin_shr (by omega) (by simp[IntKind.bits];omega),Int.toNat_natCast];congr 2;rw[Int.fdiv_eq_ediv_of_nonneg _ (by exact_mod_cast Nat.zero_le (2 ^ j))];simp
 have g3:V.bin .geq (.int .u64 (x:Int)) (.int .u64 4294967296)=some (.bool false):=by rw[V.zna];simp;omega
 have gk:∀y m:Nat,V.bin .geq (.int .u64 (y:Int)) (.int .u64 (m:Int))=some (.bool (decide (m <= y))):=λy m=>by rw[V.zna];congr 3;exact propext (by omega)
 have low:∀(y s:Nat),y<65536->s <= 16->(0<x->0<y)->2 ^ s*y <= x->zbi.k2 C N Q (.int .u64 (y:Int)) (.int .i64 (s:Int)) h:=λy s hy hs h0 hle=>by
  have g1:V.bin .geq (.int .u64 (y:Int)) (.int .u64 256)=some (.bool (decide (256 <= y))):=gk y 256;have s1:V.bin .shr (.int .u64 (y:Int)) (.int .u64 8)=some (.int .u64 ((y / 2 ^ 8:Nat):Int)):=sh y 8 (by omega);have a1:V.bin .add (.int .i64 (s:Int)) (.int .i64 8)=some (.int .i64 ((s+8:Nat):Int)):=zpq (a:=s) (b:=8) (by omega);simp -dsimp only[zbi.k2,g1,B.zf];refine B.zbd (λhd=>?_) (λhd=>?_)
  ·rw[decide_eq_true_eq]at hd
   simp -dsimp only[s1,a1,B.zf];refine fin (y / 2 ^ 8) (s+8) (by omega) (by omega) (λ_=>by omega) ?_;rw[Nat.pow_add,Nat.mul_assoc];refine Nat.le_trans (Nat.mul_le_mul_left _ ?_) hle;omega
  ·rw[decide_eq_false_iff_not]at hd
   exact fin y s (by omega) (by omega) h0 hle
 have g2:V.bin .geq (.int .u64 (x:Int)) (.int .u64 65536)=some (.bool (decide (65536 <= x))):=gk x 65536;have s2:V.bin .shr (.int .u64 (x:Int)) (.int .u64 16)=some (.int .u64 ((x / 2 ^ 16:Nat):Int)):=sh x 16 (by omega);simp -dsimp only[zbi.cps,zbi.k4,zbi.k3,g3,g2,s2,B.zf,B.cond_false];refine B.zbd (λhd=>?_) (λhd=>?_)
 ·rw[decide_eq_true_eq]at hd
  simp -dsimp only[s2,show V.bin .add (.int .i64 0) (.int .i64 16)=some (.int .i64 ((16:Nat):Int)) from rfl,B.zf];exact low (x / 2 ^ 16) 16 (by omega) (by omega) (λ_=>by omega) (by omega)
 ·rw[decide_eq_false_iff_not]at hd
  exact low x 0 (by omega) (by omega) id (by simp)
theorem Len_spec(i:zbi.Imp C N){x:Nat}(hx:x <= 100000000){h:zb}{Q:zQ}(hq:∀r:Nat,r <= 32->(0<x->2 ^ r <= 2*x)->Q (.int .i64 (r:Int)) h):zdx.cps C N (.int .u64 (x:Int)) h Q:=by
 simp -dsimp only[zdx.cps,zdx.k1,B.cond_false];exact i _ _ _ (Len64_spec hx λr h1 h2=>zbh (hq r h1 h2))
def LenI(C:z5)(f:Nat):Prop:=∀(x:Nat)(h:zb)(Q:zQ),x <= 100000000->(∀r:Nat,r <= 32->(0<x->2 ^ r <= 2*x)->Q (.int .i64 (r:Int)) h)->C f [.int .u64 (x:Int)] h Q
theorem zdx.spec(i:zdx.Imp C N)(i2:zbi.Imp C N):LenI C (N 287):=λx h Q hx hq=>i _ _ _ (Len_spec i2 hx λr h1 h2=>zbh (hq r h1 h2))
def PowI(C:z5)(f:Nat):Prop:=∀(n:Nat)(h:zb)(Q:zQ),0<n->n <= 100000000->(∀m:Nat,0<m->m <= 2*n->Q (.int .u64 (m:Int)) h)->C f [.int .i64 (n:Int)] h Q
theorem zc3.spec(i:zc3.Imp C N)(hl:LenI C (N 287)):PowI C (N 299):=λn h Q h0 hn hq=>by
 apply i;simp -dsimp only[zc3.cps,toUN (show n<18446744073709551616 by omega),B.zf];refine hl n h _ hn λr hr hp=>?_;have e:V.bin .shl (.int .u64 1) (.int .i64 (r:Int))=some (.int .u64 ((2 ^ r:Nat):Int)):=by
  rw[bin_shl (by omega) (by simp[IntKind.bits];omega),Int.toNat_natCast];have:(1:Int)*2 ^ r=((2 ^ r:Nat):Int):=by simp
  rw[this,wrapU];have:=hp h0;omega
 simp -dsimp only[e,B.zf];exact zbh (hq (2 ^ r) (Nat.pos_of_ne_zero (by simp)) (hp h0))
def NextI(C:z5)(f:Nat):Prop:=∀(h0 h:zb)(p:za)(n:Int)(Q:zQ),zc5 h0 h [.box p [.int .u64 n]]->(∀m m' h',zc5 h0 h' [.box p [.int .u64 m']]->Q (.int .u64 m) h')->C f [p] h Q
theorem zch.spec(i:zch.Imp C N):NextI C (N 298):=λh0 h p n Q ho hq=>by
 have key:∀{h:zb}{n:Int},zc5 h0 h [.box p [.int .u64 n]]->∃id,p= .ptr id 0 0 /\ A.ldv h (.ptr id 0 0)=some (.int .u64 n):=λ{h n} ho=>by
  obtain⟨id,rfl,hb⟩:=ho.zrs 0 rfl
  exact⟨id,rfl,by rw[ldv_at hb];rfl⟩
 apply i
 obtain⟨id,rfl,ld⟩:=key ho
 simp -dsimp only[zch.cps,zch.k1,B.zb3,B.zed,ld,B.zf,bin_shl (k:= .u64) (j:= .u64) (b:=13) (by omega) (by simp[IntKind.bits]),V.bin_xor]
 refine ho.boxSt 0 (off:=0) rfl rfl (by simp) λh1 o1 _=>?_
 simp only[set_cons_zero]at o1
 obtain⟨id1,e,ld1⟩:=key o1
 cases e
 simp -dsimp only[B.zb3,B.zed,ld1,B.zf,bin_shr (k:= .u64) (j:= .u64) (b:=7) (by omega) (by simp[IntKind.bits]),V.bin_xor]
 refine o1.boxSt 0 (off:=0) rfl rfl (by simp) λh2 o2 _=>?_
 simp only[set_cons_zero]at o2
 obtain⟨id2,e,ld2⟩:=key o2
 cases e
 simp -dsimp only[B.zb3,B.zed,ld2,B.zf,bin_shl (k:= .u64) (j:= .u64) (b:=17) (by omega) (by simp[IntKind.bits]),V.bin_xor]
 refine o2.boxSt 0 (off:=0) rfl rfl (by simp) λh3 o3 _=>?_
 simp only[set_cons_zero]at o3
 obtain⟨id3,e,ld3⟩:=key o3
 cases e
 simp -dsimp only[B.zb3,B.zed,ld3,B.zf]
 exact zbh (hq _ _ _ o3)
section
variable{E:zbb}{X:Type}{cs:X->List za}{v:X->za}{h0 h:zb}{x f:za}{G:List X}{R:List (List za)}{Q:zQ}{a b:Nat}
end
variable{C:z5}
section
variable{X:Type}{c:X->X->Int}{a b m A0 Z0:Nat}{G G':List X}
theorem le_of(W:znb (zeu c)){x y z:X}(h1:¬ c x y<0)(h2:¬ c y z<0):¬ c x z<0:=by
 have:=W.zo1 (a:=x) (b:=y) (c:=z) (by unfold zeu;exact decide_eq_false h1) (by unfold zeu;exact decide_eq_false h2);unfold zeu at this;exact of_decide_eq_false this
theorem nlt_of(W:znb (zeu c)){x y:X}(h:c x y<0):¬ c y x<0:=by
 have:=W.asym (a:=x) (b:=y) (by unfold zeu;exact decide_eq_true h);unfold zeu at this;exact of_decide_eq_false this
theorem le_self(W:znb (zeu c))(x:X):¬ c x x<0:=by
 have:=W.irr x;unfold zeu at this;exact of_decide_eq_false this
theorem zjp.pair(W:znb (zeu c))(x:zjp c a b m G){p q:Nat}(h1:a <= p)(h2:p<q)(h3:q<b)(h4:p <= m)(h5:m <= q)(hp:p<G.length)(hq:q<G.length):¬ c G[q] G[p]<0:=by
 have hm:m<G.length:=by omega
 have e1:p<m->¬ c G[m] G[p]<0:=λk=>nlt_of W (x.lo p hp hm h1 k);have e2:m<q->¬ c G[q] G[m]<0:=λk=>x.hi q hq hm k h3;by_cases k1:p=m
 ·subst k1;exact e2 (by omega)
 ·by_cases k2:q=m
  ·subst k2;exact e1 (by omega)
  ·exact le_of W (e2 (by omega)) (e1 (by omega))
theorem zjp.left(W:znb (zeu c))(x:zjp c a b m G)(w:zdg a m G G'):zjp c a b m G':=by
 have hl:=w.len;refine⟨x.ge,x.lt,by have:=x.hb;omega,λk h hm h1 h2=>?_,λk h hm h1 h2=>?_⟩
 ·obtain⟨k',k1,k2,k3,e⟩:=w.mem h1 h2 h
  rw[e,w.same (k:=m) (.inr (by omega)) hm (by omega)];exact x.lo k' k3 _ k1 k2
 ·rw[w.same (k:=m) (.inr (by omega)) hm (by omega),w.same (k:=k) (.inr (by omega)) h (by omega)]
  exact x.hi k _ _ h1 h2
theorem zjp.right(W:znb (zeu c))(x:zjp c a b m G)(w:zdg (m+1) b G G'):zjp c a b m G':=by
 have hl:=w.len;refine⟨x.ge,x.lt,by have:=x.hb;omega,λk h hm h1 h2=>?_,λk h hm h1 h2=>?_⟩
 ·rw[w.same (k:=m) (.inl (by omega)) hm (by omega),w.same (k:=k) (.inl (by omega)) h (by omega)]
  exact x.lo k _ _ h1 h2
 ·obtain⟨k',k1,k2,k3,e⟩:=w.mem (k:=k) (by omega) h2 h
  rw[e,w.same (k:=m) (.inl (by omega)) hm (by omega)];exact x.hi k' k3 _ (by omega) k2
theorem Cut.left(W:znb (zeu c))(x:Cut c A0 Z0 a b G)(p:zjp c a b m G)(s:Srt c a m G):Cut c A0 Z0 (m+1) b G:=λi j h1 h2 h3 h4 h5 h6=>by
 by_cases k:i<a \/ b <= j
 ·exact x i j h1 h2 h3 k h5 h6
 ·by_cases k2:j<m
  ·exact s i j (by omega) h2 k2 h5 h6
  ·exact p.pair W (by omega) h2 (by omega) (by omega) (by omega) h5 h6
theorem Cut.right(W:znb (zeu c))(x:Cut c A0 Z0 a b G)(p:zjp c a b m G)(s:Srt c (m+1) b G):Cut c A0 Z0 a m G:=λi j h1 h2 h3 h4 h5 h6=>by
 by_cases k:i<a \/ b <= j
 ·exact x i j h1 h2 h3 k h5 h6
 ·by_cases k2:m<i
  ·exact s i j (by omega) h2 (by omega) h5 h6
  ·exact p.pair W (by omega) h2 (by omega) (by omega) (by omega) h5 h6
theorem Cut.pre(x:Cut c A0 Z0 a b G)(h:A0<a)(hb:b <= Z0):Pre c a b G:=λh0 i h1 h2 h3 h4=>x (a-1) i (by omega) (by omega) (by omega) (.inl (by omega)) h4 h3
theorem Pre.sub(x:Pre c a b G)(h:m <= b):Pre c a m G:=λh0 i h1 h2 h3 h4=>x h0 i h1 (by omega) h3 h4
theorem Cut.equal(W:znb (zeu c)){i j:Nat}(x:Cut c A0 Z0 a b G)(p:EInv c a b G i j)(hji:j<i)(ha:0<a)(hp:Pre c a b G)(hlt:a<b)(hd:∀(h1:a-1<G.length)(h2:a<G.length),¬ c G[a-1] G[a]<0):Cut c A0 Z0 i b G:=λs t h1 h2 h3 h4 h5 h6=>by
 have e:=p.hij;have e3:=p.hi;by_cases k:s<a \/ b <= t
 ·exact x s t h1 h2 h3 k h5 h6
 ·have la:a<G.length:=by omega
  have sp:¬ c G[a] G[s]<0:=by
   by_cases k3:s=a
   ·subst k3;exact le_self W _
   ·exact p.lo s h5 la (by omega) (by omega)
  by_cases k2:t<i
  ·have t1:=hp ha t (by omega) (by omega) h6 (by omega)
   exact le_of W (le_of W t1 (hd (by omega) la)) sp
  ·exact le_of W (nlt_of W (p.hi2 t h6 la (by omega) (by omega))) sp
end
abbrev I5(F:za->za->za->za->za->zb->(zQ)->Prop)(C:z5)(n:Nat):Prop:=∀(v0 v1 v2 v3 v4:za)(h:zb)(Q:zQ),F v0 v1 v2 v3 v4 h (dn Q)->C n [v0,v1,v2,v3,v4] h Q
abbrev I4(F:za->za->za->za->zb->(zQ)->Prop)(C:z5)(n:Nat):Prop:=∀(v0 v1 v2 v3:za)(h:zb)(Q:zQ),F v0 v1 v2 v3 h (dn Q)->C n [v0,v1,v2,v3] h Q
section
variable{E:zbb}{X:Type}{cs:X->List za}{v:X->za}{h0 h:zb}{x f:za}{G:List X}{R:List (List za)}{c:X->X->Int}{Q:zQ}{Y:zL}{f1 f2 f3 f4 f5 f6 f7 f8 f9 g1 g2 g3 g4 g5 g6:Nat}
structure PS(E:zbb){X:Type}(cs:X->List za)(h0:zb)(x:za)(R:List (List za))(c:X->X->Int)(A0 Z0:Nat)(G0:List X)(a b:Nat)(G:List X)(h:zb):Prop where
 hA:A0 <= a
 hab:a <= b
 hB:b <= Z0
 W:zdg A0 Z0 G0 G
 cut:Cut c A0 Z0 a b G
 pre:Pre c a b G
 o:Rw E cs h0 h x G R
theorem PS.zha{A0 Z0 a b:Nat}{G0 G':List X}{h':zb}(p:PS E cs h0 x R c A0 Z0 G0 a b G h)(w:zdg a b G G')(o:Rw E cs h0 h' x G' R):PS E cs h0 x R c A0 Z0 G0 a b G' h':=⟨p.hA,p.hab,p.hB,p.W.trans (w.mono p.hA p.hB),p.cut.within w p.hA p.hB,p.pre.within w,o⟩
abbrev Go1(E:zbb){X:Type}(cs:X->List za)(h0:zb)(x:za)(R:List (List za))(c:X->X->Int)(A0 Z0:Nat)(G0:List X)(n:Nat)(Y:zL):Prop:=∀a b (lim:Int) w1 w2 G h,b-a<n->PS E cs h0 x R c A0 Z0 G0 a b G h->Y [.int .i64 (a:Int),.int .i64 (b:Int),.int .i64 lim,.bool w1,.bool w2] h
end
end Go.Ab
namespace Go.Ab.Ord
open List
open Go.Ab
structure zer(C:z5){X:Type}(v:X->za)(c:X->X->Int)(fL:Nat)(h0:zb):Prop where
 call:∀(h:zb)(a b:X)(K:zQ),h0.le h->K (.bool (decide (c a b<0))) h->B.call C fL [v a,v b] h K
variable{C C0:z5}{fL:Nat}
variable{C C0:z5}{fL:Nat}{N:zN}
section
variable{E:zbb}{X:Type}{cs:X->List za}{v:X->za}{h0 h:zb}{x:za}{G:List X}{R:List (List za)}
end
section
variable{E:zbb}{T:Type}{cs:T->List za}{v:T->za}{c:T->T->Int}{h0 h:zb}{x f:za}{R:List (List za)}{Q:zQ}
theorem zny(S:zd8 E cs v)(W:znb (zeu c)){P M U:List (T×Nat)}(hlen:(P++(M++U)).length <= 100000000)(ht:M.Pairwise λa b=>a.2<b.2)
  (hc:zer C0 v c fL h0) {a b:Nat} (ha:a=P.length) (hb:b=P.length+M.length) (ho:Rw E (λp:T×Nat=>cs p.1) h0 h x (P++(M++U)) R)
  (hq:∀h' M',M'.Perm M->M'.Pairwise (lt' (zeu c))->Rw E (λp:T×Nat=>cs p.1) h0 h' x (P++(M'++U)) R->Q (.tup []) h'):
  zcv.cps C E C0 fL x (.int .i64 (a:Int)) (.int .i64 (b:Int)) f h Q:=by
 have S':=S.comp (λp:T×Nat=>p.1);subst ha;have hlen':P.length+M.length+U.length <= 100000000:=by simpa[Nat.add_assoc]using hlen
 simp -dsimp only[zcv.cps,zgr (show P.length<4611686018427387904 by omega),B.zf];cases M with
 | nil=>
  intro Y hY;refine hY _ _ ?_;simp -dsimp only[zcv.l3,zp1,B.zf];rw[show decide (P.length+1<b)=false by simp at hb ⊢;omega,B.cond_false];exact hq h [] (List.Perm.refl _) .nil ho
 | cons m M1=>
 simp only[length_cons]at hlen' hb;rw[pairwise_cons]at ht;refine z3.intro (λt vs hh=>∃(i:Nat)(L M2:List (T×Nat)),t=M2.length /\ vs=[.int .i64 i] /\ i=P.length+L.length /\ i+M2.length=b /\ Rw E (λp:T×Nat=>cs p.1) h0 hh x (P++(L++(M2++U))) R /\
  (L++M2).Perm (m::M1) /\ L.Pairwise (lt' (zeu c)) /\ M2.Pairwise (λa b=>a.2<b.2) /\ ∀p∈L,∀q∈M2,p.2<q.2) M1.length ?_
  ⟨P.length+1,[m],M1,rfl,rfl,by simp,by omega,by simpa using ho,List.Perm.refl _,pairwise_singleton ..,ht.2,by simpa using ht.1⟩
 rintro Y t vs hh ⟨i,L,M2,rfl,rfl,hi,hib,o,hp,hs,ht2,htt⟩ hY;simp -dsimp only[zcv.l3,zp1,B.zf];cases M2 with
 | nil=>
  rw[show decide (i<b)=false by simp at hib ⊢;omega,B.cond_false];rw[append_nil]at hp;exact hq hh L hp hs o
 | cons x0 M2=>
  simp only[length_cons]at hib;rw[show decide (i<b)=true by simp;omega,B.cond_true];rw[pairwise_cons]at ht2;have hll:P.length+(L.length+(M2.length+1))=b:=by omega
  refine z3.intro (λt vs h2=>∃(L1 L2:List (T×Nat)),t=L1.length /\ vs=[.int .i64 ((P.length+L1.length:Nat):Int)] /\ L=L1++L2 /\ Rw E (λp:T×Nat=>cs p.1) h0 h2 x (P++(L1++x0::(L2++(M2++U)))) R /\
   ∀q∈L2,lt' (zeu c) x0 q) L.length ?_ ⟨L,[],rfl,by rw[hi],by simp,by simpa using o,by simp⟩
  rintro Z t vs h2 ⟨L1,L2,rfl,rfl,rfl,o2,hx⟩ hZ;rw[pairwise_append]at hs;have fin:(L1=[] \/ ∃L0 y,L1=L0++[y] /\ lt' (zeu c) y x0)->Y [.int .i64 ((i+1:Nat):Int)] h2:=λhz=>by
   have hlow:∀p∈L1,lt' (zeu c) p x0:=by
    rcases hz with rfl|⟨L0,y,rfl,hy⟩
    ·simp
    ·intro p hpm
     rcases mem_append.1 hpm with h1|h1
     ·exact lt'_trans W ((pairwise_append.1 hs.1).2.2 p h1 y (by simp)) hy
     ·rw[mem_singleton.1 h1];exact hy
   refine hY M2.length _ _ (by simp) ⟨i+1,L1++x0::L2,M2,rfl,rfl,by simp at hi ⊢;omega,by omega,by simpa using o2,?_,?_,ht2.2,?_⟩
   ·refine List.Perm.trans ?_ hp
    simp only[append_assoc,cons_append];refine List.Perm.append_left _ ?_;exact(perm_middle (l₁:=L2) (l₂:=M2) (a:=x0)).symm
   ·rw[pairwise_append,pairwise_cons]
    refine⟨hs.1,⟨hx,hs.2.1⟩,λp h1 q h2=>?_⟩;rcases mem_cons.1 h2 with rfl|h2
    ·exact hlow p h1
    ·exact hs.2.2 p h1 q h2
   ·intro p h1 q h2
    rcases mem_append.1 h1 with h1|h1
    ·exact htt p (mem_append_left _ h1) q (mem_cons_of_mem _ h2)
    ·rcases mem_cons.1 h1 with rfl|h1
     ·exact ht2.1 q h2
     ·exact htt p (mem_append_right _ h1) q (mem_cons_of_mem _ h2)
  have hll2:i=P.length+(L1.length+L2.length):=by simpa using hi
  simp -dsimp only[zcv.l2,zcv.k1,gtrN,B.zf];obtain rfl|⟨L0,y,rfl⟩:=nil_or_snoc L1
  ·simp -dsimp[zgr (show i<4611686018427387904 by omega)]
   exact fin (.inl rfl)
  ·have hyx:y.2<x0.2:=htt y (by simp) x0 (by simp)
   have o2':=o2;simp only[append_assoc,cons_append,nil_append]at o2';simp only[length_append,length_singleton]at hll2 hlen' hll;have hj:P.length+(L0++[y]).length=P.length+L0.length+1:=by simp[Nat.add_assoc]
   rw[show decide (P.length<P.length+(L0++[y]).length)=true by simp];rw[hj];simp -dsimp only[B.zfu,B.gdb_pure,B.zbe,zoq,sub1 (show 1 <= P.length+L0.length+1 by omega) (by omega),Nat.add_sub_cancel,o2.idx (i:=P.length+L0.length+1) (by simp;omega),o2.idx (i:=P.length+L0.length) (by simp),B.zf];have o3:Rw E (λp:T×Nat=>cs p.1) h0 h2 x ((P++L0)++y::([]++x0::(L2++(M2++U)))) R:=by simpa using o2
   have gy:((P++L0)++y::([]++x0::(L2++(M2++U))))[P.length+L0.length]?=some y:=get_mid (by simp);have gx:((P++L0)++y::([]++x0::(L2++(M2++U))))[P.length+L0.length+1]?=some x0:=get_mid2 (by simp);refine o3.ld S' gx ?_;refine o3.ld S' gy ?_;refine hc.call _ _ _ _ o2.le ?_;simp -dsimp only[B.zfu,B.gdb_pure,B.zbe,zoq,V.zev,B.zf,B.zex];refine B.zbd (λhb2=>?_) (λhb2=>?_)
   ·simp -dsimp only[sub1 (show 1 <= P.length+L0.length+1 by omega) (by omega),Nat.add_sub_cancel,o2.idx (i:=P.length+L0.length+1) (by simp;omega),o2.idx (i:=P.length+L0.length) (by simp),B.zf]
    refine o3.ld S' gy ?_;refine o3.ld S' gx ?_;refine o3.swapDn S' (by simp) (by simp) λh4 o4=>?_;refine hZ L0.length _ _ (by simp) ⟨L0,y::L2,rfl,rfl,by simp,by simpa using o4,?_⟩;intro q hq2;rcases mem_cons.1 hq2 with rfl|hq2
    ·exact(lt'_gt hyx).2 hb2
    ·exact hx q hq2
   ·simp -dsimp only[zgr (show i<4611686018427387904 by omega),B.zf]
    exact fin (.inr ⟨L0,y,rfl,(lt'_le W hyx).2 hb2⟩)
end
section
variable{E:zbb}{X:Type}{cs:X->List za}{v:X->za}{h0 h:zb}{x f:za}{G:List X}{R:List (List za)}{c:X->X->Int}
theorem zm2(S:zd8 E cs v)(hx:SlX h0 E.es x (G.map cs) R)(hc:zer C0 v c fL h0){p:za}{n:Int}(ho:zc5 h0 h [.box p [.int .i64 n]]){i j:Nat}(hi:i<G.length)(hj:j<G.length){Q:zQ}
  (hq:∀(i' j':Nat) (n':Int) h',(i'=i \/ i'=j)->(j'=i \/ j'=j)->zc5 h0 h' [.box p [.int .i64 n']]->Q (.tup [.int .i64 (i':Int),.int .i64 (j':Int)]) h'):zfq.cps C E C0 fL x (.int .i64 (i:Int)) (.int .i64 (j:Int)) p f h Q:=by
 have hxx:=hx.mono ho.le;have ii:V.zc9 E.es x (.int .i64 (i:Int))=some (elp E.es x i 0):=hxx.znf (by simpa using hi);have ij:V.zc9 E.es x (.int .i64 (j:Int))=some (elp E.es x j 0):=hxx.znf (by simpa using hj);have gi:(G.map cs)[i]?=some (cs G[i]):=by rw[getElem?_map,getElem?_eq_getElem hi];rfl
 have gj:(G.map cs)[j]?=some (cs G[j]):=by rw[getElem?_map,getElem?_eq_getElem hj];rfl
 obtain⟨id,rfl,hb⟩:=ho.zrs 0 rfl;have ld:A.ldv h (.ptr id 0 0)=some (.int .i64 n):=by rw[ldv_at hb];rfl
 simp -dsimp only[zfq.cps,zfq.k1,ij,B.zf];refine S.ld hxx gj ?_;simp -dsimp only[ii,B.zf];refine S.ld hxx gi ?_;refine hc.call _ _ _ _ ho.le ?_;refine B.zbd (λhd=>?_) (λhd=>?_)
 ·simp -dsimp only[B.zb3,B.zed,ld,V.zh7,B.zf]
  refine ho.boxSt 0 (off:=0) rfl rfl (by simp) λh2 o2 _=>?_;exact hq j i _ h2 (.inr rfl) (.inl rfl) (by simpa using o2)
 ·exact hq i j n h (.inl rfl) (.inr rfl) ho
abbrev O2I(C:z5)(E:zbb)(C0:z5)(fL:Nat)(f1:Nat):Prop:=∀(v0 v1 v2 v3 v4:za)(h:zb)(Q:zQ),zfq.cps C E C0 fL v0 v1 v2 v3 v4 h (dn Q)->C f1 [v0,v1,v2,v3,v4] h Q
abbrev MedI(C:z5)(E:zbb)(C0:z5)(fL:Nat)(f1 f2:Nat):Prop:=∀(v0 v1 v2 v3 v4 v5:za)(h:zb)(Q:zQ),zfr.cps C E C0 fL f1 v0 v1 v2 v3 v4 v5 h (dn Q)->C f2 [v0,v1,v2,v3,v4,v5] h Q
abbrev AdjI(C:z5)(E:zbb)(C0:z5)(fL:Nat)(f2 f3:Nat):Prop:=∀(v0 v1 v2 v3:za)(h:zb)(Q:zQ),zea.cps C E C0 fL f2 v0 v1 v2 v3 h (dn Q)->C f3 [v0,v1,v2,v3] h Q
theorem zm5{f1:Nat}(io:O2I C E C0 fL f1)(S:zd8 E cs v)(hx:SlX h0 E.es x (G.map cs) R)(hc:zer C0 v c fL h0){p:za}{n:Int}(ho:zc5 h0 h [.box p [.int .i64 n]]){i j k:Nat}(hi:i<G.length)(hj:j<G.length)(hk:k<G.length){Q:zQ}
  (hq:∀(m:Nat) (n':Int) h',(m=i \/ m=j \/ m=k)->zc5 h0 h' [.box p [.int .i64 n']]->Q (.int .i64 (m:Int)) h'):zfr.cps C E C0 fL f1 x (.int .i64 (i:Int)) (.int .i64 (j:Int)) (.int .i64 (k:Int)) p f h Q:=by
 simp -dsimp only[zfr.cps,zfr.k1];refine io _ _ _ _ _ _ _ (zm2 S hx hc ho hi hj λa b n1 h1 ha hb o1=>zbh ?_);simp -dsimp only[V.zg5,getElem?_cons_zero,getElem?_cons_succ,B.zf];have la:a<G.length:=by rcases ha with rfl|rfl<;>assumption
 have lb:b<G.length:=by rcases hb with rfl|rfl<;>assumption
 refine io _ _ _ _ _ _ _ (zm2 S hx hc o1 lb hk λa2 b2 n2 h2 ha2 hb2 o2=>zbh ?_);simp -dsimp only[V.zg5,getElem?_cons_zero,getElem?_cons_succ,B.zf];have la2:a2<G.length:=by rcases ha2 with rfl|rfl<;>assumption
 refine io _ _ _ _ _ _ _ (zm2 S hx hc o2 la la2 λa3 b3 n3 h3 ha3 hb3 o3=>zbh ?_);simp -dsimp only[V.zg5,getElem?_cons_zero,getElem?_cons_succ,B.zf];refine hq b3 n3 h3 ?_ o3;omega
theorem zg3{f1 f2:Nat}(io:O2I C E C0 fL f1)(im:MedI C E C0 fL f1 f2)(S:zd8 E cs v)(hx:SlX h0 E.es x (G.map cs) R)(hc:zer C0 v c fL h0){p:za}{n:Int}(ho:zc5 h0 h [.box p [.int .i64 n]]){i:Nat}(hi:0<i)(hi2:i+1<G.length)(hl:G.length<4611686018427387904){Q:zQ}
  (hq:∀(m:Nat) (n':Int) h',i-1 <= m->m <= i+1->zc5 h0 h' [.box p [.int .i64 n']]->Q (.int .i64 (m:Int)) h'):zea.cps C E C0 fL f2 x (.int .i64 (i:Int)) p f h Q:=by
 have e1:V.bin .sub (.int .i64 (i:Int)) (.int .i64 1)=some (.int .i64 ((i-1:Nat):Int)):=by
  rw[V.zju,wrap_i64 (by omega) (by omega)];congr 2;omega
 simp -dsimp only[zea.cps,zea.k1,e1,zgr (show i<4611686018427387904 by omega),B.zf];exact im _ _ _ _ _ _ _ _ (zm5 io S hx hc ho (by omega) (by omega) hi2 λm n' h' hm o'=>zbh (hq m n' h' (by omega) (by omega) o'))
theorem zod(S:zd8 E cs v)(hl:G.length<4611686018427387904)(ho:Rw E cs h0 h x G R){a b:Nat}(hab:a<b)(hb:b <= G.length){Q:zQ}(hq:∀h' G',zdg a b G G'->Rw E cs h0 h' x G' R->Q (.tup []) h'):
  zdy.cps C E C0 fL x (.int .i64 (a:Int)) (.int .i64 (b:Int)) f h Q:=by
 have e1:V.bin .sub (.int .i64 (b:Int)) (.int .i64 1)=some (.int .i64 ((b-1:Nat):Int)):=by
  rw[V.zju,wrap_i64 (by omega) (by omega)];congr 2;omega
 simp -dsimp only[zdy.cps,e1,B.zf];refine z3.intro (λt vs hh=>∃(i j:Nat)(G':List X),t=j /\ vs=[.int .i64 (i:Int),.int .i64 (j:Int)] /\ a <= i /\ j<b /\ zdg a b G G' /\ Rw E cs h0 hh x G' R) (b-1) ?_ ⟨a,b-1,G,rfl,rfl,Nat.le_refl _,by omega,zdg.refl _ _ _,ho⟩;rintro Y j vs hh ⟨i,_,G',rfl,rfl,hi,hj,W,o⟩ hY;simp -dsimp only[zdy.l2,zdy.k1,zp1,B.zf];have hlen:=W.len;refine B.zbd (λhc=>?_) (λhc=>hq hh G' W o);rw[decide_eq_true_eq]at hc;have li:i<G'.length:=by omega
 have lj:j<G'.length:=by omega
 simp -dsimp only[o.idx lj,B.zf];refine o.ld S (getElem?_eq_getElem lj) ?_;simp -dsimp only[o.idx li,B.zf];refine o.ld S (getElem?_eq_getElem li) ?_;have ij:=o.idx lj;refine o.st S (t:=G'[j]) li λh1 o1=>?_;simp -dsimp only[ij,B.zf];refine o1.st S (t:=G'[i]) (by simpa using lj) λh2 o2=>?_;have e2:V.bin .sub (.int .i64 (j:Int)) (.int .i64 1)=some (.int .i64 ((j-1:Nat):Int)):=by
  rw[V.zju,wrap_i64 (by omega) (by omega)];congr 2;omega
 simp -dsimp only[zgr (show i<4611686018427387904 by omega),e2,B.zf];exact hY (j-1) _ _ (by omega) ⟨i+1,j-1,_,rfl,rfl,by omega,by omega,W.trans (ze7 li lj hi (by omega) (by omega) hj),o2⟩
theorem zpp{f1 f2 f3:Nat}(io:O2I C E C0 fL f1)(im:MedI C E C0 fL f1 f2)(ia:AdjI C E C0 fL f2 f3)(S:zd8 E cs v)(hx:SlX h E.es x (G.map cs) R)(h0le:h0.le h)(hc:zer C0 v c fL h0)(hl:G.length <= 100000000){a b:Nat}(hab:a+8 <= b)(hb:b <= G.length){Q:zQ}
  (hq:∀(m:Nat) (hint:Int) h',a <= m->m<b->h.le h'->Q (.tup [.int .i64 (m:Int),.int .i64 hint]) h'):zba.cps C E C0 fL f2 f3 x (.int .i64 (a:Int)) (.int .i64 (b:Int)) f h Q:=by
 have e1:=zjz (a:=b) (b:=a) (by omega) (by omega);simp -dsimp only[zba.cps,e1,B.zf];intro id hid;have o:=(zc5.start h).znq hid [.int .i64 0];simp only[nil_append]at o;have q4:=quo4 (a:=b-a) (by omega);have m1:=mulN (a:=(b-a) / 4) (b:=1) (by omega);have m2:=mulN (a:=(b-a) / 4) (b:=2) (by omega);have m3:=mulN (a:=(b-a) / 4) (b:=3) (by omega);have a1:=zpq (a:=a) (b:=(b-a) / 4*1) (by omega);have a2:=zpq (a:=a) (b:=(b-a) / 4*2) (by omega);have a3:=zpq (a:=a) (b:=(b-a) / 4*3) (by omega);have g8:V.bin .geq (.int .i64 ((b-a:Nat):Int)) (.int .i64 8)=some (.bool true):=by rw[V.zna,decide_eq_true (by omega)]
 have hc':zer C0 v c fL h:=⟨λh2 s t K hle hk=>hc.call h2 s t K (zb.le_trans h0le hle) hk⟩;simp -dsimp only[zba.k6,zba.k5,zba.k4,zba.k3,q4,B.zf];have m1':V.bin .mul (.int .i64 (((b-a) / 4:Nat):Int)) (.int .i64 1)=some (.int .i64 (((b-a) / 4*1:Nat):Int)):=m1;have m2':V.bin .mul (.int .i64 (((b-a) / 4:Nat):Int)) (.int .i64 2)=some (.int .i64 (((b-a) / 4*2:Nat):Int)):=m2;have m3':V.bin .mul (.int .i64 (((b-a) / 4:Nat):Int)) (.int .i64 3)=some (.int .i64 (((b-a) / 4*3:Nat):Int)):=m3;simp -dsimp only[q4,m1',m2',m3',a1,a2,a3,g8,B.cond_true,zba.k5,zba.k4,zba.k3,zba.k2,B.zf];have fin:∀(m:Nat) (n':Int) h',a <= m->m<b->zc5 h h' [.box (.ptr id 0 0) [.int .i64 n']]->zba.k1 C E C0 fL f2 f3 Q (.ptr id 0 0) (.int .i64 (m:Int)) h':=λm n' h' k1 k2 o'=>by
  obtain⟨id',e,hb'⟩:=o'.zrs 0 rfl;cases e;have ld:A.ldv h' (.ptr id 0 0)=some (.int .i64 n'):=by rw[ldv_at hb'];rfl
  simp -dsimp only[zba.k1,B.zed,ld,V.zgq,B.zf];refine B.zbd (λ_=>hq m _ h' k1 k2 o'.le) (λ_=>?_);refine B.zbd (λ_=>hq m _ h' k1 k2 o'.le) (λ_=>hq m _ h' k1 k2 o'.le)
 have g50:V.bin .geq (.int .i64 ((b-a:Nat):Int)) (.int .i64 50)=some (.bool (decide (50 <= b-a))):=geqN (b:=50);simp -dsimp only[g50,B.zf];refine B.zbd (λhd=>?_) (λhd=>?_)
 ·rw[decide_eq_true_eq]at hd
  refine ia _ _ _ _ _ _ (zg3 io im S hx hc' o (by omega) (by omega) (by omega) λi n1 h1 i1 i2 o1=>zbh ?_);refine ia _ _ _ _ _ _ (zg3 io im S hx hc' o1 (by omega) (by omega) (by omega) λj n2 h2 j1 j2 o2=>zbh ?_);refine ia _ _ _ _ _ _ (zg3 io im S hx hc' o2 (by omega) (by omega) (by omega) λk n3 h3 k1 k2 o3=>zbh ?_);refine im _ _ _ _ _ _ _ _ (zm5 io S hx hc' o3 (by omega) (by omega) (by omega) λm n4 h4 hm o4=>zbh ?_);exact fin m n4 h4 (by omega) (by omega) o4
 ·refine im _ _ _ _ _ _ _ _ (zm5 io S hx hc' o (by omega) (by omega) (by omega) λm n4 h4 hm o4=>zbh ?_)
  exact fin m n4 h4 (by omega) (by omega) o4
end
section
variable{E:zbb}{X:Type}{cs:X->List za}{v:X->za}{h0 h:zb}{x f:za}{G:List X}{R:List (List za)}{c:X->X->Int}{Q:zQ}{Y1:zL}{a b i j:Nat}
theorem part_j(S:zd8 E cs v)(hc:zer C0 v c fL h0)(ho:Rw E cs h0 h x G R)(hl:G.length<4611686018427387904)(hab:a<b)(p:zrt c a b G i j)(hi0:j<i \/ ∀(h1:i<G.length)(h2:a<G.length),¬ c G[i] G[a]<0)
  (done:∀h' j',zrt c a b G i j'->j'<i->Rw E cs h0 h' x G R->zl.k1 C E C0 fL Q x (.int .i64 (a:Int)) (.int .i64 (j':Int)) h')
  (next:∀h' j' (hi:i<G.length) (hj:j'<G.length) ,zrt c a b (swp G i j' hi hj) (i+1) (j'-1)->i<j'->j'<b->Rw E cs h0 h' x (swp G i j' hi hj) R->Y1 [.int .i64 ((i+1:Nat):Int),.int .i64 ((j'-1:Nat):Int)] h'):
  z3 (zl.l4 C E C0 fL Q Y1 x (.int .i64 (a:Int)) f (.int .i64 (i:Int))) [.int .i64 (j:Int)] h:=by
 refine z3.intro (λt vs hh=>hh=h /\ ∃j':Nat,t=j' /\ vs=[.int .i64 (j':Int)] /\ zrt c a b G i j' /\ (j'<i \/ ∀(h1:i<G.length)(h2:a<G.length),¬ c G[i] G[a]<0)) j ?_ ⟨rfl,j,rfl,rfl,p,hi0⟩;rintro Y j' vs hh ⟨rfl,_,rfl,rfl,p,hi0⟩ hY;have k1:=p.hi;have k2:=p.hij;have k3:=p.hj;have k4:=p.hb;have la:a<G.length:=by omega
 have lj:j'<G.length:=by omega
 simp -dsimp only[zl.l4,zl.k3,leqN,B.zf];by_cases hle:i <= j'
 ·have li:i<G.length:=by omega
  simp -dsimp only[hle,decide_true,B.zfu,B.zbe,ho.idx lj,ho.idx la,B.zf];refine ho.ld S (getElem?_eq_getElem lj) ?_;refine ho.ld S (getElem?_eq_getElem la) ?_;refine hc.call _ _ _ _ ho.le ?_;simp -dsimp only[hle,decide_true,B.zfu,B.zbe,V.zev,V.zfk,B.zex,B.zf];refine B.zbd (λhd=>?_) (λhd=>?_)
  ·have hd':¬ c G[j'] G[a]<0:=by simpa using hd
   have e1:=zjz (a:=j') (b:=1) (by omega) (by omega);have e1':V.bin .sub (.int .i64 (j':Int)) (.int .i64 1)=some (.int .i64 ((j'-1:Nat):Int)):=e1;simp -dsimp only[e1',B.zf];refine hY (j'-1) _ _ (by omega) ⟨rfl,j'-1,rfl,rfl,⟨k4,k1,by omega,by omega,p.lo,λk hk ha q1 q2=>?_⟩,?_⟩
   ·by_cases e:k=j'
    ·subst e;exact hd'
    ·exact p.hi2 k hk ha (by omega) q2
   ·rcases hi0 with h|h
    ·omega
    ·exact .inr h
  ·have hd':c G[j'] G[a]<0:=by simpa using hd
   have hni:¬ c G[i] G[a]<0:=by
    rcases hi0 with h|h
    ·omega
    ·exact h li la
   simp -dsimp only[zl.k2,gtrN,show ¬ j'<i by omega,decide_false,B.cond_false,ho.idx lj,ho.idx li,B.zf];refine ho.ld S (getElem?_eq_getElem lj) ?_;refine ho.ld S (getElem?_eq_getElem li) ?_;refine ho.st S (t:=G[j']) li λh1 o1=>?_;refine o1.st S (t:=G[i]) (by simpa using lj) λh2 o2=>?_;have e1':V.bin .sub (.int .i64 (j':Int)) (.int .i64 1)=some (.int .i64 ((j'-1:Nat):Int)):=zjz (a:=j') (b:=1) (by omega) (by omega);simp -dsimp only[zgr (show i<4611686018427387904 by omega),e1',B.zf];have hne:i≠j':=λe=>by subst e;exact hni hd'
   exact next h2 j' li lj (p.swap hle li lj la hni hd') (by omega) k3 o2
 ·simp -dsimp only[hle,decide_false,B.zfu,B.zfh,B.zf3,B.cond_false,zl.k2,gtrN,show j'<i by omega,decide_true,B.cond_true,B.zf]
  exact done hh j' p (by omega) ho
theorem part_i(S:zd8 E cs v)(hc:zer C0 v c fL h0)(ho:Rw E cs h0 h x G R)(hl:G.length<4611686018427387904)(hab:a<b)(p:zrt c a b G i j)
  (done:∀h' i' j',zrt c a b G i' j'->j'<i'->Rw E cs h0 h' x G R->zl.k1 C E C0 fL Q x (.int .i64 (a:Int)) (.int .i64 (j':Int)) h')
  (next:∀h' i' j' (hi:i'<G.length) (hj:j'<G.length),zrt c a b (swp G i' j' hi hj) (i'+1) (j'-1)->a<i'->i <= i'->i'<j'->j'<b->Rw E cs h0 h' x (swp G i' j' hi hj) R->Y1 [.int .i64 ((i'+1:Nat):Int),.int .i64 ((j'-1:Nat):Int)] h'):
  z3 (zl.l6 C E C0 fL Q Y1 x (.int .i64 (a:Int)) f (.int .i64 (j:Int))) [.int .i64 (i:Int)] h:=by
 refine z3.intro (λt vs hh=>hh=h /\ ∃i':Nat,i'+t=b /\ i <= i' /\ vs=[.int .i64 (i':Int)] /\ zrt c a b G i' j) (b-i) ?_ ⟨rfl,i,by have:=p.hij;have:=p.hj;omega,Nat.le_refl _,rfl,p⟩;rintro Y t vs hh ⟨rfl,i',hit,hii,rfl,p⟩ hY;have k1:=p.hi;have k2:=p.hij;have k3:=p.hj;have k4:=p.hb;have la:a<G.length:=by omega
 simp -dsimp only[zl.l6,zl.k5,leqN,B.zf];by_cases hle:i' <= j
 ·have li:i'<G.length:=by omega
  simp -dsimp only[hle,decide_true,B.zfu,B.zbe,ho.idx li,ho.idx la,B.zf];refine ho.ld S (getElem?_eq_getElem li) ?_;refine ho.ld S (getElem?_eq_getElem la) ?_;refine hc.call _ _ _ _ ho.le ?_;simp -dsimp only[hle,decide_true,B.zfu,B.zbe,V.zev,B.zex,B.zf];refine B.zbd (λhd=>?_) (λhd=>?_)
  ·have hd':c G[i'] G[a]<0:=by simpa using hd
   simp -dsimp only[zgr (show i'<4611686018427387904 by omega),B.zf];refine hY (b-(i'+1)) _ _ (by omega) ⟨rfl,i'+1,by omega,by omega,rfl,⟨k4,by omega,k3,by omega,λk hk ha q1 q2=>?_,p.hi2⟩⟩;by_cases e:k=i'
   ·subst e;exact hd'
   ·exact p.lo k hk ha q1 (by omega)
  ·have hd':¬ c G[i'] G[a]<0:=by simpa using hd
   exact part_j S hc ho hl hab p (.inr λ_ _=>hd') (λh' j' p' hlt o'=>done h' i' j' p' hlt o') λh' j' hi hj p' h1 h2 o'=>next h' i' j' hi hj p' k1 hii h1 h2 o'
 ·simp -dsimp only[hle,decide_false,B.zfu,B.zfh,B.zf3,B.cond_false]
  exact part_j S hc ho hl hab p (.inl (by omega)) (λh' j' p' hlt o'=>done h' i' j' p' hlt o') λh' j' hi hj p' h1 h2 o'=>next h' i' j' hi hj p' k1 hii h1 h2 o'
theorem part_end(S:zd8 E cs v)(ho:Rw E cs h0 h x G R)(hab:a<b)(p:zrt c a b G i j)(hlt:j<i)(hq:∀h' m G',zjp c a b m G'->zdg a b G G'->Rw E cs h0 h' x G' R->Q (.tup [.int .i64 (m:Int),.bool false]) h'):
  zl.k1 C E C0 fL Q x (.int .i64 (a:Int)) (.int .i64 (j:Int)) h:=by
 have k1:=p.hi;have k2:=p.hij;have k3:=p.hj;have k4:=p.hb;have la:a<G.length:=by omega
 have lj:j<G.length:=by omega
 simp -dsimp only[zl.k1,ho.idx lj,ho.idx la,B.zf];refine ho.ld S (getElem?_eq_getElem la) ?_;refine ho.ld S (getElem?_eq_getElem lj) ?_;refine ho.st S (t:=G[a]) lj λh1 o1=>?_;refine o1.st S (t:=G[j]) (by simpa using la) λh2 o2=>?_;exact hq h2 j _ (p.done hab hlt lj la) (ze7 lj la (by omega) k3 (Nat.le_refl _) hab) o2
theorem part_main(S:zd8 E cs v)(hc:zer C0 v c fL h0)(ho:Rw E cs h0 h x G R)(hl:G.length<4611686018427387904)(hab:a<b)(p:zrt c a b G i j)
  (hq:∀h' m G',zjp c a b m G'->zdg a b G G'->Rw E cs h0 h' x G' R->Q (.tup [.int .i64 (m:Int),.bool false]) h'):
  z3 (zl.l7 C E C0 fL Q x (.int .i64 (a:Int)) f) [.int .i64 (i:Int),.int .i64 (j:Int)] h:=by
 refine z3.intro (λt vs hh=>∃(i' j':Nat)(G':List X),i'+t=b /\ vs=[.int .i64 (i':Int),.int .i64 (j':Int)] /\ zdg a b G G' /\ zrt c a b G' i' j' /\ Rw E cs h0 hh x G' R) (b-i) ?_ ⟨i,j,G,by have:=p.hij;have:=p.hj;omega,rfl,zdg.refl _ _ _,p,ho⟩;rintro Y t vs hh ⟨i',j',G',hit,rfl,W,p,o⟩ hY;have hlen:=W.len;simp -dsimp only[zl.l7];refine part_i S hc o (by omega) hab p (λh' i2 j2 p2 hlt o2=>part_end S o2 hab p2 hlt λh3 m G3 P3 W3 o3=>hq h3 m G3 P3 (W.trans W3) o3) λh' i2 j2 hi hj p2 h1 h2 h3 h4 o2=>?_;exact hY (b-(i2+1)) _ _ (by omega) ⟨i2+1,j2-1,_,by omega,rfl,W.trans (ze7 hi hj (by omega) (by omega) (by omega) h4),p2,o2⟩
end
section
variable{E:zbb}{X:Type}{cs:X->List za}{v:X->za}{h0 h:zb}{x f:za}{G:List X}{R:List (List za)}{c:X->X->Int}{Q:zQ}{a b i j:Nat}
theorem part_k10(S:zd8 E cs v)(hc:zer C0 v c fL h0)(ho:Rw E cs h0 h x G R)(hl:G.length<4611686018427387904)(hab:a<b)(p:zrt c a b G i j)
  (hd:j<i \/ ∃(h1:i<G.length)(h2:a<G.length)(h3:j<G.length),i <= j /\ ¬ c G[i] G[a]<0 /\ c G[j] G[a]<0) (hq:PartQ E cs h0 x c a b R G Q):
  zl.k10 C E C0 fL Q x (.int .i64 (a:Int)) f (.int .i64 (i:Int)) (.int .i64 (j:Int)) h:=by
 have k1:=p.hi;have k2:=p.hij;have k3:=p.hj;have k4:=p.hb;have la:a<G.length:=by omega
 have lj:j<G.length:=by omega
 rcases hd with hlt|⟨li,_,_,hle,n1,n2⟩
 ·simp -dsimp only[zl.k10,gtrN,hlt,decide_true,B.cond_true,ho.idx lj,ho.idx la,B.zf]
  refine ho.ld S (getElem?_eq_getElem la) ?_;refine ho.ld S (getElem?_eq_getElem lj) ?_;refine ho.st S (t:=G[a]) lj λh1 o1=>?_;refine o1.st S (t:=G[j]) (by simpa using la) λh2 o2=>?_;exact hq h2 j _ true (p.done hab hlt lj la) (ze7 lj la (by omega) k3 (Nat.le_refl _) hab) o2
 ·simp -dsimp only[zl.k10,zl.k9,gtrN,show ¬ j<i by omega,decide_false,B.cond_false,ho.idx lj,ho.idx li,B.zf]
  refine ho.ld S (getElem?_eq_getElem lj) ?_;refine ho.ld S (getElem?_eq_getElem li) ?_;refine ho.st S (t:=G[j]) li λh1 o1=>?_;refine o1.st S (t:=G[i]) (by simpa using lj) λh2 o2=>?_;have hne:i≠j:=λe=>by subst e;exact n1 n2
  have e1':V.bin .sub (.int .i64 (j:Int)) (.int .i64 1)=some (.int .i64 ((j-1:Nat):Int)):=zjz (a:=j) (b:=1) (by omega) (by omega);simp -dsimp only[zl.k8,zgr (show i<4611686018427387904 by omega),e1',B.zf];have W:=ze7 li lj (by omega) (by omega) (by omega:a <= j) k3;exact part_main S hc (G:=swp G i j li lj) o2 (by rw[zjr li lj];omega) hab (p.swap hle li lj la n1 n2) λh' m G' P' W' o'=>hq h' m G' false P' (W.trans W') o'
theorem part_j1(S:zd8 E cs v)(hc:zer C0 v c fL h0)(ho:Rw E cs h0 h x G R)(hl:G.length<4611686018427387904)(hab:a<b)(p:zrt c a b G i j)(hi0:j<i \/ ∀(h1:i<G.length)(h2:a<G.length),¬ c G[i] G[a]<0)(hq:PartQ E cs h0 x c a b R G Q):
  z3 (zl.l12 C E C0 fL Q x (.int .i64 (a:Int)) f (.int .i64 (i:Int))) [.int .i64 (j:Int)] h:=by
 refine z3.intro (λt vs hh=>hh=h /\ ∃j':Nat,t=j' /\ vs=[.int .i64 (j':Int)] /\ zrt c a b G i j' /\ (j'<i \/ ∀(h1:i<G.length)(h2:a<G.length),¬ c G[i] G[a]<0)) j ?_ ⟨rfl,j,rfl,rfl,p,hi0⟩;rintro Y j' vs hh ⟨rfl,_,rfl,rfl,p,hi0⟩ hY;have k1:=p.hi;have k2:=p.hij;have k3:=p.hj;have k4:=p.hb;have la:a<G.length:=by omega
 have lj:j'<G.length:=by omega
 simp -dsimp only[zl.l12,zl.k11,leqN,B.zf];by_cases hle:i <= j'
 ·have li:i<G.length:=by omega
  simp -dsimp only[hle,decide_true,B.zfu,B.zbe,ho.idx lj,ho.idx la,B.zf];refine ho.ld S (getElem?_eq_getElem lj) ?_;refine ho.ld S (getElem?_eq_getElem la) ?_;refine hc.call _ _ _ _ ho.le ?_;simp -dsimp only[hle,decide_true,B.zfu,B.zbe,V.zev,V.zfk,B.zex,B.zf];refine B.zbd (λhd=>?_) (λhd=>?_)
  ·have hd':¬ c G[j'] G[a]<0:=by simpa using hd
   have e1':V.bin .sub (.int .i64 (j':Int)) (.int .i64 1)=some (.int .i64 ((j'-1:Nat):Int)):=zjz (a:=j') (b:=1) (by omega) (by omega);simp -dsimp only[e1',B.zf];refine hY (j'-1) _ _ (by omega) ⟨rfl,j'-1,rfl,rfl,⟨k4,k1,by omega,by omega,p.lo,λk hk ha q1 q2=>?_⟩,?_⟩
   ·by_cases e:k=j'
    ·subst e;exact hd'
    ·exact p.hi2 k hk ha (by omega) q2
   ·rcases hi0 with h|h
    ·omega
    ·exact .inr h
  ·have hd':c G[j'] G[a]<0:=by simpa using hd
   have hni:¬ c G[i] G[a]<0:=by
    rcases hi0 with h|h
    ·omega
    ·exact h li la
   exact part_k10 S hc ho hl hab p (.inr ⟨li,la,lj,hle,hni,hd'⟩) hq
 ·simp -dsimp only[hle,decide_false,B.zfu,B.zfh,B.zf3,B.cond_false]
  exact part_k10 S hc ho hl hab p (.inl (by omega)) hq
theorem part_i1(S:zd8 E cs v)(hc:zer C0 v c fL h0)(ho:Rw E cs h0 h x G R)(hl:G.length<4611686018427387904)(hab:a<b)(p:zrt c a b G i j)(hq:PartQ E cs h0 x c a b R G Q):
  z3 (zl.l14 C E C0 fL Q x (.int .i64 (a:Int)) f (.int .i64 (j:Int))) [.int .i64 (i:Int)] h:=by
 refine z3.intro (λt vs hh=>hh=h /\ ∃i':Nat,i'+t=b /\ vs=[.int .i64 (i':Int)] /\ zrt c a b G i' j) (b-i) ?_ ⟨rfl,i,by have:=p.hij;have:=p.hj;omega,rfl,p⟩;rintro Y t vs hh ⟨rfl,i',hit,rfl,p⟩ hY;have k1:=p.hi;have k2:=p.hij;have k3:=p.hj;have k4:=p.hb;have la:a<G.length:=by omega
 simp -dsimp only[zl.l14,zl.k13,leqN,B.zf];by_cases hle:i' <= j
 ·have li:i'<G.length:=by omega
  simp -dsimp only[hle,decide_true,B.zfu,B.zbe,ho.idx li,ho.idx la,B.zf];refine ho.ld S (getElem?_eq_getElem li) ?_;refine ho.ld S (getElem?_eq_getElem la) ?_;refine hc.call _ _ _ _ ho.le ?_;simp -dsimp only[hle,decide_true,B.zfu,B.zbe,V.zev,B.zex,B.zf];refine B.zbd (λhd=>?_) (λhd=>?_)
  ·have hd':c G[i'] G[a]<0:=by simpa using hd
   simp -dsimp only[zgr (show i'<4611686018427387904 by omega),B.zf];refine hY (b-(i'+1)) _ _ (by omega) ⟨rfl,i'+1,by omega,rfl,⟨k4,by omega,k3,by omega,λk hk ha q1 q2=>?_,p.hi2⟩⟩;by_cases e:k=i'
   ·subst e;exact hd'
   ·exact p.lo k hk ha q1 (by omega)
  ·have hd':¬ c G[i'] G[a]<0:=by simpa using hd
   exact part_j1 S hc ho hl hab p (.inr λ_ _=>hd') hq
 ·simp -dsimp only[hle,decide_false,B.zfu,B.zfh,B.zf3,B.cond_false]
  exact part_j1 S hc ho hl hab p (.inl (by omega)) hq
theorem zrk(S:zd8 E cs v)(hc:zer C0 v c fL h0)(ho:Rw E cs h0 h x G R)(hl:G.length<4611686018427387904){pv:Nat}(hp1:a <= pv)(hp2:pv<b)(hb:b <= G.length)(hq:PartQ E cs h0 x c a b R G Q):
  zl.cps C E C0 fL x (.int .i64 (a:Int)) (.int .i64 (b:Int)) (.int .i64 (pv:Int)) f h Q:=by
 have la:a<G.length:=by omega
 have lp:pv<G.length:=by omega
 simp -dsimp only[zl.cps,zl.k16,ho.idx lp,ho.idx la,B.zf];refine ho.ld S (getElem?_eq_getElem lp) ?_;refine ho.ld S (getElem?_eq_getElem la) ?_;refine ho.st S (t:=G[pv]) la λh1 o1=>?_;refine o1.st S (t:=G[a]) (by simpa using lp) λh2 o2=>?_;have e1':V.bin .sub (.int .i64 (b:Int)) (.int .i64 1)=some (.int .i64 ((b-1:Nat):Int)):=zjz (a:=b) (b:=1) (by omega) (by omega);simp -dsimp only[zl.k15,zgr (show a<4611686018427387904 by omega),e1',B.zf];have W:=ze7 la lp (Nat.le_refl _) (by omega) hp1 hp2;have hsl:=zjr la lp;refine part_i1 S hc (G:=swp G a pv la lp) o2 (by omega) (by omega) ⟨by omega,by omega,by omega,by omega,λk _ _ q1 q2=>by omega,λk _ _ q1 q2=>by omega⟩ λh' m G' t P' W' o'=>hq h' m G' t P' (W.trans W') o'
end
section
variable{E:zbb}{X:Type}{cs:X->List za}{v:X->za}{h0 h:zb}{x f:za}{G:List X}{R:List (List za)}{c:X->X->Int}{Q:zQ}{Y1:zL}{a b i j:Nat}
theorem eq_j(S:zd8 E cs v)(hc:zer C0 v c fL h0)(ho:Rw E cs h0 h x G R)(hl:G.length<4611686018427387904)(hab:a<b)(p:EInv c a b G i j)(hi0:j<i \/ ∀(h1:i<G.length)(h2:a<G.length),c G[a] G[i]<0)
  (done:∀h' j',EInv c a b G i j'->j'<i->Rw E cs h0 h' x G R->Q (.int .i64 (i:Int)) h')
  (next:∀h' j' (hi:i<G.length) (hj:j'<G.length),EInv c a b (swp G i j' hi hj) (i+1) (j'-1)->i<j'->j'<b->Rw E cs h0 h' x (swp G i j' hi hj) R->Y1 [.int .i64 ((i+1:Nat):Int),.int .i64 ((j'-1:Nat):Int)] h'):
  z3 (zu.l3 C E C0 fL Q Y1 x (.int .i64 (a:Int)) f (.int .i64 (i:Int))) [.int .i64 (j:Int)] h:=by
 refine z3.intro (λt vs hh=>hh=h /\ ∃j':Nat,t=j' /\ vs=[.int .i64 (j':Int)] /\ EInv c a b G i j' /\ (j'<i \/ ∀(h1:i<G.length)(h2:a<G.length),c G[a] G[i]<0)) j ?_ ⟨rfl,j,rfl,rfl,p,hi0⟩;rintro Y j' vs hh ⟨rfl,_,rfl,rfl,p,hi0⟩ hY;have k1:=p.hi;have k2:=p.hij;have k3:=p.hj;have k4:=p.hb;have la:a<G.length:=by omega
 have lj:j'<G.length:=by omega
 simp -dsimp only[zu.l3,zu.k2,leqN,B.zf];by_cases hle:i <= j'
 ·have li:i<G.length:=by omega
  simp -dsimp only[hle,decide_true,B.zfu,B.zbe,ho.idx lj,ho.idx la,B.zf];refine ho.ld S (getElem?_eq_getElem la) ?_;refine ho.ld S (getElem?_eq_getElem lj) ?_;refine hc.call _ _ _ _ ho.le ?_;simp -dsimp only[hle,decide_true,B.zfu,B.zbe,V.zev,B.zex,B.zf];refine B.zbd (λhd=>?_) (λhd=>?_)
  ·have hd':c G[a] G[j']<0:=by simpa using hd
   have e1':V.bin .sub (.int .i64 (j':Int)) (.int .i64 1)=some (.int .i64 ((j'-1:Nat):Int)):=zjz (a:=j') (b:=1) (by omega) (by omega);simp -dsimp only[e1',B.zf];refine hY (j'-1) _ _ (by omega) ⟨rfl,j'-1,rfl,rfl,⟨k4,k1,by omega,by omega,p.lo,λk hk ha q1 q2=>?_⟩,?_⟩
   ·by_cases e:k=j'
    ·subst e;exact hd'
    ·exact p.hi2 k hk ha (by omega) q2
   ·rcases hi0 with h|h
    ·omega
    ·exact .inr h
  ·have hd':¬ c G[a] G[j']<0:=by simpa using hd
   have hni:c G[a] G[i]<0:=by
    rcases hi0 with h|h
    ·omega
    ·exact h li la
   simp -dsimp only[zu.k1,gtrN,show ¬ j'<i by omega,decide_false,B.cond_false,ho.idx lj,ho.idx li,B.zf];refine ho.ld S (getElem?_eq_getElem lj) ?_;refine ho.ld S (getElem?_eq_getElem li) ?_;refine ho.st S (t:=G[j']) li λh1 o1=>?_;refine o1.st S (t:=G[i]) (by simpa using lj) λh2 o2=>?_;have e1':V.bin .sub (.int .i64 (j':Int)) (.int .i64 1)=some (.int .i64 ((j'-1:Nat):Int)):=zjz (a:=j') (b:=1) (by omega) (by omega);simp -dsimp only[zgr (show i<4611686018427387904 by omega),e1',B.zf];have hne:i≠j':=λe=>by subst e;exact hd' hni
   exact next h2 j' li lj (p.swap hle li lj la hni hd') (by omega) k3 o2
 ·simp -dsimp only[hle,decide_false,B.zfu,B.zfh,B.zf3,B.cond_false,zu.k1,gtrN,show j'<i by omega,decide_true,B.cond_true,B.zf]
  exact done hh j' p (by omega) ho
theorem eq_i(S:zd8 E cs v)(hc:zer C0 v c fL h0)(ho:Rw E cs h0 h x G R)(hl:G.length<4611686018427387904)(hab:a<b)(p:EInv c a b G i j)
  (done:∀h' i' j',EInv c a b G i' j'->j'<i'->Rw E cs h0 h' x G R->Q (.int .i64 (i':Int)) h')
  (next:∀h' i' j' (hi:i'<G.length) (hj:j'<G.length),EInv c a b (swp G i' j' hi hj) (i'+1) (j'-1)->a<i'->i <= i'->i'<j'->j'<b->Rw E cs h0 h' x (swp G i' j' hi hj) R->Y1 [.int .i64 ((i'+1:Nat):Int),.int .i64 ((j'-1:Nat):Int)] h'):
  z3 (zu.l5 C E C0 fL Q Y1 x (.int .i64 (a:Int)) f (.int .i64 (j:Int))) [.int .i64 (i:Int)] h:=by
 refine z3.intro (λt vs hh=>hh=h /\ ∃i':Nat,i'+t=b /\ i <= i' /\ vs=[.int .i64 (i':Int)] /\ EInv c a b G i' j) (b-i) ?_ ⟨rfl,i,by have:=p.hij;have:=p.hj;omega,Nat.le_refl _,rfl,p⟩;rintro Y t vs hh ⟨rfl,i',hit,hii,rfl,p⟩ hY;have k1:=p.hi;have k2:=p.hij;have k3:=p.hj;have k4:=p.hb;have la:a<G.length:=by omega
 simp -dsimp only[zu.l5,zu.k4,leqN,B.zf];by_cases hle:i' <= j
 ·have li:i'<G.length:=by omega
  simp -dsimp only[hle,decide_true,B.zfu,B.zbe,ho.idx li,ho.idx la,B.zf];refine ho.ld S (getElem?_eq_getElem la) ?_;refine ho.ld S (getElem?_eq_getElem li) ?_;refine hc.call _ _ _ _ ho.le ?_;simp -dsimp only[hle,decide_true,B.zfu,B.zbe,V.zev,V.zfk,B.zex,B.zf];refine B.zbd (λhd=>?_) (λhd=>?_)
  ·have hd':¬ c G[a] G[i']<0:=by simpa using hd
   simp -dsimp only[zgr (show i'<4611686018427387904 by omega),B.zf];refine hY (b-(i'+1)) _ _ (by omega) ⟨rfl,i'+1,by omega,by omega,rfl,⟨k4,by omega,k3,by omega,λk hk ha q1 q2=>?_,p.hi2⟩⟩;by_cases e:k=i'
   ·subst e;exact hd'
   ·exact p.lo k hk ha q1 (by omega)
  ·have hd':c G[a] G[i']<0:=by simpa using hd
   exact eq_j S hc ho hl hab p (.inr λ_ _=>hd') (λh' j' p' hlt o'=>done h' i' j' p' hlt o') λh' j' hi hj p' h1 h2 o'=>next h' i' j' hi hj p' k1 hii h1 h2 o'
 ·simp -dsimp only[hle,decide_false,B.zfu,B.zfh,B.zf3,B.cond_false]
  exact eq_j S hc ho hl hab p (.inl (by omega)) (λh' j' p' hlt o'=>done h' i' j' p' hlt o') λh' j' hi hj p' h1 h2 o'=>next h' i' j' hi hj p' k1 hii h1 h2 o'
theorem eq_main(S:zd8 E cs v)(hc:zer C0 v c fL h0)(ho:Rw E cs h0 h x G R)(hl:G.length<4611686018427387904)(hab:a<b)(p:EInv c a b G i j)
  (hq:∀h' i' j' G',EInv c a b G' i' j'->j'<i'->zdg (a+1) b G G'->Rw E cs h0 h' x G' R->Q (.int .i64 (i':Int)) h'):
  z3 (zu.l6 C E C0 fL Q x (.int .i64 (a:Int)) f) [.int .i64 (i:Int),.int .i64 (j:Int)] h:=by
 refine z3.intro (λt vs hh=>∃(i' j':Nat)(G':List X),i'+t=b /\ vs=[.int .i64 (i':Int),.int .i64 (j':Int)] /\ zdg (a+1) b G G' /\ EInv c a b G' i' j' /\ Rw E cs h0 hh x G' R) (b-i) ?_ ⟨i,j,G,by have:=p.hij;have:=p.hj;omega,rfl,zdg.refl _ _ _,p,ho⟩;rintro Y t vs hh ⟨i',j',G',hit,rfl,W,p,o⟩ hY;have hlen:=W.len;simp -dsimp only[zu.l6];refine eq_i S hc o (by omega) hab p (λh' i2 j2 p2 hlt o2=>hq h' i2 j2 G' p2 hlt W o2) λh' i2 j2 hi hj p2 h1 h2 h3 h4 o2=>?_;exact hY (b-(i2+1)) _ _ (by omega) ⟨i2+1,j2-1,_,by omega,rfl,W.trans (ze7 hi hj (by omega) (by omega) (by omega) h4),p2,o2⟩
theorem zm1(S:zd8 E cs v)(hc:zer C0 v c fL h0)(ho:Rw E cs h0 h x G R)(hl:G.length<4611686018427387904){pv:Nat}(hp1:a <= pv)(hp2:pv<b)(hb:b <= G.length)
  (hq:∀h' i' j' G',EInv c a b G' i' j'->j'<i'->zdg a b G G'->(∀(h1:a<G'.length)(h2:pv<G.length),G'[a]=G[pv])->Rw E cs h0 h' x G' R->Q (.int .i64 (i':Int)) h'):
  zu.cps C E C0 fL x (.int .i64 (a:Int)) (.int .i64 (b:Int)) (.int .i64 (pv:Int)) f h Q:=by
 have la:a<G.length:=by omega
 have lp:pv<G.length:=by omega
 simp -dsimp only[zu.cps,zu.k8,ho.idx lp,ho.idx la,B.zf];refine ho.ld S (getElem?_eq_getElem lp) ?_;refine ho.ld S (getElem?_eq_getElem la) ?_;refine ho.st S (t:=G[pv]) la λh1 o1=>?_;refine o1.st S (t:=G[a]) (by simpa using lp) λh2 o2=>?_;have e1':V.bin .sub (.int .i64 (b:Int)) (.int .i64 1)=some (.int .i64 ((b-1:Nat):Int)):=zjz (a:=b) (b:=1) (by omega) (by omega);simp -dsimp only[zu.k7,zgr (show a<4611686018427387904 by omega),e1',B.zf];have W:=ze7 la lp (Nat.le_refl _) (by omega) hp1 hp2;have hsl:=zjr la lp;refine eq_main S hc (G:=swp G a pv la lp) o2 (by omega) (by omega) ⟨by omega,by omega,by omega,by omega,λk _ _ q1 q2=>by omega,λk _ _ q1 q2=>by omega⟩ λh' i' j' G' p' hlt W' o'=>hq h' i' j' G' p' hlt (W.trans (W'.mono (by omega) (Nat.le_refl _))) (λh1 h2=>?_) o';rw[W'.same (.inl (by omega)) h1 (by omega),zgk la lp (by omega) la];split
 ·rename_i e;simp only[e]
 ·rw[if_pos rfl]
end
section
variable{X:Type}{c:X->X->Int}{a n lo r ch:Nat}{G:List X}
end
section
variable{E:zbb}{X:Type}{cs:X->List za}{v:X->za}{h0 h:zb}{x f:za}{G:List X}{R:List (List za)}{c:X->X->Int}{Q:zQ}{Y1:zL}{a n lo r ch:Nat}
theorem sift_k1(S:zd8 E cs v)(W:znb (zeu c))(hc:zer C0 v c fL h0)(ho:Rw E cs h0 h x G R)(hl:G.length<1000000000)(p:SInv c a n lo r G)(hlo:lo <= r)(hch:ch<n)(hp:(ch-1) / 2=r)(hc0:0<ch)
  (hmax:∀k,0<k->k<n->(k-1) / 2=r->(h1:a+ch<G.length)->(h2:a+k<G.length)->¬ c G[a+ch] G[a+k]<0)
  (done:∀h',Heap c a n lo G->Rw E cs h0 h' x G R->Q (.tup []) h')
  (next:∀h' (hr:a+r<G.length) (hcl:a+ch<G.length),SInv c a n lo ch (swp G (a+r) (a+ch) hr hcl)->Rw E cs h0 h' x (swp G (a+r) (a+ch) hr hcl) R->Y1 [.int .i64 (ch:Int)] h'):
  zc6.k1 C E C0 fL Q Y1 x (.int .i64 (n:Int)) (.int .i64 (a:Int)) f (.int .i64 (r:Int)) (.int .i64 (ch:Int)) h:=by
 have hlen:=p.len;have lr:a+r<G.length:=by omega
 have lc:a+ch<G.length:=by omega
 have ar:=zpq (a:=a) (b:=r) (by omega);have ac:=zpq (a:=a) (b:=ch) (by omega);simp -dsimp only[zc6.k1,ar,ac,ho.idx lr,ho.idx lc,B.zf];refine ho.ld S (getElem?_eq_getElem lr) ?_;refine ho.ld S (getElem?_eq_getElem lc) ?_;refine hc.call _ _ _ _ ho.le ?_;simp -dsimp only[V.zev,V.zfk,B.zf];refine B.zbd (λhd=>?_) (λhd=>?_)
 ·have hd':¬ c G[a+r] G[a+ch]<0:=by simpa using hd
  refine done h (p.done λk k0 hk hkp h1 h2=>?_) ho;have:=W.zo1 (a:=G[a+r]) (b:=G[a+ch]) (c:=G[a+k]) (by unfold zeu;exact decide_eq_false hd') (by unfold zeu;exact decide_eq_false (hmax k k0 hk hkp lc h2));unfold zeu at this;exact of_decide_eq_false this
 ·have hd':c G[a+r] G[a+ch]<0:=by simpa using hd
  simp -dsimp only[ar,ac,ho.idx lr,ho.idx lc,B.zf];refine ho.ld S (getElem?_eq_getElem lc) ?_;refine ho.ld S (getElem?_eq_getElem lr) ?_;refine ho.st S (t:=G[a+ch]) lr λh1 o1=>?_;refine o1.st S (t:=G[a+r]) (by simpa using lc) λh2 o2=>?_;exact next h2 lr lc (p.step W hlo hch hp hc0 lr lc hd' λk k0 hk hkp h2=>hmax k k0 hk hkp lc h2) o2
theorem zni(S:zd8 E cs v)(W:znb (zeu c))(hc:zer C0 v c fL h0)(ho:Rw E cs h0 h x G R)(hl:G.length<1000000000)(p:SInv c a n lo r G)(hlo:lo <= r)(hrn:r <= n){b:Nat}(hb:a+n <= b)
  (hq:∀h' G',Heap c a n lo G'->zdg a b G G'->Rw E cs h0 h' x G' R->Q (.tup []) h'):
  zc6.cps C E C0 fL x (.int .i64 (r:Int)) (.int .i64 (n:Int)) (.int .i64 (a:Int)) f h Q:=by
 simp -dsimp only[zc6.cps];refine z3.intro (λt vs hh=>∃(r':Nat)(G':List X),r'+t=n /\ vs=[.int .i64 (r':Int)] /\ lo <= r' /\ SInv c a n lo r' G' /\ zdg a b G G' /\ Rw E cs h0 hh x G' R) (n-r) ?_ ⟨r,G,by omega,rfl,hlo,p,zdg.refl _ _ _,ho⟩;rintro Y t vs hh ⟨r',G',hrt,rfl,hlo',p',W',o⟩ hY;have hlen:=W'.len;have pl:=p'.len;have e1:V.bin .mul (.int .i64 2) (.int .i64 (r':Int))=some (.int .i64 ((2*r':Nat):Int)):=mulN (a:=2) (b:=r') (by omega);simp -dsimp only[zc6.l4,zc6.k3,e1,zgr (show 2*r'<4611686018427387904 by omega),geqN,B.zf];refine B.zbd (λhd=>?_) (λhd=>?_)
 ·rw[decide_eq_true_eq]at hd
  exact hq hh G' (p'.done λk k0 hk hkp _ _=>by omega) W' o
 ·rw[decide_eq_false_iff_not]at hd
  have fin:∀ch,ch<n->(ch-1) / 2=r'->0<ch->(∀k,0<k->k<n->(k-1) / 2=r'->(h1:a+ch<G'.length)->(h2:a+k<G'.length)->¬ c G'[a+ch] G'[a+k]<0)->zc6.k1 C E C0 fL Q Y x (.int .i64 (n:Int)) (.int .i64 (a:Int)) f (.int .i64 (r':Int)) (.int .i64 (ch:Int)) hh:=λch c1 c2 c3 c4=>
   sift_k1 S W hc o (by omega) p' hlo' c1 c2 c3 c4 (λh' hp o'=>hq h' G' hp W' o') λh' hr hcl p2 o2=>hY (n-ch) _ _ (by omega) ⟨ch,_,by omega,rfl,by omega,p2,W'.trans (ze7 hr hcl (by omega) (by omega) (by omega) (by omega)),o2⟩
  have irr:∀t:X,¬ c t t<0:=λt=>by
   have:=W.irr t;unfold zeu at this;exact of_decide_eq_false this
  have a1:=zpq (a:=a) (b:=2*r'+1) (by omega);simp -dsimp only[zc6.k2,zgr (show 2*r'+1<4611686018427387904 by omega),zp1,B.zf];by_cases h2:2*r'+1+1<n
  ·have l1:a+(2*r'+1)<G'.length:=by omega
   have l2:a+(2*r'+1)+1<G'.length:=by omega
   simp -dsimp only[h2,decide_true,B.zfu,B.zbe,a1,zgr (show a+(2*r'+1)<4611686018427387904 by omega),o.idx l1,o.idx l2,B.zf];refine o.ld S (getElem?_eq_getElem l1) ?_;refine o.ld S (getElem?_eq_getElem l2) ?_;refine hc.call _ _ _ _ o.le ?_;simp -dsimp only[h2,decide_true,B.zfu,B.zbe,V.zev,B.zex,B.zf];refine B.zbd (λhf=>?_) (λhf=>?_)
   ·have hf':c G'[a+(2*r'+1)] G'[a+(2*r'+1)+1]<0:=by simpa using hf
    simp -dsimp only[zgr (show 2*r'+1<4611686018427387904 by omega),B.zf];refine fin (2*r'+1+1) h2 (by omega) (by omega) λk k0 hk hkp h1 h3=>?_;rcases (show k=2*r'+1 \/ k=2*r'+1+1 by omega) with rfl|rfl
    ·have:=W.asym (a:=G'[a+(2*r'+1)]) (b:=G'[a+(2*r'+1)+1]) (by unfold zeu;exact decide_eq_true hf')
     unfold zeu at this;exact of_decide_eq_false this
    ·exact irr _
   ·have hf':¬ c G'[a+(2*r'+1)] G'[a+(2*r'+1)+1]<0:=by simpa using hf
    refine fin (2*r'+1) (by omega) (by omega) (by omega) λk k0 hk hkp h1 h3=>?_;rcases (show k=2*r'+1 \/ k=2*r'+1+1 by omega) with rfl|rfl
    ·exact irr _
    ·exact hf'
  ·simp -dsimp only[h2,decide_false,B.zfu,B.zfh,B.zf3,B.cond_false]
   refine fin (2*r'+1) (by omega) (by omega) (by omega) λk k0 hk hkp h1 h3=>?_;have:k=2*r'+1:=by omega
   subst this;exact irr _
end
section
variable{X:Type}{c:X->X->Int}{a b n lo:Nat}{G G':List X}
end
abbrev SiftI(C:z5)(E:zbb)(C0:z5)(fL:Nat)(f1:Nat):Prop:=∀(v0 v1 v2 v3 v4:za)(h:zb)(Q:zQ),zc6.cps C E C0 fL v0 v1 v2 v3 v4 h (dn Q)->C f1 [v0,v1,v2,v3,v4] h Q
section
variable{E:zbb}{X:Type}{cs:X->List za}{v:X->za}{h0 h:zb}{x f:za}{G:List X}{R:List (List za)}{c:X->X->Int}{Q:zQ}{a b:Nat}
theorem insertion_srt(S:zd8 E cs v)(W:znb (zeu c))(hc:zer C0 v c fL h0)(ho:Rw E cs h0 h x G R)(hl:G.length <= 100000000)(hab:a <= b)(hb:b <= G.length)
  (hq:∀h' G',zdg a b G G'->Srt c a b G'->Rw E cs h0 h' x G' R->Q (.tup []) h'):zcv.cps C E C0 fL x (.int .i64 (a:Int)) (.int .i64 (b:Int)) f h Q:=by
 have e0:∀(L:List X),(L.map (λy=>(y,0))).map (λp:X×Nat=>cs p.1)=L.map cs:=λL=>by rw[map_map];rfl
 have e1:∀(L:List (X×Nat)),L.map (λp:X×Nat=>cs p.1)=(L.map (·.1)).map cs:=λL=>by rw[map_map];rfl
 have lt:(G.take a).length=a:=by rw[length_take];omega
 have lm:((G.take b).drop a).length=b-a:=by rw[length_drop,length_take];omega
 refine zny (P:=(G.take a).map (λy=>(y,0))) (M:=((G.take b).drop a).zipIdx) (U:=(G.drop b).map (λy=>(y,0))) S W ?_ ?_ hc ?_ ?_ ?_ ?_ (R:=R) (h0:=h0)
 ·simp only[length_append,length_map,length_zipIdx,lt,lm,length_drop];omega
 ·have:(((G.take b).drop a).zipIdx.map (·.2)).Pairwise (· < ·):=by
   rw[zipIdx_map_snd];exact pairwise_lt_range'
  rwa [pairwise_map]at this
 ·rw[length_map,lt]
 ·rw[length_map,length_zipIdx,lt,lm];omega
 ·unfold Rw
  rw[map_append,map_append,e0,e0,e1,zipIdx_map_fst,<-map_append,<-map_append,<-split3 hab G];exact ho
 ·intro h' M' hp hs ho'
  have hp':(M'.map (·.1)).Perm ((G.take b).drop a):=by
   have:=hp.map (·.1);rwa [zipIdx_map_fst]at this
  refine hq h' (G.take a++(M'.map (·.1)++G.drop b)) (within_mid hab hb hp') (srt_mid hab hb (by rw[hp'.length_eq,lm]) ?_) ?_
  ·rw[pairwise_map]
   refine hs.imp λ{x y} hxy=>?_;have hx:zeu c y.1 x.1=false:=hxy.elim (λh=>W.asym h) λ⟨h,_⟩=>h;unfold zeu at hx;exact of_decide_eq_false hx
  ·unfold Rw at ho' ⊢
   rw[map_append,map_append,e0,e0,e1]at ho'
   rwa [map_append,map_append]
theorem heapSort_spec{f1:Nat}(is:SiftI C E C0 fL f1)(S:zd8 E cs v)(W:znb (zeu c))(hc:zer C0 v c fL h0)(ho:Rw E cs h0 h x G R)(hl:G.length <= 100000000)(hab:a<b)(hb:b <= G.length)
  (hq:∀h' G',zdg a b G G'->Srt c a b G'->Rw E cs h0 h' x G' R->Q (.tup []) h'):zc7.cps C E C0 fL f1 x (.int .i64 (a:Int)) (.int .i64 (b:Int)) f h Q:=by
 have e1:=zjz (a:=b) (b:=a) (by omega) (by omega);obtain⟨n,hn⟩:∃n,n=b-a:=⟨_,rfl⟩;have e2:V.bin .quo (.int .i64 ((n-1:Nat):Int)) (.int .i64 2)=some (.int .i64 (((n-1) / 2:Nat):Int)):=by
  rw[V.bin_quo _ _ _ (by omega),show ((n-1:Nat):Int).tdiv 2=(((n-1) / 2:Nat):Int) from rfl,wrap_i64 (by omega) (by omega)]
 have m1:∀k:Nat,k <= 100000000->V.bin .sub (.int .i64 (k:Int)) (.int .i64 1)=some (.int .i64 ((k:Int)-1)):=λk hk=>by
  rw[V.zju,wrap_i64 (by omega) (by omega)]
 have m2:∀k:Nat,k <= 100000000->V.bin .sub (.int .i64 ((k+1:Nat)-1:Int)) (.int .i64 1)=some (.int .i64 ((k:Int)-1)):=λk hk=>by
  rw[V.zju,wrap_i64 (by omega) (by omega)];congr 2;omega
 simp -dsimp only[zc7.cps,zc7.k5,e1,B.zf];rw[<-hn];simp -dsimp only[sub1 (show 1 <= n by omega) (by omega),e2,B.zf];refine z3.intro (λt vs hh=>∃(G':List X),vs=[.int .i64 ((t:Int)-1)] /\ t <= n /\ Heap c a n t G' /\ zdg a b G G' /\ Rw E cs h0 hh x G' R) ((n-1) / 2+1) ?_ ⟨G,by congr 2;omega,by omega,Heap.none_ (by omega),zdg.refl _ _ _,ho⟩;rintro Y t vs hh ⟨G1,rfl,htn,p1,W1,o1⟩ hY;have l1:=W1.len;simp -dsimp only[zc7.l4,zc7.k3,V.zna,B.zf];cases t with
 | succ k=>
  rw[show decide ((0:Int) <= ((k+1:Nat):Int)-1)=true by simp,B.cond_true,show (((k+1:Nat):Int)-1)=(k:Int) by omega];refine is _ _ _ _ _ _ _ (zni (b:=b) S W hc o1 (by omega) (p1.sinv (by omega)) (Nat.le_refl _) (by omega) (by omega) λh2 G2 p2 w2 o2=>zbh ?_);simp -dsimp only[m1 k (by omega),B.zf];exact hY k _ _ (by omega) ⟨G2,rfl,by omega,p2,W1.trans w2,o2⟩
 | zero=>
  rw[show decide ((0:Int) <= ((0:Nat):Int)-1)=false by simp,B.cond_false];simp -dsimp only[m1 n (by omega),B.zf];refine z3.intro (λt vs hh=>∃(G':List X),vs=[.int .i64 ((t:Int)-1)] /\ t <= n /\ Heap c a t 0 G' /\ Cut c a b a (a+t) G' /\ zdg a b G G' /\ Rw E cs h0 hh x G' R) n ?_ ⟨G1,rfl,Nat.le_refl _,p1,λp q _ _ h3 h4=>by omega,W1,o1⟩;rintro Z t vs hh ⟨G2,rfl,htn,p2,c2,W2,o2⟩ hZ;have l2:=W2.len;simp -dsimp only[zc7.l2,zc7.k1,V.zna,B.zf];cases t with
  | zero=>
   rw[show decide ((0:Int) <= ((0:Nat):Int)-1)=false by simp,B.cond_false];exact hq hh G2 W2 (c2.small (by omega)) o2
  | succ k=>
   rw[show decide ((0:Int) <= ((k+1:Nat):Int)-1)=true by simp,B.cond_true,show (((k+1:Nat):Int)-1)=(k:Int) by omega];have ac:=zpq (a:=a) (b:=k) (by omega);have la:a<G2.length:=by omega
   have lk:a+k<G2.length:=by omega
   simp -dsimp only[ac,o2.idx la,o2.idx lk,B.zf];refine o2.ld S (getElem?_eq_getElem lk) ?_;refine o2.ld S (getElem?_eq_getElem la) ?_;refine o2.swap S la lk λh3 o3=>?_;have hsl:=zjr la lk;have w3:zdg a (a+(k+1)) G2 (swp G2 a (a+k) la lk):=ze7 la lk (by omega) (by omega) (by omega) (by omega);have c3:=c2.within w3 (Nat.le_refl _) (by omega);have c4:Cut c a b a (a+k) (swp G2 a (a+k) la lk):=λp q h1 h2 h3 h4 h5 h6=>by
    by_cases e:a+(k+1) <= q
    ·exact c3 p q h1 h2 h3 (.inr e) h5 h6
    ·have:q=a+k:=by omega
     subst this;rw[zgk la lk h6 (by omega),if_pos rfl,zgk la lk h5 (by omega),if_neg (by omega)];split
     ·exact p2.root W (by omega) k (by omega)
     ·have:=p2.root W (by omega) (p-a) (by omega)
      simpa only[show a+(p-a)=p by omega]using this
   have s3:SInv c a k 0 0 (swp G2 a (a+k) la lk):=⟨by omega,λj j0 hj _ hne h1 h2=>by
    rw[zgk la lk h1 (by omega),if_neg (by omega),if_neg (by omega),zgk la lk h2 (by omega),if_neg (by omega),if_neg (by omega)];exact p2 j j0 (by omega) (by omega) (by omega) (by omega),λ_ h=>by omega⟩
   refine is _ _ _ _ _ _ _ (zni (r:=0) (b:=a+k) S W hc o3 (by omega) s3 (Nat.le_refl _) (by omega) (by omega) λh4 G4 p4 w4 o4=>zbh ?_);simp -dsimp only[m1 k (by omega),B.zf];exact hZ k _ _ (by omega) ⟨G4,rfl,by omega,p4,c4.within w4 (Nat.le_refl _) (by omega),(W2.trans (w3.mono (Nat.le_refl _) (by omega))).trans (w4.mono (Nat.le_refl _) (by omega)),o4⟩
end
section
variable{X:Type}{c:X->X->Int}{A B j:Nat}{G:List X}
end
section
variable{E:zbb}{X:Type}{cs:X->List za}{v:X->za}{h0 h:zb}{x f:za}{G:List X}{R:List (List za)}{c:X->X->Int}{Q:zQ}{Y1:zL}{a b i s:Nat}
theorem pis_k3(S:zd8 E cs v)(hc:zer C0 v c fL h0)(ho:Rw E cs h0 h x G R)(hl:G.length <= 100000000)(hi0:0<i)(hi:i<b)(hb:b <= G.length)(hs:s <= 5)
  (hY:∀h' G',zdg i b G G'->Rw E cs h0 h' x G' R->Y1 [.int .i64 (i:Int),.int .i64 ((s+1:Nat):Int)] h'):
  zh.k3 C E C0 fL Q Y1 x (.int .i64 (a:Int)) (.int .i64 (b:Int)) f (.int .i64 (i:Int)) (.int .i64 (s:Int)) h:=by
 have hge:V.bin .geq (.int .i64 ((b-i:Nat):Int)) (.int .i64 2)=some (.bool (decide (2 <= b-i))):=geqN (b:=2);simp -dsimp only[zh.k3,zjz (show i <= b by omega) (by omega),hge,zgr (show s<4611686018427387904 by omega),zgr (show i<4611686018427387904 by omega),B.zf];refine B.zbd (λhd=>?_) (λhd=>?_)
 rotate_left
 ·simp -dsimp only[zgr (show s<4611686018427387904 by omega),B.zf]
  exact hY h G (zdg.refl _ _ _) ho
 rw[decide_eq_true_eq]at hd;simp -dsimp only[zgr (show i<4611686018427387904 by omega),B.zf];refine z3.intro (λt vs hh=>∃(j:Nat)(G':List X),j+t=b /\ vs=[.int .i64 (j:Int)] /\ i<j /\ zdg i b G G' /\ Rw E cs h0 hh x G' R) (b-(i+1)) ?_ ⟨i+1,G,by omega,rfl,by omega,zdg.refl _ _ _,ho⟩;rintro Y t vs hh ⟨j,G1,hjt,rfl,hij,W1,o⟩ hY2;have hlen:=W1.len;simp -dsimp only[zh.l2,zh.k1,zp1,B.zf];refine B.zbd (λhe=>?_) (λhe=>?_)
 ·rw[decide_eq_true_eq]at he
  have lj:j<G1.length:=by omega
  have lj1:j-1<G1.length:=by omega
  have sj:=sub1 (a:=j) (by omega) (by omega);simp -dsimp only[sj,o.idx lj,o.idx lj1,B.zf];refine o.ld S (getElem?_eq_getElem lj) ?_;refine o.ld S (getElem?_eq_getElem lj1) ?_;refine hc.call _ _ _ _ o.le ?_;simp -dsimp only[V.zev,V.zfk,B.zf];refine B.zbd (λhd=>?_) (λhd=>?_)
  ·simp -dsimp only[zgr (show s<4611686018427387904 by omega),B.zf]
   exact hY hh G1 W1 o
  ·simp -dsimp only[sj,o.idx lj,o.idx lj1,B.zf]
   refine o.ld S (getElem?_eq_getElem lj1) ?_;refine o.ld S (getElem?_eq_getElem lj) ?_;refine o.swap S lj lj1 λh2 o2=>?_;simp -dsimp only[zgr (show j<4611686018427387904 by omega),B.zf];exact hY2 (b-(j+1)) _ _ (by omega) ⟨j+1,_,by omega,rfl,by omega,W1.trans (ze7 lj lj1 (by omega) (by omega) (by omega) (by omega)),o2⟩
 ·simp -dsimp only[zgr (show s<4611686018427387904 by omega),B.zf]
  exact hY hh G1 W1 o
theorem pis_k6(S:zd8 E cs v)(W:znb (zeu c))(hc:zer C0 v c fL h0)(ho:Rw E cs h0 h x G R)(hl:G.length <= 100000000)(hai:a<i)(hi:i<b)(hb:b <= G.length)(hs:s <= 5)(hp:Pre c a b G)(h1:But1 c a i (i-1) G)
  (hY:∀h' G',zdg a b G G'->Srt c a i G'->Rw E cs h0 h' x G' R->Y1 [.int .i64 (i:Int),.int .i64 ((s+1:Nat):Int)] h'):
  zh.k6 C E C0 fL Q Y1 x (.int .i64 (a:Int)) (.int .i64 (b:Int)) f (.int .i64 (i:Int)) (.int .i64 (s:Int)) h:=by
 have fin:∀{hh G1},Rw E cs h0 hh x G1 R->zdg a b G G1->Srt c a i G1->zh.k3 C E C0 fL Q Y1 x (.int .i64 (a:Int)) (.int .i64 (b:Int)) f (.int .i64 (i:Int)) (.int .i64 (s:Int)) hh:=λ{hh G1} o W1 s1=>by
  have l1:=W1.len;refine pis_k3 S hc o (by omega) (by omega) hi (by omega) hs λh2 G2 W2 o2=>hY h2 G2 (W1.trans (W2.mono (by omega) (Nat.le_refl _))) (λp q h1 h2 h3 h4 h5=>?_) o2;have l2:=W2.len;rw[W2.same (k:=p) (.inl (by omega)) h4 (by omega),W2.same (k:=q) (.inl (by omega)) h5 (by omega)];exact s1 p q h1 h2 h3 _ _
 have hge:V.bin .geq (.int .i64 ((i-a:Nat):Int)) (.int .i64 2)=some (.bool (decide (2 <= i-a))):=geqN (b:=2);simp -dsimp only[zh.k6,zjz (show a <= i by omega) (by omega),hge,sub1 (show 1 <= i by omega) (by omega),B.zf];refine B.zbd (λhd=>?_) (λhd=>?_)
 ·simp -dsimp only[sub1 (show 1 <= i by omega) (show i<4611686018427387904 by omega),B.zf]
  refine z3.intro (λt vs hh=>∃(G':List X),vs=[.int .i64 (t:Int)] /\ a <= t /\ t<i /\ But1 c a i t G' /\ zdg a b G G' /\ Rw E cs h0 hh x G' R) (i-1) ?_ ⟨G,rfl,by omega,by omega,h1,zdg.refl _ _ _,ho⟩;rintro Y j vs hh ⟨G1,rfl,haj,hji,b1,W1,o⟩ hY2;have hlen:=W1.len;have lj:j<G1.length:=by omega
  have hg1:V.bin .geq (.int .i64 (j:Int)) (.int .i64 1)=some (.bool (decide (1 <= j))):=geqN (b:=1);simp -dsimp only[zh.l5,zh.k4,hg1,B.zf];refine B.zbd (λhe=>?_) (λhe=>?_)
  ·rw[decide_eq_true_eq]at he
   have lj1:j-1<G1.length:=by omega
   have sj:=sub1 (a:=j) (by omega) (by omega);simp -dsimp only[sj,o.idx lj,o.idx lj1,B.zf];refine o.ld S (getElem?_eq_getElem lj) ?_;refine o.ld S (getElem?_eq_getElem lj1) ?_;refine hc.call _ _ _ _ o.le ?_;simp -dsimp only[V.zev,V.zfk,B.zf];refine B.zbd (λhd=>?_) (λhd=>?_)
   ·exact fin o W1 (b1.done W lj (.inr λ_=>by simpa using hd))
   ·have hlt:c G1[j] G1[j-1]<0:=by simpa using hd
    have haj2:a<j:=by
     rcases Nat.lt_or_ge a j with k|k
     ·exact k
     ·have:j=a:=by omega
      subst this;exact absurd hlt ((hp.within W1) (by omega) j (Nat.le_refl _) (by omega) _ _)
    simp -dsimp only[sj,o.idx lj,o.idx lj1,B.zf];refine o.ld S (getElem?_eq_getElem lj1) ?_;refine o.ld S (getElem?_eq_getElem lj) ?_;refine o.swap S lj lj1 λh2 o2=>?_;exact hY2 (j-1) _ _ (by omega) ⟨_,rfl,by omega,by omega,b1.step W haj2 lj lj1 hlt,W1.trans (ze7 lj lj1 (by omega) (by omega) (by omega) (by omega)),o2⟩
  ·rw[decide_eq_false_iff_not]at he
   exact fin o W1 (b1.done W lj (.inl (by omega)))
 ·rw[decide_eq_false_iff_not]at hd
  exact fin ho (zdg.refl _ _ _) λp q _ _ _ _ _=>by omega
theorem zjs(S:zd8 E cs v)(W:znb (zeu c))(hc:zer C0 v c fL h0)(ho:Rw E cs h0 h x G R)(hl:G.length <= 100000000)(hab:a<b)(hb:b <= G.length)(hp:Pre c a b G)
  (hq:∀h' G' t,zdg a b G G'->(t=true->Srt c a b G')->Rw E cs h0 h' x G' R->Q (.bool t) h'):
  zh.cps C E C0 fL x (.int .i64 (a:Int)) (.int .i64 (b:Int)) f h Q:=by
 simp -dsimp only[zh.cps,zgr (show a<4611686018427387904 by omega),B.zf];refine z3.intro (λt vs hh=>∃(s i:Nat)(G':List X),s+t=5 /\ vs=[.int .i64 (i:Int),.int .i64 (s:Int)] /\ a<i /\ i <= b /\ Srt c a i G' /\ zdg a b G G' /\ Rw E cs h0 hh x G' R) 5 ?_ ⟨0,a+1,G,rfl,rfl,by omega,by omega,λp q _ _ _ _ _=>by omega,zdg.refl _ _ _,ho⟩;rintro Y t vs hh ⟨s,i,G1,hst,rfl,hai,hib,s1,W1,o⟩ hY;have hl1:=W1.len;have h5:V.bin .lss (.int .i64 (s:Int)) (.int .i64 5)=some (.bool (decide (s<5))):=zp1 (b:=5);simp -dsimp only[zh.l12,zh.k11,h5,B.zf];refine B.zbd (λhd=>?_) (λhd=>hq hh G1 false W1 (λh=>by cases h) o);rw[decide_eq_true_eq]at hd;refine z3.intro (λt vs hh=>∃(i:Nat),i+t=b /\ vs=[.int .i64 (i:Int)] /\ a<i /\ Srt c a i G1 /\ Rw E cs h0 hh x G1 R) (b-i) ?_ ⟨i,by omega,rfl,hai,s1,o⟩;rintro Z t vs hh ⟨i,hit,rfl,hai,s2,o2⟩ hZ;simp -dsimp only[zh.l10,zh.k9,zp1,B.zf];by_cases hd2:i<b
 ·have li:i<G1.length:=by omega
  have li1:i-1<G1.length:=by omega
  have si:=sub1 (a:=i) (by omega) (by omega);simp -dsimp only[hd2,decide_true,B.zfu,B.zbe,si,o2.idx li,o2.idx li1,B.zf];refine o2.ld S (getElem?_eq_getElem li) ?_;refine o2.ld S (getElem?_eq_getElem li1) ?_;refine hc.call _ _ _ _ o2.le ?_;simp -dsimp only[hd2,decide_true,B.zfu,B.zbe,V.zev,V.zfk,B.zex,B.zf];refine B.zbd (λhe=>?_) (λhe=>?_)
  ·have hnl:¬ c G1[i] G1[i-1]<0:=by simpa using he
   simp -dsimp only[zgr (show i<4611686018427387904 by omega),B.zf];refine hZ (t-1) _ _ (by omega) ⟨i+1,by omega,rfl,by omega,?_,o2⟩;exact But1.done W (j:=i) (λp q h1 h2 h3 h4 h5 h6=>s2 p q h1 h2 (by omega) h5 h6) li (.inr λ_=>hnl)
  ·have hlt:c G1[i] G1[i-1]<0:=by simpa using he
   have hne:V.bin .eql (.int .i64 (i:Int)) (.int .i64 (b:Int))=some (.bool false):=by rw[V.zgq];simp;omega
   simp -dsimp only[hne,B.zf,B.cond_false,zh.k8,zh.k7,zjz (show a <= b by omega) (show b<4611686018427387904 by omega)];rw[show V.bin .lss (.int .i64 ((b-a:Nat):Int)) (.int .i64 50)=some (.bool (decide (b-a<50))) from zp1 (b:=50)];simp -dsimp only[B.zf];refine B.zbd (λhf=>hq hh G1 false W1 (λh=>by cases h) o2) (λhf=>?_);simp -dsimp only[zh.k7,si,o2.idx li,o2.idx li1,B.zf];refine o2.ld S (getElem?_eq_getElem li1) ?_;refine o2.ld S (getElem?_eq_getElem li) ?_;refine o2.swap S li li1 λh3 o3=>?_;have hsl:=zjr li li1;have w3:zdg a b G1 (swp G1 i (i-1) li li1):=ze7 li li1 (by omega) (by omega) (by omega) (by omega);have W3:=W1.trans w3;refine pis_k6 S W hc o3 (by omega) hai hd2 (by omega) (by omega) (hp.within W3) (λp q h1 h2 h3 h4 h5 h6=>?_) λh4 G4 W4 s4 o4=>hY (5-(s+1)) _ _ (by omega) ⟨s+1,i,G4,by omega,rfl,hai,by omega,s4,W3.trans W4,o4⟩;rw[zgk li li1 h6 (by omega),if_neg h4,if_neg (by omega),zgk li li1 h5 (by omega),if_neg (by omega),if_neg (by omega)];exact s2 p q h1 h2 h3 _ _
 ·have e:i=b:=by omega
  subst e;have heq:V.bin .eql (.int .i64 (i:Int)) (.int .i64 (i:Int))=some (.bool true):=by rw[V.zgq];simp
  simp -dsimp only[hd2,decide_false,B.zfu,B.zfh,B.zf3,B.cond_false,heq,B.cond_true,B.zf];exact hq hh G1 true W1 (λ_=>s2) o2
end
variable{C C0:z5}{fL:Nat}{N:zN}
section
variable{E:zbb}{X:Type}{cs:X->List za}{v:X->za}{h0 h:zb}{x f:za}{G:List X}{R:List (List za)}{Q:zQ}{a b:Nat}
theorem zn4{f1 f2:Nat}(hn:NextI C0 f1)(hp:PowI C0 f2)(S:zd8 E cs v)(ho:Rw E cs h0 h x G R)(hl:G.length <= 100000000)(hab:a <= b)(hb:b <= G.length)
  (hq:∀h' G',zdg a b G G'->Rw E cs h0 h' x G' R->Q (.tup []) h'):z0.cps C E C0 fL f1 f2 x (.int .i64 (a:Int)) (.int .i64 (b:Int)) f h Q:=by
 obtain⟨n,en⟩:∃n,n=b-a:=⟨_,rfl⟩;have e1:=zjz hab (show b<4611686018427387904 by omega);rw[<-en]at e1;have g8:V.bin .geq (.int .i64 (n:Int)) (.int .i64 8)=some (.bool (decide (8 <= n))):=geqN (b:=8);simp -dsimp only[z0.cps,z0.k8,e1,g8,B.zf];refine B.zbd (λhd=>?_) (λhd=>hq h G (zdg.refl _ _ _) ho);rw[decide_eq_true_eq]at hd;simp -dsimp only[z0.k7,toUN (show n<18446744073709551616 by omega),B.zf];intro id hid;have o:=zc5.znq ho hid [.int .u64 0];simp only[cons_append,nil_append]at o;refine o.boxSt 1 (off:=0) rfl rfl (by simp) λh1 o1 _=>?_;simp only[set_cons_succ,set_cons_zero]at o1;refine hp n _ _ (by omega) (by omega) λm hm0 hm=>?_;have m4:V.bin .quo (.int .i64 (n:Int)) (.int .i64 4)=some (.int .i64 ((n / 4:Nat):Int)):=quo4 (by omega);have m2:V.bin .mul (.int .i64 ((n / 4:Nat):Int)) (.int .i64 2)=some (.int .i64 ((n / 4*2:Nat):Int)):=mulN (a:=n / 4) (b:=2) (by omega);have m5:V.bin .add (.int .i64 (a:Int)) (.int .i64 ((n / 4*2:Nat):Int))=some (.int .i64 ((a+n / 4*2:Nat):Int)):=zpq (by omega);simp -dsimp only[z0.k6,m4,m2,m5,sub1 (show 1 <= a+n / 4*2 by omega) (by omega),B.zf];refine z3.intro (λt vs hh=>∃(i:Nat)(G':List X)(z:Int),i+t=a+n / 4*2+2 /\ vs=[.int .i64 (i:Int)] /\ a <= i /\ zdg a b G G' /\ zc5 h0 hh [.sl E.es x (G'.map cs) R,.box (.ptr id 0 0) [.int .u64 z]]) 3 ?_ ⟨a+n / 4*2-1,G,_,by omega,rfl,by omega,zdg.refl _ _ _,o1⟩;rintro Y t vs hh ⟨i,G1,z,hit,rfl,hai,W1,o2⟩ hY;have l1:=W1.len;simp -dsimp only[z0.l5,z0.k4,m4,m2,m5,zgr (show a+n / 4*2<4611686018427387904 by omega),leqN,B.zf];refine B.zbd (λhe=>?_) (λhe=>hq hh G1 W1 (o2.sub (by simp)));rw[decide_eq_true_eq]at he;have oo:=zc5.out (l1:=[.sl E.es x (G1.map cs) R]) (l2:=[.box (.ptr id 0 0) [.int .u64 z]]) o2;simp -dsimp only[z0.k3];refine hn _ _ _ _ _ oo.2 λw z' h3 o3=>?_;have o4:=oo.1.join o3
 have s1:V.bin .sub (.int .u64 (m:Int)) (.int .u64 1)=some (.int .u64 ((m-1:Nat):Int)):=by
  rw[V.zju,show (m:Int)-1=((m-1:Nat):Int) by omega,wrapU (by omega)]
 obtain⟨ot,hot,ea⟩:=and_le (z:=w) (m:=m-1) (by omega);simp -dsimp only[s1,ea,toIN (show ot<4611686018427387904 by omega),B.zf,z0.k2,geqN];have fin:∀k:Nat,k<n->z0.k1 C E C0 fL f1 f2 Q Y x (.int .i64 (a:Int)) (.int .i64 (n:Int)) (.ptr id 0 0) (.int .u64 (m:Int)) (.int .i64 (i:Int)) (.int .i64 (k:Int)) h3:=λk hk=>by
  have la:a+k<G1.length:=by omega
  have li:i<G1.length:=by omega
  have op:=zc5.perm o4 (List.Perm.swap _ _ []);have oq:=zc5.out (l1:=[.box (.ptr id 0 0) [.int .u64 z']]) (l2:=[.sl E.es x (G1.map cs) R]) op;have orw:Rw E cs _ h3 x G1 R:=oq.2;simp -dsimp only[z0.k1,zpq (show a+k<4611686018427387904 by omega),orw.idx la,orw.idx li,B.zf];refine orw.ld S (getElem?_eq_getElem la) ?_;refine orw.ld S (getElem?_eq_getElem li) ?_;refine orw.swap S li la λh5 o5=>?_;simp -dsimp only[zgr (show i<4611686018427387904 by omega),B.zf];have o6:=oq.1.join o5;exact hY (a+n / 4*2+2-(i+1)) _ _ (by omega) ⟨i+1,_,z',by omega,rfl,by omega,W1.trans (ze7 li la (by omega) (by omega) (by omega) (by omega)),o6.perm (List.Perm.swap _ _ [])⟩
 refine B.zbd (λhf=>?_) (λhf=>?_)
 ·rw[decide_eq_true_eq]at hf
  simp -dsimp only[zjz hf (show ot<4611686018427387904 by omega),B.zf];exact fin (ot-n) (by omega)
 ·rw[decide_eq_false_iff_not]at hf
  exact fin ot (by omega)
end
section
variable{X:Type}{c:X->X->Int}{a b m A0 Z0:Nat}{G G':List X}
end
structure PdqI(C:z5)(E:zbb)(C0:z5)(fL:Nat)(f1 f2 f3 f4 f5 f6 f7 f8 f9 g1 g2 g3 g4 g5 g6:Nat):Prop where
 eq:I5 (zu.cps C E C0 fL) C f1
 part:I5 (zl.cps C E C0 fL) C f2
 pdq:I5 (z9.cps C E C0 fL f1 f2 f3 f4 f5 f6 f7 f8 f9) C f3
 pis:I4 (zh.cps C E C0 fL) C f4
 rev:I4 (zdy.cps C E C0 fL) C f5
 piv:I4 (zba.cps C E C0 fL g2 g3) C f6
 brk:I4 (z0.cps C E C0 fL g5 g6) C f7
 heap:I4 (zc7.cps C E C0 fL g4) C f8
 ins:I4 (zcv.cps C E C0 fL) C f9
 ord:O2I C E C0 fL g1
 med:MedI C E C0 fL g1 g2
 adj:AdjI C E C0 fL g2 g3
 sift:SiftI C E C0 fL g4
 next:NextI C0 g5
 pow:PowI C0 g6
section
variable{E:zbb}{X:Type}{cs:X->List za}{v:X->za}{h0 h:zb}{x f:za}{G:List X}{R:List (List za)}{c:X->X->Int}{Q:zQ}{Y:zL}{f1 f2 f3 f4 f5 f6 f7 f8 f9 g1 g2 g3 g4 g5 g6:Nat}
theorem pdq_k1(J:PdqI C E C0 fL f1 f2 f3 f4 f5 f6 f7 f8 f9 g1 g2 g3 g4 g5 g6)(S:zd8 E cs v)(W:znb (zeu c))(hc:zer C0 v c fL h0){A0 Z0 a b:Nat}{G0:List X}{lim:Int}{w1 w2:Bool}{pv:Nat}(p:PS E cs h0 x R c A0 Z0 G0 a b G h)(hl:G.length <= 100000000)(hBl:Z0 <= G.length)
  (h1:a <= pv) (h2:pv<b)
  (rcs:∀(a' b':Nat)(lim:Int)(h:zb)(G:List X)(Q:zQ),b'-a'<b-a->a' <= b'->b' <= G.length->G.length <= 100000000->Pre c a' b' G->Rw E cs h0 h x G R->(∀h' G',zdg a' b' G G'->Srt c a' b' G'->Rw E cs h0 h' x G' R->Q (.tup []) h') ->
   C f3 [x,.int .i64 (a':Int),.int .i64 (b':Int),.int .i64 lim,f] h Q)
  (hY:Go1 E cs h0 x R c A0 Z0 G0 (b-a) Y):
  z9.k1 C E C0 fL f1 f2 f3 f4 f5 f6 f7 f8 f9 Q Y x (.int .i64 (a:Int)) (.int .i64 (b:Int)) (.int .i64 lim) f (.bool w1) (.bool w2) (.int .i64 ((b-a:Nat):Int)) (.int .i64 (pv:Int)) h:=by
 have hA:=p.hA;have hB:=p.hB;have o:=p.o;have lp:pv<G.length:=by omega
 have part:z9.k1 C E C0 fL f1 f2 f3 f4 f5 f6 f7 f8 f9 Q Y x (.int .i64 (a:Int)) (.int .i64 (b:Int)) (.int .i64 lim) f (.bool w1) (.bool w2) (.int .i64 ((b-a:Nat):Int)) (.int .i64 (pv:Int)) h =
  z9.k1 C E C0 fL f1 f2 f3 f4 f5 f6 f7 f8 f9 Q Y x (.int .i64 (a:Int)) (.int .i64 (b:Int)) (.int .i64 lim) f (.bool w1) (.bool w2) (.int .i64 ((b-a:Nat):Int)) (.int .i64 (pv:Int)) h:=rfl
 clear part;have part:C f2 [x,.int .i64 (a:Int),.int .i64 (b:Int),.int .i64 (pv:Int),f] h (λv111 h=>
  B.pv (V.ext 0 v111) λv112=>
  B.pv (V.ext 1 v111) λv113=>
  B.pv (V.bin .sub v112 (.int .i64 (a:Int))) λv117=>
  B.pv (V.bin .sub (.int .i64 (b:Int)) v112) λv120=>
  B.pv (V.bin .quo (.int .i64 ((b-a:Nat):Int)) (.int .i64 8)) λv122=>
  B.pv (V.bin .lss v117 v120) λv125=>
  B.cond v125
  (B.pv (V.bin .geq v117 v122) λv128=>
  B.call C f3 [x,.int .i64 (a:Int),v112,.int .i64 lim,f] h λv134 h=>
  B.pv (V.bin .add v112 (.int .i64 1)) λv136=>
  Y [v136,.int .i64 (b:Int),.int .i64 lim,v128,v113] h)
  (B.pv (V.bin .geq v120 v122) λv139=>
  B.pv (V.bin .add v112 (.int .i64 1)) λv142=>
  B.call C f3 [x,v142,.int .i64 (b:Int),.int .i64 lim,f] h λv146 h=>
  Y [.int .i64 (a:Int),v112,.int .i64 lim,v139,v113] h)):=by
  refine J.part _ _ _ _ _ _ _ (zrk S hc o (by omega) h1 h2 (by omega) λh3 m G3 t pt W3 o3=>zbh ?_);have p3:=p.zha W3 o3;have l3:=W3.len;have m1:=pt.ge;have m2:=pt.lt;have q8:V.bin .quo (.int .i64 ((b-a:Nat):Int)) (.int .i64 8)=some (.int .i64 (((b-a) / 8:Nat):Int)):=by
   rw[V.bin_quo _ _ _ (by omega),show ((b-a:Nat):Int).tdiv 8=(((b-a) / 8:Nat):Int) from rfl,wrap_i64 (by omega) (by omega)]
  simp -dsimp only[V.zg5,getElem?_cons_zero,getElem?_cons_succ,B.zf,zjz m1 (show m<4611686018427387904 by omega),zjz (show m <= b by omega) (show b<4611686018427387904 by omega),q8,zp1,geqN,zgr (show m<4611686018427387904 by omega)];refine B.zbd (λhd=>?_) (λhd=>?_)
  ·simp -dsimp only[geqN,zgr (show m<4611686018427387904 by omega),B.zf]
   refine rcs a m lim _ G3 _ (by omega) m1 (by omega) (by omega) (p3.pre.sub (by omega)) o3 λh4 G4 W4 s4 o4=>?_;have pt4:=pt.left W W4;have cut4:=(p3.cut.within (W4.mono (Nat.le_refl _) (by omega)) hA hB).left W pt4 s4;simp -dsimp only[zgr (show m<4611686018427387904 by omega),B.zf];exact hY (m+1) b lim _ _ G4 h4 (by omega) ⟨by omega,by omega,hB,p3.W.trans (W4.mono hA (by omega)),cut4,cut4.pre (by omega) hB,o4⟩
  ·have c3:Pre c (m+1) b G3:=λh0 i k1 k2 k3 k4=>pt.pair W (p:=m+1-1) (q:=i) (by omega) (by omega) k2 (by omega) (by omega) k4 k3
   simp -dsimp only[geqN,zgr (show m<4611686018427387904 by omega),B.zf];refine rcs (m+1) b lim _ G3 _ (by omega) (by omega) (by omega) (by omega) c3 o3 λh4 G4 W4 s4 o4=>?_;have pt4:=pt.right W W4;have W4':zdg a b G3 G4:=W4.mono (by omega) (Nat.le_refl _);have cut4:=(p3.cut.within W4' hA hB).right W pt4 s4;exact hY a m lim _ _ G4 h4 (by omega) ⟨hA,m1,by omega,p3.W.trans (W4.mono (by omega) hB),cut4,(p3.pre.within W4').sub (by omega),o4⟩
 simp -dsimp only[z9.k1];have g0:V.bin .gtr (.int .i64 (a:Int)) (.int .i64 0)=some (.bool (decide (0<a))):=gtrN (b:=0);simp -dsimp only[g0,B.zf];by_cases ha:0<a
 ·have la:a-1<G.length:=by omega
  simp -dsimp only[ha,decide_true,B.zfu,B.zbe,sub1 (show 1 <= a by omega) (show a<4611686018427387904 by omega),o.idx la,o.idx lp,B.zf];refine o.ld S (getElem?_eq_getElem la) ?_;refine o.ld S (getElem?_eq_getElem lp) ?_;refine hc.call _ _ _ _ o.le ?_;simp -dsimp only[ha,decide_true,B.zfu,B.zbe,V.zev,V.zfk,B.zex,B.zf];refine B.zbd (λhe=>?_) (λhe=>part);have hd:¬ c G[a-1] G[pv]<0:=by simpa using he
  refine J.eq _ _ _ _ _ _ _ (zm1 S hc o (by omega) h1 h2 (by omega) λh3 i j G3 pe hji W3 e3 o3=>zbh ?_);have p3:=p.zha W3 o3;have l3:=W3.len;have k1:=pe.hi;have k2:=pe.hij;have k3:=pe.hj
  have cut4:=p3.cut.equal W pe hji ha p3.pre (by omega) λq1 q2=>by
   rw[e3 q2 lp,W3.same (.inl (by omega)) q1 la];exact hd
  exact hY i b lim _ _ G3 h3 (by omega) ⟨by omega,by omega,hB,p3.W,cut4,cut4.pre (by omega) hB,o3⟩
 ·simp -dsimp only[ha,decide_false,B.zfu,B.zfh,B.zf3,B.cond_false]
  exact part
theorem pdq_spec(J:PdqI C E C0 fL f1 f2 f3 f4 f5 f6 f7 f8 f9 g1 g2 g3 g4 g5 g6)(S:zd8 E cs v)(W:znb (zeu c))(hc:zer C0 v c fL h0):∀(n:Nat)(A0 Z0:Nat)(lim:Int)(h:zb)(G:List X)(Q:zQ),Z0-A0=n->A0 <= Z0->Z0 <= G.length->G.length <= 100000000->Pre c A0 Z0 G->Rw E cs h0 h x G R ->
  (∀h' G',zdg A0 Z0 G G'->Srt c A0 Z0 G'->Rw E cs h0 h' x G' R->Q (.tup []) h')->z9.cps C E C0 fL f1 f2 f3 f4 f5 f6 f7 f8 f9 x (.int .i64 (A0:Int)) (.int .i64 (Z0:Int)) (.int .i64 lim) f h Q:=by
 intro n
 induction n using Nat.strongRecOn with
 | ind n ih=>
 intro A0 Z0 lim h G0 Q hn hAB hBl hl hpre ho hq;simp -dsimp only[z9.cps];refine z3.intro (λt vs hh=>∃(a b:Nat)(lim:Int)(w1 w2:Bool)(G:List X),t=b-a /\ vs=[.int .i64 (a:Int),.int .i64 (b:Int),.int .i64 lim,.bool w1,.bool w2] /\ PS E cs h0 x R c A0 Z0 G0 a b G hh) (Z0-A0) ?_
  ⟨A0,Z0,lim,true,true,G0,rfl,rfl,⟨Nat.le_refl _,hAB,Nat.le_refl _,zdg.refl _ _ _,λp q _ _ _ k=>by omega,hpre,ho⟩⟩
 rintro Y t vs hh ⟨a,b,lim,w1,w2,G,rfl,rfl,p⟩ hY';have hY:Go1 E cs h0 x R c A0 Z0 G0 (b-a) Y:=λa' b' lim' w1' w2' G' h' hlt p'=>hY' (b'-a') _ _ hlt ⟨a',b',lim',w1',w2',G',rfl,rfl,p'⟩;clear hY';have hA:=p.hA;have hab:=p.hab;have hB:=p.hB;have lG:=p.W.len;have rcs:∀(a' b':Nat)(lim:Int)(h:zb)(G:List X)(Q:zQ),b'-a'<b-a->a' <= b'->b' <= G.length->G.length <= 100000000->Pre c a' b' G->Rw E cs h0 h x G R->(∀h' G',zdg a' b' G G'->Srt c a' b' G'->Rw E cs h0 h' x G' R->Q (.tup []) h') ->
   C f3 [x,.int .i64 (a':Int),.int .i64 (b':Int),.int .i64 lim,f] h Q:=λa' b' lim h G Q k1 k2 k3 k4 k5 k6 k7=>
  J.pdq _ _ _ _ _ _ _ (ih (b'-a') (by omega) a' b' lim h G _ rfl k2 k3 k4 k5 k6 λh' G' w s o=>zbh (k7 h' G' w s o))
 have fin:∀{hh G G2},PS E cs h0 x R c A0 Z0 G0 a b G hh->∀h',zdg a b G G2->Srt c a b G2->Rw E cs h0 h' x G2 R->Q (.tup []) h':=λp h' w s o=>by
  have p2:=p.zha w o;exact hq h' _ p2.W (p2.cut.join s) o
 have e12:V.bin .leq (.int .i64 ((b-a:Nat):Int)) (.int .i64 12)=some (.bool (decide (b-a <= 12))):=leqN (b:=12);simp -dsimp only[z9.l8,zjz hab (show b<4611686018427387904 by omega),B.zf,z9.k7,e12];refine B.zbd (λhd=>?_) (λhd=>?_)
 ·exact J.ins _ _ _ _ _ _ (insertion_srt S W hc p.o (by omega) hab (by omega) λh' G' w s o=>zbh (fin p h' w s o))
 rw[decide_eq_false_iff_not]at hd;simp -dsimp only[z9.k6,V.zgq,B.zf];refine B.zbd (λ_=>?_) (λ_=>?_)
 ·exact J.heap _ _ _ _ _ _ (heapSort_spec J.sift S W hc p.o (by omega) (by omega) (by omega) λh' G' w s o=>zbh (fin p h' w s o))
 have k4:∀{hh G}(lim:Int),PS E cs h0 x R c A0 Z0 G0 a b G hh->z9.k4 C E C0 fL f1 f2 f3 f4 f5 f6 f7 f8 f9 Q Y x (.int .i64 (a:Int)) (.int .i64 (b:Int)) (.int .i64 lim) f (.bool w1) (.bool w2) (.int .i64 ((b-a:Nat):Int)) hh:=λ{hh G} lim p=>by
  have lG:=p.W.len;simp -dsimp only[z9.k4];refine J.piv _ _ _ _ _ _ (zpp J.ord J.med J.adj S (zc5.zkj p.o 0 rfl) p.o.le hc (by omega) (by omega) (by omega) λm hint h2 m1 m2 hle=>zbh ?_);have p2:PS E cs h0 x R c A0 Z0 G0 a b G h2:=⟨p.hA,p.hab,p.hB,p.W,p.cut,p.pre,zc5.grow p.o hle⟩;simp -dsimp only[V.zg5,getElem?_cons_zero,getElem?_cons_succ,B.zf,z9.k3,V.zgq];have k2:∀{hh G}(pv:Nat)(hint:Int),a <= pv->pv<b->PS E cs h0 x R c A0 Z0 G0 a b G hh->z9.k2 C E C0 fL f1 f2 f3 f4 f5 f6 f7 f8 f9 Q Y x (.int .i64 (a:Int)) (.int .i64 (b:Int)) (.int .i64 lim) f (.bool w1) (.bool w2) (.int .i64 ((b-a:Nat):Int)) (.int .i64 (pv:Int)) (.int .i64 hint) hh:=λ{hh G} pv hint q1 q2 p=>by
   have lG:=p.W.len;have go:=pdq_k1 (Q:=Q) (lim:=lim) (w1:=w1) (w2:=w2) J S W hc p (by omega) (by omega) q1 q2 rcs hY;simp -dsimp only[z9.k2];have two:B.cond (.bool true) (B.call C f4 [x,.int .i64 (a:Int),.int .i64 (b:Int),f] hh λv80 h=>
     B.cond v80 (Q (.tup []) h) (z9.k1 C E C0 fL f1 f2 f3 f4 f5 f6 f7 f8 f9 Q Y x (.int .i64 (a:Int)) (.int .i64 (b:Int)) (.int .i64 lim) f (.bool w1) (.bool w2) (.int .i64 ((b-a:Nat):Int)) (.int .i64 (pv:Int)) h))
     (z9.k1 C E C0 fL f1 f2 f3 f4 f5 f6 f7 f8 f9 Q Y x (.int .i64 (a:Int)) (.int .i64 (b:Int)) (.int .i64 lim) f (.bool w1) (.bool w2) (.int .i64 ((b-a:Nat):Int)) (.int .i64 (pv:Int)) hh):=by
    rw[B.cond_true];refine J.pis _ _ _ _ _ _ (zjs S W hc p.o (by omega) (by omega) (by omega) p.pre λh' G' t w s o=>zbh ?_);have p':=p.zha w o;have lG':=p'.W.len;refine B.zbd (λht=>fin p h' w (s ht) o) (λ_=>?_);exact pdq_k1 (Q:=Q) (lim:=lim) (w1:=w1) (w2:=w2) J S W hc p' (by omega) (by omega) q1 q2 rcs hY
   cases w1<;>cases w2
   ·simp -dsimp only[B.zfu,B.zfh,B.zf3,B.cond_false];exact go
   ·simp -dsimp only[B.zfu,B.zfh,B.zf3,B.cond_false];exact go
   ·simp -dsimp only[B.zfu,B.zbe,B.zfh,B.zex,B.zf3,B.cond_false];exact go
   ·by_cases hh1:hint=1
    ·simp -dsimp only[B.zfu,B.zbe,V.zgq,hh1,decide_true,B.zf,B.zex];exact two
    ·simp -dsimp only[B.zfu,B.zbe,V.zgq,hh1,decide_false,B.zf,B.zex,B.cond_false];exact go
  refine B.zbd (λ_=>?_) (λ_=>k2 m hint m1 m2 p2);refine J.rev _ _ _ _ _ _ (zod S (by omega) p2.o (by omega) (by omega) λh3 G3 w3 o3=>zbh ?_);simp -dsimp only[sub1 (show 1 <= b by omega) (show b<4611686018427387904 by omega),zjz m1 (show m<4611686018427387904 by omega),zjz (show m-a <= b-1 by omega) (show b-1<4611686018427387904 by omega),B.zf];exact k2 (b-1-(m-a)) 1 (by omega) (by omega) (p2.zha w3 o3)
 simp -dsimp only[z9.k5,V.zfk,B.zf];refine B.zbd (λ_=>?_) (λ_=>k4 lim p);refine J.brk _ _ _ _ _ _ (zn4 J.next J.pow S p.o (by omega) hab (by omega) λh' G' w o=>zbh ?_);simp -dsimp only[V.zju,B.zf];exact k4 _ (p.zha w o)
end
end Go.Ab.Ord
namespace Go.Ab
open List
def Cst(C:z5):z5:=λf args h Q=>C f args.dropLast h Q
abbrev J4(F:za->za->za->za->zb->(zQ)->Prop)(C:z5)(n:Nat):Prop:=∀(v0 v1 v2 v3:za)(h:zb)(Q:zQ),F v0 v1 v2 v3 h (dn Q)->C n [v0,v1,v2,v3] h Q
abbrev J3(F:za->za->za->zb->(zQ)->Prop)(C:z5)(n:Nat):Prop:=∀(v0 v1 v2:za)(h:zb)(Q:zQ),F v0 v1 v2 h (dn Q)->C n [v0,v1,v2] h Q
structure OrdI(C:z5)(E:zbb)(fL e p q s r v b k n ad md o2 sd nx pw:Nat):Prop where
 eq:J4 (zk.cps C E fL) C e
 part:J4 (ze.cps C E fL) C p
 pdq:J4 (zn.cps C E fL e p q s r v b k n) C q
 pis:J3 (zd.cps C E fL) C s
 rev:J3 (zbx.cps C E) C r
 piv:J3 (zp.cps C E ad md) C v
 brk:J3 (zi.cps C E nx pw) C b
 heap:J3 (zx.cps C E sd) C k
 ins:J3 (z6.cps C E fL) C n
 adj:J3 (zeh.cps C E md) C ad
 med:∀(v0 v1 v2 v3 v4:za)(h:zb)(Q:zQ),zel.cps C E o2 v0 v1 v2 v3 v4 h (dn Q)->C md [v0,v1,v2,v3,v4] h Q
 ord:J4 (zek.cps C E fL) C o2
 sift:J4 (z8.cps C E fL) C sd
 next:NextI C nx
 pow:PowI C pw
theorem e4{F:za->za->za->za->za->zb->(zQ)->Prop}{G:za->za->za->za->zb->(zQ)->Prop}{C:z5}{f:Nat}(i:J4 G C f)(e:∀v0 v1 v2 v3 v4 h Q,F v0 v1 v2 v3 v4 h Q=G v0 v1 v2 v3 h Q):I5 F (Cst C) f:=
 λv0 v1 v2 v3 v4 h Q x=>i v0 v1 v2 v3 h Q (by rw[<-e v0 v1 v2 v3 v4];exact x)
theorem e3{F:za->za->za->za->zb->(zQ)->Prop}{G:za->za->za->zb->(zQ)->Prop}{C:z5}{f:Nat}(i:J3 G C f)(e:∀v0 v1 v2 v3 h Q,F v0 v1 v2 v3 h Q=G v0 v1 v2 h Q):I4 F (Cst C) f:=
 λv0 v1 v2 v3 h Q x=>i v0 v1 v2 h Q (by rw[<-e v0 v1 v2 v3];exact x)
section
variable{C:z5}{E:zbb}{fL e p q s r v b k n ad md o2 sd nx pw:Nat}
theorem t_eq:∀v0 v1 v2 v3 v4 h Q,zu.cps (Cst C) E C fL v0 v1 v2 v3 v4 h Q=zk.cps C E fL v0 v1 v2 v3 h Q:=by intros;kernel_rfl
theorem t_part:∀v0 v1 v2 v3 v4 h Q,zl.cps (Cst C) E C fL v0 v1 v2 v3 v4 h Q=ze.cps C E fL v0 v1 v2 v3 h Q:=by intros;kernel_rfl
theorem t_pdq:∀v0 v1 v2 v3 v4 h Q,z9.cps (Cst C) E C fL e p q s r v b k n v0 v1 v2 v3 v4 h Q=zn.cps C E fL e p q s r v b k n v0 v1 v2 v3 h Q:=by intros;kernel_rfl
theorem t_pis:∀v0 v1 v2 v3 h Q,zh.cps (Cst C) E C fL v0 v1 v2 v3 h Q=zd.cps C E fL v0 v1 v2 h Q:=by intros;kernel_rfl
theorem t_rev:∀v0 v1 v2 v3 h Q,zdy.cps (Cst C) E C fL v0 v1 v2 v3 h Q=zbx.cps C E v0 v1 v2 h Q:=by intros;kernel_rfl
theorem t_piv:∀v0 v1 v2 v3 h Q,zba.cps (Cst C) E C fL md ad v0 v1 v2 v3 h Q=zp.cps C E ad md v0 v1 v2 h Q:=by intros;kernel_rfl
theorem t_brk:∀v0 v1 v2 v3 h Q,z0.cps (Cst C) E C fL nx pw v0 v1 v2 v3 h Q=zi.cps C E nx pw v0 v1 v2 h Q:=by intros;kernel_rfl
theorem t_heap:∀v0 v1 v2 v3 h Q,zc7.cps (Cst C) E C fL sd v0 v1 v2 v3 h Q=zx.cps C E sd v0 v1 v2 h Q:=by intros;kernel_rfl
theorem t_ins:∀v0 v1 v2 v3 h Q,zcv.cps (Cst C) E C fL v0 v1 v2 v3 h Q=z6.cps C E fL v0 v1 v2 h Q:=by intros;kernel_rfl
theorem t_adj:∀v0 v1 v2 v3 h Q,zea.cps (Cst C) E C fL md v0 v1 v2 v3 h Q=zeh.cps C E md v0 v1 v2 h Q:=by intros;kernel_rfl
theorem t_med:∀v0 v1 v2 v3 v4 v5 h Q,zfr.cps (Cst C) E C fL o2 v0 v1 v2 v3 v4 v5 h Q=zel.cps C E o2 v0 v1 v2 v3 v4 h Q:=by intros;kernel_rfl
theorem t_ord:∀v0 v1 v2 v3 v4 h Q,zfq.cps (Cst C) E C fL v0 v1 v2 v3 v4 h Q=zek.cps C E fL v0 v1 v2 v3 h Q:=by intros;kernel_rfl
theorem t_sift:∀v0 v1 v2 v3 v4 h Q,zc6.cps (Cst C) E C fL v0 v1 v2 v3 v4 h Q=z8.cps C E fL v0 v1 v2 v3 h Q:=by intros;kernel_rfl
theorem OrdI.toT(J:OrdI C E fL e p q s r v b k n ad md o2 sd nx pw):Ord.PdqI (Cst C) E C fL e p q s r v b k n o2 md ad sd nx pw where
 eq:=e4 J.eq t_eq
 part:=e4 J.part t_part
 pdq:=e4 J.pdq t_pdq
 pis:=e3 J.pis t_pis
 rev:=e3 J.rev t_rev
 piv:=e3 J.piv t_piv
 brk:=e3 J.brk t_brk
 heap:=e3 J.heap t_heap
 ins:=e3 J.ins t_ins
 ord:=e4 J.ord t_ord
 med:=λv0 v1 v2 v3 v4 v5 h Q x=>J.med v0 v1 v2 v3 v4 h Q (by rw[<-t_med (C:=C) (fL:=fL) v0 v1 v2 v3 v4 v5];exact x)
 adj:=e3 J.adj t_adj
 sift:=e4 J.sift t_sift
 next:=J.next
 pow:=J.pow
theorem Sort_spec{X:Type}{cs:X->List za}{v':X->za}{h0 h:zb}{x:za}{G:List X}{R:List (List za)}{c:X->X->Int}{Q:zQ}{fl:Nat}(J:OrdI C E fL e p q s r v b k n ad md o2 sd nx pw)(hlen:LenI C fl)(S:zd8 E cs v')(W:znb (zeu c))
  (hc:Ord.zer C v' c fL h0) (hl:G.length <= 100000000) (ho:Rw E cs h0 h x G R) (hq:∀h' G',G'.Perm G->G'.Pairwise (λs t=>¬ c t s<0)->Rw E cs h0 h' x G' R->Q (.tup []) h'):zf8.cps C E fl q x h Q:=by
 simp -dsimp only[zf8.cps,zf8.k1,ho.lenE,toUN (show G.length<18446744073709551616 by omega),B.zf];refine hlen _ _ _ hl λr hr _=>?_;refine J.pdq _ _ _ _ _ _ ?_;rw[<-t_pdq (C:=C) _ _ _ _ .nilf];refine Ord.pdq_spec J.toT S W hc _ 0 G.length r h G _ rfl (by omega) (Nat.le_refl _) hl (λh=>by omega) ho λh' G' w s o=>zbh ?_;refine hq h' G' w.perm ?_ o;rw[pairwise_iff_getElem];intro i j hi hj hij;have:=w.len;exact s i j (by omega) hij (by omega) hi hj
end
variable{C:z5}
theorem zc5.frame(hC:zow C){h0 h:zb}{l:List Ob}(ho:zc5 h0 h l){f:Nat}{args:List za}{K K':zQ}(x:C f args h0 K)(hk:∀v h1 h',K v h1->zc5 h1 h' l->K' v h'):C f args h K':=
 hC.mono _ _ _ _ _ (λv h' ⟨h1,k1,k2,k3⟩=>hk v h1 h' k1 ⟨k2,λo hm=>(ho.is o hm).zjx λi b hf hb=>(k3 i (ho.own o hm i hf).1 b hb).1,
  λo hm i hf=>by
   obtain⟨b,hb⟩:=(ho.is o hm).known hf
   obtain⟨m1,m2⟩:=k3 i (ho.own o hm i hf).1 b hb
   exact⟨m2,λc hc=>by rw[m1]at hc;cases hc;exact(ho.own o hm i hf).2 b hb⟩,ho.apart⟩) (hC.frame _ _ _ _ _ ho.le x)
theorem RK.here{k:Nat}{p:zb->Prop}{r:List (Nat×(zb->Prop))}{h:zb}(x:p h):RK ((k,p)::r) k h:= .inl ⟨rfl,x⟩
theorem B.callv_yld{id:Nat}{args:List za}{h:zb}{K:zQ}:B.zkt h C (.yld id) args K=C zla (mkY id::args) h K:=rfl
variable{C:z5}{N:zN}
end Go.Ab
namespace Go.Ab
open List
variable{C:z5}{N:zN}
structure LL where
 x:za
 n:Nat
 xs:Nat->za
 D:Nat->List (List za)
 R:Nat->List (List za)
 W:List (List za)
@[irreducible] def zl0(k i:Int):List UInt8:=[35,byt k,byt (k.fdiv 256),byt (k.fdiv 65536),47,byt i,byt (i.fdiv 256),byt (i.fdiv 65536)]
def zdw.Spec(C:z5)(N:zN):Prop:=∀(k i:Int)(h:zb)(Q:zQ),Q (.str (zl0 k i)) h->C (N 106) [.int .i64 k,.int .i64 i] h Q
theorem zdw.spec(i:zdw.Imp C N):zdw.Spec C N:=by
 intro k j h Q hq;apply i;simp +contextual -dsimp[bin_shr (k:= .i64) (j:= .u64) (b:=8) (by omega) (by simp[IntKind.bits]),bin_shr (k:= .i64) (j:= .u64) (b:=16) (by omega) (by simp[IntKind.bits]),u8_byt];intro id hid;unfold zl0 at hq;have hx:SlX (upd h id (zdo [.int .u8 35,.int .u8 ((byt k).toNat:Int),.int .u8 ((byt (k.fdiv 256)).toNat:Int),.int .u8 ((byt (k.fdiv 65536)).toNat:Int),.int .u8 47,.int .u8 ((byt j).toNat:Int),.int .u8 ((byt (j.fdiv 256)).toNat:Int),.int .u8 ((byt (j.fdiv 65536)).toNat:Int)])) 1 (.sl id 0 0 8 1 8) (([35,byt k,byt (k.fdiv 256),byt (k.fdiv 65536),47,byt j,byt (j.fdiv 256),byt (j.fdiv 65536)]:List UInt8).map bc) []:=
  SlX.lit (zbv ..) (by simp) rfl (by simp) rfl
 rw[bytesStr_bc hx];exact dn_le (zf5 _ hid) hq
abbrev zgb:List (List za):=zge tS (zl0 1) 12
def zdi.Spec(C:z5)(N:zN):Prop:=∀(x y:za)(L M:List (List UInt8))(R S:List (List za))(h:zb)(Q:zQ),SlX h 1 x (L.map tc) R->SlX h 1 y (M.map tc) S->L.length<4611686018427387904->Q (.bool (decide (L=M))) h->C (N 133) [x,y] h Q
theorem zdi.spec(i:zdi.Imp C N):zdi.Spec C N:=λx y L M R S h Q hx hy hlen hq=>i x y h Q (zr1 tS hx hy hlen (zbh hq))
def zdq.Spec(C:z5)(N:zN):Prop:=∀(x:za)(L:List (List UInt8))(R:List (List za))(h:zb)(Q:zQ),SlX h 1 x (L.map tc) R->L.length <= 100000000->(∀x' h',zc5 h h' [.sl 1 x' (L.map tc) zgb]->Q x' h')->C (N 406) [x] h Q
theorem zdq.spec(i:zdq.Imp C N)(s1:zdw.Spec C N):zdq.Spec C N:=λx L R h Q hx hlen hq=>i x h Q (lentS_spec tS (z:= .str []) (m:=1) (mk:=zl0 1) (by omega) (s1 1) hx hlen λx' h' ho=>zbh (hq x' h' ho))
def zda.Spec(C:z5)(N:zN):Prop:=∀(x y:za)(L M:List (List UInt8))(R:List (List za))(h:zb)(Q:zQ),SlX h 1 x (L.map tc) zgb->SlX h 1 y (M.map tc) R->L.length <= 100000000->Q (.bool (decide (L=M))) h->C (N 407) [x,y] h Q
theorem zda.spec(i:zda.Imp C N)(s1:zdw.Spec C N):zda.Spec C N:=λx y L M R h Q hx hy hlen hq=>i x y h Q (keptS_spec tS (m:=1) (mk:=zl0 1) (s1 1) hx hy hlen (zbh hq))
def zdv.Spec(C:z5)(N:zN):Prop:=∀(h0 h:zb)(x:za)(L R:List (List za))(Q:zQ),zc5 h0 h [.sl 1 x L R]->R.length=12->L.length <= 100000000->(∀h',h0.le h'->Q (.tup []) h')->C (N 409) [x] h Q
theorem zdv.spec(i:zdv.Imp C N)(s1:zdw.Spec C N):zdv.Spec C N:=λh0 h x L R Q ho hR hlen hq=>i x h Q (overG_spec (es:=1) (st:=λh p v K=>B.st h p v K) (by omega) (v:=λi=> .str (zl0 2 i)) (s1 2) (λho hi hK=>over_stS rfl ho hi hK) ho hR hlen λh' hle=>zbh (hq h' hle))
variable{C:z5}{N:zN}
abbrev icl(a:Int):List za:=[.int .i64 a]
def cmpI(a b:Int):Int:=if a<b then -1 else 1
theorem cmpI_lt{a b:Int}:cmpI a b<0↔a<b:=by unfold cmpI;split<;>simp_all
theorem weakI:znb (zeu cmpI):=by
 constructor<;>simp only[zeu,decide_eq_true_eq,decide_eq_false_iff_not,cmpI_lt]<;>omega
theorem seqI:zd8 (zdf 8 (.int .i64 0) 0) icl (λa:Int=>za.int .i64 a):=seqS (by omega) λ_=>rfl
variable{C:z5}{N:zN}
def zdn.Spec(C:z5)(N:zN):Prop:=∀(a:Int)(h:zb)(Q:zQ),Q (.bool false) h->C (N 546) [.int .i64 a] h Q
theorem zdn.spec(i:zdn.Imp C N):zdn.Spec C N:=by
 intro a h Q hq;apply i;simp -dsimp;exact zbh hq
def zdk.Spec(C:z5)(N:zN):Prop:=∀(a b:Int)(h:zb)(Q:zQ),Q (.bool (decide (a<b))) h->C (N 534) [.int .i64 a,.int .i64 b] h Q
theorem zdk.spec(i:zdk.Imp C N)(s1:zdn.Spec C N):zdk.Spec C N:=by
 intro a b h Q hq;apply i;simp -dsimp;refine s1 _ _ _ ?_;simp -dsimp;exact zbh hq
def zbl.Spec(C:z5)(N:zN):Prop:=∀(h0 h:zb)(x:za)(L:List Int)(R:List (List za))(Q:zQ),zc5 h0 h [.sl 1 x (L.map icl) R]->L.length <= 100000000->(∀h' (L':List Int),L'.Perm L->L'.Pairwise (λs t=>s <= t)->zc5 h0 h' [.sl 1 x (L'.map icl) R]->Q (.tup []) h')->C (N 511) [x] h Q
theorem zbl.spec(i:zbl.Imp C N)(j1:zbr.Imp C N)(j2:zce.Imp C N)(j3:zcs.Imp C N)(j4:zbf.Imp C N)
  (j5:zb1.Imp C N) (j6:zb4.Imp C N) (j7:zbz.Imp C N) (j8:zcm.Imp C N) (j9:zby.Imp C N) (k1:zbs.Imp C N)
  (k2:zc0.Imp C N) (k3:zcz.Imp C N) (k4:zck.Imp C N) (k5:NextI C (N 298)) (k6:PowI C (N 299)) (hl:LenI C (N 287)) (s1:zdk.Spec C N):zbl.Spec C N:=by
 intro h0 h x L R Q ho hlen hq;have J:OrdI C (zdf 8 (.int .i64 0) 0) (N 534) (N 535) (N 536) (N 531) (N 537) (N 538) (N 539) (N 540) (N 541) (N 542) (N 544) (N 545) (N 547) (N 543) (N 298) (N 299):=⟨j1,j2,j3,j4,j5,j6,j7,j8,j9,k1,k2,k3,k4,k5,k6⟩;have hc:Ord.zer C (λa:Int=>za.int .i64 a) cmpI (N 534) h0:=⟨λh' a b K _ hk=>s1 _ _ _ _ (by rw[show decide (a<b)=decide (cmpI a b<0) from decide_eq_decide.2 cmpI_lt.symm];exact hk)⟩;refine i _ _ _ (Sort_spec J hl seqI weakI hc hlen (show Rw _ _ _ _ _ _ _ from ho) λh' G' hp hs o'=>zbh (hq h' G' hp (hs.imp λ{a b} hab=>?_) o'));rw[cmpI_lt]at hab;omega
theorem zmw:∀{S T:List Int},S.Perm T->S.Pairwise (λs t=>s <= t)->T.Pairwise (λs t=>s <= t)->S=T
 | [],T,hp,_,_=>by rw[List.Perm.nil_eq hp]
 | a::S,[],hp,_,_=>by have:=hp.length_eq;simp at this
 | a::S,b::T,hp,h1,h2=>by
  rw[pairwise_cons]at h1 h2;have e:a=b:=by
   have m1:a∈b::T:=hp.subset (mem_cons_self ..);have m2:b∈a::S:=hp.symm.subset (mem_cons_self ..);rcases mem_cons.1 m1 with e|m1
   ·exact e
   ·rcases mem_cons.1 m2 with e|m2
    ·exact e.symm
    ·have:=h1.1 b m2;have:=h2.1 a m1;omega
  subst e;rw[zmw (perm_cons a |>.1 hp) h1.2 h2.2]
def insJ(a:Int):List Int->List Int|[]=>[a]|b::r=>if a <= b then a::b::r else b::insJ a r
def zhf:List Int->List Int|[]=>[]|a::r=>insJ a (zhf r)
theorem zq4(a:Int):∀l,(insJ a l).Perm (a::l)
 | []=> .refl _
 | b::r=>by
  unfold insJ
  split
  ·exact .refl _
  ·exact((zq4 a r).cons b).trans (.swap ..)
theorem zfo:∀l,(zhf l).Perm l|[]=> .refl _|a::r=>(zq4 a _).trans ((zfo r).cons a)
theorem zq3{a:Int}:∀{l:List Int},l.Pairwise (λs t=>s <= t)->(insJ a l).Pairwise (λs t=>s <= t)
 | [],_=>pairwise_singleton _ _
 | b::r,h=>by
  have h':=h
  rw[pairwise_cons]at h
  unfold insJ
  split
  ·rename_i hab
   refine pairwise_cons.2 ⟨λc hc=>?_,h'⟩
   rcases mem_cons.1 hc with rfl|hc
   ·exact hab
   ·have:=h.1 c hc;omega
  ·rename_i hab
   refine pairwise_cons.2 ⟨λc hc=>?_,zq3 h.2⟩
   rcases mem_cons.1 ((zq4 a r).subset hc) with rfl|hc
   ·omega
   ·exact h.1 c hc
theorem zic:∀l,(zhf l).Pairwise (λs t=>s <= t)|[]=> .nil|a::r=>zq3 (zic r)
theorem sortJ_of{S T:List Int}(hp:S.Perm T)(hs:S.Pairwise (λs t=>s <= t)):S=zhf T:=zmw (hp.trans (zfo T).symm) hs (zic T)
theorem sortJ_of'{S T:List Int}(hp:S.Perm T)(hs:S.Pairwise (λs t=>s <= t)):S=zhf T:=sortJ_of hp hs
variable{C:z5}{N:zN}
def zk2(p:Nat)(ps:zeo Nam Int)(t:Int)(e:Int×Wk×Nat):Bool:=decide (e.2.1.p≠p)&&zk1 e.2.1 ps t
def keptL(s:Lk)(p:Nat)(ps:zeo Nam Int)(t:Int):List Int:=zhf ((s.W.filter (zk2 p ps t)).map (·.1))
def zbg.Spec(C:z5)(N:zN):Prop:=∀(h:zb)(s:Lk)(p b:Nat)(cs:List za)(ps:zeo Nam Int)(t:Int)(Q:zQ),s.At h->s.Ok->s.W.length <= 100000->h p=some (zdo cs)->zpr h b ps->(∀x' h',zc5 h h' [.sl 1 x' ((keptL s p ps t).map icl) []]->Q x' h')->C (N 506) [.ptr s.l 0 0,.ptr p 0 0,.mp b,.int .i64 t] h Q
theorem zbg.spec(i:zbg.Imp C N)(s1:zcy.Spec C N)(s2:zbl.Spec C N):zbg.Spec C N:=by
 intro h s p b cs ps t Q hs hk hlen hp hb hq;apply i;simp -dsimp only[zbg.cps,zbg.k4];intro i5 h5;have o1:=(zc5.start h).znq h5 [.ptr p 0 0];intro i6 h6;have o2:=o1.znq h6 [.mp b];intro i7 h7;have o3:=o2.znq h7 [.int .i64 t];have o4:=o3.zeg 1;generalize hh:upd (upd (upd h i5 (zdo [za.ptr p 0 0])) i6 (zdo [za.mp b])) i7 (zdo [za.int IntKind.i64 t])=h3 at o4 ⊢;have hs3:=hs.mono o4.le;have e1:=zeb (k:=0) hs3.1 rfl;simp -dsimp only[zbg.k3,B.zb3,V.fieldAddr,Nat.zero_add,B.zf,B.zed,e1];refine zc5.zr4 (κ:=wV) (v:=pV) (ps:=s.W) (c:=s.c) (J:=λD l vs=>∃out',vs=[out'] /\ l=[.box (.ptr i5 0 0) [.ptr p 0 0],.box (.ptr i6 0 0) [.mp b],.box (.ptr i7 0 0) [.int .i64 t],.sl 1 out' (((D.filter (zk2 p ps t)).map (·.1)).map icl) []])
  (REST:=λit vs v h Y=>match vs with
   | [v10]=>B.pv (V.ext 0 v) λv20=>B.cond v20
    (B.pv (A.zfm h it) λv21=>B.pv (V.ext 0 v21) λv22=>B.pv (V.ext 1 v21) λv23=>
     B.zkt h C (.fn (N 523) [] [.ptr i5 0 0,.ptr i6 0 0,.ptr i7 0 0]) [v23] λv26 h=>B.cond v26
     (B.zgn h (zez [(0,none,v22)] (zh2 1 [.int .i64 0])) λi29 h=>B.ziz h 1 8 v10 (.sl i29 0 0 1 1 1) λv30 h=>Y [v30] h) (Y [v10] h))
    (B.call C (N 511) [v10] h λv32 h=>dn Q v10 h)
   | _=>False) o4 hs.2.1 hk.zsk ⟨.zeg,rfl,rfl⟩ ?_ ?_ ?_
 ·rintro it vs h4 Y D l ⟨out',rfl,_⟩ hn
  exact hn
 ·rintro it h4 D l bb Y vs ⟨out',rfl,rfl⟩ hpm ho
  simp -dsimp only[V.zg5,getElem?_cons_zero,B.zf,B.cond_false];have hsub:zc5 h h4 [.sl 1 out' (((D.filter (zk2 p ps t)).map (·.1)).map icl) []]:=ho.sub (.cons _ (.cons _ (.cons _ (.cons_cons _ (nil_sublist _)))));have hl:((D.filter (zk2 p ps t)).map (·.1)).length <= 100000000:=by
   have h1:=length_filter_le (zk2 p ps t) D;have h2:=hpm.length_eq;rw[length_map];omega
  refine s2 h h4 out' _ [] _ hsub hl λh5 L' hL hS o5=>?_;have e:L'=keptL s p ps t:=sortJ_of' (hL.trans ((hpm.filter _).map _)) hS;rw[e]at o5;exact zbh (hq _ _ o5)
 ·rintro it h4 D l bb Y vs q hqm ⟨out',rfl,rfl⟩ hsub hqD hDl ho he hY
  simp -dsimp only[V.zg5,getElem?_cons_zero,getElem?_cons_succ,B.zf,B.cond_true,he];rw[B.callv_fn];obtain⟨j5,e5,b5⟩:=ho.zrs 0 rfl;obtain⟨j6,e6,b6⟩:=ho.zrs 1 rfl;obtain⟨j7,e7,b7⟩:=ho.zrs 2 rfl;cases e5;cases e6;cases e7;refine s1 h4 q.2.1 p b i5 i6 i7 cs ps t _ ((hs.mono ho.le).2.2 q hqm) (ho.le _ _ hp) (hb.mono ho.le) b5 b6 b7 ?_;refine B.zbd (λhd=>?_) (λhd=>?_)
  ·have hd':zk2 p ps t q=true:=hd
   have hf:zez [(0,none,wV q.1)] (zh2 1 [.int .i64 0])=some [.int .i64 q.1]:=rfl;simp -dsimp only[hf];have hl:=length_filter_le (zk2 p ps t) D;refine ho.push 3 rfl (cs:=[.int .i64 q.1]) rfl (by omega) (by simp;omega) (by simp[maxLen];omega) λout2 h5 o5 _=>?_;refine hY h5 [.box (.ptr i5 0 0) [.ptr p 0 0],.box (.ptr i6 0 0) [.mp b],.box (.ptr i7 0 0) [.int .i64 t],.sl 1 out2 ((((D++[q]).filter (zk2 p ps t)).map (·.1)).map icl) []] _ ⟨out2,rfl,rfl⟩ ?_;rw[filter_append,map_append,map_append];simp only[List.filter,hd',map_cons,map_nil];exact o5
  ·have hd':zk2 p ps t q=false:=hd
   refine hY h4 _ _ ⟨out',rfl,rfl⟩ ?_;rw[filter_append];simp only[List.filter,hd',append_nil];exact ho
variable{C:z5}{N:zN}
theorem lkpW{h:zb}{m c:Nat}{W:zeo Int Wk}(hb:h m=some (ze4 (zib wV pV W) c))(k:Int):A.lkp h (some .i) (some .zkx) false (.mp m) (.int .i64 k)=some (match zgx W k with|some w=> .ptr w.p 0 0|none=> .zkx):=by
 have hf:=zll (v:=pV) keyI k W 0;simp only[A.lkp,A.entries,zif hb,zn0];rw[show V.zrp .i (.int .i64 k) (zib wV pV W) 0=_ from hf];cases zne W k with
 | none=>rfl
 | some x=>rfl
def zcw.Spec(C:z5)(N:zN):Prop:=∀(h:zb)(s:Lk)(Q:zQ),s.At h->Q (.bool true) h->C (N 505) [.ptr s.l 0 0] h Q
theorem zcw.spec(i:zcw.Imp C N):zcw.Spec C N:=by
 intro h s Q hs hq;apply i;have e1:=zeb (k:=0) hs.1 rfl;have ep:V.zgd .neq (.ptr s.l 0 0) .zkx=some (.bool true):=rfl;have em:V.eqMap .neq (.mp s.m) .zo2=some (.bool true):=rfl;simp +contextual -dsimp[e1,ep,em,V.fieldAddr];exact zbh hq
def zes(s:Lk)(k:Int):List Int:=
 match zgx s.W k with
 | none=>[]
 | some w=>if w.zha=0 then [] else keptL s w.p w.zfb w.zha
def zco.Spec(C:z5)(N:zN):Prop:=∀(h:zb)(s:Lk)(k:Int)(Q:zQ),s.At h->s.Ok->s.W.length <= 100000->(∀x' h',zc5 h h' [.sl 1 x' ((zes s k).map icl) []]->Q x' h')->C (N 491) [.ptr s.l 0 0,.int .i64 k] h Q
theorem zco.spec(i:zco.Imp C N)(s1:zcw.Spec C N)(s2:zbg.Spec C N):zco.Spec C N:=by
 intro h s k Q hs hk hlen hq;apply i;have e1:=zeb (k:=0) hs.1 rfl;have el:=lkpW hs.2.1 k;refine s1 h s _ hs ?_;cases ew:zgx s.W k with
 | none=>
  rw[ew]at el;have ep:V.zgd .eql .zkx .zkx=some (.bool true):=rfl;simp +contextual -dsimp[e1,el,ep,V.fieldAddr];have hw:zes s k=[]:=by simp[zes,ew]
  rw[hw]at hq;exact zbh (hq _ _ ((zc5.start h).zeg 1))
 | some w=>
  rw[ew]at el;obtain⟨n,hn⟩:=zh9 ew;have hw:=hs.2.2 _ hn;have f1:=zeb (k:=1) hw.1 rfl;have f2:=zeb (k:=2) hw.1 rfl;have ep:V.zgd .eql (.ptr w.p 0 0) .zkx=some (.bool false):=rfl;simp +contextual -dsimp[e1,el,ep,f1,f2,V.fieldAddr];refine B.zbd (λhc=>?_) (λhc=>?_)<;>simp +contextual -dsimp[e1,el,f1,f2,V.fieldAddr]at hc ⊢
  ·have hw:zes s k=[]:=by simp[zes,ew,hc]
   rw[hw]at hq;exact zbh (hq _ _ ((zc5.start h).zeg 1))
  ·have hw2:zes s k=keptL s w.p w.zfb w.zha:=by simp[zes,ew,hc]
   rw[hw2]at hq;exact s2 h s w.p w.wm _ w.zfb w.zha _ hs hk hlen hw.1 hw.2.2 λx' h' o=>zbh (hq x' h' o)
variable{C:z5}{N:zN}{K T:Type}{κ:K->za}{v:T->za}
theorem zr3(hG:zow C){ps:zeo K T}{m c id:Nat}{I:zeo K T->zb->Prop}{Z:zb->Prop}{h:zb}{Q:zQ}{Lp:za->zG}
  (hm:∀D h,I D h->h m=some (ze4 (zib κ v ps) c)) (hb:zfw ps c)
  (heq:∀it hh Y,(B.zeq hh it λv6 h=>B.pv (V.ext 0 v6) λv7=>B.cond v7 (B.pv (A.zfm h it) λv8=>B.pv (V.ext 0 v8) λv9=>B.zkt h C (.yld id) [v9] λv12 h=>B.pv (V.un .not v12) λv13=>B.cond v13 (Q (.tup []) h) (Y [] h)) (Q (.tup []) h))->Lp it [] hh Y)
  (hr:∀D p h,p∈ps->p∉D->D.length<ps.length->I D h->C zla (mkY id::[κ p.1]) h λv h'=>(v= .bool true /\ I (D++[p]) h') \/ (v= .bool false /\ Z h'))
  (h0:I [] h) (hend:∀D h1 h',D.Perm ps->I D h1->h1.le h'->Q (.tup []) h') (hZ:∀h1 h',Z h1->h1.le h'->Q (.tup []) h'):B.rangeMap h (.mp m) λv h=>z3 (Lp v) [] h:=by
 show A.rangeMap h (.mp m) _;simp only[A.rangeMap,zif (hm [] h h0)];intro it hit;have ho:zc5 h (upd h it (zf6 (.mapIter (some m) c [] c))) ([]++[.blk it (ze6 m c (([]:zeo K T).map (·.2.2)) c)]):=(zc5.start h).znr (b:=ze6 m c [] c) hit rfl;refine z3.intro (λt vs hh=>vs=[] /\ ∃(D:zeo K T)(h1:zb),D.length+t=ps.length /\ (∀q∈D,q∈ps) /\ (D.map (·.2.2)).Nodup /\ I D h1 /\ zc5 h1 hh [.blk it (ze6 m c (D.map (·.2.2)) c)]) ps.length ?_ ⟨rfl,[],h,by simp,by simp,List.Pairwise.nil,h0,ho⟩;rintro Y t vs hh ⟨rfl,D,h1,ht,hD,hnd,hI,o⟩ hY;refine heq _ _ _ ?_;refine o.nextMapB 0 (seen:=D.map (·.2.2)) (since:=c) (last:=c) (o.le _ _ (hm D h1 hI)) rfl hb (Nat.le_refl _) (Nat.le_refl _) (λhall=>?_) λp hp hns h' o' hk he=>?_
 ·simp -dsimp only[V.zg5,getElem?_cons_zero,B.zf,B.cond_false]
  exact hend D h1 hh (hb.all hD hnd hall) hI o.le
 ·have o'':zc5 h1 h' [.blk it (ze6 m c ((D++[p]).map (·.2.2)) c)]:=by simpa using o'
  have hpD:p∉D:=λhm=>hns (mem_map.2 ⟨p,hm,rfl⟩);have nd2:((D++[p]).map (·.2.2)).Nodup:=by
   rw[map_append,nodup_append];exact⟨hnd,by simp,λx hx y hy e=>hns (by rw[map_cons,map_nil,mem_singleton]at hy;rw[<-hy,<-e];exact hx)⟩
  have sub:∀q∈D++[p],q∈ps:=λq hq=>by
   rcases mem_append.1 hq with h|h
   ·exact hD q h
   ·rw[mem_singleton.1 h];exact hp
  have hl:(D++[p]).length <= ps.length:=List.Nodup.length_le_of_subset (List.Pairwise.of_map (S:=(· ≠ ·)) (λp:K×T×Nat=>p.2.2) (λa b h e=>h (by rw[e])) nd2) sub;rw[length_append]at hl;have hl:D.length+1 <= ps.length:=hl;simp -dsimp only[V.zg5,getElem?_cons_zero,B.zf,B.cond_true,he];rw[B.callv_yld];refine o''.frame hG (hr D p h1 hp hpD (by omega) hI) λw h2 h3 hw o2=>?_;rcases hw with⟨e,h4⟩|⟨e,h4⟩
  ·simp -dsimp only[e,V.zfk,Bool.not_true,B.cond_false,B.zf]
   exact hY (t-1) _ _ (by omega) ⟨rfl,D++[p],h2,by rw[length_append,length_singleton];omega,sub,nd2,h4,o2⟩
  ·simp -dsimp only[e,V.zfk,Bool.not_false,B.cond_true,B.zf]
   exact hZ h2 h3 h4 o2.le
def IterK(C:z5)(g:Nat)(zjb:List za)(M:zb->Prop)(κ:K->za)(ps:zeo K T):Prop:=∀(id:Nat)(I:zeo K T->zb->Prop)(Z:zb->Prop)(h:zb)(Q:zQ),(∀D h,I D h->M h)->(∀D p h,p∈ps->p∉D->D.length<ps.length->I D h->C zla (mkY id::[κ p.1]) h λv h'=>(v= .bool true /\ I (D++[p]) h') \/ (v= .bool false /\ Z h'))->I [] h->(∀D h,D.Perm ps->I D h->Q (.tup []) h)->(∀h,Z h->Q (.tup []) h)->C g ([.yld id]++zjb) h Q
theorem range_iterK{g:Nat}{zjb:List za}{M:zb->Prop}{ps:zeo K T}{W:List za->zb->(Nat->zb->Prop)->Prop}{h:zb}{R:Nat->zb->Prop}(hi:IterK C g zjb M κ ps)(hM:∀h h',h.le h'->M h->M h')
  (J:zeo K T->zb->Prop) (hJ:∀D h,J D h->M h) (round:∀D p h E,p∈ps->p∉D->D.length<ps.length->J D h->(∀h',J (D++[p]) h'->E 0 h')->W [κ p.1] h E)
  (h0:J [] h) (hend:∀D h,D.Perm ps->J D h->R 0 h):zpf C (.fn g [] zjb) W h R:=by
 intro mk _ id hid hround;refine hi id (λD h2=>∃h1:zb,h1 id=none /\ h2=upd h1 id (mk 0) /\ J D h1) (λh2=>False) _ _ ?_ ?_ ⟨h,hid,rfl,h0⟩ ?_ ?_
 ·rintro D _ ⟨h1,e,rfl,hj⟩
  exact hM _ _ (zf5 _ e) (hJ D h1 hj)
 ·rintro D p _ hp hpD hl ⟨h1,e,rfl,hj⟩
  exact hround [κ p.1] h1 _ e (round D p h1 _ hp hpD hl hj (λh' hj'=>⟨h',zb.le_refl h',λe'=> .inl ⟨rfl,h',e',rfl,hj'⟩⟩))
 ·rintro D _ hp ⟨h1,e,rfl,hj⟩
  exact⟨0,h1,e,zb.le_refl _,hend D h1 hp hj⟩
 ·intro _ hf
  exact hf.elim
variable{C:z5}{N:zN}
section
variable{α:Type}[DecidableEq α]
end
variable{C:z5}{N:zN}
def far:Nat:=140737488351232
section
variable{h h':zb}{x:za}{b:List UInt8}
end
abbrev AllAt(h:zb)(l:List Ob):Prop:=∀o∈l,o.at h
structure DK(T Ad:Type) where
 n:Nat
 bytes:Nat
 z:List za
 pos:0<n
 small:bytes <= 1000
 zlen:z.length=n
 cells:T->Ad->List za
 len:∀t a,(cells t a).length=n
 at_:zb->T->Ad->Prop
 mono:∀{h h':zb}{t:T}{a:Ad},h.le h'->at_ h t a->at_ h' t a
 ok:T->Prop
 at_ok:∀{h:zb}{t:T}{a:Ad},at_ h t a->ok t
 obs:Bool->T->Ad->List Ob
 ofObs:∀{b:Bool}{h:zb}{t:T}{a:Ad},ok t->AllAt h (obs b t a)->at_ h t a
section
variable{T Ad:Type}(K:DK T Ad)
abbrev DK.cs(p:T×Ad):List za:=K.cells p.1 p.2
def Dl(h:zb)(x:za)(L:List T):Prop:=∃(P:List (T×Ad))(R:List (List za)),P.map (·.1)=L /\ SlX h K.n x (P.map K.cs) R /\ ∀p∈P,K.at_ h p.1 p.2
structure DEl(h:zb)(x:za)(i:Nat)(t:T)(a:Ad):Prop where
 idx:V.zc9 K.n x (.int .i64 (i:Int))=some (elp K.n x i 0)
 ldn:A.zl2 h (elp K.n x i 0) K.n=some (.agg (K.cells t a))
 fld:∀f o,V.fieldAddr o (elp K.n x i f)=some (elp K.n x i (f+o))
 ld:∀f,f<K.n->A.ldv h (elp K.n x i f)=(K.cells t a)[f]?
 at_:K.at_ h t a
variable{K}{h h' h0:zb}{x:za}{L M:List T}
theorem slX_el{h:zb}{x:za}{P:List (T×Ad)}{R:List (List za)}(s:SlX h K.n x (P.map K.cs) R)(ha:∀p∈P,K.at_ h p.1 p.2){i:Nat}{p:T×Ad}(hi:P[i]?=some p):DEl K h x i p.1 p.2:=by
 have hc:(P.map K.cs)[i]?=some (K.cells p.1 p.2):=by rw[getElem?_map,hi];rfl
 have hl:i<(P.map K.cs).length:=(List.getElem?_eq_some_iff.1 hc).1;exact⟨s.znf hl,s.elem hc,λf o=>s.fieldA hl f o,λf hf=>s.ldv hc hf,ha p (mem_of_getElem? hi)⟩
theorem Dl.get(hd:Dl K h x L){i:Nat}{t:T}(hi:L[i]?=some t):∃a,DEl K h x i t a:=by
 obtain⟨P,R,rfl,s,ha⟩:=hd;rw[getElem?_map]at hi;obtain⟨p,hp,rfl⟩:=Option.map_eq_some_iff.1 hi;exact⟨p.2,slX_el s ha hp⟩
theorem Dl.mono(hd:Dl K h x L)(hle:h.le h'):Dl K h' x L:=by
 obtain⟨P,R,e,s,ha⟩:=hd;exact⟨P,R,e,s.mono hle,λp hp=>K.mono hle (ha p hp)⟩
theorem Dl.zde(hd:Dl K h x L):V.zde x=some (.int .i64 L.length):=by
 obtain⟨P,R,rfl,s,ha⟩:=hd;simpa using s.zde
end
variable{C:z5}{N:zN}
structure zjc where
 Key:List UInt8
 Old:List UInt8
 New:List UInt8
 deriving DecidableEq
abbrev zgg:List UInt8->List UInt8->Bool:=Op.bytesLess
theorem lessB_nil(a:List UInt8):zgg a []=false:=by cases a<;>rfl
theorem znu(a b:UInt8)(as1 bs:List UInt8):zgg (a::as1) (b::bs)=(decide (a<b)||(a==b&&zgg as1 bs)):=rfl
theorem u8_tri(a b:UInt8):a<b \/ a=b \/ b<a:=by
 simp only[UInt8.lt_iff_toNat_lt,<-UInt8.toNat_inj];omega
theorem lessB_irr:∀a:List UInt8,zgg a a=false
 | []=>rfl
 | a::as1=>by rw[znu,lessB_irr as1];simp
theorem zkn:∀{a b c:List UInt8},zgg a b=true->zgg b c=true->zgg a c=true
 | _,[],_,h,_=>by rw[lessB_nil]at h;cases h
 | _,_::_,[],_,h=>by rw[lessB_nil]at h;cases h
 | [],_::_,_::_,_,_=>rfl
 | a::as1,b::bs,c::cs,h1,h2=>by
  rw[znu]at h1 h2 ⊢
  simp only[Bool.or_eq_true,decide_eq_true_eq,Bool.and_eq_true,beq_iff_eq]at h1 h2 ⊢
  rcases h1 with h1|⟨rfl,h1⟩
  ·rcases h2 with h2|⟨rfl,h2⟩
   ·left;simp only[UInt8.lt_iff_toNat_lt]at *;omega
   ·exact .inl h1
  ·rcases h2 with h2|⟨rfl,h2⟩
   ·exact .inl h2
   ·exact .inr ⟨rfl,zkn h1 h2⟩
theorem zqw:∀{a b:List UInt8},zgg a b=false->zgg b a=false->a=b
 | [],[],_,_=>rfl
 | [],_::_,h,_=>by cases h
 | _::_,[],_,h=>by cases h
 | a::as1,b::bs,h1,h2=>by
  rw[znu]at h1 h2
  simp only[Bool.or_eq_false_iff,decide_eq_false_iff_not,Bool.and_eq_false_iff,beq_eq_false_iff_ne]at h1 h2
  obtain rfl:a=b:=by rcases u8_tri a b with h|h|h<;>simp_all
  rw[zqw (h1.2.resolve_left λh=>h rfl) (h2.2.resolve_left λh=>h rfl)]
theorem zr9{a b:List UInt8}(h:zgg a b=true):zgg b a=false:=by
 cases e:zgg b a with
 | false=>rfl
 | true=>have:=zkn h e;rw[lessB_irr]at this;cases this
theorem lessB_or{a b:List UInt8}(h:zgg a b=false)(hne:a≠b):zgg b a=true:=by
 cases e:zgg b a with
 | true=>rfl
 | false=>exact absurd (zqw h e) hne
abbrev cmpB:=Lib.compareBytes
theorem cmpB_spec:∀a b:List UInt8,cmpB a b=if zgg a b then -1 else if zgg b a then 1 else 0
 | [],[]=>rfl
 | [],_::_=>rfl
 | _::_,[]=>rfl
 | a::as1,b::bs=>by
  have ih:=cmpB_spec as1 bs
  show (if a<b then -1 else if b<a then 1 else cmpB as1 bs)=_
  rw[ih,znu,znu]
  rcases u8_tri a b with h|rfl|h
  ·simp[h]
  ·have hi:¬ a<a:=by simp only[UInt8.lt_iff_toNat_lt];omega
   simp
  ·have h1:¬ a<b:=by simp only[UInt8.lt_iff_toNat_lt]at *;omega
   have h2:a≠b:=λe=>by subst e;exact h1 h
   have h3:(a==b)=false:=by simp[h2]
   simp[h,h1,h3]
theorem cmpB_neg{a b:List UInt8}:cmpB a b<0↔zgg a b=true:=by
 rw[cmpB_spec];split
 ·simp[*]
 ·split<;>simp[*]
theorem rise_ext{T:Type}{lt:T->T->Prop}(asym:∀a b,lt a b->lt b a->False){l m:List T}(s:l.Pairwise lt)(t:m.Pairwise lt)(e:∀x,x∈l↔x∈m):l=m:=by
 have nd:∀{l:List T},l.Pairwise lt->l.Nodup:=λh=>h.imp λ{a b} hab e=>by subst e;exact asym a a hab hab
 exact List.Perm.eq_of_pairwise (le:=lt) (λa b _ _ h1 h2=>(asym a b h1 h2).elim) s t ((perm_ext_iff_of_nodup (nd s) (nd t)).2 e)
variable{C:z5}{N:zN}
theorem V.bin_slss(a b:List UInt8):V.bin .lss (.str a) (.str b)=some (.bool (zgg a b)):=rfl
theorem weakB:znb (zeu cmpB):=by
 constructor<;>simp only[zeu,decide_eq_true_eq,decide_eq_false_iff_not,cmpB_neg]
 ·intro a b h;rw[zr9 h];simp
 ·intro a b c h1 h2 h3
  have h1:zgg a b=false:=by simpa using h1
  have h2:zgg b c=false:=by simpa using h2
  by_cases e:a=b
  ·subst e;rw[h2]at h3;cases h3
  ·have:=zkn (lessB_or h1 e) h3
   rw[h2]at this;cases this
def zdd.Spec(C:z5)(N:zN):Prop:=∀(a:List UInt8)(h:zb)(Q:zQ),Q (.bool false) h->C (N 389) [.str a] h Q
theorem zdd.spec(i:zdd.Imp C N):zdd.Spec C N:=by
 intro a h Q hq;apply i;simp -dsimp;exact zbh hq
def zdb.Spec(C:z5)(N:zN):Prop:=∀(a b:List UInt8)(h:zb)(Q:zQ),Q (.bool (zgg a b)) h->C (N 377) [.str a,.str b] h Q
theorem zdb.spec(i:zdb.Imp C N)(s1:zdd.Spec C N):zdb.Spec C N:=by
 intro a b h Q hq;apply i;simp -dsimp;refine s1 _ _ _ ?_;simp -dsimp[V.bin_slss];exact zbh hq
def SortedB(L:List (List UInt8)):Prop:=L.Pairwise λs t=>zgg t s=false
def zbm.Spec(C:z5)(N:zN):Prop:=∀(h0 h:zb)(x:za)(L:List (List UInt8))(R:List (List za))(Q:zQ),zc5 h0 h [.sl 1 x (L.map tc) R]->L.length <= 100000000->(∀h' (L':List (List UInt8)),L'.Perm L->SortedB L'->zc5 h0 h' [.sl 1 x (L'.map tc) R]->Q (.tup []) h')->C (N 364) [x] h Q
theorem seqT:zd8 (zdf 16 (.str []) 0) tc (λa:List UInt8=>za.str a):=seqS (by omega) λ_=>rfl
theorem zbm.spec(i:zbm.Imp C N)(j1:zbo.Imp C N)(j2:zb7.Imp C N)(j3:zcl.Imp C N)(j4:zbc.Imp C N)
  (j5:zbw.Imp C N) (j6:zb2.Imp C N) (j7:zbu.Imp C N) (j8:zcf.Imp C N) (j9:zbt.Imp C N) (k1:zbp.Imp C N)
  (k2:zcu.Imp C N) (k3:zct.Imp C N) (k4:zcd.Imp C N) (k5:NextI C (N 298)) (k6:PowI C (N 299)) (hl:LenI C (N 287)) (s1:zdb.Spec C N):zbm.Spec C N:=by
 intro h0 h x L R Q ho hlen hq;have J:OrdI C (zdf 16 (.str []) 0) (N 377) (N 378) (N 379) (N 375) (N 380) (N 381) (N 382) (N 383) (N 384) (N 385) (N 387) (N 388) (N 390) (N 386) (N 298) (N 299):=⟨j1,j2,j3,j4,j5,j6,j7,j8,j9,k1,k2,k3,k4,k5,k6⟩;have hc:Ord.zer C (λa:List UInt8=>za.str a) cmpB (N 377) h0:=⟨λh' a b K _ hk=>s1 _ _ _ _ (by
  rw[show zgg a b=decide (cmpB a b<0) by rw[Bool.eq_iff_iff,decide_eq_true_eq];exact cmpB_neg.symm];exact hk)⟩
 refine i _ _ _ (Sort_spec J hl seqT weakB hc hlen (show Rw _ _ _ _ _ _ _ from ho) λh' G' hp hs o'=>zbh (hq h' G' hp (hs.imp λ{a b} hab=>?_) o'));rw[cmpB_neg]at hab;simpa using hab
variable{C:z5}{N:zN}{K T:Type}{κ:K->za}{v:T->za}
theorem keysS_iter(hG:zow C)(i:zq.Imp C N){j m c:Nat}{ps:zeo Nam Int}(hb:zfw ps c):IterK C (N 524) [.ptr j 0 0] (λh=>h j=some (zdo [.mp m]) /\ h m=some (ze4 (zib nV wV ps) c)) nV ps:=by
 intro id I Z h Q hD hr h0 hend hZ;refine i (.yld id) (.ptr j 0 0) h Q ?_;obtain⟨d1,d2⟩:=hD [] h h0;have e1:=zeb (k:=0) d1 rfl;simp -dsimp only[zq.cps,B.zed,e1,B.zf];exact zr3 hG (λD h hI=>(hD D h hI).2) hb (λit hh Y hn=>hn) hr h0 (λD h1 h' hp hI hle=>dn_le hle (hend D h1 hp hI)) (λh1 h' hz hle=>dn_le hle (hZ h1 hz))
theorem keysI_iter(hG:zow C)(i:zm.Imp C N){j m c:Nat}{ps:zeo Int Wk}(hb:zfw ps c):IterK C (N 525) [.ptr j 0 0] (λh=>h j=some (zdo [.mp m]) /\ h m=some (ze4 (zib wV pV ps) c)) wV ps:=by
 intro id I Z h Q hD hr h0 hend hZ;refine i (.yld id) (.ptr j 0 0) h Q ?_;obtain⟨d1,d2⟩:=hD [] h h0;have e1:=zeb (k:=0) d1 rfl;simp -dsimp only[zm.cps,B.zed,e1,B.zf];exact zr3 hG (λD h hI=>(hD D h hI).2) hb (λit hh Y hn=>hn) hr h0 (λD h1 h' hp hI hle=>dn_le hle (hend D h1 hp hI)) (λh1 h' hz hle=>dn_le hle (hZ h1 hz))
theorem zsl{g bytes:Nat}{z:za}{zjb:List za}{M:zb->Prop}{ps:zeo K T}{h:zb}{Q:zQ}(hi:IterK C g zjb M κ ps)(hM:∀h h',h.le h'->M h->M h')(hlen:ps.length <= 100000)(hby:bytes <= 16)
  (hfill:∀k,zez [(0,none,κ k)] (zh2 1 [z])=some [κ k]) (hMh:M h) (hq:∀(x':za)(h':zb)(D:zeo K T),D.Perm ps->zc5 h h' [.sl 1 x' (D.map λp=>[κ p.1]) []]->Q x' h'):zcp.cps C (zdf bytes z 0) .zeg (.fn g [] zjb) h Q:=by
 simp -dsimp only[zcp.cps,zcp.k3];intro i2 h2;have o1:=((zc5.start h).znq h2 [.zeg]).zeg 1;refine range_iterK hi hM (λD hh=>∃x,zc5 h hh [.box (.ptr i2 0 0) [x],.sl 1 x (D.map λp=>[κ p.1]) []]) (λD hh ⟨x,o⟩=>hM _ _ o.le hMh) ?_ ⟨.zeg,o1⟩ ?_
 ·rintro D p hh E hp hpD hl ⟨x,o⟩ hE
  obtain⟨j,e,b⟩:=o.zrs 0 rfl;cases e;have e1:=zeb (k:=0) b rfl;show zcp.r2 _ _ _ _ _ _ _;have hf:zez [(0,(zdf bytes z 0).kp,κ p.1)] (zh2 1 (zdf bytes z 0).z)=some [κ p.1]:=hfill p.1;simp -dsimp only[zcp.r2,zcp.k1,B.zed,e1,B.zf,hf];have hb:(D.length+1)*bytes <= 140737488355328:=Nat.le_trans (Nat.mul_le_mul (Nat.succ_le_of_lt (Nat.lt_of_lt_of_le hl hlen)) hby) (by decide);refine o.push 1 rfl (cs:=[κ p.1]) rfl (show 0<1 by decide) (show ((D.map λp=>[κ p.1]).length+1)*bytes <= _ by rw[length_map];exact hb) (by simp[maxLen];omega) λx2 h3 o3 _=>?_;refine o3.boxSt 0 rfl (o3.zkj 1 rfl).zec (by simp) λh4 o4 _=>?_;exact hE h4 ⟨x2,by rw[map_append];exact o4⟩
 ·rintro D hh hp ⟨x,o⟩
  obtain⟨j,e,b⟩:=o.zrs 0 rfl;cases e;have e1:=zeb (k:=0) b rfl;refine RK.here ?_;simp -dsimp only[B.zed,e1,B.zf];exact hq x hh D hp (o.sub (.cons _ (.cons_cons _ (nil_sublist _))))
variable{C:z5}{N:zN}{K T:Type}{κ:K->za}{v:T->za}
def zb9.Spec(C:z5)(N:zN):Prop:=∀(g:Nat)(zjb:List za)(M:zb->Prop)(ps:zeo Nam Int)(h:zb)(Q:zQ),IterK C g zjb M nV ps->(∀h h',h.le h'->M h->M h')->ps.length <= 100000->M h->(∀(x':za)(h':zb)(L:List Nam),L.Perm (zcc ps)->SortedB L->zc5 h h' [.sl 1 x' (L.map tc) []]->Q x' h')->C (N 510) [.fn g [] zjb] h Q
theorem zb9.spec(i:zb9.Imp C N)(i2:zdc.Imp C N)(i3:zb8.Imp C N)(s1:zbm.Spec C N):zb9.Spec C N:=by
 intro g zjb M ps h Q hi hM hlen hMh hq;apply i;simp -dsimp only[zb9.cps];apply i2;simp -dsimp only[zdc.cps];apply i3;refine zsl hi hM hlen (by decide) (λk=>rfl) hMh λx' h' D hp o=>?_;refine zbh (zbh ?_);have o':zc5 h h' [.sl 1 x' ((D.map (·.1)).map tc) []]:=by rw[map_map];exact o
 refine s1 h h' x' (D.map (·.1)) [] _ o' (by rw[length_map,hp.length_eq];omega) λh2 L hL hS o2=>?_;exact zbh (hq x' h2 L (hL.trans (hp.map _)) hS o2)
def zci.Spec(C:z5)(N:zN):Prop:=∀(g:Nat)(zjb:List za)(M:zb->Prop)(ps:zeo Int Wk)(h:zb)(Q:zQ),IterK C g zjb M wV ps->(∀h h',h.le h'->M h->M h')->ps.length <= 100000->M h->(∀(x':za)(h':zb),zc5 h h' [.sl 1 x' ((zhf (zcc ps)).map icl) []]->Q x' h')->C (N 515) [.fn g [] zjb] h Q
theorem zci.spec(i:zci.Imp C N)(i2:zdh.Imp C N)(i3:zcn.Imp C N)(s1:zbl.Spec C N):zci.Spec C N:=by
 intro g zjb M ps h Q hi hM hlen hMh hq;apply i;simp -dsimp only[zci.cps];apply i2;simp -dsimp only[zdh.cps];apply i3;refine zsl hi hM hlen (by decide) (λk=>rfl) hMh λx' h' D hp o=>?_;refine zbh (zbh ?_);have o':zc5 h h' [.sl 1 x' ((D.map (·.1)).map icl) []]:=by rw[map_map];exact o
 refine s1 h h' x' (D.map (·.1)) [] _ o' (by rw[length_map,hp.length_eq];omega) λh2 L hL hS o2=>?_;have e:L=zhf (zcc ps):=sortJ_of' (hL.trans (hp.map _)) hS;rw[e]at o2;exact zbh (hq x' h2 o2)
def zrm(s:Lk)(k:Int):zeo Nam Int:=match zgx s.W k with
 | none=>[]
 | some w=>w.held
def zc2.Spec(C:z5)(N:zN):Prop:=∀(h:zb)(s:Lk)(k:Int)(Q:zQ),s.At h->s.Ok->(zrm s k).length <= 100000->(∀(x':za)(h':zb)(L:List Nam),L.Perm (zcc (zrm s k))->SortedB L->zc5 h h' [.sl 1 x' (L.map tc) []]->Q x' h')->C (N 490) [.ptr s.l 0 0,.int .i64 k] h Q
theorem zc2.spec(i:zc2.Imp C N)(hG:zow C)(i2:zbk.Imp C N)(i3:zq.Imp C N)(s1:zcw.Spec C N)(s2:zb9.Spec C N):zc2.Spec C N:=by
 intro h s k Q hs hk hlen hq;apply i;have e1:=zeb (k:=0) hs.1 rfl;have el:=lkpW hs.2.1 k;refine s1 h s _ hs ?_;cases ew:zgx s.W k with
 | none=>
  rw[ew]at el;have ep:V.zgd .eql .zkx .zkx=some (.bool true):=rfl;simp +contextual -dsimp[e1,el,ep,V.fieldAddr];have hw:zrm s k=[]:=by simp[zrm,ew]
  rw[hw]at hq;exact zbh (hq _ _ [] (.refl _) .nil ((zc5.start h).zeg 1))
 | some w=>
  rw[ew]at el;obtain⟨n,hn⟩:=zh9 ew;have hw:=hs.2.2 _ hn;have f1:=zeb (k:=0) hw.1 rfl;have ep:V.zgd .eql (.ptr w.p 0 0) .zkx=some (.bool false):=rfl;have he:zrm s k=w.held:=by simp[zrm,ew]
  rw[he]at hq hlen;simp +contextual -dsimp[e1,el,ep,f1,V.fieldAddr];apply i2;simp -dsimp only[zbk.cps];intro i1 h1;have o1:=(zc5.start h).znq h1 [.mp w.hm];refine zbh ?_;obtain⟨c,g1,g2,g3,g4⟩:=hw.2.1;refine s2 (N 524) [.ptr i1 0 0] _ w.held _ _ (keysS_iter hG i3 (m:=w.hm) g2) (λa b hle ⟨x,y⟩=>⟨hle _ _ x,hle _ _ y⟩) hlen ⟨zbv ..,o1.le _ _ g1⟩ λx' h' L hL hS o=>?_;exact zbh (hq x' h' L hL hS (o.back o1.le))
variable{C:z5}{N:zN}
structure Itm where
 Code:List UInt8
 Life:Int
 Parts:List Part
 Others:List (List UInt8)
 deriving DecidableEq
def zn7(b:Bool)(x:za)(l:List (List UInt8)):Ob:= .sl 1 x (l.map tc) (bif b then zgb else [])
abbrev Key:=List UInt8
abbrev zrg(l:List Key):Prop:=l.Pairwise λa b=>zgg a b=true
theorem riseB_ext{l m:List Key}(s:zrg l)(t:zrg m)(e:∀x,x∈l↔x∈m):l=m:=
 rise_ext (λa b h1 h2=>by rw[zr9 h1]at h2;cases h2) s t e
def zhb:List Key->Key->List Key|[],s=>[s]|x::l,s=>if zgg x s=true then x::zhb l s else if x=s then x::l else s::x::l
theorem zns{s y:Key}:∀{l:List Key},y∈zhb l s↔y=s \/ y∈l
 | []=>by simp[zhb]
 | x::l=>by
  unfold zhb
  split
  ·rw[mem_cons,zns,mem_cons]
   constructor
   ·rintro(h|h|h)
    ·exact .inr (.inl h)
    ·exact .inl h
    ·exact .inr (.inr h)
   ·rintro(h|h|h)
    ·exact .inr (.inl h)
    ·exact .inl h
    ·exact .inr (.inr h)
  ·split
   ·rename_i h
    subst h
    simp only[mem_cons]
    constructor
    ·exact λh=> .inr h
    ·rintro(h|h)
     ·exact .inl h
     ·exact h
   ·simp only[mem_cons]
theorem zqh{s:Key}:∀{l:List Key},zrg l->zrg (zhb l s)
 | [],_=>pairwise_singleton _ _
 | x::l,h=>by
  obtain⟨h1,h2⟩:=pairwise_cons.1 h;unfold zhb;split
  ·rename_i hx
   refine pairwise_cons.2 ⟨λy hy=>?_,zqh h2⟩;rcases zns.1 hy with rfl|hy
   ·exact hx
   ·exact h1 y hy
  ·split
   ·exact h
   ·rename_i h3 h4
    have hs:zgg s x=true:=by
     have:zgg x s=false:=by simpa using h3
     exact lessB_or this h4
    refine pairwise_cons.2 ⟨λy hy=>?_,h⟩;rcases mem_cons.1 hy with rfl|hy
    ·exact hs
    ·exact zkn hs (h1 y hy)
section
variable{I J:List Itm}{all inn:List Key}
end
structure DW where
 Id:Int
 ze0:List Key
 zfn:List Key
 zjc:Int
structure DL where
 L:List DW
 zhz:Int
def zj9(a b:List Key):Bool:= !a.isEmpty&&(!b.isEmpty&&(decide ([42]∈a)||(decide ([42]∈b)||a.any λx=>decide (x∈b))))
def zin(w:DW)(zfb:List Key)(zha:Int):Bool:=zj9 w.ze0 zfb||(decide (0<w.zjc)&&(decide (w.zjc<zha)&&zj9 w.zfn zfb))
def findD:List DW->Int->Option DW|[],_=>none|o::r,k=>if o.Id=k then some o else findD r k
def zlu:List DW->Int->DW->List DW|[],_,w=>[w]|o::r,k,w=>if o.Id=k then w::r else o::zlu r k w
def delD:List DW->Int->List DW|[],_=>[]|o::r,k=>if o.Id=k then r else o::delD r k
def zf2(w:DW)(names:List Key):List Key:=names.foldl (λl n=>if n∉w.ze0 /\ [42]∉w.ze0 then zhb l n else l) w.zfn
def ze1(d:DL)(k:Int):DW:=(findD d.L k).getD ⟨k,[],[],0⟩
def zjd(d:DL)(k:Int):Int:=if (ze1 d k).zjc=0 then d.zhz+1 else (ze1 d k).zjc
def zff(d:DL)(k:Int)(zfb:List Key)(zha:Int):List Int:=(d.L.filter λo=>decide (o.Id≠k)&&zin o zfb zha).map (·.Id)
def zjv(d:DL)(k:Int)(names:List Key):Bool×DL:=
 let w:=ze1 d k
 let zfb:=zf2 w names
 let zha:=zjd d k
 if (zff d k zfb zha).isEmpty then (true,⟨zlu d.L k ⟨k,zfb.foldl zhb w.ze0,[],0⟩,d.zhz⟩)
 else (false,⟨zlu d.L k ⟨k,w.ze0,zfb,zha⟩,max d.zhz zha⟩)
def zpn(d:DL)(k:Int):DL:=⟨delD d.L k,d.zhz⟩
variable{C:z5}{N:zN}
structure SameW(e:Int×Wk×Nat)(d:DW):Prop where
 id:e.1=d.Id
 held:∀x,x∈zcc e.2.1.held↔x∈d.ze0
 zfb:∀x,x∈zcc e.2.1.zfb↔x∈d.zfn
 zha:e.2.1.zha=d.zjc
 riseH:zrg d.ze0
 riseW:zrg d.zfn
inductive zjw:zeo Int Wk->List DW->Prop
 | nil:zjw [] []
 | cons {e:Int×Wk×Nat} {d:DW} {W:zeo Int Wk} {L:List DW}:SameW e d->zjw W L->zjw (e::W) (d::L)
structure Rel(s:Lk)(d:DL):Prop where
 last:s.last=d.zhz
 zgo:zjw s.W d.L
theorem isEmpty_keys{ps:zeo Nam Int}{A:List Key}(h:∀x,x∈zcc ps↔x∈A):ps.isEmpty=A.isEmpty:=by
 cases ps with
 | nil=>cases A with
  | nil=>rfl
  | cons a A=>have:=(h a).2 (mem_cons_self ..);simp[zcc]at this
 | cons p ps=>cases A with
  | nil=>have:=(h p.1).1 (by simp[zcc]);simp at this
  | cons a A=>rfl
theorem meets_eq{a b:zeo Nam Int}{A B:List Key}(ha:∀x,x∈zcc a↔x∈A)(hb:∀x,x∈zcc b↔x∈B):zj8 a b=zj9 A B:=by
 unfold zj8 zj9;rw[isEmpty_keys ha,isEmpty_keys hb,decide_eq_decide.2 (ha [42]),decide_eq_decide.2 (hb [42])];congr 4;rw[Bool.eq_iff_iff,any_eq_true,any_eq_true];constructor
 ·rintro⟨p,hp,h⟩
  exact⟨p.1,(ha _).1 (mem_map.2 ⟨p,hp,rfl⟩),decide_eq_true ((hb _).1 (of_decide_eq_true h))⟩
 ·rintro⟨x,hx,h⟩
  obtain⟨p,hp,rfl⟩:=mem_map.1 ((ha _).2 hx);exact⟨p,hp,decide_eq_true ((hb _).2 (of_decide_eq_true h))⟩
theorem keeps_eq{e:Int×Wk×Nat}{d:DW}(hs:SameW e d){ps:zeo Nam Int}{B:List Key}(hb:∀x,x∈zcc ps↔x∈B)(t:Int):zk1 e.2.1 ps t=zin d B t:=by
 unfold zk1 zin;rw[meets_eq hs.held hb,meets_eq hs.zfb hb,hs.zha]
theorem zjw.get{k:Int}:∀{W:zeo Int Wk}{L:List DW},zjw W L->(zgx W k=none /\ findD L k=none) \/ ∃e d,e∈W /\ d∈L /\ e.1=k /\ zgx W k=some e.2.1 /\ findD L k=some d /\ SameW e d
 | [],[],_=> .inl ⟨rfl,rfl⟩
 | e::W,d::L,.cons h1 h2=>by
  by_cases hk:e.1=k
  ·exact .inr ⟨e,d,mem_cons_self ..,mem_cons_self ..,hk,by simp[zgx,hk],by simp[findD,<-h1.id,hk],h1⟩
  ·have e1:zgx (e::W) k=zgx W k:=by simp[zgx,hk]
   have e2:findD (d::L) k=findD L k:=by simp[findD,<-h1.id,hk]
   rw[e1,e2]
   rcases h2.get (k:=k) with h|⟨e',d',m1,m2,m3⟩
   ·exact .inl h
   ·exact .inr ⟨e',d',mem_cons_of_mem _ m1,mem_cons_of_mem _ m2,m3⟩
theorem zjw.del{k:Int}:∀{W:zeo Int Wk}{L:List DW},zjw W L->zjw (znh W k) (delD L k)
 | [],[],_=> .nil
 | e::W,d::L,.cons h1 h2=>by
  unfold znh delD
  rw[<-h1.id]
  split
  ·exact h2
  ·exact .cons h1 h2.del
theorem zp3{K T:Type}[DecidableEq K](k:K):∀ps:zeo K T,(znh ps k).Sublist ps
 | []=> .slnil
 | p::r=>by
  unfold znh
  split
  ·exact sublist_cons_self ..
  ·exact(zp3 k r).cons_cons _
def Lk.del(s:Lk)(k:Int):Lk:={ s with W:=znh s.W k }
theorem Lk.Ok.del{s:Lk}(hs:s.Ok)(k:Int):(s.del k).Ok:=⟨hs.zsk.del k,nodup_del hs.nodup k,λe he=>hs.zgo e ((zp3 k s.W).subset he),hs.far.sublist ((zp3 k s.W).map _)⟩
theorem flatMap_sub{α β:Type}(f:α->List β){l m:List α}(h:l.Sublist m):(l.flatMap f).Sublist (m.flatMap f):=by
 induction h with
 | slnil=>exact .slnil
 | cons a _ ih=>rw[flatMap_cons];exact ih.trans (sublist_append_right ..)
 | cons_cons a _ ih=>rw[flatMap_cons,flatMap_cons];exact(List.Sublist.refl _).append ih
def ze9.Spec(C:z5)(N:zN):Prop:=∀(h:zb)(Q:zQ),(∀(h':zb)(s:Lk),s.Ok->s.W=[]->s.last=0->zc5 h h' s.obs->Q (.ptr s.l 0 0) h')->C (N 485) [] h Q
theorem ze9.spec(i:ze9.Imp C N):ze9.Spec C N:=by
 intro h Q hq;apply i;simp -dsimp only[ze9.cps];refine(zc5.start h).zky wV pV λm h1 hm o1 hle=>?_;have eb:A.bld [(0,none,.mp m)] [.zo2,.int .i64 0]=some (.agg [.mp m,.int .i64 0]):=rfl;have ec:A.zkf 2 (.agg [.mp m,.int .i64 0])=some [.mp m,.int .i64 0]:=rfl;simp -dsimp only[eb,ec,B.zf];intro l hl;have o2:=o1.znr hl (b:=zdo [.mp m,.int .i64 0]) rfl;refine zbh (hq _ ⟨l,m,0,0,[]⟩ ⟨zfw.nil 0,List.Pairwise.nil,λe he=>absurd he (not_mem_nil),List.Pairwise.nil⟩ rfl rfl ?_);exact o2.perm (List.Perm.swap _ _ _)
theorem zc5.mdel{h0 h:zb}{l:List Ob}{kd:KD}{K T:Type}[DecidableEq K]{κ:K->za}{v:T->za}(ho:zc5 h0 h l)(i:Nat){id c:Nat}{ps:zeo K T}(hi:l[i]?=some (.blk id (ze4 (zib κ v ps) c)))(hκ:KeyE kd κ)(k:K){Q:zQ}(hq:∀h',zc5 h0 h' (l.set i (.blk id (ze4 (zib κ v (znh ps k)) c)))->Q (.tup []) h'):B.mdel h kd (.mp id) (κ k) Q:=objT_blk (ho.at i hi) (fdel_enc hκ k ps c) (hq _ (ho.setBlk i hi rfl))
def zc1.Spec(C:z5)(N:zN):Prop:=∀(h0 h:zb)(s:Lk)(k:Int)(Q:zQ),zc5 h0 h s.obs->s.Ok->(∀h',zc5 h0 h' (s.del k).obs->Q (.tup []) h')->C (N 488) [.ptr s.l 0 0,.int .i64 k] h Q
theorem zc1.spec(i:zc1.Imp C N)(s1:zcw.Spec C N):zc1.Spec C N:=by
 intro h0 h s k Q ho hk hq;have hs:=Lk.at_of ho hk;apply i;have e1:=zeb (k:=0) hs.1 rfl;refine s1 h s _ hs ?_;simp -dsimp only[B.cond_true,B.zb3,V.fieldAddr,Nat.zero_add,B.zf,B.zed,e1];refine ho.mdel (κ:=wV) (v:=pV) 1 rfl keyI k λh' o=>?_;exact zbh (hq h' (o.sub (.cons_cons _ (.cons_cons _ (flatMap_sub _ (zp3 k s.W))))))
variable{C:z5}{N:zN}
def znd(W:zeo Int Wk)(k:Int)(w:Wk):zeo Int Wk:=W.map λe=>if e.1=k then (e.1,w,e.2.2) else e
theorem setW_keys(W:zeo Int Wk)(k:Int)(w:Wk):zcc (znd W k w)=zcc W:=by
 unfold zcc znd;rw[map_map];refine map_congr_left λe he=>?_;show (if e.1=k then (e.1,w,e.2.2) else e).1=e.1;split<;>rfl
theorem zqd(W:zeo Int Wk)(k:Int)(w:Wk):(znd W k w).map (·.2.2)=W.map (·.2.2):=by
 unfold znd;rw[map_map];refine map_congr_left λe he=>?_;show (if e.1=k then (e.1,w,e.2.2) else e).2.2=e.2.2;split<;>rfl
theorem obs_perm{k:Int}{w:Wk}:∀{W:zeo Int Wk},zgx W k=some w->(W.flatMap λe=>e.2.1.obs).Perm (w.obs++(znh W k).flatMap λe=>e.2.1.obs)
 | e::W,h=>by
  unfold zgx at h
  unfold znh
  split at h
  ·rename_i hk
   rw[if_pos hk]
   cases h
   rw[flatMap_cons]
  ·rename_i hk
   rw[if_neg hk,flatMap_cons,flatMap_cons]
   have:=obs_perm h
   refine(this.append_left _).trans ?_
   rw[<-append_assoc,<-append_assoc]
   exact perm_append_comm.append_right _
theorem zpx{k:Int}{w:Wk}{W:zeo Int Wk}(h:k∉zcc W):znd W k w=W:=by
 unfold znd;rw[map_congr_left (g:=id),map_id];intro e he;rw[if_neg]
 ·rfl
 ·intro hk
  exact h (mem_map.2 ⟨e,he,hk⟩)
theorem setW_get{k:Int}{w w':Wk}:∀{W:zeo Int Wk},zgx W k=some w->zgx (znd W k w') k=some w'
 | e::W,h=>by
  unfold zgx at h
  show zgx ((if e.1=k then (e.1,w',e.2.2) else e)::znd W k w') k=some w'
  split at h
  ·rename_i hk
   rw[if_pos hk]
   simp[zgx,hk]
  ·rename_i hk
   rw[if_neg hk]
   simp only[zgx,if_neg hk]
   exact setW_get h
theorem setW_del{k:Int}{w':Wk}:∀{W:zeo Int Wk},(zcc W).Nodup->znh (znd W k w') k=znh W k
 | [],_=>rfl
 | e::W,hn=>by
  show znh ((if e.1=k then (e.1,w',e.2.2) else e)::znd W k w') k=znh (e::W) k
  have hn':e.1∉zcc W /\ (zcc W).Nodup:=nodup_cons.1 hn
  by_cases hk:e.1=k
  ·rw[if_pos hk]
   simp only[znh,hk,if_true]
   exact zpx (by rw[<-hk];exact hn'.1)
  ·rw[if_neg hk]
   simp only[znh,hk,if_false]
   rw[setW_del hn'.2]
theorem setW_enc{k:Int}{w w':Wk}(hp:w'.p=w.p):∀{W:zeo Int Wk},(zcc W).Nodup->zgx W k=some w->zib wV pV (znd W k w')=zib wV pV W
 | e::W,hn,h=>by
  have hn':e.1∉zcc W /\ (zcc W).Nodup:=nodup_cons.1 hn
  show zib wV pV ((if e.1=k then (e.1,w',e.2.2) else e)::znd W k w')=_
  unfold zgx at h
  split at h
  ·rename_i hk
   rw[if_pos hk,zpx (by rw[<-hk];exact hn'.1)]
   cases h
   simp only[zib,map_cons,pV,hp]
  ·rename_i hk
   rw[if_neg hk]
   have:=setW_enc hp hn'.2 h
   simp only[zib,map_cons]at this ⊢
   rw[this]
theorem setW_far{k:Int}{w w':Wk}(hp:w'.p=w.p):∀{W:zeo Int Wk},(zcc W).Nodup->zgx W k=some w->(znd W k w').map (·.2.1.p)=W.map (·.2.1.p)
 | e::W,hn,h=>by
  have hn':e.1∉zcc W /\ (zcc W).Nodup:=nodup_cons.1 hn
  show ((if e.1=k then (e.1,w',e.2.2) else e)::znd W k w').map (·.2.1.p)=_
  unfold zgx at h
  split at h
  ·rename_i hk
   rw[if_pos hk,zpx (by rw[<-hk];exact hn'.1)]
   cases h
   simp only[map_cons,hp]
  ·rename_i hk
   rw[if_neg hk,map_cons,map_cons,setW_far hp hn'.2 h]
theorem mem_setW{k:Int}{w':Wk}{W:zeo Int Wk}{e:Int×Wk×Nat}(he:e∈znd W k w'):e.2.1=w' \/ e∈W:=by
 obtain⟨q,hq,rfl⟩:=mem_map.1 he;split
 ·exact .inl rfl
 ·exact .inr hq
def Lk.put(s:Lk)(k:Int)(w:Wk)(last:Int):Lk:={ s with W:=znd s.W k w,last:=last }
theorem Lk.Ok.put{s:Lk}(hs:s.Ok){k:Int}{w w':Wk}(hw:zgx s.W k=some w)(hp:w'.p=w.p)(hk:w'.Ok)(last:Int):(s.put k w' last).Ok:=by
 refine⟨⟨λe he=>?_,?_⟩,?_,λe he=>?_,?_⟩
 ·have h1:e.2.2∈(znd s.W k w').map (·.2.2):=mem_map.2 ⟨e,he,rfl⟩
  rw[zqd]at h1;obtain⟨q,hq,e1⟩:=mem_map.1 h1;rw[<-e1];exact hs.zsk.1 q hq
 ·show ((znd s.W k w').map (·.2.2)).Nodup
  rw[zqd];exact hs.zsk.2
 ·show (zcc (znd s.W k w')).Nodup
  rw[setW_keys];exact hs.nodup
 ·rcases mem_setW he with h|h
  ·rw[h];exact hk
  ·exact hs.zgo e h
 ·show ((znd s.W k w').map (·.2.1.p)).Nodup
  rw[setW_far hp hs.nodup hw];exact hs.far
def Lk.fore(s:Lk)(k:Int)(w:Wk)(last:Int):List Ob:= .blk s.l (zdo [.mp s.m,.int .i64 last]):: .blk s.m (ze4 (zib wV pV s.W) s.c)::(w.obs++(znh s.W k).flatMap λe=>e.2.1.obs)
theorem Lk.obs_fore{s:Lk}{k:Int}{w:Wk}(hw:zgx s.W k=some w):s.obs.Perm (s.fore k w s.last):=((obs_perm hw).cons _).cons _
theorem Lk.put_fore{s:Lk}(hs:s.Ok){k:Int}{w w':Wk}(hw:zgx s.W k=some w)(hp:w'.p=w.p)(last:Int):(s.put k w' last).obs.Perm (s.fore k w' last):=by
 have h:=Lk.obs_fore (s:=s.put k w' last) (k:=k) (w:=w') (setW_get hw);have e:(s.put k w' last).fore k w' (s.put k w' last).last=s.fore k w' last:=by
  show _::Ob.blk s.m (ze4 (zib wV pV (znd s.W k w')) s.c)::(w'.obs++(znh (znd s.W k w') k).flatMap λe=>e.2.1.obs)=_;rw[setW_enc hp hs.nodup hw,setW_del hs.nodup];rfl
 rw[e]at h;exact h
theorem zov.put{ps:zeo Nam Int}{c:Nat}(h:zov ps c)(k:Nam):zov (zlx ps k 1 c) (clkP ps k c):=by
 refine⟨h.1.put k 1,λp hp=>?_,zlh h.2.2 k 1 c⟩;have h1:=mem_getP (zlh h.2.2 k 1 c) hp;rw[zp2]at h1;split at h1
 ·exact(Option.some.inj h1).symm
 ·obtain⟨n,hn⟩:=zh9 h1
  exact h.2.1 (p.1,p.2.1,n) hn
theorem zo5{ps:zeo Nam Int}{c:Nat}{k x:Nam}:x∈zcc (zlx ps k 1 c)↔x=k \/ x∈zcc ps:=by
 rw[zlj];split
 ·rename_i h
  constructor
  ·exact .inr
  ·rintro(rfl|h1)
   ·exact h
   ·exact h1
 ·rw[mem_append,mem_singleton,or_comm]
variable{C:z5}{N:zN}
abbrev znj(m:Nat)(ps:zeo Nam Int)(c:Nat):Ob:= .blk m (ze4 (zib nV wV ps) c)
def zg.Spec(C:z5)(N:zN):Prop:=∀(h0 h:zb)(a b c d:Nat)(ps qs:zeo Nam Int)(rest:List Ob)(Q:zQ),zc5 h0 h (znj a ps c::znj b qs d::rest)->zov ps c->zov qs d->(∀(h':zb)(ps':zeo Nam Int)(c':Nat),zov ps' c'->(∀x,x∈zcc ps'↔x∈zcc ps \/ x∈zcc qs)->zc5 h0 h' (znj a ps' c'::znj b qs d::rest)->Q (.tup []) h')->C (N 507) [.mp a,.mp b] h Q
theorem zg.spec(i:zg.Imp C N):zg.Spec C N:=by
 intro h0 h a b c d ps qs rest Q ho hps hqs hq;apply i;have ho':zc5 h0 h ([znj b qs d]++(znj a ps c::rest)):=ho.perm (List.Perm.swap _ _ _);obtain⟨o1,o2⟩:=ho'.out;generalize h.zlb (znj a ps c::rest)=h1 at o1 o2;have hb1:h1 b=some (ze4 (zib nV wV qs) d):=o1.at 0 rfl;simp -dsimp only[zg.cps];refine zc5.rangeLoop (κ:=nV) (v:=wV) (ps:=qs) (c:=d) (J:=λD l=>∃ps' c',l=znj a ps' c'::rest /\ zov ps' c' /\ ∀x,x∈zcc ps'↔x∈zcc ps \/ x∈D.map (·.1))
  (REST:=λit v h Y=>B.pv (V.ext 0 v) λv9=>B.cond v9 (B.pv (A.zfm h it) λv10=>B.pv (V.ext 0 v10) λv11=>B.pv (V.ext 1 v10) λv12=>B.mset h .s (.mp a) v11 v12 λh=>Y [] h) (dn Q (.tup []) h)) o2 hb1 hqs.1 ⟨ps,c,rfl,hps,by simp⟩ ?_ ?_ ?_
 ·intro it hh Y hn
  exact hn
 ·rintro it hh D l bb Y ⟨ps',c',rfl,k1,k2⟩ hp o
  simp -dsimp only[V.zg5,getElem?_cons_zero,B.zf,B.cond_false];refine zbh (hq hh ps' c' k1 (λx=>?_) ?_)
  ·rw[k2]
   have:x∈D.map (·.1)↔x∈zcc qs:=(hp.map (·.1)).mem_iff;rw[this]
  ·have o3:zc5 h1 hh (znj a ps' c'::rest):=o.sub (sublist_append_left _ _)
   exact(o1.join o3).perm (List.Perm.swap _ _ _)
 ·rintro it hh D l bb Y p hpm ⟨ps',c',rfl,k1,k2⟩ hsub hpD o he hY
  simp -dsimp only[V.zg5,getElem?_cons_zero,getElem?_cons_succ,B.zf,B.cond_true,he];have e1:p.2.1=1:=hqs.2.1 p hpm;rw[e1];refine o.mset (κ:=nV) (v:=wV) 0 rfl keyS p.1 1 λh' o' _ _=>?_;refine hY h' (znj a (zlx ps' p.1 1 c') (clkP ps' p.1 c')::rest) ⟨_,_,rfl,k1.put p.1,λx=>?_⟩ o';rw[zo5,k2,map_append,mem_append];constructor
  ·rintro(rfl|h|h)
   ·exact .inr (.inr (by simp))
   ·exact .inl h
   ·exact .inr (.inl h)
  ·rintro(h|h|h)
   ·exact .inr (.inl h)
   ·exact .inr (.inr h)
   ·exact .inl (by simpa using h)
theorem far_ne{k:Int}{w:Wk}:∀{W:zeo Int Wk},(zcc W).Nodup->(W.map (·.2.1.p)).Nodup->zgx W k=some w->∀e∈W,(e.2.1.p=w.p↔e.1=k)
 | q::W,hn,hf,h,e,he=>by
  have hn':q.1∉zcc W /\ (zcc W).Nodup:=nodup_cons.1 hn
  have hf':q.2.1.p∉W.map (·.2.1.p) /\ (W.map (·.2.1.p)).Nodup:=nodup_cons.1 hf
  unfold zgx at h
  split at h
  ·rename_i hk
   cases h
   rcases mem_cons.1 he with rfl|he
   ·exact⟨λ_=>hk,λ_=>rfl⟩
   ·constructor
    ·intro e1
     exact absurd (mem_map.2 ⟨e,he,e1⟩) hf'.1
    ·intro e1
     exact absurd (mem_map.2 ⟨e,he,by rw[e1,hk]⟩) hn'.1
  ·rename_i hk
   rcases mem_cons.1 he with rfl|he
   ·constructor
    ·intro e1
     obtain⟨n,hm⟩:=zh9 h
     exact absurd (mem_map.2 ⟨_,hm,e1.symm⟩) hf'.1
    ·intro e1
     exact absurd e1 hk
   ·exact far_ne hn'.2 hf'.2 h e he
theorem zsd{f:Int×Wk×Nat->Bool}{g:DW->Bool}:∀{W:zeo Int Wk}{L:List DW},zjw W L->(∀e d,e∈W->SameW e d->f e=g d)->(W.filter f).map (·.1)=(L.filter g).map (·.Id)
 | [],[],_,_=>rfl
 | e::W,d::L,.cons h1 h2,h=>by
  have e1:=h e d (mem_cons_self ..) h1
  have ih:=zsd h2 λq r hq hr=>h q r (mem_cons_of_mem _ hq) hr
  rw[filter_cons,filter_cons,e1]
  split
  ·rw[map_cons,map_cons,ih,h1.id]
  ·exact ih
theorem kept_rel{W:zeo Int Wk}{L:List DW}(hL:zjw W L)(hn:(zcc W).Nodup)(hf:(W.map (·.2.1.p)).Nodup){k:Int}{w:Wk}(hw:zgx W k=some w){ps:zeo Nam Int}{B:List Key}(hb:∀x,x∈zcc ps↔x∈B)(t:Int):
  (W.filter (zk2 w.p ps t)).map (·.1)=(L.filter λo=>decide (o.Id≠k)&&zin o B t).map (·.Id):=by
 refine zsd hL λe d he hs=>?_;unfold zk2;rw[keeps_eq hs hb,decide_eq_decide.2 (not_congr ((far_ne hn hf hw e he).trans (by rw[hs.id])))]
theorem zjw.set{k:Int}{w w':Wk}{d':DW}(hd:d'.Id=k)(hs:∀n,SameW (k,w',n) d'):∀{W:zeo Int Wk}{L:List DW},zjw W L->(zcc W).Nodup->zgx W k=some w->zjw (znd W k w') (zlu L k d')
 | e::W,d::L,.cons h1 h2,hn,h=>by
  have hn':e.1∉zcc W /\ (zcc W).Nodup:=nodup_cons.1 hn
  show zjw ((if e.1=k then (e.1,w',e.2.2) else e)::znd W k w') _
  unfold zgx at h
  unfold zlu
  rw[<-h1.id]
  split at h
  ·rename_i hk
   rw[if_pos hk,if_pos hk,zpx (by rw[<-hk];exact hn'.1)]
   refine .cons ?_ h2
   rw[hk]
   exact hs _
  ·rename_i hk
   rw[if_neg hk,if_neg hk]
   exact .cons h1 (h2.set hd hs hn'.2 h)
theorem zra{k:Int}{d':DW}(hd:d'.Id=k)(g:DW->Bool):∀{L:List DW}{dd:DW},findD L k=some dd->(L.map (·.Id)).Nodup->((zlu L k d').filter λo=>decide (o.Id≠k)&&g o)=L.filter λo=>decide (o.Id≠k)&&g o
 | o::L,dd,h,hn=>by
  unfold findD at h
  unfold zlu
  split at h
  ·rename_i hk
   rw[if_pos hk,filter_cons,filter_cons]
   simp[hd,hk]
  ·rename_i hk
   rw[if_neg hk,filter_cons,filter_cons,zra hd g h (nodup_cons.1 hn).2]
theorem zjw.ids:∀{W:zeo Int Wk}{L:List DW},zjw W L->L.map (·.Id)=zcc W
 | [],[],_=>rfl
 | e::W,d::L,.cons h1 h2=>by
  rw[map_cons,zkb,h2.ids,h1.id]
theorem zqc(l:List Int):(zhf l).length=l.length:=(zfo l).length_eq
variable{C:z5}{N:zN}
theorem zc5.blkSt{h0 h:zb}{l:List Ob}(ho:zc5 h0 h l)(i:Nat){id off:Nat}{cs:List za}{v:za}{K:zb->Prop}(hi:l[i]?=some (.blk id (zdo cs)))(hv:v.zec=true)(hoff:off<cs.length)
  (hK:∀h',zc5 h0 h' (l.set i (.blk id (zdo (cs.set off v))))->K h'):B.st h (.ptr id 0 off) v K:=by
 show A.st h (.ptr id 0 off) v K;rw[st_at (ho.at i hi) hv hoff];exact hK _ (ho.setBlk i hi rfl)
theorem zmj{x:Key}:∀{B H:List Key},x∈B.foldl zhb H↔x∈H \/ x∈B
 | [],H=>by simp
 | b::B,H=>by
  rw[foldl_cons,zmj,zns,mem_cons]
  constructor
  ·rintro((h|h)|h)
   ·exact .inr (.inl h)
   ·exact .inl h
   ·exact .inr (.inr h)
  ·rintro(h|h|h)
   ·exact .inl (.inr h)
   ·exact .inl (.inl h)
   ·exact .inr h
theorem zle:∀{B H:List Key},zrg H->zrg (B.foldl zhb H)
 | [],H,h=>h
 | b::B,H,h=>by rw[foldl_cons];exact zle (zqh h)
theorem ask_k1{h0 h:zb}{s:Lk}{k:Int}{w:Wk}{ps:zeo Nam Int}{c:Nat}{t:Int}{d:DL}{dd:DW}{Z:List Key}{Q:zQ}(s3:zbg.Spec C N)(s4:zg.Spec C N)
  (hs:s.Ok) (hlen:s.W.length <= 100000) (hw:zgx s.W k=some w) (hps:zov ps c) (ho:zc5 h0 h (s.fore k { w with zfb:=ps,wc:=c } s.last)) (hr:Rel s d) (hd:findD d.L k=some dd) (hsw:∀n,SameW (k,w,n) dd)
  (hB:∀x,x∈zcc ps↔x∈Z) (hRB:zrg Z)
  (hq:∀(h':zb)(s':Lk),s'.Ok->zc5 h0 h' s'.obs->s'.W.length=s.W.length->s'.l=s.l ->
   Rel s' (if (zff d k Z t).isEmpty then ⟨zlu d.L k ⟨k,Z.foldl zhb dd.ze0,[],0⟩,d.zhz⟩ else ⟨zlu d.L k ⟨k,dd.ze0,Z,t⟩,max d.zhz t⟩)->Q (.bool (zff d k Z t).isEmpty) h'):
  zy.k1 C N (dn Q) (.ptr s.l 0 0) (.ptr w.p 0 0) (.int .i64 t) h:=by
 have hwok:w.Ok:=by
  obtain⟨n,hn⟩:=zh9 hw;exact hs.zgo _ hn
 have hok:(s.put k { w with zfb:=ps,wc:=c } s.last).Ok:=hs.put (w':={ w with zfb:=ps,wc:=c }) hw rfl ⟨hwok.held,hps⟩ s.last;have hat:=Lk.at_of (ho.perm (Lk.put_fore hs hw (w':={ w with zfb:=ps,wc:=c }) rfl s.last).symm) hok;have p2:h w.p=some (zdo [.mp w.hm,.mp w.wm,.int .i64 w.zha]):=ho.at 2 rfl;have p4:zpr h w.wm ps:=⟨c,ho.at 4 rfl,hps⟩;have e2:=zeb (k:=1) p2 rfl;simp -dsimp only[zy.k1,B.zb3,V.fieldAddr,Nat.zero_add,B.zf,B.zed,e2]
 have hlen2:(s.put k { w with zfb:=ps,wc:=c } s.last).W.length <= 100000:=by
  show (znd s.W k _).length <= _;unfold znd;rw[length_map];exact hlen
 obtain⟨s2,hs2⟩:∃x,x=s.put k { w with zfb:=ps,wc:=c } s.last:=⟨_,rfl⟩;have l2:s2.l=s.l:=by rw[hs2];rfl
 rw[<-hs2]at hat hok hlen2;have r3:=λQ=>s3 h s2 w.p w.wm _ ps t Q hat hok hlen2 p2 p4;rw[l2]at r3;refine r3 _ λx' h1 ox=>?_;have hle:h.le h1:=ox.le;have hx:=(ox.zkj 0 rfl).zde;have hk2:(s2.W.filter (zk2 w.p ps t)).map (·.1)=zff d k Z t:=by
  have hsl:zjw s2.W (zlu d.L k ⟨k,dd.ze0,Z,dd.zjc⟩):=by
   rw[hs2];exact hr.zgo.set (w':={ w with zfb:=ps,wc:=c }) (d':=⟨k,dd.ze0,Z,dd.zjc⟩) rfl (λn=>⟨rfl,(hsw n).held,hB,(hsw n).zha,(hsw n).riseH,hRB⟩) hs.nodup hw
  have hg:zgx s2.W k=some { w with zfb:=ps,wc:=c }:=by rw[hs2];exact setW_get hw
  have h5:=kept_rel hsl hok.nodup hok.far hg hB t;rw[zra (k:=k) (d':=⟨k,dd.ze0,Z,dd.zjc⟩) rfl _ hd (by rw[hr.zgo.ids];exact hs.nodup)]at h5;exact h5
 have hkl:keptL s2 w.p ps t=zhf (zff d k Z t):=by unfold keptL;rw[hk2]
 rw[hkl,length_map,zqc]at hx;have o1:=ho.grow hle;simp -dsimp only[hx,B.zf,V.zm9];refine B.zbd (λhc=>?_) (λhc=>?_)
 ·have hne:(zff d k Z t).isEmpty=false:=by
   rw[decide_eq_true_eq]at hc;cases hl:zff d k Z t with
   | nil=>rw[hl]at hc;simp at hc
   | cons _ _=>rfl
  rw[hne]at hq;have q0:h1 s.l=some (zdo [.mp s.m,.int .i64 s.last]):=o1.at 0 rfl;have f0:=zeb (k:=1) q0 rfl;simp -dsimp only[B.zb3,V.fieldAddr,Nat.zero_add,B.zed,f0,B.zf,V.max2_int];refine o1.blkSt 2 rfl rfl (by simp) λh2 o2=>?_;simp -dsimp only[B.zb3,V.fieldAddr,Nat.zero_add,B.zf];refine o2.blkSt 0 rfl rfl (by simp) λh3 o3=>?_;have o3':zc5 h0 h3 (s.fore k { w with zfb:=ps,wc:=c,zha:=t } (max s.last t)):=o3;refine zbh (hq h3 (s.put k { w with zfb:=ps,wc:=c,zha:=t } (max s.last t)) (hs.put (w':={ w with zfb:=ps,wc:=c,zha:=t }) hw rfl ⟨hwok.held,hps⟩ _) (o3'.perm (Lk.put_fore (w':={ w with zfb:=ps,wc:=c,zha:=t }) hs hw rfl _).symm) ?_ rfl ⟨by rw[hr.last];rfl,?_⟩)
  ·show (znd s.W k _).length=_
   unfold znd;rw[length_map]
  ·exact hr.zgo.set (w':={ w with zfb:=ps,wc:=c,zha:=t }) (d':=⟨k,dd.ze0,Z,t⟩) rfl (λn=>⟨rfl,(hsw n).held,hB,rfl,(hsw n).riseH,hRB⟩) hs.nodup hw
 ·have hne:(zff d k Z t).isEmpty=true:=by
   rw[decide_eq_false_iff_not]at hc;cases hl:zff d k Z t with
   | nil=>rfl
   | cons _ _=>rw[hl]at hc;simp at hc
  rw[hne]at hq;have q2:h1 w.p=some (zdo [.mp w.hm,.mp w.wm,.int .i64 w.zha]):=o1.at 2 rfl;have f0:=zeb (k:=0) q2 rfl;have f1:=zeb (k:=1) q2 rfl;simp -dsimp only[B.zb3,V.fieldAddr,Nat.zero_add,B.zed,f0,f1,B.zf];have o2:zc5 h0 h1 (znj w.hm w.held w.hc::znj w.wm ps c::[.blk s.l (zdo [.mp s.m,.int .i64 s.last]),.blk s.m (ze4 (zib wV pV s.W) s.c),.blk w.p (zdo [.mp w.hm,.mp w.wm,.int .i64 w.zha])]++(znh s.W k).flatMap λe=>e.2.1.obs):=o1.perm (by
   show List.Perm ([_,_,_]++([znj w.hm w.held w.hc,znj w.wm ps c]++_)) ([znj w.hm w.held w.hc,znj w.wm ps c]++([_,_,_]++_));rw[<-append_assoc,<-append_assoc];exact perm_append_comm.append_right _)
  refine s4 h0 h1 w.hm w.wm w.hc c w.held ps _ _ o2 hwok.held hps λh2 ps' c' k1 k2 o3=>?_;refine o3.zky nV wV λm2 h3 hm o4 hle3=>?_;simp -dsimp only[B.zb3,V.fieldAddr,Nat.zero_add,B.zf];refine o4.blkSt 4 rfl rfl (by simp) λh4 o5=>?_;simp -dsimp only[B.zb3,V.fieldAddr,Nat.zero_add,B.zf];refine o5.blkSt 4 rfl rfl (by simp) λh5 o6=>?_;have o7:zc5 h0 h5 (znj w.hm ps' c':: .blk s.l (zdo [.mp s.m,.int .i64 s.last]):: .blk s.m (ze4 (zib wV pV s.W) s.c):: .blk w.p (zdo [.mp w.hm,.mp m2,.int .i64 0])::(((znh s.W k).flatMap λe=>e.2.1.obs)++[znj m2 [] 0])):=o6.sub (.cons_cons _ (.cons _ (List.Sublist.refl _)))
  have o8:zc5 h0 h5 (s.fore k { w with held:=ps',hc:=c',wm:=m2,zfb:=[],wc:=0,zha:=0 } s.last):=o7.perm (by
   show List.Perm ([znj w.hm ps' c']++([_,_,_]++(_++[znj m2 [] 0]))) ([_,_,_]++([znj w.hm ps' c']++([znj m2 [] 0]++_)));refine((perm_append_comm (l₁:=(znh s.W k).flatMap λe=>e.2.1.obs) (l₂:=[znj m2 [] 0])).append_left _ |>.append_left _).trans ?_;exact perm_append_comm_assoc _ _ _)
  have hnil:zov [] 0:=⟨zfw.nil 0,λp hp=>absurd hp (not_mem_nil),List.Pairwise.nil⟩;refine zbh (hq h5 (s.put k { w with held:=ps',hc:=c',wm:=m2,zfb:=[],wc:=0,zha:=0 } s.last) (hs.put (w':={ w with held:=ps',hc:=c',wm:=m2,zfb:=[],wc:=0,zha:=0 }) hw rfl ⟨k1,hnil⟩ _) (o8.perm (Lk.put_fore (w':={ w with held:=ps',hc:=c',wm:=m2,zfb:=[],wc:=0,zha:=0 }) hs hw rfl _).symm) ?_ rfl ⟨hr.last,?_⟩)
  ·show (znd s.W k _).length=_
   unfold znd;rw[length_map]
  ·refine hr.zgo.set (w':={ w with held:=ps',hc:=c',wm:=m2,zfb:=[],wc:=0,zha:=0 }) (d':=⟨k,Z.foldl zhb dd.ze0,[],0⟩) rfl (λn=>⟨rfl,λx=>?_,λx=>?_,rfl,zle (hsw n).riseH,List.Pairwise.nil⟩) hs.nodup hw
   ·rw[zmj,<-(hsw n).held x,<-hB x]
    exact k2 x
   ·exact Iff.rfl
variable{C:z5}{N:zN}
theorem zrw(w:DW)(names:List Key){i:Nat}(h:i<names.length):zf2 w (names.take (i+1))=if names[i]∉w.ze0 /\ [42]∉w.ze0 then zhb (zf2 w (names.take i)) names[i] else zf2 w (names.take i):=by
 unfold zf2;rw[take_add_one,getElem?_eq_getElem h,foldl_append];rfl
theorem wantD_rise{w:DW}(hr:zrg w.zfn)(names:List Key):zrg (zf2 w names):=by
 unfold zf2;generalize w.zfn=l at hr
 induction names generalizing l with
 | nil=>exact hr
 | cons n r ih=>
  rw[foldl_cons];refine ih _ ?_;split
  ·exact zqh hr
  ·exact hr
theorem ask_loop{h0 h:zb}{s:Lk}{k:Int}{w:Wk}{d:DL}{dd:DW}{names:List Key}{x:za}{R:List (List za)}{Q:zQ}(s2:zb5.Spec C N)(s3:zbg.Spec C N)(s4:zg.Spec C N)
  (hs:s.Ok) (hlen:s.W.length <= 100000) (hw:zgx s.W k=some w) (ho:zc5 h0 h s.obs) (hr:Rel s d) (hd:findD d.L k=some dd) (hsw:∀n,SameW (k,w,n) dd) (hx:SlX h0 1 x (names.map tc) R) (hn:names.length <= 100000) (hl1: -1000000000 <= s.last) (hl2:s.last <= 1000000000)
  (hq:∀(h':zb)(s':Lk),s'.Ok->zc5 h0 h' s'.obs->s'.W.length=s.W.length->s'.l=s.l->Rel s' (zjv d k names).2->Q (.bool (zjv d k names).1) h'):
  z3 (zy.l4 C N (dn Q) (.ptr s.l 0 0) (.ptr w.p 0 0) x (.int .i64 (names.length:Int))) [(.int .i64 0)] h:=by
 have hwok:w.Ok:=by
  obtain⟨n,hn⟩:=zh9 hw;exact hs.zgo _ hn
 have hwD:ze1 d k=dd:=by simp[ze1,hd]
 refine z3.intro (λt vs hh=>∃(i:Nat)(ps:zeo Nam Int)(c:Nat),i+t=names.length /\ vs=[.int .i64 (i:Int)] /\ zov ps c /\ (∀y,y∈zcc ps↔y∈zf2 dd (names.take i)) /\ zc5 h0 hh (s.fore k { w with zfb:=ps,wc:=c } s.last)) names.length ?_
  ⟨0,w.zfb,w.wc,by omega,rfl,hwok.zfb,(hsw 0).zfb,ho.perm (Lk.obs_fore hw)⟩
 rintro Y t vs hh ⟨i,ps,c,hit,rfl,hps,hmem,o⟩ hY;have p2:hh w.p=some (zdo [.mp w.hm,.mp w.wm,.int .i64 w.zha]):=o.at 2 rfl;have p3:zpr hh w.hm w.held:=⟨w.hc,o.at 3 rfl,hwok.held⟩;have e0:=zeb (k:=0) p2 rfl;have e1:=zeb (k:=1) p2 rfl;have e2:=zeb (k:=2) p2 rfl;have hxx:=hx.mono o.le;simp -dsimp only[zy.l4,zy.k3,V.zev,B.zf];refine B.zbd (λhc=>?_) (λhc=>?_)
 ·have hi:i<names.length:=by have:=of_decide_eq_true hc;omega
  have g1:(names.map tc)[i]?=some (tc names[i]):=by rw[getElem?_map,getElem?_eq_getElem hi];rfl
  have i1:V.zc9 1 x (.int .i64 (i:Int))=some (elp 1 x i 0):=hxx.znf (by simpa using hi);have c1:A.ldv hh (elp 1 x i 0)=some (.str names[i]):=hxx.cell g1;simp -dsimp only[B.zb3,V.fieldAddr,Nat.zero_add,B.zed,i1,c1,e0,B.zf];refine s2 hh w.hm w.held names[i] _ p3 ?_;simp +contextual -dsimp[e0,V.fieldAddr];refine B.gdb_call (λ_ _ hq=>s2 hh w.hm w.held [42] _ p3 hq) ?_;simp +contextual -dsimp[V.fieldAddr];have hh1:=(hsw 0).held names[i];have hh2:=(hsw 0).held [42];refine B.zbd (λhd=>?_) (λhd=>?_)
  ·have hcond:names[i]∉dd.ze0 /\ [42]∉dd.ze0:=by
    simp at hd;exact⟨λh=>hd.1 (hh1.2 h),λh=>hd.2 (hh2.2 h)⟩
   simp -dsimp only[B.zb3,V.fieldAddr,Nat.zero_add,B.zed,e1,B.zf];refine o.mset (κ:=nV) (v:=wV) 4 rfl keyS names[i] 1 λh' o' _ _=>?_;simp -dsimp only[zgr (show i<4611686018427387904 by omega),B.zf];refine hY (t-1) _ _ (by omega) ⟨i+1,zlx ps names[i] 1 c,clkP ps names[i] c,by omega,rfl,hps.put _,λy=>?_,o'⟩;rw[zrw dd names hi,if_pos hcond,zo5,zns,hmem]
  ·have hcond:¬ (names[i]∉dd.ze0 /\ [42]∉dd.ze0):=by
    rintro⟨h1,h2⟩;have q1:names[i]∉zcc w.held:=λh=>h1 (hh1.1 h);have q2:[42]∉zcc w.held:=λh=>h2 (hh2.1 h);simp[q1,q2]at hd
   simp -dsimp only[zgr (show i<4611686018427387904 by omega),B.zf];refine hY (t-1) _ _ (by omega) ⟨i+1,ps,c,by omega,rfl,hps,λy=>?_,o⟩;rw[zrw dd names hi,if_neg hcond,hmem]
 ·have hi:i=names.length:=by have:=of_decide_eq_false hc;omega
  rw[hi,take_length]at hmem;simp -dsimp only[B.zb3,V.fieldAddr,Nat.zero_add,B.zed,e2,B.zf,zy.k2];have hfin:∀u,zjd d k=u->zy.k1 C N (dn Q) (.ptr s.l 0 0) (.ptr w.p 0 0) (.int .i64 u) hh:=λu hu=>by
   refine ask_k1 s3 s4 hs hlen hw hps o hr hd hsw hmem (wantD_rise (hsw 0).riseW names) λh' s' k1 k2 k3 k4 k5=>?_
   have ha:zjv d k names=(if (zff d k (zf2 dd names) u).isEmpty then (true,⟨zlu d.L k ⟨k,(zf2 dd names).foldl zhb dd.ze0,[],0⟩,d.zhz⟩) else (false,⟨zlu d.L k ⟨k,dd.ze0,zf2 dd names,u⟩,max d.zhz u⟩)):=by
    unfold zjv;rw[hwD,hu]
   rw[ha]at hq;cases hb:(zff d k (zf2 dd names) u).isEmpty with
   | true=>
    rw[hb]at hq k5;exact hq h' s' k1 k2 k3 k4 k5
   | false=>
    rw[hb]at hq k5;exact hq h' s' k1 k2 k3 k4 k5
  have ht:=(hsw 0).zha;have ee:V.bin .eql (.int .i64 w.zha) (.int .i64 0)=some (.bool (decide (w.zha=0))):=by simp
  simp -dsimp only[ee,B.zf];refine B.zbd (λhc=>?_) (λhc=>?_)
  ·have hc:=of_decide_eq_true hc
   have q0:hh s.l=some (zdo [.mp s.m,.int .i64 s.last]):=o.at 0 rfl;have f0:=zeb (k:=1) q0 rfl;have ea:V.bin .add (.int .i64 s.last) (.int .i64 1)=some (.int .i64 (s.last+1)):=by rw[V.zh7,wrap_i64 (by omega) (by omega)]
   simp -dsimp only[B.zb3,V.fieldAddr,Nat.zero_add,B.zed,f0,ea,B.zf];refine hfin _ ?_;unfold zjd;rw[hwD,if_pos (by rw[<-ht];exact hc),hr.last]
  ·have hc:=of_decide_eq_false hc
   refine hfin _ ?_;unfold zjd;rw[hwD,if_neg (by rw[<-ht];exact hc)];exact ht.symm
variable{C:z5}{N:zN}
theorem zq9{k:Int}{w:DW}(hw:w.Id=k):∀{L:List DW},findD L k=none->findD (L++[w]) k=some w
 | [],_=>by simp[findD,hw]
 | o::L,h=>by
  unfold findD at h
  split at h
  ·cases h
  ·rename_i hk
   show findD (o::(L++[w])) k=some w
   unfold findD
   rw[if_neg hk]
   exact zq9 hw h
theorem setD_app{k:Int}{w w':DW}(hw:w.Id=k):∀{L:List DW},findD L k=none->zlu (L++[w]) k w'=zlu L k w'
 | [],_=>by simp[zlu,hw]
 | o::L,h=>by
  unfold findD at h
  split at h
  ·cases h
  ·rename_i hk
   show zlu (o::(L++[w])) k w'=zlu (o::L) k w'
   unfold zlu
   rw[if_neg hk,if_neg hk,setD_app hw h]
theorem askD_new{d:DL}{k:Int}(names:List Key)(h:findD d.L k=none):zjv ⟨d.L++[⟨k,[],[],0⟩],d.zhz⟩ k names=zjv d k names:=by
 have h1:=zq9 (w:=⟨k,[],[],0⟩) rfl h;have hw:ze1 ⟨d.L++[⟨k,[],[],0⟩],d.zhz⟩ k=ze1 d k:=by simp[ze1,h,h1]
 have ht:zjd ⟨d.L++[⟨k,[],[],0⟩],d.zhz⟩ k=zjd d k:=by unfold zjd;rw[hw]
 have hk:∀w t,zff ⟨d.L++[⟨k,[],[],0⟩],d.zhz⟩ k w t=zff d k w t:=λw t=>by
  unfold zff;rw[filter_append];simp
 unfold zjv;rw[hw,ht];simp only[hk];rw[setD_app rfl h,setD_app rfl h]
theorem zjw.app{e:Int×Wk×Nat}{w:DW}(hs:SameW e w):∀{W:zeo Int Wk}{L:List DW},zjw W L->zjw (W++[e]) (L++[w])|[],[],_=> .cons hs .nil|e'::W,d::L,.cons h1 h2=> .cons h1 (h2.app hs)
theorem putP_none{k:Int}{w:Wk}{c:Nat}:∀{W:zeo Int Wk},zgx W k=none->zlx W k w c=W++[(k,w,c)]
 | [],_=>rfl
 | e::W,h=>by
  unfold zgx at h
  split at h
  ·cases h
  ·rename_i hk
   unfold zlx
   rw[if_neg hk,putP_none h]
   rfl
def zy.Spec(C:z5)(N:zN):Prop:=∀(h0 h:zb)(s:Lk)(d:DL)(k:Int)(names:List Key)(x:za)(R:List (List za))(Q:zQ),zc5 h0 h s.obs->s.Ok->Rel s d->s.W.length<100000->SlX h0 1 x (names.map tc) R->names.length <= 100000-> -1000000000 <= s.last->s.last <= 1000000000->(∀(h':zb)(s':Lk),s'.Ok->zc5 h0 h' s'.obs->s'.W.length <= s.W.length+1->s'.l=s.l->Rel s' (zjv d k names).2->Q (.bool (zjv d k names).1) h')->C (N 489) [.ptr s.l 0 0,.int .i64 k,x] h Q
theorem zy.spec(i:zy.Imp C N)(s1:zcw.Spec C N)(s2:zb5.Spec C N)(s3:zbg.Spec C N)(s4:zg.Spec C N):zy.Spec C N:=by
 intro h0 h s d k names x R Q ho hk hr hlen hx hn hl1 hl2 hq;have hs:=Lk.at_of ho hk;apply i;have e1:=zeb (k:=0) hs.1 rfl;have el:=lkpW hs.2.1 k;refine s1 h s _ hs ?_;simp -dsimp only[V.zfk,Bool.not_true,B.zf,B.cond_false,zy.k6,B.zb3,V.fieldAddr,Nat.zero_add,B.zed,e1];have hxl:=fun{hh:zb}(hle:h0.le hh)=>(hx.mono hle).zde;rw[length_map]at hxl;rcases hr.zgo.get (k:=k) with⟨w1,w2⟩|⟨e,dd,m1,m2,m3,w1,w2,hsw⟩
 ·rw[w1]at el
  have ep:V.zgd .eql .zkx .zkx=some (.bool true):=rfl;simp -dsimp only[el,B.zf,zy.k5,ep,B.cond_true];refine ho.zky nV wV λhm h1 f1 o1 l1=>?_;refine o1.zky nV wV λwm h2 f2 o2 l2=>?_;have eb:A.bld [(0,none,.mp hm),(1,none,.mp wm)] [.zo2,.zo2,.int .i64 0]=some (.agg [.mp hm,.mp wm,.int .i64 0]):=rfl;have ec:A.zkf 3 (.agg [.mp hm,.mp wm,.int .i64 0])=some [.mp hm,.mp wm,.int .i64 0]:=rfl;simp -dsimp only[eb,ec,B.zf];intro p hp;have o3:=o2.znr hp (b:=zdo [.mp hm,.mp wm,.int .i64 0]) rfl;have q0:upd h2 p (zdo [.mp hm,.mp wm,.int .i64 0]) s.l=some (zdo [.mp s.m,.int .i64 s.last]):=o3.at 0 rfl;have f0:=zeb (k:=0) q0 rfl;simp -dsimp only[B.zb3,V.fieldAddr,Nat.zero_add,B.zed,f0,B.zf];refine o3.mset (κ:=wV) (v:=pV) 1 rfl keyI k ⟨p,hm,wm,0,0,[],[],0⟩ λh4 o4 _ _=>?_;simp -dsimp only[hxl o4.le,B.zf];have hput:zlx s.W k ⟨p,hm,wm,0,0,[],[],0⟩ s.c=s.W++[(k,⟨p,hm,wm,0,0,[],[],0⟩,s.c)]:=putP_none w1;have hnil:zov [] 0:=⟨zfw.nil 0,λp hp=>absurd hp (not_mem_nil),List.Pairwise.nil⟩;obtain⟨s5,hs5⟩:∃s5:Lk,s5={ s with W:=zlx s.W k ⟨p,hm,wm,0,0,[],[],0⟩ s.c,c:=clkP s.W k s.c }:=⟨_,rfl⟩;have hW5:s5.W=s.W++[(k,⟨p,hm,wm,0,0,[],[],0⟩,s.c)]:=by rw[hs5];exact hput
  have o5:zc5 h0 h4 s5.obs:=o4.perm (by
   have e5:s5.obs=[.blk s.l (zdo [.mp s.m,.int .i64 s.last]),.blk s.m (ze4 (zib wV pV (zlx s.W k ⟨p,hm,wm,0,0,[],[],0⟩ s.c)) (clkP s.W k s.c))]++((s.W.flatMap λe=>e.2.1.obs)++[.blk p (zdo [.mp hm,.mp wm,.int .i64 0]),znj hm [] 0,znj wm [] 0]):=by
    unfold Lk.obs;rw[hW5,flatMap_append];rw[hs5,hput];rfl
   rw[e5];show List.Perm ([_,_]++((((s.W.flatMap λe=>e.2.1.obs)++[znj hm [] 0])++[znj wm [] 0])++[.blk p (zdo [.mp hm,.mp wm,.int .i64 0])])) _;refine List.Perm.append_left _ ?_;rw[append_assoc,append_assoc];refine List.Perm.append_left _ ?_;exact perm_append_comm (l₁:=[znj hm [] 0,znj wm [] 0]) (l₂:=[.blk p (zdo [.mp hm,.mp wm,.int .i64 0])]))
  have k5:s5.Ok:=by
   refine⟨?_,?_,?_,?_⟩
   ·rw[hs5];exact hk.zsk.put k _
   ·rw[hs5];exact zlh hk.nodup k _ _
   ·intro e he
    rw[hW5]at he;rcases mem_append.1 he with he|he
    ·exact hk.zgo e he
    ·rw[mem_singleton.1 he];exact⟨hnil,hnil⟩
   ·rw[hW5,map_append,nodup_append]
    refine⟨hk.far,by simp,λa ha b hb=>?_⟩;obtain⟨e,he,rfl⟩:=mem_map.1 ha;have hb:b=p:=by simpa using hb
    rw[hb];intro hab;have h7:=(zb.le_trans l1 l2) _ _ (hs.2.2 e he).1;rw[hab,hp]at h7;cases h7
  have r5:Rel s5 ⟨d.L++[⟨k,[],[],0⟩],d.zhz⟩:=⟨by rw[hs5];exact hr.last,by
   rw[hW5];exact hr.zgo.app ⟨rfl,λx=>Iff.rfl,λx=>Iff.rfl,rfl,List.Pairwise.nil,List.Pairwise.nil⟩⟩
  have g5:zgx s5.W k=some ⟨p,hm,wm,0,0,[],[],0⟩:=by rw[hs5];show zgx (zlx _ _ _ _) k=_;rw[zp2,if_pos rfl]
  have l5:s5.l=s.l:=by rw[hs5]
  have n5:s5.W.length=s.W.length+1:=by rw[hW5];simp
  have a5:s5.last=s.last:=by rw[hs5]
  have:=ask_loop (x:=x) (names:=names) (Q:=Q) s2 s3 s4 k5 (by omega) g5 o5 r5 (zq9 rfl w2) (λn=>⟨rfl,λx=>Iff.rfl,λx=>Iff.rfl,rfl,List.Pairwise.nil,List.Pairwise.nil⟩) hx hn (by omega) (by omega) λh' s' q1 q2 q3 q4 q5=>by
   rw[askD_new names w2]at q5 ⊢;exact hq h' s' q1 q2 (by omega) (by rw[q4,l5]) q5
  rw[l5]at this;exact this
 ·rw[w1]at el
  have ep:V.zgd .eql (.ptr e.2.1.p 0 0) .zkx=some (.bool false):=rfl;simp -dsimp only[el,B.zf,zy.k5,ep,B.cond_false,hxl ho.le];exact ask_loop s2 s3 s4 hk (by omega) w1 ho hr w2 (λn=>⟨by rw[<-m3];exact hsw.id,hsw.held,hsw.zfb,hsw.zha,hsw.riseH,hsw.riseW⟩) hx hn hl1 hl2 λh' s' q1 q2 q3 q4 q5=>hq h' s' q1 q2 (by omega) q4 q5
variable{C:z5}{N:zN}
def SetI(ps:zeo Int Int)(c:Nat):Prop:=zfw ps c /\ (∀p∈ps,p.2.1=1) /\ (zcc ps).Nodup
abbrev zqe(m:Nat)(ps:zeo Int Int)(c:Nat):Ob:= .blk m (ze4 (zib wV wV ps) c)
theorem SetI.put{ps:zeo Int Int}{c:Nat}(h:SetI ps c)(k:Int):SetI (zlx ps k 1 c) (clkP ps k c):=by
 refine⟨h.1.put k 1,λp hp=>?_,zlh h.2.2 k 1 c⟩;have h1:=mem_getP (zlh h.2.2 k 1 c) hp;rw[zp2]at h1;split at h1
 ·exact(Option.some.inj h1).symm
 ·obtain⟨n,hn⟩:=zh9 h1
  exact h.2.1 (p.1,p.2.1,n) hn
theorem zhk{ps:zeo Int Int}{c:Nat}{k x:Int}:x∈zcc (zlx ps k 1 c)↔x=k \/ x∈zcc ps:=by
 rw[zlj];split
 ·rename_i h
  constructor
  ·exact .inr
  ·rintro(rfl|h1)
   ·exact h
   ·exact h1
 ·rw[mem_append,mem_singleton,or_comm]
theorem onesI_get{ps:zeo Int Int}(h1:∀p∈ps,p.2.1=1)(k:Int):decide (0<(zgx ps k).getD 0)=decide (k∈zcc ps):=by
 cases e:zgx ps k with
 | none=>have:=zq5.1 e;simp[this]
 | some v=>
  obtain⟨n,hn⟩:=zh9 e;have:=h1 _ hn;have hk:k∈zcc ps:=mem_map.2 ⟨_,hn,rfl⟩;simp at this;simp[hk,this]
def zb6.Spec(C:z5)(N:zN):Prop:=∀(h:zb)(m c:Nat)(ps:zeo Int Int)(k:Int)(Q:zQ),h m=some (ze4 (zib wV wV ps) c)->SetI ps c->Q (.bool (decide (k∈zcc ps))) h->C (N 513) [.mp m,.int .i64 k] h Q
theorem zb6.spec(i:zb6.Imp C N):zb6.Spec C N:=by
 intro h m c ps k Q h1 hs hq;apply i;have e:A.lkp h (some .i) (some (.int .i64 0)) false (.mp m) (.int .i64 k)=some (.int .i64 ((zgx ps k).getD 0)):=lkp_blk (v:=wV) keyI h1 0 k false;simp -dsimp only[zb6.cps,e,B.zf,V.zm9];rw[onesI_get hs.2.1];exact zbh hq
inductive Reach(s:Lk)(a:Int):Int->Prop
 | one {b:Int}:b∈zes s a->Reach s a b
 | more {b c:Int}:Reach s a b->c∈zes s b->Reach s a c
theorem Reach.first{s:Lk}{a b c:Int}(h:b∈zes s a)(hr:Reach s b c):Reach s a c:=by
 induction hr with
 | one h1=>exact .more (.one h) h1
 | more _ h2 ih=>exact .more ih h2
theorem waits_known{s:Lk}{a b:Int}(h:b∈zes s a):b∈zcc s.W:=by
 unfold zes at h;split at h
 ·cases h
 ·split at h
  ·cases h
  ·unfold keptL at h
   have h1:=(zfo _).mem_iff.1 h;obtain⟨e,he,rfl⟩:=mem_map.1 h1;exact mem_map.2 ⟨e,(mem_filter.1 he).1,rfl⟩
structure Looked(s:Lk)(a:Int)(S S':List Int):Prop where
 sub:∀x∈S,x∈S'
 near:∀x∈zes s a,x∈S'
 closed:∀x∈S',x∉S->∀y∈zes s x,y∈S'
 reach:∀x∈S',x∉S->Reach s a x
 known:∀x∈S',x∈zcc s.W
def lookAt(C:z5)(N:zN)(n:Nat):Prop:=∀(h0 h:zb)(s:Lk)(m c i2 i5 i6:Nat)(ps:zeo Int Int)(a:Int)(Q:zQ),s.At h0->s.Ok->s.W.length <= 100000->h0 i2=some (zdo [.ptr s.l 0 0])->h0 i5=some (zdo [.mp m])->h0 i6=some (zdo [.fn (N 526) [] [.ptr i2 0 0,.ptr i5 0 0,.ptr i6 0 0]])->zc5 h0 h [zqe m ps c]->SetI ps c->(∀x∈zcc ps,x∈zcc s.W)->s.W.length <= ps.length+n->(∀(h':zb)(ps':zeo Int Int)(c':Nat),zc5 h0 h' [zqe m ps' c']->SetI ps' c'->Looked s a (zcc ps) (zcc ps')->Q (.tup []) h')->C (N 526) [.int .i64 a,.ptr i2 0 0,.ptr i5 0 0,.ptr i6 0 0] h Q
theorem zbj.look(i:zbj.Imp C N)(s1:zco.Spec C N)(s2:zb6.Spec C N):∀n,lookAt C N n:=by
 intro n
 induction n using Nat.strongRecOn with
 | ind n ih=>
  intro h0 h s m c i2 i5 i6 ps a Q hs hk hlen b2 b5 b6 ho hps hkn hm hq;apply i;have e2:=zeb (k:=0) (ho.le _ _ b2) rfl;simp -dsimp only[zbj.cps,zbj.k3,B.zed,e2,B.zf];refine s1 h s a _ (hs.mono ho.le) hk hlen λx' h1 ox=>?_;have hx:=(ox.zkj 0 rfl).zde;rw[length_map]at hx;have o1:zc5 h0 h1 [zqe m ps c,.sl 1 x' ((zes s a).map icl) []]:=ho.join ox;simp -dsimp only[hx,B.zf];have hwl:(zes s a).length <= 100000:=by
   unfold zes;split
   ·simp
   ·split
    ·simp
    ·unfold keptL
     rw[zqc,length_map];exact Nat.le_trans (length_filter_le _ _) hlen
  refine z3.intro (λt vs hh=>∃(j:Nat)(qs:zeo Int Int)(d:Nat),j+t=(zes s a).length /\ vs=[.int .i64 (j:Int)] /\ SetI qs d /\ zc5 h0 hh [zqe m qs d,.sl 1 x' ((zes s a).map icl) []] /\ ps.length <= qs.length /\ (∀x∈zcc ps,x∈zcc qs) /\ (∀x∈(zes s a).take j,x∈zcc qs) /\
   (∀x∈zcc qs,x∉zcc ps->∀y∈zes s x,y∈zcc qs) /\ (∀x∈zcc qs,x∉zcc ps->Reach s a x) /\ (∀x∈zcc qs,x∈zcc s.W)) (zes s a).length ?_
   ⟨0,ps,c,by omega,rfl,hps,o1,Nat.le_refl _,λx hx=>hx,by simp,λx h1 h2=>absurd h1 h2,λx h1 h2=>absurd h1 h2,hkn⟩
  rintro Y t vs hh ⟨j,qs,d,hjt,rfl,hqs,o,hql,hsub,htake,hcl,hre,hkq⟩ hY;have e5:=zeb (k:=0) (o.le _ _ b5) rfl;have e6:=zeb (k:=0) (o.le _ _ b6) rfl;simp -dsimp only[zbj.l2,zbj.k1,V.zev,B.zf];refine B.zbd (λhc=>?_) (λhc=>?_)
  ·have hj:j<(zes s a).length:=by have:=of_decide_eq_true hc;omega
   have hxx:=o.zkj 1 rfl;have g1:((zes s a).map icl)[j]?=some (icl (zes s a)[j]):=by rw[getElem?_map,getElem?_eq_getElem hj];rfl
   have i1:V.zc9 1 x' (.int .i64 (j:Int))=some (elp 1 x' j 0):=hxx.znf (by simpa using hj);have c1:A.ldv hh (elp 1 x' j 0)=some (.int .i64 (zes s a)[j]):=hxx.cell g1;have hin:(zes s a)[j]∈zes s a:=getElem_mem hj;generalize hv:(zes s a)[j]=v at c1 hin;have htk:∀x∈(zes s a).take (j+1),x∈(zes s a).take j \/ x=v:=λx hx=>by
    rw[take_add_one,getElem?_eq_getElem hj,mem_append]at hx;rcases hx with h|h
    ·exact .inl h
    ·right;rw[<-hv];simpa using h
   simp -dsimp only[B.zed,i1,c1,e5,B.zf];refine s2 hh m d qs v _ (o.at 0 rfl) hqs ?_;simp -dsimp only[V.zfk,B.zf];refine B.zbd (λhd=>?_) (λhd=>?_)
   ·have hd:v∉zcc qs:=by simpa using hd
    have hvW:=waits_known hin;have hlt:qs.length+1 <= s.W.length:=by
     have h3:(v::zcc qs).length <= (zcc s.W).length:=List.Nodup.length_le_of_subset (nodup_cons.2 ⟨hd,hqs.2.2⟩) (λx hx=>by
      rcases mem_cons.1 hx with rfl|hx
      ·exact hvW
      ·exact hkq x hx)
     simpa[zcc]using h3
    have hpl:(zlx qs v 1 d).length=qs.length+1:=by
     have:=congrArg List.length (zlj v 1 d qs);rw[if_neg hd]at this;simpa[zcc]using this
    simp -dsimp only[B.zed,e5,B.zf];refine o.mset (κ:=wV) (v:=wV) 0 rfl keyI v 1 λh2 o2 _ _=>?_;have o2':zc5 h0 h2 ([.sl 1 x' ((zes s a).map icl) []]++[zqe m (zlx qs v 1 d) (clkP qs v d)]):=o2.perm (List.Perm.swap _ _ _);have e6':=zeb (k:=0) (o2.le _ _ b6) rfl;simp -dsimp only[B.zed,e6',B.zf];rw[B.callv_fn];obtain⟨oa,ob⟩:=o2'.out;refine ih (n-1) (by omega) _ h2 s m (clkP qs v d) i2 i5 i6 (zlx qs v 1 d) v _ (hs.mono oa.le) hk hlen (oa.le _ _ b2) (oa.le _ _ b5) (oa.le _ _ b6) ob (hqs.put v) (λx hx=>?_) (by omega) λh3 qs3 d3 o3 k3 lk=>?_
    ·rcases zhk.1 hx with rfl|hx
     ·exact hvW
     ·exact hkq x hx
    ·have o4:zc5 h0 h3 [zqe m qs3 d3,.sl 1 x' ((zes s a).map icl) []]:=(oa.join o3).perm (List.Perm.swap _ _ _)
     simp -dsimp only[zgr (show j<4611686018427387904 by omega),B.zf];have up:∀x∈zcc qs,x∈zcc qs3:=λx hx=>lk.sub x (zhk.2 (.inr hx));have hl3:ps.length <= qs3.length:=by
      have h5:(zcc qs).length <= (zcc qs3).length:=List.Nodup.length_le_of_subset hqs.2.2 up;have h6:qs.length <= qs3.length:=by simpa[zcc]using h5
      omega
     refine hY (t-1) _ _ (by omega) ⟨j+1,qs3,d3,by omega,rfl,k3,o4,hl3,λx hx=>up x (hsub x hx),λx hx=>?_,λx h1 h2 y hy=>?_,λx h1 h2=>?_,lk.known⟩
     ·rcases htk x hx with h|rfl
      ·exact up x (htake x h)
      ·exact lk.sub _ (zhk.2 (.inl rfl))
     ·by_cases hxq:x∈zcc (zlx qs v 1 d)
      ·rcases zhk.1 hxq with rfl|hxq
       ·exact lk.near y hy
       ·exact up y (hcl x hxq h2 y hy)
      ·exact lk.closed x h1 hxq y hy
     ·by_cases hxq:x∈zcc (zlx qs v 1 d)
      ·rcases zhk.1 hxq with rfl|hxq
       ·exact .one hin
       ·exact hre x hxq h2
      ·exact(lk.reach x h1 hxq).first hin
   ·have hd:v∈zcc qs:=by simpa using hd
    simp -dsimp only[zgr (show j<4611686018427387904 by omega),B.zf];refine hY (t-1) _ _ (by omega) ⟨j+1,qs,d,by omega,rfl,hqs,o,hql,hsub,λx hx=>?_,hcl,hre,hkq⟩;rcases htk x hx with h|rfl
    ·exact htake x h
    ·exact hd
  ·have hj:j=(zes s a).length:=by have:=of_decide_eq_false hc;omega
   rw[hj,take_length]at htake;exact zbh (hq hh qs d (o.sub (.cons_cons _ (nil_sublist _))) hqs ⟨hsub,htake,hcl,hre,hkq⟩)
variable{C:z5}{N:zN}
def zca.Spec(C:z5)(N:zN):Prop:=∀(h:zb)(s:Lk)(a:Int)(Q:zQ),s.At h->s.Ok->s.W.length <= 100000->(∀(h':zb)(m c:Nat)(ps:zeo Int Int),zc5 h h' [zqe m ps c]->SetI ps c->(∀x,x∈zcc ps↔Reach s a x)->(∀x∈zcc ps,x∈zcc s.W)->Q (.mp m) h')->C (N 512) [.ptr s.l 0 0,.int .i64 a] h Q
theorem zca.spec(i:zca.Imp C N)(i1:zbj.Imp C N)(s1:zco.Spec C N)(s2:zb6.Spec C N):zca.Spec C N:=by
 intro h s a Q hs hk hlen hq;apply i;simp -dsimp only[zca.cps,zca.k1];intro i2 h2;have o1:=(zc5.start h).znr h2 (b:=zdo [.ptr s.l 0 0]) rfl;refine o1.zky wV wV λm h3 f3 o3 l3=>?_;intro i5 h5;have o5:=o3.znr h5 (b:=zdo [.zo2]) rfl;refine o5.blkSt 2 rfl rfl (by simp) λh6 o6=>?_;intro i6 h7;have o7:=o6.znr h7 (b:=zdo [.nilf]) rfl;refine o7.blkSt 3 rfl rfl (by simp) λh8 o8=>?_;have p6:h8 i6=some (zdo [.fn (N 526) [] [.ptr i2 0 0,.ptr i5 0 0,.ptr i6 0 0]]):=o8.at 3 rfl;have e6:=zeb (k:=0) p6 rfl;simp -dsimp only[B.zed,e6,B.zf];rw[B.callv_fn];have o9:zc5 h h8 ([.blk i2 (zdo [.ptr s.l 0 0]),.blk i5 (zdo [.mp m]),.blk i6 (zdo [.fn (N 526) [] [.ptr i2 0 0,.ptr i5 0 0,.ptr i6 0 0]])]++[zqe m [] 0]):=o8.perm (by
  show List.Perm [_,zqe m [] 0,_,_] [_,_,_,zqe m [] 0];exact List.Perm.cons _ (perm_append_comm (l₁:=[zqe m [] 0])))
 obtain⟨oa,ob⟩:=o9.out;refine zbj.look i1 s1 s2 s.W.length _ h8 s m 0 i2 i5 i6 [] a _ (hs.mono oa.le) hk hlen (oa.at 0 rfl) (oa.at 1 rfl) (oa.at 2 rfl) ob ⟨zfw.nil 0,λp hp=>absurd hp (not_mem_nil),List.Pairwise.nil⟩ (λx hx=>absurd hx (not_mem_nil)) (by simp) λh9 ps c o10 k1 lk=>?_;have o11:=oa.join o10;have p5:h9 i5=some (zdo [.mp m]):=o11.at 1 rfl;have e5:=zeb (k:=0) p5 rfl;simp -dsimp only[B.zed,e5,B.zf];refine zbh (hq h9 m c ps (o11.sub (sublist_append_right _ _)) k1 (λx=>⟨λhx=>lk.reach x hx (not_mem_nil),λhx=>?_⟩) lk.known)
 induction hx with
 | one h1=>exact lk.near _ h1
 | more _ h2 ih=>exact lk.closed _ ih (not_mem_nil) _ h2
theorem key_inj{T:Type}:∀{ps:zeo Int T},(zcc ps).Nodup->∀{p q:Int×T×Nat},p∈ps->q∈ps->p.1=q.1->p=q
 | e::r,hn,p,q,hp,hq,h=>by
  have hn':e.1∉zcc r /\ (zcc r).Nodup:=nodup_cons.1 hn
  rcases mem_cons.1 hp with h1|h1<;>rcases mem_cons.1 hq with h2|h2
  ·rw[h1,h2]
  ·exact absurd (mem_map.2 ⟨q,h2,by rw[<-h,h1]⟩) hn'.1
  ·exact absurd (mem_map.2 ⟨p,h1,by rw[h,h2]⟩) hn'.1
  ·exact key_inj hn'.2 h1 h2 h
def RoundIs(s:Lk)(L:List Int):Prop:=(L=[] /\ ∀w∈zcc s.W,¬ Reach s w w) \/ ∃w∈zcc s.W,Reach s w w /\ (∀v∈zcc s.W,v<w->¬ Reach s v v) /\ L.Pairwise (λa b=>a<b) /\ ∀o,o∈L↔Reach s w o /\ Reach s o w
def zw.Spec(C:z5)(N:zN):Prop:=∀(h:zb)(s:Lk)(Q:zQ),s.At h->s.Ok->s.W.length <= 100000->(∀(h':zb)(x':za)(L:List Int),RoundIs s L->zc5 h h' [.sl 1 x' (L.map icl) []]->Q x' h')->C (N 492) [.ptr s.l 0 0] h Q
theorem round_out(s1:zca.Spec C N)(s2:zb6.Spec C N)(s3:zbl.Spec C N){h:zb}{s:Lk}{w:Int}{m c:Nat}{ps:zeo Int Int}{Y1:zL}{Q:zQ}(hs:s.At h)(hk:s.Ok)(hlen:s.W.length <= 100000)
  (hm:h m=some (ze4 (zib wV wV ps) c)) (hps:SetI ps c) (hr:∀x,x∈zcc ps↔Reach s w x) (hpl:ps.length <= 100000)
  (hq:∀(h':zb)(x':za)(L:List Int),L.Pairwise (λa b=>a<b)->(∀o,o∈L↔Reach s w o /\ Reach s o w)->zc5 h h' [.sl 1 x' (L.map icl) []]->Q x' h'):
  B.rangeMap h (.mp m) λv30 h=>z3 (zw.l2 C N (dn Q) Y1 (.ptr s.l 0 0) (.int .i64 w) v30) [.zeg] h:=by
 refine zc5.zr4 (κ:=wV) (v:=wV) (ps:=ps) (c:=c) (J:=λD l vs=>∃out' O',vs=[out'] /\ l=[.sl 1 out' (O'.map icl) []] /\ O'.Sublist (D.map (·.1)) /\ ∀o∈D.map (·.1),(o∈O'↔Reach s o w))
  (REST:=λit vs v h Y=>match vs with
   | [v6]=>B.pv (V.ext 0 v) λv32=>B.cond v32
    (B.pv (A.zfm h it) λv33=>B.pv (V.ext 0 v33) λv34=>B.call C (N 512) [.ptr s.l 0 0,v34] h λv37 h=>B.call C (N 513) [v37,.int .i64 w] h λv39 h=>B.cond v39
     (B.zgn h (zez [(0,none,v34)] (zh2 1 [.int .i64 0])) λi42 h=>B.ziz h 1 8 v6 (.sl i42 0 0 1 1 1) λv43 h=>Y [v43] h) (Y [v6] h))
    (B.call C (N 511) [v6] h λv45 h=>dn Q v6 h)
   | _=>False) ((zc5.start h).zeg 1) hm hps.1 ⟨.zeg,[],rfl,rfl,.slnil,by simp⟩ ?_ ?_ ?_
 ·rintro it vs h4 Y D l ⟨out',O',rfl,_⟩ hn
  exact hn
 ·rintro it h4 D l bb Y vs ⟨out',O',rfl,rfl,hsub,hmem⟩ hp ho
  simp -dsimp only[V.zg5,getElem?_cons_zero,B.zf,B.cond_false];have o1:zc5 h h4 [.sl 1 out' (O'.map icl) []]:=ho.sub (.cons_cons _ (nil_sublist _));have hl:O'.length <= 100000000:=by
   have h1:=hsub.length_le;rw[length_map,hp.length_eq]at h1;omega
  have hDk:(D.map (·.1)).Perm (zcc ps):=hp.map _;refine s3 h h4 out' O' [] _ o1 hl λh5 L hL hS o5=>?_;refine zbh (hq h5 out' L ?_ (λo=>?_) o5)
  ·have hnd:L.Nodup:=hL.symm.nodup (hsub.nodup (hDk.symm.nodup hps.2.2))
   exact(hS.and hnd).imp λ{a b} hab=>by have:=hab.1;have:=hab.2;omega
  ·rw[hL.mem_iff]
   constructor
   ·intro h1
    have h2:=hsub.subset h1;exact⟨(hr o).1 (hDk.mem_iff.1 h2),(hmem o h2).1 h1⟩
   ·rintro⟨h1,h2⟩
    exact(hmem o (hDk.mem_iff.2 ((hr o).2 h1))).2 h2
 ·rintro it h4 D l bb Y vs p hpm ⟨out',O',rfl,rfl,hsub,hmem⟩ hD hpD hDl ho he hY
  simp -dsimp only[V.zg5,getElem?_cons_zero,getElem?_cons_succ,B.zf,B.cond_true,he];have hpk:p.1∉D.map (·.1):=λhm=>by
   obtain⟨q,hq1,hq2⟩:=mem_map.1 hm;have hq3:q=p:=key_inj hps.2.2 (hD q hq1) hpm hq2;exact hpD (hq3 ▸ hq1)
  refine s1 h4 s p.1 _ (hs.mono ho.le) hk hlen λh5 m5 c5 ps5 o5 k5 r5 _=>?_;refine s2 h5 m5 c5 ps5 w _ (o5.at 0 rfl) k5 ?_;have oo:=ho.grow o5.le;have hl:=hsub.length_le;rw[length_map]at hl;refine B.zbd (λhd=>?_) (λhd=>?_)
  ·have hd:Reach s p.1 w:=(r5 w).1 (of_decide_eq_true hd)
   have hf:zez [(0,none,wV p.1)] (zh2 1 [.int .i64 0])=some [.int .i64 p.1]:=rfl;simp -dsimp only[hf];refine oo.push 0 rfl (cs:=[.int .i64 p.1]) rfl (by omega) (by simp;omega) (by simp[maxLen];omega) λout2 h6 o6 _=>?_;refine hY h6 [.sl 1 out2 ((O'++[p.1]).map icl) []] _ ⟨out2,O'++[p.1],rfl,rfl,?_,λo ho=>?_⟩ (by rw[map_append];exact o6)
   ·rw[map_append];exact hsub.append (List.Sublist.refl _)
   ·rw[map_append,mem_append]at ho
    rw[mem_append,mem_singleton];rcases ho with ho|ho
    ·constructor
     ·rintro(h1|rfl)
      ·exact(hmem o ho).1 h1
      ·exact hd
     ·exact λh1=> .inl ((hmem o ho).2 h1)
    ·have ho:o=p.1:=by simpa using ho
     subst ho;exact⟨λ_=>hd,λ_=> .inr rfl⟩
  ·have hd:¬ Reach s p.1 w:=λh1=>of_decide_eq_false hd ((r5 w).2 h1)
   refine hY h5 _ _ ⟨out',O',rfl,rfl,?_,λo ho=>?_⟩ oo
   ·rw[map_append];exact hsub.trans (sublist_append_left _ _)
   ·rw[map_append,mem_append]at ho
    rcases ho with ho|ho
    ·exact hmem o ho
    ·have ho:o=p.1:=by simpa using ho
     subst ho;exact⟨λh1=>absurd (hsub.subset h1) hpk,λh1=>absurd h1 hd⟩
variable{C:z5}{N:zN}
theorem zw.spec(i:zw.Imp C N)(hG:zow C)(i2:z4.Imp C N)(i3:zm.Imp C N)(s0:zcw.Spec C N)(s1:zca.Spec C N)(s2:zb6.Spec C N)(s3:zbl.Spec C N)(s4:zci.Spec C N):zw.Spec C N:=by
 intro h s Q hs hk hlen hq;apply i;refine s0 h s _ hs ?_;have e1:=zeb (k:=0) hs.1 rfl;simp -dsimp only[V.zfk,Bool.not_true,B.zf,B.cond_false,zw.k6,B.zb3,V.fieldAddr,Nat.zero_add,B.zed,e1];apply i2;simp -dsimp only[z4.cps];intro i1 h1;have o1:=(zc5.start h).znq h1 [.mp s.m];refine zbh ?_;refine s4 (N 525) [.ptr i1 0 0] _ s.W _ _ (keysI_iter hG i3 (m:=s.m) hk.zsk) (λa b hle ⟨x,y⟩=>⟨hle _ _ x,hle _ _ y⟩) hlen ⟨zbv ..,o1.le _ _ hs.2.1⟩ λx' h2 o=>?_;have ox:zc5 h h2 [.sl 1 x' ((zhf (zcc s.W)).map icl) []]:=o.back o1.le;have hx:=(ox.zkj 0 rfl).zde;rw[length_map]at hx;have hSl:(zhf (zcc s.W)).length <= 100000:=by rw[zqc];simpa[zcc]using hlen
 simp -dsimp only[hx,B.zf];refine z3.intro (λt vs hh=>h2.le hh /\ ∃j:Nat,j+t=(zhf (zcc s.W)).length /\ vs=[.int .i64 (j:Int)] /\ ∀x∈(zhf (zcc s.W)).take j,¬ Reach s x x) (zhf (zcc s.W)).length ?_ ⟨zb.le_refl _,0,by omega,rfl,by simp⟩;rintro Y t vs hh ⟨hle,j,hjt,rfl,hno⟩ hY;simp -dsimp only[zw.l5,V.zev,B.zf];refine B.zbd (λhc=>?_) (λhc=>?_)
 ·have hj:j<(zhf (zcc s.W)).length:=by have:=of_decide_eq_true hc;omega
  have hxx:=(ox.zkj 0 rfl).mono hle;have g1:((zhf (zcc s.W)).map icl)[j]?=some (icl (zhf (zcc s.W))[j]):=by rw[getElem?_map,getElem?_eq_getElem hj];rfl
  have i1:V.zc9 1 x' (.int .i64 (j:Int))=some (elp 1 x' j 0):=hxx.znf (by simpa using hj);have c1:A.ldv hh (elp 1 x' j 0)=some (.int .i64 (zhf (zcc s.W))[j]):=hxx.cell g1;have hin:(zhf (zcc s.W))[j]∈zcc s.W:=(zfo _).mem_iff.1 (getElem_mem hj);have hleast:∀v∈zcc s.W,v<(zhf (zcc s.W))[j]->¬ Reach s v v:=λv hv hlt=>by
   obtain⟨n,hn,e⟩:=getElem_of_mem ((zfo _).mem_iff.2 hv);by_cases hnj:n<j
   ·exact hno v (by rw[<-e];exact mem_take_iff_getElem.2 ⟨n,by omega,rfl⟩)
   ·exfalso
    rcases Nat.lt_or_ge j n with h5|h5
    ·have:=pairwise_iff_getElem.1 (zic (zcc s.W)) j n hj hn h5
     omega
    ·have:n=j:=by omega
     subst this;omega
  have htk:∀x∈(zhf (zcc s.W)).take (j+1),x∈(zhf (zcc s.W)).take j \/ x=(zhf (zcc s.W))[j]:=λx hx=>by
   rw[take_add_one,getElem?_eq_getElem hj,mem_append]at hx;rcases hx with h|h
   ·exact .inl h
   ·right;simpa using h
  generalize (zhf (zcc s.W))[j]=w at c1 hin hleast htk;simp -dsimp only[zw.k4,B.zed,i1,c1,B.zf];have hsh:=hs.mono (zb.le_trans ox.le hle);refine s1 hh s w _ hsh hk hlen λh5 m c ps o5 k5 r5 n5=>?_;simp -dsimp only[zw.k3];refine s2 h5 m c ps w _ (o5.at 0 rfl) k5 ?_;simp -dsimp only[V.zfk,B.zf];refine B.zbd (λhd=>?_) (λhd=>?_)
  ·have hd:¬ Reach s w w:=λh1=>by have:=(r5 w).2 h1;simp[this]at hd
   simp -dsimp only[zgr (show j<4611686018427387904 by omega),B.zf];refine hY (t-1) _ _ (by omega) ⟨zb.le_trans hle o5.le,j+1,by omega,rfl,λx hx=>?_⟩;rcases htk x hx with h|rfl
   ·exact hno x h
   ·exact hd
  ·have hd:Reach s w w:=(r5 w).1 (by simpa using hd)
   have hpl:ps.length <= 100000:=by
    have h3:(zcc ps).length <= (zcc s.W).length:=List.Nodup.length_le_of_subset k5.2.2 n5;have h4:ps.length <= s.W.length:=by simpa[zcc]using h3
    omega
   refine round_out s1 s2 s3 (hsh.mono o5.le) hk hlen (o5.at 0 rfl) k5 r5 hpl λh6 x6 L p6 m6 o6=>?_;exact hq h6 x6 L (.inr ⟨w,hin,hd,hleast,p6,m6⟩) (o6.back (zb.le_trans ox.le (zb.le_trans hle o5.le)))
 ·have hj:j=(zhf (zcc s.W)).length:=by have:=of_decide_eq_false hc;omega
  rw[hj,take_length]at hno;refine zbh (hq hh .zeg [] (.inl ⟨rfl,λw hw=>hno w ((zfo _).mem_iff.2 hw)⟩) ((zc5.nil (zb.le_trans ox.le hle)).zeg 1))
variable{C:z5}{N:zN}
theorem ask_fr(sA:zy.Spec C N){h0 h:zb}{A:List Ob}{s:Lk}{d:DL}{k:Int}{names:List Key}{x:za}{R:List (List za)}{Q:zQ}(ho:zc5 h0 h (A++s.obs))(hk:s.Ok)(hr:Rel s d)(hlen:s.W.length<100000)(hx:∀H,zc5 h0 H A->SlX H 1 x (names.map tc) R)(hn:names.length <= 100000)(hl1: -1000000000 <= s.last)(hl2:s.last <= 1000000000)
  (hq:∀(h':zb)(s':Lk),s'.Ok->zc5 h0 h' (A++s'.obs)->s'.W.length <= s.W.length+1->s'.l=s.l->Rel s' (zjv d k names).2->Q (.bool (zjv d k names).1) h'):C (N 489) [.ptr s.l 0 0,.int .i64 k,x] h Q:=by
 obtain⟨oa,ob⟩:=ho.out;exact sA _ h s d k names x R Q ob hk hr hlen (hx _ oa) hn hl1 hl2 λh' s' k1 o1 n1 l1 r1=>hq h' s' k1 (oa.join o1) n1 l1 r1
theorem Rel.del{s:Lk}{d:DL}(hr:Rel s d)(k:Int):Rel (s.del k) (zpn d k):=⟨hr.last,hr.zgo.del⟩
theorem free_fr(sF:zc1.Spec C N){h0 h:zb}{A:List Ob}{s:Lk}{d:DL}{k:Int}{Q:zQ}(ho:zc5 h0 h (A++s.obs))(hk:s.Ok)(hr:Rel s d)
  (hq:∀(h':zb),(s.del k).Ok->zc5 h0 h' (A++(s.del k).obs)->Rel (s.del k) (zpn d k)->Q (.tup []) h'):C (N 488) [.ptr s.l 0 0,.int .i64 k] h Q:=by
 obtain⟨oa,ob⟩:=ho.out;exact sF _ h s k Q ob hk λh' o1=>hq h' (hk.del k) (oa.join o1) (hr.del k)
theorem at_fr{h0 h:zb}{A:List Ob}{s:Lk}(ho:zc5 h0 h (A++s.obs))(hk:s.Ok):s.At h:=by
 obtain⟨oa,ob⟩:=ho.out;exact Lk.at_of ob hk
def ze3(d:DL)(k:Int):List Int:=
 match findD d.L k with
 | none=>[]
 | some w=>if w.zjc=0 then [] else zhf (zff d k w.zfn w.zjc)
theorem ziq{s:Lk}{d:DL}(hr:Rel s d)(hk:s.Ok)(k:Int):zes s k=ze3 d k:=by
 unfold zes ze3;rcases hr.zgo.get (k:=k) with⟨w1,w2⟩|⟨e,dd,m1,m2,m3,w1,w2,hsw⟩
 ·rw[w1,w2]
 ·rw[w1,w2]
  have h1:=kept_rel hr.zgo hk.nodup hk.far w1 hsw.zfb dd.zjc;simp only[hsw.zha];split
  ·rfl
  ·unfold keptL zff
   rw[h1]
def zi7(d:DL)(k:Int):List Key:=
 match findD d.L k with
 | none=>[]
 | some w=>w.ze0
theorem lessB_tot{a b:Key}(h:zgg b a=false)(hne:a≠b):zgg a b=true:=lessB_or h (λe=>hne e.symm)
theorem holds_eq{s:Lk}{d:DL}(hr:Rel s d)(hk:s.Ok){k:Int}{L:List Key}(hp:L.Perm (zcc (zrm s k)))(hs:SortedB L):L=zi7 d k:=by
 unfold zrm at hp;unfold zi7;rcases hr.zgo.get (k:=k) with⟨w1,w2⟩|⟨e,dd,m1,m2,m3,w1,w2,hsw⟩
 ·rw[w1]at hp
  rw[w2];exact List.Perm.eq_nil hp
 ·rw[w1]at hp
  rw[w2];have hnd:L.Nodup:=hp.symm.nodup (hk.zgo e m1).held.2.2;refine riseB_ext ((hs.and hnd).imp λ{a b} hab=>lessB_tot hab.1 hab.2) hsw.riseH λx=>?_;rw[hp.mem_iff];exact hsw.held x
theorem zhl{a b:List Key}:zj9 a b=true↔∃x∈a,∃y∈b,x=[42] \/ y=[42] \/ x=y:=by
 unfold zj9;constructor
 ·intro h
  rw[Bool.and_eq_true,Bool.and_eq_true,Bool.or_eq_true,Bool.or_eq_true]at h;obtain⟨h1,h2,h3⟩:=h
  obtain⟨x,hx⟩:∃x,x∈a:=by cases a with
   | nil=>simp at h1
   | cons x _=>exact⟨x,mem_cons_self ..⟩
  obtain⟨y,hy⟩:∃y,y∈b:=by cases b with
   | nil=>simp at h2
   | cons y _=>exact⟨y,mem_cons_self ..⟩
  rcases h3 with h|h|h
  ·exact⟨[42],of_decide_eq_true h,y,hy,.inl rfl⟩
  ·exact⟨x,hx,[42],of_decide_eq_true h,.inr (.inl rfl)⟩
  ·obtain⟨z,hz,h⟩:=any_eq_true.1 h
   exact⟨z,hz,z,of_decide_eq_true h,.inr (.inr rfl)⟩
 ·rintro⟨x,hx,y,hy,h⟩
  have h1:a.isEmpty=false:=by cases a with
   | nil=>cases hx
   | cons _ _=>rfl
  have h2:b.isEmpty=false:=by cases b with
   | nil=>cases hy
   | cons _ _=>rfl
  rw[h1,h2];simp only[Bool.not_false,Bool.true_and,Bool.or_eq_true,decide_eq_true_eq,any_eq_true];rcases h with rfl|rfl|rfl
  ·exact .inl hx
  ·exact .inr (.inl hy)
  ·exact .inr (.inr ⟨x,hx,hy⟩)
theorem zom{a b:List Key}:zj9 a b=zj9 b a:=by
 rw[Bool.eq_iff_iff,zhl,zhl];constructor
 ·rintro⟨x,hx,y,hy,h⟩
  exact⟨y,hy,x,hx,by rcases h with h|h|h;exact .inr (.inl h);exact .inl h;exact .inr (.inr h.symm)⟩
 ·rintro⟨x,hx,y,hy,h⟩
  exact⟨y,hy,x,hx,by rcases h with h|h|h;exact .inr (.inl h);exact .inl h;exact .inr (.inr h.symm)⟩
theorem mem_puts{x:Key}:∀{B H:List Key},x∈B.foldl zhb H↔x∈H \/ x∈B
 | [],H=>by simp
 | b::B,H=>by
  rw[foldl_cons,mem_puts,zns,mem_cons]
  constructor
  ·rintro((h|h)|h)
   ·exact .inr (.inl h)
   ·exact .inl h
   ·exact .inr (.inr h)
  ·rintro(h|h|h)
   ·exact .inl (.inr h)
   ·exact .inl (.inl h)
   ·exact .inr h
theorem zlz{k:Int}{w o:DW}:∀{L:List DW},o∈zlu L k w->o=w \/ o∈L
 | [],h=> .inl (by simpa[zlu]using h)
 | q::L,h=>by
  unfold zlu at h
  split at h
  ·rcases mem_cons.1 h with h|h
   ·exact .inl h
   ·exact .inr (mem_cons_of_mem _ h)
  ·rcases mem_cons.1 h with h|h
   ·exact .inr (by rw[h];exact mem_cons_self ..)
   ·rcases zlz h with h|h
    ·exact .inl h
    ·exact .inr (mem_cons_of_mem _ h)
theorem zlm{k:Int}{w:DW}:∀{L:List DW},findD L k=some w->w∈L /\ w.Id=k
 | q::L,h=>by
  unfold findD at h
  split at h
  ·rename_i hk
   cases h
   exact⟨mem_cons_self ..,hk⟩
  ·obtain⟨h1,h2⟩:=zlm h
   exact⟨mem_cons_of_mem _ h1,h2⟩
theorem setD_ids{k:Int}{w:DW}(hw:w.Id=k):∀{L:List DW},(L.map (·.Id)).Nodup->((zlu L k w).map (·.Id)).Nodup /\ ∀x,x∈(zlu L k w).map (·.Id)->x=k \/ x∈L.map (·.Id)
 | [],_=>by simp[zlu,hw]
 | q::L,h=>by
  obtain⟨h1,h2⟩:=nodup_cons.1 h
  unfold zlu
  split
  ·rename_i hk
   rw[map_cons,hw]
   refine⟨nodup_cons.2 ⟨by rw[<-hk];exact h1,h2⟩,λx hx=>?_⟩
   rcases mem_cons.1 hx with h|h
   ·exact .inl h
   ·exact .inr (mem_cons_of_mem _ h)
  ·rename_i hk
   obtain⟨i1,i2⟩:=setD_ids hw (L:=L) h2
   rw[map_cons]
   refine⟨nodup_cons.2 ⟨λhm=>?_,i1⟩,λx hx=>?_⟩
   ·rcases i2 _ hm with h|h
    ·exact hk h
    ·exact h1 h
   ·rcases mem_cons.1 hx with h|h
    ·exact .inr (by rw[h];exact mem_cons_self ..)
    ·rcases i2 _ h with h|h
     ·exact .inl h
     ·exact .inr (mem_cons_of_mem _ h)
def zph(d:DL):Prop:=∀a∈d.L,∀b∈d.L,a.Id≠b.Id->zj9 a.ze0 b.ze0=false
theorem zru{d:DL}{k:Int}(h:zph d){b:DW}(hb:b∈d.L)(hk:b.Id≠k):zj9 (ze1 d k).ze0 b.ze0=false:=by
 unfold ze1;cases e:findD d.L k with
 | none=>rfl
 | some w=>
  obtain⟨h1,h2⟩:=zlm e;exact h w h1 b hb (by rw[h2];exact λe=>hk e.symm)
theorem zr0{d:DL}{k:Int}{w:DW}(hw:w.Id=k)(h:zph d)(hn:∀b∈d.L,b.Id≠k->zj9 w.ze0 b.ze0=false)(l:Int):zph ⟨zlu d.L k w,l⟩:=by
 intro a ha b hb hab;rcases zlz ha with e1|h1<;>rcases zlz hb with e2|h2
 ·exact absurd (by rw[e1,e2]) hab
 ·rw[e1]at hab ⊢
  exact hn b h2 (by rw[<-hw];exact λe=>hab e.symm)
 ·rw[e2]at hab ⊢
  rw[zom];exact hn a h1 (by rw[<-hw];exact hab)
 ·exact h a h1 b h2 hab
theorem ask_apart{d:DL}(h:zph d)(k:Int)(names:List Key):zph (zjv d k names).2:=by
 unfold zjv;simp only;split
 ·rename_i he
  refine zr0 (w:=⟨k,(zf2 (ze1 d k) names).foldl zhb (ze1 d k).ze0,[],0⟩) rfl h (λb hb hk=>?_) _;cases hm:zj9 ((zf2 (ze1 d k) names).foldl zhb (ze1 d k).ze0) b.ze0 with
  | false=>rfl
  | true=>
   obtain⟨x,hx,y,hy,hxy⟩:=zhl.1 hm;rcases mem_puts.1 hx with hx|hx
   ·have:=zru h hb hk
    rw[zhl.2 ⟨x,hx,y,hy,hxy⟩]at this;cases this
   ·have h2:zin b (zf2 (ze1 d k) names) (zjd d k)=true:=by
     unfold zin;rw[zom,zhl.2 ⟨x,hx,y,hy,hxy⟩];rfl
    have h3:b.Id∈zff d k (zf2 (ze1 d k) names) (zjd d k):=mem_map.2 ⟨b,mem_filter.2 ⟨hb,by simp[hk,h2]⟩,rfl⟩;rw[isEmpty_iff.1 he]at h3;cases h3
 ·exact zr0 (w:=⟨k,(ze1 d k).ze0,zf2 (ze1 d k) names,zjd d k⟩) rfl h (λb hb hk=>zru h hb hk) _
theorem znt{k:Int}{o:DW}:∀{L:List DW},o∈delD L k->o∈L
 | q::L,h=>by
  unfold delD at h
  split at h
  ·exact mem_cons_of_mem _ h
  ·rcases mem_cons.1 h with h|h
   ·rw[h];exact mem_cons_self ..
   ·exact mem_cons_of_mem _ (znt h)
theorem free_apart{d:DL}(h:zph d)(k:Int):zph (zpn d k):=λa ha b hb hab=>h a (znt ha) b (znt hb) hab
theorem setD_len{k:Int}{w:DW}:∀{L:List DW},(zlu L k w).length <= L.length+1
 | []=>Nat.le_refl _
 | q::L=>by
  unfold zlu
  split
  ·simp
  ·have:=setD_len (k:=k) (w:=w) (L:=L)
   simp only[length_cons];omega
structure zhv(d:DL):Prop where
 last:0 <= d.zhz
 turns:∀w∈d.L,0 <= w.zjc /\ w.zjc <= d.zhz
 ids:(d.L.map (·.Id)).Nodup
theorem workD_turn{d:DL}(h:zhv d)(k:Int):0 <= (ze1 d k).zjc /\ (ze1 d k).zjc <= d.zhz:=by
 unfold ze1;cases e:findD d.L k with
 | none=>exact⟨by simp,by simpa using h.last⟩
 | some w=>exact h.turns w (zlm e).1
theorem turnD_le{d:DL}(h:zhv d)(k:Int):0<zjd d k /\ zjd d k <= d.zhz+1:=by
 have h1:=workD_turn h k;have h2:=h.last;unfold zjd;split<;>omega
theorem ask_good{d:DL}(h:zhv d)(k:Int)(names:List Key):zhv (zjv d k names).2 /\ (zjv d k names).2.zhz <= d.zhz+1 /\ d.zhz <= (zjv d k names).2.zhz /\ (zjv d k names).2.L.length <= d.L.length+1:=by
 have ht:=turnD_le h k;have hl:=h.last;unfold zjv;simp only;split
 ·refine⟨⟨hl,λw hw=>?_,(setD_ids (k:=k) (w:=⟨k,(zf2 (ze1 d k) names).foldl zhb (ze1 d k).ze0,[],0⟩) rfl h.ids).1⟩,by simp only;omega,Int.le_refl _,setD_len⟩
  rcases zlz hw with rfl|hw
  ·exact⟨Int.le_refl _,hl⟩
  ·exact h.turns w hw
 ·refine⟨⟨by simp only;omega,λw hw=>?_,(setD_ids (k:=k) (w:=⟨k,(ze1 d k).ze0,zf2 (ze1 d k) names,zjd d k⟩) rfl h.ids).1⟩,by simp only;omega,by simp only;omega,setD_len⟩
  rcases zlz hw with rfl|hw
  ·exact⟨by simp only;omega,by simp only;omega⟩
  ·have:=h.turns w hw
   exact⟨this.1,by simp only;omega⟩
theorem free_good{d:DL}(h:zhv d)(k:Int):zhv (zpn d k):=by
 have sub:∀L:List DW,((delD L k).map (·.Id)).Sublist (L.map (·.Id)):=by
  intro L
  induction L with
  | nil=>exact .slnil
  | cons q L ih=>
   unfold delD;split
   ·exact sublist_cons_self ..
   ·exact ih.cons_cons _
 exact⟨h.last,λw hw=>h.turns w (znt hw),h.ids.sublist (sub d.L)⟩
abbrev nmA:Key:=[65]
abbrev nmB:Key:=[66]
abbrev nmS:Key:=[42]
def exL0:DL:=⟨[],0⟩
def exL1:DL:=⟨[⟨1,[nmA],[],0⟩],0⟩
def exL2:DL:=⟨[⟨1,[nmA],[],0⟩,⟨2,[],[nmA,nmB],1⟩],1⟩
def exL3:DL:=⟨[⟨1,[nmA],[],0⟩,⟨2,[],[nmA,nmB],1⟩,⟨3,[],[nmB],2⟩],2⟩
def exL4:DL:=⟨[⟨2,[],[nmA,nmB],1⟩,⟨3,[],[nmB],2⟩],2⟩
def exL5:DL:=⟨[⟨2,[nmA,nmB],[],0⟩,⟨3,[],[nmB],2⟩],2⟩
theorem exL_1:zjv exL0 1 [nmA]=(true,exL1):=by kernel_rfl
theorem exL_2:zjv exL1 2 [nmA,nmB]=(false,exL2):=by kernel_rfl
theorem exL_3:zjv exL2 3 [nmB]=(false,exL3):=by kernel_rfl
theorem exL_w3:ze3 exL3 3=[2]:=by kernel_rfl
theorem exL_4:zpn exL3 1=exL4:=by kernel_rfl
theorem exL_5:zjv exL4 3 [nmB]=(false,exL4):=by kernel_rfl
theorem exL_6:zjv exL4 2 []=(true,exL5):=by kernel_rfl
theorem exL_h2:zi7 exL5 2=[nmA,nmB]:=by kernel_rfl
def exM2:DL:=⟨[⟨1,[nmA],[],0⟩,⟨2,[nmB],[],0⟩],0⟩
def exM3:DL:=⟨[⟨1,[nmA],[nmB],1⟩,⟨2,[nmB],[],0⟩],1⟩
def exM4:DL:=⟨[⟨1,[nmA],[nmB],1⟩,⟨2,[nmB],[nmA],2⟩],2⟩
def exM5:DL:=⟨[⟨1,[nmA],[nmB],1⟩,⟨2,[nmB],[nmA],2⟩,⟨4,[],[nmS],3⟩],3⟩
theorem exM_2:zjv exL1 2 [nmB]=(true,exM2):=by kernel_rfl
theorem exM_3:zjv exM2 1 [nmB]=(false,exM3):=by kernel_rfl
theorem exM_4:zjv exM3 2 [nmA]=(false,exM4):=by kernel_rfl
theorem exM_w1:ze3 exM4 1=[2]:=by kernel_rfl
theorem exM_w2:ze3 exM4 2=[1]:=by kernel_rfl
theorem exM_5:zjv exM4 4 [nmS]=(false,exM5):=by kernel_rfl
theorem exM_w4:ze3 exM5 4=[1,2]:=by kernel_rfl
theorem zoc:∀{S T:List Int},S.Pairwise (λa b=>a<b)->T.Pairwise (λa b=>a<b)->(∀x,x∈S↔x∈T)->S=T:=by
 intro S T hS hT h;have nS:S.Nodup:=hS.imp λ{a b} hab e=>by omega
 have nT:T.Nodup:=hT.imp λ{a b} hab e=>by omega
 refine zmw ((perm_ext_iff_of_nodup nS nT).2 h) (hS.imp λ{a b} hab=>by omega) (hT.imp λ{a b} hab=>by omega)
theorem exM_round{s:Lk}(hr:Rel s exM4)(hk:s.Ok){L:List Int}(h:RoundIs s L):L=[1,2]:=by
 have w1:zes s 1=[2]:=by rw[ziq hr hk,exM_w1]
 have w2:zes s 2=[1]:=by rw[ziq hr hk,exM_w2]
 have hids:zcc s.W=[1,2]:=by rw[<-hr.zgo.ids];rfl
 have r12:Reach s 1 2:= .one (by rw[w1];simp);have r21:Reach s 2 1:= .one (by rw[w2];simp);have r11:Reach s 1 1:= .more r12 (by rw[w2];simp);have only:∀a,(a=1 \/ a=2)->∀b,Reach s a b->b=1 \/ b=2:=by
  intro a ha b hab
  induction hab with
  | one h=>
   rcases ha with rfl|rfl
   ·rw[w1]at h;right;simpa using h
   ·rw[w2]at h;left;simpa using h
  | more _ h2 ih=>
   rcases ih with rfl|rfl
   ·rw[w1]at h2;right;simpa using h2
   ·rw[w2]at h2;left;simpa using h2
 rcases h with⟨_,h⟩|⟨w,hw,hrw,hle,hp,hm⟩
 ·exact absurd r11 (h 1 (by rw[hids];simp))
 ·have hw1:w=1:=by
   rw[hids]at hw;have hw':w=1 \/ w=2:=by simpa using hw
   rcases hw' with h|h
   ·exact h
   ·exact absurd r11 (hle 1 (by rw[hids];simp) (by omega))
  subst hw1;refine zoc hp (by simp) λx=>?_;rw[hm];constructor
  ·rintro⟨h1,_⟩
   have:=only 1 (.inl rfl) x h1;simpa using this
  ·intro hx
   have hx:x=1 \/ x=2:=by simpa using hx
   rcases hx with rfl|rfl
   ·exact⟨r11,r11⟩
   ·exact⟨r12,r21⟩
variable{C:z5}{N:zN}
theorem zku(sA:zy.Spec C N){h0 h:zb}{A:List Ob}{s:Lk}{d:DL}{k:Int}{names:List Key}{Q:zQ}(ho:zc5 h0 h (A++s.obs))(hk:s.Ok)(hr:Rel s d)(hg:zhv d)(hb:d.zhz <= 1000000)(hlen:d.L.length <= 1000)(hn:names.length <= 100000)
  (hq:∀(h':zb)(s':Lk),s'.Ok->zc5 h0 h' (A++s'.obs)->s'.l=s.l->Rel s' (zjv d k names).2->Q (.bool (zjv d k names).1) h'):∀id,h id=none->C (N 489) [.ptr s.l 0 0,.int .i64 k,.sl id 0 0 names.length 1 names.length] (upd h id (zdo (names.map λx=> .str x))) Q:=by
 intro id hid;have e:(names.map λx=>za.str x)=(names.map tc++[]).flatten:=by
  rw[append_nil];clear hn hq
  induction names with
  | nil=>rfl
  | cons n r ih=>rw[map_cons,map_cons,flatten_cons,ih];rfl
 have o1:=ho.newSl (id:=id) (n:=names.length) (cp:=names.length) (es:=1) (cs:=names.map λx=> .str x) (L:=names.map tc) (R:=[]) hid (λp hp=>by
  rw[append_nil]at hp;obtain⟨n,_,rfl⟩:=mem_map.1 hp;rfl) (by simp) (by simp) e
 have o2:zc5 h0 (upd h id (zdo (names.map λx=> .str x))) (([.sl 1 (.sl id 0 0 names.length 1 names.length) (names.map tc) []]++A)++s.obs):=o1.perm (by
  rw[append_assoc [_] A s.obs];exact perm_append_comm)
 have hl:=hr.last;have hgl:=hg.last;have hwl:s.W.length=d.L.length:=by
  have:=congrArg List.length hr.zgo.ids;simpa[zcc]using this.symm
 exact ask_fr sA o2 hk hr (by omega) (λH o=>o.zkj 0 rfl) hn (by omega) (by omega) λh' s' k1 o3 n1 l1 r1=>hq h' s' k1 (o3.sub (sublist_cons_self ..)) l1 r1
variable{C:z5}{N:zN}
def zdj.Spec(C:z5)(N:zN):Prop:=∀(x y:za)(L M:List Int)(R S:List (List za))(h:zb)(Q:zQ),SlX h 1 x (L.map icl) R->SlX h 1 y (M.map icl) S->L.length<4611686018427387904->Q (.bool (decide (L=M))) h->C (N 499) [x,y] h Q
theorem zdj.spec(i:zdj.Imp C N):zdj.Spec C N:=λx y L M R S h Q hx hy hlen hq=>i x y h Q (zr1 iS hx hy hlen (zbh hq))
theorem Rel.len{s:Lk}{d:DL}(hr:Rel s d):s.W.length=d.L.length:=by
 have:=congrArg List.length hr.zgo.ids;simpa[zcc]using this.symm
theorem litIx {h : zb} (L : List Int) {j : Nat} (hj : h j = none) : SlX (upd h j (zdo (L.map fun x => .int .i64 x))) 1 (.sl j 0 0 L.length 1 L.length) (L.map icl) [] :=
  ((zc5.start h).newSl (id := j) (n := L.length) (cp := L.length) (es := 1) (cs := L.map fun x => .int .i64 x) (L := L.map icl) (R := []) hj (fun p hp => by
    rw [append_nil] at hp
    obtain ⟨n, _, rfl⟩ := mem_map.1 hp
    rfl) (by simp) (by simp) (by
      rw [append_nil]
      induction L with
      | nil => rfl
      | cons n r ih => rw [map_cons, map_cons, flatten_cons, ih]; rfl)).zkj 0 rfl
theorem litTx {h : zb} (L : List Key) {j : Nat} (hj : h j = none) : SlX (upd h j (zdo (L.map fun x => .str x))) 1 (.sl j 0 0 L.length 1 L.length) (L.map tc) [] :=
  ((zc5.start h).newSl (id := j) (n := L.length) (cp := L.length) (es := 1) (cs := L.map fun x => .str x) (L := L.map tc) (R := []) hj (fun p hp => by
    rw [append_nil] at hp
    obtain ⟨n, _, rfl⟩ := mem_map.1 hp
    rfl) (by simp) (by simp) (by
      rw [append_nil]
      induction L with
      | nil => rfl
      | cons n r ih => rw [map_cons, map_cons, flatten_cons, ih]; rfl)).zkj 0 rfl
theorem held_len{s:Lk}{d:DL}(hr:Rel s d)(hk:s.Ok)(k:Int):(zrm s k).length <= (zi7 d k).length:=by
 unfold zrm zi7;rcases hr.zgo.get (k:=k) with⟨w1,w2⟩|⟨e,dd,m1,m2,m3,w1,w2,hsw⟩
 ·rw[w1,w2];exact Nat.le_refl _
 ·rw[w1,w2]
  have h3:(zcc e.2.1.held).length <= dd.ze0.length:=List.Nodup.length_le_of_subset (hk.zgo e m1).held.2.2 λx hx=>(hsw.held x).1 hx;simpa[zcc]using h3
def zd6.Spec(C:z5)(N:zN):Prop:=∀(h:zb)(Q:zQ),Q (.bool true) h->C (N 482) [] h Q
theorem zhv.zero:zhv exL0:=⟨Int.le_refl _,λw hw=>absurd hw (not_mem_nil),List.Pairwise.nil⟩
theorem zhv.of{d d':DL}{k:Int}{names:List Key}{b:Bool}(h:zhv d)(e:zjv d k names=(b,d')):zhv d':=by
 have:=(ask_good h k names).1;rw[e]at this;exact this
theorem zd6.spec(i:zd6.Imp C N)(sN:ze9.Spec C N)(sA:zy.Spec C N)(sF:zc1.Spec C N)(sW:zco.Spec C N)(sH:zc2.Spec C N)(sR:zw.Spec C N)(sT:zdi.Spec C N)(sL:zdj.Spec C N):zd6.Spec C N:=by
 intro h Q hq;have f1:zez [(0,none,.str [65])] (zh2 1 [.str []])=some [.str [65]]:=rfl;have f2:zez [(0,none,.str [65]),(1,none,.str [66])] (zh2 2 [.str []])=some [.str [65],.str [66]]:=rfl;have f3:zez [(0,none,.str [66])] (zh2 1 [.str []])=some [.str [66]]:=rfl;have f4:zez [(0,none,.int .i64 2)] (zh2 1 [.int .i64 0])=some [.int .i64 2]:=rfl;have g1:zhv exL1:=zhv.zero.of exL_1;have g2:zhv exL2:=g1.of exL_2;have g3:zhv exL3:=g2.of exL_3;apply i;refine sN h _ λh1 s k1 w1 l1 o1=>?_;have r1:Rel s exL0:=⟨l1,by rw[w1];exact .nil⟩;have ep:V.zgd .eql (.ptr s.l 0 0) .zkx=some (.bool false):=rfl;simp -dsimp only[ep,B.zf,B.zor,Bool.not_false,B.zbe,f1];intro j hj;simp -dsimp only[B.zor,B.zfu,Bool.not_false,B.zbe];refine zku sA (A:=[]) (names:=[nmA]) o1 k1 r1 zhv.zero (by decide) (by decide) (by decide) (λh2 s2 k2 o2 l2 r2=>?_) j hj;rw[exL_1]at r2 ⊢;simp -dsimp only[V.zfk,Bool.not_true,Bool.not_false,B.zf,B.zor,B.zbe,B.zf3,f2];rw[<-l2];intro j hj;simp -dsimp only[B.zor,B.zfu,Bool.not_false,B.zbe];refine zku sA (A:=[]) (names:=[nmA,nmB]) o2 k2 r2 g1 (by decide) (by decide) (by decide) (λh3 s3 k3 o3 l3 r3=>?_) j hj;rw[exL_2]at r3 ⊢;simp -dsimp only[Bool.not_false,B.zor,B.zbe,B.zf3,f3];rw[<-l3];intro j hj;simp -dsimp only[B.zor,B.zfu,Bool.not_false,B.zbe];refine zku sA (A:=[]) (names:=[nmB]) o3 k3 r3 g2 (by decide) (by decide) (by decide) (λh4 s4 k4 o4 l4 r4=>?_) j hj;rw[exL_3]at r4 ⊢;simp -dsimp only[Bool.not_false,B.zor,B.zbe,B.zf3];rw[<-l4];refine sW h4 s4 3 _ (at_fr o4 k4) k4 (by rw[r4.len];decide) λx5 h5 ox=>?_;rw[ziq r4 k4,show ze3 exL3 3=[2] from exL_w3]at ox;simp -dsimp only[Bool.not_false,B.zor,B.zbe,f4];intro j hj;simp -dsimp only[Bool.not_false,B.zor,B.zbe];refine sL x5 _ [2] [2] [] [] _ _ ((ox.zkj 0 rfl).mono (zf5 _ hj)) (litIx [2] hj) (by decide) ?_;have o6:=o4.grow (zb.le_trans ox.le (zf5 (zdo [.int .i64 2]) hj))
 simp -dsimp only[decide_true,V.zfk,Bool.not_true,Bool.not_false,B.zf,B.zor,B.zbe,B.zf3,B.cond_false];refine free_fr sF (A:=[]) o6 k4 r4 λh7 k7 o7 r7=>?_;have r7:Rel (s4.del 1) exL4:=by rw[<-exL_4];exact r7
 have l5:(s4.del 1).l=s4.l:=rfl;rw[<-l5];generalize s4.del 1=s5 at k7 o7 r7;refine sN h7 _ λh8 t k8 w8 m8 o8=>?_;have t1:Rel t exL0:=⟨m8,by rw[w8];exact .nil⟩;have o9:zc5 h h8 (s5.obs++t.obs):=o7.join o8;have m2:zhv exM2:=g1.of exM_2;have m3:zhv exM3:=m2.of exM_3;have m4:zhv exM4:=m3.of exM_4;have m5:zhv exM5:=m4.of exM_5;have g4:zhv exL4:=by rw[<-exL_4];exact free_good g3 1
 simp -dsimp only[f1];intro j hj;refine zku sA (names:=[nmA]) o9 k8 t1 zhv.zero (by decide) (by decide) (by decide) (λh2 t2 k2 o2 l2 r2=>?_) j hj;rw[exL_1]at r2 ⊢;simp -dsimp only[B.zfu,B.zbe,f3];rw[<-l2];intro j hj;simp -dsimp only[B.zfu,B.zbe];refine zku sA (names:=[nmB]) o2 k2 r2 g1 (by decide) (by decide) (by decide) (λh3 t3 k3 o3 l3 r3=>?_) j hj;rw[exM_2]at r3 ⊢;simp -dsimp only[B.zfu,B.zbe,B.zex,f3];rw[<-l3];intro j hj;simp -dsimp only[B.zfu,B.zbe];refine zku sA (names:=[nmB]) o3 k3 r3 m2 (by decide) (by decide) (by decide) (λh4 t4 k4 o4 l4 r4=>?_) j hj;rw[exM_3]at r4 ⊢;simp -dsimp only[V.zfk,Bool.not_false,B.zf,B.zfu,B.zbe,B.zex,f1];rw[<-l4];intro j hj;simp -dsimp only[B.zfu,B.zbe];refine zku sA (names:=[nmA]) o4 k4 r4 m3 (by decide) (by decide) (by decide) (λh5 t5 k5 o5 l5' r5=>?_) j hj;rw[exM_4]at r5 ⊢;simp -dsimp only[V.zfk,Bool.not_false,B.zf,B.zfu,B.zbe,B.zex,f3];rw[<-l5'];intro j hj;refine zku sA (names:=[nmB]) (o5.perm perm_append_comm) k7 r7 g4 (by decide) (by decide) (by decide) (λh6 s6 k6 o6 l6 r6=>?_) j hj;rw[exL_5]at r6 ⊢;simp -dsimp only[V.zfk,Bool.not_false,B.zf,B.zfu,B.zbe];rw[<-l6];refine ask_fr sA (names:=[]) (R:=[]) o6 k6 r6 (by rw[r6.len];decide) (λH o=>((zc5.start H).zeg 1).zkj 0 rfl) (by decide) (by rw[r6.last];decide) (by rw[r6.last];decide) λh9 s9 k9 o9 n9 l9 r9=>?_;rw[exL_6]at r9 ⊢;simp -dsimp only[B.zfu,B.zbe,B.zex];rw[<-l9];refine sH h9 s9 2 _ (at_fr o9 k9) k9 (Nat.le_trans (held_len r9 k9 2) (by decide)) λx1 h1 L1 p1 q1 ox1=>?_;have e1:L1=[nmA,nmB]:=by rw[holds_eq r9 k9 p1 q1];exact exL_h2
 subst e1;simp -dsimp only[B.zfu,B.zbe,f2];intro j hj;simp -dsimp only[B.zfu,B.zbe];refine sT x1 _ [nmA,nmB] [nmA,nmB] [] [] _ _ ((ox1.zkj 0 rfl).mono (zf5 _ hj)) (litTx [nmA,nmB] hj) (by decide) ?_;have oA:=(o9.grow (zb.le_trans ox1.le (zf5 (zdo [.str nmA,.str nmB]) hj))).perm perm_append_comm;simp -dsimp only[decide_true,B.zfu,B.zbe,B.zex];refine sR _ t5 _ (at_fr oA k5) k5 (by rw[r5.len];decide) λhB x2 L2 rd ox2=>?_;have e2:L2=[1,2]:=exM_round r5 k5 rd;subst e2;have f5:zez [(0,none,.int .i64 1),(1,none,.int .i64 2)] (zh2 2 [.int .i64 0])=some [.int .i64 1,.int .i64 2]:=rfl;simp -dsimp only[B.zfu,B.zbe,f5];intro j2 hj2;simp -dsimp only[B.zfu,B.zbe];refine sL x2 _ [1,2] [1,2] [] [] _ _ ((ox2.zkj 0 rfl).mono (zf5 _ hj2)) (litIx [1,2] hj2) (by decide) ?_;have oC:=oA.grow (zb.le_trans ox2.le (zf5 (zdo [.int .i64 1,.int .i64 2]) hj2));have f6:zez [(0,none,.str [42])] (zh2 1 [.str []])=some [.str [42]]:=rfl;simp -dsimp only[decide_true,B.zfu,B.zbe,B.zex,f6];intro j3 hj3;simp -dsimp only[B.zfu,B.zbe];refine zku sA (names:=[nmS]) oC k5 r5 m4 (by decide) (by decide) (by decide) (λhD t6 k10 o10 l10 r10=>?_) j3 hj3;rw[exM_5]at r10 ⊢;simp -dsimp only[V.zfk,Bool.not_false,B.zf,B.zfu,B.zbe,B.zex];rw[<-l10];refine sW hD t6 4 _ (at_fr o10 k10) k10 (by rw[r10.len];decide) λx3 hE ox3=>?_;rw[ziq r10 k10,show ze3 exM5 4=[1,2] from exM_w4]at ox3;simp -dsimp only[B.zfu,B.zbe,f5];intro j4 hj4;simp -dsimp only[B.zfu,B.zbe];refine sL x3 _ [1,2] [1,2] [] [] _ _ ((ox3.zkj 0 rfl).mono (zf5 _ hj4)) (litIx [1,2] hj4) (by decide) ?_;simp -dsimp only[decide_true,B.zfu,B.zbe,B.zex];exact dn_le (zb.le_trans o10.le (zb.le_trans ox3.le (zf5 _ hj4))) hq
variable{C:z5}{N:zN}
section
variable{V:Type}
variable(E:V->List V)
variable{E}
variable{K:List V}{D:V->Option Nat}
end
variable{C:z5}{N:zN}
section
variable{T Ad:Type}(K:DK T Ad)
end
variable{C:z5}{N:zN}
def Kp2(h h':zb)(p:za)(o:Option Nat):Prop:=match o with
 | none=>∃x,A.ldv h p=some x /\ A.ldv h' p=some x
 | some n=>∃x,A.zl2 h p n=some x /\ A.zl2 h' p n=some x
theorem keepD1{h h':zb}{p:za}{o:Option Nat}{K:zQ}{v:za}(h1:Kp2 h h' p o)(hk:K v h'):B.keepS h [(p,o)] K v h':=by
 refine⟨λr hr=>?_,hk⟩;rw[mem_singleton.1 hr];unfold Kp2 at h1;cases o<;>exact h1
theorem zc5.rebase{h0 h h':zb}{l l':List Ob}(ho:zc5 h0 h l)(hn:zc5 h h' l'):∃h1:zb,h0.le h1 /\ h1.le h' /\ zc5 h1 h' l /\ AllAt h1 l':=by
 obtain⟨q1,q2⟩:=((ho.join hn).perm perm_append_comm).out;exact⟨_,q1.le,q2.le,q2,q1.is⟩
section
variable{E:zbb}{Mk:zb->Int->Int->List za->Prop}{v:List za->za}{h0 h h':zb}{k s:Nat}{D:List (List za)}
end
section
variable{E:zbb}{Mk:zb->Int->Int->List za->Prop}{v:List za->za}{h0 h h':zb}{x v5:za}{n k:Nat}{xs ys gs:Nat->za}{X F:Nat->List (List za)}{W:List (List za)}{Q:zQ}
end
variable{C:z5}{N:zN}
end Go.Ab
namespace Go.Ab
open List
variable{C:z5}{N:zN}
section
variable{h0 h:zb}{id:Nat}{B:Nat->List za}{D R:Nat->Nat->List (List za)}{xs:Nat->za}{Q:zQ}
end
end Go.Ab
namespace Go.Ab
open List
variable{C:z5}{N:zN}
structure BagK where
 es:Nat->Nat
 lim:Nat->Nat
 full:Nat->Bool
abbrev LK:=List (za×List (List za))
section
variable{b:BagK}{h0 h:zb}{id:Nat}{L:Nat->LK}{xs:Nat->za}{Q:zQ}
end
end Go.Ab
namespace Go.Ab
open List
variable{C:z5}{N:zN}
def two{α:Type}(a b:α):Nat->α:=λj=>if j=0 then a else b
section
variable{b post:List UInt8}{a:Nat}
end
end Go.Ab
namespace Go.Ab
open List
variable{C:z5}{N:zN}
theorem absSl1{H:zb}{b e:Nat}{t:Ty}{c:List za}(h:zii H (.sl b e t) c):∃v,c=[v]:=by
 rcases h with h|h|⟨_,_,h,_⟩<;>exact⟨_,h⟩
theorem dTextW{H:zb}{p:List za}(h:zii H .s p):∃s:List UInt8,p=tc s /\ s.length<4611686018427387904:=by
 obtain⟨s,rfl,q⟩:=h;exact⟨s,rfl,by unfold reach at q;omega⟩
theorem dTextsL{H:zb}{v:za}(h:zii H (.sl 16 1 .s) [v]):∃L:List (List UInt8),SlIs H 1 v (L.map tc) /\ L.length<100000000000000000 /\ ∀s∈L,s.length<4611686018427387904:=by
 obtain⟨L,h1,h2,h3⟩:=arg_sliceP tc (λs=>s.length<4611686018427387904) (λp hp=>dTextW hp) h;exact⟨L,h1,by unfold reach at h2;omega,h3⟩
theorem arg_sliceDP{T Ad:Type}{K:DK T Ad}{Pr:T->Prop}{H:zb}{bytes:Nat}{e:Ty}{v:za}(hd:∀p,zii H e p->∃(t:T)(a:Ad),p=K.cells t a /\ K.at_ H t a /\ Pr t)(h:zii H (.sl bytes K.n e) [v]):∃L:List T,Dl K H v L /\ L.length*bytes <= reach /\ ∀t∈L,Pr t:=by
 obtain⟨G,h1,h2⟩:=arg_slice (T:={ p:T×Ad // K.at_ H p.1 p.2 /\ Pr p.1 }) (λp=>K.cells p.1.1 p.1.2) (λp hp=>by obtain⟨t,a,e,k⟩:=hd p hp;exact⟨⟨(t,a),k⟩,e⟩) h;refine⟨(G.map (·.1)).map (·.1),⟨G.map (·.1),[],rfl,?_,λp hp=>?_⟩,by simpa using h2,λt ht=>?_⟩
 ·rw[map_map];exact h1
 ·obtain⟨q,_,rfl⟩:=mem_map.1 hp;exact q.2.1
 ·obtain⟨q,hq,rfl⟩:=mem_map.1 ht
  obtain⟨q',_,rfl⟩:=mem_map.1 hq;exact q'.2.2
end Go.Ab
namespace Go.Ab
open List
variable{C:z5}{N:zN}
theorem quo20{a:Nat}(h:a<4611686018427387904):V.bin .quo (.int .i64 (a:Int)) (.int .i64 20)=some (.int .i64 ((a / 20:Nat):Int)):=by
 rw[V.bin_quo _ _ _ (by omega),show (a:Int).tdiv 20=((a / 20:Nat):Int) from rfl,wrap_i64 (by omega) (by omega)]
variable{C:z5}{N:zN}
def zfe.Spec(C:z5)(N:zN):Prop:=∀(a m:Int)(h:zb)(Q:zQ),0<m->m <= 4611686018427387904->(∀n:Int,0 <= n->n<m->Q (.int .i64 n) h)->C (N 155) [.int .i64 a,.int .i64 m] h Q
theorem zfe.spec(i:zfe.Imp C N):zfe.Spec C N:=by
 intro a m h Q h1 h2 hq;apply i;have k1:=Int.tmod_lt_of_pos a h1;have k2:=Int.lt_tmod_of_pos a h1;have hm:m≠0:=by omega
 simp -dsimp[hm,show ¬ m<1 by omega];refine B.zbd (λhb=>?_) (λhb=>?_)<;>simp -dsimp at hb ⊢
 ·rw[wrap_i64 (by omega) (by omega)]
  exact zbh (hq _ (by omega) (by omega))
 ·exact zbh (hq _ hb k1)
end Go.Ab
