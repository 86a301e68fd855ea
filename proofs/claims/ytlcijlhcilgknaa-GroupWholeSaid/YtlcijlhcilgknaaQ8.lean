/- What is proved: a part of the way to the statement: Crank2. No conditions. -/
import Derived.Test.YtlcijlhcilgknaaQ7
import Derived.Test.YtlcijlhcilgknaaQ6
import Derived.Test.YtlcijlhcilgknaaQ3
import Derived.Test.YtlcijlhcilgknaaQ2
import Derived.Lib.Bytealg
set_option linter.unusedVariables false
set_option linter.unusedSimpArgs false
namespace Go.Ab
variable {C:CSem} {N:zN}
def PredSpec (C:CSem) (f:AVal) (p:Line->Bool) (h:za):Prop:= ∀ (l:Line) (h':za) (K:zQ),h.le h'->K (.bool (p l)) h'->B.zf2 h' C f [.agg l.cs] K
def idxOf (p:Line->Bool) (L:List Line):Int:=match L.findIdx? p with|some i=>(i:Int)|none=> -1
def zw.Spec (C:CSem) (N:zN):Prop:= ∀ (x f:AVal) (p:Line->Bool) (L:List Line) (R:List (List AVal)) (h:za) (Q:zQ),SlX h 8 x (L.map Line.cs) R->L.length <= 100000000->PredSpec C f p h ->
 Q (.int .i64 (idxOf p L)) h->C (N 206) [x,f] h Q
theorem zn7 {α:Type} {p:α->Bool} {L:List α} {k:Nat} (hk:k<L.length) (h: ∀ i,i<k-> ∀ a,L[i]? =some a->p a=false) (hp:p L[k]=true):L.findIdx? p=some k:=by
 rw [List.findIdx?_eq_some_iff_getElem]
 exact ⟨hk,hp,fun j hj=>by simp [h j hj _ (List.getElem?_eq_getElem (by omega))]⟩
theorem zw.spec (i:zw.Imp C N):zw.Spec C N:=by
 intro x f p L R h Q hx hlen hf hq
 refine i _ _ _ _ ?_
 have e1:=hx.zcv
 rw [List.length_map] at e1
 simp -dsimp only [zw.cps,zb2.cps,e1,B.zd]
 refine zx.intro (fun t vs hh=>hh=h /\ ∃ k:Nat,k+t=L.length /\ vs=[.int .i64 (k:Int)] /\ ∀ i,i<k-> ∀ a,L[i]? =some a->p a=false) L.length ?_ ⟨rfl,0,by omega,rfl,fun i hi=>by omega⟩
 rintro Y t vs h ⟨rfl,k,ht,rfl,hno⟩ hY
 simp -dsimp only [zb2.l2,zb2.k1,lssN,B.zd]
 refine B.zt (fun hb=> ?_) (fun hb=> ?_)<;>simp only [decide_eq_true_eq,decide_eq_false_iff_not] at hb
 ·have hg:(L.map Line.cs)[k]? =some (L[k]).cs:=by rw [List.getElem?_map,List.getElem?_eq_getElem hb];rfl
  have hidx:V.idxS 8 x (.int .i64 (k:Int))=some (elp 8 x k 0):=hx.idxN (by simpa using hb)
  simp -dsimp only [opsF,hidx,B.zd,B.zq7,hx.elem hg]
  refine hf _ _ _ (za.le_refl _) ?_
  refine B.zt (fun hc=> ?_) (fun hc=> ?_)
  ·have:idxOf p L=(k:Int):=by rw [idxOf,zn7 hb hno hc]
   rw [this] at hq;exact zbr hq
  ·simp -dsimp only [add1 (show k<4611686018427387904 by omega),B.zd]
   refine hY (L.length-(k+1)) _ _ (by omega) ⟨rfl,k+1,by omega,rfl,fun i hi a ha=> ?_⟩
   by_cases e:i=k
   ·subst e;rw [List.getElem?_eq_getElem hb] at ha;cases ha;exact hc
   ·exact hno i (by omega) a ha
 ·have:idxOf p L= -1:=by
   have:L.findIdx? p=none:=by
    rw [List.findIdx?_eq_none_iff]
    intro a ha
    obtain ⟨j,hj,rfl⟩:=List.getElem_of_mem ha
    exact hno j (by omega) _ (List.getElem?_eq_getElem hj)
   rw [idxOf,this]
  rw [this] at hq;exact zbr hq
theorem Owns.cutTo {h0 h:za} {es:Nat} {x:AVal} {L R:List (List AVal)} (ho:Owns h0 h [.sl es x L R]) (hes:0<es) {k:Nat} (hk:k <= L.length): ∃ y,V.zim es x none (some (.int .i64 (k:Int)))=some y /\ Owns h0 h [.sl es y (L.take k) (L.drop k++R)]:=by
 obtain ⟨y,h1,h2,h3⟩:=(ho.slAt 0 rfl).slice hes (a:=none) (b:=some (.int .i64 (k:Int))) (lo:=0) (hi:=k) (.inl ⟨rfl,rfl⟩) (.inr ⟨_,rfl⟩) (by omega) (by omega)
 rw [List.drop_zero,List.take_append_of_le_length hk,List.drop_append_of_le_length hk] at h2
 refine ⟨y,h1,?_⟩
 have:=ho.turn (h':=h) 0 rfl (o':= .sl es y (L.take k) (L.drop k++R)) h2 (fun id b hf hb=>ho.ownAt 0 rfl id b (by rw [show Ob.foot (.sl es x L R)=foot x from rfl, <- h3];exact hf) hb) (fun _ _ h _=>h) (.inl (by rw [show Ob.foot (.sl es y _ _)=foot y from rfl,h3];rfl))
 simpa using this
end Go.Ab
namespace Go.Ab
variable {C:CSem} {N:zN}
section
variable {α:Type} [DecidableEq α]
def zeu:List α->List α
 | []=>[]
 | [a]=>[a]
 | a::b::r=>if a=b then zeu (b::r) else a::zeu (b::r)
theorem zni (a b:α): ∀ P:List α,zeu (P++[a,b])=if a=b then zeu (P++[a]) else zeu (P++[a])++[b]
 | []=>by simp only [List.nil_append,zeu];split<;>simp_all
 | [p]=>by
  simp only [List.cons_append,List.nil_append,zeu]
  split<;>split<;>simp_all
 | p::q::P=>by
  have ih:=zni a b (q::P)
  simp only [List.cons_append] at ih ⊢
  simp only [zeu]
  rw [ih]
  split<;>split<;>simp_all
theorem znh {L:List α} {k:Nat} (h1:0<k) (h2:k<L.length):zeu (L.take (k+1))=if L[k]=L[k-1] then zeu (L.take k) else zeu (L.take k)++[L[k]]:=by
 have e1:L.take (k+1)=L.take k++[L[k]]:=by rw [List.take_add_one,List.getElem?_eq_getElem h2];rfl
 have e2:L.take k=L.take (k-1)++[L[k-1]]:=by
  conv=>lhs;rw [show k=(k-1)+1 by omega]
  rw [List.take_add_one,List.getElem?_eq_getElem (by omega)];rfl
 have:=zni L[k-1] L[k] (L.take (k-1))
 rw [e1,e2,List.append_assoc]
 simp only [List.cons_append,List.nil_append]
 rw [this]
 simp only [eq_comm]
theorem zon: ∀ L:List α,(zeu L).length <= L.length
 | []=>Nat.le_refl _
 | [a]=>Nat.le_refl _
 | a::b::r=>by
  have:=zon (b::r)
  simp only [zeu]
  split<;>simp_all<;>omega
theorem compactG_spec {bytes f:Nat} {z:AVal} {v:α->AVal} (hb:bytes <= 1000) (hv: ∀ t,(v t).zcq=true) (heq: ∀ a b,V.bin .eql (v a) (v b)=some (.bool (decide (a=b)))) (hne': ∀ a b,V.bin .neq (v a) (v b)=some (.bool (!decide (a=b))))
  {h0 h:za} {x:AVal} {L:List α} {R:List (List AVal)} {Q:zQ} (ho:Owns h0 h [.sl 1 x (L.map fun a=>[v a]) R]) (hlen:L.length <= 100000000) (hq: ∀ y h' R',Owns h0 h' [.sl 1 y ((zeu L).map fun a=>[v a]) R']->Q y h'):zcj.cps C (opsS bytes z f) x h Q:=by
 have S:zcz (opsS bytes z f) (fun a:α=>[v a]) v:=seqS hb hv
 have o:Rw (opsS bytes z f) (fun a:α=>[v a]) h0 h x L R:=ho
 have l2:V.bin .lss (.int .i64 (L.length:Int)) (.int .i64 2)=some (.bool (decide (L.length<2))):=lssN (b:=2)
 simp -dsimp only [zcj.cps,zcj.k5,o.lenE,l2,B.zd]
 refine B.zt (fun hd=> ?_) (fun hd=> ?_)
 ·rw [decide_eq_true_eq] at hd
  have:zeu L=L:=by
   match L,hd with
   | [],_=>rfl
   | [a],_=>rfl
  exact hq x h R (by rw [this];exact ho)
 rw [decide_eq_false_iff_not] at hd
 refine zx.intro (fun t vs hh=>hh=h /\ ∃ k:Nat,k+t=L.length /\ vs=[.int .i64 (k:Int)] /\ 0<k /\ zeu (L.take k)=L.take k) (L.length-1) ?_ ⟨rfl,1,by omega,rfl,by omega,?_⟩
 rotate_left
 ·cases L with
  | nil=>rfl
  | cons a r=>rfl
 rintro Y t vs hh ⟨rfl,k,hkt,rfl,hk0,hck⟩ hY
 simp -dsimp only [zcj.l4,o.lenE,lssN,B.zd]
 refine B.zt (fun hk=> ?_) (fun hk=> ?_)
 rotate_left
 ·rw [decide_eq_false_iff_not] at hk
  have:k=L.length:=by omega
  rw [this,List.take_length] at hck
  exact hq x hh R (by rw [hck];exact ho)
 rw [decide_eq_true_eq] at hk
 have e1:V.bin .sub (.int .i64 (k:Int)) (.int .i64 1)=some (.int .i64 ((k-1:Nat):Int)):=zfo (b:=1) (by omega) (by omega)
 have ik:=o.idx hk
 have ik1:=o.idx (show k-1<L.length by omega)
 simp -dsimp only [zcj.k3,ik,B.zd]
 refine o.ld S (List.getElem?_eq_getElem hk) ?_
 simp -dsimp only [e1,ik1,B.zd]
 refine o.ld S (List.getElem?_eq_getElem (show k-1<L.length by omega)) ?_
 simp -dsimp only [heq,B.zd]
 have hct:=znh hk0 hk
 refine B.zt (fun he=> ?_) (fun he=> ?_)
 rotate_left
 ·rw [decide_eq_false_iff_not] at he
  rw [if_neg he,hck] at hct
  simp -dsimp only [add1 (show k<4611686018427387904 by omega),B.zd]
  refine hY (t-1) _ _ (by omega) ⟨rfl,k+1,by omega,rfl,by omega,?_⟩
  rw [hct,List.take_add_one,List.getElem?_eq_getElem hk];rfl
 rw [decide_eq_true_eq] at he
 rw [if_pos he,hck] at hct
 have cut: ∀ {h':za} {G:List α} {R':List (List AVal)},Rw (opsS bytes z f) (fun a=>[v a]) h0 h' x G R'->G.length=L.length-> ∃ y R2,V.zim 1 x (some (.int .i64 (k:Int))) none=some y /\ SlX h' 1 y ((G.drop k).map (fun a=>[v a])) R2:=fun {h' G R'} o' hG=>by
  obtain ⟨y,R2,h1,h2,_⟩:=(Owns.slAt o' 0 rfl).sliceIn (Nat.one_pos) (a:=some (.int .i64 (k:Int))) (b:=none) (lo:=k) (hi:=G.length) (.inr ⟨_,rfl⟩) (.inl ⟨rfl,rfl⟩) (by omega) (Nat.le_refl _)
  rw [List.take_length] at h2
  exact ⟨y,R2,h1,h2⟩
 obtain ⟨s2,_,hs2,_⟩:=cut o rfl
 have cut2: ∀ {h':za} {G:List α},Rw (opsS bytes z f) (fun a=>[v a]) h0 h' x G R->G.length=L.length-> ∃ R2,SlX h' 1 s2 ((G.drop k).map (fun a=>[v a])) R2:=fun {h' G} o' hG=>by
  obtain ⟨y,R2,e1,e2⟩:=cut o' hG
  rw [hs2] at e1
  cases e1
  exact ⟨R2,e2⟩
 have hs2':V.zim (opsS bytes z f).es x (some (.int .i64 (k:Int))) none=some s2:=hs2
 simp -dsimp only [hs2',B.zd]
 refine zx.intro (fun t vs h2=> ∃ (i j:Nat) (G:List α),k+j+t=L.length /\ vs=[.int .i64 (i:Int),.int .i64 (j:Int)] /\ k <= i /\ i+1 <= k+j /\ 0<j /\ G.length=L.length /\ G.take i=zeu (L.take (k+j)) /\ (∀ q,k+j <= q+1->G[q]? =L[q]?) /\ Rw (opsS bytes z f) (fun a=>[v a]) h0 h2 x G R) (L.length-(k+1)) ?_
  ⟨k,1,L,by omega,rfl,Nat.le_refl _,Nat.le_refl _,Nat.one_pos,rfl,hct.symm,fun _ _=>rfl,o⟩
 rintro Z t2 vs h2 ⟨i,j,G,hjt,rfl,hki,hij,hj0,hGl,hGt,hGq,o2⟩ hZ
 obtain ⟨R2,x2⟩:=cut2 o2 hGl
 have ln2:V.zcv s2=some (.int .i64 ((L.length-k:Nat):Int)):=by have:=x2.zcv;simpa [hGl] using this
 simp -dsimp only [zcj.l2,zcj.k1,ln2,lssN,B.zd]
 refine B.zt (fun hlt=> ?_) (fun hlt=> ?_)
 ·rw [decide_eq_true_eq] at hlt
  have dl: ∀ q,q<L.length-k->(G.drop k)[q]? =G[k+q]? :=fun q _=>by rw [List.getElem?_drop]
  have lj:j<((G.drop k).map (fun a=>[v a])).length:=by simp;omega
  have lj1:j-1<((G.drop k).map (fun a=>[v a])).length:=by simp;omega
  have gj:((G.drop k).map (fun a=>[v a]))[j]? =some ((fun a=>[v a]) L[k+j]):=by
   rw [List.getElem?_map,dl j hlt,hGq (k+j) (by omega),List.getElem?_eq_getElem (by omega)];rfl
  have gj1:((G.drop k).map (fun a=>[v a]))[j-1]? =some ((fun a=>[v a]) L[k+j-1]):=by
   rw [List.getElem?_map,dl (j-1) (by omega),show k+(j-1)=k+j-1 by omega,hGq (k+j-1) (by omega),List.getElem?_eq_getElem (by omega)];rfl
  have ij:V.idxS (opsS bytes z f).es s2 (.int .i64 (j:Int))=some (elp 1 s2 j 0):=x2.idxN lj
  have ij1:V.idxS (opsS bytes z f).es s2 (.int .i64 ((j-1:Nat):Int))=some (elp 1 s2 (j-1) 0):=x2.idxN lj1
  have e2:V.bin .sub (.int .i64 (j:Int)) (.int .i64 1)=some (.int .i64 ((j-1:Nat):Int)):=zfo (b:=1) (by omega) (by omega)
  simp -dsimp only [ij,B.zd]
  refine S.ld x2 gj ?_
  simp -dsimp only [e2,ij1,B.zd]
  refine S.ld x2 gj1 ?_
  simp -dsimp only [hne',B.zd]
  have hst:=znh (L:=L) (k:=k+j) (by omega) (by omega)
  refine B.zt (fun hne=> ?_) (fun hne=> ?_)
  ·have hne:L[k+j]≠L[k+j-1]:=by simpa using hne
   rw [if_neg hne] at hst
   simp -dsimp only [ij,B.zd]
   refine S.ld x2 gj ?_
   simp -dsimp only [o2.idx (show i<G.length by omega),B.zd]
   refine o2.st S (t:=L[k+j]) (by omega) fun h3 o3=> ?_
   simp -dsimp only [add1 (show i<4611686018427387904 by omega),add1 (show j<4611686018427387904 by omega),B.zd]
   refine hZ (t2-1) _ _ (by omega) ⟨i+1,j+1,_,by omega,rfl,by omega,by omega,by omega,by simpa using hGl,?_,fun q hq'=> ?_,o3⟩
   ·rw [<- Nat.add_assoc,hst, <- hGt,List.take_add_one]
    rw [List.getElem?_set_self (by omega),List.take_set_of_le (Nat.le_refl _)];rfl
   ·rw [List.getElem?_set_ne (by omega)];exact hGq q (by omega)
  ·have hne:L[k+j]=L[k+j-1]:=by simpa using hne
   rw [if_pos hne] at hst
   simp -dsimp only [add1 (show j<4611686018427387904 by omega),B.zd]
   exact hZ (t2-1) _ _ (by omega) ⟨i,j+1,G,by omega,rfl,hki,by omega,by omega,hGl,by rw [<- Nat.add_assoc,hst];exact hGt,fun q hq'=>hGq q (by omega),o2⟩
 ·rw [decide_eq_false_iff_not] at hlt
  have:k+j=L.length:=by omega
  rw [this,List.take_length] at hGt
  obtain ⟨y,y1,y2⟩:=Owns.clrTail (z:=[z]) (lo:=i) (K:=fun v h=>B.pv (V.zim 1 x none (some (.int .i64 (i:Int)))) fun v59=>Q v59 h) o2 0 rfl rfl (by simp;omega) fun h3 o3 _=>by
   have o3:Owns h0 h3 [.sl 1 x ((G.map (fun a=>[v a])).take i++List.replicate ((G.map (fun a=>[v a])).length-i) [z]) R]:=o3
   obtain ⟨z',z1,z2⟩:=o3.cutTo Nat.one_pos (k:=i) (by simp;omega)
   simp -dsimp only [z1,B.zd]
   have e3:((G.map (fun a=>[v a])).take i++List.replicate ((G.map (fun a=>[v a])).length-i) [z]).take i=(zeu L).map (fun a=>[v a]):=by
    rw [List.take_append_of_le_length (by simp;omega),List.take_take,Nat.min_self, <- List.map_take,hGt]
   rw [e3] at z2
   exact hq z' h3 _ z2
  have y1':V.zim (opsS bytes z f).es x (some (.int .i64 (i:Int))) none=some y:=y1
  simp -dsimp only [y1',B.zd]
  exact y2
end
end Go.Ab
namespace Go.Ab
variable {C:CSem} {N:zN}
theorem V.bin_slss (a b:List UInt8):V.bin .lss (.str a) (.str b)=some (.bool (zft a b)):=rfl
theorem weakB:Weak (zd9 cmpB):=by
 constructor<;>simp only [zd9,decide_eq_true_eq,decide_eq_false_iff_not,znk]
 ·intro a b h;rw [zlh h];simp
 ·intro a b c h1 h2 h3
  have h1:zft a b=false:=by simpa using h1
  have h2:zft b c=false:=by simpa using h2
  by_cases e:a=b
  ·subst e;rw [h2] at h3;cases h3
  ·have:=zif (zjq h1 e) h3
   rw [h2] at this;cases this
def zdk.Spec (C:CSem) (N:zN):Prop:= ∀ (a:List UInt8) (h:za) (Q:zQ),Q (.bool false) h->C (N 389) [.str a] h Q
theorem zdk.spec (i:zdk.Imp C N):zdk.Spec C N:=by
 intro a h Q hq
 apply i
 simp -dsimp
 exact zbr hq
def zdl.Spec (C:CSem) (N:zN):Prop:= ∀ (a b:List UInt8) (h:za) (Q:zQ),Q (.bool (zft a b)) h->C (N 377) [.str a,.str b] h Q
theorem zdl.spec (i:zdl.Imp C N) (s1:zdk.Spec C N):zdl.Spec C N:=by
 intro a b h Q hq
 apply i
 simp -dsimp
 refine s1 _ _ _ ?_
 simp -dsimp [V.bin_slss]
 exact zbr hq
def SortedB (L:List (List UInt8)):Prop:=L.Pairwise fun s t=>zft t s=false
def zbo.Spec (C:CSem) (N:zN):Prop:= ∀ (h0 h:za) (x:AVal) (L:List (List UInt8)) (R:List (List AVal)) (Q:zQ),Owns h0 h [.sl 1 x (L.map tc) R]->L.length <= 100000000 ->
 (∀ h' (L':List (List UInt8)),L'.Perm L->SortedB L'->Owns h0 h' [.sl 1 x (L'.map tc) R]->Q (.tup []) h')->C (N 364) [x] h Q
theorem seqT:zcz (opsS 16 (.str []) 0) tc (fun a:List UInt8=>AVal.str a):=seqS (by omega) fun _=>rfl
theorem zbo.spec (i:zbo.Imp C N) (j1:zby.Imp C N) (j2:zcn.Imp C N) (j3:zcx.Imp C N) (j4:zbp.Imp C N)
  (j5:zcb.Imp C N) (j6:zcf.Imp C N) (j7:zb7.Imp C N) (j8:zct.Imp C N) (j9:zb5.Imp C N) (k1:zb0.Imp C N)
  (k2:zc4.Imp C N) (k3:zc2.Imp C N) (k4:zcr.Imp C N) (k5:NextI C (N 298)) (k6:PowI C (N 299)) (hl:LenI C (N 287)) (s1:zdl.Spec C N):zbo.Spec C N:=by
 intro h0 h x L R Q ho hlen hq
 have J:OrdI C (opsS 16 (.str []) 0) (N 377) (N 378) (N 379) (N 375) (N 380) (N 381) (N 382) (N 383) (N 384) (N 385) (N 387) (N 388) (N 390) (N 386) (N 298) (N 299):=⟨j1,j2,j3,j4,j5,j6,j7,j8,j9,k1,k2,k3,k4,k5,k6⟩
 have hc:Ord.zdm C (fun a:List UInt8=>AVal.str a) cmpB (N 377) h0:=⟨fun h' a b K _ hk=>s1 _ _ _ _ (by
  rw [show zft a b=decide (cmpB a b<0) by rw [Bool.eq_iff_iff,decide_eq_true_eq];exact znk.symm];exact hk)⟩
 refine i _ _ _ (Sort_spec J hl seqT weakB hc hlen (show Rw _ _ _ _ _ _ _ from ho) fun h' G' hp hs o'=>zbr (hq h' G' hp (hs.imp fun {a b} hab=> ?_) o'))
 rw [znk] at hab
 simpa using hab
def zbh.Spec (C:CSem) (N:zN):Prop:= ∀ (h0 h:za) (x:AVal) (L:List (List UInt8)) (R:List (List AVal)) (Q:zQ),Owns h0 h [.sl 1 x (L.map tc) R]->L.length <= 100000000 ->
 (∀ y h' R',Owns h0 h' [.sl 1 y ((zeu L).map tc) R']->Q y h')->C (N 365) [x] h Q
theorem zbh.spec (i:zbh.Imp C N):zbh.Spec C N:=fun h0 h x L R Q ho hlen hq=>
 i x h Q (compactG_spec (v:=fun a:List UInt8=>AVal.str a) (by omega) (fun _=>rfl) V.bin_seql V.bin_sneq ho hlen fun y h' R' o=>zbr (hq y h' R' o))
theorem repL_one: ∀ (n:Nat) (v:AVal),repL n [v]=List.replicate n v
 | 0,_=>rfl
 | n+1,v=>(congrArg (v:: ·) (repL_one n v)).trans rfl
def zbw.Spec (C:CSem) (N:zN):Prop:= ∀ (n:Nat) (h:za) (Q:zQ),n <= 100000000->(∀ x h' R,Owns h h' [.sl 1 x [] R]->Q x h')->C (N 376) [.nils,.int .i64 (n:Int)] h Q
theorem zbw.spec (i:zbw.Imp C N):zbw.Spec C N:=by
 intro n h Q hn hq
 apply i
 have e0:V.bin .lss (.int .i64 (n:Int)) (.int .i64 0)=some (.bool (decide (n<0))):=lssN (b:=0)
 have e1:V.bin .sub (.int .i64 0) (.int .i64 0)=some (.int .i64 0):=rfl
 have e2:V.bin .sub (.int .i64 (n:Int)) (.int .i64 0)=some (.int .i64 (n:Int)):=zfo (b:=0) (by omega) (by omega)
 simp -dsimp only [zbw.cps,zgh.cps,zgh.k1,e0,e1,e2,V.capSl,V.zcv,V.bin_gtr,B.zd,Nat.not_lt_zero,decide_false,B.cond_false]
 refine B.zt (fun hb=> ?_) (fun hb=> ?_)
 ·have hb:0<n:=by simpa using hb
  have e3:V.zim (opsS 16 (.str []) 0).es .nils none (some (.int .i64 0))=some .nils:=rfl
  have ec:V.capSl .nils=some (.int .i64 0):=rfl
  have el:V.zcv .nils=some (.int .i64 0):=rfl
  simp -dsimp only [ec,e3,B.zd]
  refine ⟨⟨rfl,by omega,by simp [opsS];omega,by simp [maxLen];omega⟩,fun id hid=> ?_⟩
  have hr:repL (n:Int).toNat (opsS 16 (.str []) 0).z=List.replicate n (.str []):=by rw [Int.toNat_natCast];exact repL_one n _
  rw [hr]
  have o:=(Owns.start h).newSl (id:=id) (n:=n) (cp:=n) (es:=1) (cs:=List.replicate n (.str [])) (L:=List.replicate n [.str []]) (R:=[]) hid (by simp) (by simp) (by simp) (by simp)
  obtain ⟨y,e4,e5⟩:=Owns.cutTo (x:= .sl id 0 0 n 1 n) o Nat.one_pos (k:=0) (by omega)
  rw [Int.toNat_natCast]
  simp -dsimp only [el,B.zd]
  have e4':V.zim (opsS 16 (.str []) 0).es (.sl id 0 0 n (opsS 16 (.str []) 0).es n) none (some (.int .i64 0))=some y:=e4
  simp -dsimp only [e4',B.zd]
  exact zbr (hq y _ _ e5)
 ·exact zbr (hq _ _ _ ((Owns.start h).nils 1))
theorem zo9 {α:Type} {L:List (List α)} {k:Nat} (hk:k<L.length):((L.take (k+1)).flatten).length=(L.take k).flatten.length+L[k].length:=by
 rw [List.take_add_one,List.getElem?_eq_getElem hk];simp only [Option.toList_some,List.flatten_append,List.length_append,List.flatten_singleton]
theorem sumLen_le {α:Type} (L:List (List α)) (k:Nat):((L.take k).flatten).length <= L.flatten.length:=by
 conv=>rhs;rw [<- List.take_append_drop k L]
 simp only [List.flatten_append,List.length_append];omega
def zl.Spec (C:CSem) (N:zN):Prop:= ∀ (x:AVal) (xs:List AVal) (L:List (List (List UInt8))) (R:List (List AVal)) (h:za) (Q:zQ),SlX h 1 x (xs.map fun y=>[y]) R->xs.length=L.length->(∀ (i:Nat) (y:AVal) (l:List (List UInt8)),xs[i]? =some y->L[i]? =some l-> ∃ R,SlX h 1 y (l.map tc) R)->L.length <= 1000->L.flatten.length <= 100000000 ->
 (∀ x' h' R',Owns h h' [.sl 1 x' (L.flatten.map tc) R']->Q x' h')->C (N 373) [x] h Q
theorem zl.spec (i:zl.Imp C N) (s1:zbw.Spec C N):zl.Spec C N:=by
 intro x xs L R h Q hx hxl hin hl1 hl2 hq
 apply i
 have hlen:=hx.zcv
 rw [List.length_map,hxl] at hlen
 simp -dsimp only [zl.cps,hlen,B.zd]
 have cell: ∀ {hh:za} (hle:h.le hh) {k:Nat} (hk:k<L.length) {K:AVal->Prop},(∀ y R2,SlX hh 1 y (L[k].map tc) R2->K y)->B.pv (V.idxS 1 x (.int .i64 (k:Int))) (fun v=>B.ld hh v K):=fun {hh} hle {k} hk {K} hK=>by
  have hg:(xs.map fun y=>[y])[k]? =some [xs[k]'(by omega)]:=by rw [List.getElem?_map,List.getElem?_eq_getElem (by omega)];rfl
  have hidx:V.idxS 1 x (.int .i64 (k:Int))=some (elp 1 x k 0):=hx.idxN (by simp;omega)
  rw [hidx,B.zd]
  rw [B.zgl,(hx.mono hle).cell hg,B.zd]
  obtain ⟨R2,h2⟩:=hin k _ _ (List.getElem?_eq_getElem (by omega)) (List.getElem?_eq_getElem hk)
  exact hK _ _ (h2.mono hle)
 refine zx.intro (fun t vs hh=>hh=h /\ ∃ k:Nat,k+t=L.length /\ vs=[.int .i64 ((L.take k).flatten.length:Int),.int .i64 (k:Int)]) L.length ?_ ⟨rfl,0,by omega,rfl⟩
 rintro Y t vs hh ⟨rfl,k,ht,rfl⟩ hY
 simp -dsimp only [zl.l4,zl.k3,lssN,B.zd]
 refine B.zt (fun hb=> ?_) (fun hb=> ?_)
 ·rw [decide_eq_true_eq] at hb
  have hs:=zo9 hb
  have hle:=sumLen_le L (k+1)
  refine cell (za.le_refl _) hb fun y R2 hy=> ?_
  have e1:=hy.zcv
  rw [List.length_map] at e1
  have e2:V.bin .lss (.int .i64 (((L.take k).flatten.length+L[k].length:Nat):Int)) (.int .i64 0)=some (.bool false):=by
   exact (lssN (b:=0)).trans (by simp)
  simp -dsimp only [e1,zgr (a:=(L.take k).flatten.length) (b:=L[k].length) (by omega),e2,B.zd,B.cond_false,add1 (show k<4611686018427387904 by omega)]
  exact hY (t-1) _ _ (by omega) ⟨rfl,k+1,by omega,by rw [hs]⟩
 ·rw [decide_eq_false_iff_not] at hb
  have hk:k=L.length:=by omega
  subst hk
  rw [List.take_length]
  refine s1 _ _ _ hl2 fun y0 h1 R1 o1=> ?_
  simp -dsimp only [hlen,B.zd]
  refine zx.intro (fun t vs h2=> ∃ (k:Nat) (y:AVal) (R2:List (List AVal)),k+t=L.length /\ vs=[y,.int .i64 (k:Int)] /\ Owns hh h2 [.sl 1 y ((L.take k).flatten.map tc) R2]) L.length ?_ ⟨0,y0,R1,by omega,rfl,o1⟩
  rintro Z t2 vs h2 ⟨k,y,R2,ht2,rfl,o2⟩ hZ
  simp -dsimp only [zl.l2,zl.k1,lssN,B.zd]
  refine B.zt (fun hc=> ?_) (fun hc=> ?_)
  ·rw [decide_eq_true_eq] at hc
   have hs:=zo9 hc
   have hle:=sumLen_le L (k+1)
   refine cell o2.le hc fun z R3 hz=> ?_
   refine o2.appW 0 rfl hz Nat.one_pos (by simp only [List.length_map];omega) (by simp only [List.length_map,maxLen];omega) fun x' h' o3 _=> ?_
   simp -dsimp only [add1 (show k<4611686018427387904 by omega),B.zd]
   refine hZ (t2-1) _ _ (by omega) ⟨k+1,x',[],by omega,rfl,?_⟩
   rw [List.take_add_one,List.getElem?_eq_getElem hc,Option.toList_some,List.flatten_append,List.flatten_singleton,List.map_append]
   exact o3
  ·rw [decide_eq_false_iff_not] at hc
   have hk:k=L.length:=by omega
   subst hk
   rw [List.take_length] at o2
   exact zbr (hq _ _ _ o2)
end Go.Ab
namespace Go.Ab
variable {C:CSem} {N:zN}
theorem itm_get {h:za} {x:AVal} {L:List Itm} (hx:Dl zfn h x L) {i:Nat} {r:Itm} (hr:L[i]? =some r): ∃ p o,V.idxS 4 x (.int .i64 (i:Int))=some (elp 4 x i 0) /\ A.ldnv h (elp 4 x i 0) 4=some (.agg (iCells r (p,o))) /\ V.fieldAddr 0 (elp 4 x i 0)=some (elp 4 x i 0) /\
  V.fieldAddr 2 (elp 4 x i 0)=some (elp 4 x i 2) /\ V.fieldAddr 3 (elp 4 x i 0)=some (elp 4 x i 3) /\ A.ldv h (elp 4 x i 0)=some (.str r.Code) /\ A.ldv h (elp 4 x i 2)=some p /\ A.ldv h (elp 4 x i 3)=some o /\ zfn.at_ h r (p,o):=by
 obtain ⟨a,ea⟩:=hx.get hr
 exact ⟨a.1,a.2,ea.idx,ea.ldn,ea.fld 0 0,ea.fld 0 2,ea.fld 0 3,ea.ld 0 (by decide),ea.ld 2 (by decide),ea.ld 3 (by decide),ea.at_⟩
end Go.Ab
set_option maxRecDepth 100000
namespace Go.Ab
variable {C:CSem} {N:zN}
structure BagK where
 es:Nat->Nat
 lim:Nat->Nat
 full:Nat->Bool
abbrev LK:=List (AVal×List (List AVal))
theorem LK.fills (l:LK):fills l.length (fun j=>[(l.getD j (.nils,[])).1])=l.map fun q=>[q.1]:=by
 apply List.ext_getElem?
 intro j
 by_cases hj:j<l.length
 ·rw [fills_get _ hj,List.getElem?_map,List.getElem?_eq_getElem hj];simp [hj]
 ·rw [List.getElem?_eq_none (by simp;omega),List.getElem?_eq_none (by simp;omega)]
section
variable {b:BagK} {h0 h:za} {id:Nat} {L:Nat->LK} {xs:Nat->AVal} {Q:zQ}
end
end Go.Ab
set_option maxRecDepth 100000
namespace Go.Ab
variable {C:CSem} {N:zN}
def two {α:Type} (a b:α):Nat->α:=fun j=>if j=0 then a else b
end Go.Ab
set_option maxRecDepth 100000
namespace Go.Ab
variable {C:CSem} {N:zN}
theorem litO {h:za} {es n:Nat} {cs:List AVal} (L:List (List AVal)) {K:Nat->za->Prop} (hc:cs=L.flatten) (hL: ∀ p∈L,p.length=es) (hn:n=L.length) (hK: ∀ i h',Owns h h' [.sl es (.sl i 0 0 n es n) L []]->K i h'):B.newO h (some cs) K:=
 fun i hi=>hK i _ ((Owns.start h).newSl hi (by simpa using hL) hn (by simp;omega) (by simpa using hc))
end Go.Ab
namespace Go.Ab
def zqm:DK Itm (AVal×AVal) where
 n:=4
 bytes:=72
 z:=[.str [],.int .i64 0,.nils,.nils]
 pos:=by omega
 small:=by omega
 zlen:=rfl
 cells t a:=[.str t.Code,.int .i64 t.Life,a.1,a.2]
 len _ _:=rfl
 at_ h t a:=(∃ R,SlX h 2 a.1 (t.ze0.map Part.cs) R) /\ (∃ R,SlX h 1 a.2 (t.zed.map tc) R)
 mono hle ha:=⟨ha.1.imp fun _ r=>r.mono hle,ha.2.imp fun _ r=>r.mono hle⟩
 ok _:=True
 at_ok _:=trivial
 obs b t a:=[partsOb b a.1 t.ze0,textsOb b a.2 t.zed]
 ofObs {b h t a} _ ha:=⟨⟨_,show SlX h 2 a.1 (t.ze0.map Part.cs) (bif b then zp2 else []) from ha (partsOb b a.1 t.ze0) (by simp)⟩,⟨_,show SlX h 1 a.2 (t.zed.map tc) (bif b then zp1 else []) from ha (textsOb b a.2 t.zed) (by simp)⟩⟩
theorem itemW_K {h:za} {x:AVal} {L:List Itm} (hx:Dl zqm h x L) (hok: ∀ t∈L,t.ok):Dl zfn h x L:=by
 obtain ⟨P,R,rfl,s,ha⟩:=hx
 exact ⟨P,R,rfl,s,fun p hp=>⟨(ha p hp).1,(ha p hp).2,hok p.1 (List.mem_map_of_mem hp)⟩⟩
def Itm.inLen (t:Itm):Prop:=t.Code.length<4611686018427387904 /\ (∀ p∈t.ze0,p.Item.length<4611686018427387904) /\ (∀ o∈t.zed,o.length<4611686018427387904) /\ t.ze0.length<100000000000000000 /\ t.zed.length<100000000000000000
abbrev tyItem:Ty:= .st [.s,.i .i64,.sl 24 2 tyPart,.sl 16 1 .s]
theorem zqh {H:za} {b e:Nat} {t:Ty} {c:List AVal} (h:zg0 H (.sl b e t) c): ∃ v,c=[v]:=by
 rcases h with h|h|⟨_,_,h,_⟩<;>exact ⟨_,h⟩
theorem dPartL {H:za} {p:List AVal} (h:zg0 H tyPart p): ∃ w:Part,p=w.cs /\ w.Item.length<4611686018427387904:=by
 obtain ⟨a,r,rfl,⟨n1,rfl,q1⟩,⟨b,r2,rfl,⟨n2,rfl,_⟩,hr⟩⟩:=h
 cases hr
 exact ⟨⟨n1,n2⟩,rfl,by unfold reach at q1;show n1.length<_;omega⟩
theorem dPartsL {H:za} {v:AVal} (h:zg0 H (.sl 24 2 tyPart) [v]): ∃ L:List Part,SlIs H 2 v (L.map Part.cs) /\ L.length<100000000000000000 /\ ∀ l∈L,l.Item.length<4611686018427387904:=by
 obtain ⟨L,h1,h2,h3⟩:=zlr Part.cs (fun l=>l.Item.length<4611686018427387904) (fun p hp=>dPartL hp) h
 exact ⟨L,h1,by unfold reach at h2;omega,h3⟩
theorem dTextW {H:za} {p:List AVal} (h:zg0 H .s p): ∃ s:List UInt8,p=tc s /\ s.length<4611686018427387904:=by
 obtain ⟨s,rfl,q⟩:=h
 exact ⟨s,rfl,by unfold reach at q;omega⟩
theorem dTextsL {H:za} {v:AVal} (h:zg0 H (.sl 16 1 .s) [v]): ∃ L:List (List UInt8),SlIs H 1 v (L.map tc) /\ L.length<100000000000000000 /\ ∀ s∈L,s.length<4611686018427387904:=by
 obtain ⟨L,h1,h2,h3⟩:=zlr tc (fun s=>s.length<4611686018427387904) (fun p hp=>dTextW hp) h
 exact ⟨L,h1,by unfold reach at h2;omega,h3⟩
theorem dItem {H:za} {p:List AVal} (h:zg0 H tyItem p): ∃ (t:Itm) (a:AVal×AVal),p=zqm.cells t a /\ zqm.at_ H t a /\ t.inLen:=by
 obtain ⟨a,r,rfl,⟨n1,rfl,q1⟩,⟨b,r2,rfl,⟨n2,rfl,_⟩,⟨c,r3,rfl,h3,⟨d,r4,rfl,h4,hr⟩⟩⟩⟩:=h
 cases hr
 obtain ⟨v,rfl⟩:=zqh h3
 obtain ⟨w,rfl⟩:=zqh h4
 obtain ⟨P,k1,k2,k3⟩:=dPartsL h3
 obtain ⟨O,g1,g2,g3⟩:=dTextsL h4
 exact ⟨⟨n1,n2,P,O⟩,(v,w),rfl,⟨⟨[],k1⟩,⟨[],g1⟩⟩,by unfold reach at q1;show n1.length<_;omega,k3,g3,k2,g2⟩
theorem arg_sliceDP {T Ad:Type} {K:DK T Ad} {Pr:T->Prop} {H:za} {bytes:Nat} {e:Ty} {v:AVal} (hd: ∀ p,zg0 H e p-> ∃ (t:T) (a:Ad),p=K.cells t a /\ K.at_ H t a /\ Pr t) (h:zg0 H (.sl bytes K.n e) [v]): ∃ L:List T,Dl K H v L /\ L.length*bytes <= reach /\ ∀ t∈L,Pr t:=by
 obtain ⟨G,h1,h2⟩:=arg_slice (T:={ p:T×Ad // K.at_ H p.1 p.2 /\ Pr p.1 }) (fun p=>K.cells p.1.1 p.1.2) (fun p hp=>by obtain ⟨t,a,e,k⟩:=hd p hp;exact ⟨⟨(t,a),k⟩,e⟩) h
 refine ⟨(G.map (·.1)).map (·.1),⟨G.map (·.1),[],rfl,?_,fun p hp=> ?_⟩,by simpa using h2,fun t ht=> ?_⟩
 ·rw [List.map_map];exact h1
 ·obtain ⟨q,_,rfl⟩:=List.mem_map.1 hp;exact q.2.1
 ·obtain ⟨q,hq,rfl⟩:=List.mem_map.1 ht
  obtain ⟨q',_,rfl⟩:=List.mem_map.1 hq
  exact q'.2.2
theorem dItems {H:za} {v:AVal} (h:zg0 H (.sl 72 4 tyItem) [v]): ∃ L:List Itm,Dl zqm H v L /\ L.length<4611686018427387904 /\ ∀ t∈L,t.inLen:=by
 obtain ⟨L,h1,h2,h3⟩:=arg_sliceDP (K:=zqm) (fun p hp=>dItem hp) h
 exact ⟨L,h1,by unfold reach at h2;omega,h3⟩
end Go.Ab
set_option maxRecDepth 100000
namespace Go.Ab
variable {C:CSem} {N:zN}
theorem itm_getW {h:za} {x:AVal} {L:List Itm} (hx:Dl zqm h x L) {i:Nat} {r:Itm} (hr:L[i]? =some r): ∃ p o,V.idxS 4 x (.int .i64 (i:Int))=some (elp 4 x i 0) /\ V.fieldAddr 0 (elp 4 x i 0)=some (elp 4 x i 0) /\
  V.fieldAddr 2 (elp 4 x i 0)=some (elp 4 x i 2) /\ V.fieldAddr 3 (elp 4 x i 0)=some (elp 4 x i 3) /\ A.ldv h (elp 4 x i 0)=some (.str r.Code) /\ A.ldv h (elp 4 x i 2)=some p /\ A.ldv h (elp 4 x i 3)=some o /\
  (∃ R,SlX h 2 p (r.ze0.map Part.cs) R) /\ V.zcv p=some (.int .i64 (r.ze0.length:Int)) /\ (∃ R,SlX h 1 o (r.zed.map tc) R) /\ V.zcv o=some (.int .i64 (r.zed.length:Int)):=by
 obtain ⟨a,ea⟩:=hx.get hr
 obtain ⟨⟨R1,a1⟩,⟨R2,a2⟩⟩:(∃ R,SlX h 2 a.1 (r.ze0.map Part.cs) R) /\ (∃ R,SlX h 1 a.2 (r.zed.map tc) R):=ea.at_
 exact ⟨a.1,a.2,ea.idx,ea.fld 0 0,ea.fld 0 2,ea.fld 0 3,ea.ld 0 (by decide),ea.ld 2 (by decide),ea.ld 3 (by decide),⟨R1,a1⟩,by simpa using a1.zcv,⟨R2,a2⟩,by simpa using a2.zcv⟩
theorem quo20 {a:Nat} (h:a<4611686018427387904):V.bin .quo (.int .i64 (a:Int)) (.int .i64 20)=some (.int .i64 ((a / 20:Nat):Int)):=by
 rw [V.zjf _ _ _ (by omega),show (a:Int).tdiv 20=((a / 20:Nat):Int) from rfl,wrap_i64 (by omega) (by omega)]
theorem litT {h:za} (L:List (List UInt8)) {cs:List AVal} {n:Nat} {K:Nat->za->Prop} (hc:cs=(L.map tc).flatten) (hn:n=L.length) (hK: ∀ i h',Owns h h' [.sl 1 (.sl i 0 0 n 1 n) (L.map tc) []]->K i h'):B.newO h (some cs) K:=
 litO (L.map tc) hc (by intro p hp;obtain ⟨_,_,rfl⟩:=List.mem_map.1 hp;rfl) (by simpa using hn) hK
end Go.Ab
namespace Go.Ab
structure Sta where
 Now:Int
 zh7:Int
 zge:Int
 zdg:List Itm
 Lots:List Lot
 zex:List Line
 deriving DecidableEq
end Go.Ab
namespace Go.Ab
variable {C:CSem} {N:zN}
section
variable {hb h0 h:za} {l:List Ob} {p:AVal} {b:List UInt8} {r:Rdr}
theorem endGet {o:Ob}:(l++[o])[l.length]? =some o:=by simp
theorem endSet {o o':Ob}:(l++[o]).set l.length o'=l++[o']:=by simp
end
end Go.Ab
namespace Go.Ab
variable {C:CSem} {N:zN}
def zbt.Spec (C:CSem) (N:zN):Prop:= ∀ (x:AVal) (L:List (List UInt8)) (R:List (List AVal)) (s:List UInt8) (h:za) (Q:zQ),SlX h 1 x (L.map tc) R->L.length<4611686018427387904 ->
 (∀ n:Int,(0 <= n↔s∈L)->Q (.int .i64 n) h)->C (N 445) [x,.str s] h Q
theorem zbt.spec (i:zbt.Imp C N):zbt.Spec C N:=by
 intro x L R s h Q hx hl hq
 apply i
 have hlx:=hx.zcv
 rw [List.length_map] at hlx
 simp -dsimp only [zbt.cps,zev.cps,hlx,B.zd]
 refine zx.intro (fun n vs hh=> ∃ k:Nat,k+n=L.length /\ vs=[.int .i64 (k:Int)] /\ hh=h /\ s∉L.take k) L.length ?_ ⟨0,by simp,rfl,rfl,by simp⟩
 rintro Y n vs hh ⟨k,hn,rfl,rfl,hno⟩ hY
 simp -dsimp only [zev.l2,zev.k1,lssN,B.zd]
 refine B.zt (fun hc=> ?_) (fun hc=> ?_)
 ·rw [decide_eq_true_eq] at hc
  obtain ⟨w,hw⟩:=zfb hc
  have hk:k<(L.map tc).length:=by simpa using hc
  have e1:A.ldv hh (elp 1 x k 0)=some (.str w):=hx.cell (get_map hw)
  have e2:V.idxS (opsS 16 (.str []) 0).es x (.int .i64 (k:Int))=some (elp 1 x k 0):=hx.idxN hk
  have e3: ∀ (p:AVal) (K:AVal->Prop),(opsS 16 (.str []) 0).ld hh p K=B.pv (A.ldv hh p) K:=fun _ _=>rfl
  simp -dsimp only [e2,e3,e1,B.zd,V.bin_seql]
  refine B.zt (fun hd=> ?_) (fun hd=> ?_)
  ·rw [decide_eq_true_eq] at hd
   subst hd
   exact zbr (hq k ⟨fun _=>List.mem_of_getElem? hw,fun _=>by omega⟩)
  ·rw [decide_eq_false_iff_not] at hd
   simp -dsimp only [add1 (show k<4611686018427387904 by omega),B.zd]
   refine hY (L.length-(k+1)) _ _ (by omega) ⟨k+1,by omega,rfl,rfl,?_⟩
   rw [take_succ hw]
   simp [hno,hd]
 ·rw [decide_eq_false_iff_not] at hc
  have:k=L.length:=by omega
  subst this
  rw [List.take_length] at hno
  exact zbr (hq (-1) ⟨fun h=>by omega,fun h=>absurd h hno⟩)
def zbi.Spec (C:CSem) (N:zN):Prop:= ∀ (x:AVal) (L:List (List UInt8)) (R:List (List AVal)) (s:List UInt8) (h:za) (Q:zQ),SlX h 1 x (L.map tc) R->L.length<4611686018427387904 ->
 Q (.bool (decide (s∈L))) h->C (N 442) [x,.str s] h Q
theorem zbi.spec (i:zbi.Imp C N) (s1:zbt.Spec C N):zbi.Spec C N:=by
 intro x L R s h Q hx hl hq
 apply i
 simp -dsimp only [zbi.cps,zku.cps]
 refine s1 x L R s h _ hx hl fun n hn=> ?_
 simp -dsimp only [V.zgx,B.zd]
 rw [decide_eq_decide.2 hn]
 exact zbr hq
end Go.Ab
namespace Go.Ab
variable {C:CSem} {N:zN}
structure znm (h:za) (s:Sta) (x y z:AVal):Prop where
 items:Dl zfn h x s.zdg
 lots: ∃ R,SlX h 6 y (s.Lots.map Lot.cs) R
 lines: ∃ R,SlX h 8 z (s.zex.map Line.cs) R
 n1:s.zdg.length <= 100000000
 n2:s.Lots.length <= 100000000
 n3:s.zex.length <= 100000000
theorem znm.mono {h h':za} {s:Sta} {x y z:AVal} (a:znm h s x y z) (hle:h.le h'):znm h' s x y z:=
 ⟨a.items.mono hle,a.lots.imp fun _ r=>r.mono hle,a.lines.imp fun _ r=>r.mono hle,a.n1,a.n2,a.n3⟩
abbrev zfp (s:Sta) (x y z:AVal):List AVal:=[.int .i64 s.Now,.int .i64 s.zh7,.int .i64 s.zge,x,y,z]
end Go.Ab
namespace Go.Ab
variable {P:Program} {w0:World} {ρ:Locs} {h H:za} {w:World}
theorem zd2.at: ∀ {as1:List AVal} {l:List Value},zd2 ρ as1 l-> ∀ {j:Nat} {a:AVal},as1[j]? =some a-> ∃ u,l[j]? =some u /\ VRel ρ a u
 | [],_,_,j,a,h=>by simp at h
 | x::as1,_,⟨u,us,rfl,h1,h2⟩,0,a,h=>by simp at h;subst h;exact ⟨u,rfl,h1⟩
 | x::as1,_,⟨u,us,rfl,h1,h2⟩,j+1,a,h=>by
  obtain ⟨v,e1,e2⟩:=zd2.at h2 (j:=j) (by simpa using h)
  exact ⟨v,by simpa using e1,e2⟩
end Go.Ab
namespace Go.Ab
variable {C:CSem} {N:zN}
theorem Owns.lay {h0 h:za} {l l':List Ob} (ho:Owns h0 h (l++l')): ∃ hb:za,h0.le hb /\ hb.le h /\ Owns hb h l /\ AllAt hb l':=by
 obtain ⟨q1,q2⟩:=(ho.perm List.perm_append_comm).out
 exact ⟨_,q1.le,q2.le,q2,q1.is⟩
end Go.Ab
namespace Go.Ab
variable {C:CSem} {N:zN}
abbrev StaO (s:Sta) (x:AVal) (P:List (Itm×(AVal×AVal))) (y z:AVal):List Ob:= .sl 4 x (P.map zfn.cs) []:: .sl 6 y (s.Lots.map Lot.cs) []:: .sl 8 z (s.zex.map Line.cs) []::zfn.os false P
structure StaN (s:Sta) (k:Nat):Prop where
 n:s.zdg.length+s.Lots.length+s.zex.length <= k
 ok: ∀ t∈s.zdg,t.ok
theorem StaO.at {h0 h:za} {s:Sta} {x y z:AVal} {P:List (Itm×(AVal×AVal))} {l:List Ob} (ho:Owns h0 h l) (hl: ∀ o∈StaO s x P y z,o∈l) (e:P.map (·.1)=s.zdg) {k:Nat} (hn:StaN s k) (hk:k <= 100000000):znm h s x y z:=by
 obtain ⟨n,ok⟩:=hn
 refine ⟨?_,⟨[],ho.is (.sl 6 y (s.Lots.map Lot.cs) []) (hl _ (by simp))⟩,⟨[],ho.is (.sl 8 z (s.zex.map Line.cs) []) (hl _ (by simp))⟩,by omega,by omega,by omega⟩
 rw [<- e]
 refine dl_of (K:=zfn) (b:=false) (l:=l) (R:=[]) (fun p hp=>ok _ (by rw [<- e];exact List.mem_map.2 ⟨p,hp,rfl⟩)) ho.is (hl _ (List.mem_cons_self ..)) fun o hm=>hl _ ?_
 simp only [StaO,List.mem_cons]
 exact .inr (.inr (.inr hm))
end Go.Ab
namespace Go.Ab
variable {C:CSem} {N:zN}
def zdv.Spec (C:CSem) (N:zN):Prop:= ∀ (s t:Sta) (x y z u v w:AVal) (h:za) (Q:zQ),znm h s x y z->znm h t u v w->Q (.bool (decide (s=t))) h->C (N 116) [.agg (zfp s x y z),.agg (zfp t u v w)] h Q
theorem Sta.eq_iff (s t:Sta):s=t↔((((s.Now=t.Now /\ s.zh7=t.zh7) /\ s.zge=t.zge) /\ s.zdg=t.zdg) /\ s.Lots=t.Lots) /\ s.zex=t.zex:=by
 cases s;cases t;simp [Sta.mk.injEq,and_assoc]
theorem zdv.spec (i:zdv.Imp C N) (s1:zc9.Spec C N) (s2:zd3.Spec C N) (s3:zdq.Spec C N):zdv.Spec C N:=by
 intro s t x y z u v w h Q hs ht hq
 obtain ⟨a1,⟨R2,a2⟩,⟨R3,a3⟩,n1,n2,n3⟩:=hs
 obtain ⟨b1,⟨S2,b2⟩,⟨S3,b3⟩,m1,m2,m3⟩:=ht
 apply i
 simp +contextual -dsimp
 refine B.znc (v:= .bool (decide (s.zdg=t.zdg))) (fun _ Q hq=>s1 _ _ _ _ _ _ a1 b1 (by omega) hq) ?_
 simp +contextual -dsimp
 refine B.znc (v:= .bool (decide (s.Lots=t.Lots))) (fun _ Q hq=>s2 _ _ _ _ _ _ _ _ a2 b2 (by omega) hq) ?_
 simp +contextual -dsimp
 refine B.znc (v:= .bool (decide (s.zex=t.zex))) (fun _ Q hq=>s3 _ _ _ _ _ _ _ _ a3 b3 (by omega) hq) ?_
 simp -dsimp
 refine zbr ?_
 have:decide (s=t)=(((((decide (s.Now=t.Now)&&decide (s.zh7=t.zh7))&&decide (s.zge=t.zge))&&decide (s.zdg=t.zdg))&&decide (s.Lots=t.Lots))&&decide (s.zex=t.zex)):=by
  rw [Bool.eq_iff_iff]
  simp only [decide_eq_true_eq,Bool.and_eq_true]
  exact Sta.eq_iff s t
 rw [this] at hq
 exact hq
structure StaW (h:za) (s:Sta) (x y z:AVal):Prop where
 items:Dl zqm h x s.zdg
 lots: ∃ R,SlX h 6 y (s.Lots.map Lot.cs) R
 lines: ∃ R,SlX h 8 z (s.zex.map Line.cs) R
 n1:s.zdg.length<4611686018427387904
 n2:s.Lots.length<1000000000000000000
 n3:s.zex.length<1000000000000000000
 inl: ∀ t∈s.zdg,t.inLen
end Go.Ab
namespace Go.Ab
abbrev Key:=List UInt8
abbrev zgz (l:List Key):Prop:=l.Pairwise fun a b=>zft a b=true
theorem zj2 {l m:List Key} (s:zgz l) (t:zgz m) (e: ∀ x,x∈l↔x∈m):l=m:=
 rise_ext (fun a b h1 h2=>by rw [zlh h1] at h2;cases h2) s t e
def putT:List Key->Key->List Key
 | [],s=>[s]
 | x::l,s=>if zft x s=true then x::putT l s else if x=s then x::l else s::x::l
theorem zm2 {s y:Key}: ∀ {l:List Key},y∈putT l s↔y=s \/ y∈l
 | []=>by simp [putT]
 | x::l=>by
  unfold putT
  split
  ·rw [List.mem_cons,zm2,List.mem_cons]
   constructor
   ·rintro (h|h|h)
    ·exact .inr (.inl h)
    ·exact .inl h
    ·exact .inr (.inr h)
   ·rintro (h|h|h)
    ·exact .inr (.inl h)
    ·exact .inl h
    ·exact .inr (.inr h)
  ·split
   ·rename_i h
    subst h
    simp only [List.mem_cons]
    constructor
    ·exact fun h=> .inr h
    ·rintro (h|h)
     ·exact .inl h
     ·exact h
   ·simp only [List.mem_cons]
theorem zj5 {s:Key}: ∀ {l:List Key},zgz l->zgz (putT l s)
 | [],_=>List.pairwise_singleton _ _
 | x::l,h=>by
  obtain ⟨h1,h2⟩:=List.pairwise_cons.1 h
  unfold putT
  split
  ·rename_i hx
   refine List.pairwise_cons.2 ⟨fun y hy=> ?_,zj5 h2⟩
   rcases zm2.1 hy with rfl|hy
   ·exact hx
   ·exact h1 y hy
  ·split
   ·exact h
   ·rename_i h3 h4
    have hs:zft s x=true:=by
     have:zft x s=false:=by simpa using h3
     exact zjq this h4
    refine List.pairwise_cons.2 ⟨fun y hy=> ?_,h⟩
    rcases List.mem_cons.1 hy with rfl|hy
    ·exact hs
    ·exact zif hs (h1 y hy)
theorem putT_len {s:Key}: ∀ {l:List Key},zgz l->(putT l s).length=if s∈l then l.length else l.length+1
 | [],_=>rfl
 | x::l,h=>by
  obtain ⟨h1,h2⟩:=List.pairwise_cons.1 h
  unfold putT
  split
  ·rename_i hx
   rw [List.length_cons,putT_len h2]
   have:s≠x:=fun e=>by subst e;rw [zhw] at hx;cases hx
   by_cases hs:s∈l
   ·rw [if_pos hs,if_pos (List.mem_cons_of_mem _ hs)];rfl
   ·rw [if_neg hs,if_neg (fun e=>by rcases List.mem_cons.1 e with e|e;exact this e;exact hs e)];rfl
  ·split
   ·rename_i h4
    rw [if_pos (by rw [h4];exact List.mem_cons_self ..)]
   ·rename_i h3 h4
    have hs:zft s x=true:=by
     have:zft x s=false:=by simpa using h3
     exact zjq this h4
    rw [if_neg]
    ·rfl
    ·intro hm
     rcases List.mem_cons.1 hm with e|hm
     ·exact h4 e.symm
     ·have:=zif hs (h1 s hm)
      rw [zhw] at this;cases this
def zj4 (l m:List Key):List Key:=m.foldl putT l
theorem zij {y:Key}: ∀ {m l:List Key},y∈zj4 l m↔y∈l \/ y∈m
 | [],l=>by simp [zj4]
 | s::m,l=>by
  have:zj4 l (s::m)=zj4 (putT l s) m:=rfl
  rw [this,zij,zm2,List.mem_cons]
  constructor
  ·rintro ((h|h)|h)
   ·exact .inr (.inl h)
   ·exact .inl h
   ·exact .inr (.inr h)
  ·rintro (h|h|h)
   ·exact .inl (.inr h)
   ·exact .inl (.inl h)
   ·exact .inr h
theorem zj3: ∀ {m l:List Key},zgz l->zgz (zj4 l m)
 | [],l,h=>h
 | s::m,l,h=>zj3 (l:=putT l s) (zj5 h)
def zb3 (I:List Itm):List Key:=zj4 [] (I.map Itm.Code)
theorem zmt (I:List Itm):zgz (zb3 I):=zj3 .nil
theorem zfw {I:List Itm} {c:Key}:c∈zb3 I↔ ∃ t∈I,t.Code=c:=by
 unfold zb3
 rw [zij]
 simp [List.mem_map]
def namesT (t:Itm):List Key:=t.Code::(t.ze0.map Part.Item++t.zed)
def zik (all:List Key) (t:Itm):List Key:=(namesT t).filter fun n=>decide (n∈all)
def hitT (all inn:List Key) (t:Itm):Bool:=(zik all t).any fun n=>decide (n∈inn)
def zhs (all:List Key) (I:List Itm) (inn:List Key):List Key:=I.foldl (fun a t=>if hitT all a t=true then zj4 a (zik all t) else a) inn
def zi7 (all:List Key) (I:List Itm):Nat->List Key->List Key
 | 0,a=>a
 | k+1,a=>if (zhs all I a).length=a.length then zhs all I a else zi7 all I k (zhs all I a)
def zdz (I:List Itm) (c:Key):List Key:=zi7 (zb3 I) I ((zb3 I).length+1) [c]
inductive Eqv (E:Key->Key->Prop):Key->Key->Prop
 | rel {a b:Key}:E a b->Eqv E a b
 | refl (a:Key):Eqv E a a
 | symm {a b:Key}:Eqv E a b->Eqv E b a
 | trans {a b c:Key}:Eqv E a b->Eqv E b c->Eqv E a c
def ziz (I:List Itm) (a b:Key):Prop:= ∃ t∈I,t.Code=a /\ b∈t.ze0.map Part.Item++t.zed /\ b∈zb3 I
theorem known_eqv {I:List Itm} {t:Itm} (ht:t∈I) {n:Key} (hn:n∈zik (zb3 I) t):Eqv (ziz I) t.Code n:=by
 obtain ⟨h1,h2⟩:=List.mem_filter.1 hn
 have h2:n∈zb3 I:=by simpa using h2
 unfold namesT at h1
 rcases List.mem_cons.1 h1 with e|h1
 ·rw [e];exact .refl _
 ·exact .rel ⟨t,ht,rfl,h1,h2⟩
section
variable {I J:List Itm} {all inn:List Key}
theorem zj1: ∀ {J:List Itm} {a:List Key},zgz a->zgz (zhs all J a)
 | [],a,h=>h
 | t::J,a,h=>by
  show zgz (zhs all J (if hitT all a t=true then zj4 a (zik all t) else a))
  refine zj1 ?_
  split
  ·exact zj3 h
  ·exact h
theorem zi8: ∀ {J:List Itm} {a:List Key},∀ x∈a,x∈zhs all J a
 | [],a,x,h=>h
 | t::J,a,x,h=>by
  show x∈zhs all J (if hitT all a t=true then zj4 a (zik all t) else a)
  refine zi8 x ?_
  split
  ·exact zij.2 (.inl h)
  ·exact h
theorem round_all: ∀ {J:List Itm} {a:List Key},(∀ x∈a,x∈all)-> ∀ x∈zhs all J a,x∈all
 | [],a,h=>h
 | t::J,a,h=>by
  show ∀ x∈zhs all J (if hitT all a t=true then zj4 a (zik all t) else a),x∈all
  refine round_all fun x hx=> ?_
  split at hx
  ·rcases zij.1 hx with hx|hx
   ·exact h x hx
   ·simpa using (List.mem_filter.1 hx).2
  ·exact h x hx
theorem zpi {c:Key}: ∀ {J:List Itm} {a:List Key},(∀ t∈J,t∈I)->(∀ x∈a,Eqv (ziz I) c x)-> ∀ x∈zhs (zb3 I) J a,Eqv (ziz I) c x
 | [],a,_,h=>h
 | t::J,a,hJ,h=>by
  show ∀ x∈zhs (zb3 I) J (if hitT (zb3 I) a t=true then zj4 a (zik (zb3 I) t) else a),_
  refine zpi (fun u hu=>hJ u (by simp [hu])) fun x hx=> ?_
  split at hx
  ·rename_i hh
   rcases zij.1 hx with hx|hx
   ·exact h x hx
   ·unfold hitT at hh
    obtain ⟨n,hn,hna⟩:=List.any_eq_true.1 hh
    have hna:n∈a:=by simpa using hna
    have ht:=hJ t (by simp)
    exact .trans (.trans (h n hna) (.symm (known_eqv ht hn))) (known_eqv ht hx)
  ·exact h x hx
theorem round_len: ∀ {J:List Itm} {a:List Key},zgz a->a.length <= (zhs all J a).length:=fun {J a} h=>by
 have hn:a.Nodup:=h.imp fun {x y} e=>zo2 e
 exact hn.length_le_of_subset fun x hx=>zi8 x hx
theorem zf7 {a:List Key} (h:zgz a):a.Nodup:=h.imp fun {x y} e=>zo2 e
theorem zqz {a:List Key} (h:zgz a) (e:(zhs all J a).length=a.length):zhs all J a=a:=by
 have hn:=zf7 h
 have hr:=zj1 (all:=all) (J:=J) h
 refine zj2 hr h fun x=>⟨fun hx=> ?_,fun hx=>zi8 x hx⟩
 refine Classical.byContradiction fun hxa=> ?_
 have:(x::a).length <= (zhs all J a).length:=List.Nodup.length_le_of_subset (List.nodup_cons.2 ⟨hxa,hn⟩) fun y hy=>by
  rcases List.mem_cons.1 hy with rfl|hy
  ·exact hx
  ·exact zi8 y hy
 rw [List.length_cons] at this
 omega
theorem zph: ∀ {k:Nat} {a:List Key},zgz a->zgz (zi7 all J k a)
 | 0,a,h=>h
 | k+1,a,h=>by
  unfold zi7
  split
  ·exact zj1 h
  ·exact zph (zj1 h)
theorem zqx {c:Key}: ∀ {k:Nat} {a:List Key},(∀ x∈a,Eqv (ziz I) c x)-> ∀ x∈zi7 (zb3 I) I k a,Eqv (ziz I) c x
 | 0,a,h=>h
 | k+1,a,h=>by
  unfold zi7
  split
  ·exact zpi (fun t ht=>ht) h
  ·exact zqx (zpi (fun t ht=>ht) h)
theorem zqw: ∀ {k:Nat} {a:List Key},∀ x∈a,x∈zi7 all J k a
 | 0,a,x,h=>h
 | k+1,a,x,h=>by
  unfold zi7
  split
  ·exact zi8 x h
  ·exact zqw x (zi8 x h)
theorem zqy (ha:zgz all): ∀ {k:Nat} {a:List Key},zgz a->(∀ x∈a,x∈all)->all.length<a.length+k->zhs all J (zi7 all J k a)=zi7 all J k a
 | 0,a,h,h1,h2=>by
  have:=(zf7 h).length_le_of_subset h1
  omega
 | k+1,a,h,h1,h2=>by
  unfold zi7
  split
  ·rename_i e
   rw [zqz h e,zqz h e]
  ·rename_i e
   have:=round_len (all:=all) (J:=J) h
   exact zqy ha (zj1 h) (round_all h1) (by omega)
theorem zof: ∀ {J:List Itm} {a:List Key},zgz a->(∀ x,x∈zhs all J a->x∈a)-> ∀ t∈J,∀ m∈zik all t,∀ n∈zik all t,m∈a->n∈a
 | u::J,a,h,hx,t,ht,m,hm,n,hn,hma=>by
  have hx: ∀ x,x∈zhs all J (if hitT all a u=true then zj4 a (zik all u) else a)->x∈a:=hx
  have h1:zgz (if hitT all a u=true then zj4 a (zik all u) else a):=by
   split
   ·exact zj3 h
   ·exact h
  have hsub: ∀ x,x∈(if hitT all a u=true then zj4 a (zik all u) else a)->x∈a:=fun x h=>hx x (zi8 x h)
  rcases List.mem_cons.1 ht with rfl|ht
  ·have hh:hitT all a t=true:=List.any_eq_true.2 ⟨m,hm,by simpa using hma⟩
   rw [if_pos hh] at hsub
   exact hsub n (zij.2 (.inr hn))
  ·have e:(if hitT all a u=true then zj4 a (zik all u) else a)=a:=by
    refine zj2 h1 h fun x=>⟨hsub x,fun hx=> ?_⟩
    split
    ·exact zij.2 (.inl hx)
    ·exact hx
   rw [e] at hx
   exact zof h hx t ht m hm n hn hma
end
theorem zec {I:List Itm} {c:Key} (hc:c∈zb3 I):zgz (zdz I c) /\ ∀ y,y∈zdz I c↔Eqv (ziz I) c y:=by
 have r0:zgz [c]:=List.pairwise_singleton _ _
 have r1:zgz (zdz I c):=zph r0
 have hall: ∀ x∈[c],x∈zb3 I:=fun x hx=>by rw [List.mem_singleton.1 hx];exact hc
 have he:=zqy (all:=zb3 I) (J:=I) (zmt I) (k:=(zb3 I).length+1) r0 hall (by simp;omega)
 have he:zhs (zb3 I) I (zdz I c)=zdz I c:=he
 refine ⟨r1,fun y=>⟨fun hy=>zqx (fun x hx=>by rw [List.mem_singleton.1 hx];exact .refl _) y hy,fun hy=> ?_⟩⟩
 have cl: ∀ t∈I,∀ m∈zik (zb3 I) t,∀ n∈zik (zb3 I) t,m∈zdz I c->n∈zdz I c:=zof r1 (fun x hx=>by rw [he] at hx;exact hx)
 have edge: ∀ a b,ziz I a b->(a∈zdz I c↔b∈zdz I c):=fun a b ⟨t,ht,e,hb,hk⟩=>by
  have ka:a∈zik (zb3 I) t:=List.mem_filter.2 ⟨by unfold namesT;rw [e];exact List.mem_cons_self ..,by simpa using zfw.2 ⟨t,ht,e⟩⟩
  have kb:b∈zik (zb3 I) t:=List.mem_filter.2 ⟨List.mem_cons_of_mem _ hb,by simpa using hk⟩
  exact ⟨cl t ht a ka b kb,cl t ht b kb a ka⟩
 have key: ∀ a b,Eqv (ziz I) a b->(a∈zdz I c↔b∈zdz I c):=fun a b h=>by
  induction h with
  | rel h=>exact edge _ _ h
  | refl=>exact Iff.rfl
  | symm _ ih=>exact ih.symm
  | trans _ _ h1 h2=>exact h1.trans h2
 exact (key c y hy).1 (zqw c (by simp))
def zgy (g:Key->Option Key):Nat->Key->Key->Prop
 | 0,c,r=>g c=some c /\ r=c
 | n+1,c,r=> ∃ e,g c=some e /\ e≠c /\ zgy g n e r
def znn (g:Key->Option Key) (a b:Key):Prop:= ∃ r n m,zgy g n a r /\ zgy g m b r
theorem zgy.top {g:Key->Option Key}: ∀ {n:Nat} {c r:Key},zgy g n c r->g r=some r
 | 0,c,r,h=>by obtain ⟨h,rfl⟩:=h;exact h
 | n+1,c,r,⟨e,_,_,h⟩=>zgy.top h
theorem zgy.det {g:Key->Option Key}: ∀ {n m:Nat} {c r q:Key},zgy g n c r->zgy g m c q->n=m /\ r=q
 | 0,0,c,r,q,h,k=>by obtain ⟨_,rfl⟩:=h;obtain ⟨_,rfl⟩:=k;exact ⟨rfl,rfl⟩
 | 0,m+1,c,r,q,h,k=>by
  obtain ⟨h,rfl⟩:=h
  obtain ⟨e,k,hne,_⟩:=k
  rw [h] at k;cases k
  exact absurd rfl hne
 | n+1,0,c,r,q,h,k=>by
  obtain ⟨k,rfl⟩:=k
  obtain ⟨e,h,hne,_⟩:=h
  rw [k] at h;cases h
  exact absurd rfl hne
 | n+1,m+1,c,r,q,h,k=>by
  obtain ⟨e,h1,_,h⟩:=h
  obtain ⟨f,k1,_,k⟩:=k
  rw [h1] at k1;cases k1
  obtain ⟨e1,e2⟩:=zgy.det h k
  exact ⟨by rw [e1],e2⟩
structure UF (g:Key->Option Key) (ks:Key->Prop) (E:Key->Key->Prop):Prop where
 dom: ∀ c,(∃ d,g c=some d)↔ks c
 root: ∀ c,ks c-> ∃ n r,zgy g n c r
 eqv: ∀ a b,g a=some b->Eqv E a b
 rel: ∀ a b,E a b->znn g a b
def zm8 (g:Key->Option Key) (a b:Key):Key->Option Key:=fun x=>if x=a then some b else g x
section
variable {g:Key->Option Key} {ks:Key->Prop} {E:Key->Key->Prop}
theorem zgy.isKey (u:UF g ks E) {n:Nat} {c r:Key} (h:zgy g n c r):ks c:=by
 cases n with
 | zero=>exact (u.dom c).1 ⟨c,h.1⟩
 | succ n=>obtain ⟨e,h,_⟩:=h;exact (u.dom c).1 ⟨e,h⟩
theorem zgy.eqv (u:UF g ks E): ∀ {n:Nat} {c r:Key},zgy g n c r->Eqv E c r
 | 0,c,r,h=>by obtain ⟨_,rfl⟩:=h;exact .refl _
 | n+1,c,r,⟨e,h1,_,h⟩=> .trans (u.eqv _ _ h1) (zgy.eqv u h)
theorem znn.refl (u:UF g ks E) {a:Key} (h:ks a):znn g a a:=by
 obtain ⟨n,r,h⟩:=u.root a h
 exact ⟨r,n,n,h,h⟩
theorem znn.symm {a b:Key} (h:znn g a b):znn g b a:=by
 obtain ⟨r,n,m,h,k⟩:=h
 exact ⟨r,m,n,k,h⟩
theorem znn.trans {a b c:Key} (h:znn g a b) (k:znn g b c):znn g a c:=by
 obtain ⟨r,n,m,h1,h2⟩:=h
 obtain ⟨q,i,j,k1,k2⟩:=k
 obtain ⟨_,rfl⟩:=h2.det k1
 exact ⟨r,n,j,h1,k2⟩
theorem UF.same (u:UF g ks E) {a b:Key}:znn g a b↔ks a /\ ks b /\ Eqv E a b:=by
 constructor
 ·rintro ⟨r,n,m,h,k⟩
  exact ⟨h.isKey u,k.isKey u,.trans (h.eqv u) (.symm (k.eqv u))⟩
 ·rintro ⟨ha,hb,h⟩
  have key:(ks a↔ks b) /\ (ks a->znn g a b):=by
   clear ha hb
   induction h with
   | rel h=>
    obtain ⟨r,n,m,h1,h2⟩:=u.rel _ _ h
    exact ⟨⟨fun _=>h2.isKey u,fun _=>h1.isKey u⟩,fun _=>⟨r,n,m,h1,h2⟩⟩
   | refl a=>exact ⟨Iff.rfl,fun h=> .refl u h⟩
   | symm _ ih=>exact ⟨ih.1.symm,fun h=>(ih.2 (ih.1.2 h)).symm⟩
   | trans _ _ h1 h2=>exact ⟨h1.1.trans h2.1,fun h=>(h1.2 h).trans (h2.2 (h1.1.1 h))⟩
  exact key.2 ha
theorem zq9 {a b ra rb:Key} (ha:g ra=some ra) (hb:g rb=some rb): ∀ {n:Nat} {c r:Key},zgy g n c r->r≠ra->zgy (zm8 g ra rb) n c r
 | 0,c,r,h,hr=>by
  obtain ⟨h,rfl⟩:=h
  exact ⟨by unfold zm8;rw [if_neg hr];exact h,rfl⟩
 | n+1,c,r,⟨e,h1,h2,h⟩,hr=>by
  refine ⟨e,?_,h2,zq9 (a:=a) (b:=b) ha hb h hr⟩
  unfold zm8
  rw [if_neg]
  ·exact h1
  ·intro e2
   subst e2
   rw [ha] at h1;cases h1
   exact h2 rfl
theorem join_same {ra rb:Key} (ha:g ra=some ra) (hb:g rb=some rb) (hne:ra≠rb): ∀ {n:Nat} {c:Key},zgy g n c ra->zgy (zm8 g ra rb) (n+1) c rb
 | 0,c,h=>by
  obtain ⟨h,rfl⟩:=h
  refine ⟨rb,by unfold zm8;rw [if_pos rfl],Ne.symm hne,?_⟩
  exact ⟨by unfold zm8;rw [if_neg (Ne.symm hne)];exact hb,rfl⟩
 | n+1,c,⟨e,h1,h2,h⟩=>by
  refine ⟨e,?_,h2,join_same ha hb hne h⟩
  unfold zm8
  rw [if_neg]
  ·exact h1
  ·intro e2
   subst e2
   rw [ha] at h1;cases h1
   exact h2 rfl
theorem Eqv.mono {E F:Key->Key->Prop} (h: ∀ a b,E a b->F a b) {a b:Key} (e:Eqv E a b):Eqv F a b:=by
 induction e with
 | rel e=>exact .rel (h _ _ e)
 | refl=>exact .refl _
 | symm _ ih=>exact .symm ih
 | trans _ _ h1 h2=>exact .trans h1 h2
theorem UF.join (u:UF g ks E) {a b ra rb:Key} {n m:Nat} (ha:zgy g n a ra) (hb:zgy g m b rb):UF (zm8 g ra rb) ks (fun x y=>E x y \/ (x=a /\ y=b)):=by
 have ta:=ha.top
 have tb:=hb.top
 have mono: ∀ x y,E x y->(E x y \/ (x=a /\ y=b)):=fun _ _ h=> .inl h
 have newE:Eqv (fun x y=>E x y \/ (x=a /\ y=b)) ra rb:= .trans (.symm ((ha.eqv u).mono mono)) (.trans (.rel (.inr ⟨rfl,rfl⟩)) ((hb.eqv u).mono mono))
 have root': ∀ {k:Nat} {c r:Key},zgy g k c r-> ∃ k',zgy (zm8 g ra rb) k' c (if r=ra then rb else r):=by
  intro k c r h
  by_cases hr:r=ra
  ·subst hr
   rw [if_pos rfl]
   by_cases hne:r=rb
   ·subst hne
    have:zm8 g r r=g:=by
     funext x
     unfold zm8
     by_cases hx:x=r
     ·subst hx;rw [if_pos rfl,ta]
     ·rw [if_neg hx]
    rw [this];exact ⟨k,h⟩
   ·exact ⟨k+1,join_same ta tb hne h⟩
  ·rw [if_neg hr]
   exact ⟨k,zq9 (a:=a) (b:=b) ta tb h hr⟩
 refine ⟨fun c=> ?_,fun c hc=> ?_,fun x y h=> ?_,fun x y h=> ?_⟩
 ·rw [<- u.dom c]
  unfold zm8
  by_cases hx:c=ra
  ·subst hx
   rw [if_pos rfl]
   exact ⟨fun _=>⟨_,ta⟩,fun _=>⟨_,rfl⟩⟩
  ·rw [if_neg hx]
 ·obtain ⟨k,r,h⟩:=u.root c hc
  obtain ⟨k',h'⟩:=root' h
  exact ⟨k',_,h'⟩
 ·unfold zm8 at h
  by_cases hx:x=ra
  ·subst hx
   rw [if_pos rfl] at h
   cases h
   exact newE
  ·rw [if_neg hx] at h
   exact (u.eqv x y h).mono mono
 ·rcases h with h|⟨rfl,rfl⟩
  ·obtain ⟨r,i,j,h1,h2⟩:=u.rel x y h
   obtain ⟨_,h1'⟩:=root' h1
   obtain ⟨_,h2'⟩:=root' h2
   exact ⟨_,_,_,h1',h2'⟩
  ·obtain ⟨_,h1'⟩:=root' ha
   obtain ⟨_,h2'⟩:=root' hb
   rw [if_pos rfl] at h1'
   have:(if rb=ra then rb else rb)=rb:=by split<;>rfl
   rw [this] at h2'
   exact ⟨rb,_,_,h1',h2'⟩
end
end Go.Ab
namespace Go.Ab
variable {C:CSem} {N:zN}
abbrev sV:Key->AVal:=fun s=> .str s
abbrev upBlk (ps:Ents Key Key) (c:Nat):Blk:=zfi (encM sV sV ps) c
structure UpAt (h:za) (p:AVal) (m:Nat) (ps:Ents Key Key) (c:Nat):Prop where
 ptr:A.ldv h p=some (.mp m)
 map:h m=some (upBlk ps c)
theorem UpAt.lkp {h:za} {p:AVal} {m:Nat} {ps:Ents Key Key} {c:Nat} (u:UpAt h p m ps c) (k:Key):A.lkp h (some .s) (some (.str [])) false (.mp m) (.str k)=some (.str ((getP ps k).getD [])):=
 lkp_blk (κ:=sV) (v:=sV) keyS u.map [] k false
theorem UpAt.lkp2 {h:za} {p:AVal} {m:Nat} {ps:Ents Key Key} {c:Nat} (u:UpAt h p m ps c) (k:Key):A.lkp h (some .s) (some (.str [])) true (.mp m) (.str k)=some (.tup [.str ((getP ps k).getD []),.bool (getP ps k).isSome]):=
 lkp_blk (κ:=sV) (v:=sV) keyS u.map [] k true
theorem UpAt.mono {h h':za} {p:AVal} {m:Nat} {ps:Ents Key Key} {c:Nat} (u:UpAt h p m ps c) (hle:h.le h'):UpAt h' p m ps c:=⟨ldv_le hle u.ptr,hle _ _ u.map⟩
def zch.Spec (C:CSem) (N:zN):Prop:= ∀ (h:za) (p:AVal) (m:Nat) (ps:Ents Key Key) (c n:Nat) (a r:Key) (Q:zQ),UpAt h p m ps c->zgy (getP ps) n a r->Q (.str r) h->C (N 577) [.str a,p] h Q
theorem zch.spec (i:zch.Imp C N):zch.Spec C N:=by
 intro h p m ps c n a r Q hu hr hq
 apply i
 refine zx.intro (fun t vs hh=> ∃ x,vs=[.str x] /\ hh=h /\ zgy (getP ps) t x r) n ?_ ⟨a,rfl,rfl,hr⟩
 rintro Y t vs hh ⟨x,rfl,rfl,hR⟩ hY
 simp -dsimp only [zch.l2,zch.k1,B.zgl,hu.ptr,B.zd,hu.lkp,V.bin_sneq]
 cases t with
 | zero=>
  obtain ⟨e,rfl⟩:=hR
  rw [e]
  simp -dsimp
  exact zbr hq
 | succ t=>
  obtain ⟨e,he,hne,hR⟩:=hR
  rw [he]
  simp -dsimp [hne,hu.ptr,hu.lkp,he]
  exact hY t _ _ (by omega) ⟨e,rfl,rfl,hR⟩
abbrev UpO (N:zN) (m:Nat) (p q:AVal) (ps:Ents Key Key) (c:Nat):List Ob:=[.blk m (upBlk ps c),.box p [.mp m],.box q [.fn (N 577) [] [p]]]
theorem UpO.at {h0 h:za} {m:Nat} {p q:AVal} {ps:Ents Key Key} {c:Nat} {l:List Ob} (o:Owns h0 h (UpO N m p q ps c++l)):UpAt h p m ps c /\ A.ldv h q=some (.fn (N 577) [] [p]):=by
 obtain ⟨_,rfl,b1⟩:=o.zos 1 rfl
 obtain ⟨_,rfl,b2⟩:=o.zos 2 rfl
 exact ⟨⟨by rw [zk7 b1];rfl,o.at 0 rfl⟩,by rw [zk7 b2];rfl⟩
structure UpIs (ps:Ents Key Key) (c:Nat) (ks:Key->Prop) (E:Key->Key->Prop):Prop where
 uf:UF (getP ps) ks E
 zkx:zix ps c
 nodup:(zey ps).Nodup
def zdc.Spec (C:CSem) (N:zN):Prop:= ∀ (h0 h:za) (m:Nat) (p q:AVal) (ps:Ents Key Key) (c:Nat) (a b:Key) (ks:Key->Prop) (E:Key->Key->Prop) (Q:zQ),Owns h0 h (UpO N m p q ps c)->UpIs ps c ks E->ks a ->
 (∀ ps' c' h',Owns h0 h' (UpO N m p q ps' c')->UpIs ps' c' ks (fun x y=>E x y \/ (x=a /\ y=b /\ ks b))->Q (.tup []) h')->C (N 576) [.str a,.str b,p,q] h Q
theorem UF.cong {g:Key->Option Key} {ks:Key->Prop} {E F:Key->Key->Prop} (u:UF g ks E) (h: ∀ x y,E x y↔F x y):UF g ks F:=by
 have:E=F:=by funext x y;exact propext (h x y)
 rw [<- this];exact u
theorem zdc.spec (i:zdc.Imp C N) (s1:zch.Spec C N):zdc.Spec C N:=by
 intro h0 h m p q ps c a b ks E Q ho hu ha hq
 apply i
 obtain ⟨ua,uq⟩:=UpO.at (l:=[]) (by rw [List.append_nil];exact ho)
 simp -dsimp only [zdc.cps,zdc.k1,B.zgl,ua.ptr,uq,B.zd,ua.lkp2,V.zfy,List.getElem?_cons_zero,List.getElem?_cons_succ]
 refine B.zt (fun hb=> ?_) (fun hb=> ?_)
 ·have kb:ks b:=(hu.uf.dom b).1 (Option.isSome_iff_exists.1 hb)
  obtain ⟨n,ra,hra⟩:=hu.uf.root a ha
  obtain ⟨k,rb,hrb⟩:=hu.uf.root b kb
  simp -dsimp only [B.zgl,ua.ptr,uq,B.zd]
  rw [B.zju]
  refine s1 h p m ps c n a ra _ ua hra ?_
  refine keepS2 ⟨_,ua.ptr⟩ ⟨_,uq⟩ ?_
  rw [B.zju]
  refine s1 h p m ps c k b rb _ ua hrb ?_
  refine keepS1 ⟨_,ua.ptr⟩ ?_
  refine ho.mset (κ:=sV) (v:=sV) 0 rfl keyS ra rb fun h' o _ _=> ?_
  refine zbr (hq _ _ h' o ⟨?_,hu.zkx.put ra rb,zpw hu.nodup ra rb c⟩)
  have e:getP (putP ps ra rb c)=zm8 (getP ps) ra rb:=by funext x;rw [zll];rfl
  rw [e]
  exact (hu.uf.join hra hrb).cong fun x y=>⟨fun h=>h.imp id fun e=>⟨e.1,e.2,kb⟩,fun h=>h.imp id fun e=>⟨e.1,e.2.1⟩⟩
 ·have kb: ¬ ks b:=fun kb=>by
   obtain ⟨d,e⟩:=(hu.uf.dom b).2 kb
   rw [e] at hb;cases hb
  exact zbr (hq ps c h ho ⟨hu.uf.cong fun x y=>⟨fun h=> .inl h,fun h=>h.elim id fun e=>absurd e.2.2 kb⟩,hu.zkx,hu.nodup⟩)
end Go.Ab
namespace Go.Ab
variable {C:CSem} {N:zN}
abbrev zqj (t:Itm):List Key:=t.ze0.map Part.Item++t.zed
def zn8 (I:List Itm) (ks:Key->Prop) (j k:Nat) (x y:Key):Prop:=(∃ t∈I.take j,t.Code=x /\ y∈zqj t /\ ks y) \/ ∃ t,I[j]? =some t /\ t.Code=x /\ y∈(zqj t).take k /\ ks y
theorem doneE_zero {I:List Itm} {ks:Key->Prop} {x y:Key}: ¬ zn8 I ks 0 0 x y:=by
 rintro (⟨t,h,_⟩|⟨t,_,_,h,_⟩)
 ·simp at h
 ·simp at h
theorem zrf {I:List Itm} {ks:Key->Prop} {j k:Nat} {t:Itm} {n:Key} (ht:I[j]? =some t) (hn:(zqj t)[k]? =some n) (x y:Key):(zn8 I ks j k x y \/ (x=t.Code /\ y=n /\ ks n))↔zn8 I ks j (k+1) x y:=by
 unfold zn8
 constructor
 ·rintro ((h|⟨u,h1,h2,h3,h4⟩)|⟨h1,h2,h3⟩)
  ·exact .inl h
  ·exact .inr ⟨u,h1,h2,by
    rw [ht] at h1;cases h1
    rw [take_succ hn];exact List.mem_append_left _ h3,h4⟩
  ·exact .inr ⟨t,ht,h1.symm,by rw [take_succ hn,h2];simp,by rw [h2];exact h3⟩
 ·rintro (h|⟨u,h1,h2,h3,h4⟩)
  ·exact .inl (.inl h)
  ·rw [ht] at h1;cases h1
   rw [take_succ hn] at h3
   rcases List.mem_append.1 h3 with h3|h3
   ·exact .inl (.inr ⟨t,ht,h2,h3,h4⟩)
   ·have:=List.mem_singleton.1 h3
    exact .inr ⟨h2.symm,this,by rw [<- this];exact h4⟩
theorem doneE_next {I:List Itm} {ks:Key->Prop} {j:Nat} {t:Itm} (ht:I[j]? =some t) (x y:Key):zn8 I ks j (zqj t).length x y↔zn8 I ks (j+1) 0 x y:=by
 unfold zn8
 rw [take_succ ht]
 constructor
 ·rintro (⟨u,h1,h2⟩|⟨u,h1,h2,h3,h4⟩)
  ·exact .inl ⟨u,List.mem_append_left _ h1,h2⟩
  ·rw [ht] at h1;cases h1
   rw [List.take_length] at h3
   exact .inl ⟨t,by simp,h2,h3,h4⟩
 ·rintro (⟨u,h1,h2,h3,h4⟩|⟨u,h1,h2,h3,h4⟩)
  ·rcases List.mem_append.1 h1 with h1|h1
   ·exact .inl ⟨u,h1,h2,h3,h4⟩
   ·rw [List.mem_singleton.1 h1] at h2 h3
    exact .inr ⟨t,ht,h2,by rw [List.take_length];exact h3,h4⟩
  ·simp at h3
theorem doneE_end {I:List Itm} (x y:Key):zn8 I (fun c=>c∈zb3 I) I.length 0 x y↔ziz I x y:=by
 unfold zn8 ziz
 rw [List.take_length]
 constructor
 ·rintro (⟨t,h1,h2,h3,h4⟩|⟨t,h1,_⟩)
  ·exact ⟨t,h1,h2,h3,h4⟩
  ·simp at h1
 ·rintro ⟨t,h1,h2,h3,h4⟩
  exact .inl ⟨t,h1,h2,h3,h4⟩
def zq.Spec (C:CSem) (N:zN):Prop:= ∀ (x:AVal) (I:List Itm) (h:za) (Q:zQ),Dl zfn h x I->I.length <= 100000000 ->
 (∀ m p ps c h',Owns h h' [.blk m (upBlk ps c),.box p [.mp m]]->UpIs ps c (fun c=>c∈zb3 I) (ziz I)->Q (.tup [.mp m,.fn (N 577) [] [p]]) h')->C (N 568) [x] h Q
theorem zq.spec (i:zq.Imp C N) (s2:zdc.Spec C N):zq.Spec C N:=by
 intro x I h Q hx hlen hq
 apply i
 have lx:=hx.zcv
 simp -dsimp only [zq.cps,zq.k13]
 refine (Owns.start h).zl6 sV sV fun m h1 hm o1 _=> ?_
 intro i4 f4
 have o2:=o1.zpy f4 [.nilm]
 generalize upd h1 i4 (zez [.nilm])=h2 at *
 refine o2.boxSt 1 (off:=0) rfl rfl (by simp) fun h3 o3 _=> ?_
 have o3:Owns h h3 [.blk m (upBlk [] 0),.box (.ptr i4 0 0) [.mp m]]:=o3
 simp -dsimp only [lx,B.zd]
 refine zx.intro (fun n vs hh=> ∃ (j c:Nat) (ps:Ents Key Key),j+n=I.length /\ vs=[.int .i64 (j:Int)] /\ Owns h hh [.blk m (upBlk ps c),.box (.ptr i4 0 0) [.mp m]] /\ zix ps c /\ (zey ps).Nodup /\ ∀ k,getP ps k=if k∈(I.take j).map Itm.Code then some k else none) I.length ?_ ⟨0,0,[],by simp,rfl,o3,zix.nil 0,.nil,by simp [getP]⟩
 rintro Y n vs hh ⟨j,c,ps,hj,rfl,o,hb,hnd,hg⟩ hY
 simp -dsimp only [zq.l12,zq.k11,V.zef,B.zd]
 have hxx:=hx.mono o.le
 refine B.zt (fun hc=> ?_) (fun hc=> ?_)
 ·rw [decide_eq_true_eq] at hc
  have hc:j<I.length:=by omega
  obtain ⟨t,ht⟩:=zfb hc
  obtain ⟨a,ea⟩:=hxx.get ht
  have e1:V.idxS 4 x (.int .i64 (j:Int))=some (elp 4 x j 0):=ea.idx
  have e2:A.ldnv hh (elp 4 x j 0) 4=some (.agg [.str t.Code,.int .i64 t.Life,a.1,a.2]):=ea.ldn
  have ca1:a.1.zcq=true:=ea.at_.1.elim fun _ r=>r.zcq
  have ca2:a.2.zcq=true:=ea.at_.2.1.elim fun _ r=>r.zcq
  obtain ⟨_,e,hbx⟩:=o.zos 1 rfl
  cases e
  simp -dsimp [e1,e2,ca1,ca2,zk7 hbx, - V.ze4]
  refine o.mset (κ:=sV) (v:=sV) 0 rfl keyS t.Code t.Code fun h' o' _ _=> ?_
  simp -dsimp only [add1 (show j<4611686018427387904 by omega),B.zd]
  refine hY (I.length-(j+1)) _ _ (by omega) ⟨j+1,_,_,by omega,rfl,o',hb.put t.Code t.Code,zpw hnd t.Code t.Code c,fun k=> ?_⟩
  rw [zll,hg,take_succ ht]
  simp only [List.map_append,List.map_cons,List.map_nil,List.mem_append,List.mem_singleton]
  by_cases hk:k=t.Code
  ·subst hk
   rw [if_pos rfl,if_pos (.inr rfl)]
  ·rw [if_neg hk]
   by_cases hm:k∈(I.take j).map Itm.Code
   ·rw [if_pos hm,if_pos (.inl hm)]
   ·rw [if_neg hm,if_neg (by rintro (e|e);exact hm e;exact hk e)]
 ·rw [decide_eq_false_iff_not] at hc
  have:j=I.length:=by omega
  subst this
  rw [List.take_length] at hg
  have hks: ∀ k,(k∈I.map Itm.Code)↔k∈zb3 I:=fun k=>by rw [zfw,List.mem_map]
  have hg: ∀ k,getP ps k=if k∈zb3 I then some k else none:=fun k=>by
   rw [hg]
   by_cases hm:k∈zb3 I
   ·rw [if_pos hm,if_pos ((hks k).2 hm)]
   ·rw [if_neg hm,if_neg fun e=>hm ((hks k).1 e)]
  have u0:UpIs ps c (fun k=>k∈zb3 I) (zn8 I (fun k=>k∈zb3 I) 0 0):=by
   refine ⟨⟨fun k=> ?_,fun k hk=>⟨0,k,by rw [hg,if_pos hk],rfl⟩,fun a b e=> ?_,fun a b e=>(doneE_zero e).elim⟩,hb,hnd⟩
   ·rw [hg]
    constructor
    ·rintro ⟨d,e⟩
     by_cases hm:k∈zb3 I
     ·exact hm
     ·rw [if_neg hm] at e;cases e
    ·intro hm
     exact ⟨k,by rw [if_pos hm]⟩
   ·rw [hg] at e
    by_cases hm:a∈zb3 I
    ·rw [if_pos hm] at e;cases e;exact .refl _
    ·rw [if_neg hm] at e;cases e
  simp -dsimp only [zq.k10]
  intro i7 f7
  have o4:=o.zpy f7 [.nilf]
  generalize upd hh i7 (zez [.nilf])=h4 at *
  refine o4.boxSt 2 (off:=0) rfl rfl (by simp) fun h5 o5 _=> ?_
  have o5:Owns h h5 (UpO N m (.ptr i4 0 0) (.ptr i7 0 0) ps c):=o5
  simp -dsimp only [lx,B.zd]
  refine zx.intro (fun n vs hh=> ∃ (j c:Nat) (ps:Ents Key Key),j+n=I.length /\ vs=[.int .i64 (j:Int)] /\ Owns h hh (UpO N m (.ptr i4 0 0) (.ptr i7 0 0) ps c) /\ UpIs ps c (fun k=>k∈zb3 I) (zn8 I (fun k=>k∈zb3 I) j 0)) I.length ?_ ⟨0,c,ps,by simp,rfl,o5,u0⟩
  rintro Y n vs h2 ⟨j,c,ps,hj,rfl,o,u⟩ hY
  simp -dsimp only [zq.l9,zq.k8,V.zef,B.zd]
  have hxx:=hx.mono o.le
  refine B.zt (fun hc=> ?_) (fun hc=> ?_)
  ·rw [decide_eq_true_eq] at hc
   have hc:j<I.length:=by omega
   obtain ⟨t,ht⟩:=zfb hc
   obtain ⟨P0,R0,eP0,sx,at0⟩:=id hx
   obtain ⟨a,hq0⟩: ∃ a,P0[j]? =some (t,a):=by
    rw [<- eP0,List.getElem?_map] at ht
    obtain ⟨q,h1,h2⟩:=Option.map_eq_some_iff.1 ht
    exact ⟨q.2,by rw [h1, <- h2]⟩
   have ea: ∀ {h':za},h.le h'->DEl zfn h' x j t a:=fun hle=>slX_el (sx.mono hle) (fun p hp=>zfn.mono hle (at0 p hp)) hq0
   have e1:V.idxS 4 x (.int .i64 (j:Int))=some (elp 4 x j 0):=(ea o.le).idx
   have e2:A.ldnv h2 (elp 4 x j 0) 4=some (.agg [.str t.Code,.int .i64 t.Life,a.1,a.2]):=(ea o.le).ldn
   obtain ⟨⟨Rp,hp⟩,⟨Ro,ho⟩,hok⟩:=at0 _ (List.mem_of_getElem? hq0)
   have hp:SlX h 2 a.1 (t.ze0.map Part.cs) Rp:=hp
   have ho:SlX h 1 a.2 (t.zed.map tc) Ro:=ho
   have ca1:a.1.zcq=true:=hp.zcq
   have ca2:a.2.zcq=true:=ho.zcq
   have lp:=hp.zcv
   have lo:=ho.zcv
   rw [List.length_map] at lp lo
   obtain ⟨ok1,ok2⟩:t.ze0.length <= few /\ t.zed.length <= few:=hok
   unfold few at ok1 ok2
   have kt:t.Code∈zb3 I:=zfw.2 ⟨t,List.mem_of_getElem? ht,rfl⟩
   simp -dsimp only [zq.k7,e1,e2,B.zd,B.zq7]
   have e3:V.setN 0 4 (.agg [.str t.Code,.int .i64 t.Life,a.1,a.2]) (.agg [.str [],.int .i64 0,.nils,.nils])=some (.agg [.str t.Code,.int .i64 t.Life,a.1,a.2]):=rfl
   simp -dsimp only [e3,B.zd,zq.k6,B.zio,V.zfx,List.getElem?_cons_zero,List.getElem?_cons_succ,lp]
   refine zx.intro (fun n vs hh=> ∃ (k c:Nat) (ps:Ents Key Key),k+n=t.ze0.length /\ vs=[.int .i64 (k:Int)] /\ Owns h hh (UpO N m (.ptr i4 0 0) (.ptr i7 0 0) ps c) /\ UpIs ps c (fun k=>k∈zb3 I) (zn8 I (fun k=>k∈zb3 I) j k)) t.ze0.length ?_ ⟨0,c,ps,by simp,rfl,o,u⟩
   rintro Y3 n3 vs3 h3 ⟨k,c,ps,hk,rfl,o,u⟩ hY3
   simp -dsimp only [zq.l5,zq.k4,V.zef,B.zd]
   refine B.zt (fun hd=> ?_) (fun hd=> ?_)
   ·rw [decide_eq_true_eq] at hd
    obtain ⟨w,hw⟩:=zfb (L:=t.ze0) (k:=k) (by omega)
    have f1:V.idxS 2 a.1 (.int .i64 (k:Int))=some (elp 2 a.1 k 0):=hp.idxN (by rw [List.length_map];omega)
    have f2:A.ldnv h3 (elp 2 a.1 k 0) 2=some (.agg w.cs):=(hp.mono o.le).elem (by rw [List.getElem?_map,hw];rfl)
    simp -dsimp [f1,f2, - V.ze4]
    refine s2 h h3 m _ _ ps c t.Code w.Item _ _ _ o u kt fun ps' c' h4 o4 u4=> ?_
    simp -dsimp only [add1 (show k<4611686018427387904 by omega),B.zd]
    refine hY3 (t.ze0.length-(k+1)) _ _ (by omega) ⟨k+1,c',ps',by omega,rfl,o4,u4.uf.cong fun x y=> ?_,u4.zkx,u4.nodup⟩
    have hn:(zqj t)[k]? =some w.Item:=by
     unfold zqj
     rw [List.getElem?_append_left (by rw [List.length_map];omega),List.getElem?_map,hw];rfl
    exact zrf ht hn x y
   ·rw [decide_eq_false_iff_not] at hd
    have:k=t.ze0.length:=by omega
    subst this
    simp -dsimp only [zq.k3,B.zio,V.zfx,List.getElem?_cons_zero,List.getElem?_cons_succ,B.zd,lo]
    refine zx.intro (fun n vs hh=> ∃ (k c:Nat) (ps:Ents Key Key),k+n=t.zed.length /\ vs=[.int .i64 (k:Int)] /\ Owns h hh (UpO N m (.ptr i4 0 0) (.ptr i7 0 0) ps c) /\ UpIs ps c (fun k=>k∈zb3 I) (zn8 I (fun k=>k∈zb3 I) j (t.ze0.length+k))) t.zed.length ?_ ⟨0,c,ps,by simp,rfl,o,u⟩
    rintro Y2 n2 vs2 h5 ⟨k,c,ps,hk2,rfl,o,u⟩ hY2
    simp -dsimp only [zq.l2,zq.k1,V.zef,B.zd]
    refine B.zt (fun hd=> ?_) (fun hd=> ?_)
    ·rw [decide_eq_true_eq] at hd
     obtain ⟨w,hw⟩:=zfb (L:=t.zed) (k:=k) (by omega)
     have f1:V.idxS 1 a.2 (.int .i64 (k:Int))=some (elp 1 a.2 k 0):=ho.idxN (by rw [List.length_map];omega)
     have f2:A.ldv h5 (elp 1 a.2 k 0)=some (.str w):=(ho.mono o.le).cell (by rw [List.getElem?_map,hw];rfl)
     simp -dsimp [f1,f2, - V.ze4]
     refine s2 h h5 m _ _ ps c t.Code w _ _ _ o u kt fun ps' c' h6 o6 u6=> ?_
     simp -dsimp only [add1 (show k<4611686018427387904 by omega),B.zd]
     refine hY2 (t.zed.length-(k+1)) _ _ (by omega) ⟨k+1,c',ps',by omega,rfl,o6,u6.uf.cong fun x y=> ?_,u6.zkx,u6.nodup⟩
     have hn:(zqj t)[t.ze0.length+k]? =some w:=by
      unfold zqj
      rw [List.getElem?_append_right (by rw [List.length_map];omega),List.length_map,show t.ze0.length+k-t.ze0.length=k by omega]
      exact hw
     exact zrf ht hn x y
    ·rw [decide_eq_false_iff_not] at hd
     have:k=t.zed.length:=by omega
     subst this
     simp -dsimp only [add1 (show j<4611686018427387904 by omega),B.zd]
     refine hY (I.length-(j+1)) _ _ (by omega) ⟨j+1,c,ps,by omega,rfl,o,u.uf.cong fun x y=> ?_,u.zkx,u.nodup⟩
     have hl:t.ze0.length+t.zed.length=(zqj t).length:=by simp [zqj]
     rw [hl]
     exact doneE_next ht x y
  ·rw [decide_eq_false_iff_not] at hc
   have:j=I.length:=by omega
   subst this
   obtain ⟨ua,uq⟩:=UpO.at (l:=[]) (by rw [List.append_nil];exact o)
   simp -dsimp only [B.zgl,ua.ptr,uq,B.zd]
   refine zbr (hq m (.ptr i4 0 0) ps c h2 (o.sub ?_) ⟨u.uf.cong fun x y=>doneE_end x y,u.zkx,u.nodup⟩)
   exact List.Sublist.cons_cons _ (List.Sublist.cons_cons _ (List.nil_sublist _))
end Go.Ab
namespace Go.Ab
theorem zjp {α:Type} [DecidableEq α] {x:α}: ∀ {L:List α},x∈zeu L↔x∈L
 | []=>Iff.rfl
 | [a]=>Iff.rfl
 | a::b::r=>by
  unfold zeu
  split
  ·rename_i e
   subst e
   rw [zjp]
   simp
  ·rw [List.mem_cons,zjp,List.mem_cons,List.mem_cons,List.mem_cons]
theorem zks: ∀ {L:List Key},SortedB L->zgz (zeu L)
 | [],_=> .nil
 | [a],_=>List.pairwise_singleton _ _
 | a::b::r,h=>by
  obtain ⟨h1,h2⟩:=List.pairwise_cons.1 h
  unfold zeu
  split
  ·exact zks h2
  ·rename_i hne
   refine List.pairwise_cons.2 ⟨fun y hy=> ?_,zks h2⟩
   have hy:=zjp.1 hy
   have ab:zft a b=true:=zjq (h1 b (by simp)) (Ne.symm hne)
   rcases List.mem_cons.1 hy with rfl|hy
   ·exact ab
   ·have hby:=(List.pairwise_cons.1 h2).1 y hy
    cases e:zft a y with
    | true=>rfl
    | false=>
     have:=h1 y (by simp [hy])
     have:a=y:=zkl e this
     subst this
     rw [ab] at hby;cases hby
def zgn (I:List Itm) (l:List Key):List Key:=l.foldl (fun a c=>zj4 a (if c∈zb3 I then zdz I c else [c])) []
theorem zo6 {I:List Itm}: ∀ {l a:List Key},zgz a->zgz (l.foldl (fun a c=>zj4 a (if c∈zb3 I then zdz I c else [c])) a) /\ ∀ y,y∈l.foldl (fun a c=>zj4 a (if c∈zb3 I then zdz I c else [c])) a↔y∈a \/ ∃ c∈l,y∈if c∈zb3 I then zdz I c else [c]
 | [],a,h=>⟨h,fun y=>by simp⟩
 | c::l,a,h=>by
  obtain ⟨h1,h2⟩:=zo6 (I:=I) (l:=l) (zj3 (m:=if c∈zb3 I then zdz I c else [c]) h)
  refine ⟨h1,fun y=> ?_⟩
  rw [List.foldl_cons,h2,zij]
  constructor
  ·rintro ((h|h)|⟨d,h3,h4⟩)
   ·exact .inl h
   ·exact .inr ⟨c,by simp,h⟩
   ·exact .inr ⟨d,by simp [h3],h4⟩
  ·rintro (h|⟨d,h3,h4⟩)
   ·exact .inl (.inl h)
   ·rcases List.mem_cons.1 h3 with rfl|h3
    ·exact .inl (.inr h4)
    ·exact .inr ⟨d,h3,h4⟩
theorem zfj (I:List Itm) (l:List Key):zgz (zgn I l):=(zo6 (I:=I) (l:=l) .nil).1
theorem zii {I:List Itm} {l:List Key} {y:Key}:y∈zgn I l↔ ∃ c∈l,(c∈zb3 I /\ Eqv (ziz I) c y) \/ (c∉zb3 I /\ y=c):=by
 have:=(zo6 (I:=I) (l:=l) .nil).2 y
 unfold zgn
 rw [this]
 simp only [List.not_mem_nil,false_or]
 constructor
 ·rintro ⟨c,h1,h2⟩
  refine ⟨c,h1,?_⟩
  by_cases hc:c∈zb3 I
  ·rw [if_pos hc] at h2
   exact .inl ⟨hc,((zec hc).2 y).1 h2⟩
  ·rw [if_neg hc] at h2
   exact .inr ⟨hc,List.mem_singleton.1 h2⟩
 ·rintro ⟨c,h1,h2⟩
  refine ⟨c,h1,?_⟩
  rcases h2 with ⟨hc,h⟩|⟨hc,rfl⟩
  ·rw [if_pos hc];exact ((zec hc).2 y).2 h
  ·rw [if_neg hc];simp
theorem Eqv.zl8 {I:List Itm} {a b:Key} (h:Eqv (ziz I) a b) (ha:a∈zb3 I):b∈zb3 I:=by
 have:a∈zb3 I↔b∈zb3 I:=by
  clear ha
  induction h with
  | rel h=>
   obtain ⟨t,ht,e,_,hk⟩:=h
   exact ⟨fun _=>hk,fun _=>zfw.2 ⟨t,ht,e⟩⟩
  | refl=>exact Iff.rfl
  | symm _ ih=>exact ih.symm
  | trans _ _ h1 h2=>exact h1.trans h2
 exact this.1 ha
section
variable {h0 h:za} {l:List Ob} {K T:Type} {κ:K->AVal} {v:T->AVal} {ps:Ents K T} {m c:Nat} {Q:zQ}
theorem Owns.znw {J:Ents K T->List Ob->List AVal->Prop} {vs0:List AVal} {Lp:AVal->zG} {REST:AVal->List AVal->AVal->za->(zL)->Prop} (ho:Owns h0 h l) (hbm:h0 m=some (zfi (encM κ v ps) c)) (hb:zix ps c) (hJ:J [] l vs0)
  (heq: ∀ it vs hh Y D l,J D l vs->B.zfa hh it (fun v h2=>REST it vs v h2 Y)->Lp it vs hh Y)
  (hdone: ∀ it hh D l b Y vs,J D l vs->D.Perm ps->Owns h0 hh (l++[.blk it b])->REST (.ptr it 0 0) vs (.tup [.bool false]) hh Y)
  (hstep: ∀ it hh D l b Y vs,∀ p∈ps,J D l vs->(∀ q∈D,q∈ps)->p∉D->D.length<ps.length->Owns h0 hh (l++[.blk it b])->A.zgv hh (.ptr it 0 0)=some (.tup [κ p.1,v p.2.1]) ->
   (∀ h' l' vs',J (D++[p]) l' vs'->Owns h0 h' (l'++[.blk it b])->Y vs' h')->REST (.ptr it 0 0) vs (.tup [.bool true,κ p.1,v p.2.1]) hh Y):
  B.rangeMap h (.mp m) fun v h=>zx (Lp v) vs0 h:=by
 show A.rangeMap h (.mp m) _
 simp only [A.rangeMap,zm3 (ho.le _ _ hbm)]
 intro it hit
 have ho:Owns h0 (upd h it (zgu (.mapIter (some m) c [] c))) (l++[.blk it (zgc m c (([]:Ents K T).map (·.2.2)) c)]):=ho.newBlk (b:=zgc m c [] c) hit rfl
 refine zx.intro (fun t vs hh=> ∃ (D:Ents K T) (l':List Ob),D.length+t=ps.length /\ J D l' vs /\ (∀ q∈D,q∈ps) /\ (D.map (·.2.2)).Nodup /\ Owns h0 hh (l'++[.blk it (zgc m c (D.map (·.2.2)) c)])) ps.length ?_ ⟨[],l,by simp,hJ,by simp,List.Pairwise.nil,ho⟩
 rintro Y t vs hh ⟨D,l',ht,hJ',hD,hnd,o⟩ hY
 refine heq _ _ _ _ _ _ hJ' ?_
 refine o.nextMapB l'.length (seen:=D.map (·.2.2)) (since:=c) (last:=c) (o.le _ _ hbm) (by simp) hb (Nat.le_refl _) (Nat.le_refl _) (fun hall=> ?_) fun p hp hns h' o' hk he=> ?_
 ·exact hdone it hh D l' _ Y vs hJ' (hb.all hD hnd hall) o
 ·have o'':Owns h0 h' (l'++[.blk it (zgc m c ((D++[p]).map (·.2.2)) c)]):=by
   have:=o'
   rw [List.set_append_right _ _ (Nat.le_refl _),Nat.sub_self] at this
   simpa using this
  have hpD:p∉D:=fun hm=>hns (List.mem_map.2 ⟨p,hm,rfl⟩)
  have nd2:((D++[p]).map (·.2.2)).Nodup:=by
   rw [List.map_append,List.nodup_append]
   exact ⟨hnd,by simp,fun x hx y hy e=>hns (by rw [List.map_cons,List.map_nil,List.mem_singleton] at hy;rw [<- hy, <- e];exact hx)⟩
  have sub: ∀ q∈D++[p],q∈ps:=fun q hq=>by
   rcases List.mem_append.1 hq with h|h
   ·exact hD q h
   ·rw [List.mem_singleton.1 h];exact hp
  have hl:(D++[p]).length <= ps.length:=List.Nodup.length_le_of_subset (List.Pairwise.of_map (S:=(· ≠ ·)) (fun p:K×T×Nat=>p.2.2) (fun a b h e=>h (by rw [e])) nd2) sub
  rw [List.length_append] at hl
  have hl:D.length+1 <= ps.length:=hl
  exact hstep it h' D l' _ Y vs p hp hJ' hD hpD hl o'' he fun h2 l2 vs2 hJ2 o2=>hY (t-1) _ _ (by omega) ⟨D++[p],l2,by rw [List.length_append,List.length_singleton];omega,hJ2,sub,nd2,o2⟩
end
end Go.Ab
namespace Go.Ab
variable {C:CSem} {N:zN}
def zbf.Spec (C:CSem) (N:zN):Prop:= ∀ (x:AVal) (L:List Key) (R:List (List AVal)) (h:za) (Q:zQ),SlX h 1 x (L.map tc) R->L.length <= 100000000 ->
 (∀ x' h',Owns h h' [.sl 1 x' (L.map tc) []]->Q x' h')->C (N 567) [x] h Q
theorem zbf.spec (i:zbf.Imp C N):zbf.Spec C N:=fun x L R h Q hx hlen hq=>
 i x h Q (zrg seqT hx hlen fun x' h' ho=>zbr (hq x' h' ho))
theorem zpe {h0 h:za} {x:AVal} {L M:List Key} {R:List (List AVal)} {K:zQ} (s1:zbo.Spec C N) (s2:zbh.Spec C N) (s3:zbf.Spec C N) (ho:Owns h0 h [.sl 1 x (L.map tc) R]) (hl:L.length <= 100000000) (hM:zgz M) (hm: ∀ y,y∈L↔y∈M)
  (hK: ∀ x' h',Owns h0 h' [.sl 1 x' (M.map tc) []]->K x' h'):B.call C (N 364) [x] h fun _ h=>B.call C (N 365) [x] h fun v h=>B.call C (N 567) [v] h fun w h=>K w h:=by
 refine s1 h0 h x L R _ ho hl fun h1 L1 p1 r1 o1=> ?_
 refine s2 h0 h1 x L1 R _ o1 (by rw [p1.length_eq];exact hl) fun y h2 R2 o2=> ?_
 have e:zeu L1=M:=zj2 (zks r1) hM fun y=>by rw [zjp,p1.mem_iff,hm]
 rw [e] at o2
 have hML:M.length <= 100000000:=by
  have:=zon L1
  rw [e,p1.length_eq] at this
  omega
 refine s3 y M R2 h2 _ (o2.slAt 0 rfl) hML fun z h3 o3=> ?_
 exact hK z h3 (o3.back o2.le)
def zc1.Spec (C:CSem) (N:zN):Prop:= ∀ (x y:AVal) (I:List Itm) (L:List Key) (R:List (List AVal)) (h:za) (Q:zQ),Dl zfn h x I->I.length <= 1000000->SlX h 1 y (L.map tc) R->L.length <= 1000000 ->
 (∀ x' h',Owns h h' [.sl 1 x' ((zgn I L).map tc) []]->Q x' h')->C (N 553) [x,y] h Q
abbrev iV:Int->AVal:=fun n=> .int .i64 n
theorem zc1.spec (i:zc1.Imp C N) (s0:zq.Spec C N) (s1:zch.Spec C N) (s2:zbo.Spec C N) (s3:zbh.Spec C N) (s4:zbf.Spec C N):zc1.Spec C N:=by
 intro x y I L R h Q hx hI hy hL hq
 apply i
 simp -dsimp only [zc1.cps,zc1.k5]
 refine s0 x I h _ hx (by omega) fun m p ps c h1 o1 hu=> ?_
 obtain ⟨pid,e,bp⟩:=o1.zos 1 rfl
 subst e
 have ua:UpAt h1 (.ptr pid 0 0) m ps c:=⟨by rw [zk7 bp];rfl,o1.at 0 rfl⟩
 simp -dsimp only [V.zfy,List.getElem?_cons_zero,List.getElem?_cons_succ,B.zd]
 refine (Owns.start h1).zl6 sV iV fun w h2 hw o2 _=> ?_
 have hyy:=hy.mono o1.le
 have ly:=hyy.zcv
 rw [List.length_map] at ly
 have ly:=(hy.zcv)
 rw [List.length_map] at ly
 simp -dsimp only [ly,B.zd]
 have o3:Owns h1 h2 [.blk w (zfi (encM sV iV []) 0),.sl 1 .nils [] []]:=o2.nils 1
 refine zx.intro (fun n vs hh=> ∃ (j d:Nat) (qs:Ents Key Int) (out:AVal) (O:List Key),j+n=L.length /\ vs=[out,.int .i64 (j:Int)] /\ Owns h1 hh [.blk w (zfi (encM sV iV qs) d),.sl 1 out (O.map tc) []] /\ O.length <= j /\ (∀ k,k∈O↔k∈L.take j /\ k∉zb3 I) /\
   (∀ k,0 <= (getP qs k).getD 0 /\ (getP qs k).getD 0 <= j /\ (0<(getP qs k).getD 0↔ ∃ a∈L.take j,∃ n,zgy (getP ps) n a k))) L.length ?_ ⟨0,0,[],.nils,[],by simp,rfl,o3,by simp,by simp,by simp [getP]⟩
 rintro Y n vs hh ⟨j,d,qs,out,O,hj,rfl,o,hO,hmem,hw⟩ hY
 simp -dsimp only [zc1.l4,zc1.k3,V.zef,B.zd]
 refine B.zt (fun hc=> ?_) (fun hc=> ?_)
 ·rw [decide_eq_true_eq] at hc
  obtain ⟨a,ha⟩:=zfb (L:=L) (k:=j) (by omega)
  have f1:V.idxS 1 y (.int .i64 (j:Int))=some (elp 1 y j 0):=hy.idxN (by rw [List.length_map];omega)
  have f2:A.ldv hh (elp 1 y j 0)=some (.str a):=(hyy.mono o.le).cell (by rw [List.getElem?_map,ha];rfl)
  have uh:=ua.mono o.le
  simp -dsimp only [f1,f2,B.zgl,B.zd,uh.lkp2,V.zfy,List.getElem?_cons_zero,List.getElem?_cons_succ]
  refine B.zt (fun hb=> ?_) (fun hb=> ?_)
  ·have ka:a∈zb3 I:=(hu.uf.dom a).1 (Option.isSome_iff_exists.1 hb)
   obtain ⟨t,r,hr⟩:=hu.uf.root a ka
   rw [B.zju]
   refine s1 hh _ m ps c t a r _ uh hr ?_
   have g1:A.lkp hh (some .s) (some (.int .i64 0)) false (.mp w) (.str r)=some (.int .i64 ((getP qs r).getD 0)):=o.lkp (κ:=sV) (v:=iV) 0 rfl keyS 0 r
   obtain ⟨w1,w2,w3⟩:=hw r
   have g2:V.bin .add (.int .i64 ((getP qs r).getD 0)) (.int .i64 1)=some (.int .i64 ((getP qs r).getD 0+1)):=by
    rw [V.ze4,wrap_i64 (by omega) (by omega)]
   simp -dsimp only [g1,g2,B.zd]
   refine o.mset (κ:=sV) (v:=iV) 0 rfl keyS r ((getP qs r).getD 0+1) fun h' o' _ _=> ?_
   simp -dsimp only [add1 (show j<4611686018427387904 by omega),B.zd]
   refine hY (L.length-(j+1)) _ _ (by omega) ⟨j+1,_,_,out,O,by omega,rfl,o',by omega,fun k=> ?_,fun k=> ?_⟩
   ·rw [hmem,take_succ ha]
    constructor
    ·rintro ⟨h1,h2⟩
     exact ⟨List.mem_append_left _ h1,h2⟩
    ·rintro ⟨h1,h2⟩
     rcases List.mem_append.1 h1 with h1|h1
     ·exact ⟨h1,h2⟩
     ·rw [List.mem_singleton.1 h1] at h2;exact absurd ka h2
   ·obtain ⟨k1,k2,k3⟩:=hw k
    rw [zll,take_succ ha]
    by_cases hk:k=r
    ·subst hk
     rw [if_pos rfl]
     refine ⟨by simp;omega,by simp;omega,⟨fun _=>⟨a,by simp,t,hr⟩,fun _=>by simp;omega⟩⟩
    ·rw [if_neg hk]
     refine ⟨k1,by omega,k3.trans ⟨fun ⟨b,h1,h2⟩=>⟨b,List.mem_append_left _ h1,h2⟩,fun ⟨b,h1,t',h2⟩=> ?_⟩⟩
     rcases List.mem_append.1 h1 with h1|h1
     ·exact ⟨b,h1,t',h2⟩
     ·rw [List.mem_singleton.1 h1] at h2
      exact absurd (h2.det hr).2 hk
  ·have ka:a∉zb3 I:=fun ka=>by
    obtain ⟨d,e⟩:=(hu.uf.dom a).2 ka
    rw [e] at hb;cases hb
   have hf:ze2 [(0,none,.str a)] (repL 1 [.str []])=some [.str a]:=rfl
   rw [hf]
   refine o.push 1 rfl (cs:=[.str a]) rfl (by omega) (by simp;omega) (by simp [maxLen];omega) fun out' h' o' _=> ?_
   simp -dsimp only [add1 (show j<4611686018427387904 by omega),B.zd]
   refine hY (L.length-(j+1)) _ _ (by omega) ⟨j+1,d,qs,out',O++[a],by omega,rfl,by rw [List.map_append];exact o',by simp;omega,fun k=> ?_,fun k=> ?_⟩
   ·rw [List.mem_append,hmem,take_succ ha,List.mem_append,List.mem_singleton]
    constructor
    ·rintro (⟨h1,h2⟩|rfl)
     ·exact ⟨.inl h1,h2⟩
     ·exact ⟨.inr rfl,ka⟩
    ·rintro ⟨h1|h1,h2⟩
     ·exact .inl ⟨h1,h2⟩
     ·exact .inr h1
   ·obtain ⟨k1,k2,k3⟩:=hw k
    refine ⟨k1,by omega,k3.trans ?_⟩
    rw [take_succ ha]
    constructor
    ·rintro ⟨b,h1,h2⟩
     exact ⟨b,List.mem_append_left _ h1,h2⟩
    ·rintro ⟨b,h1,t',h2⟩
     rcases List.mem_append.1 h1 with h1|h1
     ·exact ⟨b,h1,t',h2⟩
     ·rw [List.mem_singleton.1 h1] at h2
      exact absurd (h2.isKey hu.uf) ka
 ·rw [decide_eq_false_iff_not] at hc
  have:j=L.length:=by omega
  subst this
  rw [List.take_length] at hmem hw
  have isW: ∀ {a r:Key} {n:Nat},zgy (getP ps) n a r->(0<(getP qs r).getD 0↔ ∃ b∈L,b∈zb3 I /\ Eqv (ziz I) b a):=fun {a r n} hr=>by
   rw [(hw r).2.2]
   constructor
   ·rintro ⟨b,hb,k,hk⟩
    obtain ⟨h1,_,h3⟩:=hu.uf.same.1 (⟨r,k,n,hk,hr⟩:znn (getP ps) b a)
    exact ⟨b,hb,h1,h3⟩
   ·rintro ⟨b,hb,h1,h2⟩
    obtain ⟨q,k,j,h3,h4⟩:=hu.uf.same.2 ⟨h1,hr.isKey hu.uf,h2⟩
    obtain ⟨_,rfl⟩:=h4.det hr
    exact ⟨b,hb,k,h3⟩
  have hps:ps.length <= 1000000:=by
   have e1:ps.length=(zey ps).length:=by simp [zey]
   have e2:(zey ps).length <= (I.map Itm.Code).length:=hu.nodup.length_le_of_subset fun k hk=>by
    have:k∈zb3 I:=(hu.uf.dom k).1 (Option.isSome_iff_exists.1 (by
     cases e:getP ps k with
     | some _=>rfl
     | none=>exact absurd hk (znb.1 e)))
    obtain ⟨t,h1,h2⟩:=zfw.1 this
    exact List.mem_map.2 ⟨t,h1,h2⟩
   rw [List.length_map] at e2
   omega
  refine Owns.znw (κ:=sV) (v:=sV) (ps:=ps) (c:=c) (J:=fun D l vs=> ∃ (out':AVal) (O':List Key),vs=[out'] /\ l=[.blk w (zfi (encM sV iV qs) d),.sl 1 out' (O'.map tc) []] /\ O'.length <= L.length+D.length /\ ∀ k,k∈O'↔k∈O \/ (k∈D.map (·.1) /\ ∃ b∈L,b∈zb3 I /\ Eqv (ziz I) b k))
   (REST:=fun it vs v h Y=>match vs with
    | [v8]=>B.pv (V.ext 0 v) fun v47=>B.cond v47
     (B.pv (A.zgv h it) fun v48=>B.pv (V.ext 0 v48) fun v49=>B.zf2 h C (.fn (N 577) [] [.ptr pid 0 0]) [v49] fun v53 h=>
      B.pv (A.lkp h (some .s) (some (.int .i64 0)) false (.mp w) v53) fun v54=>B.pv (V.bin .gtr v54 (.int .i64 0)) fun v55=>B.cond v55
      (B.newO h (ze2 [(0,none,v49)] (repL 1 [.str []])) fun i58 h=>B.appW h 1 16 v8 (.sl i58 0 0 1 1 1) fun v59 h=>Y [v59] h) (Y [v8] h))
     (B.call C (N 364) [v8] h fun v61 h=>B.call C (N 365) [v8] h fun v63 h=>B.call C (N 567) [v63] h fun v64 h=>dn Q v64 h)
    | _=>False) o (ua.map) hu.zkx ⟨out,O,rfl,rfl,by simp;omega,fun k=>by simp⟩ ?_ ?_ ?_
  ·rintro it vs h3 Y3 D l ⟨out',O',rfl,_⟩ hn
   exact hn
  ·rintro it h3 D l b Y3 vs ⟨out',O',rfl,rfl,hl,hm⟩ hp ho
   simp -dsimp only [V.zfy,List.getElem?_cons_zero,B.zd,B.cond_false]
   have hsub:Owns h1 h3 ([.sl 1 out' (O'.map tc) []]):=ho.sub (List.Sublist.cons _ (List.Sublist.cons_cons _ (List.nil_sublist _)))
   have hDl:D.length=ps.length:=hp.length_eq
   refine zpe s2 s3 s4 hsub (by omega) (zfj I L) (fun k=> ?_) fun x' h4 o4=>zbr (hq x' h4 (o4.back o1.le))
   rw [hm,hmem,zii]
   constructor
   ·rintro (⟨h1,h2⟩|⟨h1,b,h2,h3,h4⟩)
    ·exact ⟨k,h1,.inr ⟨h2,rfl⟩⟩
    ·exact ⟨b,h2,.inl ⟨h3,h4⟩⟩
   ·rintro ⟨b,h1,⟨h2,h3⟩|⟨h2,rfl⟩⟩
    ·refine .inr ⟨?_,b,h1,h2,h3⟩
     have hk:=h3.zl8 h2
     obtain ⟨v,hv⟩:=(hu.uf.dom k).2 hk
     obtain ⟨n,hn⟩:=getP_mem hv
     exact List.mem_map.2 ⟨(k,v,n),hp.mem_iff.2 hn,rfl⟩
    ·exact .inl ⟨h1,h2⟩
  ·rintro it h3 D l b Y3 vs p hpm ⟨out',O',rfl,rfl,hl,hm⟩ hsub hpD hDl ho he hY3
   have hpk:p.1∈zb3 I:=(hu.uf.dom p.1).1 ⟨p.2.1,mem_getP hu.nodup hpm⟩
   obtain ⟨t,r,hr⟩:=hu.uf.root p.1 hpk
   have uh:=ua.mono ho.le
   simp -dsimp only [V.zfy,List.getElem?_cons_zero,List.getElem?_cons_succ,B.zd,B.cond_true,he]
   rw [B.zju]
   refine s1 h3 _ m ps c t p.1 r _ uh hr ?_
   have g1:A.lkp h3 (some .s) (some (.int .i64 0)) false (.mp w) (.str r)=some (.int .i64 ((getP qs r).getD 0)):=ho.lkp (κ:=sV) (v:=iV) 0 rfl keyS 0 r
   simp -dsimp only [g1,B.zd,V.bin_gtr]
   refine B.zt (fun hd=> ?_) (fun hd=> ?_)
   ·rw [decide_eq_true_eq] at hd
    have hf:ze2 [(0,none,.str p.1)] (repL 1 [.str []])=some [.str p.1]:=rfl
    simp -dsimp only [hf]
    refine ho.push 1 rfl (cs:=[.str p.1]) rfl (by omega) (by simp;omega) (by simp [maxLen];omega) fun out2 h4 o4 _=> ?_
    refine hY3 h4 [.blk w (zfi (encM sV iV qs) d),.sl 1 out2 ((O'++[p.1]).map tc) []] _ ⟨out2,O'++[p.1],rfl,rfl,by simp;omega,fun k=> ?_⟩ (by rw [List.map_append];exact o4)
    rw [List.mem_append,hm,List.map_append,List.mem_append,List.mem_singleton]
    constructor
    ·rintro ((h|⟨h1,h2⟩)|rfl)
     ·exact .inl h
     ·exact .inr ⟨.inl h1,h2⟩
     ·exact .inr ⟨.inr (by simp),(isW hr).1 hd⟩
    ·rintro (h|⟨h1|h1,h2⟩)
     ·exact .inl (.inl h)
     ·exact .inl (.inr ⟨h1,h2⟩)
     ·exact .inr (by simpa using h1)
   ·rw [decide_eq_false_iff_not] at hd
    refine hY3 h3 _ _ ⟨out',O',rfl,rfl,by simp;omega,fun k=> ?_⟩ ho
    rw [hm,List.map_append,List.mem_append]
    constructor
    ·rintro (h|⟨h1,h2⟩)
     ·exact .inl h
     ·exact .inr ⟨.inl h1,h2⟩
    ·rintro (h|⟨h1|h1,h2⟩)
     ·exact .inl h
     ·exact .inr ⟨h1,h2⟩
     ·have:k=p.1:=by simpa using h1
      subst this
      exact absurd ((isW hr).2 h2) hd
end Go.Ab
namespace Go.Ab
variable {C:CSem} {N:zN}
theorem partS:zcz (opsF 2 24 [.str [],.int .i64 0] 0 []) Part.cs (fun p=> .agg p.cs):=seqF (by omega) (by omega) rfl fun _=>rfl
def zbj.Spec (C:CSem) (N:zN):Prop:= ∀ (x:AVal) (L:List Part) (R:List (List AVal)) (h:za) (Q:zQ),SlX h 2 x (L.map Part.cs) R->L.length <= 100000000 ->
 (∀ x' h',Owns h h' [.sl 2 x' (L.map Part.cs) []]->Q x' h')->C (N 569) [x] h Q
theorem zbj.spec (i:zbj.Imp C N):zbj.Spec C N:=fun x L R h Q hx hlen hq=>
 i x h Q (zrg partS hx hlen fun x' h' ho=>zbr (hq x' h' ho))
def zfd (s:Sta) (L:List Key):Sta:={ s with zdg:=s.zdg.filter (fun t=>decide (t.Code∈L)),Lots:=s.Lots.filter (fun t=>decide (t.Item∈L)),zex:=s.zex.filter (fun t=>decide (t.Item∈L)) }
def zbx.Spec (C:CSem) (N:zN):Prop:= ∀ (s:Sta) (x y z w:AVal) (L:List Key) (R:List (List AVal)) (h:za) (Q:zQ),znm h s x y z->SlX h 1 w (L.map tc) R->L.length <= 100000000->s.zdg.length+s.Lots.length+s.zex.length <= 1000000 ->
 (∀ x' P y' z' h',P.map (·.1)=(zfd s L).zdg->Owns h h' (StaO (zfd s L) x' P y' z')->Q (.agg (zfp (zfd s L) x' y' z')) h')->C (N 558) [.agg (zfp s x y z),w] h Q
theorem zje {α:Type} (f:α->Bool) {l:List α} {j:Nat} {a:α} (h:l[j]? =some a):(l.take (j+1)).filter f=(l.take j).filter f++if f a=true then [a] else []:=by
 rw [take_succ h,List.filter_append]
 congr 1
 by_cases hf:f a=true
 ·rw [if_pos hf,List.filter_cons_of_pos hf];rfl
 ·rw [if_neg hf,List.filter_cons_of_neg hf];rfl
theorem zg7 {α:Type} (f:α->Bool) (l:List α) (j:Nat):((l.take j).filter f).length <= l.length:=by
 have:=List.length_filter_le f (l.take j)
 rw [List.length_take] at this
 omega
theorem zbx.spec (i:zbx.Imp C N) (s1:zbi.Spec C N) (s2:zbj.Spec C N) (s3:zbf.Spec C N):zbx.Spec C N:=by
 intro s x y z w L R h Q hs hw hL hn hq
 obtain ⟨hI,⟨R2,hy⟩,⟨R3,hz⟩,n1,n2,n3⟩:=hs
 have cx:=hI.zcq
 have cy:=hy.zcq
 have cz:=hz.zcq
 have lx:=hI.zcv
 have ly:=hy.zcv
 have lz:=hz.zcv
 rw [List.length_map] at ly lz
 apply i
 simp -dsimp [cx,cy,cz,lx, - zbx.l6, - zbx.k5]
 refine zx.intro (fun n vs hh=> ∃ (j:Nat) (X:AVal) (P:List (Itm×(AVal×AVal))),j+n=s.zdg.length /\ vs=[.int .i64 (j:Int),.agg [.int .i64 s.Now,.int .i64 s.zh7,.int .i64 s.zge,X,.nils,.nils]] /\ P.map (·.1)=(s.zdg.take j).filter (fun t=>decide (t.Code∈L)) /\ Df zfn h hh X P) s.zdg.length ?_ ⟨0,.nils,[],by simp,rfl,by simp,by simpa [Df,DK.os] using (Owns.start h).nils zfn.n⟩
 rintro Y n vs hh ⟨j,X,P,hj,rfl,eP,o⟩ hY
 have hPl:P.length <= s.zdg.length:=by
  have:=congrArg List.length eP
  rw [List.length_map] at this
  rw [this];exact zg7 _ _ _
 have cX:X.zcq=true:=(o.slAt 0 rfl).zcq
 simp -dsimp only [zbx.l6,zbx.k5,V.zef,B.zd]
 refine B.zt (fun hc=> ?_) (fun hc=> ?_)
 ·rw [decide_eq_true_eq] at hc
  obtain ⟨t,ht⟩:=zfb (L:=s.zdg) (k:=j) (by omega)
  obtain ⟨a,ea⟩:=(hI.mono o.le).get ht
  have e1:V.idxS 4 x (.int .i64 (j:Int))=some (elp 4 x j 0):=ea.idx
  have e2:A.ldnv hh (elp 4 x j 0) 4=some (.agg [.str t.Code,.int .i64 t.Life,a.1,a.2]):=ea.ldn
  obtain ⟨⟨Rp,hp⟩,⟨Ro,ho⟩,hok⟩:(∃ R,SlX hh 2 a.1 (t.ze0.map Part.cs) R) /\ (∃ R,SlX hh 1 a.2 (t.zed.map tc) R) /\ t.ok:=ea.at_
  have ca1:=hp.zcq
  have ca2:=ho.zcq
  have hf:=zje (fun t:Itm=>decide (t.Code∈L)) ht
  simp -dsimp [e1,e2,ca1,ca2, - V.ze4]
  refine s1 w L R t.Code hh _ (hw.mono o.le) (by omega) ?_
  refine B.zt (fun hb=> ?_) (fun hb=> ?_)
  ·rw [if_pos hb] at hf
   simp -dsimp [ca1,ca2,cX, - V.ze4]
   have hok':t.ze0.length <= few /\ t.zed.length <= few:=hok
   unfold few at hok'
   refine s2 a.1 t.ze0 Rp hh _ hp (by omega) fun p' h1 o1=> ?_
   have cp':p'.zcq=true:=(o1.slAt 0 rfl).zcq
   simp -dsimp [ca1,ca2,cp',cX, - V.ze4]
   refine s3 a.2 t.zed Ro h1 _ (ho.mono o1.le) (by omega) fun q' h2 o2=> ?_
   have cq':q'.zcq=true:=(o2.slAt 0 rfl).zcq
   have hfl:ze2 [(0,some 4,.agg (zfn.cells t (p',q')))] (repL 1 [.str [],.int .i64 0,.nils,.nils])=some (zfn.cells t (p',q')):=fill_agg zfn t (p',q')
   have hfl:ze2 [(0,some 4,.agg [.str t.Code,.int .i64 t.Life,p',q'])] (repL 1 [.str [],.int .i64 0,.nils,.nils])=some [.str t.Code,.int .i64 t.Life,p',q']:=hfl
   simp -dsimp [cp',cq',cX,hfl, - V.ze4]
   have o3:=Owns.join o (o1.join o2)
   refine o3.push 0 rfl (cs:=[.str t.Code,.int .i64 t.Life,p',q']) rfl (by decide) (by simp;omega) (by simp [maxLen];omega) fun X' h3 o4 _=> ?_
   have cX':X'.zcq=true:=(o4.slAt 0 rfl).zcq
   simp -dsimp [cX', - V.ze4]
   rw [add1 (show j<4611686018427387904 by omega)]
   simp -dsimp only [B.zd]
   refine hY (s.zdg.length-(j+1)) _ _ (by omega) ⟨j+1,X',P++[(t,(p',q'))],by omega,rfl,by rw [hf, <- eP,List.map_append];rfl,?_⟩
   unfold Df
   rw [DK.os_append,DK.os_one,List.map_append]
   exact o4
  ·rw [if_neg (by rw [hb];exact Bool.false_ne_true),List.append_nil] at hf
   simp -dsimp only [add1 (show j<4611686018427387904 by omega),B.zd]
   exact hY (s.zdg.length-(j+1)) _ _ (by omega) ⟨j+1,X,P,by omega,rfl,by rw [hf];exact eP,o⟩
 ·rw [decide_eq_false_iff_not] at hc
  have:j=s.zdg.length:=by omega
  subst this
  rw [List.take_length] at eP
  simp -dsimp [cy,ly, - zbx.l4, - zbx.k3]
  have o0:Owns h hh ([.sl 4 X (P.map zfn.cs) [],.sl 6 .nils [] []]++zfn.os false P):=(Owns.nils o 6).perm ((List.perm_append_comm (l₁:=zfn.os false P) (l₂:=[Ob.sl 6 .nils [] []])).cons _)
  refine zx.intro (fun n vs hh=> ∃ (j:Nat) (Yv:AVal),j+n=s.Lots.length /\ vs=[.int .i64 (j:Int),.agg [.int .i64 s.Now,.int .i64 s.zh7,.int .i64 s.zge,X,Yv,.nils]] /\ Owns h hh ([.sl 4 X (P.map zfn.cs) [],.sl 6 Yv (((s.Lots.take j).filter (fun t=>decide (t.Item∈L))).map Lot.cs) []]++zfn.os false P)) s.Lots.length ?_ ⟨0,.nils,by simp,rfl,by simpa using o0⟩
  rintro Y2 n vs h2 ⟨j,Yv,hj2,rfl,o⟩ hY2
  have cYv:Yv.zcq=true:=(o.slAt 1 rfl).zcq
  have hQl:=zg7 (fun t:Lot=>decide (t.Item∈L)) s.Lots j
  simp -dsimp only [zbx.l4,zbx.k3,V.zef,B.zd]
  refine B.zt (fun hc=> ?_) (fun hc=> ?_)
  ·rw [decide_eq_true_eq] at hc
   obtain ⟨t,ht⟩:=zfb (L:=s.Lots) (k:=j) (by omega)
   have f1:V.idxS 6 y (.int .i64 (j:Int))=some (elp 6 y j 0):=hy.idxN (by rw [List.length_map];omega)
   have f2:A.ldnv h2 (elp 6 y j 0) 6=some (.agg t.cs):=(hy.mono o.le).elem (by rw [List.getElem?_map,ht];rfl)
   have hf:=zje (fun t:Lot=>decide (t.Item∈L)) ht
   simp -dsimp [f1,f2, - V.ze4]
   refine s1 w L R t.Item h2 _ (hw.mono o.le) (by omega) ?_
   refine B.zt (fun hb=> ?_) (fun hb=> ?_)
   ·rw [if_pos hb] at hf
    simp -dsimp [cX,cYv,repL, - V.ze4]
    refine o.push 1 rfl (cs:=t.cs) rfl (by decide) (by simp;omega) (by simp [maxLen];omega) fun Y' h3 o4 _=> ?_
    have cY':Y'.zcq=true:=(o4.slAt 1 rfl).zcq
    simp -dsimp [cY', - V.ze4]
    rw [add1 (show j<4611686018427387904 by omega)]
    simp -dsimp only [B.zd]
    refine hY2 (s.Lots.length-(j+1)) _ _ (by omega) ⟨j+1,Y',by omega,rfl,?_⟩
    rw [hf,List.map_append]
    exact o4
   ·rw [if_neg (by rw [hb];exact Bool.false_ne_true),List.append_nil] at hf
    simp -dsimp only [add1 (show j<4611686018427387904 by omega),B.zd]
    exact hY2 (s.Lots.length-(j+1)) _ _ (by omega) ⟨j+1,Yv,by omega,rfl,by rw [hf];exact o⟩
  ·rw [decide_eq_false_iff_not] at hc
   have:j=s.Lots.length:=by omega
   subst this
   rw [List.take_length] at o
   simp -dsimp [cz,lz, - zbx.l2, - zbx.k1]
   have o0:Owns h h2 ([.sl 4 X (P.map zfn.cs) [],.sl 6 Yv ((s.Lots.filter (fun t=>decide (t.Item∈L))).map Lot.cs) [],.sl 8 .nils [] []]++zfn.os false P):=by
    have:=Owns.nils o 8
    exact this.perm (((List.perm_append_comm (l₁:=zfn.os false P) (l₂:=[Ob.sl 8 .nils [] []])).cons _).cons _)
   refine zx.intro (fun n vs hh=> ∃ (j:Nat) (Zv:AVal),j+n=s.zex.length /\ vs=[.int .i64 (j:Int),.agg [.int .i64 s.Now,.int .i64 s.zh7,.int .i64 s.zge,X,Yv,Zv]] /\ Owns h hh ([.sl 4 X (P.map zfn.cs) [],.sl 6 Yv ((s.Lots.filter (fun t=>decide (t.Item∈L))).map Lot.cs) [],.sl 8 Zv (((s.zex.take j).filter (fun t=>decide (t.Item∈L))).map Line.cs) []]++zfn.os false P)) s.zex.length ?_ ⟨0,.nils,by simp,rfl,by simpa using o0⟩
   rintro Y3 n vs h3 ⟨j,Zv,hj3,rfl,o⟩ hY3
   have cZv:Zv.zcq=true:=(o.slAt 2 rfl).zcq
   have hQl:=zg7 (fun t:Line=>decide (t.Item∈L)) s.zex j
   simp -dsimp only [zbx.l2,zbx.k1,V.zef,B.zd]
   refine B.zt (fun hc=> ?_) (fun hc=> ?_)
   ·rw [decide_eq_true_eq] at hc
    obtain ⟨t,ht⟩:=zfb (L:=s.zex) (k:=j) (by omega)
    have f1:V.idxS 8 z (.int .i64 (j:Int))=some (elp 8 z j 0):=hz.idxN (by rw [List.length_map];omega)
    have f2:A.ldnv h3 (elp 8 z j 0) 8=some (.agg t.cs):=(hz.mono o.le).elem (by rw [List.getElem?_map,ht];rfl)
    have hf:=zje (fun t:Line=>decide (t.Item∈L)) ht
    simp -dsimp [f1,f2, - V.ze4]
    refine s1 w L R t.Item h3 _ (hw.mono o.le) (by omega) ?_
    refine B.zt (fun hb=> ?_) (fun hb=> ?_)
    ·rw [if_pos hb] at hf
     simp -dsimp [cX,cYv,cZv,repL, - V.ze4]
     refine o.push 2 rfl (cs:=t.cs) rfl (by decide) (by simp;omega) (by simp [maxLen];omega) fun Z' h4 o4 _=> ?_
     have cZ':Z'.zcq=true:=(o4.slAt 2 rfl).zcq
     simp -dsimp [cZ', - V.ze4]
     rw [add1 (show j<4611686018427387904 by omega)]
     simp -dsimp only [B.zd]
     refine hY3 (s.zex.length-(j+1)) _ _ (by omega) ⟨j+1,Z',by omega,rfl,?_⟩
     rw [hf,List.map_append]
     exact o4
    ·rw [if_neg (by rw [hb];exact Bool.false_ne_true),List.append_nil] at hf
     simp -dsimp only [add1 (show j<4611686018427387904 by omega),B.zd]
     exact hY3 (s.zex.length-(j+1)) _ _ (by omega) ⟨j+1,Zv,by omega,rfl,by rw [hf];exact o⟩
   ·rw [decide_eq_false_iff_not] at hc
    have:j=s.zex.length:=by omega
    subst this
    rw [List.take_length] at o
    simp -dsimp [cX,cYv,cZv]
    exact zbr (hq X P Yv Zv h3 eP o)
end Go.Ab
namespace Go.Ab
variable {C:CSem} {N:zN}
def zd7.Spec (C:CSem) (N:zN):Prop:= ∀ (x y:AVal) (L M Z:List Key) (R S:List (List AVal)) (h:za) (Q:zQ),SlX h 1 x (L.map tc) R->SlX h 1 y (M.map tc) S->L.length+M.length <= 10000000->zgz Z->(∀ k,k∈L++M↔k∈Z) ->
 (∀ x' h',Owns h h' [.sl 1 x' (Z.map tc) []]->Q x' h')->C (N 570) [x,y] h Q
theorem zd7.spec (i:zd7.Imp C N) (s0:zl.Spec C N) (s1:zbo.Spec C N) (s2:zbh.Spec C N) (s3:zbf.Spec C N):zd7.Spec C N:=by
 intro x y L M Z R S h Q hx hy hl hZ hm hq
 have cx:=hx.zcq
 have cy:=hy.zcq
 apply i
 simp -dsimp [cx,cy,repL]
 intro i8 f8
 have o1:Owns h _ [.sl 1 (.sl i8 0 0 2 1 2) [[x],[y]] []]:=(Owns.start h).newSl (id:=i8) (n:=2) (cp:=2) (es:=1) (cs:=[x,y]) (L:=[[x],[y]]) (R:=[]) f8 (by simp) rfl (by simp) rfl
 generalize upd h i8 (zez [x,y])=h1 at *
 refine s0 (.sl i8 0 0 2 1 2) [x,y] [L,M] [] h1 _ (o1.slAt 0 rfl) rfl (fun j v l hv hl=> ?_) (by simp) (by simp;omega) fun x' h2 R' o2=> ?_
 ·match j,hv,hl with
  | 0,hv,hl=>cases hv;cases hl;exact ⟨R,hx.mono o1.le⟩
  | 1,hv,hl=>cases hv;cases hl;exact ⟨S,hy.mono o1.le⟩
  | j+2,hv,_=>simp at hv
 have e:[L,M].flatten=L++M:=by simp
 rw [e] at o2
 exact zpe s1 s2 s3 o2 (by simp;omega) hZ hm fun z h3 o3=>zbr (hq z h3 (o3.back o1.le))
structure AskC (cs:List AVal) (k:UInt8) (item:Key) (lot line:Int):Prop where
 len:cs.length=11
 kind:cs[0]? =some (.int .u8 (k.toNat:Int))
 item:cs[2]? =some (.str item)
 lot:cs[7]? =some (.int .i64 lot)
 line:cs[8]? =some (.int .i64 line)
theorem askLd {h:za} {id:Nat} {cs:List AVal} (hb:h id=some (zez cs)) {j:Nat} {v:AVal} (hv:cs[j]? =some v):A.ldv h (.ptr id 0 j)=some v:=by rw [zk7 hb];exact hv
def z7.Spec (C:CSem) (N:zN):Prop:= ∀ (x f:AVal) (p:Lot->Bool) (L:List Lot) (R:List (List AVal)) (h:za) (Q:zQ),SlX h 6 x (L.map Lot.cs) R->L.length<4611686018427387904->AskSpec C (fun w:Lot=> .agg w.cs) f p h ->
 Q (.int .i64 (idxI p L)) h->C (N 572) [x,f] h Q
theorem z7.spec (i:z7.Imp C N):z7.Spec C N:=by
 intro x f p L R h Q hx hlen hf hq
 exact i _ _ _ _ (zqn lotS hx hlen hf (zbr hq))
def zdx.Spec (C:CSem) (N:zN):Prop:= ∀ (w:Lot) (lot:Int) (id:Nat) (cs:List AVal) (h:za) (Q:zQ),h id=some (zez cs)->cs[7]? =some (.int .i64 lot)->Q (.bool (decide (w.Id=lot))) h->C (N 571) [.agg w.cs,.ptr id 0 0] h Q
theorem zdx.spec (i:zdx.Imp C N):zdx.Spec C N:=by
 intro w lot id cs h Q hb hv hq
 apply i
 simp -dsimp [askLd hb hv]
 exact zbr hq
def zdw.Spec (C:CSem) (N:zN):Prop:= ∀ (w:Line) (line:Int) (id:Nat) (cs:List AVal) (h:za) (Q:zQ),h id=some (zez cs)->cs[8]? =some (.int .i64 line)->Q (.bool (decide (w.Id=line))) h->C (N 573) [.agg w.cs,.ptr id 0 0] h Q
theorem zdw.spec (i:zdw.Imp C N):zdw.Spec C N:=by
 intro w line id cs h Q hb hv hq
 apply i
 simp -dsimp [askLd hb hv]
 exact zbr hq
def zdy.Spec (C:CSem) (N:zN):Prop:= ∀ (t:Itm) (a:AVal×AVal) (item:Key) (id:Nat) (cs:List AVal) (h:za) (Q:zQ),zfn.at_ h t a->h id=some (zez cs)->cs[2]? =some (.str item)->Q (.bool (decide (t.Code=item))) h->C (N 574) [.agg (zfn.cells t a),.ptr id 0 0] h Q
theorem zdy.spec (i:zdy.Imp C N):zdy.Spec C N:=by
 intro t a item id cs h Q ha hb hv hq
 obtain ⟨⟨R1,a1⟩,⟨R2,a2⟩,_⟩:(∃ R,SlX h 2 a.1 (t.ze0.map Part.cs) R) /\ (∃ R,SlX h 1 a.2 (t.zed.map tc) R) /\ t.ok:=ha
 have c1:=a1.zcq
 have c2:=a2.zcq
 apply i
 simp -dsimp [zfn,c1,c2,askLd hb hv]
 exact zbr hq
end Go.Ab
namespace Go.Ab
variable {C:CSem} {N:zN}
def z6.Spec (C:CSem) (N:zN):Prop:= ∀ (x:AVal) (c:Key) (id:Nat) (cs:List AVal) (L:List Itm) (h:za) (Q:zQ),Dl zfn h x L->L.length <= 100000000->h id=some (zez cs)->cs[2]? =some (.str c) ->
 Q (.bool (decide (c∈zb3 L))) h->C (N 575) [x,.fn (N 574) [] [.ptr id 0 0]] h Q
theorem z6.spec (i:z6.Imp C N) (i2:zbd.Imp C N) (s1:zdy.Spec C N):z6.Spec C N:=by
 intro x c id cs L h Q hx hlen hid hv hq
 apply i
 simp -dsimp only [z6.cps,zir.cps]
 refine i2 _ _ _ _ ?_
 simp -dsimp only [zbd.cps,zb2.cps,hx.zcv,B.zd]
 refine zx.intro (fun t vs hh=>hh=h /\ ∃ k:Nat,k+t=L.length /\ vs=[.int .i64 (k:Int)] /\ ∀ i,i<k-> ∀ a,L[i]? =some a->a.Code≠c) L.length ?_ ⟨rfl,0,by omega,rfl,fun i hi=>by omega⟩
 rintro Y t vs h ⟨rfl,k,ht,rfl,hno⟩ hY
 simp -dsimp only [zb2.l2,zb2.k1,lssN,B.zd]
 refine B.zt (fun hb=> ?_) (fun hb=> ?_)<;>simp only [decide_eq_true_eq,decide_eq_false_iff_not] at hb
 ·obtain ⟨p,o,e1,e2,_,_,_,_,_,_,ha⟩:=itm_get hx (List.getElem?_eq_getElem hb)
  simp -dsimp only [opsF,e1,B.zd,B.zq7,e2]
  refine s1 _ _ c id cs _ _ ha hid hv ?_
  refine B.zt (fun hc=> ?_) (fun hc=> ?_)
  ·have hm:c∈zb3 L:=zfw.2 ⟨L[k],List.getElem_mem hb,by simpa using hc⟩
   rw [decide_eq_true hm] at hq
   have hk:decide ((0:Int) <= (k:Int))=true:=by simp
   refine zbr ?_
   simp -dsimp only [V.zgx,hk,B.zd]
   exact zbr hq
  ·simp -dsimp only [add1 (show k<4611686018427387904 by omega),B.zd]
   refine hY (L.length-(k+1)) _ _ (by omega) ⟨rfl,k+1,by omega,rfl,fun i hi a hia=> ?_⟩
   by_cases e:i=k
   ·subst e;rw [List.getElem?_eq_getElem hb] at hia;cases hia;simpa using hc
   ·exact hno i (by omega) a hia
 ·have hm:c∉zb3 L:=fun hm=>by
   obtain ⟨t,h1,h2⟩:=zfw.1 hm
   obtain ⟨j,hj,rfl⟩:=List.getElem_of_mem h1
   exact hno j (by omega) _ (List.getElem?_eq_getElem hj) h2
  rw [decide_eq_false hm] at hq
  refine zbr ?_
  simp -dsimp
  exact zbr hq
def zjv:List Key:=[[42]]
def lotT:Key:=[35,108,111,116]
def lineT:Key:=[35,108,105,110,101]
def ze3 (s:Sta) (k:UInt8) (item:Key) (lot line:Int):List Key:=
 if k=4 \/ k=5 then if item∈zb3 s.zdg then putT (zgn s.zdg [item]) lotT else zjv
 else if k=9 then if item∈zb3 s.zdg then putT (zgn s.zdg [item]) lineT else zjv
 else if k=13 \/ k=15 then if item∈zb3 s.zdg then zgn s.zdg [item] else zjv
 else if k=6 \/ k=7 \/ k=8 then match s.Lots.find? (fun l=>decide (l.Id=lot)) with|some t=>zgn s.zdg [t.Item]|none=>zjv
 else if k=10 \/ k=11 \/ k=14 then match s.zex.find? (fun l=>decide (l.Id=line)) with|some t=>zgn s.zdg [t.Item]|none=>zjv
 else if k<1 \/ 15<k then [] else zjv
def zn.Spec (C:CSem) (N:zN):Prop:= ∀ (s:Sta) (x y z:AVal) (cs:List AVal) (k:UInt8) (item:Key) (lot line:Int) (h:za) (Q:zQ),znm h s x y z->s.zdg.length <= 100000->AskC cs k item lot line ->
 (∀ x' h',Owns h h' [.sl 1 x' ((ze3 s k item lot line).map tc) []]->Q x' h')->C (N 559) [.agg (zfp s x y z),.agg cs] h Q
theorem find_idx {α:Type} {p:α->Bool} {L:List α}:(L.find? p=none /\ idxI p L= -1) \/ ∃ (k:Nat) (t:α),L.find? p=some t /\ idxI p L=k /\ L[k]? =some t:=by
 unfold idxI
 cases e:L.findIdx? p with
 | none=>
  rw [List.findIdx?_eq_none_iff] at e
  exact .inl ⟨List.find?_eq_none.2 fun x hx=>by simp [e x hx],rfl⟩
 | some k=>
  rw [List.findIdx?_eq_some_iff_getElem] at e
  obtain ⟨h1,h2,h3⟩:=e
  refine .inr ⟨k,L[k],?_,rfl,List.getElem?_eq_getElem h1⟩
  rw [List.find?_eq_some_iff_getElem]
  exact ⟨h2,k,h1,rfl,fun j hj=>by simpa using h3 j hj⟩
theorem zlp (I:List Itm):(zb3 I).length <= I.length:=by
 have:=(zf7 (zmt I)).length_le_of_subset (l₂:=I.map Itm.Code) fun k hk=>by
  obtain ⟨t,h1,h2⟩:=zfw.1 hk
  exact List.mem_map.2 ⟨t,h1,h2⟩
 rwa [List.length_map] at this
theorem withT_len (I:List Itm) (c:Key):(zgn I [c]).length <= I.length+1:=by
 have h:=(zf7 (zfj I [c])).length_le_of_subset (l₂:=c::zb3 I) fun k hk=>by
  obtain ⟨d,h1,h2⟩:=zii.1 hk
  rw [List.mem_singleton.1 h1] at h2
  rcases h2 with ⟨h2,h3⟩|⟨_,rfl⟩
  ·exact List.mem_cons_of_mem _ (h3.zl8 h2)
  ·exact List.mem_cons_self ..
 have:=zlp I
 rw [List.length_cons] at h
 omega
theorem zn.spec (i:zn.Imp C N) (s1:z6.Spec C N) (s2:zc1.Spec C N) (s3:zd7.Spec C N) (s4:z7.Spec C N) (s5:zw.Spec C N) (s6:zdx.Spec C N) (s7:zdw.Spec C N):zn.Spec C N:=by
 intro s x y z cs k item lot line h Q hs hn hc hq
 obtain ⟨hI,⟨R2,hy⟩,⟨R3,hz⟩,n1,n2,n3⟩:=hs
 have cx:=hI.zcq
 have cy:=hy.zcq
 have cz:=hz.zcq
 have hcl:=hc.len
 apply i
 simp -dsimp [cx,cy,cz, - zn.k11]
 simp -dsimp only [A.znl,hcl,if_true]
 intro i3 f3
 have o1:=(Owns.start h).zpy f3 cs
 generalize upd h i3 (zez cs)=h1 at *
 obtain ⟨_,e,hb⟩:=o1.zos 0 rfl
 cases e
 have hx1:=hI.mono o1.le
 have lkind: ∀ {h'},h1.le h'->A.ldv h' (.ptr i3 0 0)=some (.int .u8 (k.toNat:Int)):=fun hle=>askLd (hle _ _ hb) hc.kind
 have litem: ∀ {h'},h1.le h'->A.ldv h' (.ptr i3 0 2)=some (.str item):=fun hle=>askLd (hle _ _ hb) hc.item
 have kq: ∀ n:Nat,n<256->(((k.toNat:Nat):Int)=(n:Int)↔k=UInt8.ofNat n):=fun n hn=>by
  constructor
  ·intro e
   have:k.toNat=n:=by omega
   rw [<- this];simp
  ·intro e
   rw [e]
   have:(UInt8.ofNat n).toNat=n:=by simp;omega
   rw [this]
 have star: ∀ h',h1.le h'->ze3 s k item lot line=(if k<1 \/ 15<k then [] else zjv)->zn.k1 C N (dn Q) (.ptr i3 0 0) h':=by
  intro h' hle hcod
  have hh:h.le h':=za.le_trans o1.le hle
  have l1:(k.toNat:Int)<1↔k<1:=by rw [UInt8.lt_iff_toNat_lt,show (1:UInt8).toNat=1 from rfl];omega
  have l2:(15:Int)<(k.toNat:Int)↔15<k:=by rw [UInt8.lt_iff_toNat_lt,show (15:UInt8).toNat=15 from rfl];omega
  by_cases hk:k<1 \/ 15<k
  ·rw [if_pos hk] at hcod
   rw [hcod] at hq
   have fin:dn Q .nils h':=dn_le hh (hq .nils h ((Owns.start h).nils 1))
   by_cases hk1:k<1
   ·simp -dsimp [lkind hle,l1,hk1]
    exact fin
   ·have hk2:15<k:=hk.resolve_left hk1
    simp -dsimp [lkind hle,l1,l2,hk1,hk2]
    exact fin
  ·rw [if_neg hk] at hcod
   rw [hcod] at hq
   have hk1: ¬ k<1:=fun e=>hk (.inl e)
   have hk2: ¬ 15<k:=fun e=>hk (.inr e)
   simp -dsimp [lkind hle,l1,l2,hk1,hk2,repL]
   intro i95 f95
   have o2:=(Owns.start h').newSl (id:=i95) (n:=1) (cp:=1) (es:=1) (cs:=[.str [42]]) (L:=[[.str [42]]]) (R:=[]) f95 (by simp) rfl (by simp) rfl
   exact zbr (hq _ _ (o2.back hh))
 simp -dsimp only [zn.k11,B.zio,V.zfx,List.getElem?_cons_zero,List.getElem?_cons_succ,B.zd]
 refine s1 x item i3 cs s.zdg h1 _ hx1 (by omega) hb hc.item ?_
 simp -dsimp only [V.fieldAddr_ptr,Nat.zero_add,B.zgl,lkind (za.le_refl h1),B.zd]
 have wth: ∀ (c:Key) (h':za) (id:Nat) (K:zQ),h1.le h'->h' id=none->(∀ v h2,Owns h1 h2 [.sl 1 v ((zgn s.zdg [c]).map tc) []]->K v h2)->C (N 553) [x,.sl id 0 0 1 1 1] (upd h' id (zez [.str c])) K:=by
  intro c h' id K hle hid hK
  have o2:=(Owns.start h').newSl (id:=id) (n:=1) (cp:=1) (es:=1) (cs:=[.str c]) (L:=[c].map tc) (R:=[]) hid (by simp [tc]) rfl (by simp) rfl
  have le2:=za.le_trans hle o2.le
  exact s2 x _ s.zdg [c] [] _ K (hx1.mono le2) (by omega) (o2.slAt 0 rfl) (by simp) fun v h2 o3=>hK v h2 (o3.back le2)
 have wl:=withT_len s.zdg item
 have more: ∀ (m:Key) (v:AVal) (h2:za) (id:Nat) (K:zQ),Owns h1 h2 [.sl 1 v ((zgn s.zdg [item]).map tc) []]->h2 id=none->(∀ v' h3,Owns h1 h3 [.sl 1 v' ((putT (zgn s.zdg [item]) m).map tc) []]->K v' h3)->C (N 570) [v,.sl id 0 0 1 1 1] (upd h2 id (zez [.str m])) K:=by
  intro m v h2 id K o2 hid hK
  have o3:=o2.newSl (id:=id) (n:=1) (cp:=1) (es:=1) (cs:=[.str m]) (L:=[m].map tc) (R:=[]) hid (by simp [tc]) rfl (by simp) rfl
  refine s3 v _ (zgn s.zdg [item]) [m] (putT (zgn s.zdg [item]) m) [] [] _ K (o3.slAt 0 rfl) (o3.slAt 1 rfl) (by simp;omega) (zj5 (zfj _ _)) (fun k=> ?_) fun v' h3 o4=>hK v' h3 (o4.back o3.le)
  rw [List.mem_append,List.mem_singleton,zm2]
  exact Or.comm
 by_cases h4:k=4 \/ k=5
 ·have hcod:ze3 s k item lot line=if item∈zb3 s.zdg then putT (zgn s.zdg [item]) lotT else zjv:=by unfold ze3;rw [if_pos h4]
  have k2:zn.k2 C N (dn Q) (.ptr i3 0 0) (.bool (decide (item∈zb3 s.zdg))) (.agg (zfp s x y z)) h1:=by
   refine B.zt (fun hm=> ?_) (fun hm=> ?_)
   ·rw [if_pos (of_decide_eq_true hm)] at hcod
    rw [hcod] at hq
    simp -dsimp [litem (za.le_refl h1),repL, - zn.k1]
    intro i22 f22
    refine wth item h1 i22 _ (za.le_refl h1) f22 fun v h2 o2=> ?_
    simp -dsimp [repL]
    intro i24 f24
    exact more lotT v h2 i24 _ o2 f24 fun v' h3 o3=>zbr (hq v' h3 (o3.back o1.le))
   ·rw [if_neg (of_decide_eq_false hm)] at hcod
    refine star h1 (za.le_refl h1) ?_
    rw [hcod,if_neg]
    rcases h4 with rfl|rfl<;>decide
  rcases h4 with rfl|rfl
  ·simp -dsimp [zn.k10, - zn.k2, - zn.k1]
   exact k2
  ·simp -dsimp [zn.k10, - zn.k2, - zn.k1]
   exact k2
 have a4:k≠4:=fun e=>h4 (.inl e)
 have a5:k≠5:=fun e=>h4 (.inr e)
 have q4:decide ((k.toNat:Int)=4)=false:=decide_eq_false fun e=>a4 ((kq 4 (by omega)).1 e)
 have q5:decide ((k.toNat:Int)=5)=false:=decide_eq_false fun e=>a5 ((kq 5 (by omega)).1 e)
 simp -dsimp only [zn.k10,V.zf0,q4,q5,B.zd,B.cond_false]
 by_cases h9:k=9
 ·subst h9
  have hcod:ze3 s 9 item lot line=if item∈zb3 s.zdg then putT (zgn s.zdg [item]) lineT else zjv:=by unfold ze3;rw [if_neg h4,if_pos rfl]
  have e9:decide ((((9:UInt8).toNat:Nat):Int)=9)=true:=by decide
  simp -dsimp only [e9,B.cond_true]
  refine B.zt (fun hm=> ?_) (fun hm=> ?_)
  ·rw [if_pos (of_decide_eq_true hm)] at hcod
   rw [hcod] at hq
   simp -dsimp [litem (za.le_refl h1),repL, - zn.k1]
   intro i22 f22
   refine wth item h1 i22 _ (za.le_refl h1) f22 fun v h2 o2=> ?_
   simp -dsimp [repL]
   intro i24 f24
   exact more lineT v h2 i24 _ o2 f24 fun v' h3 o3=>zbr (hq v' h3 (o3.back o1.le))
  ·rw [if_neg (of_decide_eq_false hm)] at hcod
   refine star h1 (za.le_refl h1) ?_
   rw [hcod,if_neg (by decide)]
 have q9:decide ((k.toNat:Int)=9)=false:=decide_eq_false fun e=>h9 ((kq 9 (by omega)).1 e)
 simp -dsimp only [q9,B.cond_false,zn.k9,V.zf0,B.zd]
 by_cases h13:k=13 \/ k=15
 ·have hcod:ze3 s k item lot line=if item∈zb3 s.zdg then zgn s.zdg [item] else zjv:=by unfold ze3;rw [if_neg h4,if_neg h9,if_pos h13]
  have k4:zn.k4 C N (dn Q) (.ptr i3 0 0) (.bool (decide (item∈zb3 s.zdg))) (.agg (zfp s x y z)) h1:=by
   refine B.zt (fun hm=> ?_) (fun hm=> ?_)
   ·rw [if_pos (of_decide_eq_true hm)] at hcod
    rw [hcod] at hq
    simp -dsimp [litem (za.le_refl h1),repL, - zn.k1]
    intro i22 f22
    exact wth item h1 i22 _ (za.le_refl h1) f22 fun v h2 o2=>zbr (hq v h2 (o2.back o1.le))
   ·rw [if_neg (of_decide_eq_false hm)] at hcod
    refine star h1 (za.le_refl h1) ?_
    rw [hcod,if_neg]
    rcases h13 with rfl|rfl<;>decide
  rcases h13 with rfl|rfl
  ·simp -dsimp [- zn.k4, - zn.k1]
   exact k4
  ·simp -dsimp [- zn.k4, - zn.k1]
   exact k4
 have a13:k≠13:=fun e=>h13 (.inl e)
 have a15:k≠15:=fun e=>h13 (.inr e)
 have q13:decide ((k.toNat:Int)=13)=false:=decide_eq_false fun e=>a13 ((kq 13 (by omega)).1 e)
 have q15:decide ((k.toNat:Int)=15)=false:=decide_eq_false fun e=>a15 ((kq 15 (by omega)).1 e)
 simp -dsimp only [q13,q15,B.cond_false,zn.k8,V.zf0,B.zd]
 by_cases h6:k=6 \/ k=7 \/ k=8
 ·have hcod:ze3 s k item lot line=match s.Lots.find? (fun l=>decide (l.Id=lot)) with|some t=>zgn s.zdg [t.Item]|none=>zjv:=by unfold ze3;rw [if_neg h4,if_neg h9,if_neg h13,if_pos h6]
  have k5:zn.k5 C N (dn Q) (.ptr i3 0 0) (.agg (zfp s x y z)) h1:=by
   simp -dsimp only [zn.k5,B.zio,V.zfx,List.getElem?_cons_zero,List.getElem?_cons_succ,B.zd]
   refine s4 y _ (fun l=>decide (l.Id=lot)) s.Lots R2 h1 _ (hy.mono o1.le) (by omega) (fun t h' K hle hk=> ?_) ?_
   ·rw [B.zju]
    exact s6 t lot i3 cs h' K (hle _ _ hb) hc.lot hk
   ·rcases find_idx (p:=fun l:Lot=>decide (l.Id=lot)) (L:=s.Lots) with ⟨e1,e2⟩|⟨j,t,e1,e2,e3⟩
    ·rw [e1] at hcod
     rw [e2]
     simp -dsimp [- zn.k1]
     refine star h1 (za.le_refl h1) ?_
     rw [hcod,if_neg]
     rcases h6 with rfl|rfl|rfl<;>decide
    ·rw [e1] at hcod
     rw [hcod] at hq
     rw [e2]
     have hj:j<s.Lots.length:=(List.getElem?_eq_some_iff.1 e3).1
     have f1:V.idxS 6 y (.int .i64 (j:Int))=some (elp 6 y j 0):=hy.idxN (by rw [List.length_map];exact hj)
     have ge:decide ((0:Int) <= (j:Int))=true:=by simp
     have hj':j<(s.Lots.map Lot.cs).length:=by rw [List.length_map];exact hj
     have f2:V.fieldAddr 1 (elp 6 y j 0)=some (elp 6 y j 1):=hy.zne hj' 0 1
     have f3:A.ldv h1 (elp 6 y j 1)=some (.str t.Item):=(hy.mono o1.le).ldv (f:=1) (c:=t.cs) (by rw [List.getElem?_map,e3];rfl) (by omega)
     simp -dsimp [ge,f1,f2,f3,repL, - zn.k1]
     intro i65 f65
     exact wth t.Item h1 i65 _ (za.le_refl h1) f65 fun v h2 o2=>zbr (hq v h2 (o2.back o1.le))
  rcases h6 with rfl|rfl|rfl
  ·simp -dsimp [- zn.k5, - zn.k1]
   exact k5
  ·simp -dsimp [- zn.k5, - zn.k1]
   exact k5
  ·simp -dsimp [- zn.k5, - zn.k1]
   exact k5
 have a6:k≠6:=fun e=>h6 (.inl e)
 have a7:k≠7:=fun e=>h6 (.inr (.inl e))
 have a8:k≠8:=fun e=>h6 (.inr (.inr e))
 have q6:decide ((k.toNat:Int)=6)=false:=decide_eq_false fun e=>a6 ((kq 6 (by omega)).1 e)
 have q7:decide ((k.toNat:Int)=7)=false:=decide_eq_false fun e=>a7 ((kq 7 (by omega)).1 e)
 have q8:decide ((k.toNat:Int)=8)=false:=decide_eq_false fun e=>a8 ((kq 8 (by omega)).1 e)
 simp -dsimp only [q6,q7,q8,B.cond_false,zn.k7,V.zf0,B.zd]
 by_cases h10:k=10 \/ k=11 \/ k=14
 ·have hcod:ze3 s k item lot line=match s.zex.find? (fun l=>decide (l.Id=line)) with|some t=>zgn s.zdg [t.Item]|none=>zjv:=by unfold ze3;rw [if_neg h4,if_neg h9,if_neg h13,if_neg h6,if_pos h10]
  have k6:zn.k6 C N (dn Q) (.ptr i3 0 0) (.bool true) (.agg (zfp s x y z)) h1:=by
   simp -dsimp only [zn.k6,B.cond_true,B.zio,V.zfx,List.getElem?_cons_zero,List.getElem?_cons_succ,B.zd]
   refine s5 z _ (fun l=>decide (l.Id=line)) s.zex R3 h1 _ (hz.mono o1.le) (by omega) (fun t h' K hle hk=> ?_) ?_
   ·rw [B.zju]
    exact s7 t line i3 cs h' K (hle _ _ hb) hc.line hk
   ·rcases find_idx (p:=fun l:Line=>decide (l.Id=line)) (L:=s.zex) with ⟨e1,e2⟩|⟨j,t,e1,e2,e3⟩
    ·rw [e1] at hcod
     have e2:idxOf (fun l:Line=>decide (l.Id=line)) s.zex= -1:=e2
     rw [e2]
     simp -dsimp [- zn.k1]
     refine star h1 (za.le_refl h1) ?_
     rw [hcod,if_neg]
     rcases h10 with rfl|rfl|rfl<;>decide
    ·rw [e1] at hcod
     rw [hcod] at hq
     have e2:idxOf (fun l:Line=>decide (l.Id=line)) s.zex=j:=e2
     rw [e2]
     have hj:j<s.zex.length:=(List.getElem?_eq_some_iff.1 e3).1
     have f1:V.idxS 8 z (.int .i64 (j:Int))=some (elp 8 z j 0):=hz.idxN (by rw [List.length_map];exact hj)
     have ge:decide ((0:Int) <= (j:Int))=true:=by simp
     have hj':j<(s.zex.map Line.cs).length:=by rw [List.length_map];exact hj
     have f2:V.fieldAddr 1 (elp 8 z j 0)=some (elp 8 z j 1):=hz.zne hj' 0 1
     have f3:A.ldv h1 (elp 8 z j 1)=some (.str t.Item):=(hz.mono o1.le).ldv (f:=1) (c:=t.cs) (by rw [List.getElem?_map,e3];rfl) (by omega)
     simp -dsimp [ge,f1,f2,f3,repL, - zn.k1]
     intro i65 f65
     exact wth t.Item h1 i65 _ (za.le_refl h1) f65 fun v h2 o2=>zbr (hq v h2 (o2.back o1.le))
  rcases h10 with rfl|rfl|rfl
  ·simp -dsimp [- zn.k6, - zn.k1]
   exact k6
  ·simp -dsimp [- zn.k6, - zn.k1]
   exact k6
  ·simp -dsimp [- zn.k6, - zn.k1]
   exact k6
 have a10:k≠10:=fun e=>h10 (.inl e)
 have a11:k≠11:=fun e=>h10 (.inr (.inl e))
 have a14:k≠14:=fun e=>h10 (.inr (.inr e))
 have q10:decide ((k.toNat:Int)=10)=false:=decide_eq_false fun e=>a10 ((kq 10 (by omega)).1 e)
 have q11:decide ((k.toNat:Int)=11)=false:=decide_eq_false fun e=>a11 ((kq 11 (by omega)).1 e)
 have q14:decide ((k.toNat:Int)=14)=false:=decide_eq_false fun e=>a14 ((kq 14 (by omega)).1 e)
 simp -dsimp only [q10,q11,q14,B.cond_false,V.zf0,B.zd,zn.k6]
 refine star h1 (za.le_refl h1) ?_
 unfold ze3
 rw [if_neg h4,if_neg h9,if_neg h13,if_neg h6,if_neg h10]
end Go.Ab
namespace Go.Ab
variable {C:CSem} {N:zN}
abbrev gV:AVal×List Key->AVal:=fun p=>p.1
def gOb (gs:Ents Key (AVal×List Key)):List Ob:=gs.map fun p=> .sl 1 p.2.1.1 (p.2.1.2.map tc) []
def addP (gs:Ents Key (AVal×List Key)) (r c:Key):List Key:=match getP gs r with|some q=>q.2++[c]|none=>[c]
theorem idxP_at {K T:Type} [DecidableEq K] {k:K}: ∀ {ps:Ents K T} {i:Nat} {q:T×Nat},idxP ps k=some (i,q)->ps[i]? =some (k,q.1,q.2)
 | [],i,q,h=>by cases h
 | p::r,i,q,h=>by
  unfold idxP at h
  split at h
  ·rename_i e
   cases h
   rw [<- e];rfl
  ·cases hr:idxP r k with
   | none=>rw [hr] at h;cases h
   | some u=>
    obtain ⟨j,u⟩:=u
    rw [hr] at h
    cases h
    show r[j]? =_
    exact idxP_at (ps:=r) hr
theorem group_add {h0 h:za} {l:List Ob} {w d:Nat} {gs:Ents Key (AVal×List Key)} {r c:Key} {K:za->Prop} (ho:Owns h0 h (.blk w (zfi (encM sV gV gs) d)::(gOb gs++l))) (hl: ∀ q,getP gs r=some q->q.2.length <= 10000000)
  (hK: ∀ x' h',Owns h0 h' (.blk w (zfi (encM sV gV (putP gs r (x',addP gs r c) d)) (clkP gs r d))::(gOb (putP gs r (x',addP gs r c) d)++l))->K h'):
  B.pv (A.lkp h (some .s) (some .nils) false (.mp w) (.str r)) fun v30=>B.newO h (ze2 [(0,none,.str c)] (repL 1 [.str []])) fun i32 h=>B.appW h 1 16 v30 (.sl i32 0 0 1 1 1) fun v33 h=>B.mset h .s (.mp w) (.str r) v33 K:=by
 have e1:A.lkp h (some .s) (some .nils) false (.mp w) (.str r)=some (gV ((getP gs r).getD (.nils,[]))):=ho.lkp (κ:=sV) (v:=gV) 0 rfl keyS (.nils,[]) r
 rw [e1]
 have hf:ze2 [(0,none,.str c)] (repL 1 [.str []])=some [.str c]:=rfl
 rw [hf]
 simp -dsimp only [B.zd]
 cases hg:getP gs r with
 | none=>
  have hi:idxP gs r=none:=by
   have:=zlj r gs
   rw [hg] at this
   cases e:idxP gs r with
   | none=>rfl
   | some q=>rw [e] at this;cases this
  have o1:Owns h0 h ((.blk w (zfi (encM sV gV gs) d)::(gOb gs++l))++[.sl 1 .nils [] []]):=ho.nils 1
  refine o1.push _ endGet (cs:=[.str c]) rfl (by omega) (by simp) (by simp [maxLen]) fun x' h2 o2 _=> ?_
  rw [endSet] at o2
  have o2:Owns h0 h2 (.blk w (zfi (encM sV gV gs) d)::((gOb gs++l)++[.sl 1 x' ([c].map tc) []])):=o2
  refine o2.mset (κ:=sV) (v:=gV) 0 rfl keyS r (x',[c]) fun h3 o3 _ _=> ?_
  have e2:addP gs r c=[c]:=by unfold addP;rw [hg]
  refine hK x' h3 ?_
  rw [e2,zh1 hi]
  rw [zh1 hi] at o3
  refine o3.perm (List.Perm.cons _ ?_)
  unfold gOb
  rw [List.map_append,List.append_assoc,List.append_assoc]
  exact List.Perm.append_left _ List.perm_append_comm
 | some q=>
  obtain ⟨i,n,hi⟩: ∃ i n,idxP gs r=some (i,q,n):=by
   have:=zlj r gs
   rw [hg] at this
   cases e:idxP gs r with
   | none=>rw [e] at this;cases this
   | some p=>
    rw [e] at this
    obtain ⟨i,t,n⟩:=p
    cases this
    exact ⟨i,n,rfl⟩
  have hat:gs[i]? =some (r,q,n):=idxP_at hi
  have hi':i<gs.length:=(List.getElem?_eq_some_iff.1 hat).1
  have hk:(Ob.blk w (zfi (encM sV gV gs) d)::(gOb gs++l))[i+1]? =some (.sl 1 q.1 (q.2.map tc) []):=by
   rw [List.getElem?_cons_succ,List.getElem?_append_left (by unfold gOb;rw [List.length_map];exact hi')]
   unfold gOb
   rw [List.getElem?_map,hat];rfl
  have hql:=hl q hg
  refine ho.push (i+1) hk (cs:=[.str c]) rfl (by omega) (by simp;omega) (by simp [maxLen];omega) fun x' h2 o2 _=> ?_
  rw [List.set_cons_succ] at o2
  refine o2.mset (κ:=sV) (v:=gV) 0 rfl keyS r (x',q.2++[c]) fun h3 o3 _ _=> ?_
  have e2:addP gs r c=q.2++[c]:=by unfold addP;rw [hg]
  refine hK x' h3 ?_
  rw [e2]
  have e3:=(zo3 (t:=(x',q.2++[c])) (c:=d) hi).1
  have e4:gOb (putP gs r (x',q.2++[c]) d)++l=(gOb gs++l).set i (.sl 1 x' ((q.2++[c]).map tc) []):=by
   rw [e3,List.set_append_left _ _ (by unfold gOb;rw [List.length_map];exact hi')]
   unfold gOb
   rw [List.map_set]
  rw [e4,List.map_append]
  rw [List.set_cons_zero] at o3
  exact o3
end Go.Ab
namespace Go.Ab
def cmpL:List Key->List Key->Int
 | [],[]=>0
 | [],_::_=> -1
 | _::_,[]=>1
 | a::l,b::m=>if a=b then cmpL l m else cmpB a b
def zkk:List Key->List Key->Bool
 | _,[]=>false
 | [],_::_=>true
 | a::l,b::m=>zft a b||(decide (a=b)&&zkk l m)
theorem cmpL_neg: ∀ {l m:List Key},cmpL l m<0↔zkk l m=true
 | [],[]=>by simp [cmpL,zkk]
 | [],_::_=>by simp [cmpL,zkk]
 | _::_,[]=>by simp [cmpL,zkk]
 | a::l,b::m=>by
  unfold cmpL zkk
  by_cases e:a=b
  ·subst e
   rw [if_pos rfl,cmpL_neg,zhw]
   simp
  ·rw [if_neg e,znk]
   simp [e]
theorem zq5: ∀ {l m:List Key},zkk l m=true->zkk m l=false
 | [],[],h=>by cases h
 | [],_::_,_=>rfl
 | _::_,[],h=>by cases h
 | a::l,b::m,h=>by
  unfold zkk at h ⊢
  rw [Bool.or_eq_true,Bool.and_eq_true] at h
  rcases h with h|⟨h1,h2⟩
  ·rw [zlh h]
   have: ¬ b=a:=fun e=>by subst e;rw [zhw] at h;cases h
   simp [this]
  ·have e:a=b:=of_decide_eq_true h1
   subst e
   rw [zhw,zq5 h2];simp
theorem lessL_tri: ∀ {l m:List Key},zkk l m=false->l=m \/ zkk m l=true
 | [],[],_=> .inl rfl
 | [],_::_,h=>by cases h
 | _::_,[],_=> .inr rfl
 | a::l,b::m,h=>by
  unfold zkk at h ⊢
  rw [Bool.or_eq_false_iff] at h
  obtain ⟨h1,h2⟩:=h
  by_cases e:a=b
  ·subst e
   have h2:zkk l m=false:=by simpa using h2
   rcases lessL_tri h2 with e|h3
   ·exact .inl (by rw [e])
   ·exact .inr (by simp [h3])
  ·exact .inr (by rw [zjq h1 e];rfl)
theorem zp4: ∀ {l m n:List Key},zkk l m=true->zkk m n=true->zkk l n=true
 | l,[],n,h,_=>by cases l<;>cases h
 | _,_::_,[],_,h=>by cases h
 | [],_::_,_::_,_,_=>rfl
 | a::l,b::m,c::n,h,k=>by
  unfold zkk at h k ⊢
  rw [Bool.or_eq_true,Bool.and_eq_true] at h k ⊢
  rcases h with h|⟨h1,h2⟩
  ·rcases k with k|⟨k1,k2⟩
   ·exact .inl (zif h k)
   ·have e:b=c:=of_decide_eq_true k1
    subst e;exact .inl h
  ·have e:a=b:=of_decide_eq_true h1
   subst e
   rcases k with k|⟨k1,k2⟩
   ·exact .inl k
   ·exact .inr ⟨k1,zp4 h2 k2⟩
theorem weakL:Weak (zd9 cmpL):=by
 constructor<;>simp only [zd9,decide_eq_true_eq,decide_eq_false_iff_not,cmpL_neg]
 ·intro a b h;rw [zq5 h];simp
 ·intro a b c h1 h2 h3
  have h1:zkk a b=false:=by simpa using h1
  have h2:zkk b c=false:=by simpa using h2
  rcases lessL_tri h1 with e|h
  ·subst e;rw [h2] at h3;cases h3
  ·have:=zp4 h h3
   rw [h2] at this;cases this
def ofT (I:List Itm):List (List Key):=((zb3 I).filter fun c=>decide ((zdz I c).head? =some c)).map (zdz I)
theorem zjd {I:List Itm} {c:Key} (hc:c∈zb3 I):c∈zdz I c:=((zec hc).2 c).2 (.refl c)
theorem zk8 {I:List Itm} {c d:Key} (hc:c∈zb3 I) (hd:d∈zdz I c):zdz I d=zdz I c:=by
 have he:=((zec hc).2 d).1 hd
 have hdc:=he.zl8 hc
 refine zj2 (zec hdc).1 (zec hc).1 fun y=> ?_
 rw [(zec hdc).2,(zec hc).2]
 exact ⟨fun h=> .trans he h,fun h=> .trans (.symm he) h⟩
theorem mem_ofT {I:List Itm} {g:List Key}:g∈ofT I↔ ∃ c∈zb3 I,g=zdz I c:=by
 unfold ofT
 rw [List.mem_map]
 constructor
 ·rintro ⟨c,h,rfl⟩
  exact ⟨c,(List.mem_filter.1 h).1,rfl⟩
 ·rintro ⟨c,hc,rfl⟩
  have hs:=zjd hc
  cases hg:zdz I c with
  | nil=>rw [hg] at hs;cases hs
  | cons a r=>
   have ha:a∈zdz I c:=by rw [hg];exact List.mem_cons_self ..
   have hac:=(((zec hc).2 a).1 ha).zl8 hc
   have e:=zk8 hc ha
   refine ⟨a,List.mem_filter.2 ⟨hac,?_⟩,by rw [e,hg]⟩
   rw [e,hg]
   simp
def headLt (g k:List Key):Prop:= ∃ a b,g.head? =some a /\ k.head? =some b /\ zft a b=true
theorem zp7 {g k:List Key} (h:headLt g k) (h2:headLt k g):False:=by
 obtain ⟨a,b,e1,e2,h⟩:=h
 obtain ⟨c,d,f1,f2,h2⟩:=h2
 rw [e2] at f1;cases f1
 rw [e1] at f2;cases f2
 rw [zlh h] at h2;cases h2
theorem ofT_rise (I:List Itm):(ofT I).Pairwise headLt:=by
 unfold ofT
 rw [List.pairwise_map]
 refine List.Pairwise.imp_of_mem (fun {c d} hc hd h=> ?_) ((zmt I).filter _)
 have h1:=(List.mem_filter.1 hc).2
 have h2:=(List.mem_filter.1 hd).2
 exact ⟨c,d,of_decide_eq_true h1,of_decide_eq_true h2,h⟩
theorem ofT_unique {I:List Itm} {L:List (List Key)} (hm: ∀ g,g∈L↔ ∃ c∈zb3 I,g=zdz I c) (hn:L.Nodup) (hs:L.Pairwise fun s t=> ¬ cmpL t s<0):L=ofT I:=by
 refine rise_ext (fun a b h k=>zp7 h k) ?_ (ofT_rise I) fun g=>by rw [hm,mem_ofT]
 have hp:L.Pairwise fun s t=>s≠t /\ ¬ cmpL t s<0:=List.pairwise_and_iff.2 ⟨hn,hs⟩
 refine hp.imp_of_mem fun {g k} hg hk ⟨hne,hc⟩=> ?_
 obtain ⟨c,hcc,rfl⟩:=(hm g).1 hg
 obtain ⟨d,hdc,rfl⟩:=(hm k).1 hk
 have hs1:=zjd hcc
 have hs2:=zjd hdc
 have e1:=fun a=>zk8 (I:=I) (c:=c) (d:=a) hcc
 have e2:=fun a=>zk8 (I:=I) (c:=d) (d:=a) hdc
 generalize zdz I c=g at *
 generalize zdz I d=k at *
 cases g with
 | nil=>cases hs1
 | cons a r=>
  cases k with
  | nil=>cases hs2
  | cons b q=>
   refine ⟨a,b,rfl,rfl,?_⟩
   have hab:a≠b:=fun e=>by
    subst e
    exact hne ((e1 a (List.mem_cons_self ..)).symm.trans (e2 a (List.mem_cons_self ..)))
   unfold cmpL at hc
   rw [if_neg (Ne.symm hab),znk] at hc
   have hc:zft b a=false:=by simpa using hc
   exact zjq hc (Ne.symm hab)
end Go.Ab
namespace Go.Ab
variable {C:CSem} {N:zN}
def zck.Spec (C:CSem) (N:zN):Prop:= ∀ (a b:Key) (h:za) (Q:zQ),Q (.int .i64 (cmpB a b)) h->C (N 580) [.str a,.str b] h Q
theorem V.bin_sgtr (a b:List UInt8):V.bin .gtr (.str a) (.str b)=some (.bool (!(zft a b||a==b))):=rfl
theorem zck.spec (i:zck.Imp C N) (s1:zdk.Spec C N):zck.Spec C N:=by
 intro a b h Q hq
 apply i
 simp -dsimp only [zck.cps,zck.k1]
 refine s1 _ _ _ ?_
 refine s1 _ _ _ ?_
 rw [znj] at hq
 simp -dsimp only [B.cond_false,V.bin_slss,V.bin_sgtr,B.zd]
 refine B.zt (fun h1=> ?_) (fun h1=> ?_)
 ·rw [if_pos h1] at hq;exact zbr hq
 ·rw [if_neg (by rw [h1];exact Bool.false_ne_true)] at hq
  refine B.zt (fun h2=> ?_) (fun h2=> ?_)
  ·have h2:(!(zft a b||a==b))=true:=h2
   rw [h1] at h2
   have hne: ¬ a=b:=by simpa using h2
   rw [if_pos (zjq h1 hne)] at hq;exact zbr hq
  ·have h2:(!(zft a b||a==b))=false:=h2
   rw [h1] at h2
   have e:a=b:=by simpa using h2
   subst e
   rw [zhw] at hq;exact zbr hq
def zbk.Spec (C:CSem) (N:zN):Prop:= ∀ (x y:AVal) (L M:List Key) (R S:List (List AVal)) (h:za) (Q:zQ),SlX h 1 x (L.map tc) R->SlX h 1 y (M.map tc) S->L.length <= 100000000->M.length <= 100000000->Q (.int .i64 (cmpL L M)) h->C (N 578) [x,y] h Q
theorem cmpL_take: ∀ {k:Nat} {L M:List Key},k <= L.length->L.take k=M.take k->cmpL L M=cmpL (L.drop k) (M.drop k)
 | 0,_,_,_,_=>rfl
 | k+1,[],M,h,_=>by simp at h
 | k+1,a::l,[],h,e=>by simp at e
 | k+1,a::l,b::m,h,e=>by
  rw [List.take_succ_cons,List.take_succ_cons] at e
  obtain ⟨e1,e2⟩:=List.cons.inj e
  rw [cmpL,if_pos e1,List.drop_succ_cons,List.drop_succ_cons]
  exact cmpL_take (by simpa using h) e2
theorem zbk.spec (i:zbk.Imp C N) (s1:zck.Spec C N):zbk.Spec C N:=by
 intro x y L M R S h Q hx hy hL hM hq
 apply i
 have lx:=hx.zcv
 have ly:=hy.zcv
 rw [List.length_map] at lx ly
 simp -dsimp only [zbk.cps,zd0.cps,lx,B.zd]
 refine zx.intro (fun n vs hh=>hh=h /\ ∃ k:Nat,k+n=L.length /\ vs=[.int .i64 (k:Int)] /\ L.take k=M.take k) L.length ?_ ⟨rfl,0,by simp,rfl,rfl⟩
 rintro Y n vs h ⟨rfl,k,hk,rfl,ht⟩ hY
 have hqk:=cmpL_take (by omega) ht
 simp -dsimp only [zd0.l3,zd0.k2,V.zef,B.zd]
 refine B.zt (fun hc=> ?_) (fun hc=> ?_)
 ·rw [decide_eq_true_eq] at hc
  obtain ⟨a,ha⟩:=zfb (L:=L) (k:=k) (by omega)
  have hdl:L.drop k=a::L.drop (k+1):=by
   obtain ⟨h1,h2⟩:=List.getElem?_eq_some_iff.1 ha
   rw [List.drop_eq_getElem_cons h1,h2]
  have f1:V.idxS 1 x (.int .i64 (k:Int))=some (elp 1 x k 0):=hx.idxN (by rw [List.length_map];omega)
  have f2:A.ldv h (elp 1 x k 0)=some (.str a):=hx.cell (by rw [List.getElem?_map,ha];rfl)
  simp -dsimp only [opsS,f1,f2,B.zgl,B.zd,ly,V.zgx]
  refine B.zt (fun hd=> ?_) (fun hd=> ?_)
  ·rw [decide_eq_true_eq] at hd
   have:M.drop k=[]:=List.drop_eq_nil_of_le (by omega)
   rw [hqk,hdl,this] at hq
   exact zbr hq
  ·rw [decide_eq_false_iff_not] at hd
   obtain ⟨b,hb⟩:=zfb (L:=M) (k:=k) (by omega)
   have hdm:M.drop k=b::M.drop (k+1):=by
    obtain ⟨h1,h2⟩:=List.getElem?_eq_some_iff.1 hb
    rw [List.drop_eq_getElem_cons h1,h2]
   have g1:V.idxS 1 y (.int .i64 (k:Int))=some (elp 1 y k 0):=hy.idxN (by rw [List.length_map];omega)
   have g2:A.ldv h (elp 1 y k 0)=some (.str b):=hy.cell (by rw [List.getElem?_map,hb];rfl)
   simp -dsimp only [opsS,g1,g2,B.zgl,B.zd]
   refine s1 a b h _ ?_
   rw [hqk,hdl,hdm,cmpL] at hq
   by_cases hab:a=b
   ·subst hab
    have z:cmpB a a=0:=cmpB_zero.2 rfl
    rw [z]
    simp -dsimp [- V.ze4]
    rw [add1 (show k<4611686018427387904 by omega)]
    refine hY (L.length-(k+1)) _ _ (by omega) ⟨rfl,k+1,by omega,rfl,?_⟩
    rw [take_succ ha,take_succ hb,ht]
   ·rw [if_neg hab] at hq
    have z: ¬ cmpB a b=0:=fun e=>hab (cmpB_zero.1 e)
    simp -dsimp [z]
    exact zbr hq
 ·rw [decide_eq_false_iff_not] at hc
  have:k=L.length:=by omega
  subst this
  rw [hqk,List.drop_length] at hq
  simp -dsimp only [zd0.k1,lx,ly,V.zef,B.zd]
  refine B.zt (fun hd=> ?_) (fun hd=> ?_)
  ·rw [decide_eq_true_eq] at hd
   obtain ⟨b,hb⟩:=zfb (L:=M) (k:=L.length) (by omega)
   have hdm:M.drop L.length=b::M.drop (L.length+1):=by
    obtain ⟨h1,h2⟩:=List.getElem?_eq_some_iff.1 hb
    rw [List.drop_eq_getElem_cons h1,h2]
   rw [hdm] at hq
   exact zbr hq
  ·rw [decide_eq_false_iff_not] at hd
   have:M.drop L.length=[]:=List.drop_eq_nil_of_le (by omega)
   rw [this] at hq
   exact zbr hq
end Go.Ab
namespace Go.Ab
variable {C:CSem} {N:zN}
def zep.Spec (C:CSem) (N:zN):Prop:= ∀ (x y:AVal) (L M:List Key) (R S:List (List AVal)) (h:za) (Q:zQ),SlX h 1 x (L.map tc) R->SlX h 1 y (M.map tc) S->L.length <= 100000000->M.length <= 100000000->Q (.int .i64 (cmpL L M)) h->C (N 565) [x,y] h Q
theorem zep.spec (i:zep.Imp C N) (s1:zbk.Spec C N):zep.Spec C N:=by
 intro x y L M R S h Q hx hy hl hm hq
 apply i
 simp -dsimp only [zep.cps]
 exact s1 x y L M R S h _ hx hy hl hm (zbr hq)
theorem subs {α:Type} {p:α->Prop}: ∀ {P:List α},(∀ a∈P,p a)-> ∃ G:List { a // p a },G.map (·.1)=P
 | [],_=>⟨[],rfl⟩
 | a::P,h=>by
  obtain ⟨G,e⟩:=subs (P:=P) fun b hb=>h b (List.mem_cons_of_mem _ hb)
  exact ⟨⟨a,h a (by simp)⟩::G,by simp [e]⟩
abbrev zkh (p:AVal×List Key):Ob:= .sl 1 p.1 (p.2.map tc) []
abbrev RowsT (x:AVal) (P:List (AVal×List Key)):List Ob:=P.map zkh++[.sl 1 x (P.map fun p=>[p.1]) []]
def zbm.Spec (C:CSem) (N:zN):Prop:= ∀ (h0 h:za) (x:AVal) (P:List (AVal×List Key)) (Q:zQ),Owns h0 h (RowsT x P)->P.length <= 100000000->(∀ p∈P,p.2.length <= 100000000) ->
 (∀ h' P',P'.Perm P->P'.Pairwise (fun s t=> ¬ cmpL t.2 s.2<0)->Owns h0 h' (RowsT x P')->Q (.tup []) h')->C (N 566) [x,.fn (N 565) [] []] h Q
theorem zbm.spec (i:zbm.Imp C N) (j1:zbz.Imp C N) (j2:zco.Imp C N) (j3:zcy.Imp C N) (j4:zbq.Imp C N)
  (j5:zcc.Imp C N) (j6:zcg.Imp C N) (j7:zb8.Imp C N) (j8:zcu.Imp C N) (j9:zb6.Imp C N) (k1:zc3.Imp C N)
  (k2:zc5.Imp C N) (k3:zb1.Imp C N) (k4:zcs.Imp C N) (k5:NextI C (N 298)) (k6:PowI C (N 299)) (hl:LenI C (N 287)) (s1:zep.Spec C N):zbm.Spec C N:=by
 intro h0 h x P Q ho hlen hlens hq
 have oo:=ho.out
 generalize h.zk3 [Ob.sl 1 x (P.map fun p=>[p.1]) []]=hb at *
 have hat: ∀ p∈P,SlX hb 1 p.1 (p.2.map tc) [] /\ p.2.length <= 100000000:=fun p hp=>⟨oo.1.is (zkh p) (List.mem_map.2 ⟨p,hp,rfl⟩),hlens p hp⟩
 obtain ⟨G,hG⟩:=subs hat
 have hGl:G.length=P.length:=by have:=congrArg List.length hG;rwa [List.length_map] at this
 have hGc:G.map (fun p:{ p:AVal×List Key // SlX hb 1 p.1 (p.2.map tc) [] /\ p.2.length <= 100000000 }=>[p.1.1])=P.map fun p=>[p.1]:=by
  have:=congrArg (List.map fun p:AVal×List Key=>[p.1]) hG
  rw [List.map_map] at this;exact this
 have orw:Rw (opsS 24 .nils 0) (fun p:{ p:AVal×List Key // SlX hb 1 p.1 (p.2.map tc) [] /\ p.2.length <= 100000000 }=>[p.1.1]) hb h x G []:=by
  unfold Rw;rw [hGc];exact oo.2
 have hc:zdm C (fun p:{ p:AVal×List Key // SlX hb 1 p.1 (p.2.map tc) [] /\ p.2.length <= 100000000 }=>p.1.1) (fun a b:{ p:AVal×List Key // SlX hb 1 p.1 (p.2.map tc) [] /\ p.2.length <= 100000000 }=>cmpL a.1.2 b.1.2) (.fn (N 565) [] []) hb:=⟨fun h' a b K hle hk=>s1 _ _ _ _ _ _ _ _ (a.2.1.mono hle) (b.2.1.mono hle) a.2.2 b.2.2 hk⟩
 have J:PdqI C (opsS 24 .nils 0) (N 581) (N 582) (N 579) (N 583) (N 584) (N 585) (N 586) (N 587) (N 588) (N 592) (N 589) (N 590) (N 591) (N 298) (N 299):=⟨j1,j2,j3,j4,j5,j6,j7,j8,j9,k1,k2,k3,k4,k5,k6⟩
 have S:zcz (opsS 24 .nils 0) (fun p:{ p:AVal×List Key // SlX hb 1 p.1 (p.2.map tc) [] /\ p.2.length <= 100000000 }=>[p.1.1]) (fun p=>p.1.1):=seqS (by omega) fun p=>p.2.1.zcq
 have W:Weak (zd9 fun a b:{ p:AVal×List Key // SlX hb 1 p.1 (p.2.map tc) [] /\ p.2.length <= 100000000 }=>cmpL a.1.2 b.1.2):=⟨fun {a b} h=>weakL.asym (a:=a.1.2) (b:=b.1.2) h,fun {a b c} h k=>weakL.zl5 (a:=a.1.2) (b:=b.1.2) (c:=c.1.2) h k⟩
 refine i _ _ _ _ (SortFunc_spec J hl S W hc (by rw [hGl];exact hlen) orw fun h' G' hp hs o'=>zbr ?_)
 have hP':(G'.map (·.1)).Perm P:=by have:=hp.map (·.1);rwa [hG] at this
 refine hq h' (G'.map (·.1)) hP' ?_ ?_
 ·rw [List.pairwise_map];exact hs
 ·have e:G'.map (fun p:{ p:AVal×List Key // SlX hb 1 p.1 (p.2.map tc) [] /\ p.2.length <= 100000000 }=>[p.1.1])=(G'.map (·.1)).map fun p=>[p.1]:=by rw [List.map_map];rfl
  unfold Rw at o'
  rw [e] at o'
  exact (oo.1.join o').perm (List.Perm.append_right _ (hP'.symm.map _))
end Go.Ab
namespace Go.Ab
variable {C:CSem} {N:zN}
structure GsOk (g:Key->Option Key) (D:List Key) (gs:Ents Key (AVal×List Key)) (d:Nat):Prop where
 zkx:zix gs d
 nodup:(zey gs).Nodup
 mem: ∀ r q,getP gs r=some q->q.2≠[] /\ q.2.Nodup /\ ∀ c,c∈q.2↔c∈D /\ ∃ n,zgy g n c r
 none: ∀ r,getP gs r=none-> ∀ c∈D,¬ ∃ n,zgy g n c r
theorem GsOk.add {g:Key->Option Key} {D:List Key} {gs:Ents Key (AVal×List Key)} {d n:Nat} {r c:Key} {x:AVal} (k:GsOk g D gs d) (hc:c∉D) (hr:zgy g n c r):GsOk g (D++[c]) (putP gs r (x,addP gs r c) d) (clkP gs r d):=by
 refine ⟨k.zkx.put r _,zpw k.nodup r _ d,fun s q h=> ?_,fun s h b hb=> ?_⟩
 ·rw [zll] at h
  by_cases hs:s=r
  ·subst hs
   rw [if_pos rfl] at h
   cases h
   unfold addP
   cases hg:getP gs s with
   | none=>
    have h0:=k.none s hg
    refine ⟨by simp,by simp,fun b=> ?_⟩
    simp only [List.mem_singleton,List.mem_append]
    constructor
    ·rintro rfl
     exact ⟨.inr rfl,n,hr⟩
    ·rintro ⟨h1|h1,h2⟩
     ·exact absurd h2 (h0 b h1)
     ·exact h1
   | some q=>
    obtain ⟨h1,h2,h3⟩:=k.mem s q hg
    have hcq:c∉q.2:=fun e=>hc ((h3 c).1 e).1
    refine ⟨by simp,?_,fun b=> ?_⟩
    ·show (q.2++[c]).Nodup
     rw [List.nodup_append]
     exact ⟨h2,by simp,fun a ha b hb e=>hcq (by rw [List.mem_singleton] at hb;rw [<- hb, <- e];exact ha)⟩
    ·show b∈q.2++[c]↔_
     rw [List.mem_append,List.mem_singleton,List.mem_append,List.mem_singleton,h3]
     constructor
     ·rintro (⟨h4,h5⟩|rfl)
      ·exact ⟨.inl h4,h5⟩
      ·exact ⟨.inr rfl,n,hr⟩
     ·rintro ⟨h4|h4,h5⟩
      ·exact .inl ⟨h4,h5⟩
      ·exact .inr h4
  ·rw [if_neg hs] at h
   obtain ⟨h1,h2,h3⟩:=k.mem s q h
   refine ⟨h1,h2,fun b=> ?_⟩
   rw [h3,List.mem_append,List.mem_singleton]
   constructor
   ·rintro ⟨h4,h5⟩
    exact ⟨.inl h4,h5⟩
   ·rintro ⟨h4|rfl,h5⟩
    ·exact ⟨h4,h5⟩
    ·obtain ⟨m,h5⟩:=h5
     exact absurd (h5.det hr).2 hs
 ·rw [zll] at h
  by_cases hs:s=r
  ·subst hs;rw [if_pos rfl] at h;cases h
  ·rw [if_neg hs] at h
   rcases List.mem_append.1 hb with hb|hb
   ·exact k.none s h b hb
   ·rw [List.mem_singleton.1 hb]
    rintro ⟨m,h5⟩
    exact hs (h5.det hr).2
theorem key_inj {K T:Type}: ∀ {ps:Ents K T},(zey ps).Nodup-> ∀ {p q:K×T×Nat},p∈ps->q∈ps->p.1=q.1->p=q
 | [],_,_,_,h,_,_=>by cases h
 | a::r,hn,p,q,hp,hq,e=>by
  rw [zkb] at hn
  obtain ⟨h1,h2⟩:=List.nodup_cons.1 hn
  rcases List.mem_cons.1 hp with h3|h3
  ·rcases List.mem_cons.1 hq with h4|h4
   ·rw [h3,h4]
   ·exact absurd (by rw [<- h3,e];exact List.mem_map.2 ⟨q,h4,rfl⟩) h1
  ·rcases List.mem_cons.1 hq with h4|h4
   ·exact absurd (by rw [<- h4, <- e];exact List.mem_map.2 ⟨p,h3,rfl⟩) h1
   ·exact key_inj h2 h3 h4 e
theorem Of_first {h1 h2:za} {pid m w c:Nat} {ps:Ents Key Key} {ks:Key->Prop} {E:Key->Key->Prop} {Q:zQ} (s1:zch.Spec C N) (ua:UpAt h1 (.ptr pid 0 0) m ps c) (hu:UpIs ps c ks E) (hps:ps.length <= 1000000) (ho:Owns h1 h2 [.blk w (zfi (encM sV gV []) 0)])
  (hq: ∀ gs d h3,Owns h1 h3 (.blk w (zfi (encM sV gV gs) d)::gOb gs)->GsOk (getP ps) (zey ps) gs d->B.rangeMap h3 (.mp w) fun v35 h=>zx (zdo.l2 C N Q v35) [.nils] h):
  B.rangeMap h2 (.mp m) fun v17 h=>zx (zdo.l4 C N Q (.fn (N 577) [] [.ptr pid 0 0]) (.mp w) v17) [] h:=by
 refine Owns.znw (κ:=sV) (v:=sV) (ps:=ps) (c:=c) (J:=fun D l vs=>vs=[] /\ ∃ gs d,l= .blk w (zfi (encM sV gV gs) d)::(gOb gs++[]) /\ GsOk (getP ps) (zey D) gs d)
  (REST:=fun it vs v h Y=>match vs with
   | []=>B.pv (V.ext 0 v) fun v19=>B.cond v19
    (B.pv (A.zgv h it) fun v20=>B.pv (V.ext 0 v20) fun v21=>B.zf2 h C (.fn (N 577) [] [.ptr pid 0 0]) [v21] fun v25 h=>B.zf2 h C (.fn (N 577) [] [.ptr pid 0 0]) [v21] fun v29 h=>
     B.pv (A.lkp h (some .s) (some (.nils)) false (.mp w) v29) fun v30=>B.newO h (ze2 [(0,none,v21)] (repL 1 [.str []])) fun i32 h=>B.appW h 1 16 v30 (.sl i32 0 0 1 1 1) fun v33 h=>B.mset h .s (.mp w) v25 v33 fun h=>Y [] h)
    (B.rangeMap h (.mp w) fun v35 h=>zx (zdo.l2 C N Q v35) [.nils] h)
   | _=>False) (l:=[.blk w (zfi (encM sV gV []) 0)]) ho ua.map hu.zkx ⟨rfl,[],0,rfl,zix.nil 0,.nil,fun r q h=>(by cases h),fun r _ c hc=>(by cases hc)⟩ ?_ ?_ ?_
 ·rintro it vs h3 Y3 D l ⟨rfl,_⟩ hn
  exact hn
 ·rintro it h3 D l b Y3 vs ⟨rfl,gs,d,rfl,hk⟩ hp o
  simp -dsimp only [V.zfy,List.getElem?_cons_zero,B.zd,B.cond_false]
  refine hq gs d h3 (o.sub ?_) ?_
  ·rw [List.append_nil];exact List.sublist_append_left _ _
  ·have hm: ∀ c,c∈zey D↔c∈zey ps:=fun c=>(hp.map (·.1)).mem_iff
   exact ⟨hk.zkx,hk.nodup,fun r q h=>by
    obtain ⟨h1,h2,h3⟩:=hk.mem r q h
    exact ⟨h1,h2,fun c=>by rw [h3,hm]⟩,fun r h c hc=>hk.none r h c ((hm c).2 hc)⟩
 ·rintro it h3 D l b Y3 vs p hpm ⟨rfl,gs,d,rfl,hk⟩ hsub hpD hDl o he hY3
  have hpk:ks p.1:=(hu.uf.dom p.1).1 ⟨p.2.1,mem_getP hu.nodup hpm⟩
  obtain ⟨t,r,hr⟩:=hu.uf.root p.1 hpk
  have uh:=ua.mono o.le
  simp -dsimp only [V.zfy,List.getElem?_cons_zero,List.getElem?_cons_succ,B.zd,B.cond_true,he]
  rw [B.zju]
  refine s1 h3 _ m ps c t p.1 r _ uh hr ?_
  rw [B.zju]
  refine s1 h3 _ m ps c t p.1 r _ uh hr ?_
  have hcD:p.1∉zey D:=fun hm=>by
   obtain ⟨q,hq,e⟩:=List.mem_map.1 hm
   have:=key_inj hu.nodup (hsub q hq) hpm e
   subst this
   exact hpD hq
  refine group_add (l:=[.blk it b]) (by rw [List.append_nil] at o;exact o) (fun q hq=> ?_) fun x' h4 o4=> ?_
  ·obtain ⟨_,h2,h3⟩:=hk.mem r q hq
   have:=h2.length_le_of_subset (l₂:=zey D) fun c hc=>((h3 c).1 hc).1
   have e:(zey D).length=D.length:=by simp [zey]
   omega
  ·refine hY3 h4 _ _ ⟨rfl,_,_,rfl,?_⟩ (by rw [List.append_nil];exact o4)
   unfold zey
   rw [List.map_append]
   exact hk.add hcD hr
end Go.Ab
namespace Go.Ab
variable {C:CSem} {N:zN}
theorem GsOk.group {I:List Itm} {g:Key->Option Key} {D:List Key} {gs:Ents Key (AVal×List Key)} {d:Nat} (u:UF g (fun c=>c∈zb3 I) (ziz I)) (hD: ∀ c,c∈D↔c∈zb3 I) (k:GsOk g D gs d) {p:Key×(AVal×List Key)×Nat} (hp:p∈gs):
  p.1∈zb3 I /\ (∀ y,y∈p.2.1.2↔y∈zdz I p.1) /\ p.2.1.2.Nodup /\ zgy g 0 p.1 p.1:=by
 obtain ⟨h1,h2,h3⟩:=k.mem p.1 p.2.1 (mem_getP k.nodup hp)
 obtain ⟨c,hc⟩:=List.exists_mem_of_ne_nil _ h1
 obtain ⟨_,n,hr⟩:=(h3 c).1 hc
 have r0:zgy g 0 p.1 p.1:=⟨hr.top,rfl⟩
 have hk:=r0.isKey u
 refine ⟨hk,fun y=> ?_,h2,r0⟩
 rw [h3,(zec hk).2,hD]
 constructor
 ·rintro ⟨h4,m,h5⟩
  exact (u.same.1 (⟨p.1,0,m,r0,h5⟩:znn g p.1 y)).2.2
 ·intro h4
  have hy:=h4.zl8 hk
  obtain ⟨q,i,j,h5,h6⟩:=u.same.2 ⟨hk,hy,h4⟩
  obtain ⟨_,rfl⟩:=h5.det r0
  exact ⟨hy,j,h6⟩
def srtO (I:List Itm) (gs D:Ents Key (AVal×List Key)):List Ob:=gs.map fun p=>zkh (p.2.1.1,if p.1∈zey D then zdz I p.1 else p.2.1.2)
theorem permEnd {α:Type} {X A B:List α} {a z:α}:(X++(A++a::B)++[z]).Perm ((X++(A++B)++[z])++[a]):=by
 have h:(A++a::B).Perm ((A++B)++[a]):=by
  refine List.perm_middle.trans ?_
  exact (List.perm_append_comm (l₁:=[a]))
 refine (List.Perm.append_right [z] (List.Perm.append_left X h)).trans ?_
 simp only [List.append_assoc]
 refine List.Perm.append_left X (List.Perm.append_left A (List.Perm.append_left B ?_))
 exact List.Perm.swap ..
theorem sorted_rise {L:List Key} (h:SortedB L) (hn:L.Nodup):zgz L:=by
 have hp:L.Pairwise fun s t=>zft t s=false /\ s≠t:=List.pairwise_and_iff.2 ⟨h,hn⟩
 exact hp.imp fun {a b} ⟨h1,h2⟩=>zjq h1 (Ne.symm h2)
theorem setMid {α:Type} {X R:List α} {a b:α}:(X++[a]++R).set X.length b=X++[b]++R:=by
 rw [List.append_assoc,List.set_append_right _ _ (Nat.le_refl _),Nat.sub_self,List.append_assoc];rfl
theorem permT {α:Type} {X SA SB:List α} {O it ob cl:α}:(X++[O]++((SA++SB)++[it]++[ob]++[cl])).Perm ((X++[cl])++[O]++(SA++ob::SB)++[it]):=by
 classical
 exact List.perm_iff_count.2 fun a=>by
  simp only [List.count_append,List.count_cons,List.count_nil]
  omega
def zdo.Spec (C:CSem) (N:zN):Prop:= ∀ (x:AVal) (I:List Itm) (h:za) (Q:zQ),Dl zfn h x I->I.length <= 1000000 ->
 (∀ x' P h',P.map (·.2)=ofT I->Owns h h' (RowsT x' P)->Q x' h')->C (N 554) [x] h Q
theorem zdo.spec (i:zdo.Imp C N) (s0:zq.Spec C N) (s1:zch.Spec C N) (s2:zbo.Spec C N) (s3:zbf.Spec C N) (s4:zbm.Spec C N):zdo.Spec C N:=by
 intro x I h Q hx hI hq
 apply i
 simp -dsimp only [zdo.cps,zdo.k5]
 refine s0 x I h _ hx (by omega) fun m p ps c h1 o1 hu=> ?_
 obtain ⟨pid,e,bp⟩:=o1.zos 1 rfl
 subst e
 have ua:UpAt h1 (.ptr pid 0 0) m ps c:=⟨by rw [zk7 bp];rfl,o1.at 0 rfl⟩
 simp -dsimp only [V.zfy,List.getElem?_cons_zero,List.getElem?_cons_succ,B.zd]
 refine (Owns.start h1).zl6 sV gV fun w h2 hw o2 _=> ?_
 have hkeys: ∀ k,k∈zey ps↔k∈zb3 I:=fun k=>by
  rw [<- hu.uf.dom k]
  cases e:getP ps k with
  | none=>exact ⟨fun hk=>absurd hk (znb.1 e),fun ⟨d,hd⟩=>by cases hd⟩
  | some v=>exact ⟨fun _=>⟨v,rfl⟩,fun _=>Classical.byContradiction fun hn=>by rw [znb.2 hn] at e;cases e⟩
 have hps:ps.length <= 1000000:=by
  have e1:ps.length=(zey ps).length:=by simp [zey]
  have e2:=hu.nodup.length_le_of_subset (l₂:=zb3 I) fun k hk=>(hkeys k).1 hk
  have:=zlp I
  omega
 refine Of_first s1 ua hu hps o2 fun gs d h3 o3 hk=> ?_
 have grp:=fun {p} (hp:p∈gs)=>hk.group hu.uf hkeys hp
 have hgs:gs.length <= 1000000:=by
  have e1:gs.length=(zey gs).length:=by simp [zey]
  have e2:=hk.nodup.length_le_of_subset (l₂:=zb3 I) fun k hkk=>by
   obtain ⟨p,hp,rfl⟩:=List.mem_map.1 hkk
   exact (grp hp).1
  have:=zlp I
  omega
 have glen: ∀ {c},c∈zb3 I->(zdz I c).length <= 1000000:=fun {c} hc=>by
  have:=(zf7 (zec hc).1).length_le_of_subset (l₂:=zb3 I) fun y hy=>(((zec hc).2 y).1 hy).zl8 hc
  have:=zlp I
  omega
 obtain ⟨hb,b1,b2,o4,a4⟩:=(o3.perm (List.perm_append_comm (l₁:=[_]))).lay
 have hbw:hb w=some (zfi (encM sV gV gs) d):=a4 (.blk w (zfi (encM sV gV gs) d)) (by simp)
 have o5:Owns hb h3 (RowsT .nils []++srtO I gs []):=by
  have e:srtO I gs []=gOb gs:=by
   unfold srtO gOb
   refine List.map_congr_left fun p _=> ?_
   simp [zey]
  rw [e]
  exact (o4.nils 1).perm List.perm_append_comm
 refine Owns.znw (κ:=sV) (v:=gV) (ps:=gs) (c:=d) (J:=fun D l vs=> ∃ out P,vs=[out] /\ P.map (·.2)=D.map (fun p=>zdz I p.1) /\ l=RowsT out P++srtO I gs D)
  (REST:=fun it vs v h Y=>match vs with
   | [v7]=>B.pv (V.ext 0 v) fun v37=>B.cond v37
    (B.pv (A.zgv h it) fun v38=>B.pv (V.ext 1 v38) fun v39=>B.call C (N 364) [v39] h fun v41 h=>B.call C (N 567) [v39] h fun v44 h=>
     B.newO h (ze2 [(0,none,v44)] (repL 1 [.nils])) fun i45 h=>B.appW h 1 24 v7 (.sl i45 0 0 1 1 1) fun v46 h=>Y [v46] h)
    (B.call C (N 566) [v7,(.fn (N 565) [] [])] h fun v48 h=>dn Q v7 h)
   | _=>False) o5 hbw hk.zkx ⟨.nils,[],rfl,rfl,rfl⟩ ?_ ?_ ?_
 ·rintro it vs h4 Y3 D l ⟨out,P,rfl,_⟩ hn
  exact hn
 ·rintro it h4 D l b Y3 vs ⟨out,P,rfl,eP,rfl⟩ hp o
  simp -dsimp only [V.zfy,List.getElem?_cons_zero,B.zd,B.cond_false]
  have hPl:P.length=gs.length:=by
   have:=congrArg List.length eP
   rw [List.length_map,List.length_map] at this
   rw [this,hp.length_eq]
  have hDm: ∀ g,g∈D.map (fun p=>zdz I p.1)↔ ∃ c∈zb3 I,g=zdz I c:=fun g=>by
   rw [List.mem_map]
   constructor
   ·rintro ⟨p,h1,rfl⟩
    exact ⟨p.1,(grp (hp.mem_iff.1 h1)).1,rfl⟩
   ·rintro ⟨c,hc,rfl⟩
    obtain ⟨n,r,hr⟩:=hu.uf.root c hc
    cases e:getP gs r with
    | none=>exact absurd ⟨n,hr⟩ (hk.none r e c ((hkeys c).2 hc))
    | some q=>
     obtain ⟨j,hj⟩:=getP_mem e
     refine ⟨(r,q,j),hp.mem_iff.2 hj,?_⟩
     have hrc:r∈zdz I c:=((zec hc).2 r).2 (hr.eqv hu.uf)
     exact zk8 hc hrc
  refine s4 hb h4 out P _ (o.sub (by rw [List.append_assoc];exact List.sublist_append_left _ _)) (by omega) (fun p hp'=> ?_) fun h5 P' pp srt o6=> ?_
  ·have:p.2∈D.map (fun p=>zdz I p.1):=by rw [<- eP];exact List.mem_map.2 ⟨p,hp',rfl⟩
   obtain ⟨c,hc,e⟩:=(hDm _).1 this
   rw [e]
   have:=glen hc
   omega
  ·have hnd:(D.map fun p=>zdz I p.1).Nodup:=by
    have hD:D.Pairwise fun p q=>p.1≠q.1:=by
     have:(zey D).Nodup:=(hp.map (fun p:Key×(AVal×List Key)×Nat=>p.1)).nodup_iff.2 hk.nodup
     exact List.pairwise_map.1 this
    refine List.pairwise_map.2 (hD.imp_of_mem fun {p q} h1 h2 hne e=>hne ?_)
    have g1:=grp (hp.mem_iff.1 h1)
    have g2:=grp (hp.mem_iff.1 h2)
    have hm:q.1∈zdz I p.1:=by rw [e];exact zjd g2.1
    obtain ⟨r,i,j,h5,h6⟩:=hu.uf.same.2 ⟨g1.1,g2.1,((zec g1.1).2 _).1 hm⟩
    rw [<- (h5.det g1.2.2.2).2, <- (h6.det g2.2.2.2).2]
   have e:P'.map (·.2)=ofT I:=by
    have pm:(P'.map (·.2)).Perm (D.map fun p=>zdz I p.1):=by rw [<- eP];exact pp.map _
    refine ofT_unique (fun g=>by rw [pm.mem_iff,hDm]) (pm.nodup_iff.2 hnd) ?_
    rw [List.pairwise_map]
    exact srt
   exact zbr (hq out P' h5 e ((o6.back b1).back o1.le))
 ·rintro it h4 D l b Y3 vs p hpm ⟨out,P,rfl,eP,rfl⟩ hsub hpD hDl o he hY3
  obtain ⟨pk,hmem,hnd,hr0⟩:=grp hpm
  have hkD:p.1∉zey D:=fun hm=>by
   obtain ⟨q,hq',e⟩:=List.mem_map.1 hm
   have:=key_inj hk.nodup (hsub q hq') hpm e
   subst this
   exact hpD hq'
  have hPl:P.length=D.length:=by
   have:=congrArg List.length eP
   rwa [List.length_map,List.length_map] at this
  obtain ⟨GA,GB,hAB⟩:=List.append_of_mem hpm
  have hkn:p.1∉zey GA /\ p.1∉zey GB:=by
   have:=hk.nodup
   rw [hAB] at this
   unfold zey at this ⊢
   rw [List.map_append,List.map_cons,List.nodup_append] at this
   obtain ⟨_,h5,h6⟩:=this
   exact ⟨fun hm=>h6 _ hm _ (List.mem_cons_self ..) rfl,(List.nodup_cons.1 h5).1⟩
  have hsame: ∀ (X:Ents Key (AVal×List Key)),p.1∉zey X->(X.map fun q=>zkh (q.2.1.1,if q.1∈zey (D++[p]) then zdz I q.1 else q.2.1.2))=X.map fun q=>zkh (q.2.1.1,if q.1∈zey D then zdz I q.1 else q.2.1.2):=fun X hX=>by
   refine List.map_congr_left fun q hq'=> ?_
   have hne:q.1≠p.1:=fun e=>hX (by rw [<- e];exact List.mem_map.2 ⟨q,hq',rfl⟩)
   have:q.1∈zey (D++[p])↔q.1∈zey D:=by
    unfold zey
    rw [List.map_append,List.mem_append]
    simp [hne]
   by_cases hq2:q.1∈zey D
   ·rw [if_pos hq2,if_pos (this.2 hq2)]
   ·rw [if_neg hq2,if_neg fun e=>hq2 (this.1 e)]
  have eD:srtO I gs D=(GA.map fun q=>zkh (q.2.1.1,if q.1∈zey D then zdz I q.1 else q.2.1.2))++zkh (p.2.1.1,p.2.1.2)::(GB.map fun q=>zkh (q.2.1.1,if q.1∈zey D then zdz I q.1 else q.2.1.2)):=by
   unfold srtO
   rw [hAB,List.map_append,List.map_cons,if_neg hkD]
  have eD':srtO I gs (D++[p])=(GA.map fun q=>zkh (q.2.1.1,if q.1∈zey D then zdz I q.1 else q.2.1.2))++zkh (p.2.1.1,zdz I p.1)::(GB.map fun q=>zkh (q.2.1.1,if q.1∈zey D then zdz I q.1 else q.2.1.2)):=by
   unfold srtO
   have:p.1∈zey (D++[p]):=by unfold zey;simp
   rw [hAB,List.map_append,List.map_cons,if_pos this,hsame GA hkn.1,hsame GB hkn.2]
  rw [eD] at o
  rw [eD'] at hY3
  generalize (GA.map fun q=>zkh (q.2.1.1,if q.1∈zey D then zdz I q.1 else q.2.1.2))=SA at *
  generalize (GB.map fun q=>zkh (q.2.1.1,if q.1∈zey D then zdz I q.1 else q.2.1.2))=SB at *
  simp -dsimp only [V.zfy,List.getElem?_cons_zero,List.getElem?_cons_succ,B.zd,B.cond_true,he]
  obtain ⟨q1,q2⟩:=(o.perm permEnd).out
  have hpl:p.2.1.2.length <= 1000000:=by
   have:=hnd.length_le_of_subset (l₂:=zdz I p.1) fun y hy=>(hmem y).1 hy
   have:=glen pk
   omega
  refine s2 _ h4 p.2.1.1 p.2.1.2 [] _ q2 (by omega) fun h5 L' lp ls o5=> ?_
  have eL:L'=zdz I p.1:=zj2 (sorted_rise ls (lp.nodup_iff.2 hnd)) (zec pk).1 fun y=>by rw [lp.mem_iff,hmem]
  subst eL
  refine s3 p.2.1.1 _ [] h5 _ (o5.slAt 0 rfl) (by have:=glen pk;omega) fun z h6 o6=> ?_
  have cz:z.zcq=true:=(o6.slAt 0 rfl).zcq
  have hf:ze2 [(0,none,z)] (repL 1 [.nils])=some [z]:=by simp -dsimp [cz,repL]
  rw [hf]
  have o7:=(q1.join o5).join o6
  have hidx:((((((P.map zkh++[Ob.sl 1 out (P.map fun p=>[p.1]) []])++(SA++SB))++[Ob.blk it b])++[Ob.sl 1 p.2.1.1 ((zdz I p.1).map tc) []])++[Ob.sl 1 z ((zdz I p.1).map tc) []]):List Ob)[P.length]? =some (.sl 1 out (P.map fun p=>[p.1]) []):=by
   simp
  refine o7.push P.length hidx (cs:=[z]) rfl (by omega) (by simp;omega) (by simp [maxLen];omega) fun out' h8 o8 _=> ?_
  refine hY3 h8 _ _ ⟨out',P++[(z,zdz I p.1)],rfl,by rw [List.map_append,eP,List.map_append];rfl,rfl⟩ (o8.perm ?_)
  have e1:((((((P.map zkh++[Ob.sl 1 out (P.map fun p=>[p.1]) []])++(SA++SB))++[Ob.blk it b])++[Ob.sl 1 p.2.1.1 ((zdz I p.1).map tc) []])++[Ob.sl 1 z ((zdz I p.1).map tc) []]):List Ob)=(P.map zkh)++[Ob.sl 1 out (P.map fun p=>[p.1]) []]++((SA++SB)++[Ob.blk it b]++[Ob.sl 1 p.2.1.1 ((zdz I p.1).map tc) []]++[Ob.sl 1 z ((zdz I p.1).map tc) []]):=by
   simp only [List.append_assoc]
  have e2:P.length=(P.map zkh).length:=by simp
  show List.Perm (List.set ((((((P.map zkh++[Ob.sl 1 out (P.map fun p=>[p.1]) []])++(SA++SB))++[Ob.blk it b])++[Ob.sl 1 p.2.1.1 ((zdz I p.1).map tc) []])++[Ob.sl 1 z ((zdz I p.1).map tc) []]):List Ob) P.length _) _
  rw [e1,e2,setMid]
  unfold RowsT
  rw [List.map_append,List.map_append]
  exact permT
end Go.Ab
namespace Go.Ab
variable {C:CSem} {N:zN}
def zbv.Spec (C:CSem) (N:zN):Prop:= ∀ (x:AVal) (L:List Itm) (h:za) (Q:zQ),Dl zqm h x L->L.length<4611686018427387904->(∀ t∈L,t.inLen) ->
 (∀ n:Nat,n<1000000000000000000->(n <= 2000-> ∀ t∈L,t.ze0.length+t.zed.length <= n)->Q (.int .i64 n) h)->C (N 564) [x] h Q
theorem zbv.spec (i:zbv.Imp C N):zbv.Spec C N:=by
 intro x L h Q hx hlen hin hq
 apply i
 refine zx.intro (fun t vs hh=>hh=h /\ ∃ k n:Nat,k+t=L.length /\ vs=[.int .i64 (n:Int),.int .i64 (k:Int)] /\ n<1000000000000000000 /\ (n <= 2000-> ∀ t∈L.take k,t.ze0.length+t.zed.length <= n)) L.length ?_ ⟨rfl,0,0,by omega,rfl,by omega,fun _ t h=>(by simp at h)⟩
 rintro Y t vs h ⟨rfl,k,n,ht,rfl,hn,hall⟩ hY
 have hend:(2000<n \/ k=L.length)->dn Q (.int .i64 (n:Int)) h:=fun hor=>by
  refine zbr (hq n hn fun hle=> ?_)
  have hk:k=L.length:=hor.resolve_left (by omega)
  subst hk
  rw [List.take_length] at hall
  exact hall hle
 simp -dsimp only [zbv.l7,zbv.k6,hx.zcv,lssN,B.zd]
 by_cases hk:k<L.length
 rotate_left
 ·have:=hend (.inr (by omega))
  simp -dsimp [hk]
  exact this
 by_cases h4:n <= 2000
 rotate_left
 ·have h4': ¬ (n:Int) <= 2000:=by omega
  have:=hend (.inl (by omega))
  simp -dsimp [hk,h4']
  exact this
 have h4':(n:Int) <= 2000:=by omega
 obtain ⟨r,hr⟩:=zfb hk
 have hrm:=List.mem_of_getElem? hr
 obtain ⟨n1,n2,n3,hpl,hol⟩:=hin r hrm
 obtain ⟨p,o,e1,e3,e4,e5,e6,e7,e8,⟨R1,a1⟩,el1,⟨R2,a2⟩,el2⟩:=itm_getW hx hr
 have hk1:=add1 (show k<4611686018427387904 by omega)
 have b1:V.bin .add (.int .i64 (n:Int)) (.int .i64 1)=some (.int .i64 ((n+1:Nat):Int)):=add1 (by omega)
 have b2:=zgr (a:=n+1) (b:=r.Code.length / 20) (by omega)
 have b3:=zgr (a:=n+1+r.Code.length / 20) (b:=r.ze0.length) (by omega)
 have b4:=zgr (a:=n+1+r.Code.length / 20+r.ze0.length) (b:=r.zed.length) (by omega)
 have lc:V.zg6 (.str r.Code)=some (.int .i64 (r.Code.length:Int)):=rfl
 simp -dsimp [hk,h4', - zbv.k5]
 simp -dsimp only [zbv.k5,B.zgl,B.zd,e1,e3,e4,e5,e6,e7,e8,el1,el2,lc,quo20 n1,b1,b2,b3,b4]
 refine zx.intro (fun t vs h2=>h2=h /\ ∃ q m:Nat,q+t=r.ze0.length /\ vs=[.int .i64 (m:Int),.int .i64 (q:Int)] /\ m<1000000000000000000 /\ n+1+r.Code.length / 20+r.ze0.length+r.zed.length <= m) r.ze0.length ?_ ⟨rfl,0,_,by omega,rfl,by omega,Nat.le_refl _⟩
 rintro Z t2 vs h2 ⟨rfl,q,m,ht2,rfl,hm,hle⟩ hZ
 simp -dsimp only [zbv.l4,zbv.k3,e1,e4,B.zgl,e7,el1,lssN,B.zd]
 have hnext:zx (zbv.l2 C N (dn Q) Y x (.int .i64 (k:Int))) [.int .i64 (m:Int),.int .i64 0] h2:=by
  refine zx.intro (fun t vs h3=>h3=h2 /\ ∃ q m2:Nat,q+t=r.zed.length /\ vs=[.int .i64 (m2:Int),.int .i64 (q:Int)] /\ m2<1000000000000000000 /\ m <= m2) r.zed.length ?_ ⟨rfl,0,m,by omega,rfl,hm,Nat.le_refl _⟩
  rintro W t3 vs h3 ⟨rfl,q,m2,ht3,rfl,hm2,hle2⟩ hW
  simp -dsimp only [zbv.l2,zbv.k1,e1,e5,B.zgl,e8,el2,lssN,B.zd]
  have hout:Y [.int .i64 (m2:Int),.int .i64 ((k+1:Nat):Int)] h3:=hY (t-1) _ _ (by omega) ⟨rfl,k+1,m2,by omega,rfl,hm2,fun h4k y hy=>by
   rw [List.take_add_one,hr,List.mem_append] at hy
   rcases hy with hy|hy
   ·have:=hall h4 y hy;omega
   ·have:y=r:=by simpa using hy
    rw [this];omega⟩
  by_cases hq1:q<r.zed.length
  rotate_left
  ·simp -dsimp [hq1,hk1, - V.ze4]
   exact hout
  by_cases hq2:m2 <= 2000
  rotate_left
  ·have: ¬ (m2:Int) <= 2000:=by omega
   simp -dsimp [hq1,this,hk1, - V.ze4]
   exact hout
  have hq2':(m2:Int) <= 2000:=by omega
  have hg:(r.zed.map tc)[q]? =some (tc r.zed[q]):=by rw [List.getElem?_map,List.getElem?_eq_getElem hq1];rfl
  have hidx:V.idxS 1 o (.int .i64 (q:Int))=some (elp 1 o q 0):=a2.idxN (by simpa using hq1)
  have hcell:A.ldv h3 (elp 1 o q 0)=some (.str r.zed[q]):=a2.cell hg
  have n4:=n3 _ (List.getElem_mem hq1)
  have lo:V.zg6 (.str r.zed[q])=some (.int .i64 (r.zed[q].length:Int)):=rfl
  have b5:=zgr (a:=m2) (b:=r.zed[q].length / 20) (by omega)
  simp -dsimp [hq1,hq2', - V.ze4, - V.zjf]
  simp -dsimp only [e1,e5,e8,hidx,hcell,lo,quo20 n4,b5,add1 (show q<4611686018427387904 by omega),B.zgl,B.zd]
  exact hW (t3-1) _ _ (by omega) ⟨rfl,q+1,_,by omega,rfl,by omega,by omega⟩
 by_cases hq1:q<r.ze0.length
 rotate_left
 ·simp -dsimp [hq1, - zbv.l2]
  exact hnext
 by_cases hq2:m <= 2000
 rotate_left
 ·have: ¬ (m:Int) <= 2000:=by omega
  simp -dsimp [hq1,this, - zbv.l2]
  exact hnext
 have hq2':(m:Int) <= 2000:=by omega
 have hg:(r.ze0.map Part.cs)[q]? =some r.ze0[q].cs:=by rw [List.getElem?_map,List.getElem?_eq_getElem hq1];rfl
 have hl:q<(r.ze0.map Part.cs).length:=by simpa using hq1
 have g1:V.idxS 2 p (.int .i64 (q:Int))=some (elp 2 p q 0):=a1.idxN hl
 have g2:V.fieldAddr 0 (elp 2 p q 0)=some (elp 2 p q 0):=a1.zne hl 0 0
 have g3:A.ldv h2 (elp 2 p q 0)=some (.str r.ze0[q].Item):=a1.ldv hg (by decide)
 have n4:=n2 _ (List.getElem_mem hq1)
 have lo:V.zg6 (.str r.ze0[q].Item)=some (.int .i64 (r.ze0[q].Item.length:Int)):=rfl
 have b5:=zgr (a:=m) (b:=r.ze0[q].Item.length / 20) (by omega)
 simp -dsimp [hq1,hq2', - V.ze4, - V.zjf]
 simp -dsimp only [e1,e4,e7,g1,g2,g3,lo,quo20 n4,b5,add1 (show q<4611686018427387904 by omega),B.zgl,B.zd]
 exact hZ (t2-1) _ _ (by omega) ⟨rfl,q+1,_,by omega,rfl,by omega,by omega⟩
structure ItmB (L:List Itm):Prop where
 n:L.length <= 70
 ok: ∀ t∈L,t.ze0.length+t.zed.length <= 300
theorem ItmB.at {h:za} {x:AVal} {L:List Itm} (b:ItmB L) (hx:Dl zqm h x L):Dl zfn h x L:=itemW_K hx fun t ht=>by have:=b.ok t ht;unfold Itm.ok few;omega
def zc8.Spec (C:CSem) (N:zN):Prop:= ∀ (x y:AVal) (L:List Itm) (M:List Key) (R:List (List AVal)) (h:za) (Q:zQ),Dl zqm h x L->L.length<4611686018427387904->(∀ t∈L,t.inLen) ->
 SlX h 1 y (M.map tc) R->M.length<4611686018427387904->(∀ c∈M,c.length<4611686018427387904)->(∀ b:Bool,(b=false->ItmB L /\ M.length <= 200)->Q (.bool b) h)->C (N 555) [x,y] h Q
theorem zc8.spec (i:zc8.Imp C N) (s1:zbv.Spec C N):zc8.Spec C N:=by
 intro x y L M R h Q hx hlen hin hy hM hc hq
 have ly:=hy.zcv
 rw [List.length_map] at ly
 have lx:=hx.zcv
 apply i
 refine zx.intro (fun t vs hh=>hh=h /\ ∃ k n:Nat,k+t=M.length /\ vs=[.int .i64 (n:Int),.int .i64 (k:Int)] /\ n<1000000000000000000 /\ k <= n) M.length ?_ ⟨rfl,0,0,by omega,rfl,by omega,by omega⟩
 rintro Y t vs h ⟨rfl,k,n,ht,rfl,hn,hkn⟩ hY
 have hend:(200<n \/ k=M.length)->zc8.k1 C N (dn Q) x (.int .i64 (n:Int)) h:=fun hor=>by
  simp -dsimp only [zc8.k1]
  refine s1 x L h _ hx hlen hin fun m hm hall=> ?_
  by_cases h3:300<m
  ·have h3':(300:Int)<m:=by omega
   simp -dsimp [h3']
   exact zbr (hq true fun e=>by cases e)
  ·have h3': ¬ (300:Int)<m:=by omega
   by_cases h7:70<L.length
   ·have h7':(70:Int)<L.length:=by omega
    simp -dsimp [h3',lx,h7',h7]
    exact zbr (hq true fun e=>by cases e)
   ·have h7': ¬ (70:Int)<L.length:=by omega
    by_cases h2:200<n
    ·have h2':(200:Int)<n:=by omega
     simp -dsimp [h3',lx,h7',h7,h2']
     exact zbr (hq true fun e=>by cases e)
    ·have h2': ¬ (200:Int)<n:=by omega
     have hk:=hor.resolve_left h2
     simp -dsimp [h3',lx,h7',h7,h2']
     exact zbr (hq false fun _=>⟨⟨by omega,fun t ht=>by have:=hall (by omega) t ht;omega⟩,by omega⟩)
 simp -dsimp only [zc8.l3,zc8.k2,ly,lssN,B.zd]
 by_cases hk:k<M.length
 rotate_left
 ·have:=hend (.inr (by omega))
  simp -dsimp [hk, - zc8.k1]
  exact this
 by_cases h4:n <= 200
 rotate_left
 ·have h4': ¬ (n:Int) <= 200:=by omega
  have:=hend (.inl (by omega))
  simp -dsimp [hk,h4', - zc8.k1]
  exact this
 have h4':(n:Int) <= 200:=by omega
 have hg:(M.map tc)[k]? =some (tc M[k]):=by rw [List.getElem?_map,List.getElem?_eq_getElem hk];rfl
 have hidx:V.idxS 1 y (.int .i64 (k:Int))=some (elp 1 y k 0):=hy.idxN (by simpa using hk)
 have hcell:A.ldv h (elp 1 y k 0)=some (.str M[k]):=hy.cell hg
 have n4:=hc _ (List.getElem_mem hk)
 have lo:V.zg6 (.str M[k])=some (.int .i64 (M[k].length:Int)):=rfl
 have b1:V.bin .add (.int .i64 (n:Int)) (.int .i64 1)=some (.int .i64 ((n+1:Nat):Int)):=add1 (by omega)
 have b5:=zgr (a:=n+1) (b:=M[k].length / 20) (by omega)
 simp -dsimp [hk,h4', - V.ze4, - V.zjf]
 simp -dsimp only [b1,hidx,hcell,lo,quo20 n4,b5,add1 (show k<4611686018427387904 by omega),B.zgl,B.zd]
 exact hY (t-1) _ _ (by omega) ⟨rfl,k+1,_,by omega,rfl,by omega,by omega⟩
structure StaG (s:Sta):Prop where
 items:ItmB s.zdg
 n:s.Lots.length+s.zex.length <= 2000
theorem StaG.at {h:za} {s:Sta} {x y z:AVal} (b:StaG s) (a:StaW h s x y z):znm h s x y z:=
 ⟨b.items.at a.items,a.lots,a.lines,by have:=b.items.n;omega,by have:=b.n;omega,by have:=b.n;omega⟩
def StaS (s:Sta):Prop:=(∀ l∈s.Lots,l.Item.length<4611686018427387904) /\ ∀ l∈s.zex,l.Item.length<4611686018427387904 /\ l.Code.length<4611686018427387904
def zcl.Spec (C:CSem) (N:zN):Prop:= ∀ (s:Sta) (x y z:AVal) (h:za) (Q:zQ),StaW h s x y z->StaS s->(∀ b:Bool,(b=false->StaG s)->Q (.bool b) h)->C (N 560) [.agg (zfp s x y z)] h Q
theorem zcl.spec (i:zcl.Imp C N) (s1:zc8.Spec C N):zcl.Spec C N:=by
 intro s x y z h Q ha hS hq
 obtain ⟨hx,⟨R2,hy⟩,⟨R3,hz⟩,n1,n2,n3,inl⟩:=ha
 have cx:=hx.zcq
 have cy:=hy.zcq
 have cz:=hz.zcq
 have ly:=hy.zcv
 have lz:=hz.zcv
 rw [List.length_map] at ly lz
 apply i
 simp -dsimp [cx,cy,cz, - zcl.l5]
 refine zx.intro (fun t vs hh=>hh=h /\ ∃ k n:Nat,k+t=s.Lots.length /\ vs=[.int .i64 (n:Int),.int .i64 (k:Int)] /\ n<1000000000000000000 /\ k <= n ) s.Lots.length ?_ ⟨rfl,0,0,by omega,rfl,by omega,by omega⟩
 rintro Y t vs h ⟨rfl,k,n,ht,rfl,hn,hkn⟩ hY
 have hend:(2000<n \/ k=s.Lots.length)->zx (zcl.l3 C N (dn Q) (.agg (zfp s x y z))) [.int .i64 (n:Int),.int .i64 0] h:=fun hor=>by
  refine zx.intro (fun t vs hh=>hh=h /\ ∃ q m:Nat,q+t=s.zex.length /\ vs=[.int .i64 (m:Int),.int .i64 (q:Int)] /\ m<1000000000000000000 /\ n+q <= m) s.zex.length ?_ ⟨rfl,0,n,by omega,rfl,by omega,by omega⟩
  rintro Z t vs h ⟨rfl,q,m,ht,rfl,hm,hqm⟩ hZ
  have fin:(2000<m \/ q=s.zex.length)->zcl.k1 C N (dn Q) (.int .i64 (m:Int)) (.agg (zfp s x y z)) h:=fun hor2=>by
   by_cases h2:2000<m
   ·have h2':(2000:Int)<m:=by omega
    simp -dsimp [h2']
    exact zbr (hq true fun e=>by cases e)
   ·have h2': ¬ (2000:Int)<m:=by omega
    have e1:=hor2.resolve_left h2
    have e2:=hor.resolve_left (by omega)
    simp -dsimp [h2']
    refine s1 x .nils s.zdg [] [] h _ hx n1 inl (SlX.nils h 1) (by simp) (by simp) fun b hb=> ?_
    simp -dsimp
    exact zbr (hq b fun e=>⟨(hb e).1,by omega⟩)
  simp -dsimp only [zcl.l3,zcl.k2,B.zio,V.zfx,List.getElem?_cons_zero,List.getElem?_cons_succ,lz,lssN,B.zd]
  by_cases hk:q<s.zex.length
  rotate_left
  ·have:=fin (.inr (by omega))
   simp -dsimp [hk, - zcl.k1]
   exact this
  by_cases h4:m <= 2000
  rotate_left
  ·have h4': ¬ (m:Int) <= 2000:=by omega
   have:=fin (.inl (by omega))
   simp -dsimp [hk,h4', - zcl.k1]
   exact this
  have h4':(m:Int) <= 2000:=by omega
  obtain ⟨t',ht'⟩:=zfb hk
  have f1:V.idxS 8 z (.int .i64 (q:Int))=some (elp 8 z q 0):=hz.idxN (by rw [List.length_map];omega)
  have f2:V.fieldAddr 1 (elp 8 z q 0)=some (elp 8 z q 1):=hz.zne (by rw [List.length_map];omega) 0 1
  have f3:A.ldv h (elp 8 z q 1)=some (.str t'.Item):=hz.ldv (f:=1) (c:=t'.cs) (by rw [List.getElem?_map,ht'];rfl) (by omega)
  have f4:V.fieldAddr 7 (elp 8 z q 0)=some (elp 8 z q 7):=hz.zne (by rw [List.length_map];omega) 0 7
  have f5:A.ldv h (elp 8 z q 7)=some (.str t'.Code):=hz.ldv (f:=7) (c:=t'.cs) (by rw [List.getElem?_map,ht'];rfl) (by omega)
  obtain ⟨p1,p2⟩:=hS.2 t' (List.mem_of_getElem? ht')
  have lo1:V.zg6 (.str t'.Item)=some (.int .i64 (t'.Item.length:Int)):=rfl
  have lo2:V.zg6 (.str t'.Code)=some (.int .i64 (t'.Code.length:Int)):=rfl
  have b1:V.bin .add (.int .i64 (m:Int)) (.int .i64 1)=some (.int .i64 ((m+1:Nat):Int)):=add1 (by omega)
  have b2:=zgr (a:=m+1) (b:=t'.Item.length / 20) (by omega)
  have b3:=zgr (a:=m+1+t'.Item.length / 20) (b:=t'.Code.length / 20) (by omega)
  simp -dsimp [hk,h4', - V.ze4, - V.zjf]
  simp -dsimp only [B.zio,V.zfx,List.getElem?_cons_zero,List.getElem?_cons_succ,b1,f1,f2,f3,f4,f5,lo1,lo2,quo20 p1,quo20 p2,b2,b3,add1 (show q<4611686018427387904 by omega),B.zgl,B.zd]
  exact hZ (t-1) _ _ (by omega) ⟨rfl,q+1,_,by omega,rfl,by omega,by omega⟩
 simp -dsimp only [zcl.l5,zcl.k4,B.zio,V.zfx,List.getElem?_cons_zero,List.getElem?_cons_succ,ly,lssN,B.zd]
 by_cases hk:k<s.Lots.length
 rotate_left
 ·have:=hend (.inr (by omega))
  simp -dsimp [hk, - zcl.l3]
  exact this
 by_cases h4:n <= 2000
 rotate_left
 ·have h4': ¬ (n:Int) <= 2000:=by omega
  have:=hend (.inl (by omega))
  simp -dsimp [hk,h4', - zcl.l3]
  exact this
 have h4':(n:Int) <= 2000:=by omega
 obtain ⟨t',ht'⟩:=zfb hk
 have f1:V.idxS 6 y (.int .i64 (k:Int))=some (elp 6 y k 0):=hy.idxN (by rw [List.length_map];omega)
 have f2:V.fieldAddr 1 (elp 6 y k 0)=some (elp 6 y k 1):=hy.zne (by rw [List.length_map];omega) 0 1
 have f3:A.ldv h (elp 6 y k 1)=some (.str t'.Item):=hy.ldv (f:=1) (c:=t'.cs) (by rw [List.getElem?_map,ht'];rfl) (by omega)
 have p1:=hS.1 t' (List.mem_of_getElem? ht')
 have lo1:V.zg6 (.str t'.Item)=some (.int .i64 (t'.Item.length:Int)):=rfl
 have b1:V.bin .add (.int .i64 (n:Int)) (.int .i64 1)=some (.int .i64 ((n+1:Nat):Int)):=add1 (by omega)
 have b2:=zgr (a:=n+1) (b:=t'.Item.length / 20) (by omega)
 simp -dsimp [hk,h4', - V.ze4, - V.zjf]
 simp -dsimp only [B.zio,V.zfx,List.getElem?_cons_zero,List.getElem?_cons_succ,b1,f1,f2,f3,lo1,quo20 p1,b2,add1 (show k<4611686018427387904 by omega),B.zgl,B.zd]
 exact hY (t-1) _ _ (by omega) ⟨rfl,k+1,_,by omega,rfl,by omega,by omega⟩
structure TxAt (h:za) (x:AVal) (G:List (List Key)):Prop where
 ls: ∃ (xs:List AVal) (R:List (List AVal)),xs.length=G.length /\ SlX h 1 x (xs.map fun v=>[v]) R /\ ∀ (j:Nat) (v:AVal) (l:List Key),xs[j]? =some v->G[j]? =some l-> ∃ R',SlX h 1 v (l.map tc) R'
theorem TxAt.mono {h h':za} {x:AVal} {G:List (List Key)} (a:TxAt h x G) (hle:h.le h'):TxAt h' x G:=by
 obtain ⟨xs,R,h1,h2,h3⟩:=a.ls
 exact ⟨xs,R,h1,h2.mono hle,fun j v l hv hl=>(h3 j v l hv hl).imp fun _ r=>r.mono hle⟩
theorem TxAt.zcv {h:za} {x:AVal} {G:List (List Key)} (a:TxAt h x G):V.zcv x=some (.int .i64 (G.length:Int)):=by
 obtain ⟨xs,R,h1,h2,_⟩:=a.ls
 have:=h2.zcv
 rw [List.length_map,h1] at this
 exact this
theorem TxAt.get {h:za} {x:AVal} {G:List (List Key)} (a:TxAt h x G) {j:Nat} {l:List Key} (hl:G[j]? =some l): ∃ v R',V.idxS 1 x (.int .i64 (j:Int))=some (elp 1 x j 0) /\ A.ldv h (elp 1 x j 0)=some v /\ SlX h 1 v (l.map tc) R':=by
 obtain ⟨xs,R,h1,h2,h3⟩:=a.ls
 have hj:j<xs.length:=by rw [h1];exact (List.getElem?_eq_some_iff.1 hl).1
 obtain ⟨v,hv⟩:=zfb hj
 obtain ⟨R',r⟩:=h3 j v l hv hl
 exact ⟨v,R',h2.idxN (by rw [List.length_map];exact hj),h2.cell (by rw [List.getElem?_map,hv];rfl),r⟩
theorem TxAt.of {T:Type} {h:za} {x:AVal} {P:List T} {f:T->AVal} {g:T->List Key} {r:T->List (List AVal)} {R:List (List AVal)} (h1:SlX h 1 x (P.map fun p=>[f p]) R) (h2: ∀ p∈P,SlX h 1 (f p) ((g p).map tc) (r p)):TxAt h x (P.map g):=by
 refine ⟨P.map f,R,by simp,by rw [List.map_map];exact h1,fun j v l hv hl=> ?_⟩
 rw [List.getElem?_map] at hv hl
 cases hp:P[j]? with
 | none=>rw [hp] at hv;cases hv
 | some p=>
  rw [hp] at hv hl
  cases hv;cases hl
  exact ⟨_,h2 p (List.mem_of_getElem? hp)⟩
def zdn.Spec (C:CSem) (N:zN):Prop:= ∀ (x y:AVal) (G H:List (List Key)) (h:za) (Q:zQ),TxAt h x G->TxAt h y H->G.length<4611686018427387904->(∀ l∈G,l.length<4611686018427387904)->Q (.bool (decide (G=H))) h->C (N 563) [x,y] h Q
theorem zdn.spec (i:zdn.Imp C N) (s1:zdi.Spec C N):zdn.Spec C N:=by
 intro x y G H h Q hx hy hG hl hq
 have lx:=hx.zcv
 have ly:=hy.zcv
 apply i
 by_cases hne:G.length=H.length
 rotate_left
 ·have e1: ¬ ((G.length:Int)=(H.length:Int)):=by omega
  have e2:decide (G=H)=false:=decide_eq_false fun e=>hne (by rw [e])
  rw [e2] at hq
  simp -dsimp [lx,ly,e1,hne]
  exact zbr hq
 have e1:((G.length:Int)=(H.length:Int)):=by omega
 simp -dsimp [lx,ly,e1,hne, - zdn.l2]
 refine zx.intro (fun n vs hh=>hh=h /\ ∃ k:Nat,k+n=G.length /\ vs=[.int .i64 (k:Int)] /\ G.take k=H.take k) G.length ?_ ⟨rfl,0,by simp,rfl,by simp⟩
 rintro Y n vs h ⟨rfl,k,hk,rfl,he⟩ hY
 simp -dsimp only [zdn.l2,zdn.k1,lx,lssN,B.zd]
 refine B.zt (fun hc=> ?_) (fun hc=> ?_)
 ·rw [decide_eq_true_eq] at hc
  obtain ⟨a,ha⟩:=zfb hc
  obtain ⟨b,hb⟩:=zfb (L:=H) (k:=k) (by omega)
  obtain ⟨v,Rv,f1,f2,f3⟩:=hx.get ha
  obtain ⟨w,Rw,g1,g2,g3⟩:=hy.get hb
  simp -dsimp only [f1,f2,g1,g2,B.zgl,B.zd]
  refine s1 v w a b Rv Rw h _ f3 g3 (hl a (List.mem_of_getElem? ha)) ?_
  by_cases hab:a=b
  ·subst hab
   simp -dsimp only [decide_true,V.zgf,Bool.not_true,B.zd,B.cond_false,add1 (show k<4611686018427387904 by omega)]
   exact hY (n-1) _ _ (by omega) ⟨rfl,k+1,by omega,rfl,by rw [take_succ ha,take_succ hb,he]⟩
  ·have e2:decide (G=H)=false:=decide_eq_false fun e=>hab (by rw [e,hb] at ha;cases ha;rfl)
   rw [e2] at hq
   simp -dsimp only [decide_eq_false hab,V.zgf,Bool.not_false,B.zd,B.cond_true]
   exact zbr hq
 ·rw [decide_eq_false_iff_not] at hc
  have hkk:k=G.length:=by omega
  subst hkk
  rw [List.take_length,hne,List.take_length] at he
  rw [decide_eq_true he] at hq
  exact zbr hq
end Go.Ab
namespace Go.Ab
theorem dLotA {H:za} {p:List AVal} (h:zg0 H tyLot p): ∃ w:Lot,p=w.cs /\ w.Item.length<4611686018427387904 /\ w.ok:=by
 obtain ⟨a,r,rfl,⟨n1,rfl,m1,m2⟩,⟨b,r2,rfl,⟨n2,rfl,k⟩,⟨c,r3,rfl,hw,⟨d,r4,rfl,⟨n4,rfl,m3,m4⟩,⟨e,r5,rfl,⟨n5,rfl⟩,hr⟩⟩⟩⟩⟩:=h
 cases hr
 obtain ⟨w,rfl⟩:=dWindow hw
 exact ⟨⟨n1,n2,w.From,w.Until,n4,n5⟩,rfl,by unfold reach at k;show n2.length<_;omega,i64_of m1 m2,i64_of m3 m4⟩
theorem dLotsA {H:za} {v:AVal} (h:zg0 H (.sl 56 6 tyLot) [v]): ∃ L:List Lot,SlIs H 6 v (L.map Lot.cs) /\ L.length<1000000000000000000 /\ ∀ l∈L,l.Item.length<4611686018427387904 /\ l.ok:=by
 obtain ⟨L,h1,h2,h3⟩:=zlr Lot.cs (fun l=>l.Item.length<4611686018427387904 /\ l.ok) (fun p hp=>dLotA hp) h
 exact ⟨L,h1,by unfold reach at h2;omega,h3⟩
theorem dLineA {H:za} {p:List AVal} (h:zg0 H tyLine p): ∃ w:Line,p=w.cs /\ (w.Item.length<4611686018427387904 /\ w.Code.length<4611686018427387904) /\ inI64 w.Id:=by
 obtain ⟨a,r,rfl,⟨n1,rfl,m1,m2⟩,⟨b,r2,rfl,⟨n2,rfl,q1⟩,⟨c,r3,rfl,⟨n3,rfl,_⟩,⟨d,r4,rfl,⟨n4,rfl,_⟩,⟨e,r5,rfl,⟨n5,rfl,_⟩,⟨f,r6,rfl,⟨n6,rfl,k1,k2⟩,⟨g,r7,rfl,⟨n7,rfl,_⟩,⟨i,r8,rfl,⟨n8,rfl,q2⟩,hr⟩⟩⟩⟩⟩⟩⟩⟩:=h
 cases hr
 refine ⟨⟨n1,n2,n3,n4,n5,UInt8.ofNat n6.toNat,n7,n8⟩,?_,⟨by unfold reach at q1;show n2.length<_;omega,by unfold reach at q2;show n8.length<_;omega⟩,i64_of m1 m2⟩
 rw [Line.cs,u8_of k1 k2];rfl
theorem dLinesA {H:za} {v:AVal} (h:zg0 H (.sl 80 8 tyLine) [v]): ∃ L:List Line,SlIs H 8 v (L.map Line.cs) /\ L.length<1000000000000000000 /\ ∀ l∈L,(l.Item.length<4611686018427387904 /\ l.Code.length<4611686018427387904) /\ inI64 l.Id:=by
 obtain ⟨L,h1,h2,h3⟩:=zlr Line.cs (fun l=>(l.Item.length<4611686018427387904 /\ l.Code.length<4611686018427387904) /\ inI64 l.Id) (fun p hp=>dLineA hp) h
 exact ⟨L,h1,by unfold reach at h2;omega,h3⟩
abbrev tySta:List Ty:=[.i .i64,.i .i64,.i .i64,.sl 72 4 tyItem,.sl 56 6 tyLot,.sl 80 8 tyLine]
abbrev tyAsk:List Ty:=[.i .u8,.i .i64,.s,.i .i64,.i .i64,.i .i64,.i .i64,.i .i64,.i .i64,.sl 24 2 tyPart,.sl 16 1 .s]
theorem dStateS {H:za} {p:List AVal} (h:zky H tySta p): ∃ (s:Sta) (x y z:AVal),p=zfp s x y z /\ StaW H s x y z /\ StaS s:=by
 obtain ⟨a,r,rfl,⟨n1,rfl,_⟩,⟨b,r2,rfl,⟨n2,rfl,_⟩,⟨c,r3,rfl,⟨n3,rfl,_⟩,⟨d,r4,rfl,h4,⟨e,r5,rfl,h5,⟨f,r6,rfl,h6,hr⟩⟩⟩⟩⟩⟩:=h
 cases hr
 obtain ⟨x,rfl⟩:=zqh h4
 obtain ⟨y,rfl⟩:=zqh h5
 obtain ⟨z,rfl⟩:=zqh h6
 obtain ⟨I,i1,i2,i3⟩:=dItems h4
 obtain ⟨O,j1,j2,j3⟩:=dLotsA h5
 obtain ⟨L,l1,l2,l3⟩:=dLinesA h6
 exact ⟨⟨n1,n2,n3,I,O,L⟩,x,y,z,rfl,⟨i1,⟨[],j1⟩,⟨[],l1⟩,i2,j2,l2,i3⟩,⟨fun l hl=>(j3 l hl).1,fun l hl=>(l3 l hl).1⟩⟩
theorem dAsk {H:za} {p:List AVal} (h:zky H tyAsk p): ∃ (k:UInt8) (item:Key) (lot line:Int),AskC p k item lot line /\ item.length<4611686018427387904:=by
 obtain ⟨a0,r,rfl,⟨k,rfl,k1,k2⟩,⟨a1,r1,rfl,⟨n1,rfl,_⟩,⟨a2,r2,rfl,⟨s,rfl,ls⟩,⟨a3,r3,rfl,⟨n3,rfl,_⟩,⟨a4,r4,rfl,⟨n4,rfl,_⟩,⟨a5,r5,rfl,⟨n5,rfl,_⟩,⟨a6,r6,rfl,⟨n6,rfl,_⟩,⟨a7,r7,rfl,⟨n7,rfl,_⟩,⟨a8,r8,rfl,⟨n8,rfl,_⟩,⟨a9,r9,rfl,h9,⟨a10,r10,rfl,h10,hr⟩⟩⟩⟩⟩⟩⟩⟩⟩⟩⟩:=h
 cases hr
 obtain ⟨x,rfl⟩:=zqh h9
 obtain ⟨y,rfl⟩:=zqh h10
 refine ⟨UInt8.ofNat k.toNat,s,n7,n8,⟨rfl,?_,rfl,rfl,rfl⟩,by unfold reach at ls;omega⟩
 show some _=_
 rw [u8_of k1 k2]
end Go.Ab
set_option maxRecDepth 100000
namespace Go.Ab
variable {C:CSem} {N:zN}
def fiveP (o p:AVal):List (Itm×AVal×AVal):=[(⟨[65],1,[],[]⟩,.nils,.nils),(⟨[66],1,[],[[67]]⟩,.nils,o),(⟨[67],1,[],[]⟩,.nils,.nils),(⟨[68],1,[],[]⟩,.nils,.nils),(⟨[75],0,[⟨[65],2⟩],[]⟩,p,.nils)]
def fiveI:List Itm:=[⟨[65],1,[],[]⟩,⟨[66],1,[],[[67]]⟩,⟨[67],1,[],[]⟩,⟨[68],1,[],[]⟩,⟨[75],0,[⟨[65],2⟩],[]⟩]
theorem fiveP_at {h:za} {o p:AVal} (ho:SlX h 1 o [tc [67]] []) (hp:SlX h 2 p [Part.cs ⟨[65],2⟩] []): ∀ q∈fiveP o p,zfn.at_ h q.1 q.2:=by
 intro q hq
 have hz: ∀ t:Itm,t.ze0=[]->t.zed=[]->zfn.at_ h t (.nils,.nils):=fun t e1 e2=>
  ⟨⟨[],by rw [e1];exact SlX.nils h 2⟩,⟨[],by rw [e2];exact SlX.nils h 1⟩,by rw [e1];simp [few],by rw [e2];simp [few]⟩
 simp only [fiveP,List.mem_cons,List.not_mem_nil,or_false] at hq
 rcases hq with rfl|rfl|rfl|rfl|rfl
 ·exact hz _ rfl rfl
 ·exact ⟨⟨[],SlX.nils h 2⟩,⟨[],ho⟩,by simp [few],by simp [few]⟩
 ·exact hz _ rfl rfl
 ·exact hz _ rfl rfl
 ·exact ⟨⟨[],hp⟩,⟨[],SlX.nils h 1⟩,by simp [few],by simp [few]⟩
def zeg.Spec (C:CSem) (N:zN):Prop:= ∀ (h:za) (Q:zQ),
 (∀ i o p h1 h',h.le h1->Owns h1 h' [.sl 4 (.sl i 0 0 5 4 5) ((fiveP o p).map zfn.cs) []]->SlX h1 1 o [tc [67]] []->SlX h1 2 p [Part.cs ⟨[65],2⟩] []->Q (.sl i 0 0 5 4 5) h')->C (N 562) [] h Q
theorem zeg.spec (i:zeg.Imp C N):zeg.Spec C N:=by
 intro h Q hq
 apply i
 simp -dsimp [repL]
 refine litT (n:=1) [[67]] rfl rfl fun i1 h1 o1=> ?_
 simp -dsimp [repL]
 refine litO (n:=1) (es:=2) ([(⟨[65],2⟩:Part)].map Part.cs) rfl (by simp) rfl fun i2 h2 o2=> ?_
 simp -dsimp [repL]
 refine litO (n:=5) (es:=4) ((fiveP (.sl i1 0 0 1 1 1) (.sl i2 0 0 1 2 1)).map zfn.cs) rfl (fun p hp=>by obtain ⟨q,_,rfl⟩:=List.mem_map.1 hp;rfl) rfl fun i3 h3 o3=> ?_
 exact zbr (hq i3 _ _ h2 h3 (za.le_trans o1.le o2.le) o3 ((o1.slAt 0 rfl).mono o2.le) (o2.slAt 0 rfl))
theorem five_dl {h:za} {x o p:AVal} {R:List (List AVal)} (hx:SlX h 4 x ((fiveP o p).map zfn.cs) R) (ho:SlX h 1 o [tc [67]] []) (hp:SlX h 2 p [Part.cs ⟨[65],2⟩] []):Dl zfn h x fiveI:=⟨fiveP o p,R,rfl,hx,fiveP_at ho hp⟩
theorem zeg.Spec.rd (s:zeg.Spec C N) (h:za) (Q:zQ) (hq: ∀ x h',h.le h'->Dl zfn h' x fiveI->Q x h'):C (N 562) [] h Q:=s h Q fun i o p h1 h' l1 ow ho hp=>hq _ h' (za.le_trans l1 ow.le) (five_dl (ow.slAt 0 rfl) (ho.mono ow.le) (hp.mono ow.le))
def awkS:Sta:=⟨0,0,0,fiveI,[⟨3,[68],0,0,0,false⟩],[]⟩
theorem five_of:ofT fiveI=[[[65],[75]],[[66],[67]],[[68]]]:=by decide +kernel
theorem five_with:zgn fiveI [[75],[90]]=[[65],[75],[90]]:=by decide +kernel
theorem awk_c1:ze3 awkS 4 [67] 0 0=[[35,108,111,116],[66],[67]]:=by decide +kernel
theorem awk_c2:ze3 awkS 11 [] 0 3=[[42]]:=by decide +kernel
theorem awk_c3:ze3 awkS 12 [] 0 0=[[42]]:=by decide +kernel
theorem awk_part:(zfd awkS [[68]]).Lots.length=1:=by decide +kernel
theorem rowsT_at {h0 h:za} {x:AVal} {P:List (AVal×List Key)} {l:List Ob} (o:Owns h0 h l) (hl: ∀ b∈RowsT x P,b∈l):TxAt h x (P.map (·.2)):=by
 have h1:SlX h 1 x (P.map fun p=>[p.1]) []:=o.is (Ob.sl 1 x (List.map (fun p:AVal×List Key=>[p.1]) P) []) (hl _ (by simp))
 exact TxAt.of (f:=fun p:AVal×List Key=>p.1) (g:=fun p=>p.2) (r:=fun _=>[]) h1 fun p hp=>o.is (zkh p) (hl _ (List.mem_append_left _ (List.mem_map_of_mem hp)))
def zd8.Spec (C:CSem) (N:zN):Prop:= ∀ (h:za) (Q:zQ),Q (.bool true) h->C (N 556) [] h Q
theorem zd8.spec (i:zd8.Imp C N) (s1:zeg.Spec C N) (s2:zdo.Spec C N) (s3:zdn.Spec C N) (s4:zc1.Spec C N) (s5:zdi.Spec C N) (s6:zn.Spec C N) (s7:zbx.Spec C N):zd8.Spec C N:=by
 intro h Q hq
 apply i
 simp -dsimp only [zd8.cps,zd8.k1]
 refine s1.rd _ _ fun x h1 l1 hx=> ?_
 have cx:=hx.zcq
 simp -dsimp [cx,repL]
 refine litO (n:=1) (es:=6) (awkS.Lots.map Lot.cs) rfl (by simp [awkS]) rfl fun i2 h2 o2=> ?_
 simp -dsimp [cx]
 have hS:znm h2 awkS x (.sl i2 0 0 1 6 1) .nils:=⟨hx.mono o2.le,⟨[],o2.slAt 0 rfl⟩,⟨[],SlX.nils h2 8⟩,by decide,by decide,by decide⟩
 refine s1.rd _ _ fun x2 h3 l3 hx2=> ?_
 refine s2 x2 fiveI h3 _ hx2 (by decide) fun v7 P h4 eP o4=> ?_
 rw [five_of] at eP
 have r4:=rowsT_at o4 fun b hb=>hb
 rw [eP] at r4
 simp -dsimp [repL]
 refine litT (n:=2) [[65],[75]] rfl rfl fun j1 h5 o5=> ?_
 simp -dsimp [repL]
 refine litT (n:=2) [[66],[67]] rfl rfl fun j2 h6 o6=> ?_
 simp -dsimp [repL]
 refine litT (n:=1) [[68]] rfl rfl fun j3 h7 o7=> ?_
 simp -dsimp [repL]
 refine litO (n:=3) (es:=1) [[.sl j1 0 0 2 1 2],[.sl j2 0 0 2 1 2],[.sl j3 0 0 1 1 1]] rfl (by simp) rfl fun j4 h8 o8=> ?_
 have t8:TxAt h8 (.sl j4 0 0 3 1 3) [[[65],[75]],[[66],[67]],[[68]]]:=⟨⟨[.sl j1 0 0 2 1 2,.sl j2 0 0 2 1 2,.sl j3 0 0 1 1 1],[],rfl,o8.slAt 0 rfl,fun j v l hv hl=>by
  match j,hv,hl with
  | 0,hv,hl=>cases hv;cases hl;exact ⟨[],(o5.slAt 0 rfl).mono (za.le_trans o6.le (za.le_trans o7.le o8.le))⟩
  | 1,hv,hl=>cases hv;cases hl;exact ⟨[],(o6.slAt 0 rfl).mono (za.le_trans o7.le o8.le)⟩
  | 2,hv,hl=>cases hv;cases hl;exact ⟨[],(o7.slAt 0 rfl).mono o8.le⟩
  | j+3,hv,_=>simp at hv⟩⟩
 have l48:=za.le_trans o5.le (za.le_trans o6.le (za.le_trans o7.le o8.le))
 refine s3 _ _ _ _ h8 _ (r4.mono l48) t8 (by decide) (fun l hl=>by
  simp only [List.mem_cons,List.not_mem_nil,or_false] at hl
  rcases hl with rfl|rfl|rfl<;>decide) ?_
 have l28:=za.le_trans l3 (za.le_trans o4.le l48)
 simp -dsimp only [decide_true,B.gd_t,B.zdj,zp8]
 refine s1.rd _ _ fun x3 h9 l9 hx3=> ?_
 simp -dsimp [repL]
 refine litT (n:=2) [[75],[90]] rfl rfl fun j5 h10 o10=> ?_
 simp -dsimp
 refine s4 _ _ fiveI [[75],[90]] [] h10 _ (hx3.mono o10.le) (by decide) (o10.slAt 0 rfl) (by decide) fun w h11 o11=> ?_
 rw [five_with] at o11
 simp -dsimp [repL]
 refine litT (n:=3) [[65],[75],[90]] rfl rfl fun j6 h12 o12=> ?_
 simp -dsimp
 refine s5 _ _ _ _ _ _ h12 _ ((o11.slAt 0 rfl).mono o12.le) (o12.slAt 0 rfl) (by decide) ?_
 have l2c:=za.le_trans l28 (za.le_trans l9 (za.le_trans o10.le (za.le_trans o11.le o12.le)))
 simp -dsimp [repL]
 refine s6 awkS _ _ _ _ 4 [67] 0 0 h12 _ (hS.mono l2c) (by decide) ⟨rfl,rfl,rfl,rfl,rfl⟩ fun w2 h13 o13=> ?_
 rw [awk_c1] at o13
 simp -dsimp [repL]
 refine litT (n:=3) [[35,108,111,116],[66],[67]] rfl rfl fun j7 h14 o14=> ?_
 simp -dsimp
 refine s5 _ _ _ _ _ _ h14 _ ((o13.slAt 0 rfl).mono o14.le) (o14.slAt 0 rfl) (by decide) ?_
 have l2e:=za.le_trans l2c (za.le_trans o13.le o14.le)
 simp -dsimp [repL]
 refine s6 awkS _ _ _ _ 11 [] 0 3 h14 _ (hS.mono l2e) (by decide) ⟨rfl,rfl,rfl,rfl,rfl⟩ fun w3 h15 o15=> ?_
 rw [awk_c2] at o15
 simp -dsimp [repL]
 refine litT (n:=1) [[42]] rfl rfl fun j8 h16 o16=> ?_
 simp -dsimp
 refine s5 _ _ _ _ _ _ h16 _ ((o15.slAt 0 rfl).mono o16.le) (o16.slAt 0 rfl) (by decide) ?_
 have l2g:=za.le_trans l2e (za.le_trans o15.le o16.le)
 simp -dsimp [repL]
 refine s6 awkS _ _ _ _ 12 [] 0 0 h16 _ (hS.mono l2g) (by decide) ⟨rfl,rfl,rfl,rfl,rfl⟩ fun w4 h17 o17=> ?_
 rw [awk_c3] at o17
 simp -dsimp [repL]
 refine litT (n:=1) [[42]] rfl rfl fun j9 h18 o18=> ?_
 simp -dsimp
 refine s5 _ _ _ _ _ _ h18 _ ((o17.slAt 0 rfl).mono o18.le) (o18.slAt 0 rfl) (by decide) ?_
 have l2i:=za.le_trans l2g (za.le_trans o17.le o18.le)
 simp -dsimp [repL]
 refine litT (n:=1) [[68]] rfl rfl fun k1 h19 o19=> ?_
 simp -dsimp
 refine s7 awkS _ _ _ _ [[68]] [] h19 _ (hS.mono (za.le_trans l2i o19.le)) (o19.slAt 0 rfl) (by decide) (by decide) fun a P2 b c h20 e20 o20=> ?_
 have hb:V.zcv b=some (.int .i64 1):=by
  have:=(o20.slAt 1 rfl).zcv
  rw [List.length_map,awk_part] at this
  exact this
 simp -dsimp [hb]
 exact dn_le (za.le_trans l1 (za.le_trans o2.le (za.le_trans l2i (za.le_trans o19.le o20.le)))) hq
end Go.Ab
namespace Go.Ab
variable {C:CSem} {N:zN}
theorem putsT_len: ∀ {m l:List Key},zgz l->(zj4 l m).length <= l.length+m.length
 | [],l,_=>Nat.le_refl _
 | s::m,l,h=>by
  have h1:=putsT_len (m:=m) (zj5 (s:=s) h)
  have h2:=putT_len (s:=s) h
  have:(putT l s).length <= l.length+1:=by rw [h2];split<;>omega
  show (zj4 (putT l s) m).length <= _
  rw [List.length_cons]
  omega
end Go.Ab
namespace Go.Ab
variable {C:CSem} {N:zN}
theorem zqe (I:List Itm):(zb3 I).length <= I.length:=by
 have:=putsT_len (l:=[]) (m:=I.map Itm.Code) .nil
 simpa [zb3] using this
end Go.Ab
namespace Go.Ab
variable {C:CSem} {N:zN}
theorem withT_le (I:List Itm) (l:List Key):(zgn I l).length <= I.length+l.length:=by
 have h:=(zf7 (zfj I l)).length_le_of_subset (l₂:=zb3 I++l) fun k hk=>by
  obtain ⟨d,h1,h2⟩:=zii.1 hk
  rcases h2 with ⟨h2,h3⟩|⟨_,rfl⟩
  ·exact List.mem_append_left _ (h3.zl8 h2)
  ·exact List.mem_append_right _ h1
 have:=zqe I
 rw [List.length_append] at h
 omega
end Go.Ab
set_option maxRecDepth 100000
namespace Go.Ab
variable {C:CSem} {N:zN}
theorem ofT_len (I:List Itm):(ofT I).length <= I.length:=by
 unfold ofT
 rw [List.length_map]
 have h1:=List.length_filter_le (fun c=>decide ((zdz I c).head? =some c)) (zb3 I)
 have:=zqe I
 omega
theorem ofT_mem {I:List Itm} {g:List Key} (hg:g∈ofT I): ∃ c∈zb3 I,(zdz I c).head? =some c /\ g=zdz I c:=by
 unfold ofT at hg
 obtain ⟨c,hc,rfl⟩:=List.mem_map.1 hg
 obtain ⟨h1,h2⟩:=List.mem_filter.1 hc
 exact ⟨c,h1,by simpa using h2,rfl⟩
theorem groupT_len {I:List Itm} {c:Key} (hc:c∈zb3 I):(zdz I c).length <= I.length:=by
 have h1:=(zf7 (zec hc).1).length_le_of_subset (l₂:=zb3 I) fun y hy=>(((zec hc).2 y).1 hy).zl8 hc
 have:=zqe I
 omega
theorem ofT_len1 {I:List Itm} {g:List Key} (hg:g∈ofT I):g.length <= I.length:=by
 obtain ⟨c,hc,_,rfl⟩:=ofT_mem hg
 exact groupT_len hc
end Go.Ab
namespace Go.Ab
abbrev LG:=List AVal->za->(zL)->Prop
@[simp] def z0 (v0:AVal) (X:za->Prop):LG
 | [v],h,Y=>B.pv (V.zcv v0) fun n=>B.pv (V.bin .lss v n) fun b=>B.cond b (False) (X h)
 | _,_,_=>False
def z5 (Q:zQ) (v0 w:AVal) (h:za):Prop:=zx (z0 v0 fun h=>Q (.bool true) h) [.int .i64 0] h
def z4 (Q:zQ) (v0 w:AVal) (h:za):Prop:=zx (z0 v0 (z5 Q v0 w)) [.int .i64 0] h
def z3 (Q:zQ) (v0 w:AVal) (h:za):Prop:=zx (z0 v0 (z4 Q v0 w)) [.int .i64 0] h
def z2 (Q:zQ) (v0 w:AVal) (h:za):Prop:=zx (z0 v0 (z3 Q v0 w)) [.int .i64 0] h
def z1 (Q:zQ) (v0:AVal) (h:za):Prop:=B.pv (V.zcv v0) fun n=>0<1 /\ B.mks h 24 (some [.nils]) n n fun w h=>z2 Q v0 w h
section
variable {P:Program} {C:CSem} {I:Bx}
abbrev g1 (f:AVal->LG):List AVal->LG:=fun kv lv h Y=>match kv with|[a]=>f a lv h Y|_=>False
abbrev g2 (f:AVal->AVal->LG):List AVal->LG:=fun kv lv h Y=>match kv with|[a,b]=>f a b lv h Y|_=>False
structure Lp (P:Program) (C:CSem) (I:Bx) (c:Code) (Q:Ex->zcd->za->Prop) (keep:List Nat) (l:Nat) (G:List AVal->LG) (X:zcd->za->Prop):Prop where
 h1: ∀ s h,bwp P C I (cA (cA c)) (Ex.then (fun s h=>zx (G (keep.map s)) ([l].map s) h) (Ex.then X Q)) s h=zx (G (keep.map s)) [.int .i64 0] h:=by intros;kernel_rfl
 hG: ∀ (Y:zL) (s:zcd) (h:za),bwp P C I (cA (cA (cA (cB (cA c))))) (Ex.then (fun _ _=>False) (Ex.then (fun s h=>Y ([l].map s) h) (Ex.inBlock (cI (cB (cA c))) (Ex.then X Q)))) s h=G (keep.map s) ([l].map s) h Y:=by intros;kernel_rfl
 hk:(isS c&&isS (cA c)&&isK (cB (cA c))&&isL (cA (cB (cA c)))&&isS (cA (cA (cB (cA c))))&&keep.all fun k=> !memB (zha P I (cA (cA (cB (cA c))))) k)=true:=by kernel_rfl
end
end Go.Ab
namespace Go.Ab
variable {C:CSem} {N:zN}
instance:Inhabited Ob:=⟨.box .nils []⟩
end Go.Ab
set_option maxRecDepth 100000
namespace Go.Ab
variable {C:CSem} {N:zN}
abbrev LKs:=Nat->LK
namespace LKs
end LKs
section
variable {T Ad:Type}
variable {K:DK T Ad} {inn:T->Ad->LKs}
end
end Go.Ab
set_option maxRecDepth 100000
namespace Go.Ab
variable {C:CSem} {N:zN}
theorem partT_n {s:Sta} (h:StaG s) (L:List Key):StaN (zfd s L) 100000:=by
 have h1:=List.length_filter_le (fun t:Itm=>decide (t.Code∈L)) s.zdg
 have h2:=List.length_filter_le (fun t:Lot=>decide (t.Item∈L)) s.Lots
 have h3:=List.length_filter_le (fun t:Line=>decide (t.Item∈L)) s.zex
 have:=h.n
 have:=h.items.n
 refine ⟨?_,fun t ht=> ?_⟩
 ·show (s.zdg.filter _).length+(s.Lots.filter _).length+(s.zex.filter _).length <= _
  omega
 ·have:=h.items.ok t (List.mem_filter.1 ht).1
  unfold Itm.ok few
  omega
theorem withT_len1 (I:List Itm) (c:Key):(zgn I [c]).length <= I.length+1:=withT_le I [c]
theorem zqf (s:Sta) (k:UInt8) (item:Key) (lot line:Int):(ze3 s k item lot line).length <= s.zdg.length+2:=by
 have hw:=fun c=>withT_len1 s.zdg c
 have hp: ∀ c m,(putT (zgn s.zdg [c]) m).length <= s.zdg.length+2:=fun c m=>by
  have:=hw c
  rw [putT_len (zfj _ _)]
  split<;>omega
 have hs:zjv.length <= s.zdg.length+2:=by simp [zjv]
 unfold ze3
 split
 ·split
  ·exact hp _ _
  ·exact hs
 split
 ·split
  ·exact hp _ _
  ·exact hs
 split
 ·split
  ·have:=hw item;omega
  ·exact hs
 split
 ·split
  ·rename_i t _;have:=hw t.Item;omega
  ·exact hs
 split
 ·split
  ·rename_i t _;have:=hw t.Item;omega
  ·exact hs
 split
 ·simp
 ·exact hs
end Go.Ab
namespace Go.Ab
abbrev cutI (I:List Itm) (n:List Key):List Itm:=I.filter fun t=>decide (t.Code∈n)
theorem zi5 {I:List Itm} {n:List Key} {c:Key}:c∈zb3 (cutI I n)↔c∈zb3 I /\ c∈n:=by
 rw [zfw,zfw]
 constructor
 ·rintro ⟨t,ht,rfl⟩
  obtain ⟨h1,h2⟩:=List.mem_filter.1 ht
  exact ⟨⟨t,h1,rfl⟩,of_decide_eq_true h2⟩
 ·rintro ⟨⟨t,ht,rfl⟩,h⟩
  exact ⟨t,List.mem_filter.2 ⟨ht,decide_eq_true h⟩,rfl⟩
theorem zq4 {I:List Itm} {n:List Key} {a b:Key}:ziz (cutI I n) a b↔ziz I a b /\ a∈n /\ b∈n:=by
 constructor
 ·rintro ⟨t,ht,e,hb,hk⟩
  obtain ⟨h1,h2⟩:=List.mem_filter.1 ht
  obtain ⟨k1,k2⟩:=zi5.1 hk
  exact ⟨⟨t,h1,e,hb,k1⟩,by rw [<- e];exact of_decide_eq_true h2,k2⟩
 ·rintro ⟨⟨t,ht,e,hb,hk⟩,ha,hbn⟩
  exact ⟨t,List.mem_filter.2 ⟨ht,decide_eq_true (by rw [e];exact ha)⟩,e,hb,zi5.2 ⟨hk,hbn⟩⟩
theorem eqv_mono {E F:Key->Key->Prop} (h: ∀ a b,E a b->F a b) {a b:Key} (k:Eqv E a b):Eqv F a b:=by
 induction k with
 | rel k=>exact .rel (h _ _ k)
 | refl=>exact .refl _
 | symm _ ih=>exact .symm ih
 | trans _ _ h1 h2=>exact .trans h1 h2
theorem eqv_part {I:List Itm} {n:List Key} {c y:Key} (hs: ∀ y,Eqv (ziz I) c y->y∈n):Eqv (ziz (cutI I n)) c y↔Eqv (ziz I) c y:=by
 refine ⟨eqv_mono fun a b h=>(zq4.1 h).1,fun h=> ?_⟩
 have key: ∀ a b,Eqv (ziz I) a b->Eqv (ziz I) c a->Eqv (ziz (cutI I n)) a b:=by
  intro a b h
  induction h with
  | rel h=>intro ha;exact .rel (zq4.2 ⟨h,hs _ ha,hs _ (.trans ha (.rel h))⟩)
  | refl=>intro _;exact .refl _
  | symm h ih=>intro hb;exact .symm (ih (.trans hb (.symm h)))
  | trans h1 h2 i1 i2=>intro ha;exact .trans (i1 ha) (i2 (.trans ha h1))
 exact key c y h (.refl c)
theorem znp {I:List Itm} {c:Key}:c∈zgn I [c]:=by
 by_cases hc:c∈zb3 I
 ·exact zii.2 ⟨c,by simp,.inl ⟨hc,.refl _⟩⟩
 ·exact zii.2 ⟨c,by simp,.inr ⟨hc,rfl⟩⟩
theorem zqs {I:List Itm} {n:List Key} {c:Key} (hs: ∀ y∈zgn I [c],y∈n):zgn (cutI I n) [c]=zgn I [c]:=by
 refine zj2 (zfj _ _) (zfj _ _) fun y=> ?_
 rw [zii,zii]
 simp only [List.mem_singleton,exists_eq_left]
 have hn:c∈n:=hs c znp
 by_cases hc:c∈zb3 I
 ·have hc':c∈zb3 (cutI I n):=zi5.2 ⟨hc,hn⟩
  have:=eqv_part (I:=I) (n:=n) (c:=c) (y:=y) (fun y hy=>hs y (zii.2 ⟨c,by simp,.inl ⟨hc,hy⟩⟩))
  simp only [hc,hc',true_and,not_true,false_and,or_false]
  exact this
 ·have hc':c∉zb3 (cutI I n):=fun h=>hc (zi5.1 h).1
  simp only [hc,hc',not_false_iff,true_and,false_and,false_or]
theorem zkr {α:Type} {p q:α->Bool} {t:α}: ∀ {L:List α},L.find? p=some t->q t=true->(L.filter q).find? p=some t
 | [],h,_=>by cases h
 | a::L,h,hq=>by
  by_cases hp:p a=true
  ·rw [List.find?_cons_of_pos hp] at h
   cases h
   rw [List.filter_cons_of_pos hq,List.find?_cons_of_pos hp]
  ·rw [List.find?_cons_of_neg hp] at h
   by_cases ha:q a=true
   ·rw [List.filter_cons_of_pos ha,List.find?_cons_of_neg hp]
    exact zkr h hq
   ·rw [List.filter_cons_of_neg ha]
    exact zkr h hq
theorem codesOf_rise (s:Sta) (k:UInt8) (item:Key) (lot line:Int):zgz (ze3 s k item lot line):=by
 have hs:zgz zjv:=by unfold zjv;exact List.pairwise_singleton _ _
 unfold ze3
 split
 ·split
  ·exact zj5 (zfj _ _)
  ·exact hs
 split
 ·split
  ·exact zj5 (zfj _ _)
  ·exact hs
 split
 ·split
  ·exact zfj _ _
  ·exact hs
 split
 ·split
  ·exact zfj _ _
  ·exact hs
 split
 ·split
  ·exact zfj _ _
  ·exact hs
 split
 ·exact .nil
 ·exact hs
theorem codesOf_part {s:Sta} {k:UInt8} {item:Key} {lot line:Int} (h:ze3 s k item lot line≠zjv):ze3 (zfd s (ze3 s k item lot line)) k item lot line=ze3 s k item lot line:=by
 generalize hn:ze3 s k item lot line=n at *
 have hput: ∀ m,item∈zb3 s.zdg->putT (zgn s.zdg [item]) m=n->item∈zb3 (cutI s.zdg n) /\ putT (zgn (cutI s.zdg n) [item]) m=n:=fun m hm e=>by
  have h1: ∀ y∈zgn s.zdg [item],y∈n:=fun y hy=>by rw [<- e];exact zm2.2 (.inr hy)
  exact ⟨zi5.2 ⟨hm,h1 _ znp⟩,by rw [zqs h1,e]⟩
 have hwith: ∀ c,zgn s.zdg [c]=n->c∈n /\ zgn (cutI s.zdg n) [c]=n:=fun c e=>by
  have h1: ∀ y∈zgn s.zdg [c],y∈n:=fun y hy=>by rw [<- e];exact hy
  exact ⟨h1 _ znp,by rw [zqs h1,e]⟩
 have hI:(zfd s n).zdg=cutI s.zdg n:=rfl
 unfold ze3 at hn ⊢
 rw [hI]
 by_cases h1:k=4 \/ k=5
 ·rw [if_pos h1] at hn ⊢
  by_cases hm:item∈zb3 s.zdg
  ·rw [if_pos hm] at hn
   obtain ⟨g1,g2⟩:=hput _ hm hn
   rw [if_pos g1,g2]
  ·rw [if_neg hm] at hn;exact absurd hn.symm h
 rw [if_neg h1] at hn ⊢
 by_cases h2:k=9
 ·rw [if_pos h2] at hn ⊢
  by_cases hm:item∈zb3 s.zdg
  ·rw [if_pos hm] at hn
   obtain ⟨g1,g2⟩:=hput _ hm hn
   rw [if_pos g1,g2]
  ·rw [if_neg hm] at hn;exact absurd hn.symm h
 rw [if_neg h2] at hn ⊢
 by_cases h3:k=13 \/ k=15
 ·rw [if_pos h3] at hn ⊢
  by_cases hm:item∈zb3 s.zdg
  ·rw [if_pos hm] at hn
   obtain ⟨g1,g2⟩:=hwith _ hn
   rw [if_pos (zi5.2 ⟨hm,g1⟩),g2]
  ·rw [if_neg hm] at hn;exact absurd hn.symm h
 rw [if_neg h3] at hn ⊢
 by_cases h4:k=6 \/ k=7 \/ k=8
 ·rw [if_pos h4] at hn ⊢
  cases hf:s.Lots.find? (fun l=>decide (l.Id=lot)) with
  | none=>rw [hf] at hn;exact absurd hn.symm h
  | some t=>
   rw [hf] at hn
   obtain ⟨g1,g2⟩:=hwith _ hn
   have:(zfd s n).Lots.find? (fun l=>decide (l.Id=lot))=some t:=zkr hf (decide_eq_true g1)
   rw [this]
   exact g2
 rw [if_neg h4] at hn ⊢
 by_cases h5:k=10 \/ k=11 \/ k=14
 ·rw [if_pos h5] at hn ⊢
  cases hf:s.zex.find? (fun l=>decide (l.Id=line)) with
  | none=>rw [hf] at hn;exact absurd hn.symm h
  | some t=>
   rw [hf] at hn
   obtain ⟨g1,g2⟩:=hwith _ hn
   have:(zfd s n).zex.find? (fun l=>decide (l.Id=line))=some t:=zkr hf (decide_eq_true g1)
   rw [this]
   exact g2
 rw [if_neg h5] at hn ⊢
 exact hn
theorem ofT_at {I:List Itm} {i:Nat} {g:List Key} {c:Key} (h:(ofT I)[i]? =some g) (hc:c∈g):c∈zb3 I /\ g=zdz I c:=by
 obtain ⟨d,hd,rfl⟩:=mem_ofT.1 (List.mem_of_getElem? h)
 exact ⟨(((zec hd).2 c).1 hc).zl8 hd,(zk8 hd hc).symm⟩
theorem zra {g:List Key} (h:headLt g g):False:=zp7 h h
theorem ofT_disj {I:List Itm} {i j:Nat} {g k:List Key} {c:Key} (hi:(ofT I)[i]? =some g) (hj:(ofT I)[j]? =some k) (hg:c∈g) (hk:c∈k):i=j:=by
 obtain ⟨_,e1⟩:=ofT_at hi hg
 obtain ⟨_,e2⟩:=ofT_at hj hk
 have e:g=k:=e1.trans e2.symm
 subst e
 obtain ⟨li,hi⟩:=List.getElem?_eq_some_iff.1 hi
 obtain ⟨lj,hj⟩:=List.getElem?_eq_some_iff.1 hj
 have hp:=List.pairwise_iff_getElem.1 (ofT_rise I)
 rcases Nat.lt_trichotomy i j with h|h|h
 ·have:=hp i j li lj h;rw [hi,hj] at this;exact (zra this).elim
 ·exact h
 ·have:=hp j i lj li h;rw [hi,hj] at this;exact (zra this).elim
def zkv (G:List (List Key)) (c:Key):Int:=idxI (fun g=>decide (c∈g)) G
theorem zmw {G:List (List Key)} {c:Key}:0 <= zkv G c↔ ∃ g∈G,c∈g:=by
 unfold zkv idxI
 cases e:G.findIdx? (fun g=>decide (c∈g)) with
 | none=>
  rw [List.findIdx?_eq_none_iff] at e
  constructor
  ·intro h;have h:(0:Int) <= -1:=h;omega
  ·rintro ⟨g,hg,hc⟩
   have:=e g hg
   rw [decide_eq_false_iff_not] at this
   exact absurd hc this
 | some i=>
  rw [List.findIdx?_eq_some_iff_getElem] at e
  obtain ⟨h1,h2,_⟩:=e
  refine ⟨fun _=>⟨_,List.getElem_mem h1,of_decide_eq_true h2⟩,fun _=> ?_⟩
  show (0:Int) <= (i:Int)
  omega
theorem zj7 {I:List Itm} {c:Key}:0 <= zkv (ofT I) c↔c∈zb3 I:=by
 rw [zmw]
 constructor
 ·rintro ⟨g,hg,hc⟩
  obtain ⟨d,hd,rfl⟩:=mem_ofT.1 hg
  exact (((zec hd).2 c).1 hc).zl8 hd
 ·intro h
  exact ⟨zdz I c,mem_ofT.2 ⟨c,h,rfl⟩,zjd h⟩
def cntG {α:Type} (f:α->Key) (L:List α) (G:List (List Key)):Nat:=(L.filter fun t=>decide (∃ g∈G,f t∈g)).length
theorem cntG_nil {α:Type} (f:α->Key) (L:List α):cntG f L []=0:=by
 unfold cntG
 simp
theorem cntG_le {α:Type} (f:α->Key) (L:List α) (G:List (List Key)):cntG f L G <= L.length:=List.length_filter_le ..
theorem zqg {α:Type} {f:α->Key} {L:List α} {I:List Itm} {i:Nat} {g:List Key} (h:(ofT I)[i]? =some g):cntG f L ((ofT I).take (i+1))=cntG f L ((ofT I).take i)+(L.filter fun t=>decide (f t∈g)).length:=by
 have hd: ∀ c,c∈g-> ¬ ∃ k∈(ofT I).take i,c∈k:=by
  rintro c hc ⟨k,hk,hck⟩
  obtain ⟨j,hj⟩:=List.mem_iff_getElem?.1 hk
  rw [List.getElem?_take] at hj
  split at hj
  ·have:=ofT_disj h hj hc hck
   omega
  ·cases hj
 rw [take_succ h]
 unfold cntG
 induction L with
 | nil=>rfl
 | cons t L ih=>
  simp only [List.filter_cons]
  by_cases h1:f t∈g
  ·have h2:=hd _ h1
   have e1:decide (∃ k∈(ofT I).take i++[g],f t∈k)=true:=decide_eq_true ⟨g,by simp,h1⟩
   rw [if_pos e1,if_neg (by rw [decide_eq_true_eq];exact h2),if_pos (decide_eq_true h1),List.length_cons,List.length_cons,ih]
   omega
  ·by_cases h2: ∃ k∈(ofT I).take i,f t∈k
   ·have e1:decide (∃ k∈(ofT I).take i++[g],f t∈k)=true:=by
     obtain ⟨k,hk,hc⟩:=h2
     exact decide_eq_true ⟨k,List.mem_append_left _ hk,hc⟩
    rw [if_pos e1,if_pos (decide_eq_true h2),if_neg (by rw [decide_eq_true_eq];exact h1),List.length_cons,List.length_cons,ih]
    omega
   ·have e1: ¬ decide (∃ k∈(ofT I).take i++[g],f t∈k)=true:=by
     rw [decide_eq_true_eq]
     rintro ⟨k,hk,hc⟩
     rcases List.mem_append.1 hk with hk|hk
     ·exact h2 ⟨k,hk,hc⟩
     ·rw [List.mem_singleton.1 hk] at hc;exact h1 hc
    rw [if_neg e1,if_neg (by rw [decide_eq_true_eq];exact h2),if_neg (by rw [decide_eq_true_eq];exact h1)]
    exact ih
theorem cntG_ofT {α:Type} (f:α->Key) (L:List α) (I:List Itm):cntG f L (ofT I)=(L.filter fun t=>decide (f t∈zb3 I)).length:=by
 unfold cntG
 congr 1
 refine List.filter_congr fun t _=>decide_eq_decide.2 ?_
 rw [<- zj7,zmw]
theorem cntG_items (I:List Itm):cntG Itm.Code I (ofT I)=I.length:=by
 rw [cntG_ofT]
 congr 1
 exact List.filter_eq_self.2 fun t ht=>decide_eq_true (zfw.2 ⟨t,ht,rfl⟩)
theorem zq0 (s:Sta) (L:List Key):zfd (zfd s L) L=zfd s L:=by
 unfold zfd
 simp only [List.filter_filter,Bool.and_self]
end Go.Ab
set_option maxRecDepth 100000
namespace Go.Ab
variable {C:CSem} {N:zN}
def zc7.Spec (C:CSem) (N:zN):Prop:= ∀ (x:AVal) (G:List (List Key)) (c:Key) (h:za) (Q:zQ),TxAt h x G->G.length<4611686018427387904->(∀ l∈G,l.length<4611686018427387904)->Q (.int .i64 (zkv G c)) h->C (N 552) [x,.str c] h Q
theorem zc7.spec (i:zc7.Imp C N):zc7.Spec C N:=by
 intro x G c h Q hx hG hl hq
 have lx:=hx.zcv
 apply i
 refine zx.intro (fun n vs hh=>hh=h /\ ∃ k:Nat,k+n=G.length /\ vs=[.int .i64 (k:Int)] /\ ∀ j:Nat,j<k-> ∀ g,G[j]? =some g->c∉g) G.length ?_ ⟨rfl,0,by simp,rfl,by omega⟩
 rintro Y n vs h ⟨rfl,k,hk,rfl,he⟩ hY
 simp -dsimp only [zc7.l4,zc7.k3,lx,lssN,B.zd]
 refine B.zt (fun hc=> ?_) (fun hc=> ?_)
 ·rw [decide_eq_true_eq] at hc
  obtain ⟨l,ha⟩:=zfb hc
  obtain ⟨v,Rv,f1,f2,f3⟩:=hx.get ha
  have hln:=hl l (List.mem_of_getElem? ha)
  have lv:=f3.zcv
  rw [List.length_map] at lv
  refine zx.intro (fun n vs hh=>hh=h /\ ∃ q:Nat,q+n=l.length /\ vs=[.int .i64 (q:Int)] /\ c∉l.take q) l.length ?_ ⟨rfl,0,by simp,rfl,by simp⟩
  rintro Z m vs h ⟨rfl,q,hm,rfl,hq2⟩ hZ
  simp -dsimp only [zc7.l2,zc7.k1,f1,f2,lv,lssN,B.zd,B.zgl]
  refine B.zt (fun hc2=> ?_) (fun hc2=> ?_)
  ·rw [decide_eq_true_eq] at hc2
   obtain ⟨d,hd⟩:=zfb hc2
   have g1:V.idxS 1 v (.int .i64 (q:Int))=some (elp 1 v q 0):=f3.idxN (by rw [List.length_map];exact hc2)
   have g2:A.ldv h (elp 1 v q 0)=some (.str d):=f3.cell (by rw [List.getElem?_map,hd];rfl)
   simp -dsimp only [f1,f2,g1,g2,B.zd,B.zgl]
   by_cases hdc:d=c
   ·have e:zkv G c=(k:Int):=by
     unfold zkv idxI
     rw [znd (k:=k) hc (fun j hj a ha=>decide_eq_false (he j hj a ha)) (decide_eq_true (by
      have:=(List.getElem?_eq_some_iff.1 ha).2
      rw [this, <- hdc];exact List.mem_of_getElem? hd))]
    rw [e] at hq
    simp -dsimp [hdc]
    exact zbr hq
   ·simp -dsimp [hdc, - V.ze4]
    simp -dsimp only [add1 (show q<4611686018427387904 by omega),B.zd]
    refine hZ (m-1) _ _ (by omega) ⟨rfl,q+1,by omega,rfl,?_⟩
    rw [take_succ hd,List.mem_append]
    rintro (h|h)
    ·exact hq2 h
    ·exact hdc (List.mem_singleton.1 h).symm
  ·rw [decide_eq_false_iff_not] at hc2
   have hqq:q=l.length:=by omega
   subst hqq
   rw [List.take_length] at hq2
   simp -dsimp only [add1 (show k<4611686018427387904 by omega),B.zd]
   refine hY (n-1) _ _ (by omega) ⟨rfl,k+1,by omega,rfl,fun j hj g hg=> ?_⟩
   by_cases hjk:j=k
   ·subst hjk
    rw [ha] at hg;cases hg
    exact hq2
   ·exact he j (by omega) g hg
 ·rw [decide_eq_false_iff_not] at hc
  have e:zkv G c= -1:=by
   unfold zkv idxI
   rw [List.findIdx?_eq_none_iff.2 fun g hg=>by
    obtain ⟨j,hj⟩:=List.mem_iff_getElem?.1 hg
    exact decide_eq_false (he j (by have:=(List.getElem?_eq_some_iff.1 hj).1;omega) g hj)]
  rw [e] at hq
  exact zbr hq
theorem TxAt.getA {h:za} {x:AVal} {G:List (List Key)} (a:TxAt h x G) {j:Nat} {l:List Key} (hl:G[j]? =some l): ∃ v R',V.idxS 1 x (.int .i64 (j:Int))=some (elp 1 x j 0) /\ ∀ h',h.le h'->A.ldv h' (elp 1 x j 0)=some v /\ SlX h' 1 v (l.map tc) R':=by
 obtain ⟨xs,R,h1,h2,h3⟩:=a.ls
 have hj:j<xs.length:=by rw [h1];exact (List.getElem?_eq_some_iff.1 hl).1
 obtain ⟨v,hv⟩:=zfb hj
 obtain ⟨R',r⟩:=h3 j v l hv hl
 exact ⟨v,R',h2.idxN (by rw [List.length_map];exact hj),fun h' hle=>⟨(h2.mono hle).cell (by rw [List.getElem?_map,hv];rfl),r.mono hle⟩⟩
theorem geqS (a b:Key):V.bin .geq (.str a) (.str b)=some (.bool (!zft a b)):=rfl
def zi.Spec (C:CSem) (N:zN):Prop:= ∀ (s:Sta) (x y z:AVal) (cs:List AVal) (k:UInt8) (item:Key) (lot line:Int) (h:za) (Q:zQ),StaW h s x y z->StaS s->AskC cs k item lot line->item.length<4611686018427387904 ->
 Q (.bool true) h->C (N 561) [.agg (zfp s x y z),.agg cs] h Q
theorem zot (s1:zn.Spec C N) (s2:zbx.Spec C N) (s3:zdi.Spec C N) {s:Sta} {x y z:AVal} {cs:List AVal} {k:UInt8} {item:Key} {lot line:Int} {h:za} {Q:zQ} (ha:znm h s x y z) (hG:StaG s) (hA:AskC cs k item lot line) (hq: ∀ h',h.le h'->Q (.bool true) h'):
  zi.k4 C N Q (.agg (zfp s x y z)) (.agg cs) h:=by
 have cx:=ha.items.zcq
 have cy:y.zcq=true:=ha.lots.elim fun _ r=>r.zcq
 have cz:z.zcq=true:=ha.lines.elim fun _ r=>r.zcq
 have hcl:=hA.len
 have hn:=hG.n
 have hnI:=hG.items.n
 have fx:V.zeq 0 11 (.agg cs)=some (.agg cs):=by
  simp -dsimp [hcl,List.take_of_length_le]
 have fs:V.zeq 0 6 (.agg (zfp s x y z))=some (.agg (zfp s x y z)):=rfl
 simp -dsimp only [zi.k4,fx,fs,B.zd]
 refine s1 s x y z cs k item lot line h _ ha (by omega) hA fun n h1 o1=> ?_
 have hr:=codesOf_rise s k item lot line
 have hlen:=zqf s k item lot line
 have hpart:=codesOf_part (s:=s) (k:=k) (item:=item) (lot:=lot) (line:=line)
 have hp2:=zqf (zfd s (ze3 s k item lot line)) k item lot line
 generalize ze3 s k item lot line=M at *
 have tn:SlX h1 1 n (M.map tc) []:=o1.slAt 0 rfl
 have ln:=tn.zcv
 rw [List.length_map] at ln
 have ha1:=ha.mono o1.le
 have fin:zi.k1 C N Q n (.agg (zfp s x y z)) (.agg cs) h1:=by
  have go:M≠zjv->B.pv (V.zeq 0 6 (.agg (zfp s x y z))) fun v164=>B.pv (V.zeq 0 11 (.agg cs)) fun v167=>B.al (.agg cs) (B.call C (N 558) [v164,n] h1 fun v166 h=>B.call C (N 559) [v166,v167] h fun v168 h=>B.call C (N 133) [v168,n] h fun v170 h=>Q v170 h):=fun hne=>by
   have hpart:=hpart hne
   simp -dsimp only [fx,fs,B.zd,B.zio]
   refine s2 s x y z n M [] h1 _ ha1 tn (by omega) (by omega) fun px PP py pz h2 eP o2=> ?_
   have hN:=partT_n hG M
   have aP:znm h2 (zfd s M) px py pz:=StaO.at o2 (fun o ho=>ho) eP hN (by omega)
   have hi:(zfd s M).zdg.length <= s.zdg.length:=List.length_filter_le ..
   refine s1 _ px py pz cs k item lot line h2 _ aP (by omega) hA fun m h3 o3=> ?_
   rw [hpart] at o3
   refine s3 m n M M [] [] h3 _ (o3.slAt 0 rfl) (tn.mono (za.le_trans o2.le o3.le)) (by omega) ?_
   rw [decide_eq_true rfl]
   exact hq _ (za.le_trans o1.le (za.le_trans o2.le o3.le))
  by_cases h1l:M.length=1
  rotate_left
  ·have hne:M≠zjv:=fun e=>h1l (by rw [e];rfl)
   have h1': ¬ (M.length:Int)=1:=by omega
   have:=go hne
   simp -dsimp [ln,h1',h1l] at this ⊢
   exact this
  ·obtain ⟨c,rfl⟩:=List.length_eq_one_iff.1 h1l
   have g1:V.idxS 1 n (.int .i64 0)=some (elp 1 n 0 0):=tn.idxN (i:=0) (by simp)
   have g2:A.ldv h1 (elp 1 n 0 0)=some (.str c):=tn.cell rfl
   by_cases hc:c=[42]
   ·subst hc
    simp -dsimp [ln,g1,g2]
    exact hq _ o1.le
   ·have hne:[c]≠zjv:=fun e=>hc (by unfold zjv at e;cases e;rfl)
    have:=go hne
    simp -dsimp [ln,g1,g2,hc] at this ⊢
    exact this
 refine zx.intro (fun t vs hh=>hh=h1 /\ ∃ q:Nat,q+t=M.length /\ vs=[.int .i64 ((q+1:Nat):Int)]) M.length ?_ ⟨rfl,0,by omega,rfl⟩
 rintro Y t vs h' ⟨rfl,q,ht,rfl⟩ hY
 simp -dsimp only [zi.l3,zi.k2,ln,lssN,B.zd]
 refine B.zt (fun hc=> ?_) (fun hc=>fin)
 rw [decide_eq_true_eq] at hc
 obtain ⟨a,ha'⟩:=zfb (L:=M) (k:=q) (by omega)
 obtain ⟨b,hb'⟩:=zfb hc
 have e1:V.bin .sub (.int .i64 ((q+1:Nat):Int)) (.int .i64 1)=some (.int .i64 (q:Int)):=by rw [sub1 (by omega) (by omega)];rfl
 have f1:V.idxS 1 n (.int .i64 (q:Int))=some (elp 1 n q 0):=tn.idxN (by rw [List.length_map];omega)
 have f2:A.ldv h' (elp 1 n q 0)=some (.str a):=tn.cell (by rw [List.getElem?_map,ha'];rfl)
 have f3:V.idxS 1 n (.int .i64 ((q+1:Nat):Int))=some (elp 1 n (q+1) 0):=tn.idxN (by rw [List.length_map];omega)
 have f4:A.ldv h' (elp 1 n (q+1) 0)=some (.str b):=tn.cell (by rw [List.getElem?_map,hb'];rfl)
 have hab:zft a b=true:=by
  have:=List.pairwise_iff_getElem.1 hr q (q+1) (by omega) hc (by omega)
  rwa [(List.getElem?_eq_some_iff.1 ha').2,(List.getElem?_eq_some_iff.1 hb').2] at this
 simp -dsimp only [e1,f1,f2,f3,f4,B.zgl,B.zd,geqS,hab,Bool.not_true,B.cond_false,add1 (show q+1<4611686018427387904 by omega)]
 exact hY (t-1) _ _ (by omega) ⟨rfl,q+1,by omega,rfl⟩
theorem zi.spec (i:zi.Imp C N) (s0:zd8.Spec C N) (s1:zcl.Spec C N) (s2:zdo.Spec C N) (s3:zbx.Spec C N) (s4:zdv.Spec C N) (s5:zc7.Spec C N) (s6:zn.Spec C N) (s7:zdi.Spec C N):zi.Spec C N:=by
 intro s x y z cs k item lot line h Q hW hS hA hit hq
 have cx:=hW.items.zcq
 have cy:y.zcq=true:=hW.lots.elim fun _ r=>r.zcq
 have cz:z.zcq=true:=hW.lines.elim fun _ r=>r.zcq
 have hcl:=hA.len
 have bx:A.boxN 11 (.agg cs)=some (.agg cs):=by simp -dsimp [hcl]
 have bs:A.boxN 6 (.agg (zfp s x y z))=some (.agg (zfp s x y z)):=by simp -dsimp [cx,cy,cz]
 have fs:V.zeq 0 6 (.agg (zfp s x y z))=some (.agg (zfp s x y z)):=rfl
 have f2:V.zcm 2 (.agg cs)=some (.str item):=by simp -dsimp [hA.item]
 have ls:V.zg6 (.str item)=some (.int .i64 (item.length:Int)):=rfl
 apply i
 simp -dsimp only [zi.cps,zi.k14,bx,bs,B.zd]
 refine s0 _ _ ?_
 simp -dsimp only [V.zgf,Bool.not_true,B.zd,B.cond_false,zi.k13,fs]
 refine s1 s x y z h _ hW hS fun b hb=> ?_
 cases b with
 | true=>
  simp -dsimp [- zi.k12]
  exact zbr hq
 | false=>
 have hG:=hb rfl
 by_cases hi:item.length <= 1000
 rotate_left
 ·have hi':(1000:Int)<item.length:=by omega
  simp -dsimp [f2,hi', - V.zfx, - zi.k12]
  exact zbr hq
 have hi': ¬ (1000:Int)<item.length:=by omega
 have fI:V.zcm 3 (.agg (zfp s x y z))=some x:=rfl
 have fL:V.zcm 4 (.agg (zfp s x y z))=some y:=rfl
 have fM:V.zcm 5 (.agg (zfp s x y z))=some z:=rfl
 simp -dsimp [f2,hi', - V.zfx, - zi.k12]
 have ha:=hG.at hW
 have hn:=hG.n
 have hnI:=hG.items.n
 simp -dsimp only [zi.k12,fI,B.zio,B.zd]
 refine s2 x s.zdg h _ ha.items (by omega) fun g PG h1 eG oG=> ?_
 have ha1:=ha.mono oG.le
 have tg:TxAt h1 g (ofT s.zdg):=by
  have:=rowsT_at oG fun b hb=>hb
  rwa [eG] at this
 have lg:=tg.zcv
 have lG:(ofT s.zdg).length <= s.zdg.length:=ofT_len _
 have lg1: ∀ l∈ofT s.zdg,l.length<4611686018427387904:=fun l hl=>by have:=ofT_len1 hl;omega
 have cI:=cntG_le Itm.Code s.zdg
 have cL:=cntG_le Lot.Item s.Lots
 have cM:=cntG_le Line.Item s.zex
 refine zx.intro (fun t vs hh=>h1.le hh /\ ∃ q:Nat,q+t=(ofT s.zdg).length /\ vs=[.int .i64 (cntG Itm.Code s.zdg ((ofT s.zdg).take q):Int),.int .i64 (cntG Lot.Item s.Lots ((ofT s.zdg).take q):Int),.int .i64 (cntG Line.Item s.zex ((ofT s.zdg).take q):Int),.int .i64 (q:Int)]) (ofT s.zdg).length ?_ ⟨za.le_refl _,0,by omega,by rw [List.take_zero,cntG_nil,cntG_nil,cntG_nil];rfl⟩
 rintro Y t vs hh ⟨le1,q,ht,rfl⟩ hY
 simp -dsimp only [zi.l11,zi.k10,lg,lssN,B.zd]
 refine B.zt (fun hc=> ?_) (fun hc=> ?_)
 ·rw [decide_eq_true_eq] at hc
  obtain ⟨l,hl⟩:=zfb hc
  obtain ⟨v,R',f1,f2⟩:=tg.getA hl
  obtain ⟨f3,f4⟩:=f2 hh le1
  have hll:=ofT_len1 (List.mem_of_getElem? hl)
  simp -dsimp only [fs,f1,f3,B.zgl,B.zd]
  refine s3 s x y z v l R' hh _ (ha1.mono le1) f4 (by omega) (by omega) fun px PP py pz h2 eP o2=> ?_
  have hN:=partT_n hG l
  have aP:znm h2 (zfd s l) px py pz:=StaO.at o2 (fun o ho=>ho) eP hN (by omega)
  obtain ⟨f5,f6⟩:=f2 h2 (za.le_trans le1 o2.le)
  have cp1:px.zcq=true:=(o2.slAt 0 rfl).zcq
  have cp2:py.zcq=true:=(o2.slAt 1 rfl).zcq
  have cp3:pz.zcq=true:=(o2.slAt 2 rfl).zcq
  have st:V.setN 0 6 (.agg (zfp (zfd s l) px py pz)) (.agg [.int .i64 0,.int .i64 0,.int .i64 0,.nils,.nils,.nils])=some (.agg (zfp (zfd s l) px py pz)):=by simp -dsimp [cp1,cp2,cp3]
  have fp:V.zeq 0 6 (.agg (zfp (zfd s l) px py pz))=some (.agg (zfp (zfd s l) px py pz)):=rfl
  have hN1:=hN.n
  simp -dsimp only [st,fp,f1,f5,B.zgl,B.zd]
  refine s3 _ px py pz v l R' h2 _ aP f6 (by omega) (by omega) fun qx QQ qy qz h3 eQ o3=> ?_
  rw [zq0] at eQ o3
  have aQ:znm h3 (zfd s l) qx qy qz:=StaO.at o3 (fun o ho=>ho) eQ hN (by omega)
  have cq1:qx.zcq=true:=(o3.slAt 0 rfl).zcq
  have cq2:qy.zcq=true:=(o3.slAt 1 rfl).zcq
  have cq3:qz.zcq=true:=(o3.slAt 2 rfl).zcq
  have sq:V.setN 0 6 (.agg (zfp (zfd s l) qx qy qz)) (.agg [.int .i64 0,.int .i64 0,.int .i64 0,.nils,.nils,.nils])=some (.agg (zfp (zfd s l) qx qy qz)):=by simp -dsimp [cq1,cq2,cq3]
  have fq:V.zeq 0 6 (.agg (zfp (zfd s l) qx qy qz))=some (.agg (zfp (zfd s l) qx qy qz)):=rfl
  rw [zq0]
  simp -dsimp only [sq,fp,fq,B.zd]
  refine s4 _ _ _ _ _ _ _ _ h3 _ (aP.mono o3.le) aQ ?_
  have d1:V.bin .neq (.int .i64 (zfd s l).Now) (.int .i64 s.Now)=some (.bool false):=by simp -dsimp [show (zfd s l).Now=s.Now from rfl]
  have d2:V.bin .neq (.int .i64 (zfd s l).zh7) (.int .i64 s.zh7)=some (.bool false):=by simp -dsimp [show (zfd s l).zh7=s.zh7 from rfl]
  have d3:V.bin .neq (.int .i64 (zfd s l).zge) (.int .i64 s.zge)=some (.bool false):=by simp -dsimp [show (zfd s l).zge=s.zge from rfl]
  have u1:V.zcm 0 (.agg (zfp (zfd s l) px py pz))=some (.int .i64 (zfd s l).Now):=rfl
  have u2:V.zcm 1 (.agg (zfp (zfd s l) px py pz))=some (.int .i64 (zfd s l).zh7):=rfl
  have u3:V.zcm 2 (.agg (zfp (zfd s l) px py pz))=some (.int .i64 (zfd s l).zge):=rfl
  have u4:V.zcm 3 (.agg (zfp (zfd s l) px py pz))=some px:=rfl
  have u5:V.zcm 4 (.agg (zfp (zfd s l) px py pz))=some py:=rfl
  have u6:V.zcm 5 (.agg (zfp (zfd s l) px py pz))=some pz:=rfl
  have w1:V.zcm 0 (.agg (zfp s x y z))=some (.int .i64 s.Now):=rfl
  have w2:V.zcm 1 (.agg (zfp s x y z))=some (.int .i64 s.zh7):=rfl
  have w3:V.zcm 2 (.agg (zfp s x y z))=some (.int .i64 s.zge):=rfl
  have l1:=aP.items.zcv
  obtain ⟨Ry,ry⟩:=aP.lots
  obtain ⟨Rz,rz⟩:=aP.lines
  have l2:=ry.zcv
  have l3:=rz.zcv
  rw [List.length_map] at l2 l3
  have t1:=zqg (f:=Itm.Code) (L:=s.zdg) hl
  have t2:=zqg (f:=Lot.Item) (L:=s.Lots) hl
  have t3:=zqg (f:=Line.Item) (L:=s.zex) hl
  have i1:(zfd s l).zdg=s.zdg.filter fun t=>decide (t.Code∈l):=rfl
  have i2:(zfd s l).Lots=s.Lots.filter fun t=>decide (t.Item∈l):=rfl
  have i3:(zfd s l).zex=s.zex.filter fun t=>decide (t.Item∈l):=rfl
  rw [<- i1] at t1
  rw [<- i2] at t2
  rw [<- i3] at t3
  have k1:=cI ((ofT s.zdg).take (q+1))
  have k2:=cL ((ofT s.zdg).take (q+1))
  have k3:=cM ((ofT s.zdg).take (q+1))
  have a1:=zgr (a:=cntG Itm.Code s.zdg ((ofT s.zdg).take q)) (b:=(zfd s l).zdg.length) (by omega)
  have a2:=zgr (a:=cntG Lot.Item s.Lots ((ofT s.zdg).take q)) (b:=(zfd s l).Lots.length) (by omega)
  have a3:=zgr (a:=cntG Line.Item s.zex ((ofT s.zdg).take q)) (b:=(zfd s l).zex.length) (by omega)
  rw [decide_eq_true rfl]
  simp -dsimp only [V.zgf,Bool.not_true,B.zio,B.gd_f,Bool.not_false,B.zdj,u1,u2,u3,u4,u5,u6,w1,w2,w3,d1,d2,d3,l1,l2,l3,a1,a2,a3,B.zd,B.zf4,B.cond_false,add1 (show q<4611686018427387904 by omega)]
  refine hY (t-1) _ _ (by omega) ⟨za.le_trans le1 (za.le_trans o2.le o3.le),q+1,by omega,by rw [t1,t2,t3]⟩
 ·rw [decide_eq_false_iff_not] at hc
  have hqq:q=(ofT s.zdg).length:=by omega
  subst hqq
  rw [List.take_length,cntG_items,cntG_ofT,cntG_ofT]
  have hb:=ha1.mono le1
  have tg1:=tg.mono le1
  obtain ⟨Ry,ry⟩:=hb.lots
  obtain ⟨Rz,rz⟩:=hb.lines
  have l1:=hb.items.zcv
  have l2:=ry.zcv
  have l3:=rz.zcv
  rw [List.length_map] at l2 l3
  have hfin:=zot s6 s3 s7 (Q:=dn Q) hb hG hA fun h' hle=>dn_le (za.le_trans oG.le (za.le_trans le1 hle)) hq
  have nL:=List.length_filter_le (fun t:Lot=>decide (t.Item∈zb3 s.zdg)) s.Lots
  have nM:=List.length_filter_le (fun t:Line=>decide (t.Item∈zb3 s.zdg)) s.zex
  have a1:=zgr (a:=(s.Lots.filter fun t=>decide (t.Item∈zb3 s.zdg)).length) (b:=(s.zex.filter fun t=>decide (t.Item∈zb3 s.zdg)).length) (by omega)
  refine zx.intro (fun t vs h'=>h'=hh /\ ∃ j:Nat,j+t=s.Lots.length /\ vs=[.int .i64 (((s.Lots.take j).filter fun t=>decide (t.Item∈zb3 s.zdg)).length:Int),.int .i64 (j:Int)]) s.Lots.length ?_ ⟨rfl,0,by omega,by rw [List.take_zero];rfl⟩
  rintro Z m vs h' ⟨rfl,j,hm,rfl⟩ hZ
  simp -dsimp only [zi.l9,zi.k8,fL,l2,lssN,B.zio,B.zd]
  refine B.zt (fun hc2=> ?_) (fun hc2=> ?_)
  ·rw [decide_eq_true_eq] at hc2
   obtain ⟨a,hga⟩:=zfb hc2
   have g1:V.idxS 6 y (.int .i64 (j:Int))=some (elp 6 y j 0):=ry.idxN (by rw [List.length_map];omega)
   have g2:V.fieldAddr 1 (elp 6 y j 0)=some (elp 6 y j 1):=ry.zne (by rw [List.length_map];omega) 0 1
   have g3:A.ldv h' (elp 6 y j 1)=some (.str a.Item):=ry.ldv (f:=1) (c:=a.cs) (by rw [List.getElem?_map,hga];rfl) (by omega)
   have hf:=zje (fun t:Lot=>decide (t.Item∈zb3 s.zdg)) hga
   have hfl:=zg7 (fun t:Lot=>decide (t.Item∈zb3 s.zdg)) s.Lots j
   simp -dsimp only [fL,B.zio,g1,g2,g3,B.zgl,B.zd]
   refine s5 g _ a.Item h' _ tg1 (by omega) lg1 ?_
   by_cases hp:a.Item∈zb3 s.zdg
   ·have e1:decide ((0:Int) <= zkv (ofT s.zdg) a.Item)=true:=decide_eq_true (zj7.2 hp)
    rw [if_pos (decide_eq_true hp)] at hf
    simp -dsimp only [V.zgx,e1,B.zd,B.cond_true,add1 (show ((s.Lots.take j).filter fun t=>decide (t.Item∈zb3 s.zdg)).length<4611686018427387904 by omega),add1 (show j<4611686018427387904 by omega)]
    refine hZ (m-1) _ _ (by omega) ⟨rfl,j+1,by omega,?_⟩
    rw [hf,List.length_append];rfl
   ·have e1:decide ((0:Int) <= zkv (ofT s.zdg) a.Item)=false:=decide_eq_false fun h=>hp (zj7.1 h)
    rw [if_neg (by simpa using hp),List.append_nil] at hf
    simp -dsimp only [V.zgx,e1,B.zd,B.cond_false,add1 (show j<4611686018427387904 by omega)]
    refine hZ (m-1) _ _ (by omega) ⟨rfl,j+1,by omega,?_⟩
    rw [hf]
  ·rw [decide_eq_false_iff_not] at hc2
   have hjj:j=s.Lots.length:=by omega
   subst hjj
   rw [List.take_length]
   refine zx.intro (fun t vs h2=>h2=h' /\ ∃ j:Nat,j+t=s.zex.length /\ vs=[.int .i64 (((s.Lots.filter fun t=>decide (t.Item∈zb3 s.zdg)).length+((s.zex.take j).filter fun t=>decide (t.Item∈zb3 s.zdg)).length:Nat):Int),.int .i64 (j:Int)]) s.zex.length ?_ ⟨rfl,0,by omega,by rw [List.take_zero];rfl⟩
   rintro X m2 vs h2 ⟨rfl,j,hm2,rfl⟩ hX
   simp -dsimp only [zi.l7,zi.k6,fM,l3,lssN,B.zio,B.zd]
   refine B.zt (fun hc3=> ?_) (fun hc3=> ?_)
   ·rw [decide_eq_true_eq] at hc3
    obtain ⟨a,hga⟩:=zfb hc3
    have g1:V.idxS 8 z (.int .i64 (j:Int))=some (elp 8 z j 0):=rz.idxN (by rw [List.length_map];omega)
    have g2:V.fieldAddr 1 (elp 8 z j 0)=some (elp 8 z j 1):=rz.zne (by rw [List.length_map];omega) 0 1
    have g3:A.ldv h2 (elp 8 z j 1)=some (.str a.Item):=rz.ldv (f:=1) (c:=a.cs) (by rw [List.getElem?_map,hga];rfl) (by omega)
    have hf:=zje (fun t:Line=>decide (t.Item∈zb3 s.zdg)) hga
    have hfl:=zg7 (fun t:Line=>decide (t.Item∈zb3 s.zdg)) s.zex j
    simp -dsimp only [fM,B.zio,g1,g2,g3,B.zgl,B.zd]
    refine s5 g _ a.Item h2 _ tg1 (by omega) lg1 ?_
    by_cases hp:a.Item∈zb3 s.zdg
    ·have e1:decide ((0:Int) <= zkv (ofT s.zdg) a.Item)=true:=decide_eq_true (zj7.2 hp)
     rw [if_pos (decide_eq_true hp)] at hf
     simp -dsimp only [V.zgx,e1,B.zd,B.cond_true,add1 (show (s.Lots.filter fun t=>decide (t.Item∈zb3 s.zdg)).length+((s.zex.take j).filter fun t=>decide (t.Item∈zb3 s.zdg)).length<4611686018427387904 by omega),add1 (show j<4611686018427387904 by omega)]
     refine hX (m2-1) _ _ (by omega) ⟨rfl,j+1,by omega,?_⟩
     rw [hf,List.length_append];rfl
    ·have e1:decide ((0:Int) <= zkv (ofT s.zdg) a.Item)=false:=decide_eq_false fun h=>hp (zj7.1 h)
     rw [if_neg (by simpa using hp),List.append_nil] at hf
     simp -dsimp only [V.zgx,e1,B.zd,B.cond_false,add1 (show j<4611686018427387904 by omega)]
     refine hX (m2-1) _ _ (by omega) ⟨rfl,j+1,by omega,?_⟩
     rw [hf]
   ·rw [decide_eq_false_iff_not] at hc3
    have hjj:j=s.zex.length:=by omega
    subst hjj
    rw [List.take_length]
    have n1:V.bin .neq (.int .i64 (s.zdg.length:Int)) (.int .i64 (s.zdg.length:Int))=some (.bool false):=by simp -dsimp
    have n2:V.bin .neq (.int .i64 (((s.Lots.filter fun t=>decide (t.Item∈zb3 s.zdg)).length+(s.zex.filter fun t=>decide (t.Item∈zb3 s.zdg)).length:Nat):Int)) (.int .i64 (((s.Lots.filter fun t=>decide (t.Item∈zb3 s.zdg)).length+(s.zex.filter fun t=>decide (t.Item∈zb3 s.zdg)).length:Nat):Int))=some (.bool false):=by simp -dsimp
    simp -dsimp only [zi.k5,fI,l1,n1,n2,a1,B.zio,B.gd_f,Bool.not_false,B.zdj,B.zd,B.zf4,B.cond_false]
    exact hfin
end Go.Ab
