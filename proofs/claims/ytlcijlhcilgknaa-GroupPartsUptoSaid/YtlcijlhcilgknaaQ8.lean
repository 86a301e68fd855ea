/- What is proved: a part of the way to the statement: SrtQ. No conditions. -/
import Derived.Test.YtlcijlhcilgknaaQ7
import Derived.KernelRfl
import Derived.Test.YtlcijlhcilgknaaQ6
import Derived.Test.YtlcijlhcilgknaaQ3
import Derived.Test.YtlcijlhcilgknaaQ2
import Derived.Lib.Bytealg
set_option linter.unusedVariables false
set_option linter.unusedSimpArgs false
set_option maxRecDepth 100000
namespace Go.Ab
def Cst (C:CSem):CSem:=fun f args h Q=>C f args.dropLast h Q
abbrev J4 (F:AVal->AVal->AVal->AVal->za->(zQ)->Prop) (C:CSem) (n:Nat):Prop:= ∀ (v0 v1 v2 v3:AVal) (h:za) (Q:zQ),F v0 v1 v2 v3 h (dn Q)->C n [v0,v1,v2,v3] h Q
abbrev J3 (F:AVal->AVal->AVal->za->(zQ)->Prop) (C:CSem) (n:Nat):Prop:= ∀ (v0 v1 v2:AVal) (h:za) (Q:zQ),F v0 v1 v2 h (dn Q)->C n [v0,v1,v2] h Q
structure OrdI (C:CSem) (E:zz) (fL e p q s r v b k n ad md o2 sd nx pw:Nat):Prop where
 eq:J4 (zx.cps C E fL) C e
 part:J4 (zi.cps C E fL) C p
 pdq:J4 (z9.cps C E fL e p q s r v b k n) C q
 pis:J3 (zf.cps C E fL) C s
 rev:J3 (zdb.cps C E) C r
 piv:J3 (zbd.cps C E ad md) C v
 brk:J3 (zu.cps C E nx pw) C b
 heap:J3 (zbs.cps C E sd) C k
 ins:J3 (zb5.cps C E fL) C n
 adj:J3 (ze9.cps C E md) C ad
 med: ∀ (v0 v1 v2 v3 v4:AVal) (h:za) (Q:zQ),ze7.cps C E o2 v0 v1 v2 v3 v4 h (dn Q)->C md [v0,v1,v2,v3,v4] h Q
 ord:J4 (ze6.cps C E fL) C o2
 sift:J4 (zcb.cps C E fL) C sd
 next:NextI C nx
 pow:PowI C pw
theorem e4 {F:AVal->AVal->AVal->AVal->AVal->za->(zQ)->Prop} {G:AVal->AVal->AVal->AVal->za->(zQ)->Prop} {C:CSem} {f:Nat} (i:J4 G C f) (e: ∀ v0 v1 v2 v3 v4 h Q,F v0 v1 v2 v3 v4 h Q=G v0 v1 v2 v3 h Q):I5 F (Cst C) f:=
 fun v0 v1 v2 v3 v4 h Q x=>i v0 v1 v2 v3 h Q (by rw [<- e v0 v1 v2 v3 v4];exact x)
theorem e3 {F:AVal->AVal->AVal->AVal->za->(zQ)->Prop} {G:AVal->AVal->AVal->za->(zQ)->Prop} {C:CSem} {f:Nat} (i:J3 G C f) (e: ∀ v0 v1 v2 v3 h Q,F v0 v1 v2 v3 h Q=G v0 v1 v2 h Q):I4 F (Cst C) f:=
 fun v0 v1 v2 v3 h Q x=>i v0 v1 v2 h Q (by rw [<- e v0 v1 v2 v3];exact x)
section
variable {C:CSem} {E:zz} {fL e p q s r v b k n ad md o2 sd nx pw:Nat}
theorem t_eq: ∀ v0 v1 v2 v3 v4 h Q,zba.cps (Cst C) E C fL v0 v1 v2 v3 v4 h Q=zx.cps C E fL v0 v1 v2 v3 h Q:=by intros;kernel_rfl
theorem t_part: ∀ v0 v1 v2 v3 v4 h Q,zp.cps (Cst C) E C fL v0 v1 v2 v3 v4 h Q=zi.cps C E fL v0 v1 v2 v3 h Q:=by intros;kernel_rfl
theorem t_pdq: ∀ v0 v1 v2 v3 v4 h Q,zbm.cps (Cst C) E C fL e p q s r v b k n v0 v1 v2 v3 v4 h Q=z9.cps C E fL e p q s r v b k n v0 v1 v2 v3 h Q:=by intros;kernel_rfl
theorem t_pis: ∀ v0 v1 v2 v3 h Q,zh.cps (Cst C) E C fL v0 v1 v2 v3 h Q=zf.cps C E fL v0 v1 v2 h Q:=by intros;kernel_rfl
theorem t_rev: ∀ v0 v1 v2 v3 h Q,zd0.cps (Cst C) E C fL v0 v1 v2 v3 h Q=zdb.cps C E v0 v1 v2 h Q:=by intros;kernel_rfl
theorem t_piv: ∀ v0 v1 v2 v3 h Q,zbo.cps (Cst C) E C fL md ad v0 v1 v2 v3 h Q=zbd.cps C E ad md v0 v1 v2 h Q:=by intros;kernel_rfl
theorem t_brk: ∀ v0 v1 v2 v3 h Q,zbc.cps (Cst C) E C fL nx pw v0 v1 v2 v3 h Q=zu.cps C E nx pw v0 v1 v2 h Q:=by intros;kernel_rfl
theorem t_heap: ∀ v0 v1 v2 v3 h Q,zdf.cps (Cst C) E C fL sd v0 v1 v2 v3 h Q=zbs.cps C E sd v0 v1 v2 h Q:=by intros;kernel_rfl
theorem t_ins: ∀ v0 v1 v2 v3 h Q,zc6.cps (Cst C) E C fL v0 v1 v2 v3 h Q=zb5.cps C E fL v0 v1 v2 h Q:=by intros;kernel_rfl
theorem t_adj: ∀ v0 v1 v2 v3 h Q,zeh.cps (Cst C) E C fL md v0 v1 v2 v3 h Q=ze9.cps C E md v0 v1 v2 h Q:=by intros;kernel_rfl
theorem t_med: ∀ v0 v1 v2 v3 v4 v5 h Q,zfs.cps (Cst C) E C fL o2 v0 v1 v2 v3 v4 v5 h Q=ze7.cps C E o2 v0 v1 v2 v3 v4 h Q:=by intros;kernel_rfl
theorem t_ord: ∀ v0 v1 v2 v3 v4 h Q,zfr.cps (Cst C) E C fL v0 v1 v2 v3 v4 h Q=ze6.cps C E fL v0 v1 v2 v3 h Q:=by intros;kernel_rfl
theorem t_sift: ∀ v0 v1 v2 v3 v4 h Q,zde.cps (Cst C) E C fL v0 v1 v2 v3 v4 h Q=zcb.cps C E fL v0 v1 v2 v3 h Q:=by intros;kernel_rfl
theorem OrdI.toT (J:OrdI C E fL e p q s r v b k n ad md o2 sd nx pw):Ord.PdqI (Cst C) E C fL e p q s r v b k n o2 md ad sd nx pw where
 eq:=e4 J.eq t_eq
 part:=e4 J.part t_part
 pdq:=e4 J.pdq t_pdq
 pis:=e3 J.pis t_pis
 rev:=e3 J.rev t_rev
 piv:=e3 J.piv t_piv
 brk:=e3 J.brk t_brk
 heap:=e3 J.heap t_heap
 ins:=e3 J.ins t_ins
 ord:=e4 J.ord t_ord
 med:=fun v0 v1 v2 v3 v4 v5 h Q x=>J.med v0 v1 v2 v3 v4 h Q (by rw [<- t_med (C:=C) (fL:=fL) v0 v1 v2 v3 v4 v5];exact x)
 adj:=e3 J.adj t_adj
 sift:=e4 J.sift t_sift
 next:=J.next
 pow:=J.pow
theorem Sort_spec {X:Type} {cs:X->List AVal} {v':X->AVal} {h0 h:za} {x:AVal} {G:List X} {R:List (List AVal)} {c:X->X->Int} {Q:zQ} {fl:Nat} (J:OrdI C E fL e p q s r v b k n ad md o2 sd nx pw) (hlen:LenI C fl) (S:zc0 E cs v') (W:Weak (zd9 c))
  (hc:Ord.zdm C v' c fL h0) (hl:G.length <= 100000000) (ho:Rw E cs h0 h x G R) (hq: ∀ h' G',G'.Perm G->G'.Pairwise (fun s t=> ¬ c t s<0)->Rw E cs h0 h' x G' R->Q (.tup []) h'):zhd.cps C E fl q x h Q:=by
 simp -dsimp only [zhd.cps,zhd.k1,ho.lenE,toUN (show G.length<18446744073709551616 by omega),B.zd]
 refine hlen _ _ _ hl fun r hr _=> ?_
 refine J.pdq _ _ _ _ _ _ ?_
 rw [<- t_pdq (C:=C) _ _ _ _ .nilf]
 refine Ord.pdq_spec J.toT S W hc _ 0 G.length r h G _ rfl (by omega) (Nat.le_refl _) hl (fun h=>by omega) ho fun h' G' w s o=>zbu ?_
 refine hq h' G' w.perm ?_ o
 rw [List.pairwise_iff_getElem]
 intro i j hi hj hij
 have:=w.len
 exact s i j (by omega) hij (by omega) hi hj
end
end Go.Ab
namespace Go.Ab
variable {C:CSem} {N:zN}
def lotE:zz:=opsF 6 56 [.int .i64 0,.str [],.int .i64 0,.int .i64 0,.int .i64 0,.bool false] 0 []
theorem lotS:zc0 lotE Lot.cs (fun l=> .agg l.cs):=seqF (by omega) (by omega) rfl fun _=>rfl
theorem zrf {E:zz} {X:Type} {cs:X->List AVal} {v:X->AVal} (S:zc0 E cs v) {x:AVal} {L:List X} {R:List (List AVal)} {h:za} {Q:zQ} (hx:SlX h E.es x (L.map cs) R) (hlen:L.length <= 100000000)
  (hq: ∀ x' h',Rw E cs h h' x' L []->Q x' h'):zke.cps C E x h Q:=by
 have cp:B.appW h E.es E.bytes .sz x (fun v7 h=>Q v7 h):=by
  have hm:=Nat.mul_le_mul hlen S.small
  refine Owns.appW ((Owns.start h).sz E.es) 0 rfl hx S.pos (by simp;omega) (by simp [maxLen];omega) fun x' h' h1 _=>hq x' h' ?_
  simpa [Rw] using h1
 rcases hx.2 with ⟨e1,e2,rfl|rfl⟩|⟨id,g,off,cp',b,hi,rfl,h3⟩
 ·simp -dsimp [V.eqSl]
  refine hq _ _ ?_
  unfold Rw
  rw [e1]
  exact (Owns.start h).nils E.es
 ·simp -dsimp [V.eqSl]
  exact cp
 ·simp -dsimp [V.eqSl]
  rw [List.length_map] at cp
  exact cp
end Go.Ab
namespace Go.Ab
variable {C:CSem} {N:zN}
theorem keepL {h h':za} {p x:AVal} {K:zQ} {v:AVal} (h1:A.ldv h p=some x) (h2:A.ldv h' p=some x) (hk:K v h'):B.zol h [(p,none)] K v h':=
 ⟨fun q hq=>by rw [List.mem_singleton.1 hq];exact ⟨x,h1,h2⟩,hk⟩
end Go.Ab
namespace Go.Ab
variable {C:CSem} {N:zN}
def PredSpec (C:CSem) (f:AVal) (p:Line->Bool) (h:za):Prop:= ∀ (l:Line) (h':za) (K:zQ),h.le h'->K (.bool (p l)) h'->B.zf1 h' C f [.agg l.cs] K
def idxOf (p:Line->Bool) (L:List Line):Int:=match L.findIdx? p with|some i=>(i:Int)|none=> -1
def zy.Spec (C:CSem) (N:zN):Prop:= ∀ (x f:AVal) (p:Line->Bool) (L:List Line) (R:List (List AVal)) (h:za) (Q:zQ),SlX h 8 x (L.map Line.cs) R->L.length <= 100000000->PredSpec C f p h ->
 Q (.int .i64 (idxOf p L)) h->C (N 206) [x,f] h Q
theorem zn0 {α:Type} {p:α->Bool} {L:List α} {k:Nat} (hk:k<L.length) (h: ∀ i,i<k-> ∀ a,L[i]? =some a->p a=false) (hp:p L[k]=true):L.findIdx? p=some k:=by
 rw [List.findIdx?_eq_some_iff_getElem]
 exact ⟨hk,hp,fun j hj=>by simp [h j hj _ (List.getElem?_eq_getElem (by omega))]⟩
theorem zy.spec (i:zy.Imp C N):zy.Spec C N:=by
 intro x f p L R h Q hx hlen hf hq
 refine i _ _ _ _ ?_
 have e1:=hx.zcw
 rw [List.length_map] at e1
 simp -dsimp only [zy.cps,zb3.cps,e1,B.zd]
 refine zw.intro (fun t vs hh=>hh=h /\ ∃ k:Nat,k+t=L.length /\ vs=[.int .i64 (k:Int)] /\ ∀ i,i<k-> ∀ a,L[i]? =some a->p a=false) L.length ?_ ⟨rfl,0,by omega,rfl,fun i hi=>by omega⟩
 rintro Y t vs h ⟨rfl,k,ht,rfl,hno⟩ hY
 simp -dsimp only [zb3.l2,zb3.k1,lssN,B.zd]
 refine B.zr (fun hb=> ?_) (fun hb=> ?_)<;>simp only [decide_eq_true_eq,decide_eq_false_iff_not] at hb
 ·have hg:(L.map Line.cs)[k]? =some (L[k]).cs:=by rw [List.getElem?_map,List.getElem?_eq_getElem hb];rfl
  have hidx:V.idxS 8 x (.int .i64 (k:Int))=some (elp 8 x k 0):=hx.idxN (by simpa using hb)
  simp -dsimp only [opsF,hidx,B.zd,B.ldn_eq,hx.elem hg]
  refine hf _ _ _ (za.le_refl _) ?_
  refine B.zr (fun hc=> ?_) (fun hc=> ?_)
  ·have:idxOf p L=(k:Int):=by rw [idxOf,zn0 hb hno hc]
   rw [this] at hq;exact zbu hq
  ·simp -dsimp only [add1 (show k<4611686018427387904 by omega),B.zd]
   refine hY (L.length-(k+1)) _ _ (by omega) ⟨rfl,k+1,by omega,rfl,fun i hi a ha=> ?_⟩
   by_cases e:i=k
   ·subst e;rw [List.getElem?_eq_getElem hb] at ha;cases ha;exact hc
   ·exact hno i (by omega) a ha
 ·have:idxOf p L= -1:=by
   have:L.findIdx? p=none:=by
    rw [List.findIdx?_eq_none_iff]
    intro a ha
    obtain ⟨j,hj,rfl⟩:=List.getElem_of_mem ha
    exact hno j (by omega) _ (List.getElem?_eq_getElem hj)
   rw [idxOf,this]
  rw [this] at hq;exact zbu hq
theorem Owns.cutTo {h0 h:za} {es:Nat} {x:AVal} {L R:List (List AVal)} (ho:Owns h0 h [.sl es x L R]) (hes:0<es) {k:Nat} (hk:k <= L.length): ∃ y,V.zh2 es x none (some (.int .i64 (k:Int)))=some y /\ Owns h0 h [.sl es y (L.take k) (L.drop k++R)]:=by
 obtain ⟨y,h1,h2,h3⟩:=(ho.slAt 0 rfl).slice hes (a:=none) (b:=some (.int .i64 (k:Int))) (lo:=0) (hi:=k) (.inl ⟨rfl,rfl⟩) (.inr ⟨_,rfl⟩) (by omega) (by omega)
 rw [List.drop_zero,List.take_append_of_le_length hk,List.drop_append_of_le_length hk] at h2
 refine ⟨y,h1,?_⟩
 have:=ho.turn (h':=h) 0 rfl (o':= .sl es y (L.take k) (L.drop k++R)) h2 (fun id b hf hb=>ho.ownAt 0 rfl id b (by rw [show Ob.foot (.sl es x L R)=foot x from rfl, <- h3];exact hf) hb) (fun _ _ h _=>h) (.inl (by rw [show Ob.foot (.sl es y _ _)=foot y from rfl,h3];rfl))
 simpa using this
end Go.Ab
namespace Go.Ab
variable {C:CSem} {N:zN}
section
variable {α:Type} [DecidableEq α]
def zeu:List α->List α
 | []=>[]
 | [a]=>[a]
 | a::b::r=>if a=b then zeu (b::r) else a::zeu (b::r)
theorem zne (a b:α): ∀ P:List α,zeu (P++[a,b])=if a=b then zeu (P++[a]) else zeu (P++[a])++[b]
 | []=>by simp only [List.nil_append,zeu];split<;>simp_all
 | [p]=>by
  simp only [List.cons_append,List.nil_append,zeu]
  split<;>split<;>simp_all
 | p::q::P=>by
  have ih:=zne a b (q::P)
  simp only [List.cons_append] at ih ⊢
  simp only [zeu]
  rw [ih]
  split<;>split<;>simp_all
theorem znd {L:List α} {k:Nat} (h1:0<k) (h2:k<L.length):zeu (L.take (k+1))=if L[k]=L[k-1] then zeu (L.take k) else zeu (L.take k)++[L[k]]:=by
 have e1:L.take (k+1)=L.take k++[L[k]]:=by rw [List.take_add_one,List.getElem?_eq_getElem h2];rfl
 have e2:L.take k=L.take (k-1)++[L[k-1]]:=by
  conv=>lhs;rw [show k=(k-1)+1 by omega]
  rw [List.take_add_one,List.getElem?_eq_getElem (by omega)];rfl
 have:=zne L[k-1] L[k] (L.take (k-1))
 rw [e1,e2,List.append_assoc]
 simp only [List.cons_append,List.nil_append]
 rw [this]
 simp only [eq_comm]
theorem zog: ∀ L:List α,(zeu L).length <= L.length
 | []=>Nat.le_refl _
 | [a]=>Nat.le_refl _
 | a::b::r=>by
  have:=zog (b::r)
  simp only [zeu]
  split<;>simp_all<;>omega
theorem compactG_spec {bytes f:Nat} {z:AVal} {v:α->AVal} (hb:bytes <= 1000) (hv: ∀ t,(v t).zdd=true) (heq: ∀ a b,V.bin .eql (v a) (v b)=some (.bool (decide (a=b)))) (hne': ∀ a b,V.bin .neq (v a) (v b)=some (.bool (!decide (a=b))))
  {h0 h:za} {x:AVal} {L:List α} {R:List (List AVal)} {Q:zQ} (ho:Owns h0 h [.sl 1 x (L.map fun a=>[v a]) R]) (hlen:L.length <= 100000000) (hq: ∀ y h' R',Owns h0 h' [.sl 1 y ((zeu L).map fun a=>[v a]) R']->Q y h'):zcl.cps C (opsS bytes z f) x h Q:=by
 have S:zc0 (opsS bytes z f) (fun a:α=>[v a]) v:=seqS hb hv
 have o:Rw (opsS bytes z f) (fun a:α=>[v a]) h0 h x L R:=ho
 have l2:V.bin .lss (.int .i64 (L.length:Int)) (.int .i64 2)=some (.bool (decide (L.length<2))):=lssN (b:=2)
 simp -dsimp only [zcl.cps,zcl.k5,o.lenE,l2,B.zd]
 refine B.zr (fun hd=> ?_) (fun hd=> ?_)
 ·rw [decide_eq_true_eq] at hd
  have:zeu L=L:=by
   match L,hd with
   | [],_=>rfl
   | [a],_=>rfl
  exact hq x h R (by rw [this];exact ho)
 rw [decide_eq_false_iff_not] at hd
 refine zw.intro (fun t vs hh=>hh=h /\ ∃ k:Nat,k+t=L.length /\ vs=[.int .i64 (k:Int)] /\ 0<k /\ zeu (L.take k)=L.take k) (L.length-1) ?_ ⟨rfl,1,by omega,rfl,by omega,?_⟩
 rotate_left
 ·cases L with
  | nil=>rfl
  | cons a r=>rfl
 rintro Y t vs hh ⟨rfl,k,hkt,rfl,hk0,hck⟩ hY
 simp -dsimp only [zcl.l4,o.lenE,lssN,B.zd]
 refine B.zr (fun hk=> ?_) (fun hk=> ?_)
 rotate_left
 ·rw [decide_eq_false_iff_not] at hk
  have:k=L.length:=by omega
  rw [this,List.take_length] at hck
  exact hq x hh R (by rw [hck];exact ho)
 rw [decide_eq_true_eq] at hk
 have e1:V.bin .sub (.int .i64 (k:Int)) (.int .i64 1)=some (.int .i64 ((k-1:Nat):Int)):=zfq (b:=1) (by omega) (by omega)
 have ik:=o.idx hk
 have ik1:=o.idx (show k-1<L.length by omega)
 simp -dsimp only [zcl.k3,ik,B.zd]
 refine o.ld S (List.getElem?_eq_getElem hk) ?_
 simp -dsimp only [e1,ik1,B.zd]
 refine o.ld S (List.getElem?_eq_getElem (show k-1<L.length by omega)) ?_
 simp -dsimp only [heq,B.zd]
 have hct:=znd hk0 hk
 refine B.zr (fun he=> ?_) (fun he=> ?_)
 rotate_left
 ·rw [decide_eq_false_iff_not] at he
  rw [if_neg he,hck] at hct
  simp -dsimp only [add1 (show k<4611686018427387904 by omega),B.zd]
  refine hY (t-1) _ _ (by omega) ⟨rfl,k+1,by omega,rfl,by omega,?_⟩
  rw [hct,List.take_add_one,List.getElem?_eq_getElem hk];rfl
 rw [decide_eq_true_eq] at he
 rw [if_pos he,hck] at hct
 have cut: ∀ {h':za} {G:List α} {R':List (List AVal)},Rw (opsS bytes z f) (fun a=>[v a]) h0 h' x G R'->G.length=L.length-> ∃ y R2,V.zh2 1 x (some (.int .i64 (k:Int))) none=some y /\ SlX h' 1 y ((G.drop k).map (fun a=>[v a])) R2:=fun {h' G R'} o' hG=>by
  obtain ⟨y,R2,h1,h2,_⟩:=(Owns.slAt o' 0 rfl).sliceIn (Nat.one_pos) (a:=some (.int .i64 (k:Int))) (b:=none) (lo:=k) (hi:=G.length) (.inr ⟨_,rfl⟩) (.inl ⟨rfl,rfl⟩) (by omega) (Nat.le_refl _)
  rw [List.take_length] at h2
  exact ⟨y,R2,h1,h2⟩
 obtain ⟨s2,_,hs2,_⟩:=cut o rfl
 have cut2: ∀ {h':za} {G:List α},Rw (opsS bytes z f) (fun a=>[v a]) h0 h' x G R->G.length=L.length-> ∃ R2,SlX h' 1 s2 ((G.drop k).map (fun a=>[v a])) R2:=fun {h' G} o' hG=>by
  obtain ⟨y,R2,e1,e2⟩:=cut o' hG
  rw [hs2] at e1
  cases e1
  exact ⟨R2,e2⟩
 have hs2':V.zh2 (opsS bytes z f).es x (some (.int .i64 (k:Int))) none=some s2:=hs2
 simp -dsimp only [hs2',B.zd]
 refine zw.intro (fun t vs h2=> ∃ (i j:Nat) (G:List α),k+j+t=L.length /\ vs=[.int .i64 (i:Int),.int .i64 (j:Int)] /\ k <= i /\ i+1 <= k+j /\ 0<j /\ G.length=L.length /\ G.take i=zeu (L.take (k+j)) /\ (∀ q,k+j <= q+1->G[q]? =L[q]?) /\ Rw (opsS bytes z f) (fun a=>[v a]) h0 h2 x G R) (L.length-(k+1)) ?_
  ⟨k,1,L,by omega,rfl,Nat.le_refl _,Nat.le_refl _,Nat.one_pos,rfl,hct.symm,fun _ _=>rfl,o⟩
 rintro Z t2 vs h2 ⟨i,j,G,hjt,rfl,hki,hij,hj0,hGl,hGt,hGq,o2⟩ hZ
 obtain ⟨R2,x2⟩:=cut2 o2 hGl
 have ln2:V.zcw s2=some (.int .i64 ((L.length-k:Nat):Int)):=by have:=x2.zcw;simpa [hGl] using this
 simp -dsimp only [zcl.l2,zcl.k1,ln2,lssN,B.zd]
 refine B.zr (fun hlt=> ?_) (fun hlt=> ?_)
 ·rw [decide_eq_true_eq] at hlt
  have dl: ∀ q,q<L.length-k->(G.drop k)[q]? =G[k+q]? :=fun q _=>by rw [List.getElem?_drop]
  have lj:j<((G.drop k).map (fun a=>[v a])).length:=by simp;omega
  have lj1:j-1<((G.drop k).map (fun a=>[v a])).length:=by simp;omega
  have gj:((G.drop k).map (fun a=>[v a]))[j]? =some ((fun a=>[v a]) L[k+j]):=by
   rw [List.getElem?_map,dl j hlt,hGq (k+j) (by omega),List.getElem?_eq_getElem (by omega)];rfl
  have gj1:((G.drop k).map (fun a=>[v a]))[j-1]? =some ((fun a=>[v a]) L[k+j-1]):=by
   rw [List.getElem?_map,dl (j-1) (by omega),show k+(j-1)=k+j-1 by omega,hGq (k+j-1) (by omega),List.getElem?_eq_getElem (by omega)];rfl
  have ij:V.idxS (opsS bytes z f).es s2 (.int .i64 (j:Int))=some (elp 1 s2 j 0):=x2.idxN lj
  have ij1:V.idxS (opsS bytes z f).es s2 (.int .i64 ((j-1:Nat):Int))=some (elp 1 s2 (j-1) 0):=x2.idxN lj1
  have e2:V.bin .sub (.int .i64 (j:Int)) (.int .i64 1)=some (.int .i64 ((j-1:Nat):Int)):=zfq (b:=1) (by omega) (by omega)
  simp -dsimp only [ij,B.zd]
  refine S.ld x2 gj ?_
  simp -dsimp only [e2,ij1,B.zd]
  refine S.ld x2 gj1 ?_
  simp -dsimp only [hne',B.zd]
  have hst:=znd (L:=L) (k:=k+j) (by omega) (by omega)
  refine B.zr (fun hne=> ?_) (fun hne=> ?_)
  ·have hne:L[k+j]≠L[k+j-1]:=by simpa using hne
   rw [if_neg hne] at hst
   simp -dsimp only [ij,B.zd]
   refine S.ld x2 gj ?_
   simp -dsimp only [o2.idx (show i<G.length by omega),B.zd]
   refine o2.st S (t:=L[k+j]) (by omega) fun h3 o3=> ?_
   simp -dsimp only [add1 (show i<4611686018427387904 by omega),add1 (show j<4611686018427387904 by omega),B.zd]
   refine hZ (t2-1) _ _ (by omega) ⟨i+1,j+1,_,by omega,rfl,by omega,by omega,by omega,by simpa using hGl,?_,fun q hq'=> ?_,o3⟩
   ·rw [<- Nat.add_assoc,hst, <- hGt,List.take_add_one]
    rw [List.getElem?_set_self (by omega),List.take_set_of_le (Nat.le_refl _)];rfl
   ·rw [List.getElem?_set_ne (by omega)];exact hGq q (by omega)
  ·have hne:L[k+j]=L[k+j-1]:=by simpa using hne
   rw [if_pos hne] at hst
   simp -dsimp only [add1 (show j<4611686018427387904 by omega),B.zd]
   exact hZ (t2-1) _ _ (by omega) ⟨i,j+1,G,by omega,rfl,hki,by omega,by omega,hGl,by rw [<- Nat.add_assoc,hst];exact hGt,fun q hq'=>hGq q (by omega),o2⟩
 ·rw [decide_eq_false_iff_not] at hlt
  have:k+j=L.length:=by omega
  rw [this,List.take_length] at hGt
  obtain ⟨y,y1,y2⟩:=Owns.clrTail (z:=[z]) (lo:=i) (K:=fun v h=>B.pv (V.zh2 1 x none (some (.int .i64 (i:Int)))) fun v59=>Q v59 h) o2 0 rfl rfl (by simp;omega) fun h3 o3 _=>by
   have o3:Owns h0 h3 [.sl 1 x ((G.map (fun a=>[v a])).take i++List.replicate ((G.map (fun a=>[v a])).length-i) [z]) R]:=o3
   obtain ⟨z',z1,z2⟩:=o3.cutTo Nat.one_pos (k:=i) (by simp;omega)
   simp -dsimp only [z1,B.zd]
   have e3:((G.map (fun a=>[v a])).take i++List.replicate ((G.map (fun a=>[v a])).length-i) [z]).take i=(zeu L).map (fun a=>[v a]):=by
    rw [List.take_append_of_le_length (by simp;omega),List.take_take,Nat.min_self, <- List.map_take,hGt]
   rw [e3] at z2
   exact hq z' h3 _ z2
  have y1':V.zh2 (opsS bytes z f).es x (some (.int .i64 (i:Int))) none=some y:=y1
  simp -dsimp only [y1',B.zd]
  exact y2
end
end Go.Ab
namespace Go.Ab
variable {C:CSem} {N:zN}
theorem V.bin_slss (a b:List UInt8):V.bin .lss (.str a) (.str b)=some (.bool (zfu a b)):=rfl
theorem weakB:Weak (zd9 cmpB):=by
 constructor<;>simp only [zd9,decide_eq_true_eq,decide_eq_false_iff_not,zng]
 ·intro a b h;rw [zle h];simp
 ·intro a b c h1 h2 h3
  have h1:zfu a b=false:=by simpa using h1
  have h2:zfu b c=false:=by simpa using h2
  by_cases e:a=b
  ·subst e;rw [h2] at h3;cases h3
  ·have:=zic (zjo h1 e) h3
   rw [h2] at this;cases this
def zdh.Spec (C:CSem) (N:zN):Prop:= ∀ (a:List UInt8) (h:za) (Q:zQ),Q (.bool false) h->C (N 389) [.str a] h Q
theorem zdh.spec (i:zdh.Imp C N):zdh.Spec C N:=by
 intro a h Q hq
 apply i
 simp -dsimp
 exact zbu hq
def zdj.Spec (C:CSem) (N:zN):Prop:= ∀ (a b:List UInt8) (h:za) (Q:zQ),Q (.bool (zfu a b)) h->C (N 377) [.str a,.str b] h Q
theorem zdj.spec (i:zdj.Imp C N) (s1:zdh.Spec C N):zdj.Spec C N:=by
 intro a b h Q hq
 apply i
 simp -dsimp
 refine s1 _ _ _ ?_
 simp -dsimp [V.bin_slss]
 exact zbu hq
def SortedB (L:List (List UInt8)):Prop:=L.Pairwise fun s t=>zfu t s=false
def zbp.Spec (C:CSem) (N:zN):Prop:= ∀ (h0 h:za) (x:AVal) (L:List (List UInt8)) (R:List (List AVal)) (Q:zQ),Owns h0 h [.sl 1 x (L.map tc) R]->L.length <= 100000000 ->
 (∀ h' (L':List (List UInt8)),L'.Perm L->SortedB L'->Owns h0 h' [.sl 1 x (L'.map tc) R]->Q (.tup []) h')->C (N 364) [x] h Q
theorem seqT:zc0 (opsS 16 (.str []) 0) tc (fun a:List UInt8=>AVal.str a):=seqS (by omega) fun _=>rfl
theorem zbp.spec (i:zbp.Imp C N) (j1:zbz.Imp C N) (j2:zco.Imp C N) (j3:zcy.Imp C N) (j4:zbq.Imp C N)
  (j5:zcc.Imp C N) (j6:zch.Imp C N) (j7:zb8.Imp C N) (j8:zct.Imp C N) (j9:zb6.Imp C N) (k1:zb1.Imp C N)
  (k2:zc4.Imp C N) (k3:zc2.Imp C N) (k4:zcr.Imp C N) (k5:NextI C (N 298)) (k6:PowI C (N 299)) (hl:LenI C (N 287)) (s1:zdj.Spec C N):zbp.Spec C N:=by
 intro h0 h x L R Q ho hlen hq
 have J:OrdI C (opsS 16 (.str []) 0) (N 377) (N 378) (N 379) (N 375) (N 380) (N 381) (N 382) (N 383) (N 384) (N 385) (N 387) (N 388) (N 390) (N 386) (N 298) (N 299):=⟨j1,j2,j3,j4,j5,j6,j7,j8,j9,k1,k2,k3,k4,k5,k6⟩
 have hc:Ord.zdm C (fun a:List UInt8=>AVal.str a) cmpB (N 377) h0:=⟨fun h' a b K _ hk=>s1 _ _ _ _ (by
  rw [show zfu a b=decide (cmpB a b<0) by rw [Bool.eq_iff_iff,decide_eq_true_eq];exact zng.symm];exact hk)⟩
 refine i _ _ _ (Sort_spec J hl seqT weakB hc hlen (show Rw _ _ _ _ _ _ _ from ho) fun h' G' hp hs o'=>zbu (hq h' G' hp (hs.imp fun {a b} hab=> ?_) o'))
 rw [zng] at hab
 simpa using hab
def zbi.Spec (C:CSem) (N:zN):Prop:= ∀ (h0 h:za) (x:AVal) (L:List (List UInt8)) (R:List (List AVal)) (Q:zQ),Owns h0 h [.sl 1 x (L.map tc) R]->L.length <= 100000000 ->
 (∀ y h' R',Owns h0 h' [.sl 1 y ((zeu L).map tc) R']->Q y h')->C (N 365) [x] h Q
theorem zbi.spec (i:zbi.Imp C N):zbi.Spec C N:=fun h0 h x L R Q ho hlen hq=>
 i x h Q (compactG_spec (v:=fun a:List UInt8=>AVal.str a) (by omega) (fun _=>rfl) V.bin_seql V.bin_sneq ho hlen fun y h' R' o=>zbu (hq y h' R' o))
theorem repL_one: ∀ (n:Nat) (v:AVal),repL n [v]=List.replicate n v
 | 0,_=>rfl
 | n+1,v=>(congrArg (v:: ·) (repL_one n v)).trans rfl
def zbx.Spec (C:CSem) (N:zN):Prop:= ∀ (n:Nat) (h:za) (Q:zQ),n <= 100000000->(∀ x h' R,Owns h h' [.sl 1 x [] R]->Q x h')->C (N 376) [.nils,.int .i64 (n:Int)] h Q
theorem zbx.spec (i:zbx.Imp C N):zbx.Spec C N:=by
 intro n h Q hn hq
 apply i
 have e0:V.bin .lss (.int .i64 (n:Int)) (.int .i64 0)=some (.bool (decide (n<0))):=lssN (b:=0)
 have e1:V.bin .sub (.int .i64 0) (.int .i64 0)=some (.int .i64 0):=rfl
 have e2:V.bin .sub (.int .i64 (n:Int)) (.int .i64 0)=some (.int .i64 (n:Int)):=zfq (b:=0) (by omega) (by omega)
 simp -dsimp only [zbx.cps,zge.cps,zge.k1,e0,e1,e2,V.capSl,V.zcw,V.zmq,B.zd,Nat.not_lt_zero,decide_false,B.cond_false]
 refine B.zr (fun hb=> ?_) (fun hb=> ?_)
 ·have hb:0<n:=by simpa using hb
  have e3:V.zh2 (opsS 16 (.str []) 0).es .nils none (some (.int .i64 0))=some .nils:=rfl
  have ec:V.capSl .nils=some (.int .i64 0):=rfl
  have el:V.zcw .nils=some (.int .i64 0):=rfl
  simp -dsimp only [ec,e3,B.zd]
  refine ⟨⟨rfl,by omega,by simp [opsS];omega,by simp [maxLen];omega⟩,fun id hid=> ?_⟩
  have hr:repL (n:Int).toNat (opsS 16 (.str []) 0).z=List.replicate n (.str []):=by rw [Int.toNat_natCast];exact repL_one n _
  rw [hr]
  have o:=(Owns.start h).zqk (id:=id) (n:=n) (cp:=n) (es:=1) (cs:=List.replicate n (.str [])) (L:=List.replicate n [.str []]) (R:=[]) hid (by simp) (by simp) (by simp) (by simp)
  obtain ⟨y,e4,e5⟩:=Owns.cutTo (x:= .sl id 0 0 n 1 n) o Nat.one_pos (k:=0) (by omega)
  rw [Int.toNat_natCast]
  simp -dsimp only [el,B.zd]
  have e4':V.zh2 (opsS 16 (.str []) 0).es (.sl id 0 0 n (opsS 16 (.str []) 0).es n) none (some (.int .i64 0))=some y:=e4
  simp -dsimp only [e4',B.zd]
  exact zbu (hq y _ _ e5)
 ·exact zbu (hq _ _ _ ((Owns.start h).nils 1))
theorem zo4 {α:Type} {L:List (List α)} {k:Nat} (hk:k<L.length):((L.take (k+1)).flatten).length=(L.take k).flatten.length+L[k].length:=by
 rw [List.take_add_one,List.getElem?_eq_getElem hk];simp only [Option.toList_some,List.flatten_append,List.length_append,List.flatten_singleton]
theorem sumLen_le {α:Type} (L:List (List α)) (k:Nat):((L.take k).flatten).length <= L.flatten.length:=by
 conv=>rhs;rw [<- List.take_append_drop k L]
 simp only [List.flatten_append,List.length_append];omega
def zl.Spec (C:CSem) (N:zN):Prop:= ∀ (x:AVal) (xs:List AVal) (L:List (List (List UInt8))) (R:List (List AVal)) (h:za) (Q:zQ),SlX h 1 x (xs.map fun y=>[y]) R->xs.length=L.length->(∀ (i:Nat) (y:AVal) (l:List (List UInt8)),xs[i]? =some y->L[i]? =some l-> ∃ R,SlX h 1 y (l.map tc) R)->L.length <= 1000->L.flatten.length <= 100000000 ->
 (∀ x' h' R',Owns h h' [.sl 1 x' (L.flatten.map tc) R']->Q x' h')->C (N 373) [x] h Q
theorem zl.spec (i:zl.Imp C N) (s1:zbx.Spec C N):zl.Spec C N:=by
 intro x xs L R h Q hx hxl hin hl1 hl2 hq
 apply i
 have hlen:=hx.zcw
 rw [List.length_map,hxl] at hlen
 simp -dsimp only [zl.cps,hlen,B.zd]
 have cell: ∀ {hh:za} (hle:h.le hh) {k:Nat} (hk:k<L.length) {K:AVal->Prop},(∀ y R2,SlX hh 1 y (L[k].map tc) R2->K y)->B.pv (V.idxS 1 x (.int .i64 (k:Int))) (fun v=>B.ld hh v K):=fun {hh} hle {k} hk {K} hK=>by
  have hg:(xs.map fun y=>[y])[k]? =some [xs[k]'(by omega)]:=by rw [List.getElem?_map,List.getElem?_eq_getElem (by omega)];rfl
  have hidx:V.idxS 1 x (.int .i64 (k:Int))=some (elp 1 x k 0):=hx.idxN (by simp;omega)
  rw [hidx,B.zd]
  rw [B.ze4,(hx.mono hle).cell hg,B.zd]
  obtain ⟨R2,h2⟩:=hin k _ _ (List.getElem?_eq_getElem (by omega)) (List.getElem?_eq_getElem hk)
  exact hK _ _ (h2.mono hle)
 refine zw.intro (fun t vs hh=>hh=h /\ ∃ k:Nat,k+t=L.length /\ vs=[.int .i64 ((L.take k).flatten.length:Int),.int .i64 (k:Int)]) L.length ?_ ⟨rfl,0,by omega,rfl⟩
 rintro Y t vs hh ⟨rfl,k,ht,rfl⟩ hY
 simp -dsimp only [zl.l4,zl.k3,lssN,B.zd]
 refine B.zr (fun hb=> ?_) (fun hb=> ?_)
 ·rw [decide_eq_true_eq] at hb
  have hs:=zo4 hb
  have hle:=sumLen_le L (k+1)
  refine cell (za.le_refl _) hb fun y R2 hy=> ?_
  have e1:=hy.zcw
  rw [List.length_map] at e1
  have e2:V.bin .lss (.int .i64 (((L.take k).flatten.length+L[k].length:Nat):Int)) (.int .i64 0)=some (.bool false):=by
   exact (lssN (b:=0)).trans (by simp)
  simp -dsimp only [e1,zh3 (a:=(L.take k).flatten.length) (b:=L[k].length) (by omega),e2,B.zd,B.cond_false,add1 (show k<4611686018427387904 by omega)]
  exact hY (t-1) _ _ (by omega) ⟨rfl,k+1,by omega,by rw [hs]⟩
 ·rw [decide_eq_false_iff_not] at hb
  have hk:k=L.length:=by omega
  subst hk
  rw [List.take_length]
  refine s1 _ _ _ hl2 fun y0 h1 R1 o1=> ?_
  simp -dsimp only [hlen,B.zd]
  refine zw.intro (fun t vs h2=> ∃ (k:Nat) (y:AVal) (R2:List (List AVal)),k+t=L.length /\ vs=[y,.int .i64 (k:Int)] /\ Owns hh h2 [.sl 1 y ((L.take k).flatten.map tc) R2]) L.length ?_ ⟨0,y0,R1,by omega,rfl,o1⟩
  rintro Z t2 vs h2 ⟨k,y,R2,ht2,rfl,o2⟩ hZ
  simp -dsimp only [zl.l2,zl.k1,lssN,B.zd]
  refine B.zr (fun hc=> ?_) (fun hc=> ?_)
  ·rw [decide_eq_true_eq] at hc
   have hs:=zo4 hc
   have hle:=sumLen_le L (k+1)
   refine cell o2.le hc fun z R3 hz=> ?_
   refine o2.appW 0 rfl hz Nat.one_pos (by simp only [List.length_map];omega) (by simp only [List.length_map,maxLen];omega) fun x' h' o3 _=> ?_
   simp -dsimp only [add1 (show k<4611686018427387904 by omega),B.zd]
   refine hZ (t2-1) _ _ (by omega) ⟨k+1,x',[],by omega,rfl,?_⟩
   rw [List.take_add_one,List.getElem?_eq_getElem hc,Option.toList_some,List.flatten_append,List.flatten_singleton,List.map_append]
   exact o3
  ·rw [decide_eq_false_iff_not] at hc
   have hk:k=L.length:=by omega
   subst hk
   rw [List.take_length] at o2
   exact zbu (hq _ _ _ o2)
end Go.Ab
namespace Go.Ab
variable {C:CSem} {N:zN}
theorem zp5 {h:za} {x:AVal} {L:List Itm} (hx:Dl ze5 h x L) {i:Nat} {r:Itm} (hr:L[i]? =some r): ∃ p o,V.idxS 4 x (.int .i64 (i:Int))=some (elp 4 x i 0) /\ A.ldnv h (elp 4 x i 0) 4=some (.agg (iCells r (p,o))) /\ V.fieldAddr 0 (elp 4 x i 0)=some (elp 4 x i 0) /\
  V.fieldAddr 2 (elp 4 x i 0)=some (elp 4 x i 2) /\ V.fieldAddr 3 (elp 4 x i 0)=some (elp 4 x i 3) /\ A.ldv h (elp 4 x i 0)=some (.str r.Code) /\ A.ldv h (elp 4 x i 2)=some p /\ A.ldv h (elp 4 x i 3)=some o /\ ze5.at_ h r (p,o):=by
 obtain ⟨a,ea⟩:=hx.get hr
 exact ⟨a.1,a.2,ea.idx,ea.ldn,ea.fld 0 0,ea.fld 0 2,ea.fld 0 3,ea.ld 0 (by decide),ea.ld 2 (by decide),ea.ld 3 (by decide),ea.at_⟩
end Go.Ab
set_option maxRecDepth 100000
namespace Go.Ab
variable {C:CSem} {N:zN}
structure BagK where
 es:Nat->Nat
 lim:Nat->Nat
 full:Nat->Bool
abbrev LK:=List (AVal×List (List AVal))
theorem LK.fills (l:LK):fills l.length (fun j=>[(l.getD j (.nils,[])).1])=l.map fun q=>[q.1]:=by
 apply List.ext_getElem?
 intro j
 by_cases hj:j<l.length
 ·rw [fills_get _ hj,List.getElem?_map,List.getElem?_eq_getElem hj];simp [hj]
 ·rw [List.getElem?_eq_none (by simp;omega),List.getElem?_eq_none (by simp;omega)]
section
variable {b:BagK} {h0 h:za} {id:Nat} {L:Nat->LK} {xs:Nat->AVal} {Q:zQ}
end
end Go.Ab
set_option maxRecDepth 100000
namespace Go.Ab
variable {C:CSem} {N:zN}
def two {α:Type} (a b:α):Nat->α:=fun j=>if j=0 then a else b
end Go.Ab
set_option maxRecDepth 100000
namespace Go.Ab
variable {C:CSem} {N:zN}
theorem litO {h:za} {es n:Nat} {cs:List AVal} (L:List (List AVal)) {K:Nat->za->Prop} (hc:cs=L.flatten) (hL: ∀ p∈L,p.length=es) (hn:n=L.length) (hK: ∀ i h',Owns h h' [.sl es (.sl i 0 0 n es n) L []]->K i h'):B.newO h (some cs) K:=
 fun i hi=>hK i _ ((Owns.start h).zqk hi (by simpa using hL) hn (by simp;omega) (by simpa using hc))
end Go.Ab
namespace Go.Ab
def zql:DK Itm (AVal×AVal) where
 n:=4
 bytes:=72
 z:=[.str [],.int .i64 0,.nils,.nils]
 pos:=by omega
 small:=by omega
 zlen:=rfl
 cells t a:=[.str t.Code,.int .i64 t.Life,a.1,a.2]
 len _ _:=rfl
 at_ h t a:=(∃ R,SlX h 2 a.1 (t.zeg.map Part.cs) R) /\ (∃ R,SlX h 1 a.2 (t.zd2.map tc) R)
 mono hle ha:=⟨ha.1.imp fun _ r=>r.mono hle,ha.2.imp fun _ r=>r.mono hle⟩
 ok _:=True
 at_ok _:=trivial
 obs b t a:=[partsOb b a.1 t.zeg,textsOb b a.2 t.zd2]
 ofObs {b h t a} _ ha:=⟨⟨_,show SlX h 2 a.1 (t.zeg.map Part.cs) (bif b then zp1 else []) from ha (partsOb b a.1 t.zeg) (by simp)⟩,⟨_,show SlX h 1 a.2 (t.zd2.map tc) (bif b then zp0 else []) from ha (textsOb b a.2 t.zd2) (by simp)⟩⟩
theorem itemW_K {h:za} {x:AVal} {L:List Itm} (hx:Dl zql h x L) (hok: ∀ t∈L,t.ok):Dl ze5 h x L:=by
 obtain ⟨P,R,rfl,s,ha⟩:=hx
 exact ⟨P,R,rfl,s,fun p hp=>⟨(ha p hp).1,(ha p hp).2,hok p.1 (List.mem_map_of_mem hp)⟩⟩
def Itm.inLen (t:Itm):Prop:=t.Code.length<4611686018427387904 /\ (∀ p∈t.zeg,p.Item.length<4611686018427387904) /\ (∀ o∈t.zd2,o.length<4611686018427387904) /\ t.zeg.length<100000000000000000 /\ t.zd2.length<100000000000000000
abbrev tyItem:Ty:= .st [.s,.i .i64,.sl 24 2 tyPart,.sl 16 1 .s]
theorem absSl1 {H:za} {b e:Nat} {t:Ty} {c:List AVal} (h:zh4 H (.sl b e t) c): ∃ v,c=[v]:=by
 rcases h with h|h|⟨_,_,h,_⟩<;>exact ⟨_,h⟩
theorem dPartL {H:za} {p:List AVal} (h:zh4 H tyPart p): ∃ w:Part,p=w.cs /\ w.Item.length<4611686018427387904:=by
 obtain ⟨a,r,rfl,⟨n1,rfl,q1⟩,⟨b,r2,rfl,⟨n2,rfl,_⟩,hr⟩⟩:=h
 cases hr
 exact ⟨⟨n1,n2⟩,rfl,by unfold reach at q1;show n1.length<_;omega⟩
theorem dPartsL {H:za} {v:AVal} (h:zh4 H (.sl 24 2 tyPart) [v]): ∃ L:List Part,SlIs H 2 v (L.map Part.cs) /\ L.length<100000000000000000 /\ ∀ l∈L,l.Item.length<4611686018427387904:=by
 obtain ⟨L,h1,h2,h3⟩:=zrk Part.cs (fun l=>l.Item.length<4611686018427387904) (fun p hp=>dPartL hp) h
 exact ⟨L,h1,by unfold reach at h2;omega,h3⟩
theorem dTextW {H:za} {p:List AVal} (h:zh4 H .s p): ∃ s:List UInt8,p=tc s /\ s.length<4611686018427387904:=by
 obtain ⟨s,rfl,q⟩:=h
 exact ⟨s,rfl,by unfold reach at q;omega⟩
theorem dTextsL {H:za} {v:AVal} (h:zh4 H (.sl 16 1 .s) [v]): ∃ L:List (List UInt8),SlIs H 1 v (L.map tc) /\ L.length<100000000000000000 /\ ∀ s∈L,s.length<4611686018427387904:=by
 obtain ⟨L,h1,h2,h3⟩:=zrk tc (fun s=>s.length<4611686018427387904) (fun p hp=>dTextW hp) h
 exact ⟨L,h1,by unfold reach at h2;omega,h3⟩
theorem dItem {H:za} {p:List AVal} (h:zh4 H tyItem p): ∃ (t:Itm) (a:AVal×AVal),p=zql.cells t a /\ zql.at_ H t a /\ t.inLen:=by
 obtain ⟨a,r,rfl,⟨n1,rfl,q1⟩,⟨b,r2,rfl,⟨n2,rfl,_⟩,⟨c,r3,rfl,h3,⟨d,r4,rfl,h4,hr⟩⟩⟩⟩:=h
 cases hr
 obtain ⟨v,rfl⟩:=absSl1 h3
 obtain ⟨w,rfl⟩:=absSl1 h4
 obtain ⟨P,k1,k2,k3⟩:=dPartsL h3
 obtain ⟨O,g1,g2,g3⟩:=dTextsL h4
 exact ⟨⟨n1,n2,P,O⟩,(v,w),rfl,⟨⟨[],k1⟩,⟨[],g1⟩⟩,by unfold reach at q1;show n1.length<_;omega,k3,g3,k2,g2⟩
theorem arg_sliceDP {T Ad:Type} {K:DK T Ad} {Pr:T->Prop} {H:za} {bytes:Nat} {e:Ty} {v:AVal} (hd: ∀ p,zh4 H e p-> ∃ (t:T) (a:Ad),p=K.cells t a /\ K.at_ H t a /\ Pr t) (h:zh4 H (.sl bytes K.n e) [v]): ∃ L:List T,Dl K H v L /\ L.length*bytes <= reach /\ ∀ t∈L,Pr t:=by
 obtain ⟨G,h1,h2⟩:=arg_slice (T:={ p:T×Ad // K.at_ H p.1 p.2 /\ Pr p.1 }) (fun p=>K.cells p.1.1 p.1.2) (fun p hp=>by obtain ⟨t,a,e,k⟩:=hd p hp;exact ⟨⟨(t,a),k⟩,e⟩) h
 refine ⟨(G.map (·.1)).map (·.1),⟨G.map (·.1),[],rfl,?_,fun p hp=> ?_⟩,by simpa using h2,fun t ht=> ?_⟩
 ·rw [List.map_map];exact h1
 ·obtain ⟨q,_,rfl⟩:=List.mem_map.1 hp;exact q.2.1
 ·obtain ⟨q,hq,rfl⟩:=List.mem_map.1 ht
  obtain ⟨q',_,rfl⟩:=List.mem_map.1 hq
  exact q'.2.2
theorem dItems {H:za} {v:AVal} (h:zh4 H (.sl 72 4 tyItem) [v]): ∃ L:List Itm,Dl zql H v L /\ L.length<4611686018427387904 /\ ∀ t∈L,t.inLen:=by
 obtain ⟨L,h1,h2,h3⟩:=arg_sliceDP (K:=zql) (fun p hp=>dItem hp) h
 exact ⟨L,h1,by unfold reach at h2;omega,h3⟩
end Go.Ab
set_option maxRecDepth 100000
namespace Go.Ab
variable {C:CSem} {N:zN}
theorem itm_getW {h:za} {x:AVal} {L:List Itm} (hx:Dl zql h x L) {i:Nat} {r:Itm} (hr:L[i]? =some r): ∃ p o,V.idxS 4 x (.int .i64 (i:Int))=some (elp 4 x i 0) /\ V.fieldAddr 0 (elp 4 x i 0)=some (elp 4 x i 0) /\
  V.fieldAddr 2 (elp 4 x i 0)=some (elp 4 x i 2) /\ V.fieldAddr 3 (elp 4 x i 0)=some (elp 4 x i 3) /\ A.ldv h (elp 4 x i 0)=some (.str r.Code) /\ A.ldv h (elp 4 x i 2)=some p /\ A.ldv h (elp 4 x i 3)=some o /\
  (∃ R,SlX h 2 p (r.zeg.map Part.cs) R) /\ V.zcw p=some (.int .i64 (r.zeg.length:Int)) /\ (∃ R,SlX h 1 o (r.zd2.map tc) R) /\ V.zcw o=some (.int .i64 (r.zd2.length:Int)):=by
 obtain ⟨a,ea⟩:=hx.get hr
 obtain ⟨⟨R1,a1⟩,⟨R2,a2⟩⟩:(∃ R,SlX h 2 a.1 (r.zeg.map Part.cs) R) /\ (∃ R,SlX h 1 a.2 (r.zd2.map tc) R):=ea.at_
 exact ⟨a.1,a.2,ea.idx,ea.fld 0 0,ea.fld 0 2,ea.fld 0 3,ea.ld 0 (by decide),ea.ld 2 (by decide),ea.ld 3 (by decide),⟨R1,a1⟩,by simpa using a1.zcw,⟨R2,a2⟩,by simpa using a2.zcw⟩
theorem quo20 {a:Nat} (h:a<4611686018427387904):V.bin .quo (.int .i64 (a:Int)) (.int .i64 20)=some (.int .i64 ((a / 20:Nat):Int)):=by
 rw [V.zkr _ _ _ (by omega),show (a:Int).tdiv 20=((a / 20:Nat):Int) from rfl,wrap_i64 (by omega) (by omega)]
theorem litT {h:za} (L:List (List UInt8)) {cs:List AVal} {n:Nat} {K:Nat->za->Prop} (hc:cs=(L.map tc).flatten) (hn:n=L.length) (hK: ∀ i h',Owns h h' [.sl 1 (.sl i 0 0 n 1 n) (L.map tc) []]->K i h'):B.newO h (some cs) K:=
 litO (L.map tc) hc (by intro p hp;obtain ⟨_,_,rfl⟩:=List.mem_map.1 hp;rfl) (by simpa using hn) hK
end Go.Ab
namespace Go.Ab
structure Sta where
 Now:Int
 NextLot:Int
 zoz:Int
 zfz:List Itm
 Lots:List Lot
 zji:List Line
 deriving DecidableEq
end Go.Ab
namespace Go.Ab
variable {C:CSem} {N:zN}
section
variable {hb h0 h:za} {l:List Ob} {p:AVal} {b:List UInt8} {r:Rdr}
theorem endGet {o:Ob}:(l++[o])[l.length]? =some o:=by simp
theorem endSet {o o':Ob}:(l++[o]).set l.length o'=l++[o']:=by simp
end
end Go.Ab
namespace Go.Ab
variable {C:CSem} {N:zN}
def zbt.Spec (C:CSem) (N:zN):Prop:= ∀ (x:AVal) (L:List (List UInt8)) (R:List (List AVal)) (s:List UInt8) (h:za) (Q:zQ),SlX h 1 x (L.map tc) R->L.length<4611686018427387904 ->
 (∀ n:Int,(0 <= n↔s∈L)->Q (.int .i64 n) h)->C (N 445) [x,.str s] h Q
theorem zbt.spec (i:zbt.Imp C N):zbt.Spec C N:=by
 intro x L R s h Q hx hl hq
 apply i
 have hlx:=hx.zcw
 rw [List.length_map] at hlx
 simp -dsimp only [zbt.cps,zew.cps,hlx,B.zd]
 refine zw.intro (fun n vs hh=> ∃ k:Nat,k+n=L.length /\ vs=[.int .i64 (k:Int)] /\ hh=h /\ s∉L.take k) L.length ?_ ⟨0,by simp,rfl,rfl,by simp⟩
 rintro Y n vs hh ⟨k,hn,rfl,rfl,hno⟩ hY
 simp -dsimp only [zew.l2,zew.k1,lssN,B.zd]
 refine B.zr (fun hc=> ?_) (fun hc=> ?_)
 ·rw [decide_eq_true_eq] at hc
  obtain ⟨w,hw⟩:=ze0 hc
  have hk:k<(L.map tc).length:=by simpa using hc
  have e1:A.ldv hh (elp 1 x k 0)=some (.str w):=hx.cell (get_map hw)
  have e2:V.idxS (opsS 16 (.str []) 0).es x (.int .i64 (k:Int))=some (elp 1 x k 0):=hx.idxN hk
  have e3: ∀ (p:AVal) (K:AVal->Prop),(opsS 16 (.str []) 0).ld hh p K=B.pv (A.ldv hh p) K:=fun _ _=>rfl
  simp -dsimp only [e2,e3,e1,B.zd,V.bin_seql]
  refine B.zr (fun hd=> ?_) (fun hd=> ?_)
  ·rw [decide_eq_true_eq] at hd
   subst hd
   exact zbu (hq k ⟨fun _=>List.mem_of_getElem? hw,fun _=>by omega⟩)
  ·rw [decide_eq_false_iff_not] at hd
   simp -dsimp only [add1 (show k<4611686018427387904 by omega),B.zd]
   refine hY (L.length-(k+1)) _ _ (by omega) ⟨k+1,by omega,rfl,rfl,?_⟩
   rw [take_succ hw]
   simp [hno,hd]
 ·rw [decide_eq_false_iff_not] at hc
  have:k=L.length:=by omega
  subst this
  rw [List.take_length] at hno
  exact zbu (hq (-1) ⟨fun h=>by omega,fun h=>absurd h hno⟩)
def zbj.Spec (C:CSem) (N:zN):Prop:= ∀ (x:AVal) (L:List (List UInt8)) (R:List (List AVal)) (s:List UInt8) (h:za) (Q:zQ),SlX h 1 x (L.map tc) R->L.length<4611686018427387904 ->
 Q (.bool (decide (s∈L))) h->C (N 442) [x,.str s] h Q
theorem zbj.spec (i:zbj.Imp C N) (s1:zbt.Spec C N):zbj.Spec C N:=by
 intro x L R s h Q hx hl hq
 apply i
 simp -dsimp only [zbj.cps,zks.cps]
 refine s1 x L R s h _ hx hl fun n hn=> ?_
 simp -dsimp only [V.zgb,B.zd]
 rw [decide_eq_decide.2 hn]
 exact zbu hq
end Go.Ab
namespace Go.Ab
variable {C:CSem} {N:zN}
structure StaAt (h:za) (s:Sta) (x y z:AVal):Prop where
 items:Dl ze5 h x s.zfz
 lots: ∃ R,SlX h 6 y (s.Lots.map Lot.cs) R
 lines: ∃ R,SlX h 8 z (s.zji.map Line.cs) R
 n1:s.zfz.length <= 100000000
 n2:s.Lots.length <= 100000000
 n3:s.zji.length <= 100000000
theorem StaAt.mono {h h':za} {s:Sta} {x y z:AVal} (a:StaAt h s x y z) (hle:h.le h'):StaAt h' s x y z:=
 ⟨a.items.mono hle,a.lots.imp fun _ r=>r.mono hle,a.lines.imp fun _ r=>r.mono hle,a.n1,a.n2,a.n3⟩
abbrev staCs (s:Sta) (x y z:AVal):List AVal:=[.int .i64 s.Now,.int .i64 s.NextLot,.int .i64 s.zoz,x,y,z]
end Go.Ab
namespace Go.Ab
variable {P:Program} {w0:World} {ρ:Locs} {h H:za} {w:World}
theorem zdz.at: ∀ {as1:List AVal} {l:List Value},zdz ρ as1 l-> ∀ {j:Nat} {a:AVal},as1[j]? =some a-> ∃ u,l[j]? =some u /\ VRel ρ a u
 | [],_,_,j,a,h=>by simp at h
 | x::as1,_,⟨u,us,rfl,h1,h2⟩,0,a,h=>by simp at h;subst h;exact ⟨u,rfl,h1⟩
 | x::as1,_,⟨u,us,rfl,h1,h2⟩,j+1,a,h=>by
  obtain ⟨v,e1,e2⟩:=zdz.at h2 (j:=j) (by simpa using h)
  exact ⟨v,by simpa using e1,e2⟩
end Go.Ab
namespace Go.Ab
variable {C:CSem} {N:zN}
theorem Owns.lay {h0 h:za} {l l':List Ob} (ho:Owns h0 h (l++l')): ∃ hb:za,h0.le hb /\ hb.le h /\ Owns hb h l /\ AllAt hb l':=by
 obtain ⟨q1,q2⟩:=(ho.perm List.perm_append_comm).out
 exact ⟨_,q1.le,q2.le,q2,q1.is⟩
end Go.Ab
namespace Go.Ab
variable {C:CSem} {N:zN}
abbrev StaO (s:Sta) (x:AVal) (P:List (Itm×(AVal×AVal))) (y z:AVal):List Ob:= .sl 4 x (P.map ze5.cs) []:: .sl 6 y (s.Lots.map Lot.cs) []:: .sl 8 z (s.zji.map Line.cs) []::ze5.os false P
end Go.Ab
namespace Go.Ab
abbrev Key:=List UInt8
abbrev zg1 (l:List Key):Prop:=l.Pairwise fun a b=>zfu a b=true
theorem zif {l m:List Key} (s:zg1 l) (t:zg1 m) (e: ∀ x,x∈l↔x∈m):l=m:=
 rise_ext (fun a b h1 h2=>by rw [zle h1] at h2;cases h2) s t e
def putT:List Key->Key->List Key
 | [],s=>[s]
 | x::l,s=>if zfu x s=true then x::putT l s else if x=s then x::l else s::x::l
theorem zot {s y:Key}: ∀ {l:List Key},y∈putT l s↔y=s \/ y∈l
 | []=>by simp [putT]
 | x::l=>by
  unfold putT
  split
  ·rw [List.mem_cons,zot,List.mem_cons]
   constructor
   ·rintro (h|h|h)
    ·exact .inr (.inl h)
    ·exact .inl h
    ·exact .inr (.inr h)
   ·rintro (h|h|h)
    ·exact .inr (.inl h)
    ·exact .inl h
    ·exact .inr (.inr h)
  ·split
   ·rename_i h
    subst h
    simp only [List.mem_cons]
    constructor
    ·exact fun h=> .inr h
    ·rintro (h|h)
     ·exact .inl h
     ·exact h
   ·simp only [List.mem_cons]
theorem zmt {s:Key}: ∀ {l:List Key},zg1 l->zg1 (putT l s)
 | [],_=>List.pairwise_singleton _ _
 | x::l,h=>by
  obtain ⟨h1,h2⟩:=List.pairwise_cons.1 h
  unfold putT
  split
  ·rename_i hx
   refine List.pairwise_cons.2 ⟨fun y hy=> ?_,zmt h2⟩
   rcases zot.1 hy with rfl|hy
   ·exact hx
   ·exact h1 y hy
  ·split
   ·exact h
   ·rename_i h3 h4
    have hs:zfu s x=true:=by
     have:zfu x s=false:=by simpa using h3
     exact zjo this h4
    refine List.pairwise_cons.2 ⟨fun y hy=> ?_,h⟩
    rcases List.mem_cons.1 hy with rfl|hy
    ·exact hs
    ·exact zic hs (h1 y hy)
theorem putT_len {s:Key}: ∀ {l:List Key},zg1 l->(putT l s).length=if s∈l then l.length else l.length+1
 | [],_=>rfl
 | x::l,h=>by
  obtain ⟨h1,h2⟩:=List.pairwise_cons.1 h
  unfold putT
  split
  ·rename_i hx
   rw [List.length_cons,putT_len h2]
   have:s≠x:=fun e=>by subst e;rw [zhq] at hx;cases hx
   by_cases hs:s∈l
   ·rw [if_pos hs,if_pos (List.mem_cons_of_mem _ hs)];rfl
   ·rw [if_neg hs,if_neg (fun e=>by rcases List.mem_cons.1 e with e|e;exact this e;exact hs e)];rfl
  ·split
   ·rename_i h4
    rw [if_pos (by rw [h4];exact List.mem_cons_self ..)]
   ·rename_i h3 h4
    have hs:zfu s x=true:=by
     have:zfu x s=false:=by simpa using h3
     exact zjo this h4
    rw [if_neg]
    ·rfl
    ·intro hm
     rcases List.mem_cons.1 hm with e|hm
     ·exact h4 e.symm
     ·have:=zic hs (h1 s hm)
      rw [zhq] at this;cases this
def zjs (l m:List Key):List Key:=m.foldl putT l
theorem zih {y:Key}: ∀ {m l:List Key},y∈zjs l m↔y∈l \/ y∈m
 | [],l=>by simp [zjs]
 | s::m,l=>by
  have:zjs l (s::m)=zjs (putT l s) m:=rfl
  rw [this,zih,zot,List.mem_cons]
  constructor
  ·rintro ((h|h)|h)
   ·exact .inr (.inl h)
   ·exact .inl h
   ·exact .inr (.inr h)
  ·rintro (h|h|h)
   ·exact .inl (.inr h)
   ·exact .inl (.inl h)
   ·exact .inr h
theorem zj1: ∀ {m l:List Key},zg1 l->zg1 (zjs l m)
 | [],l,h=>h
 | s::m,l,h=>zj1 (l:=putT l s) (zmt h)
def zby (I:List Itm):List Key:=zjs [] (I.map Itm.Code)
theorem zjb (I:List Itm):zg1 (zby I):=zj1 .nil
theorem zey {I:List Itm} {c:Key}:c∈zby I↔ ∃ t∈I,t.Code=c:=by
 unfold zby
 rw [zih]
 simp [List.mem_map]
def namesT (t:Itm):List Key:=t.Code::(t.zeg.map Part.Item++t.zd2)
def zii (all:List Key) (t:Itm):List Key:=(namesT t).filter fun n=>decide (n∈all)
def hitT (all inn:List Key) (t:Itm):Bool:=(zii all t).any fun n=>decide (n∈inn)
def zhm (all:List Key) (I:List Itm) (inn:List Key):List Key:=I.foldl (fun a t=>if hitT all a t=true then zjs a (zii all t) else a) inn
def zi3 (all:List Key) (I:List Itm):Nat->List Key->List Key
 | 0,a=>a
 | k+1,a=>if (zhm all I a).length=a.length then zhm all I a else zi3 all I k (zhm all I a)
def zdl (I:List Itm) (c:Key):List Key:=zi3 (zby I) I ((zby I).length+1) [c]
inductive Eqv (E:Key->Key->Prop):Key->Key->Prop
 | rel {a b:Key}:E a b->Eqv E a b
 | refl (a:Key):Eqv E a a
 | symm {a b:Key}:Eqv E a b->Eqv E b a
 | trans {a b c:Key}:Eqv E a b->Eqv E b c->Eqv E a c
def zig (I:List Itm) (a b:Key):Prop:= ∃ t∈I,t.Code=a /\ b∈t.zeg.map Part.Item++t.zd2 /\ b∈zby I
theorem known_eqv {I:List Itm} {t:Itm} (ht:t∈I) {n:Key} (hn:n∈zii (zby I) t):Eqv (zig I) t.Code n:=by
 obtain ⟨h1,h2⟩:=List.mem_filter.1 hn
 have h2:n∈zby I:=by simpa using h2
 unfold namesT at h1
 rcases List.mem_cons.1 h1 with e|h1
 ·rw [e];exact .refl _
 ·exact .rel ⟨t,ht,rfl,h1,h2⟩
section
variable {I J:List Itm} {all inn:List Key}
theorem zj0: ∀ {J:List Itm} {a:List Key},zg1 a->zg1 (zhm all J a)
 | [],a,h=>h
 | t::J,a,h=>by
  show zg1 (zhm all J (if hitT all a t=true then zjs a (zii all t) else a))
  refine zj0 ?_
  split
  ·exact zj1 h
  ·exact h
theorem zi4: ∀ {J:List Itm} {a:List Key},∀ x∈a,x∈zhm all J a
 | [],a,x,h=>h
 | t::J,a,x,h=>by
  show x∈zhm all J (if hitT all a t=true then zjs a (zii all t) else a)
  refine zi4 x ?_
  split
  ·exact zih.2 (.inl h)
  ·exact h
theorem round_all: ∀ {J:List Itm} {a:List Key},(∀ x∈a,x∈all)-> ∀ x∈zhm all J a,x∈all
 | [],a,h=>h
 | t::J,a,h=>by
  show ∀ x∈zhm all J (if hitT all a t=true then zjs a (zii all t) else a),x∈all
  refine round_all fun x hx=> ?_
  split at hx
  ·rcases zih.1 hx with hx|hx
   ·exact h x hx
   ·simpa using (List.mem_filter.1 hx).2
  ·exact h x hx
theorem zpd {c:Key}: ∀ {J:List Itm} {a:List Key},(∀ t∈J,t∈I)->(∀ x∈a,Eqv (zig I) c x)-> ∀ x∈zhm (zby I) J a,Eqv (zig I) c x
 | [],a,_,h=>h
 | t::J,a,hJ,h=>by
  show ∀ x∈zhm (zby I) J (if hitT (zby I) a t=true then zjs a (zii (zby I) t) else a),_
  refine zpd (fun u hu=>hJ u (by simp [hu])) fun x hx=> ?_
  split at hx
  ·rename_i hh
   rcases zih.1 hx with hx|hx
   ·exact h x hx
   ·unfold hitT at hh
    obtain ⟨n,hn,hna⟩:=List.any_eq_true.1 hh
    have hna:n∈a:=by simpa using hna
    have ht:=hJ t (by simp)
    exact .trans (.trans (h n hna) (.symm (known_eqv ht hn))) (known_eqv ht hx)
  ·exact h x hx
theorem round_len: ∀ {J:List Itm} {a:List Key},zg1 a->a.length <= (zhm all J a).length:=fun {J a} h=>by
 have hn:a.Nodup:=h.imp fun {x y} e=>zow e
 exact hn.length_le_of_subset fun x hx=>zi4 x hx
theorem zfb {a:List Key} (h:zg1 a):a.Nodup:=h.imp fun {x y} e=>zow e
theorem zqx {a:List Key} (h:zg1 a) (e:(zhm all J a).length=a.length):zhm all J a=a:=by
 have hn:=zfb h
 have hr:=zj0 (all:=all) (J:=J) h
 refine zif hr h fun x=>⟨fun hx=> ?_,fun hx=>zi4 x hx⟩
 refine Classical.byContradiction fun hxa=> ?_
 have:(x::a).length <= (zhm all J a).length:=List.Nodup.length_le_of_subset (List.nodup_cons.2 ⟨hxa,hn⟩) fun y hy=>by
  rcases List.mem_cons.1 hy with rfl|hy
  ·exact hx
  ·exact zi4 y hy
 rw [List.length_cons] at this
 omega
theorem zpc: ∀ {k:Nat} {a:List Key},zg1 a->zg1 (zi3 all J k a)
 | 0,a,h=>h
 | k+1,a,h=>by
  unfold zi3
  split
  ·exact zj0 h
  ·exact zpc (zj0 h)
theorem zqv {c:Key}: ∀ {k:Nat} {a:List Key},(∀ x∈a,Eqv (zig I) c x)-> ∀ x∈zi3 (zby I) I k a,Eqv (zig I) c x
 | 0,a,h=>h
 | k+1,a,h=>by
  unfold zi3
  split
  ·exact zpd (fun t ht=>ht) h
  ·exact zqv (zpd (fun t ht=>ht) h)
theorem zqu: ∀ {k:Nat} {a:List Key},∀ x∈a,x∈zi3 all J k a
 | 0,a,x,h=>h
 | k+1,a,x,h=>by
  unfold zi3
  split
  ·exact zi4 x h
  ·exact zqu x (zi4 x h)
theorem zqw (ha:zg1 all): ∀ {k:Nat} {a:List Key},zg1 a->(∀ x∈a,x∈all)->all.length<a.length+k->zhm all J (zi3 all J k a)=zi3 all J k a
 | 0,a,h,h1,h2=>by
  have:=(zfb h).length_le_of_subset h1
  omega
 | k+1,a,h,h1,h2=>by
  unfold zi3
  split
  ·rename_i e
   rw [zqx h e,zqx h e]
  ·rename_i e
   have:=round_len (all:=all) (J:=J) h
   exact zqw ha (zj0 h) (round_all h1) (by omega)
theorem zn8: ∀ {J:List Itm} {a:List Key},zg1 a->(∀ x,x∈zhm all J a->x∈a)-> ∀ t∈J,∀ m∈zii all t,∀ n∈zii all t,m∈a->n∈a
 | u::J,a,h,hx,t,ht,m,hm,n,hn,hma=>by
  have hx: ∀ x,x∈zhm all J (if hitT all a u=true then zjs a (zii all u) else a)->x∈a:=hx
  have h1:zg1 (if hitT all a u=true then zjs a (zii all u) else a):=by
   split
   ·exact zj1 h
   ·exact h
  have hsub: ∀ x,x∈(if hitT all a u=true then zjs a (zii all u) else a)->x∈a:=fun x h=>hx x (zi4 x h)
  rcases List.mem_cons.1 ht with rfl|ht
  ·have hh:hitT all a t=true:=List.any_eq_true.2 ⟨m,hm,by simpa using hma⟩
   rw [if_pos hh] at hsub
   exact hsub n (zih.2 (.inr hn))
  ·have e:(if hitT all a u=true then zjs a (zii all u) else a)=a:=by
    refine zif h1 h fun x=>⟨hsub x,fun hx=> ?_⟩
    split
    ·exact zih.2 (.inl hx)
    ·exact hx
   rw [e] at hx
   exact zn8 h hx t ht m hm n hn hma
end
theorem zc9 {I:List Itm} {c:Key} (hc:c∈zby I):zg1 (zdl I c) /\ ∀ y,y∈zdl I c↔Eqv (zig I) c y:=by
 have r0:zg1 [c]:=List.pairwise_singleton _ _
 have r1:zg1 (zdl I c):=zpc r0
 have hall: ∀ x∈[c],x∈zby I:=fun x hx=>by rw [List.mem_singleton.1 hx];exact hc
 have he:=zqw (all:=zby I) (J:=I) (zjb I) (k:=(zby I).length+1) r0 hall (by simp;omega)
 have he:zhm (zby I) I (zdl I c)=zdl I c:=he
 refine ⟨r1,fun y=>⟨fun hy=>zqv (fun x hx=>by rw [List.mem_singleton.1 hx];exact .refl _) y hy,fun hy=> ?_⟩⟩
 have cl: ∀ t∈I,∀ m∈zii (zby I) t,∀ n∈zii (zby I) t,m∈zdl I c->n∈zdl I c:=zn8 r1 (fun x hx=>by rw [he] at hx;exact hx)
 have edge: ∀ a b,zig I a b->(a∈zdl I c↔b∈zdl I c):=fun a b ⟨t,ht,e,hb,hk⟩=>by
  have ka:a∈zii (zby I) t:=List.mem_filter.2 ⟨by unfold namesT;rw [e];exact List.mem_cons_self ..,by simpa using zey.2 ⟨t,ht,e⟩⟩
  have kb:b∈zii (zby I) t:=List.mem_filter.2 ⟨List.mem_cons_of_mem _ hb,by simpa using hk⟩
  exact ⟨cl t ht a ka b kb,cl t ht b kb a ka⟩
 have key: ∀ a b,Eqv (zig I) a b->(a∈zdl I c↔b∈zdl I c):=fun a b h=>by
  induction h with
  | rel h=>exact edge _ _ h
  | refl=>exact Iff.rfl
  | symm _ ih=>exact ih.symm
  | trans _ _ h1 h2=>exact h1.trans h2
 exact (key c y hy).1 (zqu c (by simp))
def zgu (g:Key->Option Key):Nat->Key->Key->Prop
 | 0,c,r=>g c=some c /\ r=c
 | n+1,c,r=> ∃ e,g c=some e /\ e≠c /\ zgu g n e r
def zni (g:Key->Option Key) (a b:Key):Prop:= ∃ r n m,zgu g n a r /\ zgu g m b r
theorem zgu.top {g:Key->Option Key}: ∀ {n:Nat} {c r:Key},zgu g n c r->g r=some r
 | 0,c,r,h=>by obtain ⟨h,rfl⟩:=h;exact h
 | n+1,c,r,⟨e,_,_,h⟩=>zgu.top h
theorem zgu.det {g:Key->Option Key}: ∀ {n m:Nat} {c r q:Key},zgu g n c r->zgu g m c q->n=m /\ r=q
 | 0,0,c,r,q,h,k=>by obtain ⟨_,rfl⟩:=h;obtain ⟨_,rfl⟩:=k;exact ⟨rfl,rfl⟩
 | 0,m+1,c,r,q,h,k=>by
  obtain ⟨h,rfl⟩:=h
  obtain ⟨e,k,hne,_⟩:=k
  rw [h] at k;cases k
  exact absurd rfl hne
 | n+1,0,c,r,q,h,k=>by
  obtain ⟨k,rfl⟩:=k
  obtain ⟨e,h,hne,_⟩:=h
  rw [k] at h;cases h
  exact absurd rfl hne
 | n+1,m+1,c,r,q,h,k=>by
  obtain ⟨e,h1,_,h⟩:=h
  obtain ⟨f,k1,_,k⟩:=k
  rw [h1] at k1;cases k1
  obtain ⟨e1,e2⟩:=zgu.det h k
  exact ⟨by rw [e1],e2⟩
structure UF (g:Key->Option Key) (ks:Key->Prop) (E:Key->Key->Prop):Prop where
 dom: ∀ c,(∃ d,g c=some d)↔ks c
 root: ∀ c,ks c-> ∃ n r,zgu g n c r
 eqv: ∀ a b,g a=some b->Eqv E a b
 rel: ∀ a b,E a b->zni g a b
def zm6 (g:Key->Option Key) (a b:Key):Key->Option Key:=fun x=>if x=a then some b else g x
section
variable {g:Key->Option Key} {ks:Key->Prop} {E:Key->Key->Prop}
theorem zgu.isKey (u:UF g ks E) {n:Nat} {c r:Key} (h:zgu g n c r):ks c:=by
 cases n with
 | zero=>exact (u.dom c).1 ⟨c,h.1⟩
 | succ n=>obtain ⟨e,h,_⟩:=h;exact (u.dom c).1 ⟨e,h⟩
theorem zgu.eqv (u:UF g ks E): ∀ {n:Nat} {c r:Key},zgu g n c r->Eqv E c r
 | 0,c,r,h=>by obtain ⟨_,rfl⟩:=h;exact .refl _
 | n+1,c,r,⟨e,h1,_,h⟩=> .trans (u.eqv _ _ h1) (zgu.eqv u h)
theorem zni.refl (u:UF g ks E) {a:Key} (h:ks a):zni g a a:=by
 obtain ⟨n,r,h⟩:=u.root a h
 exact ⟨r,n,n,h,h⟩
theorem zni.symm {a b:Key} (h:zni g a b):zni g b a:=by
 obtain ⟨r,n,m,h,k⟩:=h
 exact ⟨r,m,n,k,h⟩
theorem zni.trans {a b c:Key} (h:zni g a b) (k:zni g b c):zni g a c:=by
 obtain ⟨r,n,m,h1,h2⟩:=h
 obtain ⟨q,i,j,k1,k2⟩:=k
 obtain ⟨_,rfl⟩:=h2.det k1
 exact ⟨r,n,j,h1,k2⟩
theorem UF.same (u:UF g ks E) {a b:Key}:zni g a b↔ks a /\ ks b /\ Eqv E a b:=by
 constructor
 ·rintro ⟨r,n,m,h,k⟩
  exact ⟨h.isKey u,k.isKey u,.trans (h.eqv u) (.symm (k.eqv u))⟩
 ·rintro ⟨ha,hb,h⟩
  have key:(ks a↔ks b) /\ (ks a->zni g a b):=by
   clear ha hb
   induction h with
   | rel h=>
    obtain ⟨r,n,m,h1,h2⟩:=u.rel _ _ h
    exact ⟨⟨fun _=>h2.isKey u,fun _=>h1.isKey u⟩,fun _=>⟨r,n,m,h1,h2⟩⟩
   | refl a=>exact ⟨Iff.rfl,fun h=> .refl u h⟩
   | symm _ ih=>exact ⟨ih.1.symm,fun h=>(ih.2 (ih.1.2 h)).symm⟩
   | trans _ _ h1 h2=>exact ⟨h1.1.trans h2.1,fun h=>(h1.2 h).trans (h2.2 (h1.1.1 h))⟩
  exact key.2 ha
theorem zq7 {a b ra rb:Key} (ha:g ra=some ra) (hb:g rb=some rb): ∀ {n:Nat} {c r:Key},zgu g n c r->r≠ra->zgu (zm6 g ra rb) n c r
 | 0,c,r,h,hr=>by
  obtain ⟨h,rfl⟩:=h
  exact ⟨by unfold zm6;rw [if_neg hr];exact h,rfl⟩
 | n+1,c,r,⟨e,h1,h2,h⟩,hr=>by
  refine ⟨e,?_,h2,zq7 (a:=a) (b:=b) ha hb h hr⟩
  unfold zm6
  rw [if_neg]
  ·exact h1
  ·intro e2
   subst e2
   rw [ha] at h1;cases h1
   exact h2 rfl
theorem join_same {ra rb:Key} (ha:g ra=some ra) (hb:g rb=some rb) (hne:ra≠rb): ∀ {n:Nat} {c:Key},zgu g n c ra->zgu (zm6 g ra rb) (n+1) c rb
 | 0,c,h=>by
  obtain ⟨h,rfl⟩:=h
  refine ⟨rb,by unfold zm6;rw [if_pos rfl],Ne.symm hne,?_⟩
  exact ⟨by unfold zm6;rw [if_neg (Ne.symm hne)];exact hb,rfl⟩
 | n+1,c,⟨e,h1,h2,h⟩=>by
  refine ⟨e,?_,h2,join_same ha hb hne h⟩
  unfold zm6
  rw [if_neg]
  ·exact h1
  ·intro e2
   subst e2
   rw [ha] at h1;cases h1
   exact h2 rfl
theorem Eqv.mono {E F:Key->Key->Prop} (h: ∀ a b,E a b->F a b) {a b:Key} (e:Eqv E a b):Eqv F a b:=by
 induction e with
 | rel e=>exact .rel (h _ _ e)
 | refl=>exact .refl _
 | symm _ ih=>exact .symm ih
 | trans _ _ h1 h2=>exact .trans h1 h2
theorem UF.join (u:UF g ks E) {a b ra rb:Key} {n m:Nat} (ha:zgu g n a ra) (hb:zgu g m b rb):UF (zm6 g ra rb) ks (fun x y=>E x y \/ (x=a /\ y=b)):=by
 have ta:=ha.top
 have tb:=hb.top
 have mono: ∀ x y,E x y->(E x y \/ (x=a /\ y=b)):=fun _ _ h=> .inl h
 have newE:Eqv (fun x y=>E x y \/ (x=a /\ y=b)) ra rb:= .trans (.symm ((ha.eqv u).mono mono)) (.trans (.rel (.inr ⟨rfl,rfl⟩)) ((hb.eqv u).mono mono))
 have root': ∀ {k:Nat} {c r:Key},zgu g k c r-> ∃ k',zgu (zm6 g ra rb) k' c (if r=ra then rb else r):=by
  intro k c r h
  by_cases hr:r=ra
  ·subst hr
   rw [if_pos rfl]
   by_cases hne:r=rb
   ·subst hne
    have:zm6 g r r=g:=by
     funext x
     unfold zm6
     by_cases hx:x=r
     ·subst hx;rw [if_pos rfl,ta]
     ·rw [if_neg hx]
    rw [this];exact ⟨k,h⟩
   ·exact ⟨k+1,join_same ta tb hne h⟩
  ·rw [if_neg hr]
   exact ⟨k,zq7 (a:=a) (b:=b) ta tb h hr⟩
 refine ⟨fun c=> ?_,fun c hc=> ?_,fun x y h=> ?_,fun x y h=> ?_⟩
 ·rw [<- u.dom c]
  unfold zm6
  by_cases hx:c=ra
  ·subst hx
   rw [if_pos rfl]
   exact ⟨fun _=>⟨_,ta⟩,fun _=>⟨_,rfl⟩⟩
  ·rw [if_neg hx]
 ·obtain ⟨k,r,h⟩:=u.root c hc
  obtain ⟨k',h'⟩:=root' h
  exact ⟨k',_,h'⟩
 ·unfold zm6 at h
  by_cases hx:x=ra
  ·subst hx
   rw [if_pos rfl] at h
   cases h
   exact newE
  ·rw [if_neg hx] at h
   exact (u.eqv x y h).mono mono
 ·rcases h with h|⟨rfl,rfl⟩
  ·obtain ⟨r,i,j,h1,h2⟩:=u.rel x y h
   obtain ⟨_,h1'⟩:=root' h1
   obtain ⟨_,h2'⟩:=root' h2
   exact ⟨_,_,_,h1',h2'⟩
  ·obtain ⟨_,h1'⟩:=root' ha
   obtain ⟨_,h2'⟩:=root' hb
   rw [if_pos rfl] at h1'
   have:(if rb=ra then rb else rb)=rb:=by split<;>rfl
   rw [this] at h2'
   exact ⟨rb,_,_,h1',h2'⟩
end
end Go.Ab
namespace Go.Ab
variable {C:CSem} {N:zN}
abbrev sV:Key->AVal:=fun s=> .str s
abbrev upBlk (ps:Ents Key Key) (c:Nat):Blk:=zfm (encM sV sV ps) c
structure UpAt (h:za) (p:AVal) (m:Nat) (ps:Ents Key Key) (c:Nat):Prop where
 ptr:A.ldv h p=some (.mp m)
 map:h m=some (upBlk ps c)
theorem UpAt.lkp {h:za} {p:AVal} {m:Nat} {ps:Ents Key Key} {c:Nat} (u:UpAt h p m ps c) (k:Key):A.lkp h (some .s) (some (.str [])) false (.mp m) (.str k)=some (.str ((getP ps k).getD [])):=
 lkp_blk (κ:=sV) (v:=sV) keyS u.map [] k false
theorem UpAt.lkp2 {h:za} {p:AVal} {m:Nat} {ps:Ents Key Key} {c:Nat} (u:UpAt h p m ps c) (k:Key):A.lkp h (some .s) (some (.str [])) true (.mp m) (.str k)=some (.tup [.str ((getP ps k).getD []),.bool (getP ps k).isSome]):=
 lkp_blk (κ:=sV) (v:=sV) keyS u.map [] k true
theorem UpAt.mono {h h':za} {p:AVal} {m:Nat} {ps:Ents Key Key} {c:Nat} (u:UpAt h p m ps c) (hle:h.le h'):UpAt h' p m ps c:=⟨zk1 hle u.ptr,hle _ _ u.map⟩
def zcj.Spec (C:CSem) (N:zN):Prop:= ∀ (h:za) (p:AVal) (m:Nat) (ps:Ents Key Key) (c n:Nat) (a r:Key) (Q:zQ),UpAt h p m ps c->zgu (getP ps) n a r->Q (.str r) h->C (N 577) [.str a,p] h Q
theorem zcj.spec (i:zcj.Imp C N):zcj.Spec C N:=by
 intro h p m ps c n a r Q hu hr hq
 apply i
 refine zw.intro (fun t vs hh=> ∃ x,vs=[.str x] /\ hh=h /\ zgu (getP ps) t x r) n ?_ ⟨a,rfl,rfl,hr⟩
 rintro Y t vs hh ⟨x,rfl,rfl,hR⟩ hY
 simp -dsimp only [zcj.l2,zcj.k1,B.ze4,hu.ptr,B.zd,hu.lkp,V.bin_sneq]
 cases t with
 | zero=>
  obtain ⟨e,rfl⟩:=hR
  rw [e]
  simp -dsimp
  exact zbu hq
 | succ t=>
  obtain ⟨e,he,hne,hR⟩:=hR
  rw [he]
  simp -dsimp [hne,hu.ptr,hu.lkp,he]
  exact hY t _ _ (by omega) ⟨e,rfl,rfl,hR⟩
abbrev UpO (N:zN) (m:Nat) (p q:AVal) (ps:Ents Key Key) (c:Nat):List Ob:=[.blk m (upBlk ps c),.box p [.mp m],.box q [.fn (N 577) [] [p]]]
theorem UpO.at {h0 h:za} {m:Nat} {p q:AVal} {ps:Ents Key Key} {c:Nat} {l:List Ob} (o:Owns h0 h (UpO N m p q ps c++l)):UpAt h p m ps c /\ A.ldv h q=some (.fn (N 577) [] [p]):=by
 obtain ⟨_,rfl,b1⟩:=o.zom 1 rfl
 obtain ⟨_,rfl,b2⟩:=o.zom 2 rfl
 exact ⟨⟨by rw [zk2 b1];rfl,o.at 0 rfl⟩,by rw [zk2 b2];rfl⟩
structure UpIs (ps:Ents Key Key) (c:Nat) (ks:Key->Prop) (E:Key->Key->Prop):Prop where
 uf:UF (getP ps) ks E
 zku:zit ps c
 nodup:(zez ps).Nodup
def zdc.Spec (C:CSem) (N:zN):Prop:= ∀ (h0 h:za) (m:Nat) (p q:AVal) (ps:Ents Key Key) (c:Nat) (a b:Key) (ks:Key->Prop) (E:Key->Key->Prop) (Q:zQ),Owns h0 h (UpO N m p q ps c)->UpIs ps c ks E->ks a ->
 (∀ ps' c' h',Owns h0 h' (UpO N m p q ps' c')->UpIs ps' c' ks (fun x y=>E x y \/ (x=a /\ y=b /\ ks b))->Q (.tup []) h')->C (N 576) [.str a,.str b,p,q] h Q
theorem UF.cong {g:Key->Option Key} {ks:Key->Prop} {E F:Key->Key->Prop} (u:UF g ks E) (h: ∀ x y,E x y↔F x y):UF g ks F:=by
 have:E=F:=by funext x y;exact propext (h x y)
 rw [<- this];exact u
theorem zdc.spec (i:zdc.Imp C N) (s1:zcj.Spec C N):zdc.Spec C N:=by
 intro h0 h m p q ps c a b ks E Q ho hu ha hq
 apply i
 obtain ⟨ua,uq⟩:=UpO.at (l:=[]) (by rw [List.append_nil];exact ho)
 simp -dsimp only [zdc.cps,zdc.k1,B.ze4,ua.ptr,uq,B.zd,ua.lkp2,V.zfw,List.getElem?_cons_zero,List.getElem?_cons_succ]
 refine B.zr (fun hb=> ?_) (fun hb=> ?_)
 ·have kb:ks b:=(hu.uf.dom b).1 (Option.isSome_iff_exists.1 hb)
  obtain ⟨n,ra,hra⟩:=hu.uf.root a ha
  obtain ⟨k,rb,hrb⟩:=hu.uf.root b kb
  simp -dsimp only [B.ze4,ua.ptr,uq,B.zd]
  rw [B.zjr]
  refine s1 h p m ps c n a ra _ ua hra ?_
  refine keepS2 ⟨_,ua.ptr⟩ ⟨_,uq⟩ ?_
  rw [B.zjr]
  refine s1 h p m ps c k b rb _ ua hrb ?_
  refine keepS1 ⟨_,ua.ptr⟩ ?_
  refine ho.mset (κ:=sV) (v:=sV) 0 rfl keyS ra rb fun h' o _ _=> ?_
  refine zbu (hq _ _ h' o ⟨?_,hu.zku.put ra rb,zpu hu.nodup ra rb c⟩)
  have e:getP (putP ps ra rb c)=zm6 (getP ps) ra rb:=by funext x;rw [zlj];rfl
  rw [e]
  exact (hu.uf.join hra hrb).cong fun x y=>⟨fun h=>h.imp id fun e=>⟨e.1,e.2,kb⟩,fun h=>h.imp id fun e=>⟨e.1,e.2.1⟩⟩
 ·have kb: ¬ ks b:=fun kb=>by
   obtain ⟨d,e⟩:=(hu.uf.dom b).2 kb
   rw [e] at hb;cases hb
  exact zbu (hq ps c h ho ⟨hu.uf.cong fun x y=>⟨fun h=> .inl h,fun h=>h.elim id fun e=>absurd e.2.2 kb⟩,hu.zku,hu.nodup⟩)
end Go.Ab
namespace Go.Ab
variable {C:CSem} {N:zN}
abbrev zqg (t:Itm):List Key:=t.zeg.map Part.Item++t.zd2
def zn1 (I:List Itm) (ks:Key->Prop) (j k:Nat) (x y:Key):Prop:=(∃ t∈I.take j,t.Code=x /\ y∈zqg t /\ ks y) \/ ∃ t,I[j]? =some t /\ t.Code=x /\ y∈(zqg t).take k /\ ks y
theorem doneE_zero {I:List Itm} {ks:Key->Prop} {x y:Key}: ¬ zn1 I ks 0 0 x y:=by
 rintro (⟨t,h,_⟩|⟨t,_,_,h,_⟩)
 ·simp at h
 ·simp at h
theorem zre {I:List Itm} {ks:Key->Prop} {j k:Nat} {t:Itm} {n:Key} (ht:I[j]? =some t) (hn:(zqg t)[k]? =some n) (x y:Key):(zn1 I ks j k x y \/ (x=t.Code /\ y=n /\ ks n))↔zn1 I ks j (k+1) x y:=by
 unfold zn1
 constructor
 ·rintro ((h|⟨u,h1,h2,h3,h4⟩)|⟨h1,h2,h3⟩)
  ·exact .inl h
  ·exact .inr ⟨u,h1,h2,by
    rw [ht] at h1;cases h1
    rw [take_succ hn];exact List.mem_append_left _ h3,h4⟩
  ·exact .inr ⟨t,ht,h1.symm,by rw [take_succ hn,h2];simp,by rw [h2];exact h3⟩
 ·rintro (h|⟨u,h1,h2,h3,h4⟩)
  ·exact .inl (.inl h)
  ·rw [ht] at h1;cases h1
   rw [take_succ hn] at h3
   rcases List.mem_append.1 h3 with h3|h3
   ·exact .inl (.inr ⟨t,ht,h2,h3,h4⟩)
   ·have:=List.mem_singleton.1 h3
    exact .inr ⟨h2.symm,this,by rw [<- this];exact h4⟩
theorem doneE_next {I:List Itm} {ks:Key->Prop} {j:Nat} {t:Itm} (ht:I[j]? =some t) (x y:Key):zn1 I ks j (zqg t).length x y↔zn1 I ks (j+1) 0 x y:=by
 unfold zn1
 rw [take_succ ht]
 constructor
 ·rintro (⟨u,h1,h2⟩|⟨u,h1,h2,h3,h4⟩)
  ·exact .inl ⟨u,List.mem_append_left _ h1,h2⟩
  ·rw [ht] at h1;cases h1
   rw [List.take_length] at h3
   exact .inl ⟨t,by simp,h2,h3,h4⟩
 ·rintro (⟨u,h1,h2,h3,h4⟩|⟨u,h1,h2,h3,h4⟩)
  ·rcases List.mem_append.1 h1 with h1|h1
   ·exact .inl ⟨u,h1,h2,h3,h4⟩
   ·rw [List.mem_singleton.1 h1] at h2 h3
    exact .inr ⟨t,ht,h2,by rw [List.take_length];exact h3,h4⟩
  ·simp at h3
theorem doneE_end {I:List Itm} (x y:Key):zn1 I (fun c=>c∈zby I) I.length 0 x y↔zig I x y:=by
 unfold zn1 zig
 rw [List.take_length]
 constructor
 ·rintro (⟨t,h1,h2,h3,h4⟩|⟨t,h1,_⟩)
  ·exact ⟨t,h1,h2,h3,h4⟩
  ·simp at h1
 ·rintro ⟨t,h1,h2,h3,h4⟩
  exact .inl ⟨t,h1,h2,h3,h4⟩
def zt.Spec (C:CSem) (N:zN):Prop:= ∀ (x:AVal) (I:List Itm) (h:za) (Q:zQ),Dl ze5 h x I->I.length <= 100000000 ->
 (∀ m p ps c h',Owns h h' [.blk m (upBlk ps c),.box p [.mp m]]->UpIs ps c (fun c=>c∈zby I) (zig I)->Q (.tup [.mp m,.fn (N 577) [] [p]]) h')->C (N 568) [x] h Q
theorem zt.spec (i:zt.Imp C N) (s2:zdc.Spec C N):zt.Spec C N:=by
 intro x I h Q hx hlen hq
 apply i
 have lx:=hx.zcw
 simp -dsimp only [zt.cps,zt.k13]
 refine (Owns.start h).zl3 sV sV fun m h1 hm o1 _=> ?_
 intro i4 f4
 have o2:=o1.zpw f4 [.nilm]
 generalize upd h1 i4 (zek [.nilm])=h2 at *
 refine o2.boxSt 1 (off:=0) rfl rfl (by simp) fun h3 o3 _=> ?_
 have o3:Owns h h3 [.blk m (upBlk [] 0),.box (.ptr i4 0 0) [.mp m]]:=o3
 simp -dsimp only [lx,B.zd]
 refine zw.intro (fun n vs hh=> ∃ (j c:Nat) (ps:Ents Key Key),j+n=I.length /\ vs=[.int .i64 (j:Int)] /\ Owns h hh [.blk m (upBlk ps c),.box (.ptr i4 0 0) [.mp m]] /\ zit ps c /\ (zez ps).Nodup /\ ∀ k,getP ps k=if k∈(I.take j).map Itm.Code then some k else none) I.length ?_ ⟨0,0,[],by simp,rfl,o3,zit.nil 0,.nil,by simp [getP]⟩
 rintro Y n vs hh ⟨j,c,ps,hj,rfl,o,hb,hnd,hg⟩ hY
 simp -dsimp only [zt.l12,zt.k11,V.zec,B.zd]
 have hxx:=hx.mono o.le
 refine B.zr (fun hc=> ?_) (fun hc=> ?_)
 ·rw [decide_eq_true_eq] at hc
  have hc:j<I.length:=by omega
  obtain ⟨t,ht⟩:=ze0 hc
  obtain ⟨a,ea⟩:=hxx.get ht
  have e1:V.idxS 4 x (.int .i64 (j:Int))=some (elp 4 x j 0):=ea.idx
  have e2:A.ldnv hh (elp 4 x j 0) 4=some (.agg [.str t.Code,.int .i64 t.Life,a.1,a.2]):=ea.ldn
  have ca1:a.1.zdd=true:=ea.at_.1.elim fun _ r=>r.zdd
  have ca2:a.2.zdd=true:=ea.at_.2.1.elim fun _ r=>r.zdd
  obtain ⟨_,e,hbx⟩:=o.zom 1 rfl
  cases e
  simp -dsimp [e1,e2,ca1,ca2,zk2 hbx, - V.ze8]
  refine o.mset (κ:=sV) (v:=sV) 0 rfl keyS t.Code t.Code fun h' o' _ _=> ?_
  simp -dsimp only [add1 (show j<4611686018427387904 by omega),B.zd]
  refine hY (I.length-(j+1)) _ _ (by omega) ⟨j+1,_,_,by omega,rfl,o',hb.put t.Code t.Code,zpu hnd t.Code t.Code c,fun k=> ?_⟩
  rw [zlj,hg,take_succ ht]
  simp only [List.map_append,List.map_cons,List.map_nil,List.mem_append,List.mem_singleton]
  by_cases hk:k=t.Code
  ·subst hk
   rw [if_pos rfl,if_pos (.inr rfl)]
  ·rw [if_neg hk]
   by_cases hm:k∈(I.take j).map Itm.Code
   ·rw [if_pos hm,if_pos (.inl hm)]
   ·rw [if_neg hm,if_neg (by rintro (e|e);exact hm e;exact hk e)]
 ·rw [decide_eq_false_iff_not] at hc
  have:j=I.length:=by omega
  subst this
  rw [List.take_length] at hg
  have hks: ∀ k,(k∈I.map Itm.Code)↔k∈zby I:=fun k=>by rw [zey,List.mem_map]
  have hg: ∀ k,getP ps k=if k∈zby I then some k else none:=fun k=>by
   rw [hg]
   by_cases hm:k∈zby I
   ·rw [if_pos hm,if_pos ((hks k).2 hm)]
   ·rw [if_neg hm,if_neg fun e=>hm ((hks k).1 e)]
  have u0:UpIs ps c (fun k=>k∈zby I) (zn1 I (fun k=>k∈zby I) 0 0):=by
   refine ⟨⟨fun k=> ?_,fun k hk=>⟨0,k,by rw [hg,if_pos hk],rfl⟩,fun a b e=> ?_,fun a b e=>(doneE_zero e).elim⟩,hb,hnd⟩
   ·rw [hg]
    constructor
    ·rintro ⟨d,e⟩
     by_cases hm:k∈zby I
     ·exact hm
     ·rw [if_neg hm] at e;cases e
    ·intro hm
     exact ⟨k,by rw [if_pos hm]⟩
   ·rw [hg] at e
    by_cases hm:a∈zby I
    ·rw [if_pos hm] at e;cases e;exact .refl _
    ·rw [if_neg hm] at e;cases e
  simp -dsimp only [zt.k10]
  intro i7 f7
  have o4:=o.zpw f7 [.nilf]
  generalize upd hh i7 (zek [.nilf])=h4 at *
  refine o4.boxSt 2 (off:=0) rfl rfl (by simp) fun h5 o5 _=> ?_
  have o5:Owns h h5 (UpO N m (.ptr i4 0 0) (.ptr i7 0 0) ps c):=o5
  simp -dsimp only [lx,B.zd]
  refine zw.intro (fun n vs hh=> ∃ (j c:Nat) (ps:Ents Key Key),j+n=I.length /\ vs=[.int .i64 (j:Int)] /\ Owns h hh (UpO N m (.ptr i4 0 0) (.ptr i7 0 0) ps c) /\ UpIs ps c (fun k=>k∈zby I) (zn1 I (fun k=>k∈zby I) j 0)) I.length ?_ ⟨0,c,ps,by simp,rfl,o5,u0⟩
  rintro Y n vs h2 ⟨j,c,ps,hj,rfl,o,u⟩ hY
  simp -dsimp only [zt.l9,zt.k8,V.zec,B.zd]
  have hxx:=hx.mono o.le
  refine B.zr (fun hc=> ?_) (fun hc=> ?_)
  ·rw [decide_eq_true_eq] at hc
   have hc:j<I.length:=by omega
   obtain ⟨t,ht⟩:=ze0 hc
   obtain ⟨P0,R0,eP0,sx,at0⟩:=id hx
   obtain ⟨a,hq0⟩: ∃ a,P0[j]? =some (t,a):=by
    rw [<- eP0,List.getElem?_map] at ht
    obtain ⟨q,h1,h2⟩:=Option.map_eq_some_iff.1 ht
    exact ⟨q.2,by rw [h1, <- h2]⟩
   have ea: ∀ {h':za},h.le h'->DEl ze5 h' x j t a:=fun hle=>slX_el (sx.mono hle) (fun p hp=>ze5.mono hle (at0 p hp)) hq0
   have e1:V.idxS 4 x (.int .i64 (j:Int))=some (elp 4 x j 0):=(ea o.le).idx
   have e2:A.ldnv h2 (elp 4 x j 0) 4=some (.agg [.str t.Code,.int .i64 t.Life,a.1,a.2]):=(ea o.le).ldn
   obtain ⟨⟨Rp,hp⟩,⟨Ro,ho⟩,hok⟩:=at0 _ (List.mem_of_getElem? hq0)
   have hp:SlX h 2 a.1 (t.zeg.map Part.cs) Rp:=hp
   have ho:SlX h 1 a.2 (t.zd2.map tc) Ro:=ho
   have ca1:a.1.zdd=true:=hp.zdd
   have ca2:a.2.zdd=true:=ho.zdd
   have lp:=hp.zcw
   have lo:=ho.zcw
   rw [List.length_map] at lp lo
   obtain ⟨ok1,ok2⟩:t.zeg.length <= few /\ t.zd2.length <= few:=hok
   unfold few at ok1 ok2
   have kt:t.Code∈zby I:=zey.2 ⟨t,List.mem_of_getElem? ht,rfl⟩
   simp -dsimp only [zt.k7,e1,e2,B.zd,B.ldn_eq]
   have e3:V.setN 0 4 (.agg [.str t.Code,.int .i64 t.Life,a.1,a.2]) (.agg [.str [],.int .i64 0,.nils,.nils])=some (.agg [.str t.Code,.int .i64 t.Life,a.1,a.2]):=rfl
   simp -dsimp only [e3,B.zd,zt.k6,B.al_agg,V.zkb,List.getElem?_cons_zero,List.getElem?_cons_succ,lp]
   refine zw.intro (fun n vs hh=> ∃ (k c:Nat) (ps:Ents Key Key),k+n=t.zeg.length /\ vs=[.int .i64 (k:Int)] /\ Owns h hh (UpO N m (.ptr i4 0 0) (.ptr i7 0 0) ps c) /\ UpIs ps c (fun k=>k∈zby I) (zn1 I (fun k=>k∈zby I) j k)) t.zeg.length ?_ ⟨0,c,ps,by simp,rfl,o,u⟩
   rintro Y3 n3 vs3 h3 ⟨k,c,ps,hk,rfl,o,u⟩ hY3
   simp -dsimp only [zt.l5,zt.k4,V.zec,B.zd]
   refine B.zr (fun hd=> ?_) (fun hd=> ?_)
   ·rw [decide_eq_true_eq] at hd
    obtain ⟨w,hw⟩:=ze0 (L:=t.zeg) (k:=k) (by omega)
    have f1:V.idxS 2 a.1 (.int .i64 (k:Int))=some (elp 2 a.1 k 0):=hp.idxN (by rw [List.length_map];omega)
    have f2:A.ldnv h3 (elp 2 a.1 k 0) 2=some (.agg w.cs):=(hp.mono o.le).elem (by rw [List.getElem?_map,hw];rfl)
    simp -dsimp [f1,f2, - V.ze8]
    refine s2 h h3 m _ _ ps c t.Code w.Item _ _ _ o u kt fun ps' c' h4 o4 u4=> ?_
    simp -dsimp only [add1 (show k<4611686018427387904 by omega),B.zd]
    refine hY3 (t.zeg.length-(k+1)) _ _ (by omega) ⟨k+1,c',ps',by omega,rfl,o4,u4.uf.cong fun x y=> ?_,u4.zku,u4.nodup⟩
    have hn:(zqg t)[k]? =some w.Item:=by
     unfold zqg
     rw [List.getElem?_append_left (by rw [List.length_map];omega),List.getElem?_map,hw];rfl
    exact zre ht hn x y
   ·rw [decide_eq_false_iff_not] at hd
    have:k=t.zeg.length:=by omega
    subst this
    simp -dsimp only [zt.k3,B.al_agg,V.zkb,List.getElem?_cons_zero,List.getElem?_cons_succ,B.zd,lo]
    refine zw.intro (fun n vs hh=> ∃ (k c:Nat) (ps:Ents Key Key),k+n=t.zd2.length /\ vs=[.int .i64 (k:Int)] /\ Owns h hh (UpO N m (.ptr i4 0 0) (.ptr i7 0 0) ps c) /\ UpIs ps c (fun k=>k∈zby I) (zn1 I (fun k=>k∈zby I) j (t.zeg.length+k))) t.zd2.length ?_ ⟨0,c,ps,by simp,rfl,o,u⟩
    rintro Y2 n2 vs2 h5 ⟨k,c,ps,hk2,rfl,o,u⟩ hY2
    simp -dsimp only [zt.l2,zt.k1,V.zec,B.zd]
    refine B.zr (fun hd=> ?_) (fun hd=> ?_)
    ·rw [decide_eq_true_eq] at hd
     obtain ⟨w,hw⟩:=ze0 (L:=t.zd2) (k:=k) (by omega)
     have f1:V.idxS 1 a.2 (.int .i64 (k:Int))=some (elp 1 a.2 k 0):=ho.idxN (by rw [List.length_map];omega)
     have f2:A.ldv h5 (elp 1 a.2 k 0)=some (.str w):=(ho.mono o.le).cell (by rw [List.getElem?_map,hw];rfl)
     simp -dsimp [f1,f2, - V.ze8]
     refine s2 h h5 m _ _ ps c t.Code w _ _ _ o u kt fun ps' c' h6 o6 u6=> ?_
     simp -dsimp only [add1 (show k<4611686018427387904 by omega),B.zd]
     refine hY2 (t.zd2.length-(k+1)) _ _ (by omega) ⟨k+1,c',ps',by omega,rfl,o6,u6.uf.cong fun x y=> ?_,u6.zku,u6.nodup⟩
     have hn:(zqg t)[t.zeg.length+k]? =some w:=by
      unfold zqg
      rw [List.getElem?_append_right (by rw [List.length_map];omega),List.length_map,show t.zeg.length+k-t.zeg.length=k by omega]
      exact hw
     exact zre ht hn x y
    ·rw [decide_eq_false_iff_not] at hd
     have:k=t.zd2.length:=by omega
     subst this
     simp -dsimp only [add1 (show j<4611686018427387904 by omega),B.zd]
     refine hY (I.length-(j+1)) _ _ (by omega) ⟨j+1,c,ps,by omega,rfl,o,u.uf.cong fun x y=> ?_,u.zku,u.nodup⟩
     have hl:t.zeg.length+t.zd2.length=(zqg t).length:=by simp [zqg]
     rw [hl]
     exact doneE_next ht x y
  ·rw [decide_eq_false_iff_not] at hc
   have:j=I.length:=by omega
   subst this
   obtain ⟨ua,uq⟩:=UpO.at (l:=[]) (by rw [List.append_nil];exact o)
   simp -dsimp only [B.ze4,ua.ptr,uq,B.zd]
   refine zbu (hq m (.ptr i4 0 0) ps c h2 (o.sub ?_) ⟨u.uf.cong fun x y=>doneE_end x y,u.zku,u.nodup⟩)
   exact List.Sublist.cons_cons _ (List.Sublist.cons_cons _ (List.nil_sublist _))
end Go.Ab
namespace Go.Ab
theorem zjn {α:Type} [DecidableEq α] {x:α}: ∀ {L:List α},x∈zeu L↔x∈L
 | []=>Iff.rfl
 | [a]=>Iff.rfl
 | a::b::r=>by
  unfold zeu
  split
  ·rename_i e
   subst e
   rw [zjn]
   simp
  ·rw [List.mem_cons,zjn,List.mem_cons,List.mem_cons,List.mem_cons]
theorem zkp: ∀ {L:List Key},SortedB L->zg1 (zeu L)
 | [],_=> .nil
 | [a],_=>List.pairwise_singleton _ _
 | a::b::r,h=>by
  obtain ⟨h1,h2⟩:=List.pairwise_cons.1 h
  unfold zeu
  split
  ·exact zkp h2
  ·rename_i hne
   refine List.pairwise_cons.2 ⟨fun y hy=> ?_,zkp h2⟩
   have hy:=zjn.1 hy
   have ab:zfu a b=true:=zjo (h1 b (by simp)) (Ne.symm hne)
   rcases List.mem_cons.1 hy with rfl|hy
   ·exact ab
   ·have hby:=(List.pairwise_cons.1 h2).1 y hy
    cases e:zfu a y with
    | true=>rfl
    | false=>
     have:=h1 y (by simp [hy])
     have:a=y:=zkj e this
     subst this
     rw [ab] at hby;cases hby
def zjg (I:List Itm) (l:List Key):List Key:=l.foldl (fun a c=>zjs a (if c∈zby I then zdl I c else [c])) []
theorem zo1 {I:List Itm}: ∀ {l a:List Key},zg1 a->zg1 (l.foldl (fun a c=>zjs a (if c∈zby I then zdl I c else [c])) a) /\ ∀ y,y∈l.foldl (fun a c=>zjs a (if c∈zby I then zdl I c else [c])) a↔y∈a \/ ∃ c∈l,y∈if c∈zby I then zdl I c else [c]
 | [],a,h=>⟨h,fun y=>by simp⟩
 | c::l,a,h=>by
  obtain ⟨h1,h2⟩:=zo1 (I:=I) (l:=l) (zj1 (m:=if c∈zby I then zdl I c else [c]) h)
  refine ⟨h1,fun y=> ?_⟩
  rw [List.foldl_cons,h2,zih]
  constructor
  ·rintro ((h|h)|⟨d,h3,h4⟩)
   ·exact .inl h
   ·exact .inr ⟨c,by simp,h⟩
   ·exact .inr ⟨d,by simp [h3],h4⟩
  ·rintro (h|⟨d,h3,h4⟩)
   ·exact .inl (.inl h)
   ·rcases List.mem_cons.1 h3 with rfl|h3
    ·exact .inl (.inr h4)
    ·exact .inr ⟨d,h3,h4⟩
theorem zk9 (I:List Itm) (l:List Key):zg1 (zjg I l):=(zo1 (I:=I) (l:=l) .nil).1
theorem zpy {I:List Itm} {l:List Key} {y:Key}:y∈zjg I l↔ ∃ c∈l,(c∈zby I /\ Eqv (zig I) c y) \/ (c∉zby I /\ y=c):=by
 have:=(zo1 (I:=I) (l:=l) .nil).2 y
 unfold zjg
 rw [this]
 simp only [List.not_mem_nil,false_or]
 constructor
 ·rintro ⟨c,h1,h2⟩
  refine ⟨c,h1,?_⟩
  by_cases hc:c∈zby I
  ·rw [if_pos hc] at h2
   exact .inl ⟨hc,((zc9 hc).2 y).1 h2⟩
  ·rw [if_neg hc] at h2
   exact .inr ⟨hc,List.mem_singleton.1 h2⟩
 ·rintro ⟨c,h1,h2⟩
  refine ⟨c,h1,?_⟩
  rcases h2 with ⟨hc,h⟩|⟨hc,rfl⟩
  ·rw [if_pos hc];exact ((zc9 hc).2 y).2 h
  ·rw [if_neg hc];simp
theorem Eqv.zk3 {I:List Itm} {a b:Key} (h:Eqv (zig I) a b) (ha:a∈zby I):b∈zby I:=by
 have:a∈zby I↔b∈zby I:=by
  clear ha
  induction h with
  | rel h=>
   obtain ⟨t,ht,e,_,hk⟩:=h
   exact ⟨fun _=>hk,fun _=>zey.2 ⟨t,ht,e⟩⟩
  | refl=>exact Iff.rfl
  | symm _ ih=>exact ih.symm
  | trans _ _ h1 h2=>exact h1.trans h2
 exact this.1 ha
section
variable {h0 h:za} {l:List Ob} {K T:Type} {κ:K->AVal} {v:T->AVal} {ps:Ents K T} {m c:Nat} {Q:zQ}
theorem Owns.znp {J:Ents K T->List Ob->List AVal->Prop} {vs0:List AVal} {Lp:AVal->zG} {REST:AVal->List AVal->AVal->za->(zL)->Prop} (ho:Owns h0 h l) (hbm:h0 m=some (zfm (encM κ v ps) c)) (hb:zit ps c) (hJ:J [] l vs0)
  (heq: ∀ it vs hh Y D l,J D l vs->B.zfc hh it (fun v h2=>REST it vs v h2 Y)->Lp it vs hh Y)
  (hdone: ∀ it hh D l b Y vs,J D l vs->D.Perm ps->Owns h0 hh (l++[.blk it b])->REST (.ptr it 0 0) vs (.tup [.bool false]) hh Y)
  (hstep: ∀ it hh D l b Y vs,∀ p∈ps,J D l vs->(∀ q∈D,q∈ps)->p∉D->D.length<ps.length->Owns h0 hh (l++[.blk it b])->A.zgr hh (.ptr it 0 0)=some (.tup [κ p.1,v p.2.1]) ->
   (∀ h' l' vs',J (D++[p]) l' vs'->Owns h0 h' (l'++[.blk it b])->Y vs' h')->REST (.ptr it 0 0) vs (.tup [.bool true,κ p.1,v p.2.1]) hh Y):
  B.rangeMap h (.mp m) fun v h=>zw (Lp v) vs0 h:=by
 show A.rangeMap h (.mp m) _
 simp only [A.rangeMap,zm1 (ho.le _ _ hbm)]
 intro it hit
 have ho:Owns h0 (upd h it (zgq (.mapIter (some m) c [] c))) (l++[.blk it (zga m c (([]:Ents K T).map (·.2.2)) c)]):=ho.newBlk (b:=zga m c [] c) hit rfl
 refine zw.intro (fun t vs hh=> ∃ (D:Ents K T) (l':List Ob),D.length+t=ps.length /\ J D l' vs /\ (∀ q∈D,q∈ps) /\ (D.map (·.2.2)).Nodup /\ Owns h0 hh (l'++[.blk it (zga m c (D.map (·.2.2)) c)])) ps.length ?_ ⟨[],l,by simp,hJ,by simp,List.Pairwise.nil,ho⟩
 rintro Y t vs hh ⟨D,l',ht,hJ',hD,hnd,o⟩ hY
 refine heq _ _ _ _ _ _ hJ' ?_
 refine o.nextMapB l'.length (seen:=D.map (·.2.2)) (since:=c) (last:=c) (o.le _ _ hbm) (by simp) hb (Nat.le_refl _) (Nat.le_refl _) (fun hall=> ?_) fun p hp hns h' o' hk he=> ?_
 ·exact hdone it hh D l' _ Y vs hJ' (hb.all hD hnd hall) o
 ·have o'':Owns h0 h' (l'++[.blk it (zga m c ((D++[p]).map (·.2.2)) c)]):=by
   have:=o'
   rw [List.set_append_right _ _ (Nat.le_refl _),Nat.sub_self] at this
   simpa using this
  have hpD:p∉D:=fun hm=>hns (List.mem_map.2 ⟨p,hm,rfl⟩)
  have nd2:((D++[p]).map (·.2.2)).Nodup:=by
   rw [List.map_append,List.nodup_append]
   exact ⟨hnd,by simp,fun x hx y hy e=>hns (by rw [List.map_cons,List.map_nil,List.mem_singleton] at hy;rw [<- hy, <- e];exact hx)⟩
  have sub: ∀ q∈D++[p],q∈ps:=fun q hq=>by
   rcases List.mem_append.1 hq with h|h
   ·exact hD q h
   ·rw [List.mem_singleton.1 h];exact hp
  have hl:(D++[p]).length <= ps.length:=List.Nodup.length_le_of_subset (List.Pairwise.of_map (S:=(· ≠ ·)) (fun p:K×T×Nat=>p.2.2) (fun a b h e=>h (by rw [e])) nd2) sub
  rw [List.length_append] at hl
  have hl:D.length+1 <= ps.length:=hl
  exact hstep it h' D l' _ Y vs p hp hJ' hD hpD hl o'' he fun h2 l2 vs2 hJ2 o2=>hY (t-1) _ _ (by omega) ⟨D++[p],l2,by rw [List.length_append,List.length_singleton];omega,hJ2,sub,nd2,o2⟩
end
end Go.Ab
namespace Go.Ab
variable {C:CSem} {N:zN}
def zbg.Spec (C:CSem) (N:zN):Prop:= ∀ (x:AVal) (L:List Key) (R:List (List AVal)) (h:za) (Q:zQ),SlX h 1 x (L.map tc) R->L.length <= 100000000 ->
 (∀ x' h',Owns h h' [.sl 1 x' (L.map tc) []]->Q x' h')->C (N 567) [x] h Q
theorem zbg.spec (i:zbg.Imp C N):zbg.Spec C N:=fun x L R h Q hx hlen hq=>
 i x h Q (zrf seqT hx hlen fun x' h' ho=>zbu (hq x' h' ho))
theorem zo9 {h0 h:za} {x:AVal} {L M:List Key} {R:List (List AVal)} {K:zQ} (s1:zbp.Spec C N) (s2:zbi.Spec C N) (s3:zbg.Spec C N) (ho:Owns h0 h [.sl 1 x (L.map tc) R]) (hl:L.length <= 100000000) (hM:zg1 M) (hm: ∀ y,y∈L↔y∈M)
  (hK: ∀ x' h',Owns h0 h' [.sl 1 x' (M.map tc) []]->K x' h'):B.call C (N 364) [x] h fun _ h=>B.call C (N 365) [x] h fun v h=>B.call C (N 567) [v] h fun w h=>K w h:=by
 refine s1 h0 h x L R _ ho hl fun h1 L1 p1 r1 o1=> ?_
 refine s2 h0 h1 x L1 R _ o1 (by rw [p1.length_eq];exact hl) fun y h2 R2 o2=> ?_
 have e:zeu L1=M:=zif (zkp r1) hM fun y=>by rw [zjn,p1.mem_iff,hm]
 rw [e] at o2
 have hML:M.length <= 100000000:=by
  have:=zog L1
  rw [e,p1.length_eq] at this
  omega
 refine s3 y M R2 h2 _ (o2.slAt 0 rfl) hML fun z h3 o3=> ?_
 exact hK z h3 (o3.back o2.le)
def zcx.Spec (C:CSem) (N:zN):Prop:= ∀ (x y:AVal) (I:List Itm) (L:List Key) (R:List (List AVal)) (h:za) (Q:zQ),Dl ze5 h x I->I.length <= 1000000->SlX h 1 y (L.map tc) R->L.length <= 1000000 ->
 (∀ x' h',Owns h h' [.sl 1 x' ((zjg I L).map tc) []]->Q x' h')->C (N 553) [x,y] h Q
abbrev iV:Int->AVal:=fun n=> .int .i64 n
theorem zcx.spec (i:zcx.Imp C N) (s0:zt.Spec C N) (s1:zcj.Spec C N) (s2:zbp.Spec C N) (s3:zbi.Spec C N) (s4:zbg.Spec C N):zcx.Spec C N:=by
 intro x y I L R h Q hx hI hy hL hq
 apply i
 simp -dsimp only [zcx.cps,zcx.k5]
 refine s0 x I h _ hx (by omega) fun m p ps c h1 o1 hu=> ?_
 obtain ⟨pid,e,bp⟩:=o1.zom 1 rfl
 subst e
 have ua:UpAt h1 (.ptr pid 0 0) m ps c:=⟨by rw [zk2 bp];rfl,o1.at 0 rfl⟩
 simp -dsimp only [V.zfw,List.getElem?_cons_zero,List.getElem?_cons_succ,B.zd]
 refine (Owns.start h1).zl3 sV iV fun w h2 hw o2 _=> ?_
 have hyy:=hy.mono o1.le
 have ly:=hyy.zcw
 rw [List.length_map] at ly
 have ly:=(hy.zcw)
 rw [List.length_map] at ly
 simp -dsimp only [ly,B.zd]
 have o3:Owns h1 h2 [.blk w (zfm (encM sV iV []) 0),.sl 1 .nils [] []]:=o2.nils 1
 refine zw.intro (fun n vs hh=> ∃ (j d:Nat) (qs:Ents Key Int) (out:AVal) (O:List Key),j+n=L.length /\ vs=[out,.int .i64 (j:Int)] /\ Owns h1 hh [.blk w (zfm (encM sV iV qs) d),.sl 1 out (O.map tc) []] /\ O.length <= j /\ (∀ k,k∈O↔k∈L.take j /\ k∉zby I) /\
   (∀ k,0 <= (getP qs k).getD 0 /\ (getP qs k).getD 0 <= j /\ (0<(getP qs k).getD 0↔ ∃ a∈L.take j,∃ n,zgu (getP ps) n a k))) L.length ?_ ⟨0,0,[],.nils,[],by simp,rfl,o3,by simp,by simp,by simp [getP]⟩
 rintro Y n vs hh ⟨j,d,qs,out,O,hj,rfl,o,hO,hmem,hw⟩ hY
 simp -dsimp only [zcx.l4,zcx.k3,V.zec,B.zd]
 refine B.zr (fun hc=> ?_) (fun hc=> ?_)
 ·rw [decide_eq_true_eq] at hc
  obtain ⟨a,ha⟩:=ze0 (L:=L) (k:=j) (by omega)
  have f1:V.idxS 1 y (.int .i64 (j:Int))=some (elp 1 y j 0):=hy.idxN (by rw [List.length_map];omega)
  have f2:A.ldv hh (elp 1 y j 0)=some (.str a):=(hyy.mono o.le).cell (by rw [List.getElem?_map,ha];rfl)
  have uh:=ua.mono o.le
  simp -dsimp only [f1,f2,B.ze4,B.zd,uh.lkp2,V.zfw,List.getElem?_cons_zero,List.getElem?_cons_succ]
  refine B.zr (fun hb=> ?_) (fun hb=> ?_)
  ·have ka:a∈zby I:=(hu.uf.dom a).1 (Option.isSome_iff_exists.1 hb)
   obtain ⟨t,r,hr⟩:=hu.uf.root a ka
   rw [B.zjr]
   refine s1 hh _ m ps c t a r _ uh hr ?_
   have g1:A.lkp hh (some .s) (some (.int .i64 0)) false (.mp w) (.str r)=some (.int .i64 ((getP qs r).getD 0)):=o.lkp (κ:=sV) (v:=iV) 0 rfl keyS 0 r
   obtain ⟨w1,w2,w3⟩:=hw r
   have g2:V.bin .add (.int .i64 ((getP qs r).getD 0)) (.int .i64 1)=some (.int .i64 ((getP qs r).getD 0+1)):=by
    rw [V.ze8,wrap_i64 (by omega) (by omega)]
   simp -dsimp only [g1,g2,B.zd]
   refine o.mset (κ:=sV) (v:=iV) 0 rfl keyS r ((getP qs r).getD 0+1) fun h' o' _ _=> ?_
   simp -dsimp only [add1 (show j<4611686018427387904 by omega),B.zd]
   refine hY (L.length-(j+1)) _ _ (by omega) ⟨j+1,_,_,out,O,by omega,rfl,o',by omega,fun k=> ?_,fun k=> ?_⟩
   ·rw [hmem,take_succ ha]
    constructor
    ·rintro ⟨h1,h2⟩
     exact ⟨List.mem_append_left _ h1,h2⟩
    ·rintro ⟨h1,h2⟩
     rcases List.mem_append.1 h1 with h1|h1
     ·exact ⟨h1,h2⟩
     ·rw [List.mem_singleton.1 h1] at h2;exact absurd ka h2
   ·obtain ⟨k1,k2,k3⟩:=hw k
    rw [zlj,take_succ ha]
    by_cases hk:k=r
    ·subst hk
     rw [if_pos rfl]
     refine ⟨by simp;omega,by simp;omega,⟨fun _=>⟨a,by simp,t,hr⟩,fun _=>by simp;omega⟩⟩
    ·rw [if_neg hk]
     refine ⟨k1,by omega,k3.trans ⟨fun ⟨b,h1,h2⟩=>⟨b,List.mem_append_left _ h1,h2⟩,fun ⟨b,h1,t',h2⟩=> ?_⟩⟩
     rcases List.mem_append.1 h1 with h1|h1
     ·exact ⟨b,h1,t',h2⟩
     ·rw [List.mem_singleton.1 h1] at h2
      exact absurd (h2.det hr).2 hk
  ·have ka:a∉zby I:=fun ka=>by
    obtain ⟨d,e⟩:=(hu.uf.dom a).2 ka
    rw [e] at hb;cases hb
   have hf:zei [(0,none,.str a)] (repL 1 [.str []])=some [.str a]:=rfl
   rw [hf]
   refine o.push 1 rfl (cs:=[.str a]) rfl (by omega) (by simp;omega) (by simp [maxLen];omega) fun out' h' o' _=> ?_
   simp -dsimp only [add1 (show j<4611686018427387904 by omega),B.zd]
   refine hY (L.length-(j+1)) _ _ (by omega) ⟨j+1,d,qs,out',O++[a],by omega,rfl,by rw [List.map_append];exact o',by simp;omega,fun k=> ?_,fun k=> ?_⟩
   ·rw [List.mem_append,hmem,take_succ ha,List.mem_append,List.mem_singleton]
    constructor
    ·rintro (⟨h1,h2⟩|rfl)
     ·exact ⟨.inl h1,h2⟩
     ·exact ⟨.inr rfl,ka⟩
    ·rintro ⟨h1|h1,h2⟩
     ·exact .inl ⟨h1,h2⟩
     ·exact .inr h1
   ·obtain ⟨k1,k2,k3⟩:=hw k
    refine ⟨k1,by omega,k3.trans ?_⟩
    rw [take_succ ha]
    constructor
    ·rintro ⟨b,h1,h2⟩
     exact ⟨b,List.mem_append_left _ h1,h2⟩
    ·rintro ⟨b,h1,t',h2⟩
     rcases List.mem_append.1 h1 with h1|h1
     ·exact ⟨b,h1,t',h2⟩
     ·rw [List.mem_singleton.1 h1] at h2
      exact absurd (h2.isKey hu.uf) ka
 ·rw [decide_eq_false_iff_not] at hc
  have:j=L.length:=by omega
  subst this
  rw [List.take_length] at hmem hw
  have isW: ∀ {a r:Key} {n:Nat},zgu (getP ps) n a r->(0<(getP qs r).getD 0↔ ∃ b∈L,b∈zby I /\ Eqv (zig I) b a):=fun {a r n} hr=>by
   rw [(hw r).2.2]
   constructor
   ·rintro ⟨b,hb,k,hk⟩
    obtain ⟨h1,_,h3⟩:=hu.uf.same.1 (⟨r,k,n,hk,hr⟩:zni (getP ps) b a)
    exact ⟨b,hb,h1,h3⟩
   ·rintro ⟨b,hb,h1,h2⟩
    obtain ⟨q,k,j,h3,h4⟩:=hu.uf.same.2 ⟨h1,hr.isKey hu.uf,h2⟩
    obtain ⟨_,rfl⟩:=h4.det hr
    exact ⟨b,hb,k,h3⟩
  have hps:ps.length <= 1000000:=by
   have e1:ps.length=(zez ps).length:=by simp [zez]
   have e2:(zez ps).length <= (I.map Itm.Code).length:=hu.nodup.length_le_of_subset fun k hk=>by
    have:k∈zby I:=(hu.uf.dom k).1 (Option.isSome_iff_exists.1 (by
     cases e:getP ps k with
     | some _=>rfl
     | none=>exact absurd hk (zm9.1 e)))
    obtain ⟨t,h1,h2⟩:=zey.1 this
    exact List.mem_map.2 ⟨t,h1,h2⟩
   rw [List.length_map] at e2
   omega
  refine Owns.znp (κ:=sV) (v:=sV) (ps:=ps) (c:=c) (J:=fun D l vs=> ∃ (out':AVal) (O':List Key),vs=[out'] /\ l=[.blk w (zfm (encM sV iV qs) d),.sl 1 out' (O'.map tc) []] /\ O'.length <= L.length+D.length /\ ∀ k,k∈O'↔k∈O \/ (k∈D.map (·.1) /\ ∃ b∈L,b∈zby I /\ Eqv (zig I) b k))
   (REST:=fun it vs v h Y=>match vs with
    | [v8]=>B.pv (V.ext 0 v) fun v47=>B.cond v47
     (B.pv (A.zgr h it) fun v48=>B.pv (V.ext 0 v48) fun v49=>B.zf1 h C (.fn (N 577) [] [.ptr pid 0 0]) [v49] fun v53 h=>
      B.pv (A.lkp h (some .s) (some (.int .i64 0)) false (.mp w) v53) fun v54=>B.pv (V.bin .gtr v54 (.int .i64 0)) fun v55=>B.cond v55
      (B.newO h (zei [(0,none,v49)] (repL 1 [.str []])) fun i58 h=>B.appW h 1 16 v8 (.sl i58 0 0 1 1 1) fun v59 h=>Y [v59] h) (Y [v8] h))
     (B.call C (N 364) [v8] h fun v61 h=>B.call C (N 365) [v8] h fun v63 h=>B.call C (N 567) [v63] h fun v64 h=>dn Q v64 h)
    | _=>False) o (ua.map) hu.zku ⟨out,O,rfl,rfl,by simp;omega,fun k=>by simp⟩ ?_ ?_ ?_
  ·rintro it vs h3 Y3 D l ⟨out',O',rfl,_⟩ hn
   exact hn
  ·rintro it h3 D l b Y3 vs ⟨out',O',rfl,rfl,hl,hm⟩ hp ho
   simp -dsimp only [V.zfw,List.getElem?_cons_zero,B.zd,B.cond_false]
   have hsub:Owns h1 h3 ([.sl 1 out' (O'.map tc) []]):=ho.sub (List.Sublist.cons _ (List.Sublist.cons_cons _ (List.nil_sublist _)))
   have hDl:D.length=ps.length:=hp.length_eq
   refine zo9 s2 s3 s4 hsub (by omega) (zk9 I L) (fun k=> ?_) fun x' h4 o4=>zbu (hq x' h4 (o4.back o1.le))
   rw [hm,hmem,zpy]
   constructor
   ·rintro (⟨h1,h2⟩|⟨h1,b,h2,h3,h4⟩)
    ·exact ⟨k,h1,.inr ⟨h2,rfl⟩⟩
    ·exact ⟨b,h2,.inl ⟨h3,h4⟩⟩
   ·rintro ⟨b,h1,⟨h2,h3⟩|⟨h2,rfl⟩⟩
    ·refine .inr ⟨?_,b,h1,h2,h3⟩
     have hk:=h3.zk3 h2
     obtain ⟨v,hv⟩:=(hu.uf.dom k).2 hk
     obtain ⟨n,hn⟩:=getP_mem hv
     exact List.mem_map.2 ⟨(k,v,n),hp.mem_iff.2 hn,rfl⟩
    ·exact .inl ⟨h1,h2⟩
  ·rintro it h3 D l b Y3 vs p hpm ⟨out',O',rfl,rfl,hl,hm⟩ hsub hpD hDl ho he hY3
   have hpk:p.1∈zby I:=(hu.uf.dom p.1).1 ⟨p.2.1,mem_getP hu.nodup hpm⟩
   obtain ⟨t,r,hr⟩:=hu.uf.root p.1 hpk
   have uh:=ua.mono ho.le
   simp -dsimp only [V.zfw,List.getElem?_cons_zero,List.getElem?_cons_succ,B.zd,B.cond_true,he]
   rw [B.zjr]
   refine s1 h3 _ m ps c t p.1 r _ uh hr ?_
   have g1:A.lkp h3 (some .s) (some (.int .i64 0)) false (.mp w) (.str r)=some (.int .i64 ((getP qs r).getD 0)):=ho.lkp (κ:=sV) (v:=iV) 0 rfl keyS 0 r
   simp -dsimp only [g1,B.zd,V.zmq]
   refine B.zr (fun hd=> ?_) (fun hd=> ?_)
   ·rw [decide_eq_true_eq] at hd
    have hf:zei [(0,none,.str p.1)] (repL 1 [.str []])=some [.str p.1]:=rfl
    simp -dsimp only [hf]
    refine ho.push 1 rfl (cs:=[.str p.1]) rfl (by omega) (by simp;omega) (by simp [maxLen];omega) fun out2 h4 o4 _=> ?_
    refine hY3 h4 [.blk w (zfm (encM sV iV qs) d),.sl 1 out2 ((O'++[p.1]).map tc) []] _ ⟨out2,O'++[p.1],rfl,rfl,by simp;omega,fun k=> ?_⟩ (by rw [List.map_append];exact o4)
    rw [List.mem_append,hm,List.map_append,List.mem_append,List.mem_singleton]
    constructor
    ·rintro ((h|⟨h1,h2⟩)|rfl)
     ·exact .inl h
     ·exact .inr ⟨.inl h1,h2⟩
     ·exact .inr ⟨.inr (by simp),(isW hr).1 hd⟩
    ·rintro (h|⟨h1|h1,h2⟩)
     ·exact .inl (.inl h)
     ·exact .inl (.inr ⟨h1,h2⟩)
     ·exact .inr (by simpa using h1)
   ·rw [decide_eq_false_iff_not] at hd
    refine hY3 h3 _ _ ⟨out',O',rfl,rfl,by simp;omega,fun k=> ?_⟩ ho
    rw [hm,List.map_append,List.mem_append]
    constructor
    ·rintro (h|⟨h1,h2⟩)
     ·exact .inl h
     ·exact .inr ⟨.inl h1,h2⟩
    ·rintro (h|⟨h1|h1,h2⟩)
     ·exact .inl h
     ·exact .inr ⟨h1,h2⟩
     ·have:k=p.1:=by simpa using h1
      subst this
      exact absurd ((isW hr).2 h2) hd
end Go.Ab
namespace Go.Ab
variable {C:CSem} {N:zN}
theorem partS:zc0 (opsF 2 24 [.str [],.int .i64 0] 0 []) Part.cs (fun p=> .agg p.cs):=seqF (by omega) (by omega) rfl fun _=>rfl
def zbk.Spec (C:CSem) (N:zN):Prop:= ∀ (x:AVal) (L:List Part) (R:List (List AVal)) (h:za) (Q:zQ),SlX h 2 x (L.map Part.cs) R->L.length <= 100000000 ->
 (∀ x' h',Owns h h' [.sl 2 x' (L.map Part.cs) []]->Q x' h')->C (N 569) [x] h Q
theorem zbk.spec (i:zbk.Imp C N):zbk.Spec C N:=fun x L R h Q hx hlen hq=>
 i x h Q (zrf partS hx hlen fun x' h' ho=>zbu (hq x' h' ho))
def partT (s:Sta) (L:List Key):Sta:={ s with zfz:=s.zfz.filter (fun t=>decide (t.Code∈L)),Lots:=s.Lots.filter (fun t=>decide (t.Item∈L)),zji:=s.zji.filter (fun t=>decide (t.Item∈L)) }
def zb4.Spec (C:CSem) (N:zN):Prop:= ∀ (s:Sta) (x y z w:AVal) (L:List Key) (R:List (List AVal)) (h:za) (Q:zQ),StaAt h s x y z->SlX h 1 w (L.map tc) R->L.length <= 100000000->s.zfz.length+s.Lots.length+s.zji.length <= 1000000 ->
 (∀ x' P y' z' h',P.map (·.1)=(partT s L).zfz->Owns h h' (StaO (partT s L) x' P y' z')->Q (.agg (staCs (partT s L) x' y' z')) h')->C (N 558) [.agg (staCs s x y z),w] h Q
theorem zmo {α:Type} (f:α->Bool) {l:List α} {j:Nat} {a:α} (h:l[j]? =some a):(l.take (j+1)).filter f=(l.take j).filter f++if f a=true then [a] else []:=by
 rw [take_succ h,List.filter_append]
 congr 1
 by_cases hf:f a=true
 ·rw [if_pos hf,List.filter_cons_of_pos hf];rfl
 ·rw [if_neg hf,List.filter_cons_of_neg hf];rfl
theorem zjw {α:Type} (f:α->Bool) (l:List α) (j:Nat):((l.take j).filter f).length <= l.length:=by
 have:=List.length_filter_le f (l.take j)
 rw [List.length_take] at this
 omega
theorem zb4.spec (i:zb4.Imp C N) (s1:zbj.Spec C N) (s2:zbk.Spec C N) (s3:zbg.Spec C N):zb4.Spec C N:=by
 intro s x y z w L R h Q hs hw hL hn hq
 obtain ⟨hI,⟨R2,hy⟩,⟨R3,hz⟩,n1,n2,n3⟩:=hs
 have cx:=hI.zdd
 have cy:=hy.zdd
 have cz:=hz.zdd
 have lx:=hI.zcw
 have ly:=hy.zcw
 have lz:=hz.zcw
 rw [List.length_map] at ly lz
 apply i
 simp -dsimp [cx,cy,cz,lx, - zb4.l6, - zb4.k5]
 refine zw.intro (fun n vs hh=> ∃ (j:Nat) (X:AVal) (P:List (Itm×(AVal×AVal))),j+n=s.zfz.length /\ vs=[.int .i64 (j:Int),.agg [.int .i64 s.Now,.int .i64 s.NextLot,.int .i64 s.zoz,X,.nils,.nils]] /\ P.map (·.1)=(s.zfz.take j).filter (fun t=>decide (t.Code∈L)) /\ Df ze5 h hh X P) s.zfz.length ?_ ⟨0,.nils,[],by simp,rfl,by simp,by simpa [Df,DK.os] using (Owns.start h).nils ze5.n⟩
 rintro Y n vs hh ⟨j,X,P,hj,rfl,eP,o⟩ hY
 have hPl:P.length <= s.zfz.length:=by
  have:=congrArg List.length eP
  rw [List.length_map] at this
  rw [this];exact zjw _ _ _
 have cX:X.zdd=true:=(o.slAt 0 rfl).zdd
 simp -dsimp only [zb4.l6,zb4.k5,V.zec,B.zd]
 refine B.zr (fun hc=> ?_) (fun hc=> ?_)
 ·rw [decide_eq_true_eq] at hc
  obtain ⟨t,ht⟩:=ze0 (L:=s.zfz) (k:=j) (by omega)
  obtain ⟨a,ea⟩:=(hI.mono o.le).get ht
  have e1:V.idxS 4 x (.int .i64 (j:Int))=some (elp 4 x j 0):=ea.idx
  have e2:A.ldnv hh (elp 4 x j 0) 4=some (.agg [.str t.Code,.int .i64 t.Life,a.1,a.2]):=ea.ldn
  obtain ⟨⟨Rp,hp⟩,⟨Ro,ho⟩,hok⟩:(∃ R,SlX hh 2 a.1 (t.zeg.map Part.cs) R) /\ (∃ R,SlX hh 1 a.2 (t.zd2.map tc) R) /\ t.ok:=ea.at_
  have ca1:=hp.zdd
  have ca2:=ho.zdd
  have hf:=zmo (fun t:Itm=>decide (t.Code∈L)) ht
  simp -dsimp [e1,e2,ca1,ca2, - V.ze8]
  refine s1 w L R t.Code hh _ (hw.mono o.le) (by omega) ?_
  refine B.zr (fun hb=> ?_) (fun hb=> ?_)
  ·rw [if_pos hb] at hf
   simp -dsimp [ca1,ca2,cX, - V.ze8]
   have hok':t.zeg.length <= few /\ t.zd2.length <= few:=hok
   unfold few at hok'
   refine s2 a.1 t.zeg Rp hh _ hp (by omega) fun p' h1 o1=> ?_
   have cp':p'.zdd=true:=(o1.slAt 0 rfl).zdd
   simp -dsimp [ca1,ca2,cp',cX, - V.ze8]
   refine s3 a.2 t.zd2 Ro h1 _ (ho.mono o1.le) (by omega) fun q' h2 o2=> ?_
   have cq':q'.zdd=true:=(o2.slAt 0 rfl).zdd
   have hfl:zei [(0,some 4,.agg (ze5.cells t (p',q')))] (repL 1 [.str [],.int .i64 0,.nils,.nils])=some (ze5.cells t (p',q')):=fill_agg ze5 t (p',q')
   have hfl:zei [(0,some 4,.agg [.str t.Code,.int .i64 t.Life,p',q'])] (repL 1 [.str [],.int .i64 0,.nils,.nils])=some [.str t.Code,.int .i64 t.Life,p',q']:=hfl
   simp -dsimp [cp',cq',cX,hfl, - V.ze8]
   have o3:=Owns.join o (o1.join o2)
   refine o3.push 0 rfl (cs:=[.str t.Code,.int .i64 t.Life,p',q']) rfl (by decide) (by simp;omega) (by simp [maxLen];omega) fun X' h3 o4 _=> ?_
   have cX':X'.zdd=true:=(o4.slAt 0 rfl).zdd
   simp -dsimp [cX', - V.ze8]
   rw [add1 (show j<4611686018427387904 by omega)]
   simp -dsimp only [B.zd]
   refine hY (s.zfz.length-(j+1)) _ _ (by omega) ⟨j+1,X',P++[(t,(p',q'))],by omega,rfl,by rw [hf, <- eP,List.map_append];rfl,?_⟩
   unfold Df
   rw [DK.zpq,DK.os_one,List.map_append]
   exact o4
  ·rw [if_neg (by rw [hb];exact Bool.false_ne_true),List.append_nil] at hf
   simp -dsimp only [add1 (show j<4611686018427387904 by omega),B.zd]
   exact hY (s.zfz.length-(j+1)) _ _ (by omega) ⟨j+1,X,P,by omega,rfl,by rw [hf];exact eP,o⟩
 ·rw [decide_eq_false_iff_not] at hc
  have:j=s.zfz.length:=by omega
  subst this
  rw [List.take_length] at eP
  simp -dsimp [cy,ly, - zb4.l4, - zb4.k3]
  have o0:Owns h hh ([.sl 4 X (P.map ze5.cs) [],.sl 6 .nils [] []]++ze5.os false P):=(Owns.nils o 6).perm ((List.perm_append_comm (l₁:=ze5.os false P) (l₂:=[Ob.sl 6 .nils [] []])).cons _)
  refine zw.intro (fun n vs hh=> ∃ (j:Nat) (Yv:AVal),j+n=s.Lots.length /\ vs=[.int .i64 (j:Int),.agg [.int .i64 s.Now,.int .i64 s.NextLot,.int .i64 s.zoz,X,Yv,.nils]] /\ Owns h hh ([.sl 4 X (P.map ze5.cs) [],.sl 6 Yv (((s.Lots.take j).filter (fun t=>decide (t.Item∈L))).map Lot.cs) []]++ze5.os false P)) s.Lots.length ?_ ⟨0,.nils,by simp,rfl,by simpa using o0⟩
  rintro Y2 n vs h2 ⟨j,Yv,hj2,rfl,o⟩ hY2
  have cYv:Yv.zdd=true:=(o.slAt 1 rfl).zdd
  have hQl:=zjw (fun t:Lot=>decide (t.Item∈L)) s.Lots j
  simp -dsimp only [zb4.l4,zb4.k3,V.zec,B.zd]
  refine B.zr (fun hc=> ?_) (fun hc=> ?_)
  ·rw [decide_eq_true_eq] at hc
   obtain ⟨t,ht⟩:=ze0 (L:=s.Lots) (k:=j) (by omega)
   have f1:V.idxS 6 y (.int .i64 (j:Int))=some (elp 6 y j 0):=hy.idxN (by rw [List.length_map];omega)
   have f2:A.ldnv h2 (elp 6 y j 0) 6=some (.agg t.cs):=(hy.mono o.le).elem (by rw [List.getElem?_map,ht];rfl)
   have hf:=zmo (fun t:Lot=>decide (t.Item∈L)) ht
   simp -dsimp [f1,f2, - V.ze8]
   refine s1 w L R t.Item h2 _ (hw.mono o.le) (by omega) ?_
   refine B.zr (fun hb=> ?_) (fun hb=> ?_)
   ·rw [if_pos hb] at hf
    simp -dsimp [cX,cYv,repL, - V.ze8]
    refine o.push 1 rfl (cs:=t.cs) rfl (by decide) (by simp;omega) (by simp [maxLen];omega) fun Y' h3 o4 _=> ?_
    have cY':Y'.zdd=true:=(o4.slAt 1 rfl).zdd
    simp -dsimp [cY', - V.ze8]
    rw [add1 (show j<4611686018427387904 by omega)]
    simp -dsimp only [B.zd]
    refine hY2 (s.Lots.length-(j+1)) _ _ (by omega) ⟨j+1,Y',by omega,rfl,?_⟩
    rw [hf,List.map_append]
    exact o4
   ·rw [if_neg (by rw [hb];exact Bool.false_ne_true),List.append_nil] at hf
    simp -dsimp only [add1 (show j<4611686018427387904 by omega),B.zd]
    exact hY2 (s.Lots.length-(j+1)) _ _ (by omega) ⟨j+1,Yv,by omega,rfl,by rw [hf];exact o⟩
  ·rw [decide_eq_false_iff_not] at hc
   have:j=s.Lots.length:=by omega
   subst this
   rw [List.take_length] at o
   simp -dsimp [cz,lz, - zb4.l2, - zb4.k1]
   have o0:Owns h h2 ([.sl 4 X (P.map ze5.cs) [],.sl 6 Yv ((s.Lots.filter (fun t=>decide (t.Item∈L))).map Lot.cs) [],.sl 8 .nils [] []]++ze5.os false P):=by
    have:=Owns.nils o 8
    exact this.perm (((List.perm_append_comm (l₁:=ze5.os false P) (l₂:=[Ob.sl 8 .nils [] []])).cons _).cons _)
   refine zw.intro (fun n vs hh=> ∃ (j:Nat) (Zv:AVal),j+n=s.zji.length /\ vs=[.int .i64 (j:Int),.agg [.int .i64 s.Now,.int .i64 s.NextLot,.int .i64 s.zoz,X,Yv,Zv]] /\ Owns h hh ([.sl 4 X (P.map ze5.cs) [],.sl 6 Yv ((s.Lots.filter (fun t=>decide (t.Item∈L))).map Lot.cs) [],.sl 8 Zv (((s.zji.take j).filter (fun t=>decide (t.Item∈L))).map Line.cs) []]++ze5.os false P)) s.zji.length ?_ ⟨0,.nils,by simp,rfl,by simpa using o0⟩
   rintro Y3 n vs h3 ⟨j,Zv,hj3,rfl,o⟩ hY3
   have cZv:Zv.zdd=true:=(o.slAt 2 rfl).zdd
   have hQl:=zjw (fun t:Line=>decide (t.Item∈L)) s.zji j
   simp -dsimp only [zb4.l2,zb4.k1,V.zec,B.zd]
   refine B.zr (fun hc=> ?_) (fun hc=> ?_)
   ·rw [decide_eq_true_eq] at hc
    obtain ⟨t,ht⟩:=ze0 (L:=s.zji) (k:=j) (by omega)
    have f1:V.idxS 8 z (.int .i64 (j:Int))=some (elp 8 z j 0):=hz.idxN (by rw [List.length_map];omega)
    have f2:A.ldnv h3 (elp 8 z j 0) 8=some (.agg t.cs):=(hz.mono o.le).elem (by rw [List.getElem?_map,ht];rfl)
    have hf:=zmo (fun t:Line=>decide (t.Item∈L)) ht
    simp -dsimp [f1,f2, - V.ze8]
    refine s1 w L R t.Item h3 _ (hw.mono o.le) (by omega) ?_
    refine B.zr (fun hb=> ?_) (fun hb=> ?_)
    ·rw [if_pos hb] at hf
     simp -dsimp [cX,cYv,cZv,repL, - V.ze8]
     refine o.push 2 rfl (cs:=t.cs) rfl (by decide) (by simp;omega) (by simp [maxLen];omega) fun Z' h4 o4 _=> ?_
     have cZ':Z'.zdd=true:=(o4.slAt 2 rfl).zdd
     simp -dsimp [cZ', - V.ze8]
     rw [add1 (show j<4611686018427387904 by omega)]
     simp -dsimp only [B.zd]
     refine hY3 (s.zji.length-(j+1)) _ _ (by omega) ⟨j+1,Z',by omega,rfl,?_⟩
     rw [hf,List.map_append]
     exact o4
    ·rw [if_neg (by rw [hb];exact Bool.false_ne_true),List.append_nil] at hf
     simp -dsimp only [add1 (show j<4611686018427387904 by omega),B.zd]
     exact hY3 (s.zji.length-(j+1)) _ _ (by omega) ⟨j+1,Zv,by omega,rfl,by rw [hf];exact o⟩
   ·rw [decide_eq_false_iff_not] at hc
    have:j=s.zji.length:=by omega
    subst this
    rw [List.take_length] at o
    simp -dsimp [cX,cYv,cZv]
    exact zbu (hq X P Yv Zv h3 eP o)
end Go.Ab
namespace Go.Ab
variable {C:CSem} {N:zN}
def zd6.Spec (C:CSem) (N:zN):Prop:= ∀ (x y:AVal) (L M Z:List Key) (R S:List (List AVal)) (h:za) (Q:zQ),SlX h 1 x (L.map tc) R->SlX h 1 y (M.map tc) S->L.length+M.length <= 10000000->zg1 Z->(∀ k,k∈L++M↔k∈Z) ->
 (∀ x' h',Owns h h' [.sl 1 x' (Z.map tc) []]->Q x' h')->C (N 570) [x,y] h Q
theorem zd6.spec (i:zd6.Imp C N) (s0:zl.Spec C N) (s1:zbp.Spec C N) (s2:zbi.Spec C N) (s3:zbg.Spec C N):zd6.Spec C N:=by
 intro x y L M Z R S h Q hx hy hl hZ hm hq
 have cx:=hx.zdd
 have cy:=hy.zdd
 apply i
 simp -dsimp [cx,cy,repL]
 intro i8 f8
 have o1:Owns h _ [.sl 1 (.sl i8 0 0 2 1 2) [[x],[y]] []]:=(Owns.start h).zqk (id:=i8) (n:=2) (cp:=2) (es:=1) (cs:=[x,y]) (L:=[[x],[y]]) (R:=[]) f8 (by simp) rfl (by simp) rfl
 generalize upd h i8 (zek [x,y])=h1 at *
 refine s0 (.sl i8 0 0 2 1 2) [x,y] [L,M] [] h1 _ (o1.slAt 0 rfl) rfl (fun j v l hv hl=> ?_) (by simp) (by simp;omega) fun x' h2 R' o2=> ?_
 ·match j,hv,hl with
  | 0,hv,hl=>cases hv;cases hl;exact ⟨R,hx.mono o1.le⟩
  | 1,hv,hl=>cases hv;cases hl;exact ⟨S,hy.mono o1.le⟩
  | j+2,hv,_=>simp at hv
 have e:[L,M].flatten=L++M:=by simp
 rw [e] at o2
 exact zo9 s1 s2 s3 o2 (by simp;omega) hZ hm fun z h3 o3=>zbu (hq z h3 (o3.back o1.le))
structure AskC (cs:List AVal) (k:UInt8) (item:Key) (lot line:Int):Prop where
 len:cs.length=11
 kind:cs[0]? =some (.int .u8 (k.toNat:Int))
 item:cs[2]? =some (.str item)
 lot:cs[7]? =some (.int .i64 lot)
 line:cs[8]? =some (.int .i64 line)
theorem askLd {h:za} {id:Nat} {cs:List AVal} (hb:h id=some (zek cs)) {j:Nat} {v:AVal} (hv:cs[j]? =some v):A.ldv h (.ptr id 0 j)=some v:=by rw [zk2 hb];exact hv
def z8.Spec (C:CSem) (N:zN):Prop:= ∀ (x f:AVal) (p:Lot->Bool) (L:List Lot) (R:List (List AVal)) (h:za) (Q:zQ),SlX h 6 x (L.map Lot.cs) R->L.length<4611686018427387904->AskSpec C (fun w:Lot=> .agg w.cs) f p h ->
 Q (.int .i64 (idxI p L)) h->C (N 572) [x,f] h Q
theorem z8.spec (i:z8.Imp C N):z8.Spec C N:=by
 intro x f p L R h Q hx hlen hf hq
 exact i _ _ _ _ (zqm lotS hx hlen hf (zbu hq))
def zdu.Spec (C:CSem) (N:zN):Prop:= ∀ (w:Lot) (lot:Int) (id:Nat) (cs:List AVal) (h:za) (Q:zQ),h id=some (zek cs)->cs[7]? =some (.int .i64 lot)->Q (.bool (decide (w.Id=lot))) h->C (N 571) [.agg w.cs,.ptr id 0 0] h Q
theorem zdu.spec (i:zdu.Imp C N):zdu.Spec C N:=by
 intro w lot id cs h Q hb hv hq
 apply i
 simp -dsimp [askLd hb hv]
 exact zbu hq
def zdt.Spec (C:CSem) (N:zN):Prop:= ∀ (w:Line) (line:Int) (id:Nat) (cs:List AVal) (h:za) (Q:zQ),h id=some (zek cs)->cs[8]? =some (.int .i64 line)->Q (.bool (decide (w.Id=line))) h->C (N 573) [.agg w.cs,.ptr id 0 0] h Q
theorem zdt.spec (i:zdt.Imp C N):zdt.Spec C N:=by
 intro w line id cs h Q hb hv hq
 apply i
 simp -dsimp [askLd hb hv]
 exact zbu hq
def zdv.Spec (C:CSem) (N:zN):Prop:= ∀ (t:Itm) (a:AVal×AVal) (item:Key) (id:Nat) (cs:List AVal) (h:za) (Q:zQ),ze5.at_ h t a->h id=some (zek cs)->cs[2]? =some (.str item)->Q (.bool (decide (t.Code=item))) h->C (N 574) [.agg (ze5.cells t a),.ptr id 0 0] h Q
theorem zdv.spec (i:zdv.Imp C N):zdv.Spec C N:=by
 intro t a item id cs h Q ha hb hv hq
 obtain ⟨⟨R1,a1⟩,⟨R2,a2⟩,_⟩:(∃ R,SlX h 2 a.1 (t.zeg.map Part.cs) R) /\ (∃ R,SlX h 1 a.2 (t.zd2.map tc) R) /\ t.ok:=ha
 have c1:=a1.zdd
 have c2:=a2.zdd
 apply i
 simp -dsimp [ze5,c1,c2,askLd hb hv]
 exact zbu hq
end Go.Ab
namespace Go.Ab
variable {C:CSem} {N:zN}
def z7.Spec (C:CSem) (N:zN):Prop:= ∀ (x:AVal) (c:Key) (id:Nat) (cs:List AVal) (L:List Itm) (h:za) (Q:zQ),Dl ze5 h x L->L.length <= 100000000->h id=some (zek cs)->cs[2]? =some (.str c) ->
 Q (.bool (decide (c∈zby L))) h->C (N 575) [x,.fn (N 574) [] [.ptr id 0 0]] h Q
theorem z7.spec (i:z7.Imp C N) (i2:zbe.Imp C N) (s1:zdv.Spec C N):z7.Spec C N:=by
 intro x c id cs L h Q hx hlen hid hv hq
 apply i
 simp -dsimp only [z7.cps,zim.cps]
 refine i2 _ _ _ _ ?_
 simp -dsimp only [zbe.cps,zb3.cps,hx.zcw,B.zd]
 refine zw.intro (fun t vs hh=>hh=h /\ ∃ k:Nat,k+t=L.length /\ vs=[.int .i64 (k:Int)] /\ ∀ i,i<k-> ∀ a,L[i]? =some a->a.Code≠c) L.length ?_ ⟨rfl,0,by omega,rfl,fun i hi=>by omega⟩
 rintro Y t vs h ⟨rfl,k,ht,rfl,hno⟩ hY
 simp -dsimp only [zb3.l2,zb3.k1,lssN,B.zd]
 refine B.zr (fun hb=> ?_) (fun hb=> ?_)<;>simp only [decide_eq_true_eq,decide_eq_false_iff_not] at hb
 ·obtain ⟨p,o,e1,e2,_,_,_,_,_,_,ha⟩:=zp5 hx (List.getElem?_eq_getElem hb)
  simp -dsimp only [opsF,e1,B.zd,B.ldn_eq,e2]
  refine s1 _ _ c id cs _ _ ha hid hv ?_
  refine B.zr (fun hc=> ?_) (fun hc=> ?_)
  ·have hm:c∈zby L:=zey.2 ⟨L[k],List.getElem_mem hb,by simpa using hc⟩
   rw [decide_eq_true hm] at hq
   have hk:decide ((0:Int) <= (k:Int))=true:=by simp
   refine zbu ?_
   simp -dsimp only [V.zgb,hk,B.zd]
   exact zbu hq
  ·simp -dsimp only [add1 (show k<4611686018427387904 by omega),B.zd]
   refine hY (L.length-(k+1)) _ _ (by omega) ⟨rfl,k+1,by omega,rfl,fun i hi a hia=> ?_⟩
   by_cases e:i=k
   ·subst e;rw [List.getElem?_eq_getElem hb] at hia;cases hia;simpa using hc
   ·exact hno i (by omega) a hia
 ·have hm:c∉zby L:=fun hm=>by
   obtain ⟨t,h1,h2⟩:=zey.1 hm
   obtain ⟨j,hj,rfl⟩:=List.getElem_of_mem h1
   exact hno j (by omega) _ (List.getElem?_eq_getElem hj) h2
  rw [decide_eq_false hm] at hq
  refine zbu ?_
  simp -dsimp
  exact zbu hq
def zoj:List Key:=[[42]]
def lotT:Key:=[35,108,111,116]
def lineT:Key:=[35,108,105,110,101]
def zgs (s:Sta) (k:UInt8) (item:Key) (lot line:Int):List Key:=
 if k=4 \/ k=5 then if item∈zby s.zfz then putT (zjg s.zfz [item]) lotT else zoj
 else if k=9 then if item∈zby s.zfz then putT (zjg s.zfz [item]) lineT else zoj
 else if k=13 \/ k=15 then if item∈zby s.zfz then zjg s.zfz [item] else zoj
 else if k=6 \/ k=7 \/ k=8 then match s.Lots.find? (fun l=>decide (l.Id=lot)) with|some t=>zjg s.zfz [t.Item]|none=>zoj
 else if k=10 \/ k=11 \/ k=14 then match s.zji.find? (fun l=>decide (l.Id=line)) with|some t=>zjg s.zfz [t.Item]|none=>zoj
 else if k<1 \/ 15<k then [] else zoj
def zn.Spec (C:CSem) (N:zN):Prop:= ∀ (s:Sta) (x y z:AVal) (cs:List AVal) (k:UInt8) (item:Key) (lot line:Int) (h:za) (Q:zQ),StaAt h s x y z->s.zfz.length <= 100000->AskC cs k item lot line ->
 (∀ x' h',Owns h h' [.sl 1 x' ((zgs s k item lot line).map tc) []]->Q x' h')->C (N 559) [.agg (staCs s x y z),.agg cs] h Q
theorem find_idx {α:Type} {p:α->Bool} {L:List α}:(L.find? p=none /\ idxI p L= -1) \/ ∃ (k:Nat) (t:α),L.find? p=some t /\ idxI p L=k /\ L[k]? =some t:=by
 unfold idxI
 cases e:L.findIdx? p with
 | none=>
  rw [List.findIdx?_eq_none_iff] at e
  exact .inl ⟨List.find?_eq_none.2 fun x hx=>by simp [e x hx],rfl⟩
 | some k=>
  rw [List.findIdx?_eq_some_iff_getElem] at e
  obtain ⟨h1,h2,h3⟩:=e
  refine .inr ⟨k,L[k],?_,rfl,List.getElem?_eq_getElem h1⟩
  rw [List.find?_eq_some_iff_getElem]
  exact ⟨h2,k,h1,rfl,fun j hj=>by simpa using h3 j hj⟩
theorem zi1 (I:List Itm):(zby I).length <= I.length:=by
 have:=(zfb (zjb I)).length_le_of_subset (l₂:=I.map Itm.Code) fun k hk=>by
  obtain ⟨t,h1,h2⟩:=zey.1 hk
  exact List.mem_map.2 ⟨t,h1,h2⟩
 rwa [List.length_map] at this
theorem withT_len (I:List Itm) (c:Key):(zjg I [c]).length <= I.length+1:=by
 have h:=(zfb (zk9 I [c])).length_le_of_subset (l₂:=c::zby I) fun k hk=>by
  obtain ⟨d,h1,h2⟩:=zpy.1 hk
  rw [List.mem_singleton.1 h1] at h2
  rcases h2 with ⟨h2,h3⟩|⟨_,rfl⟩
  ·exact List.mem_cons_of_mem _ (h3.zk3 h2)
  ·exact List.mem_cons_self ..
 have:=zi1 I
 rw [List.length_cons] at h
 omega
theorem zn.spec (i:zn.Imp C N) (s1:z7.Spec C N) (s2:zcx.Spec C N) (s3:zd6.Spec C N) (s4:z8.Spec C N) (s5:zy.Spec C N) (s6:zdu.Spec C N) (s7:zdt.Spec C N):zn.Spec C N:=by
 intro s x y z cs k item lot line h Q hs hn hc hq
 obtain ⟨hI,⟨R2,hy⟩,⟨R3,hz⟩,n1,n2,n3⟩:=hs
 have cx:=hI.zdd
 have cy:=hy.zdd
 have cz:=hz.zdd
 have hcl:=hc.len
 apply i
 simp -dsimp [cx,cy,cz, - zn.k11]
 simp -dsimp only [A.znh,hcl,if_true]
 intro i3 f3
 have o1:=(Owns.start h).zpw f3 cs
 generalize upd h i3 (zek cs)=h1 at *
 obtain ⟨_,e,hb⟩:=o1.zom 0 rfl
 cases e
 have hx1:=hI.mono o1.le
 have lkind: ∀ {h'},h1.le h'->A.ldv h' (.ptr i3 0 0)=some (.int .u8 (k.toNat:Int)):=fun hle=>askLd (hle _ _ hb) hc.kind
 have litem: ∀ {h'},h1.le h'->A.ldv h' (.ptr i3 0 2)=some (.str item):=fun hle=>askLd (hle _ _ hb) hc.item
 have kq: ∀ n:Nat,n<256->(((k.toNat:Nat):Int)=(n:Int)↔k=UInt8.ofNat n):=fun n hn=>by
  constructor
  ·intro e
   have:k.toNat=n:=by omega
   rw [<- this];simp
  ·intro e
   rw [e]
   have:(UInt8.ofNat n).toNat=n:=by simp;omega
   rw [this]
 have star: ∀ h',h1.le h'->zgs s k item lot line=(if k<1 \/ 15<k then [] else zoj)->zn.k1 C N (dn Q) (.ptr i3 0 0) h':=by
  intro h' hle hcod
  have hh:h.le h':=za.le_trans o1.le hle
  have l1:(k.toNat:Int)<1↔k<1:=by rw [UInt8.lt_iff_toNat_lt,show (1:UInt8).toNat=1 from rfl];omega
  have l2:(15:Int)<(k.toNat:Int)↔15<k:=by rw [UInt8.lt_iff_toNat_lt,show (15:UInt8).toNat=15 from rfl];omega
  by_cases hk:k<1 \/ 15<k
  ·rw [if_pos hk] at hcod
   rw [hcod] at hq
   have fin:dn Q .nils h':=dn_le hh (hq .nils h ((Owns.start h).nils 1))
   by_cases hk1:k<1
   ·simp -dsimp [lkind hle,l1,hk1]
    exact fin
   ·have hk2:15<k:=hk.resolve_left hk1
    simp -dsimp [lkind hle,l1,l2,hk1,hk2]
    exact fin
  ·rw [if_neg hk] at hcod
   rw [hcod] at hq
   have hk1: ¬ k<1:=fun e=>hk (.inl e)
   have hk2: ¬ 15<k:=fun e=>hk (.inr e)
   simp -dsimp [lkind hle,l1,l2,hk1,hk2,repL]
   intro i95 f95
   have o2:=(Owns.start h').zqk (id:=i95) (n:=1) (cp:=1) (es:=1) (cs:=[.str [42]]) (L:=[[.str [42]]]) (R:=[]) f95 (by simp) rfl (by simp) rfl
   exact zbu (hq _ _ (o2.back hh))
 simp -dsimp only [zn.k11,B.al_agg,V.zkb,List.getElem?_cons_zero,List.getElem?_cons_succ,B.zd]
 refine s1 x item i3 cs s.zfz h1 _ hx1 (by omega) hb hc.item ?_
 simp -dsimp only [V.fieldAddr_ptr,Nat.zero_add,B.ze4,lkind (za.le_refl h1),B.zd]
 have wth: ∀ (c:Key) (h':za) (id:Nat) (K:zQ),h1.le h'->h' id=none->(∀ v h2,Owns h1 h2 [.sl 1 v ((zjg s.zfz [c]).map tc) []]->K v h2)->C (N 553) [x,.sl id 0 0 1 1 1] (upd h' id (zek [.str c])) K:=by
  intro c h' id K hle hid hK
  have o2:=(Owns.start h').zqk (id:=id) (n:=1) (cp:=1) (es:=1) (cs:=[.str c]) (L:=[c].map tc) (R:=[]) hid (by simp [tc]) rfl (by simp) rfl
  have le2:=za.le_trans hle o2.le
  exact s2 x _ s.zfz [c] [] _ K (hx1.mono le2) (by omega) (o2.slAt 0 rfl) (by simp) fun v h2 o3=>hK v h2 (o3.back le2)
 have wl:=withT_len s.zfz item
 have more: ∀ (m:Key) (v:AVal) (h2:za) (id:Nat) (K:zQ),Owns h1 h2 [.sl 1 v ((zjg s.zfz [item]).map tc) []]->h2 id=none->(∀ v' h3,Owns h1 h3 [.sl 1 v' ((putT (zjg s.zfz [item]) m).map tc) []]->K v' h3)->C (N 570) [v,.sl id 0 0 1 1 1] (upd h2 id (zek [.str m])) K:=by
  intro m v h2 id K o2 hid hK
  have o3:=o2.zqk (id:=id) (n:=1) (cp:=1) (es:=1) (cs:=[.str m]) (L:=[m].map tc) (R:=[]) hid (by simp [tc]) rfl (by simp) rfl
  refine s3 v _ (zjg s.zfz [item]) [m] (putT (zjg s.zfz [item]) m) [] [] _ K (o3.slAt 0 rfl) (o3.slAt 1 rfl) (by simp;omega) (zmt (zk9 _ _)) (fun k=> ?_) fun v' h3 o4=>hK v' h3 (o4.back o3.le)
  rw [List.mem_append,List.mem_singleton,zot]
  exact Or.comm
 by_cases h4:k=4 \/ k=5
 ·have hcod:zgs s k item lot line=if item∈zby s.zfz then putT (zjg s.zfz [item]) lotT else zoj:=by unfold zgs;rw [if_pos h4]
  have k2:zn.k2 C N (dn Q) (.ptr i3 0 0) (.bool (decide (item∈zby s.zfz))) (.agg (staCs s x y z)) h1:=by
   refine B.zr (fun hm=> ?_) (fun hm=> ?_)
   ·rw [if_pos (of_decide_eq_true hm)] at hcod
    rw [hcod] at hq
    simp -dsimp [litem (za.le_refl h1),repL, - zn.k1]
    intro i22 f22
    refine wth item h1 i22 _ (za.le_refl h1) f22 fun v h2 o2=> ?_
    simp -dsimp [repL]
    intro i24 f24
    exact more lotT v h2 i24 _ o2 f24 fun v' h3 o3=>zbu (hq v' h3 (o3.back o1.le))
   ·rw [if_neg (of_decide_eq_false hm)] at hcod
    refine star h1 (za.le_refl h1) ?_
    rw [hcod,if_neg]
    rcases h4 with rfl|rfl<;>decide
  rcases h4 with rfl|rfl
  ·simp -dsimp [zn.k10, - zn.k2, - zn.k1]
   exact k2
  ·simp -dsimp [zn.k10, - zn.k2, - zn.k1]
   exact k2
 have a4:k≠4:=fun e=>h4 (.inl e)
 have a5:k≠5:=fun e=>h4 (.inr e)
 have q4:decide ((k.toNat:Int)=4)=false:=decide_eq_false fun e=>a4 ((kq 4 (by omega)).1 e)
 have q5:decide ((k.toNat:Int)=5)=false:=decide_eq_false fun e=>a5 ((kq 5 (by omega)).1 e)
 simp -dsimp only [zn.k10,V.zfy,q4,q5,B.zd,B.cond_false]
 by_cases h9:k=9
 ·subst h9
  have hcod:zgs s 9 item lot line=if item∈zby s.zfz then putT (zjg s.zfz [item]) lineT else zoj:=by unfold zgs;rw [if_neg h4,if_pos rfl]
  have e9:decide ((((9:UInt8).toNat:Nat):Int)=9)=true:=by decide
  simp -dsimp only [e9,B.cond_true]
  refine B.zr (fun hm=> ?_) (fun hm=> ?_)
  ·rw [if_pos (of_decide_eq_true hm)] at hcod
   rw [hcod] at hq
   simp -dsimp [litem (za.le_refl h1),repL, - zn.k1]
   intro i22 f22
   refine wth item h1 i22 _ (za.le_refl h1) f22 fun v h2 o2=> ?_
   simp -dsimp [repL]
   intro i24 f24
   exact more lineT v h2 i24 _ o2 f24 fun v' h3 o3=>zbu (hq v' h3 (o3.back o1.le))
  ·rw [if_neg (of_decide_eq_false hm)] at hcod
   refine star h1 (za.le_refl h1) ?_
   rw [hcod,if_neg (by decide)]
 have q9:decide ((k.toNat:Int)=9)=false:=decide_eq_false fun e=>h9 ((kq 9 (by omega)).1 e)
 simp -dsimp only [q9,B.cond_false,zn.k9,V.zfy,B.zd]
 by_cases h13:k=13 \/ k=15
 ·have hcod:zgs s k item lot line=if item∈zby s.zfz then zjg s.zfz [item] else zoj:=by unfold zgs;rw [if_neg h4,if_neg h9,if_pos h13]
  have k4:zn.k4 C N (dn Q) (.ptr i3 0 0) (.bool (decide (item∈zby s.zfz))) (.agg (staCs s x y z)) h1:=by
   refine B.zr (fun hm=> ?_) (fun hm=> ?_)
   ·rw [if_pos (of_decide_eq_true hm)] at hcod
    rw [hcod] at hq
    simp -dsimp [litem (za.le_refl h1),repL, - zn.k1]
    intro i22 f22
    exact wth item h1 i22 _ (za.le_refl h1) f22 fun v h2 o2=>zbu (hq v h2 (o2.back o1.le))
   ·rw [if_neg (of_decide_eq_false hm)] at hcod
    refine star h1 (za.le_refl h1) ?_
    rw [hcod,if_neg]
    rcases h13 with rfl|rfl<;>decide
  rcases h13 with rfl|rfl
  ·simp -dsimp [- zn.k4, - zn.k1]
   exact k4
  ·simp -dsimp [- zn.k4, - zn.k1]
   exact k4
 have a13:k≠13:=fun e=>h13 (.inl e)
 have a15:k≠15:=fun e=>h13 (.inr e)
 have q13:decide ((k.toNat:Int)=13)=false:=decide_eq_false fun e=>a13 ((kq 13 (by omega)).1 e)
 have q15:decide ((k.toNat:Int)=15)=false:=decide_eq_false fun e=>a15 ((kq 15 (by omega)).1 e)
 simp -dsimp only [q13,q15,B.cond_false,zn.k8,V.zfy,B.zd]
 by_cases h6:k=6 \/ k=7 \/ k=8
 ·have hcod:zgs s k item lot line=match s.Lots.find? (fun l=>decide (l.Id=lot)) with|some t=>zjg s.zfz [t.Item]|none=>zoj:=by unfold zgs;rw [if_neg h4,if_neg h9,if_neg h13,if_pos h6]
  have k5:zn.k5 C N (dn Q) (.ptr i3 0 0) (.agg (staCs s x y z)) h1:=by
   simp -dsimp only [zn.k5,B.al_agg,V.zkb,List.getElem?_cons_zero,List.getElem?_cons_succ,B.zd]
   refine s4 y _ (fun l=>decide (l.Id=lot)) s.Lots R2 h1 _ (hy.mono o1.le) (by omega) (fun t h' K hle hk=> ?_) ?_
   ·rw [B.zjr]
    exact s6 t lot i3 cs h' K (hle _ _ hb) hc.lot hk
   ·rcases find_idx (p:=fun l:Lot=>decide (l.Id=lot)) (L:=s.Lots) with ⟨e1,e2⟩|⟨j,t,e1,e2,e3⟩
    ·rw [e1] at hcod
     rw [e2]
     simp -dsimp [- zn.k1]
     refine star h1 (za.le_refl h1) ?_
     rw [hcod,if_neg]
     rcases h6 with rfl|rfl|rfl<;>decide
    ·rw [e1] at hcod
     rw [hcod] at hq
     rw [e2]
     have hj:j<s.Lots.length:=(List.getElem?_eq_some_iff.1 e3).1
     have f1:V.idxS 6 y (.int .i64 (j:Int))=some (elp 6 y j 0):=hy.idxN (by rw [List.length_map];exact hj)
     have ge:decide ((0:Int) <= (j:Int))=true:=by simp
     have hj':j<(s.Lots.map Lot.cs).length:=by rw [List.length_map];exact hj
     have f2:V.fieldAddr 1 (elp 6 y j 0)=some (elp 6 y j 1):=hy.zqc hj' 0 1
     have f3:A.ldv h1 (elp 6 y j 1)=some (.str t.Item):=(hy.mono o1.le).ldv (f:=1) (c:=t.cs) (by rw [List.getElem?_map,e3];rfl) (by omega)
     simp -dsimp [ge,f1,f2,f3,repL, - zn.k1]
     intro i65 f65
     exact wth t.Item h1 i65 _ (za.le_refl h1) f65 fun v h2 o2=>zbu (hq v h2 (o2.back o1.le))
  rcases h6 with rfl|rfl|rfl
  ·simp -dsimp [- zn.k5, - zn.k1]
   exact k5
  ·simp -dsimp [- zn.k5, - zn.k1]
   exact k5
  ·simp -dsimp [- zn.k5, - zn.k1]
   exact k5
 have a6:k≠6:=fun e=>h6 (.inl e)
 have a7:k≠7:=fun e=>h6 (.inr (.inl e))
 have a8:k≠8:=fun e=>h6 (.inr (.inr e))
 have q6:decide ((k.toNat:Int)=6)=false:=decide_eq_false fun e=>a6 ((kq 6 (by omega)).1 e)
 have q7:decide ((k.toNat:Int)=7)=false:=decide_eq_false fun e=>a7 ((kq 7 (by omega)).1 e)
 have q8:decide ((k.toNat:Int)=8)=false:=decide_eq_false fun e=>a8 ((kq 8 (by omega)).1 e)
 simp -dsimp only [q6,q7,q8,B.cond_false,zn.k7,V.zfy,B.zd]
 by_cases h10:k=10 \/ k=11 \/ k=14
 ·have hcod:zgs s k item lot line=match s.zji.find? (fun l=>decide (l.Id=line)) with|some t=>zjg s.zfz [t.Item]|none=>zoj:=by unfold zgs;rw [if_neg h4,if_neg h9,if_neg h13,if_neg h6,if_pos h10]
  have k6:zn.k6 C N (dn Q) (.ptr i3 0 0) (.bool true) (.agg (staCs s x y z)) h1:=by
   simp -dsimp only [zn.k6,B.cond_true,B.al_agg,V.zkb,List.getElem?_cons_zero,List.getElem?_cons_succ,B.zd]
   refine s5 z _ (fun l=>decide (l.Id=line)) s.zji R3 h1 _ (hz.mono o1.le) (by omega) (fun t h' K hle hk=> ?_) ?_
   ·rw [B.zjr]
    exact s7 t line i3 cs h' K (hle _ _ hb) hc.line hk
   ·rcases find_idx (p:=fun l:Line=>decide (l.Id=line)) (L:=s.zji) with ⟨e1,e2⟩|⟨j,t,e1,e2,e3⟩
    ·rw [e1] at hcod
     have e2:idxOf (fun l:Line=>decide (l.Id=line)) s.zji= -1:=e2
     rw [e2]
     simp -dsimp [- zn.k1]
     refine star h1 (za.le_refl h1) ?_
     rw [hcod,if_neg]
     rcases h10 with rfl|rfl|rfl<;>decide
    ·rw [e1] at hcod
     rw [hcod] at hq
     have e2:idxOf (fun l:Line=>decide (l.Id=line)) s.zji=j:=e2
     rw [e2]
     have hj:j<s.zji.length:=(List.getElem?_eq_some_iff.1 e3).1
     have f1:V.idxS 8 z (.int .i64 (j:Int))=some (elp 8 z j 0):=hz.idxN (by rw [List.length_map];exact hj)
     have ge:decide ((0:Int) <= (j:Int))=true:=by simp
     have hj':j<(s.zji.map Line.cs).length:=by rw [List.length_map];exact hj
     have f2:V.fieldAddr 1 (elp 8 z j 0)=some (elp 8 z j 1):=hz.zqc hj' 0 1
     have f3:A.ldv h1 (elp 8 z j 1)=some (.str t.Item):=(hz.mono o1.le).ldv (f:=1) (c:=t.cs) (by rw [List.getElem?_map,e3];rfl) (by omega)
     simp -dsimp [ge,f1,f2,f3,repL, - zn.k1]
     intro i65 f65
     exact wth t.Item h1 i65 _ (za.le_refl h1) f65 fun v h2 o2=>zbu (hq v h2 (o2.back o1.le))
  rcases h10 with rfl|rfl|rfl
  ·simp -dsimp [- zn.k6, - zn.k1]
   exact k6
  ·simp -dsimp [- zn.k6, - zn.k1]
   exact k6
  ·simp -dsimp [- zn.k6, - zn.k1]
   exact k6
 have a10:k≠10:=fun e=>h10 (.inl e)
 have a11:k≠11:=fun e=>h10 (.inr (.inl e))
 have a14:k≠14:=fun e=>h10 (.inr (.inr e))
 have q10:decide ((k.toNat:Int)=10)=false:=decide_eq_false fun e=>a10 ((kq 10 (by omega)).1 e)
 have q11:decide ((k.toNat:Int)=11)=false:=decide_eq_false fun e=>a11 ((kq 11 (by omega)).1 e)
 have q14:decide ((k.toNat:Int)=14)=false:=decide_eq_false fun e=>a14 ((kq 14 (by omega)).1 e)
 simp -dsimp only [q10,q11,q14,B.cond_false,V.zfy,B.zd,zn.k6]
 refine star h1 (za.le_refl h1) ?_
 unfold zgs
 rw [if_neg h4,if_neg h9,if_neg h13,if_neg h6,if_neg h10]
end Go.Ab
namespace Go.Ab
variable {C:CSem} {N:zN}
abbrev gV:AVal×List Key->AVal:=fun p=>p.1
def gOb (gs:Ents Key (AVal×List Key)):List Ob:=gs.map fun p=> .sl 1 p.2.1.1 (p.2.1.2.map tc) []
def addP (gs:Ents Key (AVal×List Key)) (r c:Key):List Key:=match getP gs r with|some q=>q.2++[c]|none=>[c]
theorem idxP_at {K T:Type} [DecidableEq K] {k:K}: ∀ {ps:Ents K T} {i:Nat} {q:T×Nat},idxP ps k=some (i,q)->ps[i]? =some (k,q.1,q.2)
 | [],i,q,h=>by cases h
 | p::r,i,q,h=>by
  unfold idxP at h
  split at h
  ·rename_i e
   cases h
   rw [<- e];rfl
  ·cases hr:idxP r k with
   | none=>rw [hr] at h;cases h
   | some u=>
    obtain ⟨j,u⟩:=u
    rw [hr] at h
    cases h
    show r[j]? =_
    exact idxP_at (ps:=r) hr
theorem group_add {h0 h:za} {l:List Ob} {w d:Nat} {gs:Ents Key (AVal×List Key)} {r c:Key} {K:za->Prop} (ho:Owns h0 h (.blk w (zfm (encM sV gV gs) d)::(gOb gs++l))) (hl: ∀ q,getP gs r=some q->q.2.length <= 10000000)
  (hK: ∀ x' h',Owns h0 h' (.blk w (zfm (encM sV gV (putP gs r (x',addP gs r c) d)) (clkP gs r d))::(gOb (putP gs r (x',addP gs r c) d)++l))->K h'):
  B.pv (A.lkp h (some .s) (some .nils) false (.mp w) (.str r)) fun v30=>B.newO h (zei [(0,none,.str c)] (repL 1 [.str []])) fun i32 h=>B.appW h 1 16 v30 (.sl i32 0 0 1 1 1) fun v33 h=>B.mset h .s (.mp w) (.str r) v33 K:=by
 have e1:A.lkp h (some .s) (some .nils) false (.mp w) (.str r)=some (gV ((getP gs r).getD (.nils,[]))):=ho.lkp (κ:=sV) (v:=gV) 0 rfl keyS (.nils,[]) r
 rw [e1]
 have hf:zei [(0,none,.str c)] (repL 1 [.str []])=some [.str c]:=rfl
 rw [hf]
 simp -dsimp only [B.zd]
 cases hg:getP gs r with
 | none=>
  have hi:idxP gs r=none:=by
   have:=zlg r gs
   rw [hg] at this
   cases e:idxP gs r with
   | none=>rfl
   | some q=>rw [e] at this;cases this
  have o1:Owns h0 h ((.blk w (zfm (encM sV gV gs) d)::(gOb gs++l))++[.sl 1 .nils [] []]):=ho.nils 1
  refine o1.push _ endGet (cs:=[.str c]) rfl (by omega) (by simp) (by simp [maxLen]) fun x' h2 o2 _=> ?_
  rw [endSet] at o2
  have o2:Owns h0 h2 (.blk w (zfm (encM sV gV gs) d)::((gOb gs++l)++[.sl 1 x' ([c].map tc) []])):=o2
  refine o2.mset (κ:=sV) (v:=gV) 0 rfl keyS r (x',[c]) fun h3 o3 _ _=> ?_
  have e2:addP gs r c=[c]:=by unfold addP;rw [hg]
  refine hK x' h3 ?_
  rw [e2,zhv hi]
  rw [zhv hi] at o3
  refine o3.perm (List.Perm.cons _ ?_)
  unfold gOb
  rw [List.map_append,List.append_assoc,List.append_assoc]
  exact List.Perm.append_left _ List.perm_append_comm
 | some q=>
  obtain ⟨i,n,hi⟩: ∃ i n,idxP gs r=some (i,q,n):=by
   have:=zlg r gs
   rw [hg] at this
   cases e:idxP gs r with
   | none=>rw [e] at this;cases this
   | some p=>
    rw [e] at this
    obtain ⟨i,t,n⟩:=p
    cases this
    exact ⟨i,n,rfl⟩
  have hat:gs[i]? =some (r,q,n):=idxP_at hi
  have hi':i<gs.length:=(List.getElem?_eq_some_iff.1 hat).1
  have hk:(Ob.blk w (zfm (encM sV gV gs) d)::(gOb gs++l))[i+1]? =some (.sl 1 q.1 (q.2.map tc) []):=by
   rw [List.getElem?_cons_succ,List.getElem?_append_left (by unfold gOb;rw [List.length_map];exact hi')]
   unfold gOb
   rw [List.getElem?_map,hat];rfl
  have hql:=hl q hg
  refine ho.push (i+1) hk (cs:=[.str c]) rfl (by omega) (by simp;omega) (by simp [maxLen];omega) fun x' h2 o2 _=> ?_
  rw [List.set_cons_succ] at o2
  refine o2.mset (κ:=sV) (v:=gV) 0 rfl keyS r (x',q.2++[c]) fun h3 o3 _ _=> ?_
  have e2:addP gs r c=q.2++[c]:=by unfold addP;rw [hg]
  refine hK x' h3 ?_
  rw [e2]
  have e3:=(zox (t:=(x',q.2++[c])) (c:=d) hi).1
  have e4:gOb (putP gs r (x',q.2++[c]) d)++l=(gOb gs++l).set i (.sl 1 x' ((q.2++[c]).map tc) []):=by
   rw [e3,List.set_append_left _ _ (by unfold gOb;rw [List.length_map];exact hi')]
   unfold gOb
   rw [List.map_set]
  rw [e4,List.map_append]
  rw [List.set_cons_zero] at o3
  exact o3
end Go.Ab
namespace Go.Ab
def cmpL:List Key->List Key->Int
 | [],[]=>0
 | [],_::_=> -1
 | _::_,[]=>1
 | a::l,b::m=>if a=b then cmpL l m else cmpB a b
def zki:List Key->List Key->Bool
 | _,[]=>false
 | [],_::_=>true
 | a::l,b::m=>zfu a b||(decide (a=b)&&zki l m)
theorem cmpL_neg: ∀ {l m:List Key},cmpL l m<0↔zki l m=true
 | [],[]=>by simp [cmpL,zki]
 | [],_::_=>by simp [cmpL,zki]
 | _::_,[]=>by simp [cmpL,zki]
 | a::l,b::m=>by
  unfold cmpL zki
  by_cases e:a=b
  ·subst e
   rw [if_pos rfl,cmpL_neg,zhq]
   simp
  ·rw [if_neg e,zng]
   simp [e]
theorem zq4: ∀ {l m:List Key},zki l m=true->zki m l=false
 | [],[],h=>by cases h
 | [],_::_,_=>rfl
 | _::_,[],h=>by cases h
 | a::l,b::m,h=>by
  unfold zki at h ⊢
  rw [Bool.or_eq_true,Bool.and_eq_true] at h
  rcases h with h|⟨h1,h2⟩
  ·rw [zle h]
   have: ¬ b=a:=fun e=>by subst e;rw [zhq] at h;cases h
   simp [this]
  ·have e:a=b:=of_decide_eq_true h1
   subst e
   rw [zhq,zq4 h2];simp
theorem lessL_tri: ∀ {l m:List Key},zki l m=false->l=m \/ zki m l=true
 | [],[],_=> .inl rfl
 | [],_::_,h=>by cases h
 | _::_,[],_=> .inr rfl
 | a::l,b::m,h=>by
  unfold zki at h ⊢
  rw [Bool.or_eq_false_iff] at h
  obtain ⟨h1,h2⟩:=h
  by_cases e:a=b
  ·subst e
   have h2:zki l m=false:=by simpa using h2
   rcases lessL_tri h2 with e|h3
   ·exact .inl (by rw [e])
   ·exact .inr (by simp [h3])
  ·exact .inr (by rw [zjo h1 e];rfl)
theorem zp3: ∀ {l m n:List Key},zki l m=true->zki m n=true->zki l n=true
 | l,[],n,h,_=>by cases l<;>cases h
 | _,_::_,[],_,h=>by cases h
 | [],_::_,_::_,_,_=>rfl
 | a::l,b::m,c::n,h,k=>by
  unfold zki at h k ⊢
  rw [Bool.or_eq_true,Bool.and_eq_true] at h k ⊢
  rcases h with h|⟨h1,h2⟩
  ·rcases k with k|⟨k1,k2⟩
   ·exact .inl (zic h k)
   ·have e:b=c:=of_decide_eq_true k1
    subst e;exact .inl h
  ·have e:a=b:=of_decide_eq_true h1
   subst e
   rcases k with k|⟨k1,k2⟩
   ·exact .inl k
   ·exact .inr ⟨k1,zp3 h2 k2⟩
theorem weakL:Weak (zd9 cmpL):=by
 constructor<;>simp only [zd9,decide_eq_true_eq,decide_eq_false_iff_not,cmpL_neg]
 ·intro a b h;rw [zq4 h];simp
 ·intro a b c h1 h2 h3
  have h1:zki a b=false:=by simpa using h1
  have h2:zki b c=false:=by simpa using h2
  rcases lessL_tri h1 with e|h
  ·subst e;rw [h2] at h3;cases h3
  ·have:=zp3 h h3
   rw [h2] at this;cases this
def ofT (I:List Itm):List (List Key):=((zby I).filter fun c=>decide ((zdl I c).head? =some c)).map (zdl I)
theorem zf4 {I:List Itm} {c:Key} (hc:c∈zby I):c∈zdl I c:=((zc9 hc).2 c).2 (.refl c)
theorem zka {I:List Itm} {c d:Key} (hc:c∈zby I) (hd:d∈zdl I c):zdl I d=zdl I c:=by
 have he:=((zc9 hc).2 d).1 hd
 have hdc:=he.zk3 hc
 refine zif (zc9 hdc).1 (zc9 hc).1 fun y=> ?_
 rw [(zc9 hdc).2,(zc9 hc).2]
 exact ⟨fun h=> .trans he h,fun h=> .trans (.symm he) h⟩
theorem zi8 {I:List Itm} {g:List Key}:g∈ofT I↔ ∃ c∈zby I,g=zdl I c:=by
 unfold ofT
 rw [List.mem_map]
 constructor
 ·rintro ⟨c,h,rfl⟩
  exact ⟨c,(List.mem_filter.1 h).1,rfl⟩
 ·rintro ⟨c,hc,rfl⟩
  have hs:=zf4 hc
  cases hg:zdl I c with
  | nil=>rw [hg] at hs;cases hs
  | cons a r=>
   have ha:a∈zdl I c:=by rw [hg];exact List.mem_cons_self ..
   have hac:=(((zc9 hc).2 a).1 ha).zk3 hc
   have e:=zka hc ha
   refine ⟨a,List.mem_filter.2 ⟨hac,?_⟩,by rw [e,hg]⟩
   rw [e,hg]
   simp
def headLt (g k:List Key):Prop:= ∃ a b,g.head? =some a /\ k.head? =some b /\ zfu a b=true
theorem zmm {g k:List Key} (h:headLt g k) (h2:headLt k g):False:=by
 obtain ⟨a,b,e1,e2,h⟩:=h
 obtain ⟨c,d,f1,f2,h2⟩:=h2
 rw [e2] at f1;cases f1
 rw [e1] at f2;cases f2
 rw [zle h] at h2;cases h2
theorem zm0 (I:List Itm):(ofT I).Pairwise headLt:=by
 unfold ofT
 rw [List.pairwise_map]
 refine List.Pairwise.imp_of_mem (fun {c d} hc hd h=> ?_) ((zjb I).filter _)
 have h1:=(List.mem_filter.1 hc).2
 have h2:=(List.mem_filter.1 hd).2
 exact ⟨c,d,of_decide_eq_true h1,of_decide_eq_true h2,h⟩
theorem ofT_unique {I:List Itm} {L:List (List Key)} (hm: ∀ g,g∈L↔ ∃ c∈zby I,g=zdl I c) (hn:L.Nodup) (hs:L.Pairwise fun s t=> ¬ cmpL t s<0):L=ofT I:=by
 refine rise_ext (fun a b h k=>zmm h k) ?_ (zm0 I) fun g=>by rw [hm,zi8]
 have hp:L.Pairwise fun s t=>s≠t /\ ¬ cmpL t s<0:=List.pairwise_and_iff.2 ⟨hn,hs⟩
 refine hp.imp_of_mem fun {g k} hg hk ⟨hne,hc⟩=> ?_
 obtain ⟨c,hcc,rfl⟩:=(hm g).1 hg
 obtain ⟨d,hdc,rfl⟩:=(hm k).1 hk
 have hs1:=zf4 hcc
 have hs2:=zf4 hdc
 have e1:=fun a=>zka (I:=I) (c:=c) (d:=a) hcc
 have e2:=fun a=>zka (I:=I) (c:=d) (d:=a) hdc
 generalize zdl I c=g at *
 generalize zdl I d=k at *
 cases g with
 | nil=>cases hs1
 | cons a r=>
  cases k with
  | nil=>cases hs2
  | cons b q=>
   refine ⟨a,b,rfl,rfl,?_⟩
   have hab:a≠b:=fun e=>by
    subst e
    exact hne ((e1 a (List.mem_cons_self ..)).symm.trans (e2 a (List.mem_cons_self ..)))
   unfold cmpL at hc
   rw [if_neg (Ne.symm hab),zng] at hc
   have hc:zfu b a=false:=by simpa using hc
   exact zjo hc (Ne.symm hab)
end Go.Ab
namespace Go.Ab
variable {C:CSem} {N:zN}
def zcn.Spec (C:CSem) (N:zN):Prop:= ∀ (a b:Key) (h:za) (Q:zQ),Q (.int .i64 (cmpB a b)) h->C (N 580) [.str a,.str b] h Q
theorem V.bin_sgtr (a b:List UInt8):V.bin .gtr (.str a) (.str b)=some (.bool (!(zfu a b||a==b))):=rfl
theorem zcn.spec (i:zcn.Imp C N) (s1:zdh.Spec C N):zcn.Spec C N:=by
 intro a b h Q hq
 apply i
 simp -dsimp only [zcn.cps,zcn.k1]
 refine s1 _ _ _ ?_
 refine s1 _ _ _ ?_
 rw [znf] at hq
 simp -dsimp only [B.cond_false,V.bin_slss,V.bin_sgtr,B.zd]
 refine B.zr (fun h1=> ?_) (fun h1=> ?_)
 ·rw [if_pos h1] at hq;exact zbu hq
 ·rw [if_neg (by rw [h1];exact Bool.false_ne_true)] at hq
  refine B.zr (fun h2=> ?_) (fun h2=> ?_)
  ·have h2:(!(zfu a b||a==b))=true:=h2
   rw [h1] at h2
   have hne: ¬ a=b:=by simpa using h2
   rw [if_pos (zjo h1 hne)] at hq;exact zbu hq
  ·have h2:(!(zfu a b||a==b))=false:=h2
   rw [h1] at h2
   have e:a=b:=by simpa using h2
   subst e
   rw [zhq] at hq;exact zbu hq
def zbl.Spec (C:CSem) (N:zN):Prop:= ∀ (x y:AVal) (L M:List Key) (R S:List (List AVal)) (h:za) (Q:zQ),SlX h 1 x (L.map tc) R->SlX h 1 y (M.map tc) S->L.length <= 100000000->M.length <= 100000000->Q (.int .i64 (cmpL L M)) h->C (N 578) [x,y] h Q
theorem cmpL_take: ∀ {k:Nat} {L M:List Key},k <= L.length->L.take k=M.take k->cmpL L M=cmpL (L.drop k) (M.drop k)
 | 0,_,_,_,_=>rfl
 | k+1,[],M,h,_=>by simp at h
 | k+1,a::l,[],h,e=>by simp at e
 | k+1,a::l,b::m,h,e=>by
  rw [List.take_succ_cons,List.take_succ_cons] at e
  obtain ⟨e1,e2⟩:=List.cons.inj e
  rw [cmpL,if_pos e1,List.drop_succ_cons,List.drop_succ_cons]
  exact cmpL_take (by simpa using h) e2
theorem zbl.spec (i:zbl.Imp C N) (s1:zcn.Spec C N):zbl.Spec C N:=by
 intro x y L M R S h Q hx hy hL hM hq
 apply i
 have lx:=hx.zcw
 have ly:=hy.zcw
 rw [List.length_map] at lx ly
 simp -dsimp only [zbl.cps,zdx.cps,lx,B.zd]
 refine zw.intro (fun n vs hh=>hh=h /\ ∃ k:Nat,k+n=L.length /\ vs=[.int .i64 (k:Int)] /\ L.take k=M.take k) L.length ?_ ⟨rfl,0,by simp,rfl,rfl⟩
 rintro Y n vs h ⟨rfl,k,hk,rfl,ht⟩ hY
 have hqk:=cmpL_take (by omega) ht
 simp -dsimp only [zdx.l3,zdx.k2,V.zec,B.zd]
 refine B.zr (fun hc=> ?_) (fun hc=> ?_)
 ·rw [decide_eq_true_eq] at hc
  obtain ⟨a,ha⟩:=ze0 (L:=L) (k:=k) (by omega)
  have hdl:L.drop k=a::L.drop (k+1):=by
   obtain ⟨h1,h2⟩:=List.getElem?_eq_some_iff.1 ha
   rw [List.drop_eq_getElem_cons h1,h2]
  have f1:V.idxS 1 x (.int .i64 (k:Int))=some (elp 1 x k 0):=hx.idxN (by rw [List.length_map];omega)
  have f2:A.ldv h (elp 1 x k 0)=some (.str a):=hx.cell (by rw [List.getElem?_map,ha];rfl)
  simp -dsimp only [opsS,f1,f2,B.ze4,B.zd,ly,V.zgb]
  refine B.zr (fun hd=> ?_) (fun hd=> ?_)
  ·rw [decide_eq_true_eq] at hd
   have:M.drop k=[]:=List.drop_eq_nil_of_le (by omega)
   rw [hqk,hdl,this] at hq
   exact zbu hq
  ·rw [decide_eq_false_iff_not] at hd
   obtain ⟨b,hb⟩:=ze0 (L:=M) (k:=k) (by omega)
   have hdm:M.drop k=b::M.drop (k+1):=by
    obtain ⟨h1,h2⟩:=List.getElem?_eq_some_iff.1 hb
    rw [List.drop_eq_getElem_cons h1,h2]
   have g1:V.idxS 1 y (.int .i64 (k:Int))=some (elp 1 y k 0):=hy.idxN (by rw [List.length_map];omega)
   have g2:A.ldv h (elp 1 y k 0)=some (.str b):=hy.cell (by rw [List.getElem?_map,hb];rfl)
   simp -dsimp only [opsS,g1,g2,B.ze4,B.zd]
   refine s1 a b h _ ?_
   rw [hqk,hdl,hdm,cmpL] at hq
   by_cases hab:a=b
   ·subst hab
    have z:cmpB a a=0:=cmpB_zero.2 rfl
    rw [z]
    simp -dsimp [- V.ze8]
    rw [add1 (show k<4611686018427387904 by omega)]
    refine hY (L.length-(k+1)) _ _ (by omega) ⟨rfl,k+1,by omega,rfl,?_⟩
    rw [take_succ ha,take_succ hb,ht]
   ·rw [if_neg hab] at hq
    have z: ¬ cmpB a b=0:=fun e=>hab (cmpB_zero.1 e)
    simp -dsimp [z]
    exact zbu hq
 ·rw [decide_eq_false_iff_not] at hc
  have:k=L.length:=by omega
  subst this
  rw [hqk,List.drop_length] at hq
  simp -dsimp only [zdx.k1,lx,ly,V.zec,B.zd]
  refine B.zr (fun hd=> ?_) (fun hd=> ?_)
  ·rw [decide_eq_true_eq] at hd
   obtain ⟨b,hb⟩:=ze0 (L:=M) (k:=L.length) (by omega)
   have hdm:M.drop L.length=b::M.drop (L.length+1):=by
    obtain ⟨h1,h2⟩:=List.getElem?_eq_some_iff.1 hb
    rw [List.drop_eq_getElem_cons h1,h2]
   rw [hdm] at hq
   exact zbu hq
  ·rw [decide_eq_false_iff_not] at hd
   have:M.drop L.length=[]:=List.drop_eq_nil_of_le (by omega)
   rw [this] at hq
   exact zbu hq
end Go.Ab
namespace Go.Ab
variable {C:CSem} {N:zN}
def zeq.Spec (C:CSem) (N:zN):Prop:= ∀ (x y:AVal) (L M:List Key) (R S:List (List AVal)) (h:za) (Q:zQ),SlX h 1 x (L.map tc) R->SlX h 1 y (M.map tc) S->L.length <= 100000000->M.length <= 100000000->Q (.int .i64 (cmpL L M)) h->C (N 565) [x,y] h Q
theorem zeq.spec (i:zeq.Imp C N) (s1:zbl.Spec C N):zeq.Spec C N:=by
 intro x y L M R S h Q hx hy hl hm hq
 apply i
 simp -dsimp only [zeq.cps]
 exact s1 x y L M R S h _ hx hy hl hm (zbu hq)
theorem subs {α:Type} {p:α->Prop}: ∀ {P:List α},(∀ a∈P,p a)-> ∃ G:List { a // p a },G.map (·.1)=P
 | [],_=>⟨[],rfl⟩
 | a::P,h=>by
  obtain ⟨G,e⟩:=subs (P:=P) fun b hb=>h b (List.mem_cons_of_mem _ hb)
  exact ⟨⟨a,h a (by simp)⟩::G,by simp [e]⟩
abbrev zjz (p:AVal×List Key):Ob:= .sl 1 p.1 (p.2.map tc) []
abbrev RowsT (x:AVal) (P:List (AVal×List Key)):List Ob:=P.map zjz++[.sl 1 x (P.map fun p=>[p.1]) []]
def zbn.Spec (C:CSem) (N:zN):Prop:= ∀ (h0 h:za) (x:AVal) (P:List (AVal×List Key)) (Q:zQ),Owns h0 h (RowsT x P)->P.length <= 100000000->(∀ p∈P,p.2.length <= 100000000) ->
 (∀ h' P',P'.Perm P->P'.Pairwise (fun s t=> ¬ cmpL t.2 s.2<0)->Owns h0 h' (RowsT x P')->Q (.tup []) h')->C (N 566) [x,.fn (N 565) [] []] h Q
theorem zbn.spec (i:zbn.Imp C N) (j1:zb0.Imp C N) (j2:zcp.Imp C N) (j3:zcz.Imp C N) (j4:zbr.Imp C N)
  (j5:zcd.Imp C N) (j6:zci.Imp C N) (j7:zb9.Imp C N) (j8:zcu.Imp C N) (j9:zb7.Imp C N) (k1:zc3.Imp C N)
  (k2:zc5.Imp C N) (k3:zb2.Imp C N) (k4:zcs.Imp C N) (k5:NextI C (N 298)) (k6:PowI C (N 299)) (hl:LenI C (N 287)) (s1:zeq.Spec C N):zbn.Spec C N:=by
 intro h0 h x P Q ho hlen hlens hq
 have oo:=ho.out
 generalize h.zky [Ob.sl 1 x (P.map fun p=>[p.1]) []]=hb at *
 have hat: ∀ p∈P,SlX hb 1 p.1 (p.2.map tc) [] /\ p.2.length <= 100000000:=fun p hp=>⟨oo.1.is (zjz p) (List.mem_map.2 ⟨p,hp,rfl⟩),hlens p hp⟩
 obtain ⟨G,hG⟩:=subs hat
 have hGl:G.length=P.length:=by have:=congrArg List.length hG;rwa [List.length_map] at this
 have hGc:G.map (fun p:{ p:AVal×List Key // SlX hb 1 p.1 (p.2.map tc) [] /\ p.2.length <= 100000000 }=>[p.1.1])=P.map fun p=>[p.1]:=by
  have:=congrArg (List.map fun p:AVal×List Key=>[p.1]) hG
  rw [List.map_map] at this;exact this
 have orw:Rw (opsS 24 .nils 0) (fun p:{ p:AVal×List Key // SlX hb 1 p.1 (p.2.map tc) [] /\ p.2.length <= 100000000 }=>[p.1.1]) hb h x G []:=by
  unfold Rw;rw [hGc];exact oo.2
 have hc:zdm C (fun p:{ p:AVal×List Key // SlX hb 1 p.1 (p.2.map tc) [] /\ p.2.length <= 100000000 }=>p.1.1) (fun a b:{ p:AVal×List Key // SlX hb 1 p.1 (p.2.map tc) [] /\ p.2.length <= 100000000 }=>cmpL a.1.2 b.1.2) (.fn (N 565) [] []) hb:=⟨fun h' a b K hle hk=>s1 _ _ _ _ _ _ _ _ (a.2.1.mono hle) (b.2.1.mono hle) a.2.2 b.2.2 hk⟩
 have J:PdqI C (opsS 24 .nils 0) (N 581) (N 582) (N 579) (N 583) (N 584) (N 585) (N 586) (N 587) (N 588) (N 592) (N 589) (N 590) (N 591) (N 298) (N 299):=⟨j1,j2,j3,j4,j5,j6,j7,j8,j9,k1,k2,k3,k4,k5,k6⟩
 have S:zc0 (opsS 24 .nils 0) (fun p:{ p:AVal×List Key // SlX hb 1 p.1 (p.2.map tc) [] /\ p.2.length <= 100000000 }=>[p.1.1]) (fun p=>p.1.1):=seqS (by omega) fun p=>p.2.1.zdd
 have W:Weak (zd9 fun a b:{ p:AVal×List Key // SlX hb 1 p.1 (p.2.map tc) [] /\ p.2.length <= 100000000 }=>cmpL a.1.2 b.1.2):=⟨fun {a b} h=>weakL.asym (a:=a.1.2) (b:=b.1.2) h,fun {a b c} h k=>weakL.zl2 (a:=a.1.2) (b:=b.1.2) (c:=c.1.2) h k⟩
 refine i _ _ _ _ (SortFunc_spec J hl S W hc (by rw [hGl];exact hlen) orw fun h' G' hp hs o'=>zbu ?_)
 have hP':(G'.map (·.1)).Perm P:=by have:=hp.map (·.1);rwa [hG] at this
 refine hq h' (G'.map (·.1)) hP' ?_ ?_
 ·rw [List.pairwise_map];exact hs
 ·have e:G'.map (fun p:{ p:AVal×List Key // SlX hb 1 p.1 (p.2.map tc) [] /\ p.2.length <= 100000000 }=>[p.1.1])=(G'.map (·.1)).map fun p=>[p.1]:=by rw [List.map_map];rfl
  unfold Rw at o'
  rw [e] at o'
  exact (oo.1.join o').perm (List.Perm.append_right _ (hP'.symm.map _))
end Go.Ab
namespace Go.Ab
variable {C:CSem} {N:zN}
structure GsOk (g:Key->Option Key) (D:List Key) (gs:Ents Key (AVal×List Key)) (d:Nat):Prop where
 zku:zit gs d
 nodup:(zez gs).Nodup
 mem: ∀ r q,getP gs r=some q->q.2≠[] /\ q.2.Nodup /\ ∀ c,c∈q.2↔c∈D /\ ∃ n,zgu g n c r
 none: ∀ r,getP gs r=none-> ∀ c∈D,¬ ∃ n,zgu g n c r
theorem GsOk.add {g:Key->Option Key} {D:List Key} {gs:Ents Key (AVal×List Key)} {d n:Nat} {r c:Key} {x:AVal} (k:GsOk g D gs d) (hc:c∉D) (hr:zgu g n c r):GsOk g (D++[c]) (putP gs r (x,addP gs r c) d) (clkP gs r d):=by
 refine ⟨k.zku.put r _,zpu k.nodup r _ d,fun s q h=> ?_,fun s h b hb=> ?_⟩
 ·rw [zlj] at h
  by_cases hs:s=r
  ·subst hs
   rw [if_pos rfl] at h
   cases h
   unfold addP
   cases hg:getP gs s with
   | none=>
    have h0:=k.none s hg
    refine ⟨by simp,by simp,fun b=> ?_⟩
    simp only [List.mem_singleton,List.mem_append]
    constructor
    ·rintro rfl
     exact ⟨.inr rfl,n,hr⟩
    ·rintro ⟨h1|h1,h2⟩
     ·exact absurd h2 (h0 b h1)
     ·exact h1
   | some q=>
    obtain ⟨h1,h2,h3⟩:=k.mem s q hg
    have hcq:c∉q.2:=fun e=>hc ((h3 c).1 e).1
    refine ⟨by simp,?_,fun b=> ?_⟩
    ·show (q.2++[c]).Nodup
     rw [List.nodup_append]
     exact ⟨h2,by simp,fun a ha b hb e=>hcq (by rw [List.mem_singleton] at hb;rw [<- hb, <- e];exact ha)⟩
    ·show b∈q.2++[c]↔_
     rw [List.mem_append,List.mem_singleton,List.mem_append,List.mem_singleton,h3]
     constructor
     ·rintro (⟨h4,h5⟩|rfl)
      ·exact ⟨.inl h4,h5⟩
      ·exact ⟨.inr rfl,n,hr⟩
     ·rintro ⟨h4|h4,h5⟩
      ·exact .inl ⟨h4,h5⟩
      ·exact .inr h4
  ·rw [if_neg hs] at h
   obtain ⟨h1,h2,h3⟩:=k.mem s q h
   refine ⟨h1,h2,fun b=> ?_⟩
   rw [h3,List.mem_append,List.mem_singleton]
   constructor
   ·rintro ⟨h4,h5⟩
    exact ⟨.inl h4,h5⟩
   ·rintro ⟨h4|rfl,h5⟩
    ·exact ⟨h4,h5⟩
    ·obtain ⟨m,h5⟩:=h5
     exact absurd (h5.det hr).2 hs
 ·rw [zlj] at h
  by_cases hs:s=r
  ·subst hs;rw [if_pos rfl] at h;cases h
  ·rw [if_neg hs] at h
   rcases List.mem_append.1 hb with hb|hb
   ·exact k.none s h b hb
   ·rw [List.mem_singleton.1 hb]
    rintro ⟨m,h5⟩
    exact hs (h5.det hr).2
theorem key_inj {K T:Type}: ∀ {ps:Ents K T},(zez ps).Nodup-> ∀ {p q:K×T×Nat},p∈ps->q∈ps->p.1=q.1->p=q
 | [],_,_,_,h,_,_=>by cases h
 | a::r,hn,p,q,hp,hq,e=>by
  rw [zj7] at hn
  obtain ⟨h1,h2⟩:=List.nodup_cons.1 hn
  rcases List.mem_cons.1 hp with h3|h3
  ·rcases List.mem_cons.1 hq with h4|h4
   ·rw [h3,h4]
   ·exact absurd (by rw [<- h3,e];exact List.mem_map.2 ⟨q,h4,rfl⟩) h1
  ·rcases List.mem_cons.1 hq with h4|h4
   ·exact absurd (by rw [<- h4, <- e];exact List.mem_map.2 ⟨p,h3,rfl⟩) h1
   ·exact key_inj h2 h3 h4 e
theorem Of_first {h1 h2:za} {pid m w c:Nat} {ps:Ents Key Key} {ks:Key->Prop} {E:Key->Key->Prop} {Q:zQ} (s1:zcj.Spec C N) (ua:UpAt h1 (.ptr pid 0 0) m ps c) (hu:UpIs ps c ks E) (hps:ps.length <= 1000000) (ho:Owns h1 h2 [.blk w (zfm (encM sV gV []) 0)])
  (hq: ∀ gs d h3,Owns h1 h3 (.blk w (zfm (encM sV gV gs) d)::gOb gs)->GsOk (getP ps) (zez ps) gs d->B.rangeMap h3 (.mp w) fun v35 h=>zw (zdo.l2 C N Q v35) [.nils] h):
  B.rangeMap h2 (.mp m) fun v17 h=>zw (zdo.l4 C N Q (.fn (N 577) [] [.ptr pid 0 0]) (.mp w) v17) [] h:=by
 refine Owns.znp (κ:=sV) (v:=sV) (ps:=ps) (c:=c) (J:=fun D l vs=>vs=[] /\ ∃ gs d,l= .blk w (zfm (encM sV gV gs) d)::(gOb gs++[]) /\ GsOk (getP ps) (zez D) gs d)
  (REST:=fun it vs v h Y=>match vs with
   | []=>B.pv (V.ext 0 v) fun v19=>B.cond v19
    (B.pv (A.zgr h it) fun v20=>B.pv (V.ext 0 v20) fun v21=>B.zf1 h C (.fn (N 577) [] [.ptr pid 0 0]) [v21] fun v25 h=>B.zf1 h C (.fn (N 577) [] [.ptr pid 0 0]) [v21] fun v29 h=>
     B.pv (A.lkp h (some .s) (some (.nils)) false (.mp w) v29) fun v30=>B.newO h (zei [(0,none,v21)] (repL 1 [.str []])) fun i32 h=>B.appW h 1 16 v30 (.sl i32 0 0 1 1 1) fun v33 h=>B.mset h .s (.mp w) v25 v33 fun h=>Y [] h)
    (B.rangeMap h (.mp w) fun v35 h=>zw (zdo.l2 C N Q v35) [.nils] h)
   | _=>False) (l:=[.blk w (zfm (encM sV gV []) 0)]) ho ua.map hu.zku ⟨rfl,[],0,rfl,zit.nil 0,.nil,fun r q h=>(by cases h),fun r _ c hc=>(by cases hc)⟩ ?_ ?_ ?_
 ·rintro it vs h3 Y3 D l ⟨rfl,_⟩ hn
  exact hn
 ·rintro it h3 D l b Y3 vs ⟨rfl,gs,d,rfl,hk⟩ hp o
  simp -dsimp only [V.zfw,List.getElem?_cons_zero,B.zd,B.cond_false]
  refine hq gs d h3 (o.sub ?_) ?_
  ·rw [List.append_nil];exact List.sublist_append_left _ _
  ·have hm: ∀ c,c∈zez D↔c∈zez ps:=fun c=>(hp.map (·.1)).mem_iff
   exact ⟨hk.zku,hk.nodup,fun r q h=>by
    obtain ⟨h1,h2,h3⟩:=hk.mem r q h
    exact ⟨h1,h2,fun c=>by rw [h3,hm]⟩,fun r h c hc=>hk.none r h c ((hm c).2 hc)⟩
 ·rintro it h3 D l b Y3 vs p hpm ⟨rfl,gs,d,rfl,hk⟩ hsub hpD hDl o he hY3
  have hpk:ks p.1:=(hu.uf.dom p.1).1 ⟨p.2.1,mem_getP hu.nodup hpm⟩
  obtain ⟨t,r,hr⟩:=hu.uf.root p.1 hpk
  have uh:=ua.mono o.le
  simp -dsimp only [V.zfw,List.getElem?_cons_zero,List.getElem?_cons_succ,B.zd,B.cond_true,he]
  rw [B.zjr]
  refine s1 h3 _ m ps c t p.1 r _ uh hr ?_
  rw [B.zjr]
  refine s1 h3 _ m ps c t p.1 r _ uh hr ?_
  have hcD:p.1∉zez D:=fun hm=>by
   obtain ⟨q,hq,e⟩:=List.mem_map.1 hm
   have:=key_inj hu.nodup (hsub q hq) hpm e
   subst this
   exact hpD hq
  refine group_add (l:=[.blk it b]) (by rw [List.append_nil] at o;exact o) (fun q hq=> ?_) fun x' h4 o4=> ?_
  ·obtain ⟨_,h2,h3⟩:=hk.mem r q hq
   have:=h2.length_le_of_subset (l₂:=zez D) fun c hc=>((h3 c).1 hc).1
   have e:(zez D).length=D.length:=by simp [zez]
   omega
  ·refine hY3 h4 _ _ ⟨rfl,_,_,rfl,?_⟩ (by rw [List.append_nil];exact o4)
   unfold zez
   rw [List.map_append]
   exact hk.add hcD hr
end Go.Ab
namespace Go.Ab
variable {C:CSem} {N:zN}
theorem GsOk.group {I:List Itm} {g:Key->Option Key} {D:List Key} {gs:Ents Key (AVal×List Key)} {d:Nat} (u:UF g (fun c=>c∈zby I) (zig I)) (hD: ∀ c,c∈D↔c∈zby I) (k:GsOk g D gs d) {p:Key×(AVal×List Key)×Nat} (hp:p∈gs):
  p.1∈zby I /\ (∀ y,y∈p.2.1.2↔y∈zdl I p.1) /\ p.2.1.2.Nodup /\ zgu g 0 p.1 p.1:=by
 obtain ⟨h1,h2,h3⟩:=k.mem p.1 p.2.1 (mem_getP k.nodup hp)
 obtain ⟨c,hc⟩:=List.exists_mem_of_ne_nil _ h1
 obtain ⟨_,n,hr⟩:=(h3 c).1 hc
 have r0:zgu g 0 p.1 p.1:=⟨hr.top,rfl⟩
 have hk:=r0.isKey u
 refine ⟨hk,fun y=> ?_,h2,r0⟩
 rw [h3,(zc9 hk).2,hD]
 constructor
 ·rintro ⟨h4,m,h5⟩
  exact (u.same.1 (⟨p.1,0,m,r0,h5⟩:zni g p.1 y)).2.2
 ·intro h4
  have hy:=h4.zk3 hk
  obtain ⟨q,i,j,h5,h6⟩:=u.same.2 ⟨hk,hy,h4⟩
  obtain ⟨_,rfl⟩:=h5.det r0
  exact ⟨hy,j,h6⟩
def srtO (I:List Itm) (gs D:Ents Key (AVal×List Key)):List Ob:=gs.map fun p=>zjz (p.2.1.1,if p.1∈zez D then zdl I p.1 else p.2.1.2)
theorem permEnd {α:Type} {X A B:List α} {a z:α}:(X++(A++a::B)++[z]).Perm ((X++(A++B)++[z])++[a]):=by
 have h:(A++a::B).Perm ((A++B)++[a]):=by
  refine List.perm_middle.trans ?_
  exact (List.perm_append_comm (l₁:=[a]))
 refine (List.Perm.append_right [z] (List.Perm.append_left X h)).trans ?_
 simp only [List.append_assoc]
 refine List.Perm.append_left X (List.Perm.append_left A (List.Perm.append_left B ?_))
 exact List.Perm.swap ..
theorem sorted_rise {L:List Key} (h:SortedB L) (hn:L.Nodup):zg1 L:=by
 have hp:L.Pairwise fun s t=>zfu t s=false /\ s≠t:=List.pairwise_and_iff.2 ⟨h,hn⟩
 exact hp.imp fun {a b} ⟨h1,h2⟩=>zjo h1 (Ne.symm h2)
theorem setMid {α:Type} {X R:List α} {a b:α}:(X++[a]++R).set X.length b=X++[b]++R:=by
 rw [List.append_assoc,List.set_append_right _ _ (Nat.le_refl _),Nat.sub_self,List.append_assoc];rfl
theorem permT {α:Type} {X SA SB:List α} {O it ob cl:α}:(X++[O]++((SA++SB)++[it]++[ob]++[cl])).Perm ((X++[cl])++[O]++(SA++ob::SB)++[it]):=by
 classical
 exact List.perm_iff_count.2 fun a=>by
  simp only [List.count_append,List.count_cons,List.count_nil]
  omega
def zdo.Spec (C:CSem) (N:zN):Prop:= ∀ (x:AVal) (I:List Itm) (h:za) (Q:zQ),Dl ze5 h x I->I.length <= 1000000 ->
 (∀ x' P h',P.map (·.2)=ofT I->Owns h h' (RowsT x' P)->Q x' h')->C (N 554) [x] h Q
theorem zdo.spec (i:zdo.Imp C N) (s0:zt.Spec C N) (s1:zcj.Spec C N) (s2:zbp.Spec C N) (s3:zbg.Spec C N) (s4:zbn.Spec C N):zdo.Spec C N:=by
 intro x I h Q hx hI hq
 apply i
 simp -dsimp only [zdo.cps,zdo.k5]
 refine s0 x I h _ hx (by omega) fun m p ps c h1 o1 hu=> ?_
 obtain ⟨pid,e,bp⟩:=o1.zom 1 rfl
 subst e
 have ua:UpAt h1 (.ptr pid 0 0) m ps c:=⟨by rw [zk2 bp];rfl,o1.at 0 rfl⟩
 simp -dsimp only [V.zfw,List.getElem?_cons_zero,List.getElem?_cons_succ,B.zd]
 refine (Owns.start h1).zl3 sV gV fun w h2 hw o2 _=> ?_
 have hkeys: ∀ k,k∈zez ps↔k∈zby I:=fun k=>by
  rw [<- hu.uf.dom k]
  cases e:getP ps k with
  | none=>exact ⟨fun hk=>absurd hk (zm9.1 e),fun ⟨d,hd⟩=>by cases hd⟩
  | some v=>exact ⟨fun _=>⟨v,rfl⟩,fun _=>Classical.byContradiction fun hn=>by rw [zm9.2 hn] at e;cases e⟩
 have hps:ps.length <= 1000000:=by
  have e1:ps.length=(zez ps).length:=by simp [zez]
  have e2:=hu.nodup.length_le_of_subset (l₂:=zby I) fun k hk=>(hkeys k).1 hk
  have:=zi1 I
  omega
 refine Of_first s1 ua hu hps o2 fun gs d h3 o3 hk=> ?_
 have grp:=fun {p} (hp:p∈gs)=>hk.group hu.uf hkeys hp
 have hgs:gs.length <= 1000000:=by
  have e1:gs.length=(zez gs).length:=by simp [zez]
  have e2:=hk.nodup.length_le_of_subset (l₂:=zby I) fun k hkk=>by
   obtain ⟨p,hp,rfl⟩:=List.mem_map.1 hkk
   exact (grp hp).1
  have:=zi1 I
  omega
 have glen: ∀ {c},c∈zby I->(zdl I c).length <= 1000000:=fun {c} hc=>by
  have:=(zfb (zc9 hc).1).length_le_of_subset (l₂:=zby I) fun y hy=>(((zc9 hc).2 y).1 hy).zk3 hc
  have:=zi1 I
  omega
 obtain ⟨hb,b1,b2,o4,a4⟩:=(o3.perm (List.perm_append_comm (l₁:=[_]))).lay
 have hbw:hb w=some (zfm (encM sV gV gs) d):=a4 (.blk w (zfm (encM sV gV gs) d)) (by simp)
 have o5:Owns hb h3 (RowsT .nils []++srtO I gs []):=by
  have e:srtO I gs []=gOb gs:=by
   unfold srtO gOb
   refine List.map_congr_left fun p _=> ?_
   simp [zez]
  rw [e]
  exact (o4.nils 1).perm List.perm_append_comm
 refine Owns.znp (κ:=sV) (v:=gV) (ps:=gs) (c:=d) (J:=fun D l vs=> ∃ out P,vs=[out] /\ P.map (·.2)=D.map (fun p=>zdl I p.1) /\ l=RowsT out P++srtO I gs D)
  (REST:=fun it vs v h Y=>match vs with
   | [v7]=>B.pv (V.ext 0 v) fun v37=>B.cond v37
    (B.pv (A.zgr h it) fun v38=>B.pv (V.ext 1 v38) fun v39=>B.call C (N 364) [v39] h fun v41 h=>B.call C (N 567) [v39] h fun v44 h=>
     B.newO h (zei [(0,none,v44)] (repL 1 [.nils])) fun i45 h=>B.appW h 1 24 v7 (.sl i45 0 0 1 1 1) fun v46 h=>Y [v46] h)
    (B.call C (N 566) [v7,(.fn (N 565) [] [])] h fun v48 h=>dn Q v7 h)
   | _=>False) o5 hbw hk.zku ⟨.nils,[],rfl,rfl,rfl⟩ ?_ ?_ ?_
 ·rintro it vs h4 Y3 D l ⟨out,P,rfl,_⟩ hn
  exact hn
 ·rintro it h4 D l b Y3 vs ⟨out,P,rfl,eP,rfl⟩ hp o
  simp -dsimp only [V.zfw,List.getElem?_cons_zero,B.zd,B.cond_false]
  have hPl:P.length=gs.length:=by
   have:=congrArg List.length eP
   rw [List.length_map,List.length_map] at this
   rw [this,hp.length_eq]
  have hDm: ∀ g,g∈D.map (fun p=>zdl I p.1)↔ ∃ c∈zby I,g=zdl I c:=fun g=>by
   rw [List.mem_map]
   constructor
   ·rintro ⟨p,h1,rfl⟩
    exact ⟨p.1,(grp (hp.mem_iff.1 h1)).1,rfl⟩
   ·rintro ⟨c,hc,rfl⟩
    obtain ⟨n,r,hr⟩:=hu.uf.root c hc
    cases e:getP gs r with
    | none=>exact absurd ⟨n,hr⟩ (hk.none r e c ((hkeys c).2 hc))
    | some q=>
     obtain ⟨j,hj⟩:=getP_mem e
     refine ⟨(r,q,j),hp.mem_iff.2 hj,?_⟩
     have hrc:r∈zdl I c:=((zc9 hc).2 r).2 (hr.eqv hu.uf)
     exact zka hc hrc
  refine s4 hb h4 out P _ (o.sub (by rw [List.append_assoc];exact List.sublist_append_left _ _)) (by omega) (fun p hp'=> ?_) fun h5 P' pp srt o6=> ?_
  ·have:p.2∈D.map (fun p=>zdl I p.1):=by rw [<- eP];exact List.mem_map.2 ⟨p,hp',rfl⟩
   obtain ⟨c,hc,e⟩:=(hDm _).1 this
   rw [e]
   have:=glen hc
   omega
  ·have hnd:(D.map fun p=>zdl I p.1).Nodup:=by
    have hD:D.Pairwise fun p q=>p.1≠q.1:=by
     have:(zez D).Nodup:=(hp.map (fun p:Key×(AVal×List Key)×Nat=>p.1)).nodup_iff.2 hk.nodup
     exact List.pairwise_map.1 this
    refine List.pairwise_map.2 (hD.imp_of_mem fun {p q} h1 h2 hne e=>hne ?_)
    have g1:=grp (hp.mem_iff.1 h1)
    have g2:=grp (hp.mem_iff.1 h2)
    have hm:q.1∈zdl I p.1:=by rw [e];exact zf4 g2.1
    obtain ⟨r,i,j,h5,h6⟩:=hu.uf.same.2 ⟨g1.1,g2.1,((zc9 g1.1).2 _).1 hm⟩
    rw [<- (h5.det g1.2.2.2).2, <- (h6.det g2.2.2.2).2]
   have e:P'.map (·.2)=ofT I:=by
    have pm:(P'.map (·.2)).Perm (D.map fun p=>zdl I p.1):=by rw [<- eP];exact pp.map _
    refine ofT_unique (fun g=>by rw [pm.mem_iff,hDm]) (pm.nodup_iff.2 hnd) ?_
    rw [List.pairwise_map]
    exact srt
   exact zbu (hq out P' h5 e ((o6.back b1).back o1.le))
 ·rintro it h4 D l b Y3 vs p hpm ⟨out,P,rfl,eP,rfl⟩ hsub hpD hDl o he hY3
  obtain ⟨pk,hmem,hnd,hr0⟩:=grp hpm
  have hkD:p.1∉zez D:=fun hm=>by
   obtain ⟨q,hq',e⟩:=List.mem_map.1 hm
   have:=key_inj hk.nodup (hsub q hq') hpm e
   subst this
   exact hpD hq'
  have hPl:P.length=D.length:=by
   have:=congrArg List.length eP
   rwa [List.length_map,List.length_map] at this
  obtain ⟨GA,GB,hAB⟩:=List.append_of_mem hpm
  have hkn:p.1∉zez GA /\ p.1∉zez GB:=by
   have:=hk.nodup
   rw [hAB] at this
   unfold zez at this ⊢
   rw [List.map_append,List.map_cons,List.nodup_append] at this
   obtain ⟨_,h5,h6⟩:=this
   exact ⟨fun hm=>h6 _ hm _ (List.mem_cons_self ..) rfl,(List.nodup_cons.1 h5).1⟩
  have hsame: ∀ (X:Ents Key (AVal×List Key)),p.1∉zez X->(X.map fun q=>zjz (q.2.1.1,if q.1∈zez (D++[p]) then zdl I q.1 else q.2.1.2))=X.map fun q=>zjz (q.2.1.1,if q.1∈zez D then zdl I q.1 else q.2.1.2):=fun X hX=>by
   refine List.map_congr_left fun q hq'=> ?_
   have hne:q.1≠p.1:=fun e=>hX (by rw [<- e];exact List.mem_map.2 ⟨q,hq',rfl⟩)
   have:q.1∈zez (D++[p])↔q.1∈zez D:=by
    unfold zez
    rw [List.map_append,List.mem_append]
    simp [hne]
   by_cases hq2:q.1∈zez D
   ·rw [if_pos hq2,if_pos (this.2 hq2)]
   ·rw [if_neg hq2,if_neg fun e=>hq2 (this.1 e)]
  have eD:srtO I gs D=(GA.map fun q=>zjz (q.2.1.1,if q.1∈zez D then zdl I q.1 else q.2.1.2))++zjz (p.2.1.1,p.2.1.2)::(GB.map fun q=>zjz (q.2.1.1,if q.1∈zez D then zdl I q.1 else q.2.1.2)):=by
   unfold srtO
   rw [hAB,List.map_append,List.map_cons,if_neg hkD]
  have eD':srtO I gs (D++[p])=(GA.map fun q=>zjz (q.2.1.1,if q.1∈zez D then zdl I q.1 else q.2.1.2))++zjz (p.2.1.1,zdl I p.1)::(GB.map fun q=>zjz (q.2.1.1,if q.1∈zez D then zdl I q.1 else q.2.1.2)):=by
   unfold srtO
   have:p.1∈zez (D++[p]):=by unfold zez;simp
   rw [hAB,List.map_append,List.map_cons,if_pos this,hsame GA hkn.1,hsame GB hkn.2]
  rw [eD] at o
  rw [eD'] at hY3
  generalize (GA.map fun q=>zjz (q.2.1.1,if q.1∈zez D then zdl I q.1 else q.2.1.2))=SA at *
  generalize (GB.map fun q=>zjz (q.2.1.1,if q.1∈zez D then zdl I q.1 else q.2.1.2))=SB at *
  simp -dsimp only [V.zfw,List.getElem?_cons_zero,List.getElem?_cons_succ,B.zd,B.cond_true,he]
  obtain ⟨q1,q2⟩:=(o.perm permEnd).out
  have hpl:p.2.1.2.length <= 1000000:=by
   have:=hnd.length_le_of_subset (l₂:=zdl I p.1) fun y hy=>(hmem y).1 hy
   have:=glen pk
   omega
  refine s2 _ h4 p.2.1.1 p.2.1.2 [] _ q2 (by omega) fun h5 L' lp ls o5=> ?_
  have eL:L'=zdl I p.1:=zif (sorted_rise ls (lp.nodup_iff.2 hnd)) (zc9 pk).1 fun y=>by rw [lp.mem_iff,hmem]
  subst eL
  refine s3 p.2.1.1 _ [] h5 _ (o5.slAt 0 rfl) (by have:=glen pk;omega) fun z h6 o6=> ?_
  have cz:z.zdd=true:=(o6.slAt 0 rfl).zdd
  have hf:zei [(0,none,z)] (repL 1 [.nils])=some [z]:=by simp -dsimp [cz,repL]
  rw [hf]
  have o7:=(q1.join o5).join o6
  have hidx:((((((P.map zjz++[Ob.sl 1 out (P.map fun p=>[p.1]) []])++(SA++SB))++[Ob.blk it b])++[Ob.sl 1 p.2.1.1 ((zdl I p.1).map tc) []])++[Ob.sl 1 z ((zdl I p.1).map tc) []]):List Ob)[P.length]? =some (.sl 1 out (P.map fun p=>[p.1]) []):=by
   simp
  refine o7.push P.length hidx (cs:=[z]) rfl (by omega) (by simp;omega) (by simp [maxLen];omega) fun out' h8 o8 _=> ?_
  refine hY3 h8 _ _ ⟨out',P++[(z,zdl I p.1)],rfl,by rw [List.map_append,eP,List.map_append];rfl,rfl⟩ (o8.perm ?_)
  have e1:((((((P.map zjz++[Ob.sl 1 out (P.map fun p=>[p.1]) []])++(SA++SB))++[Ob.blk it b])++[Ob.sl 1 p.2.1.1 ((zdl I p.1).map tc) []])++[Ob.sl 1 z ((zdl I p.1).map tc) []]):List Ob)=(P.map zjz)++[Ob.sl 1 out (P.map fun p=>[p.1]) []]++((SA++SB)++[Ob.blk it b]++[Ob.sl 1 p.2.1.1 ((zdl I p.1).map tc) []]++[Ob.sl 1 z ((zdl I p.1).map tc) []]):=by
   simp only [List.append_assoc]
  have e2:P.length=(P.map zjz).length:=by simp
  show List.Perm (List.set ((((((P.map zjz++[Ob.sl 1 out (P.map fun p=>[p.1]) []])++(SA++SB))++[Ob.blk it b])++[Ob.sl 1 p.2.1.1 ((zdl I p.1).map tc) []])++[Ob.sl 1 z ((zdl I p.1).map tc) []]):List Ob) P.length _) _
  rw [e1,e2,setMid]
  unfold RowsT
  rw [List.map_append,List.map_append]
  exact permT
end Go.Ab
namespace Go.Ab
variable {C:CSem} {N:zN}
def zbw.Spec (C:CSem) (N:zN):Prop:= ∀ (x:AVal) (L:List Itm) (h:za) (Q:zQ),Dl zql h x L->L.length<4611686018427387904->(∀ t∈L,t.inLen) ->
 (∀ n:Nat,n<1000000000000000000->(n <= 2000-> ∀ t∈L,t.zeg.length+t.zd2.length <= n)->Q (.int .i64 n) h)->C (N 564) [x] h Q
theorem zbw.spec (i:zbw.Imp C N):zbw.Spec C N:=by
 intro x L h Q hx hlen hin hq
 apply i
 refine zw.intro (fun t vs hh=>hh=h /\ ∃ k n:Nat,k+t=L.length /\ vs=[.int .i64 (n:Int),.int .i64 (k:Int)] /\ n<1000000000000000000 /\ (n <= 2000-> ∀ t∈L.take k,t.zeg.length+t.zd2.length <= n)) L.length ?_ ⟨rfl,0,0,by omega,rfl,by omega,fun _ t h=>(by simp at h)⟩
 rintro Y t vs h ⟨rfl,k,n,ht,rfl,hn,hall⟩ hY
 have hend:(2000<n \/ k=L.length)->dn Q (.int .i64 (n:Int)) h:=fun hor=>by
  refine zbu (hq n hn fun hle=> ?_)
  have hk:k=L.length:=hor.resolve_left (by omega)
  subst hk
  rw [List.take_length] at hall
  exact hall hle
 simp -dsimp only [zbw.l7,zbw.k6,hx.zcw,lssN,B.zd]
 by_cases hk:k<L.length
 rotate_left
 ·have:=hend (.inr (by omega))
  simp -dsimp [hk]
  exact this
 by_cases h4:n <= 2000
 rotate_left
 ·have h4': ¬ (n:Int) <= 2000:=by omega
  have:=hend (.inl (by omega))
  simp -dsimp [hk,h4']
  exact this
 have h4':(n:Int) <= 2000:=by omega
 obtain ⟨r,hr⟩:=ze0 hk
 have hrm:=List.mem_of_getElem? hr
 obtain ⟨n1,n2,n3,hpl,hol⟩:=hin r hrm
 obtain ⟨p,o,e1,e3,e4,e5,e6,e7,e8,⟨R1,a1⟩,el1,⟨R2,a2⟩,el2⟩:=itm_getW hx hr
 have hk1:=add1 (show k<4611686018427387904 by omega)
 have b1:V.bin .add (.int .i64 (n:Int)) (.int .i64 1)=some (.int .i64 ((n+1:Nat):Int)):=add1 (by omega)
 have b2:=zh3 (a:=n+1) (b:=r.Code.length / 20) (by omega)
 have b3:=zh3 (a:=n+1+r.Code.length / 20) (b:=r.zeg.length) (by omega)
 have b4:=zh3 (a:=n+1+r.Code.length / 20+r.zeg.length) (b:=r.zd2.length) (by omega)
 have lc:V.zj5 (.str r.Code)=some (.int .i64 (r.Code.length:Int)):=rfl
 simp -dsimp [hk,h4', - zbw.k5]
 simp -dsimp only [zbw.k5,B.ze4,B.zd,e1,e3,e4,e5,e6,e7,e8,el1,el2,lc,quo20 n1,b1,b2,b3,b4]
 refine zw.intro (fun t vs h2=>h2=h /\ ∃ q m:Nat,q+t=r.zeg.length /\ vs=[.int .i64 (m:Int),.int .i64 (q:Int)] /\ m<1000000000000000000 /\ n+1+r.Code.length / 20+r.zeg.length+r.zd2.length <= m) r.zeg.length ?_ ⟨rfl,0,_,by omega,rfl,by omega,Nat.le_refl _⟩
 rintro Z t2 vs h2 ⟨rfl,q,m,ht2,rfl,hm,hle⟩ hZ
 simp -dsimp only [zbw.l4,zbw.k3,e1,e4,B.ze4,e7,el1,lssN,B.zd]
 have hnext:zw (zbw.l2 C N (dn Q) Y x (.int .i64 (k:Int))) [.int .i64 (m:Int),.int .i64 0] h2:=by
  refine zw.intro (fun t vs h3=>h3=h2 /\ ∃ q m2:Nat,q+t=r.zd2.length /\ vs=[.int .i64 (m2:Int),.int .i64 (q:Int)] /\ m2<1000000000000000000 /\ m <= m2) r.zd2.length ?_ ⟨rfl,0,m,by omega,rfl,hm,Nat.le_refl _⟩
  rintro W t3 vs h3 ⟨rfl,q,m2,ht3,rfl,hm2,hle2⟩ hW
  simp -dsimp only [zbw.l2,zbw.k1,e1,e5,B.ze4,e8,el2,lssN,B.zd]
  have hout:Y [.int .i64 (m2:Int),.int .i64 ((k+1:Nat):Int)] h3:=hY (t-1) _ _ (by omega) ⟨rfl,k+1,m2,by omega,rfl,hm2,fun h4k y hy=>by
   rw [List.take_add_one,hr,List.mem_append] at hy
   rcases hy with hy|hy
   ·have:=hall h4 y hy;omega
   ·have:y=r:=by simpa using hy
    rw [this];omega⟩
  by_cases hq1:q<r.zd2.length
  rotate_left
  ·simp -dsimp [hq1,hk1, - V.ze8]
   exact hout
  by_cases hq2:m2 <= 2000
  rotate_left
  ·have: ¬ (m2:Int) <= 2000:=by omega
   simp -dsimp [hq1,this,hk1, - V.ze8]
   exact hout
  have hq2':(m2:Int) <= 2000:=by omega
  have hg:(r.zd2.map tc)[q]? =some (tc r.zd2[q]):=by rw [List.getElem?_map,List.getElem?_eq_getElem hq1];rfl
  have hidx:V.idxS 1 o (.int .i64 (q:Int))=some (elp 1 o q 0):=a2.idxN (by simpa using hq1)
  have hcell:A.ldv h3 (elp 1 o q 0)=some (.str r.zd2[q]):=a2.cell hg
  have n4:=n3 _ (List.getElem_mem hq1)
  have lo:V.zj5 (.str r.zd2[q])=some (.int .i64 (r.zd2[q].length:Int)):=rfl
  have b5:=zh3 (a:=m2) (b:=r.zd2[q].length / 20) (by omega)
  simp -dsimp [hq1,hq2', - V.ze8, - V.zkr]
  simp -dsimp only [e1,e5,e8,hidx,hcell,lo,quo20 n4,b5,add1 (show q<4611686018427387904 by omega),B.ze4,B.zd]
  exact hW (t3-1) _ _ (by omega) ⟨rfl,q+1,_,by omega,rfl,by omega,by omega⟩
 by_cases hq1:q<r.zeg.length
 rotate_left
 ·simp -dsimp [hq1, - zbw.l2]
  exact hnext
 by_cases hq2:m <= 2000
 rotate_left
 ·have: ¬ (m:Int) <= 2000:=by omega
  simp -dsimp [hq1,this, - zbw.l2]
  exact hnext
 have hq2':(m:Int) <= 2000:=by omega
 have hg:(r.zeg.map Part.cs)[q]? =some r.zeg[q].cs:=by rw [List.getElem?_map,List.getElem?_eq_getElem hq1];rfl
 have hl:q<(r.zeg.map Part.cs).length:=by simpa using hq1
 have g1:V.idxS 2 p (.int .i64 (q:Int))=some (elp 2 p q 0):=a1.idxN hl
 have g2:V.fieldAddr 0 (elp 2 p q 0)=some (elp 2 p q 0):=a1.zqc hl 0 0
 have g3:A.ldv h2 (elp 2 p q 0)=some (.str r.zeg[q].Item):=a1.ldv hg (by decide)
 have n4:=n2 _ (List.getElem_mem hq1)
 have lo:V.zj5 (.str r.zeg[q].Item)=some (.int .i64 (r.zeg[q].Item.length:Int)):=rfl
 have b5:=zh3 (a:=m) (b:=r.zeg[q].Item.length / 20) (by omega)
 simp -dsimp [hq1,hq2', - V.ze8, - V.zkr]
 simp -dsimp only [e1,e4,e7,g1,g2,g3,lo,quo20 n4,b5,add1 (show q<4611686018427387904 by omega),B.ze4,B.zd]
 exact hZ (t2-1) _ _ (by omega) ⟨rfl,q+1,_,by omega,rfl,by omega,by omega⟩
structure ItmB (L:List Itm):Prop where
 n:L.length <= 70
 ok: ∀ t∈L,t.zeg.length+t.zd2.length <= 300
theorem ItmB.at {h:za} {x:AVal} {L:List Itm} (b:ItmB L) (hx:Dl zql h x L):Dl ze5 h x L:=itemW_K hx fun t ht=>by have:=b.ok t ht;unfold Itm.ok few;omega
def zc7.Spec (C:CSem) (N:zN):Prop:= ∀ (x y:AVal) (L:List Itm) (M:List Key) (R:List (List AVal)) (h:za) (Q:zQ),Dl zql h x L->L.length<4611686018427387904->(∀ t∈L,t.inLen) ->
 SlX h 1 y (M.map tc) R->M.length<4611686018427387904->(∀ c∈M,c.length<4611686018427387904)->(∀ b:Bool,(b=false->ItmB L /\ M.length <= 200)->Q (.bool b) h)->C (N 555) [x,y] h Q
theorem zc7.spec (i:zc7.Imp C N) (s1:zbw.Spec C N):zc7.Spec C N:=by
 intro x y L M R h Q hx hlen hin hy hM hc hq
 have ly:=hy.zcw
 rw [List.length_map] at ly
 have lx:=hx.zcw
 apply i
 refine zw.intro (fun t vs hh=>hh=h /\ ∃ k n:Nat,k+t=M.length /\ vs=[.int .i64 (n:Int),.int .i64 (k:Int)] /\ n<1000000000000000000 /\ k <= n) M.length ?_ ⟨rfl,0,0,by omega,rfl,by omega,by omega⟩
 rintro Y t vs h ⟨rfl,k,n,ht,rfl,hn,hkn⟩ hY
 have hend:(200<n \/ k=M.length)->zc7.k1 C N (dn Q) x (.int .i64 (n:Int)) h:=fun hor=>by
  simp -dsimp only [zc7.k1]
  refine s1 x L h _ hx hlen hin fun m hm hall=> ?_
  by_cases h3:300<m
  ·have h3':(300:Int)<m:=by omega
   simp -dsimp [h3']
   exact zbu (hq true fun e=>by cases e)
  ·have h3': ¬ (300:Int)<m:=by omega
   by_cases h7:70<L.length
   ·have h7':(70:Int)<L.length:=by omega
    simp -dsimp [h3',lx,h7',h7]
    exact zbu (hq true fun e=>by cases e)
   ·have h7': ¬ (70:Int)<L.length:=by omega
    by_cases h2:200<n
    ·have h2':(200:Int)<n:=by omega
     simp -dsimp [h3',lx,h7',h7,h2']
     exact zbu (hq true fun e=>by cases e)
    ·have h2': ¬ (200:Int)<n:=by omega
     have hk:=hor.resolve_left h2
     simp -dsimp [h3',lx,h7',h7,h2']
     exact zbu (hq false fun _=>⟨⟨by omega,fun t ht=>by have:=hall (by omega) t ht;omega⟩,by omega⟩)
 simp -dsimp only [zc7.l3,zc7.k2,ly,lssN,B.zd]
 by_cases hk:k<M.length
 rotate_left
 ·have:=hend (.inr (by omega))
  simp -dsimp [hk, - zc7.k1]
  exact this
 by_cases h4:n <= 200
 rotate_left
 ·have h4': ¬ (n:Int) <= 200:=by omega
  have:=hend (.inl (by omega))
  simp -dsimp [hk,h4', - zc7.k1]
  exact this
 have h4':(n:Int) <= 200:=by omega
 have hg:(M.map tc)[k]? =some (tc M[k]):=by rw [List.getElem?_map,List.getElem?_eq_getElem hk];rfl
 have hidx:V.idxS 1 y (.int .i64 (k:Int))=some (elp 1 y k 0):=hy.idxN (by simpa using hk)
 have hcell:A.ldv h (elp 1 y k 0)=some (.str M[k]):=hy.cell hg
 have n4:=hc _ (List.getElem_mem hk)
 have lo:V.zj5 (.str M[k])=some (.int .i64 (M[k].length:Int)):=rfl
 have b1:V.bin .add (.int .i64 (n:Int)) (.int .i64 1)=some (.int .i64 ((n+1:Nat):Int)):=add1 (by omega)
 have b5:=zh3 (a:=n+1) (b:=M[k].length / 20) (by omega)
 simp -dsimp [hk,h4', - V.ze8, - V.zkr]
 simp -dsimp only [b1,hidx,hcell,lo,quo20 n4,b5,add1 (show k<4611686018427387904 by omega),B.ze4,B.zd]
 exact hY (t-1) _ _ (by omega) ⟨rfl,k+1,_,by omega,rfl,by omega,by omega⟩
structure TxAt (h:za) (x:AVal) (G:List (List Key)):Prop where
 ls: ∃ (xs:List AVal) (R:List (List AVal)),xs.length=G.length /\ SlX h 1 x (xs.map fun v=>[v]) R /\ ∀ (j:Nat) (v:AVal) (l:List Key),xs[j]? =some v->G[j]? =some l-> ∃ R',SlX h 1 v (l.map tc) R'
theorem TxAt.mono {h h':za} {x:AVal} {G:List (List Key)} (a:TxAt h x G) (hle:h.le h'):TxAt h' x G:=by
 obtain ⟨xs,R,h1,h2,h3⟩:=a.ls
 exact ⟨xs,R,h1,h2.mono hle,fun j v l hv hl=>(h3 j v l hv hl).imp fun _ r=>r.mono hle⟩
theorem TxAt.zcw {h:za} {x:AVal} {G:List (List Key)} (a:TxAt h x G):V.zcw x=some (.int .i64 (G.length:Int)):=by
 obtain ⟨xs,R,h1,h2,_⟩:=a.ls
 have:=h2.zcw
 rw [List.length_map,h1] at this
 exact this
theorem TxAt.get {h:za} {x:AVal} {G:List (List Key)} (a:TxAt h x G) {j:Nat} {l:List Key} (hl:G[j]? =some l): ∃ v R',V.idxS 1 x (.int .i64 (j:Int))=some (elp 1 x j 0) /\ A.ldv h (elp 1 x j 0)=some v /\ SlX h 1 v (l.map tc) R':=by
 obtain ⟨xs,R,h1,h2,h3⟩:=a.ls
 have hj:j<xs.length:=by rw [h1];exact (List.getElem?_eq_some_iff.1 hl).1
 obtain ⟨v,hv⟩:=ze0 hj
 obtain ⟨R',r⟩:=h3 j v l hv hl
 exact ⟨v,R',h2.idxN (by rw [List.length_map];exact hj),h2.cell (by rw [List.getElem?_map,hv];rfl),r⟩
theorem TxAt.of {T:Type} {h:za} {x:AVal} {P:List T} {f:T->AVal} {g:T->List Key} {r:T->List (List AVal)} {R:List (List AVal)} (h1:SlX h 1 x (P.map fun p=>[f p]) R) (h2: ∀ p∈P,SlX h 1 (f p) ((g p).map tc) (r p)):TxAt h x (P.map g):=by
 refine ⟨P.map f,R,by simp,by rw [List.map_map];exact h1,fun j v l hv hl=> ?_⟩
 rw [List.getElem?_map] at hv hl
 cases hp:P[j]? with
 | none=>rw [hp] at hv;cases hv
 | some p=>
  rw [hp] at hv hl
  cases hv;cases hl
  exact ⟨_,h2 p (List.mem_of_getElem? hp)⟩
def zdk.Spec (C:CSem) (N:zN):Prop:= ∀ (x y:AVal) (G H:List (List Key)) (h:za) (Q:zQ),TxAt h x G->TxAt h y H->G.length<4611686018427387904->(∀ l∈G,l.length<4611686018427387904)->Q (.bool (decide (G=H))) h->C (N 563) [x,y] h Q
theorem zdk.spec (i:zdk.Imp C N) (s1:zdn.Spec C N):zdk.Spec C N:=by
 intro x y G H h Q hx hy hG hl hq
 have lx:=hx.zcw
 have ly:=hy.zcw
 apply i
 by_cases hne:G.length=H.length
 rotate_left
 ·have e1: ¬ ((G.length:Int)=(H.length:Int)):=by omega
  have e2:decide (G=H)=false:=decide_eq_false fun e=>hne (by rw [e])
  rw [e2] at hq
  simp -dsimp [lx,ly,e1,hne]
  exact zbu hq
 have e1:((G.length:Int)=(H.length:Int)):=by omega
 simp -dsimp [lx,ly,e1,hne, - zdk.l2]
 refine zw.intro (fun n vs hh=>hh=h /\ ∃ k:Nat,k+n=G.length /\ vs=[.int .i64 (k:Int)] /\ G.take k=H.take k) G.length ?_ ⟨rfl,0,by simp,rfl,by simp⟩
 rintro Y n vs h ⟨rfl,k,hk,rfl,he⟩ hY
 simp -dsimp only [zdk.l2,zdk.k1,lx,lssN,B.zd]
 refine B.zr (fun hc=> ?_) (fun hc=> ?_)
 ·rw [decide_eq_true_eq] at hc
  obtain ⟨a,ha⟩:=ze0 hc
  obtain ⟨b,hb⟩:=ze0 (L:=H) (k:=k) (by omega)
  obtain ⟨v,Rv,f1,f2,f3⟩:=hx.get ha
  obtain ⟨w,Rw,g1,g2,g3⟩:=hy.get hb
  simp -dsimp only [f1,f2,g1,g2,B.ze4,B.zd]
  refine s1 v w a b Rv Rw h _ f3 g3 (hl a (List.mem_of_getElem? ha)) ?_
  by_cases hab:a=b
  ·subst hab
   simp -dsimp only [decide_true,V.zf5,Bool.not_true,B.zd,B.cond_false,add1 (show k<4611686018427387904 by omega)]
   exact hY (n-1) _ _ (by omega) ⟨rfl,k+1,by omega,rfl,by rw [take_succ ha,take_succ hb,he]⟩
  ·have e2:decide (G=H)=false:=decide_eq_false fun e=>hab (by rw [e,hb] at ha;cases ha;rfl)
   rw [e2] at hq
   simp -dsimp only [decide_eq_false hab,V.zf5,Bool.not_false,B.zd,B.cond_true]
   exact zbu hq
 ·rw [decide_eq_false_iff_not] at hc
  have hkk:k=G.length:=by omega
  subst hkk
  rw [List.take_length,hne,List.take_length] at he
  rw [decide_eq_true he] at hq
  exact zbu hq
end Go.Ab
set_option maxRecDepth 100000
namespace Go.Ab
variable {C:CSem} {N:zN}
def fiveP (o p:AVal):List (Itm×AVal×AVal):=[(⟨[65],1,[],[]⟩,.nils,.nils),(⟨[66],1,[],[[67]]⟩,.nils,o),(⟨[67],1,[],[]⟩,.nils,.nils),(⟨[68],1,[],[]⟩,.nils,.nils),(⟨[75],0,[⟨[65],2⟩],[]⟩,p,.nils)]
def fiveI:List Itm:=[⟨[65],1,[],[]⟩,⟨[66],1,[],[[67]]⟩,⟨[67],1,[],[]⟩,⟨[68],1,[],[]⟩,⟨[75],0,[⟨[65],2⟩],[]⟩]
theorem fiveP_at {h:za} {o p:AVal} (ho:SlX h 1 o [tc [67]] []) (hp:SlX h 2 p [Part.cs ⟨[65],2⟩] []): ∀ q∈fiveP o p,ze5.at_ h q.1 q.2:=by
 intro q hq
 have hz: ∀ t:Itm,t.zeg=[]->t.zd2=[]->ze5.at_ h t (.nils,.nils):=fun t e1 e2=>
  ⟨⟨[],by rw [e1];exact SlX.nils h 2⟩,⟨[],by rw [e2];exact SlX.nils h 1⟩,by rw [e1];simp [few],by rw [e2];simp [few]⟩
 simp only [fiveP,List.mem_cons,List.not_mem_nil,or_false] at hq
 rcases hq with rfl|rfl|rfl|rfl|rfl
 ·exact hz _ rfl rfl
 ·exact ⟨⟨[],SlX.nils h 2⟩,⟨[],ho⟩,by simp [few],by simp [few]⟩
 ·exact hz _ rfl rfl
 ·exact hz _ rfl rfl
 ·exact ⟨⟨[],hp⟩,⟨[],SlX.nils h 1⟩,by simp [few],by simp [few]⟩
def zef.Spec (C:CSem) (N:zN):Prop:= ∀ (h:za) (Q:zQ),
 (∀ i o p h1 h',h.le h1->Owns h1 h' [.sl 4 (.sl i 0 0 5 4 5) ((fiveP o p).map ze5.cs) []]->SlX h1 1 o [tc [67]] []->SlX h1 2 p [Part.cs ⟨[65],2⟩] []->Q (.sl i 0 0 5 4 5) h')->C (N 562) [] h Q
theorem zef.spec (i:zef.Imp C N):zef.Spec C N:=by
 intro h Q hq
 apply i
 simp -dsimp [repL]
 refine litT (n:=1) [[67]] rfl rfl fun i1 h1 o1=> ?_
 simp -dsimp [repL]
 refine litO (n:=1) (es:=2) ([(⟨[65],2⟩:Part)].map Part.cs) rfl (by simp) rfl fun i2 h2 o2=> ?_
 simp -dsimp [repL]
 refine litO (n:=5) (es:=4) ((fiveP (.sl i1 0 0 1 1 1) (.sl i2 0 0 1 2 1)).map ze5.cs) rfl (fun p hp=>by obtain ⟨q,_,rfl⟩:=List.mem_map.1 hp;rfl) rfl fun i3 h3 o3=> ?_
 exact zbu (hq i3 _ _ h2 h3 (za.le_trans o1.le o2.le) o3 ((o1.slAt 0 rfl).mono o2.le) (o2.slAt 0 rfl))
theorem five_dl {h:za} {x o p:AVal} {R:List (List AVal)} (hx:SlX h 4 x ((fiveP o p).map ze5.cs) R) (ho:SlX h 1 o [tc [67]] []) (hp:SlX h 2 p [Part.cs ⟨[65],2⟩] []):Dl ze5 h x fiveI:=⟨fiveP o p,R,rfl,hx,fiveP_at ho hp⟩
theorem zef.Spec.rd (s:zef.Spec C N) (h:za) (Q:zQ) (hq: ∀ x h',h.le h'->Dl ze5 h' x fiveI->Q x h'):C (N 562) [] h Q:=s h Q fun i o p h1 h' l1 ow ho hp=>hq _ h' (za.le_trans l1 ow.le) (five_dl (ow.slAt 0 rfl) (ho.mono ow.le) (hp.mono ow.le))
def awkS:Sta:=⟨0,0,0,fiveI,[⟨3,[68],0,0,0,false⟩],[]⟩
theorem five_of:ofT fiveI=[[[65],[75]],[[66],[67]],[[68]]]:=by decide +kernel
theorem five_with:zjg fiveI [[75],[90]]=[[65],[75],[90]]:=by decide +kernel
theorem awk_c1:zgs awkS 4 [67] 0 0=[[35,108,111,116],[66],[67]]:=by decide +kernel
theorem awk_c2:zgs awkS 11 [] 0 3=[[42]]:=by decide +kernel
theorem awk_c3:zgs awkS 12 [] 0 0=[[42]]:=by decide +kernel
theorem awk_part:(partT awkS [[68]]).Lots.length=1:=by decide +kernel
theorem rowsT_at {h0 h:za} {x:AVal} {P:List (AVal×List Key)} {l:List Ob} (o:Owns h0 h l) (hl: ∀ b∈RowsT x P,b∈l):TxAt h x (P.map (·.2)):=by
 have h1:SlX h 1 x (P.map fun p=>[p.1]) []:=o.is (Ob.sl 1 x (List.map (fun p:AVal×List Key=>[p.1]) P) []) (hl _ (by simp))
 exact TxAt.of (f:=fun p:AVal×List Key=>p.1) (g:=fun p=>p.2) (r:=fun _=>[]) h1 fun p hp=>o.is (zjz p) (hl _ (List.mem_append_left _ (List.mem_map_of_mem hp)))
def zd7.Spec (C:CSem) (N:zN):Prop:= ∀ (h:za) (Q:zQ),Q (.bool true) h->C (N 556) [] h Q
theorem zd7.spec (i:zd7.Imp C N) (s1:zef.Spec C N) (s2:zdo.Spec C N) (s3:zdk.Spec C N) (s4:zcx.Spec C N) (s5:zdn.Spec C N) (s6:zn.Spec C N) (s7:zb4.Spec C N):zd7.Spec C N:=by
 intro h Q hq
 apply i
 simp -dsimp only [zd7.cps,zd7.k1]
 refine s1.rd _ _ fun x h1 l1 hx=> ?_
 have cx:=hx.zdd
 simp -dsimp [cx,repL]
 refine litO (n:=1) (es:=6) (awkS.Lots.map Lot.cs) rfl (by simp [awkS]) rfl fun i2 h2 o2=> ?_
 simp -dsimp [cx]
 have hS:StaAt h2 awkS x (.sl i2 0 0 1 6 1) .nils:=⟨hx.mono o2.le,⟨[],o2.slAt 0 rfl⟩,⟨[],SlX.nils h2 8⟩,by decide,by decide,by decide⟩
 refine s1.rd _ _ fun x2 h3 l3 hx2=> ?_
 refine s2 x2 fiveI h3 _ hx2 (by decide) fun v7 P h4 eP o4=> ?_
 rw [five_of] at eP
 have r4:=rowsT_at o4 fun b hb=>hb
 rw [eP] at r4
 simp -dsimp [repL]
 refine litT (n:=2) [[65],[75]] rfl rfl fun j1 h5 o5=> ?_
 simp -dsimp [repL]
 refine litT (n:=2) [[66],[67]] rfl rfl fun j2 h6 o6=> ?_
 simp -dsimp [repL]
 refine litT (n:=1) [[68]] rfl rfl fun j3 h7 o7=> ?_
 simp -dsimp [repL]
 refine litO (n:=3) (es:=1) [[.sl j1 0 0 2 1 2],[.sl j2 0 0 2 1 2],[.sl j3 0 0 1 1 1]] rfl (by simp) rfl fun j4 h8 o8=> ?_
 have t8:TxAt h8 (.sl j4 0 0 3 1 3) [[[65],[75]],[[66],[67]],[[68]]]:=⟨⟨[.sl j1 0 0 2 1 2,.sl j2 0 0 2 1 2,.sl j3 0 0 1 1 1],[],rfl,o8.slAt 0 rfl,fun j v l hv hl=>by
  match j,hv,hl with
  | 0,hv,hl=>cases hv;cases hl;exact ⟨[],(o5.slAt 0 rfl).mono (za.le_trans o6.le (za.le_trans o7.le o8.le))⟩
  | 1,hv,hl=>cases hv;cases hl;exact ⟨[],(o6.slAt 0 rfl).mono (za.le_trans o7.le o8.le)⟩
  | 2,hv,hl=>cases hv;cases hl;exact ⟨[],(o7.slAt 0 rfl).mono o8.le⟩
  | j+3,hv,_=>simp at hv⟩⟩
 have l48:=za.le_trans o5.le (za.le_trans o6.le (za.le_trans o7.le o8.le))
 refine s3 _ _ _ _ h8 _ (r4.mono l48) t8 (by decide) (fun l hl=>by
  simp only [List.mem_cons,List.not_mem_nil,or_false] at hl
  rcases hl with rfl|rfl|rfl<;>decide) ?_
 have l28:=za.le_trans l3 (za.le_trans o4.le l48)
 simp -dsimp only [decide_true,B.gd_t,B.zce,zp7]
 refine s1.rd _ _ fun x3 h9 l9 hx3=> ?_
 simp -dsimp [repL]
 refine litT (n:=2) [[75],[90]] rfl rfl fun j5 h10 o10=> ?_
 simp -dsimp
 refine s4 _ _ fiveI [[75],[90]] [] h10 _ (hx3.mono o10.le) (by decide) (o10.slAt 0 rfl) (by decide) fun w h11 o11=> ?_
 rw [five_with] at o11
 simp -dsimp [repL]
 refine litT (n:=3) [[65],[75],[90]] rfl rfl fun j6 h12 o12=> ?_
 simp -dsimp
 refine s5 _ _ _ _ _ _ h12 _ ((o11.slAt 0 rfl).mono o12.le) (o12.slAt 0 rfl) (by decide) ?_
 have l2c:=za.le_trans l28 (za.le_trans l9 (za.le_trans o10.le (za.le_trans o11.le o12.le)))
 simp -dsimp [repL]
 refine s6 awkS _ _ _ _ 4 [67] 0 0 h12 _ (hS.mono l2c) (by decide) ⟨rfl,rfl,rfl,rfl,rfl⟩ fun w2 h13 o13=> ?_
 rw [awk_c1] at o13
 simp -dsimp [repL]
 refine litT (n:=3) [[35,108,111,116],[66],[67]] rfl rfl fun j7 h14 o14=> ?_
 simp -dsimp
 refine s5 _ _ _ _ _ _ h14 _ ((o13.slAt 0 rfl).mono o14.le) (o14.slAt 0 rfl) (by decide) ?_
 have l2e:=za.le_trans l2c (za.le_trans o13.le o14.le)
 simp -dsimp [repL]
 refine s6 awkS _ _ _ _ 11 [] 0 3 h14 _ (hS.mono l2e) (by decide) ⟨rfl,rfl,rfl,rfl,rfl⟩ fun w3 h15 o15=> ?_
 rw [awk_c2] at o15
 simp -dsimp [repL]
 refine litT (n:=1) [[42]] rfl rfl fun j8 h16 o16=> ?_
 simp -dsimp
 refine s5 _ _ _ _ _ _ h16 _ ((o15.slAt 0 rfl).mono o16.le) (o16.slAt 0 rfl) (by decide) ?_
 have l2g:=za.le_trans l2e (za.le_trans o15.le o16.le)
 simp -dsimp [repL]
 refine s6 awkS _ _ _ _ 12 [] 0 0 h16 _ (hS.mono l2g) (by decide) ⟨rfl,rfl,rfl,rfl,rfl⟩ fun w4 h17 o17=> ?_
 rw [awk_c3] at o17
 simp -dsimp [repL]
 refine litT (n:=1) [[42]] rfl rfl fun j9 h18 o18=> ?_
 simp -dsimp
 refine s5 _ _ _ _ _ _ h18 _ ((o17.slAt 0 rfl).mono o18.le) (o18.slAt 0 rfl) (by decide) ?_
 have l2i:=za.le_trans l2g (za.le_trans o17.le o18.le)
 simp -dsimp [repL]
 refine litT (n:=1) [[68]] rfl rfl fun k1 h19 o19=> ?_
 simp -dsimp
 refine s7 awkS _ _ _ _ [[68]] [] h19 _ (hS.mono (za.le_trans l2i o19.le)) (o19.slAt 0 rfl) (by decide) (by decide) fun a P2 b c h20 e20 o20=> ?_
 have hb:V.zcw b=some (.int .i64 1):=by
  have:=(o20.slAt 1 rfl).zcw
  rw [List.length_map,awk_part] at this
  exact this
 simp -dsimp [hb]
 exact dn_le (za.le_trans l1 (za.le_trans o2.le (za.le_trans l2i (za.le_trans o19.le o20.le)))) hq
end Go.Ab
namespace Go.Ab
variable {C:CSem} {N:zN}
theorem putsT_len: ∀ {m l:List Key},zg1 l->(zjs l m).length <= l.length+m.length
 | [],l,_=>Nat.le_refl _
 | s::m,l,h=>by
  have h1:=putsT_len (m:=m) (zmt (s:=s) h)
  have h2:=putT_len (s:=s) h
  have:(putT l s).length <= l.length+1:=by rw [h2];split<;>omega
  show (zjs (putT l s) m).length <= _
  rw [List.length_cons]
  omega
end Go.Ab
namespace Go.Ab
variable {C:CSem} {N:zN}
theorem codesT_le (I:List Itm):(zby I).length <= I.length:=by
 have:=putsT_len (l:=[]) (m:=I.map Itm.Code) .nil
 simpa [zby] using this
end Go.Ab
set_option maxRecDepth 100000
namespace Go.Ab
variable {C:CSem} {N:zN}
theorem znv (I:List Itm):(ofT I).length <= I.length:=by
 unfold ofT
 rw [List.length_map]
 have h1:=List.length_filter_le (fun c=>decide ((zdl I c).head? =some c)) (zby I)
 have:=codesT_le I
 omega
theorem ofT_mem {I:List Itm} {g:List Key} (hg:g∈ofT I): ∃ c∈zby I,(zdl I c).head? =some c /\ g=zdl I c:=by
 unfold ofT at hg
 obtain ⟨c,hc,rfl⟩:=List.mem_map.1 hg
 obtain ⟨h1,h2⟩:=List.mem_filter.1 hc
 exact ⟨c,h1,by simpa using h2,rfl⟩
theorem zlh {I:List Itm} {c:Key} (hc:c∈zby I):(zdl I c).length <= I.length:=by
 have h1:=(zfb (zc9 hc).1).length_le_of_subset (l₂:=zby I) fun y hy=>(((zc9 hc).2 y).1 hy).zk3 hc
 have:=codesT_le I
 omega
theorem zlb {I:List Itm} {g:List Key} (hg:g∈ofT I):g.length <= I.length:=by
 obtain ⟨c,hc,_,rfl⟩:=ofT_mem hg
 exact zlh hc
end Go.Ab
namespace Go.Ab
abbrev LG:=List AVal->za->(zL)->Prop
@[simp] def z0 (v0:AVal) (X:za->Prop):LG
 | [v],h,Y=>B.pv (V.zcw v0) fun n=>B.pv (V.bin .lss v n) fun b=>B.cond b (False) (X h)
 | _,_,_=>False
def z5 (Q:zQ) (v0 w:AVal) (h:za):Prop:=zw (z0 v0 fun h=>Q (.bool true) h) [.int .i64 0] h
def z4 (Q:zQ) (v0 w:AVal) (h:za):Prop:=zw (z0 v0 (z5 Q v0 w)) [.int .i64 0] h
def z3 (Q:zQ) (v0 w:AVal) (h:za):Prop:=zw (z0 v0 (z4 Q v0 w)) [.int .i64 0] h
def z2 (Q:zQ) (v0 w:AVal) (h:za):Prop:=zw (z0 v0 (z3 Q v0 w)) [.int .i64 0] h
def z1 (Q:zQ) (v0:AVal) (h:za):Prop:=B.pv (V.zcw v0) fun n=>0<1 /\ B.mks h 24 (some [.nils]) n n fun w h=>z2 Q v0 w h
section
variable {P:Program} {C:CSem} {I:Bx}
abbrev g1 (f:AVal->LG):List AVal->LG:=fun kv lv h Y=>match kv with|[a]=>f a lv h Y|_=>False
abbrev g2 (f:AVal->AVal->LG):List AVal->LG:=fun kv lv h Y=>match kv with|[a,b]=>f a b lv h Y|_=>False
structure Lp (P:Program) (C:CSem) (I:Bx) (c:Code) (Q:Ex->zcf->za->Prop) (keep:List Nat) (l:Nat) (G:List AVal->LG) (X:zcf->za->Prop):Prop where
 h1: ∀ s h,bwp P C I (cA (cA c)) (Ex.then (fun s h=>zw (G (keep.map s)) ([l].map s) h) (Ex.then X Q)) s h=zw (G (keep.map s)) [.int .i64 0] h:=by intros;kernel_rfl
 hG: ∀ (Y:zL) (s:zcf) (h:za),bwp P C I (cA (cA (cA (cB (cA c))))) (Ex.then (fun _ _=>False) (Ex.then (fun s h=>Y ([l].map s) h) (Ex.inBlock (cI (cB (cA c))) (Ex.then X Q)))) s h=G (keep.map s) ([l].map s) h Y:=by intros;kernel_rfl
 hk:(isS c&&isS (cA c)&&isK (cB (cA c))&&isL (cA (cB (cA c)))&&isS (cA (cA (cB (cA c))))&&keep.all fun k=> !memB (zg3 P I (cA (cA (cB (cA c))))) k)=true:=by kernel_rfl
end
end Go.Ab
namespace Go.Ab
variable {C:CSem} {N:zN}
instance:Inhabited Ob:=⟨.box .nils []⟩
end Go.Ab
set_option maxRecDepth 100000
namespace Go.Ab
variable {C:CSem} {N:zN}
abbrev LKs:=Nat->LK
namespace LKs
end LKs
section
variable {T Ad:Type}
variable {K:DK T Ad} {inn:T->Ad->LKs}
end
end Go.Ab
namespace Go.Ab
theorem eqv_mono {E F:Key->Key->Prop} (h: ∀ a b,E a b->F a b) {a b:Key} (k:Eqv E a b):Eqv F a b:=by
 induction k with
 | rel k=>exact .rel (h _ _ k)
 | refl=>exact .refl _
 | symm _ ih=>exact .symm ih
 | trans _ _ h1 h2=>exact .trans h1 h2
theorem ofT_at {I:List Itm} {i:Nat} {g:List Key} {c:Key} (h:(ofT I)[i]? =some g) (hc:c∈g):c∈zby I /\ g=zdl I c:=by
 obtain ⟨d,hd,rfl⟩:=zi8.1 (List.mem_of_getElem? h)
 exact ⟨(((zc9 hd).2 c).1 hc).zk3 hd,(zka hd hc).symm⟩
theorem zq8 {g:List Key} (h:headLt g g):False:=zmm h h
theorem ofT_disj {I:List Itm} {i j:Nat} {g k:List Key} {c:Key} (hi:(ofT I)[i]? =some g) (hj:(ofT I)[j]? =some k) (hg:c∈g) (hk:c∈k):i=j:=by
 obtain ⟨_,e1⟩:=ofT_at hi hg
 obtain ⟨_,e2⟩:=ofT_at hj hk
 have e:g=k:=e1.trans e2.symm
 subst e
 obtain ⟨li,hi⟩:=List.getElem?_eq_some_iff.1 hi
 obtain ⟨lj,hj⟩:=List.getElem?_eq_some_iff.1 hj
 have hp:=List.pairwise_iff_getElem.1 (zm0 I)
 rcases Nat.lt_trichotomy i j with h|h|h
 ·have:=hp i j li lj h;rw [hi,hj] at this;exact (zq8 this).elim
 ·exact h
 ·have:=hp j i lj li h;rw [hi,hj] at this;exact (zq8 this).elim
def zfk (G:List (List Key)) (c:Key):Int:=idxI (fun g=>decide (c∈g)) G
theorem zkf {G:List (List Key)} {c:Key}:0 <= zfk G c↔ ∃ g∈G,c∈g:=by
 unfold zfk idxI
 cases e:G.findIdx? (fun g=>decide (c∈g)) with
 | none=>
  rw [List.findIdx?_eq_none_iff] at e
  constructor
  ·intro h;have h:(0:Int) <= -1:=h;omega
  ·rintro ⟨g,hg,hc⟩
   have:=e g hg
   rw [decide_eq_false_iff_not] at this
   exact absurd hc this
 | some i=>
  rw [List.findIdx?_eq_some_iff_getElem] at e
  obtain ⟨h1,h2,_⟩:=e
  refine ⟨fun _=>⟨_,List.getElem_mem h1,of_decide_eq_true h2⟩,fun _=> ?_⟩
  show (0:Int) <= (i:Int)
  omega
theorem zj3 {I:List Itm} {c:Key}:0 <= zfk (ofT I) c↔c∈zby I:=by
 rw [zkf]
 constructor
 ·rintro ⟨g,hg,hc⟩
  obtain ⟨d,hd,rfl⟩:=zi8.1 hg
  exact (((zc9 hd).2 c).1 hc).zk3 hd
 ·intro h
  exact ⟨zdl I c,zi8.2 ⟨c,h,rfl⟩,zf4 h⟩
theorem zpm {I:List Itm} {i:Nat} {g:List Key} {c:Key} (h:(ofT I)[i]? =some g) (hc:c∈g):zfk (ofT I) c=i:=by
 have h0:0 <= zfk (ofT I) c:=zkf.2 ⟨g,List.mem_of_getElem? h,hc⟩
 unfold zfk idxI at h0 ⊢
 cases e:(ofT I).findIdx? (fun g=>decide (c∈g)) with
 | none=>rw [e] at h0;have h0:(0:Int) <= -1:=h0;omega
 | some j=>
  rw [List.findIdx?_eq_some_iff_getElem] at e
  obtain ⟨h1,h2,_⟩:=e
  have:=ofT_disj h (List.getElem?_eq_getElem h1) hc (of_decide_eq_true h2)
  subst this
  rfl
end Go.Ab
set_option maxRecDepth 100000
namespace Go.Ab
variable {C:CSem} {N:zN}
def zcm.Spec (C:CSem) (N:zN):Prop:= ∀ (x:AVal) (G:List (List Key)) (c:Key) (h:za) (Q:zQ),TxAt h x G->G.length<4611686018427387904->(∀ l∈G,l.length<4611686018427387904)->Q (.int .i64 (zfk G c)) h->C (N 552) [x,.str c] h Q
theorem zcm.spec (i:zcm.Imp C N):zcm.Spec C N:=by
 intro x G c h Q hx hG hl hq
 have lx:=hx.zcw
 apply i
 refine zw.intro (fun n vs hh=>hh=h /\ ∃ k:Nat,k+n=G.length /\ vs=[.int .i64 (k:Int)] /\ ∀ j:Nat,j<k-> ∀ g,G[j]? =some g->c∉g) G.length ?_ ⟨rfl,0,by simp,rfl,by omega⟩
 rintro Y n vs h ⟨rfl,k,hk,rfl,he⟩ hY
 simp -dsimp only [zcm.l4,zcm.k3,lx,lssN,B.zd]
 refine B.zr (fun hc=> ?_) (fun hc=> ?_)
 ·rw [decide_eq_true_eq] at hc
  obtain ⟨l,ha⟩:=ze0 hc
  obtain ⟨v,Rv,f1,f2,f3⟩:=hx.get ha
  have hln:=hl l (List.mem_of_getElem? ha)
  have lv:=f3.zcw
  rw [List.length_map] at lv
  refine zw.intro (fun n vs hh=>hh=h /\ ∃ q:Nat,q+n=l.length /\ vs=[.int .i64 (q:Int)] /\ c∉l.take q) l.length ?_ ⟨rfl,0,by simp,rfl,by simp⟩
  rintro Z m vs h ⟨rfl,q,hm,rfl,hq2⟩ hZ
  simp -dsimp only [zcm.l2,zcm.k1,f1,f2,lv,lssN,B.zd,B.ze4]
  refine B.zr (fun hc2=> ?_) (fun hc2=> ?_)
  ·rw [decide_eq_true_eq] at hc2
   obtain ⟨d,hd⟩:=ze0 hc2
   have g1:V.idxS 1 v (.int .i64 (q:Int))=some (elp 1 v q 0):=f3.idxN (by rw [List.length_map];exact hc2)
   have g2:A.ldv h (elp 1 v q 0)=some (.str d):=f3.cell (by rw [List.getElem?_map,hd];rfl)
   simp -dsimp only [f1,f2,g1,g2,B.zd,B.ze4]
   by_cases hdc:d=c
   ·have e:zfk G c=(k:Int):=by
     unfold zfk idxI
     rw [zna (k:=k) hc (fun j hj a ha=>decide_eq_false (he j hj a ha)) (decide_eq_true (by
      have:=(List.getElem?_eq_some_iff.1 ha).2
      rw [this, <- hdc];exact List.mem_of_getElem? hd))]
    rw [e] at hq
    simp -dsimp [hdc]
    exact zbu hq
   ·simp -dsimp [hdc, - V.ze8]
    simp -dsimp only [add1 (show q<4611686018427387904 by omega),B.zd]
    refine hZ (m-1) _ _ (by omega) ⟨rfl,q+1,by omega,rfl,?_⟩
    rw [take_succ hd,List.mem_append]
    rintro (h|h)
    ·exact hq2 h
    ·exact hdc (List.mem_singleton.1 h).symm
  ·rw [decide_eq_false_iff_not] at hc2
   have hqq:q=l.length:=by omega
   subst hqq
   rw [List.take_length] at hq2
   simp -dsimp only [add1 (show k<4611686018427387904 by omega),B.zd]
   refine hY (n-1) _ _ (by omega) ⟨rfl,k+1,by omega,rfl,fun j hj g hg=> ?_⟩
   by_cases hjk:j=k
   ·subst hjk
    rw [ha] at hg;cases hg
    exact hq2
   ·exact he j (by omega) g hg
 ·rw [decide_eq_false_iff_not] at hc
  have e:zfk G c= -1:=by
   unfold zfk idxI
   rw [List.findIdx?_eq_none_iff.2 fun g hg=>by
    obtain ⟨j,hj⟩:=List.mem_iff_getElem?.1 hg
    exact decide_eq_false (he j (by have:=(List.getElem?_eq_some_iff.1 hj).1;omega) g hj)]
  rw [e] at hq
  exact zbu hq
theorem TxAt.getA {h:za} {x:AVal} {G:List (List Key)} (a:TxAt h x G) {j:Nat} {l:List Key} (hl:G[j]? =some l): ∃ v R',V.idxS 1 x (.int .i64 (j:Int))=some (elp 1 x j 0) /\ ∀ h',h.le h'->A.ldv h' (elp 1 x j 0)=some v /\ SlX h' 1 v (l.map tc) R':=by
 obtain ⟨xs,R,h1,h2,h3⟩:=a.ls
 have hj:j<xs.length:=by rw [h1];exact (List.getElem?_eq_some_iff.1 hl).1
 obtain ⟨v,hv⟩:=ze0 hj
 obtain ⟨R',r⟩:=h3 j v l hv hl
 exact ⟨v,R',h2.idxN (by rw [List.length_map];exact hj),fun h' hle=>⟨(h2.mono hle).cell (by rw [List.getElem?_map,hv];rfl),r.mono hle⟩⟩
theorem geqS (a b:Key):V.bin .geq (.str a) (.str b)=some (.bool (!zfu a b)):=rfl
theorem eqlS (a b:Key):V.bin .eql (.str a) (.str b)=some (.bool (decide (a=b))):=by simp -dsimp
end Go.Ab
namespace Go.Ab
theorem codesT_step {I:List Itm} {i:Nat} {t:Itm} (h:I[i]? =some t):(zby (I.take (i+1))).length=(zby (I.take i)).length+if (I.take i).any (fun u=>decide (u.Code=t.Code))=true then 0 else 1:=by
 have e:zby (I.take (i+1))=putT (zby (I.take i)) t.Code:=by
  unfold zby zjs
  rw [take_succ h,List.map_append,List.foldl_append];rfl
 rw [e,putT_len (zjb _)]
 have:t.Code∈zby (I.take i)↔(I.take i).any (fun u=>decide (u.Code=t.Code))=true:=by
  rw [zey,List.any_eq_true]
  simp
 by_cases hm:t.Code∈zby (I.take i)
 ·rw [if_pos hm,if_pos (this.1 hm)];rfl
 ·rw [if_neg hm,if_neg fun h=>hm (this.2 h)]
theorem zqj (I:List Itm):(ofT I).flatten.Nodup:=by
 unfold List.Nodup
 rw [List.pairwise_flatten]
 refine ⟨fun g hg=> ?_,?_⟩
 ·obtain ⟨c,hc,rfl⟩:=zi8.1 hg
  exact zfb (zc9 hc).1
 ·refine List.pairwise_iff_getElem.2 fun i j hi hj hij c h1 d h2 e=> ?_
  subst e
  have:=ofT_disj (List.getElem?_eq_getElem hi) (List.getElem?_eq_getElem hj) h1 h2
  omega
theorem ofT_flat (I:List Itm):(ofT I).flatten.length=(zby I).length:=by
 have hm: ∀ c,c∈(ofT I).flatten↔c∈zby I:=fun c=>by
  rw [<- zj3,zkf,List.mem_flatten]
 have h1:=(zqj I).length_le_of_subset fun c h=>(hm c).1 h
 have h2:=(zfb (zjb I)).length_le_of_subset fun c h=>(hm c).2 h
 omega
theorem flat_step {G:List (List Key)} {i:Nat} {g:List Key} (h:G[i]? =some g):(G.take (i+1)).flatten.length=(G.take i).flatten.length+g.length:=by
 rw [take_succ h,List.flatten_append,List.length_append]
 simp
theorem flat_take_le (G:List (List Key)) (i:Nat):(G.take i).flatten.length <= G.flatten.length:=by
 conv=>rhs;rw [<- List.take_append_drop i G]
 rw [List.flatten_append,List.length_append]
 omega
theorem withT_one {I:List Itm} {i:Nat} {g:List Key} {c:Key} (h:(ofT I)[i]? =some g) (hc:c∈g):zjg I [c]=g:=by
 obtain ⟨h1,rfl⟩:=ofT_at h hc
 refine zif (zk9 _ _) (zc9 h1).1 fun y=> ?_
 rw [zpy,(zc9 h1).2]
 simp only [List.mem_singleton,exists_eq_left,h1,true_and,not_true,false_and,or_false]
theorem zpt {I:List Itm} {c:Key} (hc:c∈zby I): ∃ i:Nat,(ofT I)[i]? =some (zdl I c) /\ zfk (ofT I) c=i:=by
 obtain ⟨i,hi⟩:=List.mem_iff_getElem?.1 (zi8.2 ⟨c,hc,rfl⟩)
 exact ⟨i,hi,zpm hi (zf4 hc)⟩
theorem zqz {I:List Itm} {t:Itm} (ht:t∈I) {m:Key} (hm:m∈t.zeg.map Part.Item++t.zd2) (hk:0 <= zfk (ofT I) m):zfk (ofT I) m=zfk (ofT I) t.Code:=by
 have hmc:=zj3.1 hk
 have htc:t.Code∈zby I:=zey.2 ⟨t,ht,rfl⟩
 obtain ⟨i,hi,e⟩:=zpt htc
 rw [e]
 exact zpm hi (((zc9 htc).2 m).2 (.rel ⟨t,ht,rfl,hm,hmc⟩))
def zfd (t:Itm):List Key:=t.Code::(t.zd2++t.zeg.map Part.Item)
theorem ziz {t:Itm} {c:Key}:c∈zfd t↔c=t.Code \/ c∈t.zeg.map Part.Item++t.zd2:=by
 unfold zfd
 rw [List.mem_cons,List.mem_append,List.mem_append]
 constructor
 ·rintro (h|h|h)
  ·exact .inl h
  ·exact .inr (.inr h)
  ·exact .inr (.inl h)
 ·rintro (h|h|h)
  ·exact .inl h
  ·exact .inr (.inr h)
  ·exact .inr (.inl h)
theorem names_eqv {I:List Itm} {t:Itm} (ht:t∈I) {m n:Key} (hm:m∈zfd t) (hmc:m∈zby I) (hn:n∈zfd t) (hnc:n∈zby I):Eqv (zig I) m n:=by
 have key: ∀ m,m∈zfd t->m∈zby I->Eqv (zig I) t.Code m:=fun m hm hc=>by
  rcases ziz.1 hm with rfl|h
  ·exact .refl _
  ·exact .rel ⟨t,ht,rfl,h,hc⟩
 exact .trans (.symm (key m hm hmc)) (key n hn hnc)
structure zlw (I:List Itm) (c:Key) (S:List Key):Prop where
 nodup:S.Nodup
 sub: ∀ y∈S,Eqv (zig I) c y
 head:c∈S
theorem zlw.len {I:List Itm} {c:Key} {S:List Key} (h:zlw I c S) (hc:c∈zby I):S.length <= (zdl I c).length:=
 h.nodup.length_le_of_subset fun y hy=>((zc9 hc).2 y).2 (h.sub y hy)
def Shut (I:List Itm) (S:List Key) (t:Itm) (b:Key):Prop:=b∈zfd t-> ∀ y∈zfd t,y∈zby I->y∈S
theorem Shut.mono {I:List Itm} {S S':List Key} {t:Itm} {b:Key} (h:Shut I S t b) (hs:S <+: S'):Shut I S' t b:=fun hb y hy hc=>hs.subset (h hb y hy hc)
theorem zlw.all {I:List Itm} {c:Key} {S:List Key} (h:zlw I c S) (hc:c∈zby I) (hs: ∀ b∈S,∀ t∈I,Shut I S t b):S.length=(zdl I c).length:=by
 have h1:=h.len hc
 have edge: ∀ a b,zig I a b->(a∈S↔b∈S):=fun a b ⟨t,ht,e,hb,hk⟩=>by
  have na:a∈zfd t:=ziz.2 (.inl e.symm)
  have nb:b∈zfd t:=ziz.2 (.inr hb)
  have ca:a∈zby I:=zey.2 ⟨t,ht,e⟩
  exact ⟨fun h=>hs a h t ht na b nb hk,fun h=>hs b h t ht nb a na ca⟩
 have key: ∀ a b,Eqv (zig I) a b->(a∈S↔b∈S):=fun a b h=>by
  induction h with
  | rel h=>exact edge _ _ h
  | refl=>exact Iff.rfl
  | symm _ ih=>exact ih.symm
  | trans _ _ h1 h2=>exact h1.trans h2
 have h2:=(zfb (zc9 hc).1).length_le_of_subset (l₂:=S) fun y hy=>(key c y (((zc9 hc).2 y).1 hy)).1 h.head
 omega
theorem zlw.put {I:List Itm} {c:Key} {S:List Key} {t:Itm} {b y:Key} (h:zlw I c S) (hc:c∈zby I) (ht:t∈I) (hb:b∈S) (hbt:b∈zfd t) (hy:y∈zfd t) (hyc:y∈zby I) (hn:y∉S):zlw I c (S++[y]):=by
 refine ⟨?_,fun z hz=> ?_,List.mem_append_left _ h.head⟩
 ·refine List.nodup_append.2 ⟨h.nodup,List.pairwise_singleton _ _,fun a ha d hd e=> ?_⟩
  rw [List.mem_singleton.1 hd] at e
  subst e
  exact hn ha
 ·rcases List.mem_append.1 hz with hz|hz
  ·exact h.sub z hz
  ·rw [List.mem_singleton.1 hz]
   have hb2:=h.sub b hb
   exact .trans hb2 (names_eqv ht hbt (hb2.zk3 hc) hy hyc)
def zfi:Key:=[126,111,119,110]
def zee:Itm:=⟨zfi,0,[],[]⟩
theorem zhg {I:List Itm} {c:Key}:c∈zby (I++[zee])↔c∈zby I \/ c=zfi:=by
 rw [zey,zey]
 constructor
 ·rintro ⟨t,ht,rfl⟩
  rcases List.mem_append.1 ht with h|h
  ·exact .inl ⟨t,h,rfl⟩
  ·rw [List.mem_singleton.1 h];exact .inr rfl
 ·rintro (⟨t,ht,rfl⟩|rfl)
  ·exact ⟨t,List.mem_append_left _ ht,rfl⟩
  ·exact ⟨zee,by simp,rfl⟩
theorem name_more {I:List Itm} (hn: ∀ t∈I,zfi∉zfd t) {a b:Key}:zig (I++[zee]) a b↔zig I a b:=by
 constructor
 ·rintro ⟨t,ht,e,hb,hk⟩
  rcases List.mem_append.1 ht with h|h
  ·refine ⟨t,h,e,hb,(zhg.1 hk).resolve_right fun e2=> ?_⟩
   subst e2
   exact hn t h (ziz.2 (.inr hb))
  ·rw [List.mem_singleton.1 h] at hb
   cases hb
 ·rintro ⟨t,ht,e,hb,hk⟩
  exact ⟨t,List.mem_append_left _ ht,e,hb,zhg.2 (.inl hk)⟩
theorem eqv_more {I:List Itm} (hn: ∀ t∈I,zfi∉zfd t) {a b:Key}:Eqv (zig (I++[zee])) a b↔Eqv (zig I) a b:=
 ⟨eqv_mono fun _ _ h=>(name_more hn).1 h,eqv_mono fun _ _ h=>(name_more hn).2 h⟩
theorem zq9 {I:List Itm} (hn: ∀ t∈I,zfi∉zfd t) {c:Key} (hc:c∈zby I):zdl (I++[zee]) c=zdl I c:=by
 refine zif (zc9 (zhg.2 (.inl hc))).1 (zc9 hc).1 fun y=> ?_
 rw [(zc9 (zhg.2 (.inl hc))).2,(zc9 hc).2,eqv_more hn]
theorem alone_not {I:List Itm} (hn: ∀ t∈I,zfi∉zfd t):zfi∉zby I:=fun h=>by
 obtain ⟨t,ht,e⟩:=zey.1 h
 exact hn t ht (ziz.2 (.inl e.symm))
theorem zp8 {I:List Itm} (hn: ∀ t∈I,zfi∉zfd t):zdl (I++[zee]) zfi=[zfi]:=by
 have hc:zfi∈zby (I++[zee]):=zhg.2 (.inr rfl)
 refine zif (zc9 hc).1 (List.pairwise_singleton _ _) fun y=> ?_
 rw [(zc9 hc).2,eqv_more hn,List.mem_singleton]
 refine ⟨fun h=> ?_,fun e=>by rw [e];exact .refl _⟩
 have key: ∀ a b,Eqv (zig I) a b->a∈zby I \/ a=b:=fun a b h=>by
  have:(a=b \/ a∈zby I /\ b∈zby I):=by
   induction h with
   | rel h=>
    obtain ⟨t,ht,e,_,hk⟩:=h
    exact .inr ⟨zey.2 ⟨t,ht,e⟩,hk⟩
   | refl=>exact .inl rfl
   | symm _ ih=>
    rcases ih with e|⟨h1,h2⟩
    ·exact .inl e.symm
    ·exact .inr ⟨h2,h1⟩
   | trans _ _ i1 i2=>
    rcases i1 with e|⟨h1,h2⟩
    ·subst e;exact i2
    ·rcases i2 with e|⟨h3,h4⟩
     ·subst e;exact .inr ⟨h1,h2⟩
     ·exact .inr ⟨h1,h4⟩
  rcases this with e|⟨h,_⟩
  ·exact .inr e
  ·exact .inl h
 rcases key _ _ h with h|e
 ·exact absurd h (alone_not hn)
 ·exact e.symm
theorem of_more {I:List Itm} (hn: ∀ t∈I,zfi∉zfd t): ∃ i:Nat,zfk (ofT (I++[zee])) zfi=i /\ (ofT (I++[zee]))[i]? =some [zfi] /\ (ofT (I++[zee])).take i++(ofT (I++[zee])).drop (i+1)=ofT I:=by
 have hc:zfi∈zby (I++[zee]):=zhg.2 (.inr rfl)
 obtain ⟨i,hi,e⟩:=zpt hc
 rw [zp8 hn] at hi
 refine ⟨i,e,hi,?_⟩
 have hl:=(List.getElem?_eq_some_iff.1 hi).1
 have hs:(ofT (I++[zee])).take i++(ofT (I++[zee])).drop (i+1)=(ofT (I++[zee])).eraseIdx i:=(List.eraseIdx_eq_take_drop_succ ..).symm
 refine rise_ext (fun a b h k=>zmm h k) ?_ (zm0 I) fun g=> ?_
 ·rw [hs]
  exact (zm0 _).sublist (List.eraseIdx_sublist _ _)
 ·rw [hs,List.mem_eraseIdx_iff_getElem?,zi8]
  constructor
  ·rintro ⟨j,hne,hj⟩
   obtain ⟨c,hcc,rfl⟩:=zi8.1 (List.mem_of_getElem? hj)
   rcases zhg.1 hcc with hcI|rfl
   ·exact ⟨c,hcI,zq9 hn hcI⟩
   ·rw [zp8 hn] at hj
    exact absurd (ofT_disj hj hi (c:=zfi) (by simp) (by simp)) hne
  ·rintro ⟨c,hcI,rfl⟩
   have hcm:=zhg.2 (.inl hcI)
   obtain ⟨j,hj,_⟩:=zpt hcm
   rw [zq9 hn hcI] at hj
   refine ⟨j,fun e2=> ?_,hj⟩
   subst e2
   rw [hi] at hj
   have:c∈[zfi]:=by
    rw [Option.some.inj hj];exact zf4 hcI
   rw [List.mem_singleton.1 this] at hcI
   exact alone_not hn hcI
theorem zq0 (l:List Key) (c:Key):zfk [l] c=if c∈l then 0 else -1:=by
 unfold zfk idxI
 by_cases h:c∈l
 ·simp [h]
 ·simp [h]
end Go.Ab
set_option maxRecDepth 100000
namespace Go.Ab
variable {C:CSem} {N:zN}
theorem TxAt.one {h:za} {v:AVal} {l:List Key} {R:List (List AVal)} (hs:SlX h 1 v (l.map tc) R) {id:Nat} (hid:h id=none):TxAt (upd h id (zek [v])) (.sl id 0 0 1 1 1) [l]:=by
 refine ⟨[v],[],rfl,SlX.lit (zca ..) (by simp) rfl (by simp) rfl,fun j w m hw hm=> ?_⟩
 cases j with
 | zero=>
  cases hw;cases hm
  exact ⟨R,hs.mono (zgm _ hid)⟩
 | succ j=>simp at hw
theorem lit1 {v:AVal} (hv:v.zdd=true):zei [(0,none,v)] (repL 1 [.nils])=some [v]:=by simp -dsimp [hv,repL]
theorem placeOne (l:List Key) (c:Key):V.bin .eql (.int .i64 (zfk [l] c)) (.int .i64 0)=some (.bool (decide (c∈l))):=by
 rw [zq0]
 by_cases h:c∈l
 ·simp -dsimp [h]
 ·simp -dsimp [h]
theorem placeOneLt (l:List Key) (c:Key):V.bin .lss (.int .i64 (zfk [l] c)) (.int .i64 0)=some (.bool (!decide (c∈l))):=by
 rw [zq0]
 by_cases h:c∈l
 ·simp -dsimp [h]
 ·simp -dsimp [h]
theorem whole_more (s1:zc8.Spec C N) (s2:zdo.Spec C N) (s3:zcm.Spec C N) (s4:zdk.Spec C N) {x g:AVal} {I:List Itm} {h:za} {Q:zQ} (hx:Dl ze5 h x I) (hI:I.length <= 70) (hg:TxAt h g (ofT I)) (hn: ∀ t∈I,zfi∉zfd t) (hq: ∀ h',h.le h'->Q (.bool true) h'):
  zq.k1 C N Q x g (.str zfi) h:=by
 have hok: ∀ t∈I,ze5.ok t:=fun t ht=>hx.ok t ht
 simp -dsimp only [zq.k1]
 refine s1 x I h _ hx (by omega) fun x1 P h1 eP o1=> ?_
 have lP:P.length=I.length:=by have:=congrArg List.length eP;rwa [List.length_map] at this
 have hb:A.bld [(0,none,.str zfi)] [.str [],.int .i64 0,.nils,.nils]=some (.agg [.str zfi,.int .i64 0,.nils,.nils]):=rfl
 have hf:zei [(0,some 4,.agg [.str zfi,.int .i64 0,.nils,.nils])] (repL 1 [.str [],.int .i64 0,.nils,.nils])=some [.str zfi,.int .i64 0,.nils,.nils]:=rfl
 simp -dsimp only [hb,B.zd]
 rw [hf]
 have o1:Owns h h1 (.sl 4 x1 (P.map ze5.cs) []::ze5.os false P):=o1
 have p2:=(o1.nils 2).nils 1
 refine p2.push (cs:=ze5.cs (zee,(.nils,.nils))) 0 rfl rfl (by decide) (by simp;omega) (by simp [maxLen];omega) fun x2 h2 o2 _=> ?_
 have o3:Owns h h2 (.sl 4 x2 ((P++[(zee,(AVal.nils,AVal.nils))]).map ze5.cs) []::ze5.os false (P++[(zee,(AVal.nils,AVal.nils))])):=by
  rw [List.map_append,DK.zpq,DK.os_one]
  have:=o2
  simp only [List.append_assoc,List.cons_append,List.set_cons_zero] at this
  exact this
 have eP2:(P++[(zee,(AVal.nils,AVal.nils))]).map (·.1)=I++[zee]:=by rw [List.map_append,eP];rfl
 have hd:Dl ze5 h2 x2 (I++[zee]):=by
  rw [<- eP2]
  refine Df.dl o3 fun p hp=> ?_
  rcases List.mem_append.1 hp with hp|hp
  ·exact hok _ (by rw [<- eP];exact List.mem_map_of_mem hp)
  ·rw [List.mem_singleton.1 hp]
   exact ⟨by simp [zee,few],by simp [zee,few]⟩
 refine s2 x2 (I++[zee]) h2 _ hd (by simp;omega) fun m PM h3 eM oM=> ?_
 have tm:TxAt h3 m (ofT (I++[zee])):=by
  have:=rowsT_at oM fun b hb=>hb
  rwa [eM] at this
 have lm:=tm.zcw
 have lM:(ofT (I++[zee])).length <= (I++[zee]).length:=znv _
 have lI:(I++[zee]).length=I.length+1:=by simp
 have lPM:PM.length=(ofT (I++[zee])).length:=by rw [<- eM,List.length_map]
 have lg1: ∀ l∈ofT (I++[zee]),l.length<4611686018427387904:=fun l hl=>by have:=zlb hl;omega
 obtain ⟨at_,e1,e2,e3⟩:=of_more hn
 have hat:=(List.getElem?_eq_some_iff.1 e2).1
 refine s3 m _ zfi h3 _ tm (by omega) lg1 ?_
 rw [e1]
 obtain ⟨v,R',f1,f2⟩:=tm.getA e2
 obtain ⟨f3,f4⟩:=f2 h3 (za.le_refl _)
 have lv:=f4.zcw
 have hm:SlX h3 1 m (PM.map fun p=>[p.1]) []:=oM.is (.sl 1 m (PM.map fun p:AVal×List Key=>[p.1]) []) (by simp [RowsT])
 obtain ⟨u,Ru,u1,u2,_⟩:=hm.sliceIn (by omega) (lo:=0) (hi:=at_) (a:=none) (b:=some (.int .i64 (at_:Int))) (.inl ⟨rfl,rfl⟩) (.inr ⟨_,rfl⟩) (by omega) (by omega)
 obtain ⟨w,Rw,w1,w2,_⟩:=hm.sliceIn (by omega) (lo:=at_+1) (hi:=PM.length) (a:=some (.int .i64 ((at_+1:Nat):Int))) (b:=none) (.inr ⟨_,rfl⟩) (.inl ⟨rfl,rfl⟩) (by omega) (by omega)
 rw [List.drop_zero] at u2
 rw [List.take_length] at w2
 have g0:V.bin .geq (.int .i64 (at_:Int)) (.int .i64 0)=some (.bool true):=by simp -dsimp
 have l1:V.zcw v=some (.int .i64 1):=lv
 have q1:V.bin .eql (.int .i64 1) (.int .i64 1)=some (.bool true):=by simp -dsimp
 simp -dsimp only [g0,B.gd_t,B.zce,f1,f3,l1,q1,u1,w1,add1 (show at_<4611686018427387904 by omega),B.ze4,B.zd,B.zev]
 have oS:=(Owns.start h3).sz 1
 refine oS.appW 0 rfl u2 (by omega) (by simp;omega) (by simp [maxLen];omega) fun z1 h4 o4 _=> ?_
 simp -dsimp only [B.gd_t,B.zce]
 refine Owns.appW (bytes:=24) o4 0 rfl (w2.mono o4.le) (by omega) (by simp only [List.length_append,List.length_map,List.length_take,List.length_drop,List.length_nil];omega) (by simp only [List.length_append,List.length_map,List.length_take,List.length_drop,List.length_nil,maxLen];omega) fun z2 h5 o5 _=> ?_
 have s5:SlX h5 1 z2 ((PM.take at_++PM.drop (at_+1)).map fun p=>[p.1]) []:=by
  rw [List.map_append]
  exact o5.slAt 0 rfl
 have tz:TxAt h5 z2 (ofT I):=by
  have:=TxAt.of (f:=fun p:AVal×List Key=>p.1) (g:=fun p=>p.2) (r:=fun _=>[]) s5 fun p hp=>by
   have hp:p∈PM:=by
    rcases List.mem_append.1 hp with hp|hp
    ·exact List.mem_of_mem_take hp
    ·exact List.mem_of_mem_drop hp
   have:=oM.is (zjz p) (List.mem_append_left _ (List.mem_map_of_mem hp))
   exact SlX.mono (show SlX h3 1 p.1 (p.2.map tc) [] from this) o5.le
  rw [List.map_append,List.map_take,List.map_drop,eM,e3] at this
  exact this
 have l05:h.le h5:=za.le_trans o3.le (za.le_trans oM.le o5.le)
 have lG:(ofT I).length <= I.length:=znv _
 simp -dsimp only [B.gd_t,B.zce]
 refine s4 z2 g _ _ h5 _ tz (hg.mono l05) (by omega) (fun l hl=>by have:=zlb hl;omega) ?_
 rw [decide_eq_true rfl]
 simp -dsimp only [B.zev]
 exact hq _ l05
theorem whole_alone (s1:zc8.Spec C N) (s2:zdo.Spec C N) (s3:zcm.Spec C N) (s4:zdk.Spec C N) {x g:AVal} {I:List Itm} {h:za} {Q:zQ} (hx:Dl ze5 h x I) (hB:ItmB I) (hg:TxAt h g (ofT I)) (hq: ∀ h',h.le h'->Q (.bool true) h'):
  zw (zq.l6 C N Q x g (.str zfi)) [.int .i64 0] h:=by
 have hI:=hB.n
 have lx:=hx.zcw
 refine zw.intro (fun t vs hh=>h.le hh /\ ∃ q:Nat,q+t=I.length /\ vs=[.int .i64 (q:Int)] /\ ∀ t∈I.take q,zfi∉zfd t) I.length ?_ ⟨za.le_refl _,0,by omega,rfl,by simp⟩
 rintro Y t vs hh ⟨le1,q,ht,rfl,hall⟩ hY
 simp -dsimp only [zq.l6,zq.k5,lx,lssN,B.zd]
 refine B.zr (fun hc=> ?_) (fun hc=> ?_)
 ·rw [decide_eq_true_eq] at hc
  obtain ⟨r,hr⟩:=ze0 hc
  have hrI:=List.mem_of_getElem? hr
  have hb:=hB.ok r hrI
  obtain ⟨p,o,g1,_,g3,g4,g5,g6,g7,g8,ga⟩:=zp5 (hx.mono le1) hr
  obtain ⟨⟨Rp,hp⟩,⟨Ro,ho⟩,hok⟩:(∃ R,SlX hh 2 p (r.zeg.map Part.cs) R) /\ (∃ R,SlX hh 1 o (r.zd2.map tc) R) /\ r.ok:=ga
  have co:=ho.zdd
  have lp:=hp.zcw
  rw [List.length_map] at lp
  simp -dsimp only [zq.k4,g1,g3,g5,g6,B.ze4,B.zd,eqlS]
  by_cases hcd:r.Code=zfi
  ·simp -dsimp only [decide_eq_true hcd,B.gd_f,Bool.not_true,B.zdw,B.zev,B.cond_true]
   exact hq _ le1
  ·simp -dsimp only [decide_eq_false hcd,B.gd_f,Bool.not_false,B.zce,g1,g5,g8,B.ze4,B.zd,B.ze2,lit1 co]
   intro id hid
   simp -dsimp only [decide_eq_false hcd,B.gd_f,Bool.not_false,B.zce]
   have t1:=TxAt.one ho hid
   have le2:=za.le_trans le1 (zgm (zek [o]) hid)
   refine s3 _ _ zfi _ _ t1 (by simp) (fun l hl=>by rw [List.mem_singleton.1 hl];omega) ?_
   simp -dsimp only [decide_eq_false hcd,B.gd_f,Bool.not_false,B.zce,placeOne,B.zd,B.ze2]
   by_cases ho2:zfi∈r.zd2
   ·simp -dsimp only [decide_eq_true ho2,B.cond_true]
    exact hq _ le2
   ·simp -dsimp only [decide_eq_false ho2,B.cond_false]
    have hp2:=hp.mono (zgm (zek [o]) hid)
    have g42:A.ldv (upd hh id (zek [o])) (elp 4 x q 2)=some p:=by
     exact zk1 (zgm (zek [o]) hid) g7
    refine zw.intro (fun t vs h'=>h'=upd hh id (zek [o]) /\ ∃ j:Nat,j+t=r.zeg.length /\ vs=[.int .i64 (j:Int)] /\ zfi∉(r.zeg.take j).map Part.Item) r.zeg.length ?_ ⟨rfl,0,by omega,rfl,by simp⟩
    rintro Z m vs h' ⟨e',j,hm,rfl,hj⟩ hZ
    subst e'
    simp -dsimp only [zq.l3,zq.k2,g1,g4,g42,lp,lssN,B.ze4,B.zd]
    refine B.zr (fun hc2=> ?_) (fun hc2=> ?_)
    ·rw [decide_eq_true_eq] at hc2
     obtain ⟨w,hw⟩:=ze0 hc2
     have hk':j<(r.zeg.map Part.cs).length:=by rw [List.length_map];omega
     have f1:V.idxS 2 p (.int .i64 (j:Int))=some (elp 2 p j 0):=hp2.idxN hk'
     have f2:V.fieldAddr 0 (elp 2 p j 0)=some (elp 2 p j 0):=hp2.zqc hk' 0 0
     have f3:A.ldv (upd hh id (zek [o])) (elp 2 p j 0)=some (.str w.Item):=hp2.ldv (f:=0) (c:=w.cs) (by rw [List.getElem?_map,hw];rfl) (by omega)
     simp -dsimp only [g1,g4,g42,f1,f2,f3,eqlS,B.ze4,B.zd]
     by_cases hwc:w.Item=zfi
     ·simp -dsimp only [decide_eq_true hwc,B.cond_true]
      exact hq _ le2
     ·simp -dsimp only [decide_eq_false hwc,B.cond_false,add1 (show j<4611686018427387904 by omega),B.zd]
      refine hZ (m-1) _ _ (by omega) ⟨rfl,j+1,by omega,rfl,?_⟩
      rw [take_succ hw,List.map_append,List.mem_append]
      rintro (h|h)
      ·exact hj h
      ·exact hwc (List.mem_singleton.1 h).symm
    ·rw [decide_eq_false_iff_not] at hc2
     have hjj:j=r.zeg.length:=by omega
     subst hjj
     rw [List.take_length] at hj
     simp -dsimp only [add1 (show q<4611686018427387904 by omega),B.zd]
     refine hY (t-1) _ _ (by omega) ⟨le2,q+1,by omega,rfl,?_⟩
     rw [take_succ hr]
     intro t' ht'
     rcases List.mem_append.1 ht' with h|h
     ·exact hall t' h
     ·rw [List.mem_singleton.1 h,ziz,List.mem_append]
      rintro (h|h|h)
      ·exact hcd h.symm
      ·exact hj h
      ·exact ho2 h
 ·rw [decide_eq_false_iff_not] at hc
  have hqq:q=I.length:=by omega
  subst hqq
  rw [List.take_length] at hall
  exact whole_more s1 s2 s3 s4 (hx.mono le1) hI (hg.mono le1) hall fun h' hle=>hq h' (za.le_trans le1 hle)
end Go.Ab
set_option maxRecDepth 100000
namespace Go.Ab
variable {C:CSem} {N:zN}
theorem zqy {α:Type} {S S':List α} (h:S <+: S') {n:Nat} {b:α} (hb:S[n]? =some b):S'[n]? =some b:=by
 obtain ⟨u,rfl⟩:=h
 rw [List.getElem?_append_left (List.getElem?_eq_some_iff.1 hb).1]
 exact hb
theorem namesO_len {t:Itm} (h:t.zeg.length+t.zd2.length <= 300):(zfd t).length <= 301:=by
 unfold zfd
 simp
 omega
theorem whole_names (s3:zcm.Spec C N) {g sv nv:AVal} {I:List Itm} {c b:Key} {n:Nat} {S:List Key} {t:Itm} {b0 h:za} {Q:zQ} {Y3 Y4 Y5:zL} {x v5 v7 v8:AVal} (hg:TxAt b0 g (ofT I)) (hI:I.length <= 70) (hB:t.zeg.length+t.zd2.length <= 300) (hc:c∈zby I) (ht:t∈I)
  (hS:zlw I c S) (hb:S[n]? =some b) (ho:Owns b0 h [.sl 1 sv (S.map tc) [],.sl 1 nv ((zfd t).map tc) []]) (hv7:v7= .int .i64 (n:Int)) {k:Nat} (hk:k <= 70) (hv8:v8= .int .i64 (k:Int))
  (hY: ∀ (S':List Key) (sv':AVal) (h':za),S <+: S'->zlw I c S'->Shut I S' t b->Owns b0 h' [.sl 1 sv' (S'.map tc) []]->Y5 [sv',.int .i64 ((k+1:Nat):Int)] h'):
  zq.k10 C N Q Y3 Y4 Y5 x g v5 sv v7 v8 nv h:=by
 subst hv7 hv8
 have lG:(ofT I).length <= I.length:=znv _
 have lg1: ∀ l∈ofT I,l.length<4611686018427387904:=fun l hl=>by have:=zlb hl;omega
 have lS: ∀ S,zlw I c S->S.length <= 70:=fun S h=>by have:=h.len hc;have:=zlh hc;omega
 have lN:=namesO_len hB
 have hs0:SlX h 1 sv (S.map tc) []:=ho.slAt 0 rfl
 have hn0:SlX h 1 nv ((zfd t).map tc) []:=ho.slAt 1 rfl
 have cn:=hn0.zdd
 have ln:=hn0.zcw
 rw [List.length_map] at ln
 have hnS:=(List.getElem?_eq_some_iff.1 hb).1
 have f1:V.idxS 1 sv (.int .i64 (n:Int))=some (elp 1 sv n 0):=hs0.idxN (by rw [List.length_map];exact hnS)
 simp -dsimp only [zq.k10,lit1 cn]
 intro id hid
 have t1:=TxAt.one hn0 hid
 have f2:A.ldv (upd h id (zek [nv])) (elp 1 sv n 0)=some (.str b):=(hs0.mono (zgm _ hid)).cell (by rw [List.getElem?_map,hb];rfl)
 simp -dsimp only [f1,f2,B.ze4,B.zd]
 refine s3 _ _ b _ _ t1 (by simp) (fun l hl=>by rw [List.mem_singleton.1 hl];omega) ?_
 simp -dsimp only [placeOne,B.zd]
 refine zw.intro (fun m vs hh=> ∃ (S':List Key) (sv':AVal) (p:Nat),p+m=(zfd t).length /\ vs=[sv',.int .i64 (p:Int)] /\ S <+: S' /\ zlw I c S' /\ (b∈zfd t-> ∀ y∈(zfd t).take p,y∈zby I->y∈S') /\ Owns b0 hh [.sl 1 sv' (S'.map tc) [],.sl 1 nv ((zfd t).map tc) []]) (zfd t).length ?_
  ⟨S,sv,0,by omega,rfl,List.prefix_rfl,hS,fun _ y hy=>by simp at hy,ho.grow (zgm _ hid)⟩
 rintro Y6 m vs hh ⟨S',sv',p,hm,rfl,hpre,hS',hin,o⟩ hY6
 have hn1:SlX hh 1 nv ((zfd t).map tc) []:=o.slAt 1 rfl
 have hs1:SlX hh 1 sv' (S'.map tc) []:=o.slAt 0 rfl
 have cs1:=hs1.zdd
 have lS':=lS S' hS'
 have hend:(b∈zfd t->p=(zfd t).length)->Y5 [sv',.int .i64 ((k+1:Nat):Int)] hh:=fun hp=>by
  refine hY S' sv' hh hpre hS' (fun hbt y hy hyc=> ?_) (o.sub (List.sublist_append_left [_] [_]))
  refine hin hbt y ?_ hyc
  rw [hp hbt,List.take_length];exact hy
 simp -dsimp only [zq.l9,zq.k8]
 by_cases hbt:b∈zfd t
 rotate_left
 ·simp -dsimp only [decide_eq_false hbt,B.gd_t,B.zdw,B.ze2,B.cond_false,add1 (show k<4611686018427387904 by omega),B.zd]
  exact hend fun h=>absurd h hbt
 simp -dsimp only [decide_eq_true hbt,B.gd_t,B.zce,ln,lssN,B.zev,B.zd]
 refine B.zr (fun hc2=> ?_) (fun hc2=> ?_)
 rotate_left
 ·rw [decide_eq_false_iff_not] at hc2
  simp -dsimp only [add1 (show k<4611686018427387904 by omega),B.zd]
  exact hend fun _=>by omega
 rw [decide_eq_true_eq] at hc2
 obtain ⟨y,hy⟩:=ze0 hc2
 have hyN:=List.mem_of_getElem? hy
 have e1:V.idxS 1 nv (.int .i64 (p:Int))=some (elp 1 nv p 0):=hn1.idxN (by rw [List.length_map];exact hc2)
 have e2:A.ldv hh (elp 1 nv p 0)=some (.str y):=hn1.cell (by rw [List.getElem?_map,hy];rfl)
 have hbS:b∈S':=hpre.subset (List.mem_of_getElem? hb)
 simp -dsimp only [e1,e2,B.ze4,B.zd]
 refine s3 g _ y hh _ (hg.mono o.le) (by omega) lg1 ?_
 have skip: ∀ h',hh.le h'->(y∈zby I->y∈S')->Y6 [sv',.int .i64 ((p+1:Nat):Int)] h':=fun h' hle hyk=>by
  refine hY6 (m-1) _ _ (by omega) ⟨S',sv',p+1,by omega,rfl,hpre,hS',fun _ z hz hzc=> ?_,o.grow hle⟩
  rw [take_succ hy,List.mem_append] at hz
  rcases hz with hz|hz
  ·exact hin hbt z hz hzc
  ·rw [List.mem_singleton.1 hz] at hzc ⊢;exact hyk hzc
 by_cases hyc:y∈zby I
 rotate_left
 ·have g0:decide ((0:Int) <= zfk (ofT I) y)=false:=decide_eq_false fun h=>hyc (zj3.1 h)
  simp -dsimp only [V.zgb,g0,B.gd_t,B.zdw,B.ze2,B.cond_false,add1 (show p<4611686018427387904 by omega),B.zd]
  exact skip hh (za.le_refl _) fun h=>absurd h hyc
 have g0:decide ((0:Int) <= zfk (ofT I) y)=true:=decide_eq_true (zj3.2 hyc)
 simp -dsimp only [V.zgb,g0,B.gd_t,B.zce,B.zev,lit1 cs1,B.zd]
 intro id2 hid2
 have t2:=TxAt.one hs1 hid2
 have le2:=zgm (zek [sv']) hid2
 have e3:A.ldv (upd hh id2 (zek [sv'])) (elp 1 nv p 0)=some (.str y):=zk1 le2 e2
 simp -dsimp only [g0,B.gd_t,B.zce,e1,e3,B.ze4,B.zd]
 refine s3 _ _ y _ _ t2 (by simp) (fun l hl=>by rw [List.mem_singleton.1 hl];omega) ?_
 simp -dsimp only [g0,B.gd_t,B.zce,placeOneLt,B.zev,B.zd]
 by_cases hyS:y∈S'
 ·simp -dsimp only [decide_eq_true hyS,Bool.not_true,B.cond_false,add1 (show p<4611686018427387904 by omega),B.zd]
  exact skip _ le2 fun _=>hyS
 ·have hf:zei [(0,none,.str y)] (repL 1 [.str []])=some [.str y]:=rfl
  simp -dsimp only [decide_eq_false hyS,Bool.not_false,B.cond_true,e1,e3,B.ze4,B.zd,hf]
  refine (o.grow le2).push 0 rfl (cs:=[.str y]) rfl (by omega) (by simp;omega) (by simp [maxLen];omega) fun sv2 h3 o3 _=> ?_
  simp -dsimp only [add1 (show p<4611686018427387904 by omega),B.zd]
  refine hY6 (m-1) _ _ (by omega) ⟨S'++[y],sv2,p+1,by omega,rfl,hpre.trans (List.prefix_append _ _),hS'.put hc ht hbS hbt hyN hyc hyS,fun _ z hz hzc=> ?_,?_⟩
  ·rw [take_succ hy,List.mem_append] at hz
   rcases hz with hz|hz
   ·exact List.mem_append_left _ (hin hbt z hz hzc)
   ·exact List.mem_append_right _ hz
  ·rw [List.map_append]
   exact o3
theorem whole_items (s3:zcm.Spec C N) {x g sv:AVal} {I:List Itm} {c b:Key} {n:Nat} {S:List Key} {b0 h:za} {Q:zQ} {Y3 Y4:zL} {v5:AVal} (hx:Dl ze5 b0 x I) (hg:TxAt b0 g (ofT I)) (hB:ItmB I) (hc:c∈zby I)
  (hS:zlw I c S) (hb:S[n]? =some b) (ho:Owns b0 h [.sl 1 sv (S.map tc) []])
  (hY: ∀ (S':List Key) (sv':AVal) (h':za),S <+: S'->zlw I c S'->(∀ t∈I,Shut I S' t b)->Owns b0 h' [.sl 1 sv' (S'.map tc) []]->Y4 [sv',.int .i64 ((n+1:Nat):Int)] h'):
  zw (zq.l15 C N Q Y3 Y4 x g v5 (.int .i64 (n:Int))) [sv,.int .i64 0] h:=by
 have hI:=hB.n
 have lx:=hx.zcw
 have lS: ∀ S,zlw I c S->S.length <= 70:=fun S h=>by have:=h.len hc;have:=zlh hc;omega
 have hn:=(List.getElem?_eq_some_iff.1 hb).1
 have hlS:=lS S hS
 refine zw.intro (fun m vs hh=> ∃ (S':List Key) (sv':AVal) (k:Nat),k+m=I.length /\ vs=[sv',.int .i64 (k:Int)] /\ S <+: S' /\ zlw I c S' /\ (∀ t∈I.take k,Shut I S' t b) /\ Owns b0 hh [.sl 1 sv' (S'.map tc) []]) I.length ?_ ⟨S,sv,0,by omega,rfl,List.prefix_rfl,hS,fun t ht=>by simp at ht,ho⟩
 rintro Y5 m vs hh ⟨S',sv',k,hm,rfl,hpre,hS',hin,o⟩ hY5
 simp -dsimp only [zq.l15,zq.k14,lx,lssN,B.zd]
 refine B.zr (fun hc2=> ?_) (fun hc2=> ?_)
 rotate_left
 ·rw [decide_eq_false_iff_not] at hc2
  have hkk:k=I.length:=by omega
  subst hkk
  rw [List.take_length] at hin
  simp -dsimp only [add1 (show n<4611686018427387904 by omega),B.zd]
  exact hY S' sv' hh hpre hS' hin o
 rw [decide_eq_true_eq] at hc2
 obtain ⟨t,hr⟩:=ze0 hc2
 have htI:=List.mem_of_getElem? hr
 have hbt:=hB.ok t htI
 obtain ⟨p,q,g1,_,g3,g4,g5,g6,g7,g8,ga⟩:=zp5 hx hr
 obtain ⟨⟨Rp,hp⟩,⟨Ro,hq⟩,hok⟩:(∃ R,SlX b0 2 p (t.zeg.map Part.cs) R) /\ (∃ R,SlX b0 1 q (t.zd2.map tc) R) /\ t.ok:=ga
 have lp:=hp.zcw
 rw [List.length_map] at lp
 have hf:zei [(0,none,.str t.Code)] (repL 1 [.str []])=some [.str t.Code]:=rfl
 simp -dsimp only [zq.k13,g1,g3,g5,zk1 o.le g6,zk1 o.le g8,hf,B.ze4,B.zd]
 intro id hid
 have o1:=o.zqk (id:=id) (n:=1) (cp:=1) (es:=1) (cs:=[.str t.Code]) (L:=[t.Code].map tc) (R:=[]) hid (by simp [tc]) rfl (by simp) rfl
 refine Owns.appW (bytes:=16) o1 1 rfl (hq.mono o1.le) (by omega) (by simp only [List.length_map,List.length_cons,List.length_nil];omega) (by simp only [List.length_map,List.length_cons,List.length_nil,maxLen];omega) fun nv h2 o2 _=> ?_
 have o2:Owns b0 h2 [.sl 1 sv' (S'.map tc) [],.sl 1 nv ((t.Code::(t.zd2++(t.zeg.take 0).map Part.Item)).map tc) []]:=by
  rw [List.take_zero,List.map_nil,List.append_nil]
  exact o2
 refine zw.intro (fun n vs hh=> ∃ (j:Nat) (nv:AVal),j+n=t.zeg.length /\ vs=[nv,.int .i64 (j:Int)] /\ Owns b0 hh [.sl 1 sv' (S'.map tc) [],.sl 1 nv ((t.Code::(t.zd2++(t.zeg.take j).map Part.Item)).map tc) []]) t.zeg.length ?_ ⟨0,nv,by omega,rfl,o2⟩
 rintro Z m2 vs h3 ⟨j,nv3,hm2,rfl,o3⟩ hZ
 simp -dsimp only [zq.l12,zq.k11,g1,g4,zk1 o3.le g7,lp,lssN,B.ze4,B.zd]
 refine B.zr (fun hc3=> ?_) (fun hc3=> ?_)
 ·rw [decide_eq_true_eq] at hc3
  obtain ⟨w,hw⟩:=ze0 hc3
  have hk':j<(t.zeg.map Part.cs).length:=by rw [List.length_map];omega
  have f1:V.idxS 2 p (.int .i64 (j:Int))=some (elp 2 p j 0):=hp.idxN hk'
  have f2:V.fieldAddr 0 (elp 2 p j 0)=some (elp 2 p j 0):=hp.zqc hk' 0 0
  have f3:A.ldv h3 (elp 2 p j 0)=some (.str w.Item):=(hp.mono o3.le).ldv (f:=0) (c:=w.cs) (by rw [List.getElem?_map,hw];rfl) (by omega)
  have hf:zei [(0,none,.str w.Item)] (repL 1 [.str []])=some [.str w.Item]:=rfl
  have tl:(t.zeg.take j).length <= 300:=by rw [List.length_take];omega
  simp -dsimp only [g1,g4,zk1 o3.le g7,f1,f2,f3,B.ze4,B.zd,hf]
  refine o3.push 1 rfl (cs:=[.str w.Item]) rfl (by omega) (by simp only [List.length_map,List.length_cons,List.length_append];omega) (by simp only [List.length_map,List.length_cons,List.length_append,maxLen];omega) fun nv4 h4 o4 _=> ?_
  simp -dsimp only [add1 (show j<4611686018427387904 by omega),B.zd]
  refine hZ (m2-1) _ _ (by omega) ⟨j+1,nv4,by omega,rfl,?_⟩
  have e:(t.Code::(t.zd2++(t.zeg.take (j+1)).map Part.Item)).map tc=(t.Code::(t.zd2++(t.zeg.take j).map Part.Item)).map tc++[[.str w.Item]]:=by
   rw [take_succ hw,List.map_append, <- List.append_assoc, <- List.cons_append,List.map_append];rfl
  rw [e]
  exact o4
 ·rw [decide_eq_false_iff_not] at hc3
  have hjj:j=t.zeg.length:=by omega
  subst hjj
  rw [List.take_length] at o3
  refine whole_names s3 hg hI hbt hc htI hS' (zqy hpre hb) o3 rfl (k:=k) (by omega) rfl fun S2 sv2 h5 hp2 hS2 hsh o5=> ?_
  refine hY5 (m-1) _ _ (by omega) ⟨S2,sv2,k+1,by omega,rfl,hpre.trans hp2,hS2,fun u hu=> ?_,o5⟩
  rw [take_succ hr,List.mem_append] at hu
  rcases hu with hu|hu
  ·exact (hin u hu).mono hp2
  ·rw [List.mem_singleton.1 hu];exact hsh
def zq.Spec (C:CSem) (N:zN):Prop:= ∀ (x g:AVal) (I:List Itm) (h:za) (Q:zQ),Dl ze5 h x I->ItmB I->TxAt h g (ofT I)->Q (.bool true) h->C (N 551) [x,g] h Q
theorem zq.spec (i:zq.Imp C N) (s1:zc8.Spec C N) (s2:zdo.Spec C N) (s3:zcm.Spec C N) (s4:zdk.Spec C N):zq.Spec C N:=by
 intro x g I h Q hx hB hg hq
 have hI:=hB.n
 have lg:=hg.zcw
 have lG:(ofT I).length <= I.length:=znv _
 apply i
 refine zw.intro (fun t vs hh=>h.le hh /\ ∃ q:Nat,q+t=(ofT I).length /\ vs=[.int .i64 (q:Int)]) (ofT I).length ?_ ⟨za.le_refl _,0,by omega,rfl⟩
 rintro Y t vs hh ⟨le1,q,ht,rfl⟩ hY
 simp -dsimp only [zq.l20,zq.k19,lg,lssN,B.zd]
 refine B.zr (fun hc=> ?_) (fun hc=> ?_)
 rotate_left
 ·exact whole_alone s1 s2 s3 s4 (hx.mono le1) hB (hg.mono le1) fun h' hle=>dn_le (za.le_trans le1 hle) hq
 rw [decide_eq_true_eq] at hc
 obtain ⟨l,hl⟩:=ze0 hc
 obtain ⟨v,R',f1,f2⟩:=hg.getA hl
 obtain ⟨d,hd,rfl⟩:=zi8.1 (List.mem_of_getElem? hl)
 obtain ⟨f3,f4⟩:=f2 hh le1
 have hself:=zf4 hd
 obtain ⟨c,r,hcr⟩: ∃ c r,zdl I d=c::r:=by
  cases e:zdl I d with
  | nil=>rw [e] at hself;cases hself
  | cons c r=>exact ⟨c,r,rfl⟩
 have hcg:c∈zdl I d:=by rw [hcr];exact List.mem_cons_self ..
 have hc':c∈zby I:=(((zc9 hd).2 c).1 hcg).zk3 hd
 have heq:=zka hd hcg
 have hlen:=zlh hd
 have e1:V.idxS 1 v (.int .i64 0)=some (elp 1 v 0 0):=f4.idxN (i:=0) (by rw [hcr];simp)
 have e2:A.ldv hh (elp 1 v 0 0)=some (.str c):=f4.cell (by rw [hcr];rfl)
 have hf:zei [(0,none,.str c)] (repL 1 [.str []])=some [.str c]:=rfl
 simp -dsimp only [zq.k18,f1,f3,e1,e2,hf,B.ze4,B.zd]
 intro id hid
 have o1:=(Owns.start hh).zqk (id:=id) (n:=1) (cp:=1) (es:=1) (cs:=[.str c]) (L:=[c].map tc) (R:=[]) hid (by simp [tc]) rfl (by simp) rfl
 refine zw.intro (fun m vs h2=> ∃ (S:List Key) (sv:AVal) (n:Nat),n+m=(zdl I d).length /\ vs=[sv,.int .i64 (n:Int)] /\ n <= S.length /\ zlw I c S /\ (∀ b∈S.take n,∀ t∈I,Shut I S t b) /\ Owns hh h2 [.sl 1 sv (S.map tc) []]) (zdl I d).length ?_
  ⟨[c],_,0,by omega,rfl,by omega,⟨List.pairwise_singleton _ _,fun y hy=>by rw [List.mem_singleton.1 hy];exact .refl _,by simp⟩,fun b hb=>by simp at hb,o1⟩
 rintro Y4 m vs h2 ⟨S,sv,n,hm,rfl,hnS,hS,hsh,o⟩ hY4
 have hs:SlX h2 1 sv (S.map tc) []:=o.slAt 0 rfl
 have ls:=hs.zcw
 rw [List.length_map] at ls
 have lS:=hS.len hc'
 rw [heq] at lS
 simp -dsimp only [zq.l17,zq.k16,ls,lssN,B.zd]
 refine B.zr (fun hc2=> ?_) (fun hc2=> ?_)
 ·rw [decide_eq_true_eq] at hc2
  obtain ⟨b,hb⟩:=ze0 hc2
  refine whole_items s3 (hx.mono le1) (hg.mono le1) hB hc' hS hb o fun S' sv' h3 hp hS' hsh' o3=> ?_
  refine hY4 (m-1) _ _ (by omega) ⟨S',sv',n+1,by omega,rfl,by have:=hp.length_le;omega,hS',fun b' hb' t ht=> ?_,o3⟩
  rw [take_succ (zqy hp hb),List.mem_append] at hb'
  rcases hb' with hb'|hb'
  ·have:S'.take n=S.take n:=by
    obtain ⟨u,rfl⟩:=hp
    rw [List.take_append_of_le_length hnS]
   rw [this] at hb'
   exact (hsh b' hb' t ht).mono hp
  ·rw [List.mem_singleton.1 hb'];exact hsh' t ht
 ·rw [decide_eq_false_iff_not] at hc2
  have hnn:n=S.length:=by omega
  subst hnn
  rw [List.take_length] at hsh
  have hall:=hS.all hc' hsh
  rw [heq] at hall
  obtain ⟨k3,k4⟩:=f2 h2 (za.le_trans le1 o.le)
  have lv:=k4.zcw
  rw [List.length_map] at lv
  have nq:V.bin .neq (.int .i64 (S.length:Int)) (.int .i64 ((zdl I d).length:Int))=some (.bool false):=by simp -dsimp [hall]
  simp -dsimp only [zq.k7,ls,f1,k3,lv,nq,B.ze4,B.zd,B.cond_false,add1 (show q<4611686018427387904 by omega)]
  exact hY (t-1) _ _ (by omega) ⟨za.le_trans le1 o.le,q+1,by omega,rfl⟩
end Go.Ab
