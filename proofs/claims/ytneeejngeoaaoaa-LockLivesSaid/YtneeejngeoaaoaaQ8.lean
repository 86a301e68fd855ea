/- What is proved: a part of the way to the statement: Clock24. No conditions. -/
import Derived.Test.YtneeejngeoaaoaaQ7
import Derived.Test.YtneeejngeoaaoaaQ2
import Derived.Test.YtneeejngeoaaoaaQ6
set_option linter.unusedVariables false
set_option linter.unusedSimpArgs false
namespace Go.Ab
open List
variable{C:z5}{N:zN}
structure Stp where
 Op:Int
 Work:Int
 Names:List Key
def zk3:DK Stp za where
 n:=3
 bytes:=40
 z:=[.int .i64 0,.int .i64 0,.zeg]
 pos:=by omega
 small:=by omega
 zlen:=rfl
 cells t a:=[.int .i64 t.Op,.int .i64 t.Work,a]
 len _ _:=rfl
 at_ h t a:=∃R,SlX h 1 a (t.Names.map tc) R
 mono hle ha:=ha.imp λ_ r=>r.mono hle
 ok _:=True
 at_ok _:=trivial
 obs b t a:=[zn7 b a t.Names]
 ofObs {b h t a} _ ha:=⟨_,show SlX h 1 a (t.Names.map tc) (bif b then zgb else []) from ha (zn7 b a t.Names) (by simp)⟩
def Stp.inLen(t:Stp):Prop:=t.Names.length<100000000000000000 /\ ∀n∈t.Names,n.length<4611686018427387904
abbrev tyStep:Ty:= .st [.i .i64,.i .i64,.sl 16 1 .s]
theorem dStep{H:zb}{p:List za}(h:zii H tyStep p):∃(t:Stp)(a:za),p=zk3.cells t a /\ zk3.at_ H t a /\ t.inLen:=by
 obtain⟨a,r,rfl,⟨n1,rfl,q1⟩,⟨b,r2,rfl,⟨n2,rfl,_⟩,⟨c,r3,rfl,h3,hr⟩⟩⟩:=h;cases hr;obtain⟨v,rfl⟩:=absSl1 h3;obtain⟨O,g1,g2,g3⟩:=dTextsL h3;exact⟨⟨n1,n2,O⟩,v,rfl,⟨[],g1⟩,g2,g3⟩
theorem dSteps{H:zb}{v:za}(h:zii H (.sl 40 3 tyStep) [v]):∃L:List Stp,Dl zk3 H v L /\ L.length<4611686018427387904 /\ ∀t∈L,t.inLen:=by
 obtain⟨L,h1,h2,h3⟩:=arg_sliceDP (K:=zk3) (λp hp=>dStep hp) h;exact⟨L,h1,by unfold reach at h2;omega,h3⟩
theorem Dl.upTo{T Ad:Type}{K:DK T Ad}{h:zb}{x:za}{L:List T}(hd:Dl K h x L){m:Nat}(hm:m <= L.length):∃y,V.zh6 K.n x none (some (.int .i64 (m:Int)))=some y /\ Dl K h y (L.take m):=by
 obtain⟨P,R,e,s,ha⟩:=hd;have hl:P.length=L.length:=by rw[<-e,length_map]
 obtain⟨y,e1,e2,e3⟩:=s.slice K.pos (lo:=0) (hi:=m) (a:=none) (b:=some (.int .i64 m)) (.inl ⟨rfl,rfl⟩) (.inr ⟨_,rfl⟩) (Nat.zero_le _) (by rw[length_map];omega);rw[drop_zero,take_append_of_le_length (by rw[length_map];omega),<-map_take]at e2;exact⟨y,e1,P.take m,_,by rw[map_take,e],e2,λq hq=>ha q (mem_of_mem_take hq)⟩
structure StpAt(h:zb)(x:za)(i:Nat)(r:Stp)(a:za):Prop where
 idx:V.zc9 3 x (.int .i64 (i:Int))=some (elp 3 x i 0)
 f0:V.fieldAddr 0 (elp 3 x i 0)=some (elp 3 x i 0)
 f1:V.fieldAddr 1 (elp 3 x i 0)=some (elp 3 x i 1)
 f2:V.fieldAddr 2 (elp 3 x i 0)=some (elp 3 x i 2)
 l0:A.ldv h (elp 3 x i 0)=some (.int .i64 r.Op)
 l1:A.ldv h (elp 3 x i 1)=some (.int .i64 r.Work)
 l2:A.ldv h (elp 3 x i 2)=some a
 ldn:A.zl2 h (elp 3 x i 0) 3=some (.agg [.int .i64 r.Op,.int .i64 r.Work,a])
 at_:∃R,SlX h 1 a (r.Names.map tc) R
 len:V.zde a=some (.int .i64 (r.Names.length:Int))
theorem zp7{h:zb}{x:za}{L:List Stp}(hx:Dl zk3 h x L){i:Nat}{r:Stp}(hr:L[i]?=some r):∃a,StpAt h x i r a:=by
 obtain⟨a,ea⟩:=hx.get hr;obtain⟨R1,a1⟩:∃R,SlX h 1 a (r.Names.map tc) R:=ea.at_;exact⟨a,ea.idx,ea.fld 0 0,ea.fld 0 1,ea.fld 0 2,ea.ld 0 (by decide),ea.ld 1 (by decide),ea.ld 2 (by decide),ea.ldn,⟨R1,a1⟩,by simpa using a1.zde⟩
theorem StpAt.mono'{h h':zb}{x:za}{L:List Stp}{i:Nat}{r:Stp}{a:za}(ea:StpAt h x i r a)(hle:h.le h')(hx:Dl zk3 h x L)(hr:L[i]?=some r):A.ldv h' (elp 3 x i 2)=some a:=by
 obtain⟨P,R,rfl,s,ha⟩:=hx;rw[getElem?_map]at hr;obtain⟨p,hp,rfl⟩:=Option.map_eq_some_iff.1 hr;have e1:=(slX_el s ha hp).ld 2 (by decide);have e2:=(slX_el (s.mono hle) (λq hq=>zk3.mono hle (ha q hq)) hp).ld 2 (by decide);have e3:A.ldv h' (elp 3 x i 2)=A.ldv h (elp 3 x i 2):=e2.trans e1.symm;rw[e3,ea.l2]
def zkz(L:List Stp):Nat:=(L.map λt=>t.Names.length).sum
theorem zqt{L:List Stp}{k:Nat}{r:Stp}(hr:L[k]?=some r):zkz (L.take (k+1))=zkz (L.take k)+r.Names.length:=by
 unfold zkz;rw[take_add_one,hr,map_append,sum_append];simp
theorem zqu{L:List Stp}{k:Nat}:zkz (L.take k) <= zkz L:=by
 unfold zkz
 conv=>rhs;rw[<-take_append_drop k L,map_append,sum_append]
 omega
def zcj.Spec(C:z5)(N:zN):Prop:=∀(x:za)(L:List Stp)(h:zb)(Q:zQ),Dl zk3 h x L->L.length<4611686018427387904->(∀t∈L,t.inLen)->(∀b:Bool,(b=false->zkz L <= 2000)->Q (.bool b) h)->C (N 486) [x] h Q
theorem leq2000{n:Nat}:V.bin .leq (.int .i64 (n:Int)) (.int .i64 2000)=some (.bool (decide (n <= 2000))):=by rw[V.bin_leq];congr 3;exact propext (by omega)
theorem gtr2000{n:Nat}:V.bin .gtr (.int .i64 (n:Int)) (.int .i64 2000)=some (.bool (decide (2000<n))):=by rw[V.zm9];congr 3;exact propext (by omega)
theorem zcj.spec(i:zcj.Imp C N):zcj.Spec C N:=by
 intro x L h Q hx hlen hin hq;apply i;refine z3.intro (λt vs hh=>hh=h /\ ∃k n:Nat,k+t=L.length /\ vs=[.int .i64 (n:Int),.int .i64 (k:Int)] /\ n<1000000000000000000 /\ (n <= 2000->zkz (L.take k) <= n)) L.length ?_ ⟨rfl,0,0,by omega,rfl,by omega,λ_=>Nat.le_refl _⟩;rintro Y t vs h ⟨rfl,k,n,ht,rfl,hn,hall⟩ hY;have hend:(2000<n \/ k=L.length)->dn Q (.bool (decide ((2000:Int)<(n:Int)))) h:=λhor=>by
  rw[show decide ((2000:Int)<(n:Int))=decide (2000<n) from decide_eq_decide.2 (by omega)];refine zbh (hq _ λe=>?_);have h4:¬ 2000<n:=of_decide_eq_false e;have hk:k=L.length:=hor.resolve_left h4;rw[hk,take_length]at hall;have:=hall (by omega);omega
 simp -dsimp only[zcj.l4,zcj.k3,hx.zde,zp1,leq2000,gtr2000,B.zf];by_cases hk:k<L.length
 rotate_left
 ·simp -dsimp only[hk,decide_false,B.zor,Bool.not_false,B.zbe,B.zf3,B.cond_false,B.zfu,B.zfh]
  have:=hend (.inr (by omega));simpa -dsimp using this
 by_cases h4:n <= 2000
 rotate_left
 ·have:=hend (.inl (by omega))
  have h4':¬ (n:Int) <= 2000:=by omega
  simpa -dsimp[hk,h4']using this
 have h4':(n:Int) <= 2000:=by omega
 obtain⟨r,hr⟩:=zf0 hk;have hrm:=mem_of_getElem? hr;obtain⟨n1,n2⟩:=hin r hrm;obtain⟨a,ea⟩:=zp7 hx hr;obtain⟨R,ha⟩:=ea.at_;have ns:=zqt hr;simp -dsimp[hk,h4',-zcj.l2];refine z3.intro (λt vs h2=>h2=h /\ ∃q m:Nat,q+t=r.Names.length /\ vs=[.int .i64 (m:Int),.int .i64 (q:Int)] /\ m<1000000000000000000 /\ (m <= 2000->zkz (L.take k)+q <= m)) r.Names.length ?_ ⟨rfl,0,n,by omega,rfl,hn,hall⟩;rintro Z t2 vs h2 ⟨rfl,q,m,ht2,rfl,hm,hle⟩ hZ;have hout:(2000<m \/ q=r.Names.length)->Y [.int .i64 (m:Int),.int .i64 ((k+1:Nat):Int)] h2:=λhor=>by
  refine hY (t-1) _ _ (by omega) ⟨rfl,k+1,m,by omega,rfl,hm,λhm2=>?_⟩;have:=hle hm2;have hq:q=r.Names.length:=hor.resolve_left (by omega);omega
 have ak1:=zgr (show k<4611686018427387904 by omega);simp -dsimp only[zcj.l2,zcj.k1,ea.idx,ea.f2,ea.l2,ea.len,B.zed,zp1,leq2000,B.zf,zgr (show k<4611686018427387904 by omega)];by_cases hq':q<r.Names.length
 rotate_left
 ·have:=hout (.inr (by omega))
  simpa -dsimp[hq',-V.zh7,ak1]using this
 by_cases h5:m <= 2000
 rotate_left
 ·have:=hout (.inl (by omega))
  have h5':¬ (m:Int) <= 2000:=by omega
  simpa -dsimp[hq',h5',-V.zh7,ak1]using this
 have h5':(m:Int) <= 2000:=by omega
 have g1:(r.Names.map tc)[q]?=some (tc r.Names[q]):=by rw[getElem?_map,getElem?_eq_getElem hq'];rfl
 have i1:V.zc9 1 a (.int .i64 (q:Int))=some (elp 1 a q 0):=ha.znf (by simpa using hq');have c1:A.ldv h2 (elp 1 a q 0)=some (.str r.Names[q]):=ha.cell g1;have hnl:=n2 _ (getElem_mem hq');have lc:V.zqx (.str r.Names[q])=some (.int .i64 (r.Names[q].length:Int)):=rfl;have key:Z [.int .i64 ((m+1+r.Names[q].length / 20:Nat):Int),.int .i64 ((q+1:Nat):Int)] h2:=by
  refine hZ (t2-1) _ _ (by omega) ⟨rfl,q+1,m+1+r.Names[q].length / 20,by omega,rfl,by omega,λhm2=>?_⟩;have:=hle (by omega);omega
 simp -dsimp only[hq',decide_true,B.zfu,B.zbe,leq2000,h5,B.zf,B.zex,B.cond_true,ea.idx,ea.f2,ea.l2,B.zed,i1,c1,lc,quo20 hnl,zgr (show m<4611686018427387904 by omega),zgr (show q<4611686018427387904 by omega),zpq (a:=m+1) (b:=r.Names[q].length / 20) (by omega)];exact key
def zls(d:DL)(n:Nat):Prop:=∀w∈d.L,w.ze0.length+w.zfn.length <= n
theorem zls.mono{d:DL}{n m:Nat}(h:zls d n)(hm:n <= m):zls d m:=λw hw=>Nat.le_trans (h w hw) hm
theorem putT_le1(l:List Key)(s:Key):(zhb l s).length <= l.length+1:=by
 induction l with
 | nil=>simp[zhb]
 | cons a r ih=>
  unfold zhb
  repeat' split
  all_goals simp only[length_cons]<;>omega
theorem wantD_len(w:DW)(names:List Key):(zf2 w names).length <= w.zfn.length+names.length:=by
 unfold zf2;generalize w.zfn=a
 induction names generalizing a with
 | nil=>simp
 | cons x r ih=>
  rw[foldl_cons,length_cons];refine Nat.le_trans (ih _) ?_;split
  ·have:=putT_le1 a x;omega
  ·omega
theorem puts_len(B H:List Key):(B.foldl zhb H).length <= H.length+B.length:=by
 induction B generalizing H with
 | nil=>simp
 | cons x r ih=>
  rw[foldl_cons,length_cons];have:=ih (zhb H x);have:=putT_le1 H x;omega
theorem workD_small{d:DL}{n:Nat}(h:zls d n)(k:Int):(ze1 d k).ze0.length+(ze1 d k).zfn.length <= n:=by
 unfold ze1;cases e:findD d.L k with
 | none=>simp
 | some w=>exact h w (zlm e).1
theorem ask_small{d:DL}{n:Nat}(h:zls d n)(k:Int)(names:List Key):zls (zjv d k names).2 (n+names.length):=by
 have h1:=workD_small h k;have h2:=wantD_len (ze1 d k) names;have h3:=puts_len (zf2 (ze1 d k) names) (ze1 d k).ze0;unfold zjv;simp only;split
 all_goals
  intro w hw;rcases zlz hw with rfl|hw
  ·simp only[length_nil];omega
  ·have:=h w hw;omega
theorem free_small{d:DL}{n:Nat}(h:zls d n)(k:Int):zls (zpn d k) n:=λw hw=>h w (znt hw)
theorem holdsD_len{d:DL}{n:Nat}(h:zls d n)(k:Int):(zi7 d k).length <= n:=by
 unfold zi7;cases e:findD d.L k with
 | none=>simp
 | some w=>have:=h w (zlm e).1;simp only;omega
variable{C:z5}{N:zN}
theorem eql0N{n:Nat}:V.bin .eql (.int .i64 (n:Int)) (.int .i64 0)=some (.bool (decide (n=0))):=by rw[V.zgq];congr 3;exact propext (by omega)
structure zk8(s:Lk)(d:DL)(k n:Nat):Prop where
 ok:s.Ok
 rel:Rel s d
 zpa:zhv d
 apart:zph d
 last:d.zhz <= k
 len:d.L.length <= k
 small:zls d n
theorem zk8.zero{s:Lk}(hk:s.Ok)(hw:s.W=[])(hl:s.last=0):zk8 s ⟨[],0⟩ 0 0:=
 ⟨hk,⟨hl,by rw[hw];exact .nil⟩,⟨Int.le_refl _,λw hw=>absurd hw (not_mem_nil),List.Pairwise.nil⟩,λa ha=>absurd ha (not_mem_nil),Int.le_refl _,Nat.le_refl _,λw hw=>absurd hw (not_mem_nil)⟩
theorem zk8.mono{s:Lk}{d:DL}{k n k' n':Nat}(h:zk8 s d k n)(hk:k <= k')(hn:n <= n'):zk8 s d k' n':=
 ⟨h.ok,h.rel,h.zpa,h.apart,by have:=h.last;omega,by have:=h.len;omega,h.small.mono hn⟩
section
variable{h0 h:zb}{A:List Ob}{s:Lk}{d:DL}{k n:Nat}{w:Int}
theorem zk8.ask(sA:zy.Spec C N)(hv:zk8 s d k n)(ho:zc5 h0 h (A++s.obs))(hkk:k <= 1000){names:List Key}{x:za}{R:List (List za)}(hx:∀H,zc5 h0 H A->SlX H 1 x (names.map tc) R)(hn:names.length <= 100000){Q:zQ}
  (hq:∀(h':zb)(s':Lk),zk8 s' (zjv d w names).2 (k+1) (n+names.length)->zc5 h0 h' (A++s'.obs)->s'.l=s.l->Q (.bool (zjv d w names).1) h'):C (N 489) [.ptr s.l 0 0,.int .i64 w,x] h Q:=by
 have e1:=hv.rel.len;have e2:=hv.rel.last;have e3:=hv.len;have e4:=hv.last;have e5:=hv.zpa.last;refine ask_fr sA ho hv.ok hv.rel (by omega) hx hn (by omega) (by omega) λh' s' k1 o1 n1 l1 r1=>hq h' s' ?_ o1 l1;have g:=ask_good hv.zpa w names;exact⟨k1,r1,g.1,ask_apart hv.apart w names,by omega,by omega,ask_small hv.small w names⟩
theorem zk8.free(sF:zc1.Spec C N)(hv:zk8 s d k n)(ho:zc5 h0 h (A++s.obs)){Q:zQ}
  (hq:∀(h':zb)(s':Lk),zk8 s' (zpn d w) k n->zc5 h0 h' (A++s'.obs)->s'.l=s.l->Q (.tup []) h'):C (N 488) [.ptr s.l 0 0,.int .i64 w] h Q:=by
 refine free_fr sF ho hv.ok hv.rel λh' k1 o1 r1=>hq h' _ ⟨k1,r1,free_good hv.zpa w,free_apart hv.apart w,hv.last,?_,free_small hv.small w⟩ o1 rfl;have e3:=hv.len;have sub:∀L:List DW,(delD L w).length <= L.length:=by
  intro L
  induction L with
  | nil=>exact Nat.le_refl _
  | cons q L ih=>
   unfold delD;split
   ·simp
   ·simp only[length_cons];omega
 exact Nat.le_trans (sub d.L) e3
end
variable{C:z5}{N:zN}
section
variable{g:Key->Option Key}{ks:Key->Prop}{E:Key->Key->Prop}
end
variable{C:z5}{N:zN}
theorem putT_at{s:Key}:∀{L:List Key}{k:Nat},(∀x∈L.take k,zgg x s=true)->k <= L.length->(∀x,L[k]?=some x->zgg x s=false)->zhb L s=if L[k]?=some s then L else L.take k++s::L.drop k
 | [],0,_,_,_=>rfl
 | [],k+1,_,h,_=>by simp at h
 | x::l,0,_,_,h=>by
  have:=h x rfl
  unfold zhb
  rw[if_neg (by rw[this];exact Bool.false_ne_true)]
  by_cases e:x=s
  ·rw[if_pos e,if_pos (by rw[e];rfl)]
  ·have h0:¬ (x::l)[0]?=some s:=λh=>e (Option.some.inj h)
   rw[if_neg e,if_neg h0];rfl
 | x::l,k+1,h1,h2,h3=>by
  have hx:=h1 x (by simp)
  unfold zhb
  rw[if_pos hx,putT_at (k:=k) (λy hy=>h1 y (by simp[hy])) (by simpa using h2) (λy hy=>h3 y hy)]
  by_cases e:l[k]?=some s
  ·rw[if_pos e,if_pos (by exact e)]
  ·rw[if_neg e,if_neg (by exact e)];rfl
variable{C:z5}{N:zN}
def zd1.Spec(C:z5)(N:zN):Prop:=∀(x:za)(L:List Key)(R:List (List za))(s:Key)(h:zb)(Q:zQ),SlX h 1 x (L.map tc) R->L.length <= 100000000->Q (.bool (decide (s∈L))) h->C (N 519) [x,.str s] h Q
theorem zd1.spec(i:zd1.Imp C N):zd1.Spec C N:=by
 intro x L R s h Q hx hl hq;apply i;have lx:=hx.zde;rw[length_map]at lx;refine z3.intro (λn vs hh=>hh=h /\ ∃k:Nat,k+n=L.length /\ vs=[.int .i64 (k:Int)] /\ s∉L.take k) L.length ?_ ⟨rfl,0,by simp,rfl,by simp⟩;rintro Y n vs h ⟨rfl,k,hk,rfl,hn⟩ hY;simp -dsimp only[zd1.l2,zd1.k1,lx,V.zev,B.zf];refine B.zbd (λhc=>?_) (λhc=>?_)
 ·rw[decide_eq_true_eq]at hc
  obtain⟨a,ha⟩:=zf0 (L:=L) (k:=k) (by omega);have f1:V.zc9 1 x (.int .i64 (k:Int))=some (elp 1 x k 0):=hx.znf (by rw[length_map];omega);have f2:A.ldv h (elp 1 x k 0)=some (.str a):=hx.cell (by rw[getElem?_map,ha];rfl);simp -dsimp only[f1,f2,B.zed,B.zf,V.bin_seql];refine B.zbd (λhd=>?_) (λhd=>?_)
  ·have e:a=s:=of_decide_eq_true hd
   have:s∈L:=by rw[<-e];exact mem_of_getElem? ha
   rw[decide_eq_true this]at hq;exact zbh hq
  ·have e:a≠s:=of_decide_eq_false hd
   simp -dsimp only[zgr (show k<4611686018427387904 by omega),B.zf];refine hY (L.length-(k+1)) _ _ (by omega) ⟨rfl,k+1,by omega,rfl,?_⟩;rw[take_succ ha,mem_append,mem_singleton];rintro(h1|h1)
   ·exact hn h1
   ·exact e h1.symm
 ·rw[decide_eq_false_iff_not]at hc
  have:k=L.length:=by omega
  subst this;rw[take_length]at hn;rw[decide_eq_false hn]at hq;exact zbh hq
def zdp.Spec(C:z5)(N:zN):Prop:=∀(x:za)(L:List Key)(R:List (List za))(s:Key)(h:zb)(Q:zQ),SlX h 1 x (L.map tc) R->L.length <= 10000000->(∀x' h',(x'=x /\ h'=h /\ zhb L s=L \/ zc5 h h' [.sl 1 x' ((zhb L s).map tc) []])->Q x' h')->C (N 517) [x,.str s] h Q
theorem zdp.spec(i:zdp.Imp C N):zdp.Spec C N:=by
 intro x L R s h Q hx hl hq;apply i;have lx:=hx.zde;rw[length_map]at lx;refine z3.intro (λn vs hh=>hh=h /\ ∃k:Nat,k+n=L.length /\ vs=[.int .i64 (k:Int)] /\ ∀y∈L.take k,zgg y s=true) L.length ?_ ⟨rfl,0,by simp,rfl,by simp⟩;rintro Y n vs h ⟨rfl,k,hk,rfl,hn⟩ hY;have fin:(∀y,L[k]?=some y->zgg y s=false)->zdp.k1 C N (dn Q) x (.str s) (.int .i64 (k:Int)) h:=λhle=>by
  have hput:=putT_at hn (by omega) hle;have new:L[k]? ≠some s->(B.pv (V.zh6 1 x none (some (.int .i64 (k:Int)))) λv37=>B.ziz h 1 16 .sz v37 λv38 h=>B.zgn h (zez [(0,none,.str s)] (zh2 1 [.str []])) λi41 h=>B.ziz h 1 16 v38 (.sl i41 0 0 1 1 1) λv42 h=>
    B.pv (V.zh6 1 x (some (.int .i64 (k:Int))) none) λv46=>B.ziz h 1 16 v42 v46 λv47 h=>dn Q v47 h):=λhne=>by
   rw[if_neg hne]at hput;obtain⟨y1,R1,e1,e2,_⟩:=hx.zoa (by omega) (lo:=0) (hi:=k) (a:=none) (b:=some (.int .i64 (k:Int))) (.inl ⟨rfl,rfl⟩) (.inr ⟨_,rfl⟩) (by omega) (by omega);rw[drop_zero]at e2;obtain⟨y2,R2,g1,g2,_⟩:=hx.zoa (by omega) (lo:=k) (hi:=L.length) (a:=some (.int .i64 (k:Int))) (b:=none) (.inr ⟨_,rfl⟩) (.inl ⟨rfl,rfl⟩) (by omega) (by omega);rw[take_length]at g2;simp -dsimp only[e1,B.zf];have tl:(L.take k).length <= 10000000:=by rw[length_take];omega
   have dl:(L.drop k).length <= 10000000:=by rw[length_drop];omega
   refine((zc5.start h).sz 1).ziz 0 rfl e2 (by omega) (by simp;omega) (by simp[maxLen];omega) λx1 h1 o1 _=>?_;have hf:zez [(0,none,.str s)] (zh2 1 [.str []])=some [.str s]:=rfl;rw[hf];refine o1.push 0 rfl (cs:=[.str s]) rfl (by omega) (by simp;omega) (by simp[maxLen];omega) λx2 h2 o2 _=>?_;simp -dsimp only[g1,B.zf];refine o2.ziz 0 rfl (g2.mono o2.le) (by omega) (by simp;omega) (by simp[maxLen];omega) λx3 h3 o3 _=>?_;refine zbh (hq x3 h3 (.inr ?_));rw[hput];have this:zc5 h h3 [.sl 1 x3 ((([]++(L.take k).map tc)++[[.str s]])++(L.drop k).map tc) []]:=o3;rw[nil_append,append_assoc]at this;rw[map_append,map_cons];exact this
  by_cases hkl:k<L.length
  ·obtain⟨a,ha⟩:=zf0 hkl
   have f1:V.zc9 1 x (.int .i64 (k:Int))=some (elp 1 x k 0):=hx.znf (by rw[length_map];omega);have f2:A.ldv h (elp 1 x k 0)=some (.str a):=hx.cell (by rw[getElem?_map,ha];rfl);have c1:decide ((k:Int)<(L.length:Int))=true:=by simp;omega
   simp -dsimp only[zdp.k1,lx,V.zev,c1,B.zfu,B.zbe,zoq,B.zf,f1,f2,B.zed,V.bin_seql,B.zex];refine B.zbd (λhd=>?_) (λhd=>?_)
   ·have e:a=s:=of_decide_eq_true hd
    rw[if_pos (by rw[ha,e])]at hput;exact zbh (hq x h (.inl ⟨rfl,rfl,hput⟩))
   ·have e:a≠s:=of_decide_eq_false hd
    exact new (by rw[ha];exact λh=>e (Option.some.inj h))
  ·have c1:decide ((k:Int)<(L.length:Int))=false:=by simp;omega
   simp -dsimp[lx,hkl];exact new (by rw[getElem?_eq_none (by omega)];exact λh=>by cases h)
 simp -dsimp only[zdp.l3,zdp.k2,lx,V.zev,B.zf];by_cases hkl:k<L.length
 ·obtain⟨a,ha⟩:=zf0 hkl
  have f1:V.zc9 1 x (.int .i64 (k:Int))=some (elp 1 x k 0):=hx.znf (by rw[length_map];omega);have f2:A.ldv h (elp 1 x k 0)=some (.str a):=hx.cell (by rw[getElem?_map,ha];rfl);have c1:decide ((k:Int)<(L.length:Int))=true:=by simp;omega
  simp -dsimp only[c1,B.zfu,B.zbe,zoq,B.zf,f1,f2,B.zed,V.bin_slss,B.zex];refine B.zbd (λhd=>?_) (λhd=>?_)
  ·simp -dsimp only[zgr (show k<4611686018427387904 by omega),B.zf]
   refine hY (L.length-(k+1)) _ _ (by omega) ⟨rfl,k+1,by omega,rfl,λy hy=>?_⟩;rw[take_succ ha,mem_append,mem_singleton]at hy;rcases hy with hy|hy
   ·exact hn y hy
   ·rw[hy];exact hd
  ·exact fin λy hy=>by rw[ha]at hy;cases hy;exact hd
 ·simp -dsimp[hkl,-zdp.k1]
  exact fin λy hy=>by rw[getElem?_eq_none (by omega)]at hy;cases hy
def zdm.Spec(C:z5)(N:zN):Prop:=∀(x:za)(L:List Int)(R:List (List za))(s:Int)(h:zb)(Q:zQ),SlX h 1 x (L.map icl) R->L.length <= 100000000->Q (.bool (decide (s∈L))) h->C (N 522) [x,.int .i64 s] h Q
theorem zdm.spec(i:zdm.Imp C N):zdm.Spec C N:=by
 intro x L R s h Q hx hl hq;apply i;have lx:=hx.zde;rw[length_map]at lx;refine z3.intro (λn vs hh=>hh=h /\ ∃k:Nat,k+n=L.length /\ vs=[.int .i64 (k:Int)] /\ s∉L.take k) L.length ?_ ⟨rfl,0,by simp,rfl,by simp⟩;rintro Y n vs h ⟨rfl,k,hk,rfl,hn⟩ hY;simp -dsimp only[zdm.l2,zdm.k1,lx,V.zev,B.zf];refine B.zbd (λhc=>?_) (λhc=>?_)
 ·rw[decide_eq_true_eq]at hc
  obtain⟨a,ha⟩:=zf0 (L:=L) (k:=k) (by omega);have f1:V.zc9 1 x (.int .i64 (k:Int))=some (elp 1 x k 0):=hx.znf (by rw[length_map];omega);have f2:A.ldv h (elp 1 x k 0)=some (.int .i64 a):=hx.cell (by rw[getElem?_map,ha];rfl);simp -dsimp only[f1,f2,B.zed,B.zf,V.zgq];refine B.zbd (λhd=>?_) (λhd=>?_)
  ·have e:a=s:=of_decide_eq_true hd
   have:s∈L:=by rw[<-e];exact mem_of_getElem? ha
   rw[decide_eq_true this]at hq;exact zbh hq
  ·have e:a≠s:=of_decide_eq_false hd
   simp -dsimp only[zgr (show k<4611686018427387904 by omega),B.zf];refine hY (L.length-(k+1)) _ _ (by omega) ⟨rfl,k+1,by omega,rfl,?_⟩;rw[take_succ ha,mem_append,mem_singleton];rintro(h1|h1)
   ·exact hn h1
   ·exact e h1.symm
 ·rw[decide_eq_false_iff_not]at hc
  have:k=L.length:=by omega
  subst this;rw[take_length]at hn;rw[decide_eq_false hn]at hq;exact zbh hq
def zje:List Int->Int->List Int|[],n=>[n]|x::l,n=>if x<n then x::zje l n else if x=n then x::l else n::x::l
theorem zie{n y:Int}:∀{l:List Int},y∈zje l n↔y=n \/ y∈l
 | []=>by simp[zje]
 | x::l=>by
  unfold zje
  split
  ·rw[mem_cons,zie,mem_cons]
   constructor
   ·rintro(h|h|h)
    ·exact .inr (.inl h)
    ·exact .inl h
    ·exact .inr (.inr h)
   ·rintro(h|h|h)
    ·exact .inr (.inl h)
    ·exact .inl h
    ·exact .inr (.inr h)
  ·split
   ·rename_i h
    constructor
    ·exact .inr
    ·rintro(h1|h1)
     ·rw[h1,<-h];exact mem_cons_self ..
     ·exact h1
   ·rw[mem_cons]
theorem zlw{n:Int}:∀{l:List Int},l.Pairwise (λa b=>a<b)->(zje l n).Pairwise (λa b=>a<b)
 | [],_=>pairwise_singleton _ _
 | x::l,h=>by
  obtain⟨h1,h2⟩:=pairwise_cons.1 h
  unfold zje
  split
  ·rename_i hx
   refine pairwise_cons.2 ⟨λy hy=>?_,zlw h2⟩
   rcases zie.1 hy with rfl|hy
   ·exact hx
   ·exact h1 y hy
  ·split
   ·exact h
   ·rename_i hx hne
    refine pairwise_cons.2 ⟨λy hy=>?_,h⟩
    rcases mem_cons.1 hy with rfl|hy
    ·omega
    ·have:=h1 y hy;omega
theorem znl{n:Int}:∀{l:List Int},(zje l n).length <= l.length+1 /\ l.length <= (zje l n).length
 | []=>⟨Nat.le_refl _,Nat.zero_le _⟩
 | x::l=>by
  have:=znl (n:=n) (l:=l)
  unfold zje
  repeat' split
  all_goals simp only[length_cons]<;>omega
theorem zr2{n:Int}:∀{l:List Int},(zje l n).length=l.length->zje l n=l
 | [],h=>by simp[zje]at h
 | x::l,h=>by
  unfold zje at h ⊢
  split
  ·rename_i hx
   rw[if_pos hx]at h
   rw[zr2 (l:=l) (by simpa using h)]
  ·rename_i hx
   rw[if_neg hx]at h
   split
   ·rfl
   ·rename_i hne
    rw[if_neg hne]at h
    simp at h
theorem riseI_at{s:Int}:∀{L:List Int}{k:Nat},(∀x∈L.take k,x<s)->k <= L.length->(∀x,L[k]?=some x->¬ x<s)->zje L s=if L[k]?=some s then L else L.take k++s::L.drop k
 | [],0,_,_,_=>rfl
 | [],k+1,_,h,_=>by simp at h
 | x::l,0,_,_,h=>by
  have:=h x rfl
  unfold zje
  rw[if_neg this]
  by_cases e:x=s
  ·rw[if_pos e,if_pos (by rw[e];rfl)]
  ·have h0:¬ (x::l)[0]?=some s:=λh=>e (Option.some.inj h)
   rw[if_neg e,if_neg h0];rfl
 | x::l,k+1,h1,h2,h3=>by
  have hx:=h1 x (by simp)
  unfold zje
  rw[if_pos hx,riseI_at (k:=k) (λy hy=>h1 y (by simp[hy])) (by simpa using h2) (λy hy=>h3 y hy)]
  by_cases e:l[k]?=some s
  ·rw[if_pos e,if_pos (by exact e)]
  ·rw[if_neg e,if_neg (by exact e)];rfl
def zb0.Spec(C:z5)(N:zN):Prop:=∀(x:za)(L:List Int)(R:List (List za))(s:Int)(h:zb)(Q:zQ),SlX h 1 x (L.map icl) R->L.length <= 10000000->(∀x' h',(x'=x /\ h'=h /\ zje L s=L \/ zc5 h h' [.sl 1 x' ((zje L s).map icl) []])->Q x' h')->C (N 520) [x,.int .i64 s] h Q
def zb0.Rd(C:z5)(N:zN):Prop:=∀(x:za)(L:List Int)(R:List (List za))(s:Int)(h:zb)(Q:zQ),SlX h 1 x (L.map icl) R->L.length <= 10000000->(∀x' h' R',h.le h'->SlX h' 1 x' ((zje L s).map icl) R'->Q x' h')->C (N 520) [x,.int .i64 s] h Q
theorem zb0.Spec.rd(s:zb0.Spec C N):zb0.Rd C N:=λx L R k h Q hx hl hq=>s x L R k h Q hx hl λx' h' hh=>by
 rcases hh with⟨rfl,rfl,e⟩|o
 ·exact hq _ _ R (zb.le_refl _) (by rw[e];exact hx)
 ·exact hq _ _ [] o.le (o.zkj 0 rfl)
theorem zb0.spec(i:zb0.Imp C N):zb0.Spec C N:=by
 intro x L R s h Q hx hl hq;apply i;have lx:=hx.zde;rw[length_map]at lx;refine z3.intro (λn vs hh=>hh=h /\ ∃k:Nat,k+n=L.length /\ vs=[.int .i64 (k:Int)] /\ ∀y∈L.take k,y<s) L.length ?_ ⟨rfl,0,by simp,rfl,by simp⟩;rintro Y n vs h ⟨rfl,k,hk,rfl,hn⟩ hY;have fin:(∀y,L[k]?=some y->¬ y<s)->zb0.k1 C N (dn Q) x (.int .i64 s) (.int .i64 (k:Int)) h:=λhle=>by
  have hput:=riseI_at hn (by omega) hle;have new:L[k]? ≠some s->(B.pv (V.zh6 1 x none (some (.int .i64 (k:Int)))) λv37=>B.ziz h 1 8 .sz v37 λv38 h=>B.zgn h (zez [(0,none,.int .i64 s)] (zh2 1 [.int .i64 0])) λi41 h=>B.ziz h 1 8 v38 (.sl i41 0 0 1 1 1) λv42 h=>
    B.pv (V.zh6 1 x (some (.int .i64 (k:Int))) none) λv46=>B.ziz h 1 8 v42 v46 λv47 h=>dn Q v47 h):=λhne=>by
   rw[if_neg hne]at hput;obtain⟨y1,R1,e1,e2,_⟩:=hx.zoa (by omega) (lo:=0) (hi:=k) (a:=none) (b:=some (.int .i64 (k:Int))) (.inl ⟨rfl,rfl⟩) (.inr ⟨_,rfl⟩) (by omega) (by omega);rw[drop_zero]at e2;obtain⟨y2,R2,g1,g2,_⟩:=hx.zoa (by omega) (lo:=k) (hi:=L.length) (a:=some (.int .i64 (k:Int))) (b:=none) (.inr ⟨_,rfl⟩) (.inl ⟨rfl,rfl⟩) (by omega) (by omega);rw[take_length]at g2;simp -dsimp only[e1,B.zf];have tl:(L.take k).length <= 10000000:=by rw[length_take];omega
   have dl:(L.drop k).length <= 10000000:=by rw[length_drop];omega
   refine((zc5.start h).sz 1).ziz 0 rfl e2 (by omega) (by simp;omega) (by simp[maxLen];omega) λx1 h1 o1 _=>?_;have hf:zez [(0,none,.int .i64 s)] (zh2 1 [.int .i64 0])=some [.int .i64 s]:=rfl;rw[hf];refine o1.push 0 rfl (cs:=[.int .i64 s]) rfl (by omega) (by simp;omega) (by simp[maxLen];omega) λx2 h2 o2 _=>?_;simp -dsimp only[g1,B.zf];refine o2.ziz 0 rfl (g2.mono o2.le) (by omega) (by simp;omega) (by simp[maxLen];omega) λx3 h3 o3 _=>?_;refine zbh (hq x3 h3 (.inr ?_));rw[hput];have this:zc5 h h3 [.sl 1 x3 ((([]++(L.take k).map icl)++[[.int .i64 s]])++(L.drop k).map icl) []]:=o3;rw[nil_append,append_assoc]at this;rw[map_append,map_cons];exact this
  by_cases hkl:k<L.length
  ·obtain⟨a,ha⟩:=zf0 hkl
   have f1:V.zc9 1 x (.int .i64 (k:Int))=some (elp 1 x k 0):=hx.znf (by rw[length_map];omega);have f2:A.ldv h (elp 1 x k 0)=some (.int .i64 a):=hx.cell (by rw[getElem?_map,ha];rfl);have c1:decide ((k:Int)<(L.length:Int))=true:=by simp;omega
   simp -dsimp only[zb0.k1,lx,V.zev,c1,B.zfu,B.zbe,zoq,B.zf,f1,f2,B.zed,V.zgq,B.zex];refine B.zbd (λhd=>?_) (λhd=>?_)
   ·have e:a=s:=of_decide_eq_true hd
    rw[if_pos (by rw[ha,e])]at hput;exact zbh (hq x h (.inl ⟨rfl,rfl,hput⟩))
   ·have e:a≠s:=of_decide_eq_false hd
    exact new (by rw[ha];exact λh=>e (Option.some.inj h))
  ·have c1:decide ((k:Int)<(L.length:Int))=false:=by simp;omega
   simp -dsimp[lx,hkl];exact new (by rw[getElem?_eq_none (by omega)];exact λh=>by cases h)
 simp -dsimp only[zb0.l3,zb0.k2,lx,V.zev,B.zf];by_cases hkl:k<L.length
 ·obtain⟨a,ha⟩:=zf0 hkl
  have f1:V.zc9 1 x (.int .i64 (k:Int))=some (elp 1 x k 0):=hx.znf (by rw[length_map];omega);have f2:A.ldv h (elp 1 x k 0)=some (.int .i64 a):=hx.cell (by rw[getElem?_map,ha];rfl);have c1:decide ((k:Int)<(L.length:Int))=true:=by simp;omega
  simp -dsimp only[c1,B.zfu,B.zbe,zoq,B.zf,f1,f2,B.zed,V.zev,B.zex];refine B.zbd (λhd=>?_) (λhd=>?_)
  ·simp -dsimp only[zgr (show k<4611686018427387904 by omega),B.zf]
   refine hY (L.length-(k+1)) _ _ (by omega) ⟨rfl,k+1,by omega,rfl,λy hy=>?_⟩;rw[take_succ ha,mem_append,mem_singleton]at hy;rcases hy with hy|hy
   ·exact hn y hy
   ·rw[hy];exact of_decide_eq_true hd
  ·exact fin λy hy=>by rw[ha]at hy;cases hy;exact of_decide_eq_false hd
 ·simp -dsimp[hkl,-zb0.k1]
  exact fin λy hy=>by rw[getElem?_eq_none (by omega)]at hy;cases hy
def zc4.Spec(C:z5)(N:zN):Prop:=∀(x y:za)(L M:List Key)(R S:List (List za))(h:zb)(Q:zQ),SlX h 1 x (L.map tc) R->SlX h 1 y (M.map tc) S->L.length <= 10000000->M.length <= 10000000->Q (.bool (zj9 L M)) h->C (N 527) [x,y] h Q
theorem zc4.spec(i:zc4.Imp C N)(s1:zd1.Spec C N):zc4.Spec C N:=by
 intro x y L M R S h Q hx hy hl hm hq;apply i;have lx:=hx.zde;have ly:=hy.zde;rw[length_map]at lx ly;cases L with
 | nil=>
  have e:V.bin .eql (.int .i64 ((([]:List Key).length:Nat):Int)) (.int .i64 0)=some (.bool true):=rfl;simp -dsimp only[zc4.cps,zc4.k4,lx,e,B.zf,B.zfu,Bool.not_true,B.zbe,B.zfh,B.zex,B.cond_true,B.zor]
  first|exact zbh hq|(simpa -dsimp using zbh hq)
 | cons a L=>
 have e1:V.bin .eql (.int .i64 (((a::L).length:Nat):Int)) (.int .i64 0)=some (.bool false):=by rw[eql0N];rfl
 simp -dsimp only[zc4.cps,zc4.k4,lx,e1,B.zf,B.zor,Bool.not_false,B.zbe];cases M with
 | nil=>
  have e:V.bin .eql (.int .i64 ((([]:List Key).length:Nat):Int)) (.int .i64 0)=some (.bool true):=rfl;have em:zj9 (a::L) []=false:=by rw[zom];rfl
  rw[em]at hq;simp -dsimp only[ly,e,B.zf,B.zor,Bool.not_false,B.zbe,B.zf3,B.cond_true];exact zbh hq
 | cons b M=>
 have e2:V.bin .eql (.int .i64 (((b::M).length:Nat):Int)) (.int .i64 0)=some (.bool false):=by rw[eql0N];rfl
 simp -dsimp only[ly,e2,B.zf,B.zor,Bool.not_false,B.zbe,B.zf3,B.cond_false,zc4.k3];generalize hLL:a::L=LL at *;generalize hMM:b::M=MM at *;refine s1 _ _ _ _ _ _ hx (by omega) ?_;by_cases c1:[42]∈LL
 ·have em:zj9 LL MM=true:=zhl.2 ⟨_,c1,b,by rw[<-hMM];simp,.inl rfl⟩
  rw[em]at hq;simp -dsimp only[c1,decide_true,B.zfu,B.zor,Bool.not_true,B.zbe,B.zfh,B.zex,B.cond_true]
  first|exact zbh hq|(simpa -dsimp using zbh hq)
 simp -dsimp only[c1,decide_false,B.zor,Bool.not_false,B.zbe];refine s1 _ _ _ _ _ _ hy (by omega) ?_;by_cases c2:[42]∈MM
 ·have em:zj9 LL MM=true:=zhl.2 ⟨a,by rw[<-hLL];simp,_,c2,.inr (.inl rfl)⟩
  rw[em]at hq;simp -dsimp only[c1,decide_false,c2,decide_true,B.zor,Bool.not_false,B.zbe,B.zf3,B.cond_true];exact zbh hq
 simp -dsimp only[c1,c2,decide_false,B.zor,Bool.not_false,B.zbe,B.zf3,B.cond_false];refine z3.intro (λt vs hh=>hh=h /\ ∃j:Nat,j+t=LL.length /\ vs=[.int .i64 (j:Int)] /\ ∀a∈LL.take j,a∉MM) LL.length ?_ ⟨rfl,0,by omega,rfl,by simp⟩;rintro Y t vs hh ⟨rfl,j,hjt,rfl,hno⟩ hY;simp -dsimp only[zc4.l2,zc4.k1,lx,B.zf,zp1];refine B.zbd (λhc=>?_) (λhc=>?_)
 ·have hj:j<LL.length:=of_decide_eq_true hc
  obtain⟨w,hw⟩:=zf0 hj;have i1:V.zc9 1 x (.int .i64 (j:Int))=some (elp 1 x j 0):=hx.znf (by simpa using hj);have f1:A.ldv hh (elp 1 x j 0)=some (.str w):=hx.cell (by rw[getElem?_map,hw];rfl);simp -dsimp only[i1,f1,B.zed,B.zf];refine s1 _ _ _ _ _ _ hy (by omega) ?_;refine B.zbd (λhd=>?_) (λhd=>?_)
  ·have em:zj9 LL MM=true:=zhl.2 ⟨w,mem_of_getElem? hw,w,of_decide_eq_true hd,.inr (.inr rfl)⟩
   rw[em]at hq;exact zbh hq
  ·simp -dsimp only[zgr (show j<4611686018427387904 by omega),B.zf]
   refine hY (t-1) _ _ (by omega) ⟨rfl,j+1,by omega,rfl,λy hy=>?_⟩;rw[take_succ hw,mem_append,mem_singleton]at hy;rcases hy with hy|hy
   ·exact hno y hy
   ·rw[hy];exact of_decide_eq_false hd
 ·have hj:j=LL.length:=by have:=of_decide_eq_false hc;omega
  rw[hj,take_length]at hno;have em:zj9 LL MM=false:=by
   cases hm:zj9 LL MM with
   | false=>rfl
   | true=>
    obtain⟨u,hu,v,hv,h⟩:=zhl.1 hm;rcases h with rfl|rfl|rfl
    ·exact absurd hu c1
    ·exact absurd hv c2
    ·exact absurd hv (hno _ hu)
  rw[em]at hq;exact zbh hq
variable{C:z5}{N:zN}
def zl7:DK DW (za×za) where
 n:=4
 bytes:=64
 z:=[.int .i64 0,.zeg,.zeg,.int .i64 0]
 pos:=by omega
 small:=by omega
 zlen:=rfl
 cells t a:=[.int .i64 t.Id,a.1,a.2,.int .i64 t.zjc]
 len _ _:=rfl
 at_ h t a:=(∃R,SlX h 1 a.1 (t.ze0.map tc) R) /\ (∃R,SlX h 1 a.2 (t.zfn.map tc) R)
 mono hle ha:=⟨ha.1.imp λ_ r=>r.mono hle,ha.2.imp λ_ r=>r.mono hle⟩
 ok _:=True
 at_ok _:=trivial
 obs b t a:=[zn7 b a.1 t.ze0,zn7 b a.2 t.zfn]
 ofObs {b h t a} _ ha:=⟨⟨_,show SlX h 1 a.1 (t.ze0.map tc) (bif b then zgb else []) from ha (zn7 b a.1 t.ze0) (by simp)⟩,⟨_,show SlX h 1 a.2 (t.zfn.map tc) (bif b then zgb else []) from ha (zn7 b a.2 t.zfn) (by simp)⟩⟩
structure DocR(h:zb)(r:Nat)(x:za)(d:DL):Prop where
 l:A.ldv h (.ptr r 0 0)=some x
 last:A.ldv h (.ptr r 0 1)=some (.int .i64 d.zhz)
 zgo:Dl zl7 h x d.L
theorem DocR.mono{h h':zb}{r:Nat}{x:za}{d:DL}(hd:DocR h r x d)(hle:h.le h'):DocR h' r x d:=⟨zqy hle hd.l,zqy hle hd.last,hd.zgo.mono hle⟩
structure DocE(h:zb)(x:za)(i:Nat)(w:DW)(p o:za):Prop where
 idx:V.zc9 4 x (.int .i64 (i:Int))=some (elp 4 x i 0)
 f0:V.fieldAddr 0 (elp 4 x i 0)=some (elp 4 x i 0)
 f1:V.fieldAddr 1 (elp 4 x i 0)=some (elp 4 x i 1)
 f2:V.fieldAddr 2 (elp 4 x i 0)=some (elp 4 x i 2)
 f3:V.fieldAddr 3 (elp 4 x i 0)=some (elp 4 x i 3)
 l0:A.ldv h (elp 4 x i 0)=some (.int .i64 w.Id)
 l1:A.ldv h (elp 4 x i 1)=some p
 l2:A.ldv h (elp 4 x i 2)=some o
 l3:A.ldv h (elp 4 x i 3)=some (.int .i64 w.zjc)
 ldn:A.zl2 h (elp 4 x i 0) 4=some (.agg (zl7.cells w (p,o)))
 held:∃R,SlX h 1 p (w.ze0.map tc) R
 zfb:∃R,SlX h 1 o (w.zfn.map tc) R
theorem DocR.get{h:zb}{r:Nat}{x:za}{d:DL}(hd:DocR h r x d){i:Nat}{w:DW}(hw:d.L[i]?=some w):∃p o,DocE h x i w p o:=by
 obtain⟨a,ea⟩:=hd.zgo.get hw;obtain⟨k1,k2⟩:(∃R,SlX h 1 a.1 (w.ze0.map tc) R) /\ (∃R,SlX h 1 a.2 (w.zfn.map tc) R):=ea.at_;exact⟨a.1,a.2,ea.idx,ea.fld 0 0,ea.fld 0 1,ea.fld 0 2,ea.fld 0 3,ea.ld 0 (by decide),ea.ld 1 (by decide),ea.ld 2 (by decide),ea.ld 3 (by decide),ea.ldn,k1,k2⟩
theorem zq7{k:Int}:∀{L:List DW},(∀o∈L,o.Id≠k)->findD L k=none /\ (∀w,zlu L k w=L++[w]) /\ delD L k=L
 | [],_=>⟨rfl,λ_=>rfl,rfl⟩
 | q::L,h=>by
  obtain⟨h1,h2,h3⟩:=zq7 (L:=L) λo ho=>h o (mem_cons_of_mem _ ho)
  have h0:=h q (mem_cons_self ..)
  refine⟨by unfold findD;rw[if_neg h0,h1],λw=>?_,by unfold delD;rw[if_neg h0,h3]⟩
  unfold zlu
  rw[if_neg h0,h2 w];rfl
theorem zq8{k:Int}{w:DW}:∀{L:List DW}{j:Nat},(∀o∈L.take j,o.Id≠k)->L[j]?=some w->w.Id=k->findD L k=some w /\ (∀v,zlu L k v=L.set j v) /\ delD L k=L.take j++L.drop (j+1)
 | [],j,_,h,_=>by simp at h
 | q::L,0,_,h,e=>by
  cases h
  refine⟨by unfold findD;rw[if_pos e],λv=>by unfold zlu;rw[if_pos e];rfl,by unfold delD;rw[if_pos e];rfl⟩
 | q::L,j+1,h1,h2,e=>by
  have h0:=h1 q (by simp)
  obtain⟨g1,g2,g3⟩:=zq8 (L:=L) (j:=j) (λo ho=>h1 o (by simp[ho])) h2 e
  refine⟨by unfold findD;rw[if_neg h0,g1],λv=>by unfold zlu;rw[if_neg h0,g2 v];rfl,by unfold delD;rw[if_neg h0,g3];rfl⟩
def zbn.Spec(C:z5)(N:zN):Prop:=∀(h:zb)(r:Nat)(x:za)(d:DL)(k:Int)(Q:zQ),DocR h r x d->d.L.length <= 1000000->(∀(j:Nat)(w:DW),(∀o∈d.L.take j,o.Id≠k)->d.L[j]?=some w->w.Id=k->Q (.int .i64 (j:Int)) h)->((∀o∈d.L,o.Id≠k)->Q (.int .i64 (-1)) h)->C (N 516) [.ptr r 0 0,.int .i64 k] h Q
theorem zbn.spec(i:zbn.Imp C N):zbn.Spec C N:=by
 intro h r x d k Q hd hl h1 h2;apply i;refine z3.intro (λt vs hh=>hh=h /\ ∃j:Nat,j+t=d.L.length /\ vs=[.int .i64 (j:Int)] /\ ∀o∈d.L.take j,o.Id≠k) d.L.length ?_ ⟨rfl,0,by omega,rfl,by simp⟩;rintro Y t vs hh ⟨rfl,j,hjt,rfl,hno⟩ hY;simp -dsimp only[zbn.l2,zbn.k1,B.zb3,V.zd3,Nat.zero_add,B.zf,B.zed,hd.l,hd.zgo.zde,zp1];by_cases hj:j<d.L.length
 ·obtain⟨w,hw⟩:=zf0 hj
  obtain⟨p,o,ew⟩:=hd.get hw;simp -dsimp only[hj,decide_true,B.cond_true,B.zb3,V.zd3,Nat.zero_add,hd.l,ew.idx,ew.f0,ew.l0,B.zed,B.zf,V.zgq];refine B.zbd (λhc=>?_) (λhc=>?_)
  ·exact zbh (h1 j w hno hw (of_decide_eq_true hc))
  ·simp -dsimp only[zgr (show j<4611686018427387904 by omega),B.zf]
   refine hY (t-1) _ _ (by omega) ⟨rfl,j+1,by omega,rfl,λq hq=>?_⟩;rw[take_succ hw,mem_append,mem_singleton]at hq;rcases hq with hq|hq
   ·exact hno q hq
   ·rw[hq];exact of_decide_eq_false hc
 ·simp -dsimp only[hj,decide_false,B.cond_false]
  refine zbh (h2 ?_);have:j=d.L.length:=by omega
  rw[this,take_length]at hno;exact hno
def zdu.Spec(C:z5)(N:zN):Prop:=∀(w:DW)(p o y:za)(M:List Key)(R1 R2 S:List (List za))(zha:Int)(h:zb)(Q:zQ),SlX h 1 p (w.ze0.map tc) R1->SlX h 1 o (w.zfn.map tc) R2->SlX h 1 y (M.map tc) S->w.ze0.length <= 1000000->w.zfn.length <= 1000000->M.length <= 1000000->Q (.bool (zin w M zha)) h->C (N 518) [.agg (zl7.cells w (p,o)),y,.int .i64 zha] h Q
theorem zdu.spec(i:zdu.Imp C N)(s1:zc4.Spec C N):zdu.Spec C N:=by
 intro w p o y M R1 R2 S zha h Q hp ho hy l1 l2 l3 hq;apply i;have eb:A.boxN 4 (.agg (zl7.cells w (p,o)))=some (.agg (zl7.cells w (p,o))):=by rw[boxN_agg];rfl
 have g1:V.zfc 1 (.agg (zl7.cells w (p,o)))=some p:=rfl;have g2:V.zfc 2 (.agg (zl7.cells w (p,o)))=some o:=rfl;have g3:V.zfc 3 (.agg (zl7.cells w (p,o)))=some (.int .i64 w.zjc):=rfl;simp -dsimp only[zdu.cps,zdu.k1,eb,B.zf,B.zjo,g1];refine s1 _ _ _ _ _ _ _ _ hp hy (by omega) (by omega) ?_;unfold zin at hq;cases b1:zj9 w.ze0 M with
 | true=>
  rw[b1]at hq;simpa -dsimp[B.zjo]using zbh hq
 | false=>
 rw[b1,Bool.false_or]at hq;simp -dsimp only[B.zjo,B.zor,Bool.not_false,B.zbe,g3,V.zm9,B.zf];by_cases b2:0<w.zjc
 rotate_left
 ·rw[decide_eq_false b2,Bool.false_and]at hq
  simpa -dsimp[B.zjo,b2]using zbh hq
 rw[decide_eq_true b2,Bool.true_and]at hq;simp -dsimp only[b2,decide_true,B.zjo,B.zfu,B.zbe,g3,V.zev,B.zf,B.zex,B.zor,Bool.not_false];by_cases b3:w.zjc<zha
 rotate_left
 ·rw[decide_eq_false b3,Bool.false_and]at hq
  simpa -dsimp[B.zjo,b3]using zbh hq
 rw[decide_eq_true b3,Bool.true_and]at hq;simp -dsimp only[b3,decide_true,B.zjo,B.zfu,B.zbe,g2,B.zf,B.zex,B.zor,Bool.not_false];refine s1 _ _ _ _ _ _ _ _ ho hy (by omega) (by omega) ?_;simpa -dsimp[B.zjo,b3]using zbh hq
def zcg.Spec(C:z5)(N:zN):Prop:=∀(h:zb)(r:Nat)(x:za)(d:DL)(k:Int)(Q:zQ),DocR h r x d->d.L.length <= 1000000->(zi7 d k).length <= 1000000->(∀(x':za)(h':zb)(R':List (List za)),h.le h'->SlX h' 1 x' ((zi7 d k).map tc) R'->Q x' h')->C (N 502) [.ptr r 0 0,.int .i64 k] h Q
theorem zcg.spec(i:zcg.Imp C N)(s1:zbn.Spec C N):zcg.Spec C N:=by
 intro h r x d k Q hd hl hh hq;apply i;simp -dsimp only[zcg.cps,zcg.k1];refine s1 h r x d k _ hd hl (λj w hno hw hk=>?_) (λhno=>?_)
 ·have e0:V.bin .lss (.int .i64 (j:Int)) (.int .i64 0)=some (.bool false):=by rw[V.zev,decide_eq_false (by omega)]
  obtain⟨p,o,ew⟩:=hd.get hw;obtain⟨R,eh⟩:=ew.held;have e1:zi7 d k=w.ze0:=by unfold zi7;rw[(zq8 hno hw hk).1]
  rw[e1]at hh hq;have fa:V.fieldAddr 0 (.ptr r 0 0)=some (.ptr r 0 0):=rfl;simp -dsimp only[e0,B.zf,B.cond_false,B.zb3,fa,B.zed,hd.l,ew.idx,ew.f1,ew.l1];refine((zc5.start h).sz 1).ziz 0 rfl eh (by omega) (by first|omega|(simp;done)|(simp;omega)) (by first|(simp[maxLen];done)|(simp[maxLen];omega)) λx1 h1 o1 _=>?_;have this:zc5 h h1 [.sl 1 x1 ([]++w.ze0.map tc) []]:=o1;rw[nil_append]at this;exact zbh (hq x1 h1 [] this.le (this.zkj 0 rfl))
 ·have e0:V.bin .lss (.int .i64 (-1)) (.int .i64 0)=some (.bool true):=rfl
  have e1:zi7 d k=[]:=by unfold zi7;rw[(zq7 hno).1]
  simp -dsimp only[e0,B.zf,B.cond_true];rw[e1]at hq;exact zbh (hq _ _ [] (zb.le_refl _) (SlX.zeg h 1))
theorem get_pos{d:DL}(hg:zhv d){i j:Nat}{v w:DW}(hv:d.L[i]?=some v)(hw:d.L[j]?=some w):v.Id=w.Id↔i=j:=by
 constructor
 ·intro e
  have h1:(d.L.map (·.Id))[i]?=some v.Id:=by rw[getElem?_map,hv];rfl
  have h2:(d.L.map (·.Id))[j]?=some w.Id:=by rw[getElem?_map,hw];rfl
  rw[e]at h1;obtain⟨a1,a2⟩:=List.getElem?_eq_some_iff.1 h1;obtain⟨b1,b2⟩:=List.getElem?_eq_some_iff.1 h2;rcases Nat.lt_trichotomy i j with h|h|h
  ·exact absurd (a2.trans b2.symm) (pairwise_iff_getElem.1 hg.ids i j a1 b1 h)
  ·exact h
  ·exact absurd (b2.trans a2.symm) (pairwise_iff_getElem.1 hg.ids j i b1 a1 h)
 ·rintro rfl
  rw[hv]at hw;cases hw;rfl
theorem waits_rise{d:DL}(hg:zhv d){k:Int}{w:DW}(hw:findD d.L k=some w)(ht:¬ w.zjc=0){out:List Int}(h1:out.Pairwise (λa b=>a<b))(h2:∀x,x∈out↔x∈zff d k w.zfn w.zjc):out=ze3 d k:=by
 unfold ze3;rw[hw];simp only;rw[if_neg ht];have hn:(zff d k w.zfn w.zjc).Nodup:=hg.ids.sublist ((filter_sublist ..).map _);have hs:(zhf (zff d k w.zfn w.zjc)).Nodup:=(zfo _).symm.nodup hn;refine zoc h1 (((zic _).and hs).imp λ{a b} hab=>by obtain⟨h3,h4⟩:=hab;omega) λx=>?_;rw[h2,(zfo _).mem_iff]
theorem waits_len(d:DL)(k:Int):(ze3 d k).length <= d.L.length:=by
 unfold ze3;cases findD d.L k with
 | none=>simp
 | some w=>
  simp only;split
  ·simp
  ·rw[(zfo _).length_eq]
   unfold zff;rw[length_map];exact length_filter_le ..
inductive Via(d:DL)(a:Int):Int->Prop
 | one {b:Int}:b∈ze3 d a->Via d a b
 | more {b c:Int}:Via d a b->c∈ze3 d b->Via d a c
theorem via_eq{s:Lk}{d:DL}(hr:Rel s d)(hk:s.Ok){a b:Int}:Via d a b↔Reach s a b:=by
 constructor
 ·intro h
  induction h with
  | one h=>exact .one (by rw[ziq hr hk];exact h)
  | more _ h ih=>exact .more ih (by rw[ziq hr hk];exact h)
 ·intro h
  induction h with
  | one h=>exact .one (by rw[<-ziq hr hk];exact h)
  | more _ h ih=>exact .more ih (by rw[<-ziq hr hk];exact h)
theorem waits_ids{d:DL}{a b:Int}(h:b∈ze3 d a):b∈d.L.map (·.Id):=by
 unfold ze3 at h;cases e:findD d.L a with
 | none=>rw[e]at h;cases h
 | some w=>
  rw[e]at h;simp only at h;split at h
  ·cases h
  ·have:=(zfo _).mem_iff.1 h
   obtain⟨o,ho,rfl⟩:=mem_map.1 this;exact mem_map.2 ⟨o,(mem_filter.1 ho).1,rfl⟩
theorem zn6{d:DL}{a b:Int}(h:Via d a b):b∈d.L.map (·.Id):=by
 cases h with
 | one h=>exact waits_ids h
 | more _ h=>exact waits_ids h
theorem zlv{out ids:List Int}(h1:out.Pairwise (λa b=>a<b))(h2:∀x∈out,x∈ids):out.length <= ids.length:=List.Nodup.length_le_of_subset (h1.imp λ{a b} hab e=>by omega) h2
theorem waits_rising{d:DL}(hg:zhv d)(k:Int):(ze3 d k).Pairwise (λa b=>a<b):=by
 unfold ze3;cases e:findD d.L k with
 | none=>exact .nil
 | some w=>
  simp only;split
  ·exact .nil
  ·have hn:(zff d k w.zfn w.zjc).Nodup:=hg.ids.sublist ((filter_sublist ..).map _)
   have hs:(zhf (zff d k w.zfn w.zjc)).Nodup:=(zfo _).symm.nodup hn;exact((zic _).and hs).imp λ{a b} hab=>by obtain⟨h3,h4⟩:=hab;omega
def RoundD(d:DL)(L:List Int):Prop:=(L=[] /\ ∀w∈d.L.map (·.Id),¬ Via d w w) \/ ∃w∈d.L.map (·.Id),Via d w w /\ (∀v∈d.L.map (·.Id),v<w->¬ Via d v v) /\ L.Pairwise (λa b=>a<b) /\ ∀o,o∈L↔Via d w o /\ Via d o w
theorem roundD_of{s:Lk}{d:DL}(hr:Rel s d)(hk:s.Ok){L:List Int}(h:RoundIs s L):RoundD d L:=by
 have e:∀w,w∈zcc s.W↔w∈d.L.map (·.Id):=λw=>by rw[<-hr.zgo.ids]
 rcases h with⟨h1,h2⟩|⟨w,h1,h2,h3,h4,h5⟩
 ·exact .inl ⟨h1,λw hw hv=>h2 w ((e w).2 hw) ((via_eq hr hk).1 hv)⟩
 ·exact .inr ⟨w,(e w).1 h1,(via_eq hr hk).2 h2,λv hv hvw hvv=>h3 v ((e v).2 hv) hvw ((via_eq hr hk).1 hvv),h4,λo=>by rw[h5,via_eq hr hk,via_eq hr hk]⟩
theorem roundD_one{d:DL}{L M:List Int}(h:RoundD d L)(g:RoundD d M):L=M:=by
 rcases h with⟨h1,h2⟩|⟨w,h1,h2,h3,h4,h5⟩
 ·rcases g with⟨g1,_⟩|⟨v,g1,g2,_⟩
  ·rw[h1,g1]
  ·exact absurd g2 (h2 v g1)
 ·rcases g with⟨_,g2⟩|⟨v,g1,g2,g3,g4,g5⟩
  ·exact absurd h2 (g2 w h1)
  ·have e:w=v:=by
    rcases Int.lt_trichotomy w v with h|h|h
    ·exact absurd h2 (g3 w h1 h)
    ·exact h
    ·exact absurd g2 (h3 v g1 h)
   subst e;exact zoc h4 g4 λx=>by rw[h5,g5]
theorem roundD_len{d:DL}{L:List Int}(h:RoundD d L):L.length <= d.L.length:=by
 rcases h with⟨h1,_⟩|⟨w,h1,h2,h3,h4,h5⟩
 ·rw[h1];exact Nat.zero_le _
 ·rw[<-length_map (λw:DW=>w.Id)]
  exact zlv h4 λz hz=>zn6 ((h5 z).1 hz).1
variable{C:z5}{N:zN}
theorem neqNN{a b:Nat}:V.bin .neq (.int .i64 (a:Int)) (.int .i64 (b:Int))=some (.bool (decide (a≠b))):=by
 rw[V.bin_neq];congr 2;rw[Bool.eq_iff_iff];simp;omega
structure Fit(d:DL):Prop where
 zpa:zhv d
 len:d.L.length <= 100000
 small:zls d 100000
theorem Fit.get{d:DL}(hf:Fit d){i:Nat}{w:DW}(hw:d.L[i]?=some w):w.ze0.length <= 100000 /\ w.zfn.length <= 100000:=by
 have:=hf.small w (mem_of_getElem? hw);omega
def z7.Spec(C:z5)(N:zN):Prop:=∀(h:zb)(r:Nat)(x:za)(d:DL)(k:Int)(Q:zQ),DocR h r x d->Fit d->(∀(x':za)(h':zb)(R':List (List za)),h.le h'->SlX h' 1 x' ((ze3 d k).map icl) R'->Q x' h')->C (N 503) [.ptr r 0 0,.int .i64 k] h Q
theorem z7.spec(i:z7.Imp C N)(s1:zbn.Spec C N)(s2:zdu.Spec C N)(s3:zb0.Spec C N):z7.Spec C N:=by
 intro h r x d k Q hd hf hq;have hl:=hf.len;apply i;simp -dsimp only[z7.cps];refine s1 h r x d k _ hd (by omega) (λj w hno hw hk=>?_) (λhno=>?_)
 rotate_left
 ·have e0:V.bin .lss (.int .i64 (-1)) (.int .i64 0)=some (.bool true):=rfl
  have e1:ze3 d k=[]:=by unfold ze3;rw[(zq7 hno).1]
  rw[e1]at hq;simp -dsimp only[z7.k3,e0,B.zf];simpa -dsimp using zbh (hq _ _ [] (zb.le_refl _) (SlX.zeg h 1))
 have e0:V.bin .lss (.int .i64 (j:Int)) (.int .i64 0)=some (.bool false):=by rw[V.zev,decide_eq_false (by omega)]
 have hfd:=(zq8 hno hw hk).1;obtain⟨p,o,ew⟩:=hd.get hw;simp -dsimp only[z7.k3,e0,B.zf,B.zor,Bool.not_false,B.zbe,B.zb3,V.zd3,Nat.zero_add,B.zed,hd.l,ew.idx,ew.f3,ew.l3,V.zgq,B.zf3];refine B.zbd (λht=>?_) (λht=>?_)
 ·have ht:=of_decide_eq_true ht
  have e1:ze3 d k=[]:=by unfold ze3;rw[hfd];exact if_pos ht
  rw[e1]at hq;exact zbh (hq _ _ [] (zb.le_refl _) (SlX.zeg h 1))
 have ht:=of_decide_eq_false ht;refine z3.intro (λt vs hh=>∃(q:Nat)(y:za)(out:List Int)(R:List (List za)),q+t=d.L.length /\ vs=[y,.int .i64 (q:Int)] /\ h.le hh /\ SlX hh 1 y (out.map icl) R /\ out.Pairwise (λa b=>a<b) /\ out.length <= q /\
  ∀z,z∈out↔z∈((d.L.take q).filter λo=>decide (o.Id≠k)&&zin o w.zfn w.zjc).map (·.Id)) d.L.length ?_ ⟨0,.zeg,[],[],by omega,rfl,zb.le_refl _,SlX.zeg h 1,.nil,Nat.le_refl _,by simp⟩
 rintro Y t vs hh ⟨q,y,out,R,hqt,rfl,hle,hy,hr,hol,hm⟩ hY;have hd2:=hd.mono hle;simp -dsimp only[z7.l2,z7.k1,B.zb3,V.zd3,Nat.zero_add,B.zf,B.zed,hd2.l,hd2.zgo.zde,zp1];by_cases hql:q<d.L.length
 rotate_left
 ·have hq':q=d.L.length:=by omega
  rw[hq',take_length]at hm;simp -dsimp only[hql,decide_false,B.cond_false];have e1:=waits_rise hf.zpa hfd ht hr hm;rw[e1]at hy;exact zbh (hq y hh R hle hy)
 obtain⟨v,hv⟩:=zf0 hql;obtain⟨p1,o1,ev⟩:=hd2.get hv;obtain⟨p2,o2,ew2⟩:=hd2.get hw;obtain⟨R1,hp1⟩:=ev.held;obtain⟨R2,ho1⟩:=ev.zfb;obtain⟨R3,ho2⟩:=ew2.zfb;have hpos:=get_pos hf.zpa hv hw;have step:(z:Int)->z∈((d.L.take (q+1)).filter λo=>decide (o.Id≠k)&&zin o w.zfn w.zjc).map (·.Id)↔z∈((d.L.take q).filter λo=>decide (o.Id≠k)&&zin o w.zfn w.zjc).map (·.Id) \/ (v.Id≠k /\ zin v w.zfn w.zjc=true /\ z=v.Id):=λz=>by
  rw[take_succ hv,filter_append,map_append,mem_append];refine or_congr Iff.rfl ?_;rw[mem_map];constructor
  ·rintro⟨a,ha,rfl⟩
   obtain⟨ha1,ha2⟩:=mem_filter.1 ha;have ha1:a=v:=mem_singleton.1 ha1;subst ha1;rw[Bool.and_eq_true,decide_eq_true_eq]at ha2;exact⟨ha2.1,ha2.2,rfl⟩
  ·rintro⟨g1,g2,rfl⟩
   exact⟨v,mem_filter.2 ⟨mem_singleton.2 rfl,by rw[Bool.and_eq_true,decide_eq_true_eq];exact⟨g1,g2⟩⟩,rfl⟩
 have en:V.bin .neq (.int .i64 (q:Int)) (.int .i64 (j:Int))=some (.bool (decide (q≠j))):=neqNN;have skipN:(v.Id=k \/ zin v w.zfn w.zjc=false)->Y [y,.int .i64 ((q+1:Nat):Int)] hh:=λhs=>by
  refine hY (t-1) _ _ (by omega) ⟨q+1,y,out,R,by omega,rfl,hle,hy,hr,by omega,λz=>?_⟩;rw[step,<-hm];constructor
  ·exact .inl
  ·rintro(h1|⟨h1,h2,_⟩)
   ·exact h1
   ·rcases hs with hs|hs
    ·exact absurd hs h1
    ·rw[hs]at h2;cases h2
 simp -dsimp only[hql,decide_true,B.cond_true,en,B.zf,zgr (show q<4611686018427387904 by omega)];by_cases hqj:q=j
 ·have hs:v.Id=k:=by rw[hpos.2 hqj,hk]
  have:=skipN (.inl hs);subst hqj;simp -dsimp only[ne_eq,not_true_eq_false,decide_false];simpa -dsimp[-V.zh7,zgr (show q<4611686018427387904 by omega)]using this
 have hne:v.Id≠k:=λe=>hqj (hpos.1 (by rw[e,hk]));have hne':decide (q≠j)=true:=decide_eq_true hqj;have b1:=hf.get hv;have b2:=hf.get hw;simp -dsimp only[hne',B.zfu,B.zbe,B.zb3,V.zd3,Nat.zero_add,B.zf,B.zed,B.ldn_eq,hd2.l,ev.idx,ev.ldn,ew2.idx,ew2.f2,ew2.l2,ew2.f3,ew2.l3];refine s2 v p1 o1 o2 w.zfn R1 R2 R3 w.zjc hh _ hp1 ho1 ho2 (by omega) (by omega) (by omega) ?_;simp -dsimp only[hne',B.zex];refine B.zbd (λhc=>?_) (λhc=>?_)
 ·simp -dsimp only[zgr (show q<4611686018427387904 by omega),ev.f0,ev.l0,B.zb3,V.zd3,Nat.zero_add,B.zf,B.zed,hd2.l,ev.idx]
  refine s3.rd y out R v.Id hh _ hy (by omega) λy' h' R' hle' hy'=>?_;simp -dsimp only[zgr (show q<4611686018427387904 by omega),B.zf];refine hY (t-1) _ _ (by omega) ⟨q+1,y',zje out v.Id,R',by omega,rfl,zb.le_trans hle hle',hy',zlw hr,by have:=(znl (n:=v.Id) (l:=out)).1;omega,λz=>?_⟩;rw[step,zie,<-hm];constructor
  ·rintro(h1|h1)
   ·exact .inr ⟨hne,hc,h1⟩
   ·exact .inl h1
  ·rintro(h1|⟨_,_,h1⟩)
   ·exact .inr h1
   ·exact .inl h1
 ·simp -dsimp only[zgr (show q<4611686018427387904 by omega),B.zf]
  exact skipN (.inr hc)
def zr.Spec(C:z5)(N:zN):Prop:=∀(h:zb)(r:Nat)(x:za)(d:DL)(k:Int)(Q:zQ),DocR h r x d->Fit d->(∀(x':za)(h':zb)(out:List Int)(R':List (List za)),h.le h'->SlX h' 1 x' (out.map icl) R'->out.Pairwise (λa b=>a<b)->(∀z,z∈out↔Via d k z)->Q x' h')->C (N 521) [.ptr r 0 0,.int .i64 k] h Q
theorem zr.spec(i:zr.Imp C N)(s1:z7.Spec C N)(s3:zb0.Spec C N):zr.Spec C N:=by
 intro h r x d k Q hd hf hq;have hl:=hf.len;have hidl:(d.L.map (·.Id)).length=d.L.length:=length_map _;apply i;simp -dsimp only[zr.cps];refine s1 h r x d k _ hd hf λx1 h1 R1 hle1 hx1=>?_;refine z3.intro (λt vs hh=>∃(n:Int)(y:za)(out:List Int)(R:List (List za)),vs=[y,.int .i64 n] /\ h.le hh /\ SlX hh 1 y (out.map icl) R /\ out.Pairwise (λa b=>a<b) /\ (∀z∈out,Via d k z) /\ (∀z∈ze3 d k,z∈out) /\
  n <= out.length /\ -1 <= n /\ ((d.L.length:Int)-n).toNat <= t /\ (n=out.length->∀a∈out,∀b∈ze3 d a,b∈out)) (d.L.length+1) ?_ ⟨-1,x1,ze3 d k,R1,rfl,hle1,hx1,waits_rising hf.zpa k,λz hz=> .one hz,λz hz=>hz,by omega,by omega,by omega,λe=>by omega⟩
 rintro Y t vs hh ⟨n,y,out,R,rfl,hle,hy,hr,hv,hw,hn1,hn2,ht,hcl⟩ hY;have hol:out.length <= d.L.length:=by rw[<-hidl];exact zlv hr λz hz=>zn6 (hv z hz)
 have ly:V.zde y=some (.int .i64 (out.length:Int)):=by simpa using hy.zde
 have en:V.bin .neq (.int .i64 n) (.int .i64 (out.length:Int))=some (.bool (decide (n≠out.length))):=by
  rw[V.bin_neq];congr 2
  first|(rw[Bool.eq_iff_iff];simp)|skip
 simp -dsimp only[zr.l6,zr.k5,ly,en,B.zf];by_cases hno:n=out.length
 ·have e0:decide (n≠out.length)=false:=decide_eq_false (by simpa using hno)
  simp -dsimp only[e0,B.cond_false];refine zbh (hq y hh out R hle hy hr λz=>⟨hv z,λh=>?_⟩)
  induction h with
  | one h=>exact hw _ h
  | more _ h ih=>exact hcl hno _ ih _ h
 have e0:decide (n≠out.length)=true:=decide_eq_true hno;simp -dsimp only[e0,B.cond_true,ly,B.zf];have hnl:n<out.length:=by omega
 refine z3.intro (λu vs h2=>∃(q:Nat)(y2:za)(out2:List Int)(R2:List (List za)),q+u=out.length /\ vs=[y2,.int .i64 (q:Int)] /\ h.le h2 /\ SlX h2 1 y2 (out2.map icl) R2 /\ out2.Pairwise (λa b=>a<b) /\ (∀z∈out2,Via d k z) /\ (∀z∈ze3 d k,z∈out2) /\
  out.length <= out2.length /\ (out2.length=out.length->out2=out /\ ∀a∈out.take q,∀b∈ze3 d a,b∈out)) out.length ?_ ⟨0,y,out,R,by omega,rfl,hle,hy,hr,hv,hw,Nat.le_refl _,λ_=>⟨rfl,by simp⟩⟩
 rintro Z u vs h2 ⟨q,y2,out2,R2,hqu,rfl,hle2,hy2,hr2,hv2,hw2,hlen2,hcl2⟩ hZ;have hol2:out2.length <= d.L.length:=by rw[<-hidl];exact zlv hr2 λz hz=>zn6 (hv2 z hz)
 simp -dsimp only[zr.l4,zp1,B.zf];by_cases hq2:q<out.length
 rotate_left
 ·simp -dsimp only[hq2,decide_false,B.cond_false]
  have hqe:q=out.length:=by omega
  rw[hqe,take_length]at hcl2;refine hY (t-1) _ _ (by omega) ⟨out.length,y2,out2,R2,rfl,hle2,hy2,hr2,hv2,hw2,by omega,by omega,by omega,λe=>?_⟩;obtain⟨g1,g2⟩:=hcl2 (by omega);rw[g1];exact g2
 obtain⟨a,ha⟩:=zf0 (L:=out2) (k:=q) (by omega);have i1:V.zc9 1 y2 (.int .i64 (q:Int))=some (elp 1 y2 q 0):=hy2.znf (by rw[length_map];omega);have c1:A.ldv h2 (elp 1 y2 q 0)=some (.int .i64 a):=hy2.cell (by rw[getElem?_map,ha];rfl);simp -dsimp only[hq2,decide_true,B.cond_true,zr.k3,i1,c1,B.zed,B.zf];refine s1 h2 r x d a _ (hd.mono hle2) hf λx3 h3 R3 hle3 hx3=>?_;have l3:V.zde x3=some (.int .i64 ((ze3 d a).length:Int)):=by simpa using hx3.zde
 have wl:=waits_len d a;have hva:=hv2 a (mem_of_getElem? ha);refine z3.intro (λu vs h4=>∃(m:Nat)(y4:za)(out4:List Int)(R4:List (List za)),m+u=(ze3 d a).length /\ vs=[y4,.int .i64 (m:Int)] /\ h3.le h4 /\ SlX h4 1 y4 (out4.map icl) R4 /\ out4.Pairwise (λa b=>a<b) /\ (∀z∈out4,Via d k z) /\ (∀z∈out2,z∈out4) /\
  out2.length <= out4.length /\ (out4.length=out2.length->out4=out2) /\ ∀z∈(ze3 d a).take m,z∈out4) (ze3 d a).length ?_ ⟨0,y2,out2,R2,by omega,rfl,zb.le_refl _,hy2.mono hle3,hr2,hv2,λz hz=>hz,Nat.le_refl _,λ_=>rfl,by simp⟩
 rintro W u4 vs h4 ⟨m,y4,out4,R4,hmu,rfl,hle4,hy4,hr4,hv4,hsub4,hlen4,hsame4,hin4⟩ hW;have hol4:out4.length <= d.L.length:=by rw[<-hidl];exact zlv hr4 λz hz=>zn6 (hv4 z hz)
 have hle04:=zb.le_trans hle2 (zb.le_trans hle3 hle4);simp -dsimp only[zr.l2,zr.k1,l3,zp1,B.zf];by_cases hm:m<(ze3 d a).length
 ·obtain⟨b,hb⟩:=zf0 hm
  have hbm:=mem_of_getElem? hb;have i2:V.zc9 1 x3 (.int .i64 (m:Int))=some (elp 1 x3 m 0):=hx3.znf (by rw[length_map];omega);have c2:A.ldv h4 (elp 1 x3 m 0)=some (.int .i64 b):=(hx3.mono hle4).cell (by rw[getElem?_map,hb];rfl);simp -dsimp only[hm,decide_true,B.cond_true,i2,c2,B.zed,B.zf];refine s3.rd y4 out4 R4 b h4 _ hy4 (by omega) λy5 h5 R5 hle5 hy5=>?_;have rl:=znl (n:=b) (l:=out4);simp -dsimp only[zgr (show m<4611686018427387904 by omega),B.zf];refine hW (u4-1) _ _ (by omega) ⟨m+1,y5,zje out4 b,R5,by omega,rfl,zb.le_trans hle4 hle5,hy5,zlw hr4,λz hz=>?_,λz hz=>zie.2 (.inr (hsub4 z hz)),by omega,λe=>?_,λz hz=>?_⟩
  ·rcases zie.1 hz with rfl|hz
   ·exact .more hva hbm
   ·exact hv4 z hz
  ·rw[zr2 (by omega)];exact hsame4 (by omega)
  ·rw[take_succ hb,mem_append,mem_singleton]at hz
   rcases hz with hz|hz
   ·exact zie.2 (.inr (hin4 z hz))
   ·exact zie.2 (.inl hz)
 ·simp -dsimp only[hm,decide_false,B.cond_false,zgr (show q<4611686018427387904 by omega),B.zf]
  have hme:m=(ze3 d a).length:=by omega
  rw[hme,take_length]at hin4;refine hZ (u-1) _ _ (by omega) ⟨q+1,y4,out4,R4,by omega,rfl,hle04,hy4,hr4,hv4,λz hz=>hsub4 z (hw2 z hz),by omega,λe=>?_⟩;have e4:=hsame4 (by omega);obtain⟨g1,g2⟩:=hcl2 (by omega);refine⟨e4.trans g1,λc hc b hb=>?_⟩;have ha':out[q]?=some a:=by rw[<-g1];exact ha
  rw[take_succ ha',mem_append,mem_singleton]at hc;rcases hc with hc|hc
  ·exact g2 c hc b hb
  ·rw[hc]at hb
   have:=hin4 b hb;rw[e4,g1]at this;exact this
def zo.Spec(C:z5)(N:zN):Prop:=∀(h:zb)(r:Nat)(x:za)(d:DL)(Q:zQ),DocR h r x d->Fit d->(∀(x':za)(h':zb)(out:List Int)(R':List (List za)),h.le h'->SlX h' 1 x' (out.map icl) R'->RoundD d out->Q x' h')->C (N 504) [.ptr r 0 0] h Q
theorem zo.spec(i:zo.Imp C N)(s1:zr.Spec C N)(s3:zb0.Spec C N)(s4:zdm.Spec C N):zo.Spec C N:=by
 intro h r x d Q hd hf hq;have hl:=hf.len;have hidl:(d.L.map (·.Id)).length=d.L.length:=length_map _;apply i;refine z3.intro (λt vs hh=>∃(q:Nat)(y:za)(all:List Int)(R:List (List za)),q+t=d.L.length /\ vs=[y,.int .i64 (q:Int)] /\ h.le hh /\ SlX hh 1 y (all.map icl) R /\ all.Pairwise (λa b=>a<b) /\ all.length <= q /\ ∀z,z∈all↔z∈(d.L.take q).map (·.Id)) d.L.length ?_ ⟨0,.zeg,[],[],by omega,rfl,zb.le_refl _,SlX.zeg h 1,.nil,Nat.le_refl _,by simp⟩;rintro Y t vs hh ⟨q,y,all,R,hqt,rfl,hle,hy,hr,hol,hm⟩ hY;have hd2:=hd.mono hle;simp -dsimp only[zo.l7,zo.k6,B.zb3,V.zd3,Nat.zero_add,B.zf,B.zed,hd2.l,hd2.zgo.zde,zp1];by_cases hql:q<d.L.length
 ·obtain⟨v,hv⟩:=zf0 hql
  obtain⟨p1,o1,ev⟩:=hd2.get hv;simp -dsimp only[hql,decide_true,B.cond_true,B.zb3,V.zd3,Nat.zero_add,hd2.l,ev.idx,ev.f0,ev.l0,B.zed,B.zf];refine s3.rd y all R v.Id hh _ hy (by omega) λy' h' R' hle' hy'=>?_;simp -dsimp only[zgr (show q<4611686018427387904 by omega),B.zf];refine hY (t-1) _ _ (by omega) ⟨q+1,y',zje all v.Id,R',by omega,rfl,zb.le_trans hle hle',hy',zlw hr,by have:=(znl (n:=v.Id) (l:=all)).1;omega,λz=>?_⟩;rw[take_succ hv,map_append,mem_append,zie,hm,map_cons,map_nil,mem_singleton];exact or_comm
 simp -dsimp only[hql,decide_false,B.cond_false];have hqe:q=d.L.length:=by omega
 rw[hqe,take_length]at hm;clear hY;have ly:V.zde y=some (.int .i64 (all.length:Int)):=by simpa using hy.zde
 refine z3.intro (λt vs h2=>∃q:Nat,q+t=all.length /\ vs=[.int .i64 (q:Int)] /\ hh.le h2 /\ ∀z∈all.take q,¬ Via d z z) all.length ?_ ⟨0,by omega,rfl,zb.le_refl _,by simp⟩;rintro Y t2 vs h2 ⟨q2,hq2,rfl,hle2,hno⟩ hY;simp -dsimp only[zo.l5,zo.k4,ly,zp1,B.zf];by_cases hql2:q2<all.length
 rotate_left
 ·simp -dsimp only[hql2,decide_false,B.cond_false]
  have hqe2:q2=all.length:=by omega
  rw[hqe2,take_length]at hno;exact zbh (hq .zeg h2 [] [] (zb.le_trans hle hle2) (SlX.zeg h2 1) (.inl ⟨rfl,λw hw=>hno w ((hm w).2 hw)⟩))
 obtain⟨w,hw⟩:=zf0 hql2;have hwm:=mem_of_getElem? hw;have i1:V.zc9 1 y (.int .i64 (q2:Int))=some (elp 1 y q2 0):=hy.znf (by rw[length_map];omega);have c1:∀{H:zb},hh.le H->A.ldv H (elp 1 y q2 0)=some (.int .i64 w):=λhH=>(hy.mono hH).cell (by rw[getElem?_map,hw];rfl);simp -dsimp only[hql2,decide_true,B.cond_true,i1,c1 hle2,B.zed,B.zf];refine s1 h2 r x d w _ (hd2.mono hle2) hf λx3 h3 out R3 hle3 hx3 hr3 hv3=>?_;have hle03:=zb.le_trans hle2 hle3;have ol:out.length <= d.L.length:=by rw[<-hidl];exact zlv hr3 λz hz=>zn6 ((hv3 z).1 hz)
 simp -dsimp only[zo.k3,i1,c1 hle03,B.zed,B.zf];refine s4 _ _ _ _ _ _ hx3 (by omega) ?_;by_cases hww:w∈out
 rotate_left
 ·simp -dsimp only[hww,decide_false,V.zfk,Bool.not_false,B.zf,B.cond_true,zgr (show q2<4611686018427387904 by omega)]
  refine hY (t2-1) _ _ (by omega) ⟨q2+1,by omega,rfl,hle03,λz hz=>?_⟩;rw[take_succ hw,mem_append,mem_singleton]at hz;rcases hz with hz|hz
  ·exact hno z hz
  ·rw[hz];exact λh=>hww ((hv3 w).2 h)
 simp -dsimp only[hww,decide_true,V.zfk,Bool.not_true,B.zf,B.cond_false];clear hY;have l3:V.zde x3=some (.int .i64 (out.length:Int)):=by simpa using hx3.zde
 refine z3.intro (λt vs h4=>∃(m:Nat)(y4:za)(M:List Int)(R4:List (List za)),m+t=out.length /\ vs=[y4,.int .i64 (m:Int)] /\ zc5 h3 h4 [.sl 1 y4 (M.map icl) R4] /\ M.Sublist (out.take m) /\ ∀z,z∈M↔z∈out.take m /\ Via d z w) out.length ?_ ⟨0,.zeg,[],[],by omega,rfl,(zc5.start h3).zeg 1,.refl _,by simp⟩;rintro Y t4 vs h4 ⟨m,y4,M,R4,hmt,rfl,ho,hsb,hM⟩ hY;have hle4:=ho.le;have hx4:=hx3.mono hle4;have hMl:M.length <= m:=Nat.le_trans hsb.length_le (length_take_le ..);simp -dsimp only[zo.l2,zo.k1,l3,zp1,B.zf];by_cases hml:m<out.length
 rotate_left
 ·simp -dsimp only[hml,decide_false,B.cond_false]
  have hme:m=out.length:=by omega
  rw[hme,take_length]at hsb hM;refine zbh (hq y4 h4 M R4 (zb.le_trans hle (zb.le_trans hle03 hle4)) (ho.zkj 0 rfl) (.inr ⟨w,(hm w).1 hwm,(hv3 w).1 hww,λv hv hvw hvv=>?_,hr3.sublist hsb,λo=>?_⟩))
  ·have hva:=(hm v).2 hv
   obtain⟨j,hj⟩:=mem_iff_getElem?.1 hva;by_cases hjq:j<q2
   ·refine hno v ?_ hvv
    refine mem_of_getElem? (i:=j) ?_;rw[getElem?_take,if_pos hjq,hj]
   ·rcases Nat.lt_or_eq_of_le (Nat.le_of_not_lt hjq) with hlt|he
    ·obtain⟨j1,j2⟩:=List.getElem?_eq_some_iff.1 hj
     obtain⟨w1,w2⟩:=List.getElem?_eq_some_iff.1 hw;have:=pairwise_iff_getElem.1 hr q2 j w1 j1 hlt;rw[j2,w2]at this;omega
    ·rw[<-he,hw]at hj
     cases hj;omega
  ·rw[hM,hv3]
 obtain⟨b,hb⟩:=zf0 hml;have i2:V.zc9 1 x3 (.int .i64 (m:Int))=some (elp 1 x3 m 0):=hx3.znf (by rw[length_map];omega);have c2:∀{H:zb},h3.le H->A.ldv H (elp 1 x3 m 0)=some (.int .i64 b):=λhH=>(hx3.mono hH).cell (by rw[getElem?_map,hb];rfl);have hle34:=zb.le_trans hle03 hle4;simp -dsimp only[hml,decide_true,B.cond_true,i1,i2,c1 hle34,c2 hle4,B.zed,B.zf];refine s1 h4 r x d b _ (hd2.mono hle34) hf λx5 h5 out5 R5 hle5 hx5 hr5 hv5=>?_;refine keepD1 ⟨_,c1 hle34,c1 (zb.le_trans hle34 hle5)⟩ ?_;have ol5:out5.length <= d.L.length:=by rw[<-hidl];exact zlv hr5 λz hz=>zn6 ((hv5 z).1 hz)
 have ho5:=ho.grow hle5;have hbo:b∈out.take (m+1):=by rw[take_succ hb];simp
 refine s4 _ _ _ _ _ _ hx5 (by omega) ?_;by_cases hbw:w∈out5
 ·have hvb:=(hv5 w).1 hbw
  have f1:zez [(0,none,.int .i64 b)] (zh2 1 [.int .i64 0])=some [.int .i64 b]:=rfl;simp -dsimp only[hbw,decide_true,B.cond_true,i2,c2 (zb.le_trans hle4 hle5),f1,B.zed,B.zf];refine ho5.push 0 rfl (cs:=[.int .i64 b]) rfl (by omega) (by first|omega|(simp;done)|(simp;omega)) (by first|(simp[maxLen];done)|(simp[maxLen];omega)) λx6 h6 o6 _=>?_;simp -dsimp only[zgr (show m<4611686018427387904 by omega),B.zf];have o6':zc5 h3 h6 [.sl 1 x6 ((M++[b]).map icl) []]:=by rw[map_append];exact o6
  refine hY (t4-1) _ _ (by omega) ⟨m+1,x6,M++[b],[],by omega,rfl,o6',?_,λz=>?_⟩
  ·rw[take_succ hb];exact hsb.append (.refl _)
  ·rw[take_succ hb,mem_append,mem_append,hM,mem_singleton]
   constructor
   ·rintro(⟨h1,h2⟩|rfl)
    ·exact⟨.inl h1,h2⟩
    ·exact⟨.inr rfl,hvb⟩
   ·rintro⟨h1|h1,h2⟩
    ·exact .inl ⟨h1,h2⟩
    ·exact .inr h1
 ·simp -dsimp only[hbw,decide_false,B.cond_false,zgr (show m<4611686018427387904 by omega),B.zf]
  refine hY (t4-1) _ _ (by omega) ⟨m+1,y4,M,R4,by omega,rfl,ho5,?_,λz=>?_⟩
  ·rw[take_succ hb];exact hsb.trans (sublist_append_left ..)
  ·rw[take_succ hb,mem_append,hM,mem_singleton]
   constructor
   ·rintro⟨h1,h2⟩
    exact⟨.inl h1,h2⟩
   ·rintro⟨h1|h1,h2⟩
    ·exact⟨h1,h2⟩
    ·rw[h1]at h2
     exact absurd ((hv5 w).2 h2) hbw
variable{C:z5}{N:zN}
theorem SlX.nilP{h:zb}{es:Nat}{x:za}{L R:List (List za)}(hs:SlX h es x L R){i f:Nat}(hi:i<L.length){K:za->Prop}(hk:K (elp es x i f)):B.nilCheck (elp es x i f) K:=by
 rcases hs.at_ with⟨e,_⟩|⟨id,g,off,cp,b,hi',rfl,_⟩
 ·rw[e]at hi;simp at hi
 ·exact hk
abbrev DWA:=DW×za×za
def dObs(r:Nat)(x:za)(last:Int)(P:List DWA)(R:List (List za)):List Ob:=[.box (.ptr r 0 0) [x,.int .i64 last],.sl 4 x (P.map zl7.cs) R]
structure zps(h0 h:zb)(F:List Ob)(r:Nat)(x:za)(d:DL)(P:List DWA)(R:List (List za)):Prop where
 own:zc5 h0 h (dObs r x d.zhz P R++F)
 map:P.map (·.1)=d.L
 at_:∀p∈P,zl7.at_ h0 p.1 p.2
section
variable{h0 h h':zb}{F:List Ob}{r:Nat}{x:za}{d:DL}{P:List DWA}{R:List (List za)}
theorem zps.read(hs:zps h0 h F r x d P R):DocR h r x d:=by
 obtain⟨id,e,hb⟩:=hs.own.zrs 0 rfl;cases e;exact⟨zeb (k:=0) hb rfl,zeb (k:=1) hb rfl,P,R,hs.map,hs.own.zkj 1 rfl,λp hp=>zl7.mono hs.own.le (hs.at_ p hp)⟩
theorem zps.grow(hs:zps h0 h F r x d P R)(hle:h.le h'):zps h0 h' F r x d P R:=⟨hs.own.grow hle,hs.map,hs.at_⟩
theorem zps.rebase(hs:zps h0 h F r x d P R){l':List Ob}(hn:zc5 h h' l'):∃h1,h0.le h1 /\ zps h1 h' F r x d P R /\ AllAt h1 l':=by
 obtain⟨h1,k1,k2,k3,k4⟩:=hs.own.rebase hn;exact⟨h1,k1,⟨k3,hs.map,λp hp=>zl7.mono k1 (hs.at_ p hp)⟩,k4⟩
theorem zps.st(hs:zps h0 h F r x d P R){j f:Nat}{v:za}{w w':DW}{a a':za×za}{K:zb->Prop}(hP:P[j]?=some (w,a))(hset:(zl7.cells w a).set f v=zl7.cells w' a')(hat:zl7.at_ h0 w' a')(hv:v.zec=true)(hf:f<4)
  (hK:∀h',zps h0 h' F r x ⟨d.L.set j w',d.zhz⟩ (P.set j (w',a')) R->K h'):A.st h (elp 4 x j f) v K:=by
 refine hs.own.st 1 rfl (c:=zl7.cells w a) (by rw[getElem?_map,hP];rfl) hf hv λh2 o2 _=>hK h2 ⟨?_,?_,λp hp=>?_⟩
 ·have e:(P.map zl7.cs).set j ((zl7.cells w a).set f v)=(P.set j (w',a')).map zl7.cs:=by rw[hset,map_set]
  rw[e]at o2;exact o2
 ·rw[map_set,hs.map]
 ·rcases mem_or_eq_of_mem_set hp with hp|rfl
  ·exact hs.at_ p hp
  ·exact hat
theorem zps.stLast(hs:zps h0 h F r x d P R){v:Int}{K:zb->Prop}(hK:∀h',zps h0 h' F r x ⟨d.L,v⟩ P R->K h'):A.st h (.ptr r 0 1) (.int .i64 v) K:=hs.own.boxSt 0 rfl rfl (by simp) λh2 o2 _=>hK h2 ⟨o2,hs.map,hs.at_⟩
theorem zps.stL(hs:zps h0 h F r x d P R){x':za}{P':List DWA}{L':List DW}{B:List Ob}{K:zb->Prop}(ho:zc5 h0 h (dObs r x d.zhz P R++F++[.sl 4 x' (P'.map zl7.cs) []]))(hm:P'.map (·.1)=L')(ha:∀p∈P',zl7.at_ h0 p.1 p.2)
  (hK:∀h',zps h0 h' F r x' ⟨L',d.zhz⟩ P' []->K h'):A.st h (.ptr r 0 0) x' K:=by
 have hc:x'.zec=true:=by
  have:SlX h 4 x' (P'.map zl7.cs) []:=ho.is _ (mem_append_right _ (mem_singleton.2 rfl));exact this.zec
 refine ho.boxSt 0 rfl hc (by simp) λh2 o2 _=>hK h2 ⟨?_,hm,ha⟩;have o3:zc5 h0 h2 (.box (.ptr r 0 0) [x',.int .i64 d.zhz]:: .sl 4 x (P.map zl7.cs) R::(F++[.sl 4 x' (P'.map zl7.cs) []])):=o2;have o4:zc5 h0 h2 (.box (.ptr r 0 0) [x',.int .i64 d.zhz]::(F++[.sl 4 x' (P'.map zl7.cs) []])):=o3.sub (.cons_cons _ (.cons _ (.refl _)));exact o4.perm (List.Perm.cons _ perm_append_comm)
end
def DocA(h0 h:zb)(F:List Ob)(r:Nat)(d:DL):Prop:=∃x P R,zps h0 h F r x d P R
def zcx.Spec(C:z5)(N:zN):Prop:=∀(h0 h:zb)(F:List Ob)(r:Nat)(d:DL)(k:Int)(Q:zQ),DocA h0 h F r d->d.L.length <= 100000->(∀h',DocA h0 h' F r (zpn d k)->Q (.tup []) h')->C (N 500) [.ptr r 0 0,.int .i64 k] h Q
theorem zcx.spec(i:zcx.Imp C N)(s1:zbn.Spec C N):zcx.Spec C N:=by
 rintro h0 h F r d k Q ⟨x,P,R,hs⟩ hl hq;have hd:=hs.read;have hPl:P.length=d.L.length:=by rw[<-hs.map,length_map]
 apply i;simp -dsimp only[zcx.cps,zcx.k1];refine s1 h r x d k _ hd (by omega) (λj w hno hw hk=>?_) (λhno=>?_)
 rotate_left
 ·have e0:V.bin .geq (.int .i64 (-1)) (.int .i64 0)=some (.bool false):=rfl
  simp -dsimp only[e0,B.zf,B.cond_false];refine zbh (hq h ⟨x,P,R,?_⟩);have e:zpn d k=d:=by unfold zpn;rw[(zq7 hno).2.2]
  rw[e];exact hs
 have e0:V.bin .geq (.int .i64 (j:Int)) (.int .i64 0)=some (.bool true):=by rw[V.zna,decide_eq_true (by omega)]
 have hj:j<d.L.length:=(List.getElem?_eq_some_iff.1 hw).1;have hx:=hs.own.zkj 1 rfl;obtain⟨y1,R1,e1,g1,_⟩:=hx.zoa (by omega) (lo:=0) (hi:=j) (a:=none) (b:=some (.int .i64 (j:Int))) (.inl ⟨rfl,rfl⟩) (.inr ⟨_,rfl⟩) (by omega) (by omega);obtain⟨y2,R2,e2,g2,_⟩:=hx.zoa (by omega) (lo:=j+1) (hi:=P.length) (a:=some (.int .i64 ((j+1:Nat):Int))) (b:=none) (.inr ⟨_,rfl⟩) (.inl ⟨rfl,rfl⟩) (by omega) (by omega);rw[drop_zero]at g1;rw[take_length]at g2;simp -dsimp only[e0,B.zf,B.cond_true,B.zb3,V.zd3,Nat.zero_add,B.zed,hd.l,e1,e2,zgr (show j<4611686018427387904 by omega)];refine((zc5.start h).sz 4).ziz 0 rfl g1 (by omega) (by first|omega|(simp;done)|(simp;omega)) (by first|(simp[maxLen];done)|(simp[maxLen];omega)) λx1 h1 o1 _=>?_;refine keepD1 ⟨_,hd.l,zqy o1.le hd.l⟩ ?_;refine o1.ziz 0 rfl (g2.mono o1.le) (by omega) (by first|omega|(simp;done)|(simp;omega)) (by first|(simp[maxLen];done)|(simp[maxLen];omega)) λx2 h2 o2 _=>?_;have o3:zc5 h h2 [.sl 4 x2 ((P.take j++P.drop (j+1)).map zl7.cs) []]:=by
  have:zc5 h h2 [.sl 4 x2 (([]++(P.take j).map zl7.cs)++(P.drop (j+1)).map zl7.cs) []]:=o2;rw[nil_append]at this;rw[map_append];exact this
 have o4:=hs.own.join o3;refine(hs.grow o3.le).stL (B:=[]) o4 (L':=delD d.L k) ?_ (λp hp=>?_) λh3 s3=>zbh (hq h3 ⟨_,_,_,s3⟩)
 ·rw[(zq8 hno hw hk).2.2,<-hs.map,map_append,map_take,map_drop]
 ·rcases mem_append.1 hp with hp|hp
  ·exact hs.at_ p (mem_of_mem_take hp)
  ·exact hs.at_ p (mem_of_mem_drop hp)
theorem wantD_snoc(w:DW)(l:List Key)(n:Key)(a:List Key):(l++[n]).foldl (λl n=>if n∉w.ze0 /\ [42]∉w.ze0 then zhb l n else l) a=if n∉w.ze0 /\ [42]∉w.ze0 then zhb (l.foldl (λl n=>if n∉w.ze0 /\ [42]∉w.ze0 then zhb l n else l) a) n else l.foldl (λl n=>if n∉w.ze0 /\ [42]∉w.ze0 then zhb l n else l) a:=by
 rw[foldl_append];rfl
theorem doc_grant(s2:zdp.Spec C N){h0 h:zb}{F:List Ob}{r j:Nat}{x y p o:za}{d:DL}{P:List DWA}{R S:List (List za)}{w:DW}{W:List Key}{Q:zQ}
  (hs:zps h0 h F r x d P R) (hP:P[j]?=some (w,(p,o))) (hy:SlX h0 1 y (W.map tc) S) (hw1:w.ze0.length+W.length <= 1000000)
  (hq:∀h1 h',h0.le h1->DocA h1 h' F r ⟨d.L.set j ⟨w.Id,W.foldl zhb w.ze0,[],0⟩,d.zhz⟩->Q (.bool true) h'):z3 (zj.l3 C N (dn Q) (elp 4 x j 0) y) [.int .i64 0] h:=by
 have hjP:=(List.getElem?_eq_some_iff.1 hP).1;have ly:V.zde y=some (.int .i64 (W.length:Int)):=by simpa using hy.zde
 refine z3.intro (λt vs hh=>∃(q:Nat)(hb:zb)(p':za)(P':List DWA)(d':DL),q+t=W.length /\ vs=[.int .i64 (q:Int)] /\ h0.le hb /\ zps hb hh F r x d' P' R /\ P'[j]?=some (⟨w.Id,(W.take q).foldl zhb w.ze0,w.zfn,w.zjc⟩,(p',o)) /\ d'.zhz=d.zhz /\ ∀v,d'.L.set j v=d.L.set j v) W.length ?_
  ⟨0,h0,p,P,d,by omega,rfl,zb.le_refl _,hs,hP,rfl,λ_=>rfl⟩
 rintro Y t vs hh ⟨q,hb,p',P',d',hqt,rfl,hle,hs',hP',hlast,hset⟩ hY;have hx:=hs'.own.zkj 1 rfl;have hjP':j<(P'.map zl7.cs).length:=by rw[length_map];exact(List.getElem?_eq_some_iff.1 hP').1
 have hel:∀f,A.ldv hh (elp 4 x j f)=(zl7.cells ⟨w.Id,(W.take q).foldl zhb w.ze0,w.zfn,w.zjc⟩ (p',o))[f]? \/ 4 <= f:=λf=>by
  by_cases hf:f<4
  ·exact .inl (hx.ldv (by rw[getElem?_map,hP'];rfl) hf)
  ·exact .inr (by omega)
 have c1:A.ldv hh (elp 4 x j 1)=some p':=(hel 1).resolve_right (by omega);have fa:∀f,V.fieldAddr f (elp 4 x j 0)=some (elp 4 x j f):=λf=>by have:=hx.fieldA hjP' 0 f;rwa [Nat.zero_add]at this
 obtain⟨⟨Rp,hp'⟩,⟨Ro,ho'⟩⟩:(∃R,SlX hb 1 p' (((W.take q).foldl zhb w.ze0).map tc) R) /\ (∃R,SlX hb 1 o (w.zfn.map tc) R):=hs'.at_ _ (mem_of_getElem? hP');have hyy:=hy.mono (zb.le_trans hle hs'.own.le);simp -dsimp only[zj.l3,zj.k2,ly,zp1,B.zf];by_cases hql:q<W.length
 ·obtain⟨n,hn⟩:=zf0 hql
  have i1:V.zc9 1 y (.int .i64 (q:Int))=some (elp 1 y q 0):=hyy.znf (by rw[length_map];exact hql);have c2:A.ldv hh (elp 1 y q 0)=some (.str n):=hyy.cell (by rw[getElem?_map,hn];rfl);simp -dsimp only[hql,decide_true,B.cond_true];refine hx.nilP hjP' ?_;simp -dsimp only[fa,c1,i1,c2,B.zed,B.zf];have pl:=puts_len (W.take q) w.ze0;have tl:(W.take q).length <= W.length:=by rw[length_take];omega
  refine s2 p' _ Rp n hh _ (hp'.mono hs'.own.le) (by omega) λp2 h2 hor=>?_;have hst:∃hb2,hb.le hb2 /\ zps hb2 h2 F r x d' P' R /\ zl7.at_ hb2 ⟨w.Id,(W.take (q+1)).foldl zhb w.ze0,w.zfn,w.zjc⟩ (p2,o):=by
   have eT:(W.take (q+1)).foldl zhb w.ze0=zhb ((W.take q).foldl zhb w.ze0) n:=by rw[take_succ hn,foldl_append];rfl
   rw[eT];rcases hor with⟨rfl,rfl,e⟩|on
   ·refine⟨hb,zb.le_refl _,hs',⟨Rp,?_⟩,⟨Ro,ho'⟩⟩
    show SlX hb 1 p2 ((zhb ((W.take q).foldl zhb w.ze0) n).map tc) Rp;rw[e];exact hp'
   ·obtain⟨h1,k1,k2,k3⟩:=hs'.rebase on
    exact⟨h1,k1,k2,⟨[],k3 _ (mem_singleton.2 rfl)⟩,⟨Ro,ho'.mono k1⟩⟩
  obtain⟨hb2,k1,k2,k3⟩:=hst;refine(k2.own.zkj 1 rfl).nilP hjP' ?_;simp -dsimp only[fa,B.zf];have hpc:p2.zec=true:=by
   obtain⟨⟨R9,h9⟩,_⟩:(∃R,SlX hb2 1 p2 (((W.take (q+1)).foldl zhb w.ze0).map tc) R) /\ (∃R,SlX hb2 1 o (w.zfn.map tc) R):=k3;exact h9.zec
  refine k2.st (f:=1) (v:=p2) (w':=⟨w.Id,(W.take (q+1)).foldl zhb w.ze0,w.zfn,w.zjc⟩) (a':=(p2,o)) hP' rfl k3 hpc (by omega) λh3 s3=>?_;simp -dsimp only[zgr (show q<4611686018427387904 by omega),B.zf];refine hY (t-1) _ _ (by omega) ⟨q+1,hb2,p2,_,_,by omega,rfl,zb.le_trans hle k1,s3,?_,hlast,λv=>?_⟩
  ·rw[getElem?_set_self (by simpa using hjP')]
  ·show (d'.L.set j _).set j v=_
   rw[set_set];exact hset v
 ·have hqe:q=W.length:=by omega
  rw[hqe,take_length]at hP' hel;simp -dsimp only[hql,decide_false,B.cond_false,zj.k1];refine hx.nilP hjP' ?_;simp -dsimp only[fa,B.zf];obtain⟨⟨Rp,hp'⟩,⟨Ro,ho'⟩⟩:(∃R,SlX hb 1 p' ((W.foldl zhb w.ze0).map tc) R) /\ (∃R,SlX hb 1 o (w.zfn.map tc) R):=hs'.at_ _ (mem_of_getElem? hP');refine hs'.st (f:=2) (v:= .zeg) (w':=⟨w.Id,W.foldl zhb w.ze0,[],w.zjc⟩) (a':=(p',.zeg)) hP' rfl ⟨⟨Rp,hp'⟩,⟨[],SlX.zeg hb 1⟩⟩ rfl (by omega) λh3 s3=>?_;refine(s3.own.zkj 1 rfl).nilP (by rw[length_map,length_set];simpa using hjP') ?_;simp -dsimp only[fa,B.zf];have hP3:(P'.set j (⟨w.Id,W.foldl zhb w.ze0,[],w.zjc⟩,(p',za.zeg)))[j]?=some (⟨w.Id,W.foldl zhb w.ze0,[],w.zjc⟩,(p',za.zeg)):=getElem?_set_self (by simpa using hjP');refine s3.st (f:=3) (v:= .int .i64 0) (w':=⟨w.Id,W.foldl zhb w.ze0,[],0⟩) (a':=(p',.zeg)) hP3 rfl ⟨⟨Rp,hp'⟩,⟨[],SlX.zeg hb 1⟩⟩ rfl (by omega) λh4 s4=>?_;refine zbh (hq hb h4 hle ?_);have e:(⟨(d'.L.set j ⟨w.Id,W.foldl zhb w.ze0,[],w.zjc⟩).set j ⟨w.Id,W.foldl zhb w.ze0,[],0⟩,d'.zhz⟩:DL)=⟨d.L.set j ⟨w.Id,W.foldl zhb w.ze0,[],0⟩,d.zhz⟩:=by
   rw[set_set,hset,hlast]
  rw[<-e];exact⟨_,_,_,s4⟩
variable{C:z5}{N:zN}
theorem doc_kept(s3:zdu.Spec C N){h0 h:zb}{F:List Ob}{r j:Nat}{x y p o:za}{d:DL}{P:List DWA}{R S:List (List za)}{w:DW}{W:List Key}{T:Int}{Q:zQ}
  (hs:zps h0 h F r x d P R) (hf:Fit d) (hP:P[j]?=some (w,(p,o))) (hy:SlX h 1 y (W.map tc) S) (hW:W.length <= 1000000)
  (hq:∀b:Bool,(b=true↔zff d w.Id W T≠[])->zj.k4 C N (dn Q) (.ptr r 0 0) (elp 4 x j 0) y (.int .i64 T) (.bool b) h):z3 (zj.l6 C N (dn Q) (.ptr r 0 0) (.int .i64 (j:Int)) (elp 4 x j 0) y (.int .i64 T)) [.bool false,.int .i64 0] h:=by
 have hd:=hs.read;have hl:=hf.len;have hw:d.L[j]?=some w:=by rw[<-hs.map,getElem?_map,hP];rfl
 refine z3.intro (λt vs hh=>hh=h /\ ∃(q:Nat)(b:Bool),q+t=d.L.length /\ vs=[.bool b,.int .i64 (q:Int)] /\ (b=true↔∃v∈d.L.take q,v.Id≠w.Id /\ zin v W T=true)) d.L.length ?_ ⟨rfl,0,false,by omega,rfl,by simp⟩;rintro Y t vs hh ⟨rfl,q,b,hqt,rfl,hb⟩ hY;simp -dsimp only[zj.l6,zj.k5,B.zb3,V.zd3,Nat.zero_add,B.zf,B.zed,hd.l,hd.zgo.zde,zp1];by_cases hql:q<d.L.length
 rotate_left
 ·have hqe:q=d.L.length:=by omega
  rw[hqe,take_length]at hb;simp -dsimp only[hql,decide_false,B.cond_false];refine hq b ?_;rw[hb];constructor
  ·rintro⟨v,hv,h1,h2⟩ e
   have:v.Id∈zff d w.Id W T:=mem_map.2 ⟨v,mem_filter.2 ⟨hv,by rw[Bool.and_eq_true,decide_eq_true_eq];exact⟨h1,h2⟩⟩,rfl⟩;rw[e]at this;cases this
  ·intro hne
   obtain⟨z,hz⟩:=exists_mem_of_ne_nil _ hne;obtain⟨v,hv,rfl⟩:=mem_map.1 hz;obtain⟨h1,h2⟩:=mem_filter.1 hv;rw[Bool.and_eq_true,decide_eq_true_eq]at h2;exact⟨v,h1,h2⟩
 obtain⟨v,hv⟩:=zf0 hql;obtain⟨p1,o1,ev⟩:=hd.get hv;obtain⟨R1,hp1⟩:=ev.held;obtain⟨R2,ho1⟩:=ev.zfb;have hpos:=get_pos hf.zpa hv hw;have b1:=hf.get hv;have hnext:∀b':Bool,(b'=true↔b=true \/ (v.Id≠w.Id /\ zin v W T=true))->Y [.bool b',.int .i64 ((q+1:Nat):Int)] hh:=λb' hb'=>by
  refine hY (t-1) _ _ (by omega) ⟨rfl,q+1,b',by omega,rfl,?_⟩;rw[hb',hb];constructor
  ·rintro(⟨u,hu,h1⟩|h1)
   ·exact⟨u,by rw[take_succ hv];exact mem_append_left _ hu,h1⟩
   ·exact⟨v,by rw[take_succ hv];simp,h1⟩
  ·rintro⟨u,hu,h1⟩
   rw[take_succ hv,mem_append,mem_singleton]at hu;rcases hu with hu|rfl
   ·exact .inl ⟨u,hu,h1⟩
   ·exact .inr h1
 have en:V.bin .neq (.int .i64 (q:Int)) (.int .i64 (j:Int))=some (.bool (decide (q≠j))):=neqNN;have aq:=zgr (show q<4611686018427387904 by omega);simp -dsimp only[hql,decide_true,B.cond_true,B.zf,zgr (show q<4611686018427387904 by omega)];cases b with
 | true=>
  have:=hnext true (by simp);simpa -dsimp[-V.zh7,aq]using this
 | false=>
 simp -dsimp only[B.zor,Bool.not_false,B.zbe,en,B.zf];by_cases hqj:q=j
 ·have:=hnext false (by simp[hpos.2 hqj])
  subst hqj;simp -dsimp only[ne_eq,not_true_eq_false,decide_false];simpa -dsimp[-V.zh7,aq]using this
 have hne:v.Id≠w.Id:=λe=>hqj (hpos.1 e);have hne':decide (q≠j)=true:=decide_eq_true hqj;simp -dsimp only[hne',B.zfu,B.zbe,B.zb3,V.zd3,Nat.zero_add,B.zf,B.zed,B.ldn_eq,hd.l,ev.idx,ev.ldn];refine s3 v p1 o1 y W R1 R2 S T hh _ hp1 ho1 hy (by omega) (by omega) hW ?_;simp -dsimp only[hne',B.zex,B.zf3,B.zor,Bool.not_false,B.zbe,B.zf,aq];exact hnext (zin v W T) (by simp[hne])
theorem zrf(s1:zd1.Spec C N)(s2:zdp.Spec C N)(s3:zdu.Spec C N){h0 h:zb}{F:List Ob}{r j:Nat}{x nx p o:za}{d0 d:DL}{P:List DWA}{R Rn:List (List za)}{k:Int}{names:List Key}{Q:zQ}
  (hs:zps h0 h F r x d P R) (hf:Fit d) (hP:P[j]?=some (ze1 d0 k,(p,o))) (hid:(ze1 d0 k).Id=k) (hset:∀v,zlu d0.L k v=d.L.set j v) (hlast:d.zhz=d0.zhz) (hk:∀W T,zff d k W T=zff d0 k W T) (hnx:SlX h0 1 nx (names.map tc) Rn) (hn:names.length <= 100000) (hb1:0 <= d.zhz) (hb2:d.zhz <= 1000000000)
  (hq:∀h1 h',h0.le h1->DocA h1 h' F r (zjv d0 k names).2->Q (.bool (zjv d0 k names).1) h'):zj.k11 C N (dn Q) (.ptr r 0 0) nx (.int .i64 (j:Int)) h:=by
 generalize hwd:ze1 d0 k=w at hP hid;have hd:=hs.read;have hjP:=(List.getElem?_eq_some_iff.1 hP).1;have hw:d.L[j]?=some w:=by rw[<-hs.map,getElem?_map,hP];rfl
 have hx:=hs.own.zkj 1 rfl;have hjx:j<(P.map zl7.cs).length:=by rw[length_map];exact hjP
 have i0:V.zc9 4 x (.int .i64 (j:Int))=some (elp 4 x j 0):=hx.znf hjx;have fa:∀f,V.fieldAddr f (elp 4 x j 0)=some (elp 4 x j f):=λf=>by have:=hx.fieldA hjx 0 f;rwa [Nat.zero_add]at this
 have nlp:∀{K:za->Prop},K (elp 4 x j 0)->B.nilCheck (elp 4 x j 0) K:=λhK=>hx.nilP hjx hK;have cel:∀{H:zb},h.le H->∀f,f<4->A.ldv H (elp 4 x j f)=(zl7.cells w (p,o))[f]? :=λhH f hf=>(hx.mono hH).ldv (by rw[getElem?_map,hP];rfl) hf;obtain⟨⟨Rp,hp⟩,⟨Ro,ho⟩⟩:(∃R,SlX h0 1 p (w.ze0.map tc) R) /\ (∃R,SlX h0 1 o (w.zfn.map tc) R):=hs.at_ _ (mem_of_getElem? hP);have bw:=hf.get hw;have lnx:V.zde nx=some (.int .i64 (names.length:Int)):=by simpa using hnx.zde
 have c2:A.ldv h (elp 4 x j 2)=some o:=cel (zb.le_refl _) 2 (by omega);simp -dsimp only[zj.k11,B.zb3,V.zd3,Nat.zero_add,B.zf,B.zed,hd.l,i0,zj.k10];refine nlp ?_;simp -dsimp only[fa,c2,B.zf,B.zed]
 have wl:∀l:List Key,l.length <= names.length->(l.foldl (λl n=>if n∉w.ze0 /\ [42]∉w.ze0 then zhb l n else l) w.zfn).length <= 200000:=λl hl=>by
  have:=wantD_len w l;unfold zf2 at this;omega
 refine z3.intro (λt vs hh=>∃(q:Nat)(hb:zb)(y:za)(S:List (List za)),q+t=names.length /\ vs=[y,.int .i64 (q:Int)] /\ h0.le hb /\ h.le hh /\ zps hb hh F r x d P R /\ SlX hb 1 y (((names.take q).foldl (λl n=>if n∉w.ze0 /\ [42]∉w.ze0 then zhb l n else l) w.zfn).map tc) S) names.length ?_
  ⟨0,h0,o,Ro,by omega,rfl,zb.le_refl _,zb.le_refl _,hs,ho⟩
 rintro Y t vs hh ⟨q,hb,y,S,hqt,rfl,hle,hle2,hs',hy⟩ hY;have hle3:=zb.le_trans hle hs'.own.le;have hyy:=hy.mono hs'.own.le;simp -dsimp only[zj.l9,zj.k8,lnx,zp1,B.zf];by_cases hql:q<names.length
 ·obtain⟨n,hnn⟩:=zf0 hql
  have hnh:=hnx.mono hle3;have i1:V.zc9 1 nx (.int .i64 (q:Int))=some (elp 1 nx q 0):=hnh.znf (by rw[length_map];exact hql);have e1:∀{H:zb},hh.le H->A.ldv H (elp 1 nx q 0)=some (.str n):=λhH=>(hnh.mono hH).cell (by rw[getElem?_map,hnn];rfl);have c1:A.ldv hh (elp 4 x j 1)=some p:=cel hle2 1 (by omega);have hph:=hp.mono hle3;have tl:(names.take q).length <= names.length:=by rw[length_take];omega
  have wlq:=wl _ tl
  have eT:(names.take (q+1)).foldl (λl n=>if n∉w.ze0 /\ [42]∉w.ze0 then zhb l n else l) w.zfn=if n∉w.ze0 /\ [42]∉w.ze0 then zhb ((names.take q).foldl (λl n=>if n∉w.ze0 /\ [42]∉w.ze0 then zhb l n else l) w.zfn) n else (names.take q).foldl (λl n=>if n∉w.ze0 /\ [42]∉w.ze0 then zhb l n else l) w.zfn:=by
   rw[take_succ hnn,wantD_snoc]
  have stay:¬ (n∉w.ze0 /\ [42]∉w.ze0)->Y [y,.int .i64 ((q+1:Nat):Int)] hh:=λhc=>by
   refine hY (t-1) _ _ (by omega) ⟨q+1,hb,y,S,by omega,rfl,hle,hle2,hs',?_⟩;rw[eT,if_neg hc];exact hy
  simp -dsimp only[hql,decide_true,B.cond_true];refine nlp ?_;simp -dsimp only[fa,c1,i1,e1 (zb.le_refl _),B.zf,B.zed];refine s1 _ _ _ _ _ _ hph (by omega) ?_;by_cases h1:n∈w.ze0
  ·have:=stay λhc=>hc.1 h1
   have aq:=zgr (show q<4611686018427387904 by omega);simp -dsimp only[h1,decide_true,V.zfk,Bool.not_true,B.zf];simpa -dsimp[-V.zh7,aq]using this
  simp -dsimp only[h1,decide_false,V.zfk,Bool.not_false,B.zf,B.zfu,B.zbe];refine nlp ?_;simp -dsimp only[fa,c1,B.zfu,B.zbe,B.zf,B.zed];refine s1 _ _ _ _ _ _ hph (by omega) ?_;by_cases h2:[42]∈w.ze0
  ·have:=stay λhc=>hc.2 h2
   simp -dsimp only[h2,decide_true,V.zfk,Bool.not_true,B.zf,B.zfu,B.zbe,B.zex,B.cond_false,zgr (show q<4611686018427387904 by omega)];exact this
  simp -dsimp only[h2,decide_false,V.zfk,Bool.not_false,B.zf,B.zfu,B.zbe,B.zex,B.cond_true,i1,e1 (zb.le_refl _),B.zed];refine s2 y _ S n hh _ hyy (by omega) λy2 h2' hor=>?_;simp -dsimp only[zgr (show q<4611686018427387904 by omega),B.zf];have hc:n∉w.ze0 /\ [42]∉w.ze0:=⟨h1,h2⟩;rcases hor with⟨rfl,rfl,e⟩|on
  ·refine hY (t-1) _ _ (by omega) ⟨q+1,hb,y2,S,by omega,rfl,hle,hle2,hs',?_⟩
   rw[eT,if_pos hc,e];exact hy
  ·obtain⟨h1',k1,k2,k3⟩:=hs'.rebase on
   refine hY (t-1) _ _ (by omega) ⟨q+1,h1',y2,[],by omega,rfl,zb.le_trans hle k1,zb.le_trans hle2 on.le,k2,?_⟩;rw[eT,if_pos hc];exact k3 _ (mem_singleton.2 rfl)
 have hqe:q=names.length:=by omega
 rw[hqe,take_length]at hy hyy;have c3:A.ldv hh (elp 4 x j 3)=some (.int .i64 w.zjc):=cel hle2 3 (by omega);have hWl:=wl names (Nat.le_refl _);simp -dsimp only[hql,decide_false,B.cond_false];refine nlp ?_;simp -dsimp only[fa,c3,B.zf,B.zed,zj.k7,V.zgq];have hwant:names.foldl (λl n=>if n∉w.ze0 /\ [42]∉w.ze0 then zhb l n else l) w.zfn=zf2 (ze1 d0 k) names:=by rw[hwd];rfl
 have hask:zjv d0 k names=if (zff d k (zf2 (ze1 d0 k) names) (zjd d0 k)).isEmpty then (true,⟨d.L.set j ⟨k,(zf2 (ze1 d0 k) names).foldl zhb (ze1 d0 k).ze0,[],0⟩,d0.zhz⟩) else (false,⟨d.L.set j ⟨k,(ze1 d0 k).ze0,zf2 (ze1 d0 k) names,zjd d0 k⟩,max d0.zhz (zjd d0 k)⟩):=by
  unfold zjv;simp only[hk,hset]
 rw[hwant]at hy hyy hWl;have hd':=hs'.read;have main:∀T:Int,T=zjd d0 k->z3 (zj.l6 C N (dn Q) (.ptr r 0 0) (.int .i64 (j:Int)) (elp 4 x j 0) y (.int .i64 T)) [.bool false,.int .i64 0] hh:=λT hT=>by
  refine doc_kept s3 hs' hf hP hyy (by omega) λb hb'=>?_;rw[hid]at hb';simp -dsimp only[zj.k4];cases b with
  | true=>
   have hne:=hb'.1 rfl;have hem:(zff d k (zf2 (ze1 d0 k) names) T).isEmpty=false:=by
    cases e:zff d k (zf2 (ze1 d0 k) names) T with
    | nil=>exact absurd e hne
    | cons _ _=>rfl
   rw[hT]at hem;rw[hask,hem]at hq;simp -dsimp only[B.cond_true];refine nlp ?_;simp -dsimp only[fa,B.zf];refine hs'.st (f:=2) (v:=y) (w':=⟨w.Id,w.ze0,zf2 (ze1 d0 k) names,w.zjc⟩) (a':=(p,y)) hP rfl ⟨⟨Rp,hp.mono hle⟩,⟨S,hy⟩⟩ hy.zec (by omega) λh3 s3'=>?_;refine nlp ?_;simp -dsimp only[fa,B.zf];have hP3:(P.set j (⟨w.Id,w.ze0,zf2 (ze1 d0 k) names,w.zjc⟩,(p,y)))[j]?=some (⟨w.Id,w.ze0,zf2 (ze1 d0 k) names,w.zjc⟩,(p,y)):=getElem?_set_self (by simpa using hjP);refine s3'.st (f:=3) (v:= .int .i64 T) (w':=⟨w.Id,w.ze0,zf2 (ze1 d0 k) names,T⟩) (a':=(p,y)) hP3 rfl ⟨⟨Rp,hp.mono hle⟩,⟨S,hy⟩⟩ rfl (by omega) λh4 s4=>?_;have el:A.ldv h4 (.ptr r 0 1)=some (.int .i64 d.zhz):=s4.read.last;have em:V.max2 (.int .i64 d.zhz) (.int .i64 T)=some (.int .i64 (max d.zhz T)):=V.max2_int _ _ _;simp -dsimp only[B.zb3,V.zd3,Nat.zero_add,B.zf,B.zed,el,em];refine s4.stLast λh5 s5=>?_;refine zbh (hq hb h5 hle ?_);have e:(⟨(d.L.set j ⟨w.Id,w.ze0,zf2 (ze1 d0 k) names,w.zjc⟩).set j ⟨w.Id,w.ze0,zf2 (ze1 d0 k) names,T⟩,max d.zhz T⟩:DL)=⟨d.L.set j ⟨k,(ze1 d0 k).ze0,zf2 (ze1 d0 k) names,zjd d0 k⟩,max d0.zhz (zjd d0 k)⟩:=by
    rw[set_set,hid,hT,hlast,hwd]
   rw[if_neg (by simp),<-e];exact⟨_,_,_,s5⟩
  | false=>
   have hem:zff d k (zf2 (ze1 d0 k) names) T=[]:=by
    apply Classical.byContradiction;intro hne;exact Bool.noConfusion (hb'.2 hne)
   rw[hT]at hem;rw[hask,hem]at hq;simp -dsimp only[B.cond_false];refine doc_grant s2 hs' hP hy (by omega) λh1 h' l1 d1=>hq h1 h' (zb.le_trans hle l1) ?_;rw[hid,hlast]at d1;rw[if_pos (by rfl),hwd];rw[hwd]at d1;exact d1
 refine B.zbd (λht=>?_) (λht=>?_)
 ·have ht:=of_decide_eq_true ht
  have ea:V.bin .add (.int .i64 d.zhz) (.int .i64 1)=some (.int .i64 (d.zhz+1)):=by rw[V.zh7,wrap_i64 (by omega) (by omega)]
  simp -dsimp only[B.zb3,V.zd3,Nat.zero_add,B.zf,B.zed,hd'.last,ea];exact main _ (by unfold zjd;rw[hwd,if_pos ht,hlast])
 ·have ht:=of_decide_eq_false ht
  exact main _ (by unfold zjd;rw[hwd,if_neg ht])
def zj.Spec(C:z5)(N:zN):Prop:=∀(h0 h:zb)(F:List Ob)(r:Nat)(d:DL)(k:Int)(names:List Key)(nx:za)(Rn:List (List za))(Q:zQ),DocA h0 h F r d->Fit d->d.L.length<100000->SlX h0 1 nx (names.map tc) Rn->names.length <= 100000->d.zhz <= 1000000000->(∀h1 h',h0.le h1->DocA h1 h' F r (zjv d k names).2->Q (.bool (zjv d k names).1) h')->C (N 501) [.ptr r 0 0,.int .i64 k,nx] h Q
theorem zj.spec(i:zj.Imp C N)(s0:zbn.Spec C N)(s1:zd1.Spec C N)(s2:zdp.Spec C N)(s3:zdu.Spec C N):zj.Spec C N:=by
 rintro h0 h F r d k names nx Rn Q ⟨x,P,R,hs⟩ hf hl hnx hn hb hq;have hd:=hs.read;have hPl:P.length=d.L.length:=by rw[<-hs.map,length_map]
 have hbl:=hf.zpa.last;apply i;simp -dsimp only[zj.cps,zj.k12];refine s0 h r x d k _ hd (by omega) (λj w hno hw hk=>?_) (λhno=>?_)
 ·have e0:V.bin .lss (.int .i64 (j:Int)) (.int .i64 0)=some (.bool false):=by rw[V.zev,decide_eq_false (by omega)]
  have hj:=(List.getElem?_eq_some_iff.1 hw).1;obtain⟨⟨v,p,o⟩,hP⟩:=zf0 (L:=P) (k:=j) (by omega);have hv:v=w:=by
   have:d.L[j]?=some v:=by rw[<-hs.map,getElem?_map,hP];rfl
   rw[hw]at this;cases this;rfl
  subst hv;obtain⟨g1,g2,g3⟩:=zq8 hno hw hk;have hwd:ze1 d k=v:=by unfold ze1;rw[g1];rfl
  simp -dsimp only[zj.k12,e0,B.zf,B.cond_false];exact zrf s1 s2 s3 hs hf (by rw[hwd];exact hP) (by rw[hwd];exact hk) g2 rfl (λ_ _=>rfl) hnx hn hbl hb hq
 ·have e0:V.bin .lss (.int .i64 (-1)) (.int .i64 0)=some (.bool true):=rfl
  obtain⟨g1,g2,g3⟩:=zq7 hno;have hwd:ze1 d k=⟨k,[],[],0⟩:=by unfold ze1;rw[g1];rfl
  have eb:A.bld [(0,none,.int .i64 k)] [.int .i64 0,.zeg,.zeg,.int .i64 0]=some (.agg [.int .i64 k,.zeg,.zeg,.int .i64 0]):=rfl;have ef:zez [(0,some 4,.agg [.int .i64 k,.zeg,.zeg,.int .i64 0])] (zh2 1 [.int .i64 0,.zeg,.zeg,.int .i64 0])=some [.int .i64 k,.zeg,.zeg,.int .i64 0]:=rfl;simp -dsimp only[zj.k12,e0,B.zf,B.cond_true,B.zb3,V.zd3,Nat.zero_add,B.zed,hd.l,eb,ef];refine hs.own.push 1 rfl (cs:=[.int .i64 k,.zeg,.zeg,.int .i64 0]) rfl (by omega) (by rw[length_map];omega) (by rw[length_map];simp[maxLen]<;>omega) λx1 h1 o1 _=>?_;have o2:zc5 h0 h1 ([.box (.ptr r 0 0) [x,.int .i64 d.zhz],.sl 4 x1 ((P++[((⟨k,[],[],0⟩:DW),(za.zeg,za.zeg))]).map zl7.cs) []]++F):=by
   rw[map_append];exact o1
  have hc1:x1.zec=true:=(o2.zkj 1 rfl).zec;refine o2.boxSt 0 rfl hc1 (by simp) λh2 o3 _=>?_;have s2':zps h0 h2 F r x1 ⟨d.L++[⟨k,[],[],0⟩],d.zhz⟩ (P++[((⟨k,[],[],0⟩:DW),(za.zeg,za.zeg))]) []:=by
   refine⟨o3,by rw[map_append,hs.map];rfl,λp hp=>?_⟩;rcases mem_append.1 hp with hp|hp
   ·exact hs.at_ p hp
   ·rw[mem_singleton.1 hp]
    exact⟨⟨[],SlX.zeg h0 1⟩,⟨[],SlX.zeg h0 1⟩⟩
  have hd2:=s2'.read;have l2:V.zde x1=some (.int .i64 ((d.L.length+1:Nat):Int)):=by
   have:=hd2.zgo.zde;simpa using this
  have es:V.bin .sub (.int .i64 ((d.L.length+1:Nat):Int)) (.int .i64 1)=some (.int .i64 (d.L.length:Int)):=by
   rw[V.zju,wrap_i64 (by omega) (by omega)];congr 2;omega
  simp -dsimp only[B.zb3,V.zd3,Nat.zero_add,B.zf,B.zed,hd2.l,l2,es];have hfit:Fit ⟨d.L++[⟨k,[],[],0⟩],d.zhz⟩:=by
   refine⟨⟨hf.zpa.last,λw hw=>?_,?_⟩,by simp;omega,λw hw=>?_⟩
   ·rcases mem_append.1 hw with hw|hw
    ·exact hf.zpa.turns w hw
    ·rw[mem_singleton.1 hw];exact⟨Int.le_refl _,hf.zpa.last⟩
   ·rw[map_append,nodup_append]
    refine⟨hf.zpa.ids,by simp,λa ha b hb e=>?_⟩;obtain⟨w,hw,rfl⟩:=mem_map.1 ha;have hb:b=k:=by simpa using hb
    exact hno w hw (by rw[e,hb])
   ·rcases mem_append.1 hw with hw|hw
    ·exact hf.small w hw
    ·rw[mem_singleton.1 hw];simp
  refine zrf (d0:=d) (k:=k) s1 s2 s3 s2' hfit (p:= .zeg) (o:= .zeg) ?_ (by rw[hwd]) (λv=>?_) rfl (λW T=>?_) hnx hn hbl hb hq
  ·rw[hwd,<-hPl,getElem?_append_right (Nat.le_refl _),Nat.sub_self];rfl
  ·rw[g2 v]
   rw[set_append_right _ _ (Nat.le_refl _),Nat.sub_self];rfl
  ·unfold zff
   rw[filter_append,map_append];simp
variable{C:z5}{N:zN}
theorem zk8.fit{s:Lk}{d:DL}{k n:Nat}(hv:zk8 s d k n)(hk:k <= 1000)(hn:n <= 100000):Fit d:=⟨hv.zpa,by have:=hv.len;omega,hv.small.mono hn⟩
theorem zc5.mid{h0 h:zb}{a b c:List Ob}(ho:zc5 h0 h (a++(b++c))):zc5 h0 h (b++a++c):=ho.perm (by
 rw[<-append_assoc]
 exact List.Perm.append_right c perm_append_comm)
def zd5.Spec(C:z5)(N:zN):Prop:=∀(h:zb)(s:Lk)(r:Nat)(x:za)(d:DL)(k n:Nat)(w:Int)(Q:zQ),zk8 s d k n->s.At h->DocR h r x d->k <= 1000->n <= 100000->(∀h',h.le h'->Q (.bool true) h')->C (N 483) [.ptr s.l 0 0,.ptr r 0 0,.int .i64 w] h Q
theorem zd5.spec(i:zd5.Imp C N)(sH:zc2.Spec C N)(sW:zco.Spec C N)(sR:zw.Spec C N)(dH:zcg.Spec C N)(dW:z7.Spec C N)(dR:zo.Spec C N)(sT:zdi.Spec C N)(sL:zdj.Spec C N):zd5.Spec C N:=by
 intro h s r x d k n w Q hv ha hd hk hn hq;have hf:=hv.fit hk hn;have e1:=hv.len;have hl:=holdsD_len hv.small w;have hwl:=waits_len d w;apply i;simp -dsimp only[zd5.cps,zd5.k1];refine sH h s w _ ha hv.ok (Nat.le_trans (held_len hv.rel hv.ok w) (by omega)) λx1 h1 L p q o1=>?_;rw[holds_eq hv.rel hv.ok p q]at o1;refine dH h1 r x d w _ (hd.mono o1.le) (by omega) (by omega) λx2 h2 R2 l2 g2=>?_;have le2:=zb.le_trans o1.le l2;refine sT x1 x2 _ _ [] R2 _ _ ((o1.zkj 0 rfl).mono l2) g2 (by omega) ?_;rw[decide_eq_true (rfl:zi7 d w=zi7 d w)];simp -dsimp only[ B.zfu,B.zbe];refine sW h2 s w _ (ha.mono le2) hv.ok (by rw[hv.rel.len];omega) λx3 h3 o3=>?_;rw[ziq hv.rel hv.ok]at o3;simp -dsimp only[B.zfu,B.zbe];refine dW h3 r x d w _ (hd.mono (zb.le_trans le2 o3.le)) hf λx4 h4 R4 l4 g4=>?_;have le4:=zb.le_trans le2 (zb.le_trans o3.le l4);simp -dsimp only[B.zfu,B.zbe];refine sL x3 x4 _ _ [] R4 _ _ ((o3.zkj 0 rfl).mono l4) g4 (by omega) ?_;rw[decide_eq_true (rfl:ze3 d w=ze3 d w)];simp -dsimp only[ B.zfu,B.zbe,B.zex];refine sR h4 s _ (ha.mono le4) hv.ok (by rw[hv.rel.len];omega) λh5 x5 L5 r5 o5=>?_;have rd:=roundD_of hv.rel hv.ok r5;simp -dsimp only[B.zfu,B.zbe];refine dR h5 r x d _ (hd.mono (zb.le_trans le4 o5.le)) hf λx6 h6 L6 R6 l6 g6 r6=>?_;have e6:=roundD_one r6 rd;subst e6;have rl:=roundD_len rd;simp -dsimp only[B.zfu,B.zbe];refine sL x5 x6 _ _ [] R6 _ _ ((o5.zkj 0 rfl).mono l6) g6 (by omega) ?_;simp -dsimp only[decide_true,B.zex];exact zbh (hq h6 (zb.le_trans le4 (zb.le_trans o5.le l6)))
def zd4.Spec(C:z5)(N:zN):Prop:=∀(h0 h:zb)(s:Lk)(r:Nat)(d:DL)(k n:Nat)(t:Stp)(a:za)(R:List (List za))(Q:zQ),zk8 s d k n->DocA h0 h s.obs r d->SlX h0 1 a (t.Names.map tc) R->k <= 900->n <= 10000->t.Names.length <= 10000->(∀(h1 h':zb)(s':Lk)(d':DL),h0.le h1->zk8 s' d' (k+1) (n+t.Names.length)->s'.l=s.l->DocA h1 h' s'.obs r d'->(d'=zpn d t.Work \/ d'=(zjv d t.Work t.Names).2)->Q (.bool true) h')->C (N 484) [.ptr s.l 0 0,.ptr r 0 0,.agg (zk3.cells t a)] h Q
theorem zd4.spec(i:zd4.Imp C N)(sP:zfe.Spec C N)(sA:zy.Spec C N)(sF:zc1.Spec C N)(dA:zj.Spec C N)(dF:zcx.Spec C N)(k1:zdq.Spec C N)(k2:zda.Spec C N)(k3:zdv.Spec C N):zd4.Spec C N:=by
 rintro h0 h s r d k n t a R Q hv ⟨x,P,Rx,hs⟩ ha hk hn hnl hq;have hlen:=hv.len;have hlast:=hv.last;have hf:=hv.fit (by omega) (by omega);apply i;have eb:A.boxN 3 (.agg (zk3.cells t a))=some (.agg (zk3.cells t a)):=by rw[boxN_agg];rfl
 have g0:V.zfc 0 (.agg (zk3.cells t a))=some (.int .i64 t.Op):=rfl;have g1:V.zfc 1 (.agg (zk3.cells t a))=some (.int .i64 t.Work):=rfl;have g2:V.zfc 2 (.agg (zk3.cells t a))=some a:=rfl;simp -dsimp only[zd4.cps,zd4.k1,eb,g0,B.zjo,B.zf];refine sP _ _ _ _ (by omega) (by omega) λp p0 p5=>?_;have e0:V.bin .eql (.int .i64 p) (.int .i64 0)=some (.bool (decide (p=0))):=by rw[V.zgq]
 simp -dsimp only[e0,B.zf];refine B.zbd (λhp=>?_) (λhp=>?_)
 ·simp -dsimp only[B.zjo,g1,B.zf]
  refine hv.free sF (w:=t.Work) hs.own λh1 s1 v1 o1 l1=>?_;simp -dsimp only[B.zjo,g1,B.zf];refine dF h0 h1 s1.obs r d t.Work _ ⟨x,P,Rx,⟨o1,hs.map,hs.at_⟩⟩ (by omega) λh2 d2=>?_;exact zbh (hq h0 h2 s1 _ (zb.le_refl _) (v1.mono (by omega) (by omega)) l1 d2 (.inl rfl))
 ·simp -dsimp only[B.zjo,g2,B.zf]
  refine k1 a t.Names R h _ (ha.mono hs.own.le) (by omega) λv h1 o1=>?_;simp -dsimp only[B.zjo,g1,g2,B.zf];have oj:zc5 h0 h1 (([.sl 1 v (t.Names.map tc) zgb]++dObs r x d.zhz P Rx)++s.obs):=by
   have:=(hs.own.join o1).perm (perm_append_comm);rw[<-append_assoc]at this;exact this
  refine hv.ask sA (w:=t.Work) (names:=t.Names) (R:=zgb) oj (by omega) (λH oH=>oH.zkj 0 rfl) (by omega) λh2 s2 v2 o2 l2=>?_;have o2':zc5 h0 h2 (dObs r x d.zhz P Rx++([.sl 1 v (t.Names.map tc) zgb]++s2.obs)):=by
   rw[append_assoc]at o2;rw[<-append_assoc];exact o2.mid
  refine dA h0 h2 _ r d t.Work t.Names a R _ ⟨x,P,Rx,⟨o2',hs.map,hs.at_⟩⟩ hf (by omega) ha (by omega) (by omega) λh3 h4 l3 d4=>?_;obtain⟨x4,P4,R4,s4⟩:=d4;have own4:zc5 h3 h4 ((dObs r x4 (zjv d t.Work t.Names).2.zhz P4 R4++s2.obs)++[.sl 1 v (t.Names.map tc) zgb]):=by
   refine s4.own.perm ?_;rw[append_assoc];exact List.Perm.append_left _ perm_append_comm
  have hv4:SlX h4 1 v (t.Names.map tc) zgb:=own4.is _ (mem_append_right _ (mem_singleton.2 rfl));simp -dsimp only[V.eqBool_eql,beq_self_eq_true,B.zf,B.zfu,B.zbe,B.zjo,g2];refine k2 v a t.Names t.Names R h4 _ hv4 (ha.mono (zb.le_trans l3 s4.own.le)) (by omega) ?_;simp -dsimp only[decide_true,B.zex];obtain⟨q1,q2⟩:=own4.out;refine k3 _ h4 v _ _ _ q2 (by rfl) (by rw[length_map];omega) λh5 l5=>?_;exact zbh (hq h3 h5 s2 _ l3 v2 l2 ⟨x4,P4,R4,⟨q1.grow l5,s4.map,s4.at_⟩⟩ (.inr rfl))
def zz.Spec(C:z5)(N:zN):Prop:=∀(x:za)(L:List Stp)(h:zb)(Q:zQ),Dl zk3 h x L->L.length<4611686018427387904->(∀t∈L,t.inLen)->Q (.bool true) h->C (N 487) [x] h Q
structure zme(h hh:zb)(l0:Nat)(r:Nat)(s:Lk)(d:DL)(k n:Nat):Prop where
 l:s.l=l0
 lived:zk8 s d k n
 doc:∃h1,h.le h1 /\ DocA h1 hh s.obs r d
theorem zme.at_{h hh:zb}{l0 r:Nat}{s:Lk}{d:DL}{k n:Nat}(g:zme h hh l0 r s d k n):h.le hh /\ s.At hh /\ ∃x,DocR hh r x d:=by
 obtain⟨h1,l1,x,P,R,ds⟩:=g.doc;exact⟨zb.le_trans l1 ds.own.le,at_fr ds.own g.lived.ok,x,ds.read⟩
theorem zme.grow{h hh h2:zb}{l0 r:Nat}{s:Lk}{d:DL}{k n:Nat}(g:zme h hh l0 r s d k n)(hle:hh.le h2):zme h h2 l0 r s d k n:=by
 obtain⟨h1,l1,x,P,R,ds⟩:=g.doc;exact⟨g.l,g.lived,h1,l1,x,P,R,ds.grow hle⟩
theorem zme.step(sS:zd4.Spec C N){h hh:zb}{l0 r:Nat}{s:Lk}{d:DL}{k n:Nat}(g:zme h hh l0 r s d k n){t:Stp}{a:za}{R:List (List za)}(ha:SlX h 1 a (t.Names.map tc) R)(hk:k <= 900)(hn:n <= 10000)(hnl:t.Names.length <= 10000){Q:zQ}
  (hq:∀(h':zb)(s':Lk)(d':DL),zme h h' l0 r s' d' (k+1) (n+t.Names.length)->(d'=zpn d t.Work \/ d'=(zjv d t.Work t.Names).2)->Q (.bool true) h'):C (N 484) [.ptr l0 0 0,.ptr r 0 0,.agg (zk3.cells t a)] hh Q:=by
 obtain⟨h1,l1,da⟩:=g.doc;rw[<-g.l];refine sS h1 hh s r d k n t a R Q g.lived da (ha.mono l1) hk hn hnl λh2 h' s' d' l2 v' ls dd hd=>hq h' s' d' ⟨ls.trans g.l,v',h2,zb.le_trans l1 l2,dd⟩ hd
theorem zme.like(sK:zd5.Spec C N){h hh:zb}{l0 r:Nat}{s:Lk}{d:DL}{k n:Nat}(g:zme h hh l0 r s d k n)(hk:k <= 1000)(hn:n <= 100000){w:Int}{Q:zQ}(hq:∀h',hh.le h'->zme h h' l0 r s d k n->Q (.bool true) h'):C (N 483) [.ptr l0 0 0,.ptr r 0 0,.int .i64 w] hh Q:=by
 obtain⟨g1,g2,x,g3⟩:=g.at_;rw[<-g.l];refine sK hh s r x d k n w Q g.lived g2 g3 hk hn λh' hle=>hq h' hle ?_;exact g.grow hle
theorem zme.start{h h1:zb}{s:Lk}(k1:s.Ok)(w1:s.W=[])(l1:s.last=0)(o1:zc5 h h1 s.obs){r:Nat}(hr:h1 r=none):zme h (upd h1 r (zdo [.zeg,.int .i64 0])) s.l r s ⟨[],0⟩ 0 0:=by
 refine⟨rfl,zk8.zero k1 w1 l1,h,zb.le_refl _,.zeg,[],[],⟨?_,rfl,λp hp=>absurd hp (not_mem_nil)⟩⟩;have o2:=(o1.znq hr [.zeg,.int .i64 0]).zeg 4;rw[append_assoc]at o2;exact o2.perm perm_append_comm
theorem lives_mid(sE:zd6.Spec C N)(sN:ze9.Spec C N)(sS:zd4.Spec C N)(sK:zd5.Spec C N){x:za}{L:List Stp}{h:zb}{Q:zQ}(hx:Dl zk3 h x L)(hlen:L.length <= 60)(hsm:zkz L <= 2000)(hq:Q (.bool true) h):zz.k5 C N (dn Q) x h:=by
 simp -dsimp only[zz.k5];refine sN h _ λh1 s k1 w1 l1 o1=>?_;have eb:A.bld [] [.zeg,.int .i64 0]=some (.agg [.zeg,.int .i64 0]):=rfl;have ec:A.zkf 2 (.agg [.zeg,.int .i64 0])=some [.zeg,.int .i64 0]:=rfl;have ep:V.zgd .eql (.ptr s.l 0 0) .zkx=some (.bool false):=rfl;simp -dsimp only[eb,ec,B.zf];intro r hr;simp -dsimp only[ep,B.zf,B.cond_false];refine z3.intro (λt vs hh=>∃(k:Nat)(s':Lk)(d:DL),k+t=L.length /\ vs=[.int .i64 (k:Int)] /\ zme h hh s.l r s' d k (zkz (L.take k))) L.length ?_ ⟨0,s,_,by omega,rfl,zme.start k1 w1 l1 o1 hr⟩;rintro Y t vs hh ⟨k,s',d,ht,rfl,g⟩ hY;obtain⟨hle,_⟩:=g.at_;have hxx:=hx.mono hle;simp -dsimp only[zz.l4,zz.k3,hxx.zde,zp1,B.zf];by_cases hk:k<L.length
 ·obtain⟨p,hp⟩:=zf0 hk
  have hnk:=zqu (L:=L) (k:=k);have hnk1:=zqu (L:=L) (k:=k+1);have hns:=zqt hp;obtain⟨a,ea⟩:=zp7 hx hp;obtain⟨R,ha⟩:=ea.at_;obtain⟨a1,ea1⟩:=zp7 hxx hp;have e2:a1=a:=by
   have q2:=ea1.l2;rw[ea.mono' hle hx hp]at q2;cases q2;rfl
  subst e2;simp -dsimp only[hk,decide_true,B.cond_true,ea1.idx,ea1.ldn,B.ldn_eq,B.zf];refine g.step sS (t:=p) ha (by omega) (by omega) (by omega) λh2 s2 d2 g2 _=>?_;rw[<-hns]at g2;obtain⟨hle2,_⟩:=g2.at_;obtain⟨a2,ea2⟩:=zp7 (hx.mono hle2) hp;simp -dsimp only[V.zfk,Bool.not_true,B.zf,B.zor,Bool.not_false,B.zbe,ea2.idx,ea2.f1,ea2.l1,B.zed];refine g2.like sK (by omega) (by omega) λh3 _ g3=>?_;simp -dsimp only[V.zfk,Bool.not_true,B.zf,B.zor,Bool.not_false,B.zbe,B.zf3,B.cond_false,zgr (show k<4611686018427387904 by omega)];exact hY (t-1) _ _ (by omega) ⟨k+1,s2,d2,by omega,rfl,g3⟩
 ·simp -dsimp only[hk,decide_false,B.cond_false]
  have hnk:=zqu (L:=L) (k:=k);clear hY;refine z3.intro (λt vs h2=>∃j:Nat,j+t=L.length /\ vs=[.int .i64 (j:Int)] /\ zme h h2 s.l r s' d k (zkz (L.take k))) L.length ?_ ⟨0,by omega,rfl,g⟩;rintro Y u vs h2 ⟨j,hu,rfl,g2⟩ hY;obtain⟨hle2,_⟩:=g2.at_;have hx2:=hx.mono hle2;simp -dsimp only[zz.l2,zz.k1,hx2.zde,zp1,B.zf];by_cases hj:j<L.length
  ·obtain⟨p,hp⟩:=zf0 hj
   obtain⟨a2,ea2⟩:=zp7 hx2 hp;simp -dsimp only[hj,decide_true,B.cond_true,ea2.idx,ea2.f1,ea2.l1,B.zed,B.zf];refine g2.like sK (by omega) (by omega) λh3 _ g3=>?_;simp -dsimp only[V.zfk,Bool.not_true,B.zf,B.cond_false,zgr (show j<4611686018427387904 by omega)];exact hY (u-1) _ _ (by omega) ⟨j+1,by omega,rfl,g3⟩
  ·simp -dsimp only[hj,decide_false,B.cond_false]
   refine sE _ _ ?_;exact dn_le hle2 hq
theorem zz.spec(i:zz.Imp C N)(s0:zd6.Spec C N)(s2:zcj.Spec C N)(sN:ze9.Spec C N)(sS:zd4.Spec C N)(sK:zd5.Spec C N):zz.Spec C N:=by
 intro x L h Q hx hlen hin hq;apply i;have g60:V.bin .gtr (.int .i64 (L.length:Int)) (.int .i64 60)=some (.bool (decide (60<L.length))):=by rw[V.zm9];congr 3;exact propext (by omega)
 have core:∀(y:za)(M:List Stp),Dl zk3 h y M->M.length <= 60->(∀t∈M,t.inLen)->B.call C (N 486) [y] h λv13 h=>B.cond v13 (B.call C (N 482) [] h λv14 h=>dn Q v14 h) (zz.k5 C N (dn Q) y h):=λy M hy hM hin=>by
  refine s2 _ _ _ _ hy (by omega) hin λbg hbg=>?_;cases bg with
  | true=>
   simp -dsimp only[B.cond_true];refine s0 _ _ ?_;exact zbh hq
  | false=>
   simp -dsimp only[B.cond_false];exact lives_mid s0 sN sS sK hy hM (hbg rfl) hq
 simp -dsimp only[zz.cps,zz.k6,hx.zde,g60,B.zf];refine B.zbd (λhb=>?_) (λhb=>?_)
 ·have hb:=of_decide_eq_true hb
  obtain⟨y,e1,e2⟩:=hx.upTo (m:=60) (by omega);have e1:V.zh6 3 x none (some (.int .i64 60))=some y:=e1;simp -dsimp only[e1,B.zf];exact core y _ e2 (by rw[length_take];omega) (λt ht=>hin t (mem_of_mem_take ht))
 ·have hb:=of_decide_eq_false hb
  exact core x _ hx (by omega) hin
end Go.Ab
