/- What is proved: a part of the way to the statement: Cref24. No conditions. -/
import Derived.Test.YtneeejngeoaaoaaGreatQ8
import Derived.Test.YtneeejngeoaaoaaGreatQ6
import Derived.KernelRfl
set_option linter.unusedVariables false
set_option linter.unusedSimpArgs false
set_option maxRecDepth 100000
namespace Go.Ab
open List
variable{C:z6}{N:zN}
def zef.Spec(C:z6)(N:zN):Prop:=∀(x:za)(L:List Key)(R:List (List za))(s:Key)(h:zb)(Q:zQ),SlX h 1 x (L.map tc) R->L.length <= 100000000->Q (.bool (decide (s∈L))) h->C (N 519) [x,.str s] h Q
theorem zef.spec(i:zef.Imp C N):zef.Spec C N:=by
 intro x L R s h Q hx hl hq;apply i;have lx:=hx.zcj;rw[length_map]at lx;refine zq.intro (λn vs hh=>hh=h /\ ∃k:Nat,k+n=L.length /\ vs=[.int .i64 (k:Int)] /\ s∉L.take k) L.length ?_ ⟨rfl,0,by simp,rfl,by simp⟩;rintro Y n vs h ⟨rfl,k,hk,rfl,hn⟩ hY;simp -dsimp only[zef.l2,zef.k1,lx,V.zfi,B.ze];refine B.zbc (λhc=>?_) (λhc=>?_)
 ·rw[decide_eq_true_eq]at hc
  obtain⟨a,ha⟩:=zg3 (L:=L) (k:=k) (by omega);have f1:V.zcp 1 x (.int .i64 (k:Int))=some (elp 1 x k 0):=hx.zmd (by rw[length_map];omega);have f2:A.ldv h (elp 1 x k 0)=some (.str a):=hx.cell (by rw[getElem?_map,ha];rfl);simp -dsimp only[f1,f2,B.zeo,B.ze,V.zso];refine B.zbc (λhd=>?_) (λhd=>?_)
  ·have e:a=s:=of_decide_eq_true hd
   have:s∈L:=by rw[<-e];exact mem_of_getElem? ha
   rw[decide_eq_true this]at hq;exact zbf hq
  ·have e:a≠s:=of_decide_eq_false hd
   simp -dsimp only[zh3 (show k<4611686018427387904 by omega),B.ze];refine hY (L.length-(k+1)) _ _ (by omega) ⟨rfl,k+1,by omega,rfl,?_⟩;rw[take_succ ha,mem_append,mem_singleton];rintro(h1|h1)
   ·exact hn h1
   ·exact e h1.symm
 ·rw[decide_eq_false_iff_not]at hc
  have:k=L.length:=by omega
  subst this;rw[take_length]at hn;rw[decide_eq_false hn]at hq;exact zbf hq
def zdz.Spec(C:z6)(N:zN):Prop:=∀(x:za)(L:List Key)(R:List (List za))(s:Key)(h:zb)(Q:zQ),SlX h 1 x (L.map tc) R->L.length <= 10000000->(∀x' h',(x'=x /\ h'=h /\ ziw L s=L \/ zcy h h' [.sl 1 x' ((ziw L s).map tc) []])->Q x' h')->C (N 517) [x,.str s] h Q
theorem zdz.spec(i:zdz.Imp C N):zdz.Spec C N:=by
 intro x L R s h Q hx hl hq;apply i;have lx:=hx.zcj;rw[length_map]at lx;refine zq.intro (λn vs hh=>hh=h /\ ∃k:Nat,k+n=L.length /\ vs=[.int .i64 (k:Int)] /\ ∀y∈L.take k,zhw y s=true) L.length ?_ ⟨rfl,0,by simp,rfl,by simp⟩;rintro Y n vs h ⟨rfl,k,hk,rfl,hn⟩ hY;have fin:(∀y,L[k]?=some y->zhw y s=false)->zdz.k1 C N (dn Q) x (.str s) (.int .i64 (k:Int)) h:=λhle=>by
  have hput:=putT_at hn (by omega) hle;have new:L[k]? ≠some s->(B.pv (V.zjp 1 x none (some (.int .i64 (k:Int)))) λv37=>B.zjc h 1 16 .sz v37 λv38 h=>B.zha h (zeu [(0,none,.str s)] (zhu 1 [.str []])) λi41 h=>B.zjc h 1 16 v38 (.sl i41 0 0 1 1 1) λv42 h=>
    B.pv (V.zjp 1 x (some (.int .i64 (k:Int))) none) λv46=>B.zjc h 1 16 v42 v46 λv47 h=>dn Q v47 h):=λhne=>by
   rw[if_neg hne]at hput;obtain⟨y1,R1,e1,e2,_⟩:=hx.zqo (by omega) (lo:=0) (hi:=k) (a:=none) (b:=some (.int .i64 (k:Int))) (.inl ⟨rfl,rfl⟩) (.inr ⟨_,rfl⟩) (by omega) (by omega);rw[drop_zero]at e2;obtain⟨y2,R2,g1,g2,_⟩:=hx.zqo (by omega) (lo:=k) (hi:=L.length) (a:=some (.int .i64 (k:Int))) (b:=none) (.inr ⟨_,rfl⟩) (.inl ⟨rfl,rfl⟩) (by omega) (by omega);rw[take_length]at g2;simp -dsimp only[e1,B.ze];have tl:(L.take k).length <= 10000000:=by rw[length_take];omega
   have dl:(L.drop k).length <= 10000000:=by rw[length_drop];omega
   refine((zcy.start h).sz 1).zjc 0 rfl e2 (by omega) (by simp;omega) (by simp[maxLen];omega) λx1 h1 o1 _=>?_;have hf:zeu [(0,none,.str s)] (zhu 1 [.str []])=some [.str s]:=rfl;rw[hf];refine o1.push 0 rfl (cs:=[.str s]) rfl (by omega) (by simp;omega) (by simp[maxLen];omega) λx2 h2 o2 _=>?_;simp -dsimp only[g1,B.ze];refine o2.zjc 0 rfl (g2.mono o2.le) (by omega) (by simp;omega) (by simp[maxLen];omega) λx3 h3 o3 _=>?_;refine zbf (hq x3 h3 (.inr ?_));rw[hput];have this:zcy h h3 [.sl 1 x3 ((([]++(L.take k).map tc)++[[.str s]])++(L.drop k).map tc) []]:=o3;rw[nil_append,append_assoc]at this;rw[map_append,map_cons];exact this
  by_cases hkl:k<L.length
  ·obtain⟨a,ha⟩:=zg3 hkl
   have f1:V.zcp 1 x (.int .i64 (k:Int))=some (elp 1 x k 0):=hx.zmd (by rw[length_map];omega);have f2:A.ldv h (elp 1 x k 0)=some (.str a):=hx.cell (by rw[getElem?_map,ha];rfl);have c1:decide ((k:Int)<(L.length:Int))=true:=by simp;omega
   simp -dsimp only[zdz.k1,lx,V.zfi,c1,B.zgx,B.zbg,zq5,B.ze,f1,f2,B.zeo,V.zso,B.ze8];refine B.zbc (λhd=>?_) (λhd=>?_)
   ·have e:a=s:=of_decide_eq_true hd
    rw[if_pos (by rw[ha,e])]at hput;exact zbf (hq x h (.inl ⟨rfl,rfl,hput⟩))
   ·have e:a≠s:=of_decide_eq_false hd
    exact new (by rw[ha];exact λh=>e (Option.some.inj h))
  ·have c1:decide ((k:Int)<(L.length:Int))=false:=by simp;omega
   simp -dsimp[lx,hkl];exact new (by rw[getElem?_eq_none (by omega)];exact λh=>by cases h)
 simp -dsimp only[zdz.l3,zdz.k2,lx,V.zfi,B.ze];by_cases hkl:k<L.length
 ·obtain⟨a,ha⟩:=zg3 hkl
  have f1:V.zcp 1 x (.int .i64 (k:Int))=some (elp 1 x k 0):=hx.zmd (by rw[length_map];omega);have f2:A.ldv h (elp 1 x k 0)=some (.str a):=hx.cell (by rw[getElem?_map,ha];rfl);have c1:decide ((k:Int)<(L.length:Int))=true:=by simp;omega
  simp -dsimp only[c1,B.zgx,B.zbg,zq5,B.ze,f1,f2,B.zeo,V.bin_slss,B.ze8];refine B.zbc (λhd=>?_) (λhd=>?_)
  ·simp -dsimp only[zh3 (show k<4611686018427387904 by omega),B.ze]
   refine hY (L.length-(k+1)) _ _ (by omega) ⟨rfl,k+1,by omega,rfl,λy hy=>?_⟩;rw[take_succ ha,mem_append,mem_singleton]at hy;rcases hy with hy|hy
   ·exact hn y hy
   ·rw[hy];exact hd
  ·exact fin λy hy=>by rw[ha]at hy;cases hy;exact hd
 ·simp -dsimp[hkl,-zdz.k1]
  exact fin λy hy=>by rw[getElem?_eq_none (by omega)]at hy;cases hy
def zdw.Spec(C:z6)(N:zN):Prop:=∀(x:za)(L:List Int)(R:List (List za))(s:Int)(h:zb)(Q:zQ),SlX h 1 x (L.map icl) R->L.length <= 100000000->Q (.bool (decide (s∈L))) h->C (N 522) [x,.int .i64 s] h Q
theorem zdw.spec(i:zdw.Imp C N):zdw.Spec C N:=by
 intro x L R s h Q hx hl hq;apply i;have lx:=hx.zcj;rw[length_map]at lx;refine zq.intro (λn vs hh=>hh=h /\ ∃k:Nat,k+n=L.length /\ vs=[.int .i64 (k:Int)] /\ s∉L.take k) L.length ?_ ⟨rfl,0,by simp,rfl,by simp⟩;rintro Y n vs h ⟨rfl,k,hk,rfl,hn⟩ hY;simp -dsimp only[zdw.l2,zdw.k1,lx,V.zfi,B.ze];refine B.zbc (λhc=>?_) (λhc=>?_)
 ·rw[decide_eq_true_eq]at hc
  obtain⟨a,ha⟩:=zg3 (L:=L) (k:=k) (by omega);have f1:V.zcp 1 x (.int .i64 (k:Int))=some (elp 1 x k 0):=hx.zmd (by rw[length_map];omega);have f2:A.ldv h (elp 1 x k 0)=some (.int .i64 a):=hx.cell (by rw[getElem?_map,ha];rfl);simp -dsimp only[f1,f2,B.zeo,B.ze,V.zhr];refine B.zbc (λhd=>?_) (λhd=>?_)
  ·have e:a=s:=of_decide_eq_true hd
   have:s∈L:=by rw[<-e];exact mem_of_getElem? ha
   rw[decide_eq_true this]at hq;exact zbf hq
  ·have e:a≠s:=of_decide_eq_false hd
   simp -dsimp only[zh3 (show k<4611686018427387904 by omega),B.ze];refine hY (L.length-(k+1)) _ _ (by omega) ⟨rfl,k+1,by omega,rfl,?_⟩;rw[take_succ ha,mem_append,mem_singleton];rintro(h1|h1)
   ·exact hn h1
   ·exact e h1.symm
 ·rw[decide_eq_false_iff_not]at hc
  have:k=L.length:=by omega
  subst this;rw[take_length]at hn;rw[decide_eq_false hn]at hq;exact zbf hq
def zks:List Int->Int->List Int|[],n=>[n]|x::l,n=>if x<n then x::zks l n else if x=n then x::l else n::x::l
theorem zjv{n y:Int}:∀{l:List Int},y∈zks l n↔y=n \/ y∈l
 | []=>by simp[zks]
 | x::l=>by
  unfold zks
  split
  ·rw[mem_cons,zjv,mem_cons]
   constructor
   ·rintro(h|h|h)
    ·exact .inr (.inl h)
    ·exact .inl h
    ·exact .inr (.inr h)
   ·rintro(h|h|h)
    ·exact .inr (.inl h)
    ·exact .inl h
    ·exact .inr (.inr h)
  ·split
   ·rename_i h
    constructor
    ·exact .inr
    ·rintro(h1|h1)
     ·rw[h1,<-h];exact mem_cons_self ..
     ·exact h1
   ·rw[mem_cons]
theorem zno{n:Int}:∀{l:List Int},l.Pairwise (λa b=>a<b)->(zks l n).Pairwise (λa b=>a<b)
 | [],_=>pairwise_singleton _ _
 | x::l,h=>by
  obtain⟨h1,h2⟩:=pairwise_cons.1 h
  unfold zks
  split
  ·rename_i hx
   refine pairwise_cons.2 ⟨λy hy=>?_,zno h2⟩
   rcases zjv.1 hy with rfl|hy
   ·exact hx
   ·exact h1 y hy
  ·split
   ·exact h
   ·rename_i hx hne
    refine pairwise_cons.2 ⟨λy hy=>?_,h⟩
    rcases mem_cons.1 hy with rfl|hy
    ·omega
    ·have:=h1 y hy;omega
theorem zp1{n:Int}:∀{l:List Int},(zks l n).length <= l.length+1 /\ l.length <= (zks l n).length
 | []=>⟨Nat.le_refl _,Nat.zero_le _⟩
 | x::l=>by
  have:=zp1 (n:=n) (l:=l)
  unfold zks
  repeat' split
  all_goals simp only[length_cons]<;>omega
theorem zut{n:Int}:∀{l:List Int},(zks l n).length=l.length->zks l n=l
 | [],h=>by simp[zks]at h
 | x::l,h=>by
  unfold zks at h ⊢
  split
  ·rename_i hx
   rw[if_pos hx]at h
   rw[zut (l:=l) (by simpa using h)]
  ·rename_i hx
   rw[if_neg hx]at h
   split
   ·rfl
   ·rename_i hne
    rw[if_neg hne]at h
    simp at h
theorem riseI_at{s:Int}:∀{L:List Int}{k:Nat},(∀x∈L.take k,x<s)->k <= L.length->(∀x,L[k]?=some x->¬ x<s)->zks L s=if L[k]?=some s then L else L.take k++s::L.drop k
 | [],0,_,_,_=>rfl
 | [],k+1,_,h,_=>by simp at h
 | x::l,0,_,_,h=>by
  have:=h x rfl
  unfold zks
  rw[if_neg this]
  by_cases e:x=s
  ·rw[if_pos e,if_pos (by rw[e];rfl)]
  ·have h0:¬ (x::l)[0]?=some s:=λh=>e (Option.some.inj h)
   rw[if_neg e,if_neg h0];rfl
 | x::l,k+1,h1,h2,h3=>by
  have hx:=h1 x (by simp)
  unfold zks
  rw[if_pos hx,riseI_at (k:=k) (λy hy=>h1 y (by simp[hy])) (by simpa using h2) (λy hy=>h3 y hy)]
  by_cases e:l[k]?=some s
  ·rw[if_pos e,if_pos (by exact e)]
  ·rw[if_neg e,if_neg (by exact e)];rfl
def zb6.Spec(C:z6)(N:zN):Prop:=∀(x:za)(L:List Int)(R:List (List za))(s:Int)(h:zb)(Q:zQ),SlX h 1 x (L.map icl) R->L.length <= 10000000->(∀x' h',(x'=x /\ h'=h /\ zks L s=L \/ zcy h h' [.sl 1 x' ((zks L s).map icl) []])->Q x' h')->C (N 520) [x,.int .i64 s] h Q
def zb6.Rd(C:z6)(N:zN):Prop:=∀(x:za)(L:List Int)(R:List (List za))(s:Int)(h:zb)(Q:zQ),SlX h 1 x (L.map icl) R->L.length <= 10000000->(∀x' h' R',h.le h'->SlX h' 1 x' ((zks L s).map icl) R'->Q x' h')->C (N 520) [x,.int .i64 s] h Q
theorem zb6.Spec.rd(s:zb6.Spec C N):zb6.Rd C N:=λx L R k h Q hx hl hq=>s x L R k h Q hx hl λx' h' hh=>by
 rcases hh with⟨rfl,rfl,e⟩|o
 ·exact hq _ _ R (zb.le_refl _) (by rw[e];exact hx)
 ·exact hq _ _ [] o.le (o.zhs 0 rfl)
theorem zb6.spec(i:zb6.Imp C N):zb6.Spec C N:=by
 intro x L R s h Q hx hl hq;apply i;have lx:=hx.zcj;rw[length_map]at lx;refine zq.intro (λn vs hh=>hh=h /\ ∃k:Nat,k+n=L.length /\ vs=[.int .i64 (k:Int)] /\ ∀y∈L.take k,y<s) L.length ?_ ⟨rfl,0,by simp,rfl,by simp⟩;rintro Y n vs h ⟨rfl,k,hk,rfl,hn⟩ hY;have fin:(∀y,L[k]?=some y->¬ y<s)->zb6.k1 C N (dn Q) x (.int .i64 s) (.int .i64 (k:Int)) h:=λhle=>by
  have hput:=riseI_at hn (by omega) hle;have new:L[k]? ≠some s->(B.pv (V.zjp 1 x none (some (.int .i64 (k:Int)))) λv37=>B.zjc h 1 8 .sz v37 λv38 h=>B.zha h (zeu [(0,none,.int .i64 s)] (zhu 1 [.int .i64 0])) λi41 h=>B.zjc h 1 8 v38 (.sl i41 0 0 1 1 1) λv42 h=>
    B.pv (V.zjp 1 x (some (.int .i64 (k:Int))) none) λv46=>B.zjc h 1 8 v42 v46 λv47 h=>dn Q v47 h):=λhne=>by
   rw[if_neg hne]at hput;obtain⟨y1,R1,e1,e2,_⟩:=hx.zqo (by omega) (lo:=0) (hi:=k) (a:=none) (b:=some (.int .i64 (k:Int))) (.inl ⟨rfl,rfl⟩) (.inr ⟨_,rfl⟩) (by omega) (by omega);rw[drop_zero]at e2;obtain⟨y2,R2,g1,g2,_⟩:=hx.zqo (by omega) (lo:=k) (hi:=L.length) (a:=some (.int .i64 (k:Int))) (b:=none) (.inr ⟨_,rfl⟩) (.inl ⟨rfl,rfl⟩) (by omega) (by omega);rw[take_length]at g2;simp -dsimp only[e1,B.ze];have tl:(L.take k).length <= 10000000:=by rw[length_take];omega
   have dl:(L.drop k).length <= 10000000:=by rw[length_drop];omega
   refine((zcy.start h).sz 1).zjc 0 rfl e2 (by omega) (by simp;omega) (by simp[maxLen];omega) λx1 h1 o1 _=>?_;have hf:zeu [(0,none,.int .i64 s)] (zhu 1 [.int .i64 0])=some [.int .i64 s]:=rfl;rw[hf];refine o1.push 0 rfl (cs:=[.int .i64 s]) rfl (by omega) (by simp;omega) (by simp[maxLen];omega) λx2 h2 o2 _=>?_;simp -dsimp only[g1,B.ze];refine o2.zjc 0 rfl (g2.mono o2.le) (by omega) (by simp;omega) (by simp[maxLen];omega) λx3 h3 o3 _=>?_;refine zbf (hq x3 h3 (.inr ?_));rw[hput];have this:zcy h h3 [.sl 1 x3 ((([]++(L.take k).map icl)++[[.int .i64 s]])++(L.drop k).map icl) []]:=o3;rw[nil_append,append_assoc]at this;rw[map_append,map_cons];exact this
  by_cases hkl:k<L.length
  ·obtain⟨a,ha⟩:=zg3 hkl
   have f1:V.zcp 1 x (.int .i64 (k:Int))=some (elp 1 x k 0):=hx.zmd (by rw[length_map];omega);have f2:A.ldv h (elp 1 x k 0)=some (.int .i64 a):=hx.cell (by rw[getElem?_map,ha];rfl);have c1:decide ((k:Int)<(L.length:Int))=true:=by simp;omega
   simp -dsimp only[zb6.k1,lx,V.zfi,c1,B.zgx,B.zbg,zq5,B.ze,f1,f2,B.zeo,V.zhr,B.ze8];refine B.zbc (λhd=>?_) (λhd=>?_)
   ·have e:a=s:=of_decide_eq_true hd
    rw[if_pos (by rw[ha,e])]at hput;exact zbf (hq x h (.inl ⟨rfl,rfl,hput⟩))
   ·have e:a≠s:=of_decide_eq_false hd
    exact new (by rw[ha];exact λh=>e (Option.some.inj h))
  ·have c1:decide ((k:Int)<(L.length:Int))=false:=by simp;omega
   simp -dsimp[lx,hkl];exact new (by rw[getElem?_eq_none (by omega)];exact λh=>by cases h)
 simp -dsimp only[zb6.l3,zb6.k2,lx,V.zfi,B.ze];by_cases hkl:k<L.length
 ·obtain⟨a,ha⟩:=zg3 hkl
  have f1:V.zcp 1 x (.int .i64 (k:Int))=some (elp 1 x k 0):=hx.zmd (by rw[length_map];omega);have f2:A.ldv h (elp 1 x k 0)=some (.int .i64 a):=hx.cell (by rw[getElem?_map,ha];rfl);have c1:decide ((k:Int)<(L.length:Int))=true:=by simp;omega
  simp -dsimp only[c1,B.zgx,B.zbg,zq5,B.ze,f1,f2,B.zeo,V.zfi,B.ze8];refine B.zbc (λhd=>?_) (λhd=>?_)
  ·simp -dsimp only[zh3 (show k<4611686018427387904 by omega),B.ze]
   refine hY (L.length-(k+1)) _ _ (by omega) ⟨rfl,k+1,by omega,rfl,λy hy=>?_⟩;rw[take_succ ha,mem_append,mem_singleton]at hy;rcases hy with hy|hy
   ·exact hn y hy
   ·rw[hy];exact of_decide_eq_true hd
  ·exact fin λy hy=>by rw[ha]at hy;cases hy;exact of_decide_eq_false hd
 ·simp -dsimp[hkl,-zb6.k1]
  exact fin λy hy=>by rw[getElem?_eq_none (by omega)]at hy;cases hy
def zde.Spec(C:z6)(N:zN):Prop:=∀(x y:za)(L M:List Key)(R S:List (List za))(h:zb)(Q:zQ),SlX h 1 x (L.map tc) R->SlX h 1 y (M.map tc) S->L.length <= 10000000->M.length <= 10000000->Q (.bool (zlr L M)) h->C (N 527) [x,y] h Q
theorem zde.spec(i:zde.Imp C N)(s1:zef.Spec C N):zde.Spec C N:=by
 intro x y L M R S h Q hx hy hl hm hq;apply i;have lx:=hx.zcj;have ly:=hy.zcj;rw[length_map]at lx ly;cases L with
 | nil=>
  have e:V.bin .eql (.int .i64 ((([]:List Key).length:Nat):Int)) (.int .i64 0)=some (.bool true):=rfl;simp -dsimp only[zde.cps,zde.k4,lx,e,B.ze,B.zgx,Bool.not_true,B.zbg,B.zgl,B.ze8,B.cond_true,B.zqj]
  first|exact zbf hq|(simpa -dsimp using zbf hq)
 | cons a L=>
 have e1:V.bin .eql (.int .i64 (((a::L).length:Nat):Int)) (.int .i64 0)=some (.bool false):=by rw[eql0N];rfl
 simp -dsimp only[zde.cps,zde.k4,lx,e1,B.ze,B.zqj,Bool.not_false,B.zbg];cases M with
 | nil=>
  have e:V.bin .eql (.int .i64 ((([]:List Key).length:Nat):Int)) (.int .i64 0)=some (.bool true):=rfl;have em:zlr (a::L) []=false:=by rw[zq0];rfl
  rw[em]at hq;simp -dsimp only[ly,e,B.ze,B.zqj,Bool.not_false,B.zbg,B.zhc,B.cond_true];exact zbf hq
 | cons b M=>
 have e2:V.bin .eql (.int .i64 (((b::M).length:Nat):Int)) (.int .i64 0)=some (.bool false):=by rw[eql0N];rfl
 simp -dsimp only[ly,e2,B.ze,B.zqj,Bool.not_false,B.zbg,B.zhc,B.cond_false,zde.k3];generalize hLL:a::L=LL at *;generalize hMM:b::M=MM at *;refine s1 _ _ _ _ _ _ hx (by omega) ?_;by_cases c1:[42]∈LL
 ·have em:zlr LL MM=true:=zi4.2 ⟨_,c1,b,by rw[<-hMM];simp,.inl rfl⟩
  rw[em]at hq;simp -dsimp only[c1,decide_true,B.zgx,B.zqj,Bool.not_true,B.zbg,B.zgl,B.ze8,B.cond_true]
  first|exact zbf hq|(simpa -dsimp using zbf hq)
 simp -dsimp only[c1,decide_false,B.zqj,Bool.not_false,B.zbg];refine s1 _ _ _ _ _ _ hy (by omega) ?_;by_cases c2:[42]∈MM
 ·have em:zlr LL MM=true:=zi4.2 ⟨a,by rw[<-hLL];simp,_,c2,.inr (.inl rfl)⟩
  rw[em]at hq;simp -dsimp only[c1,decide_false,c2,decide_true,B.zqj,Bool.not_false,B.zbg,B.zhc,B.cond_true];exact zbf hq
 simp -dsimp only[c1,c2,decide_false,B.zqj,Bool.not_false,B.zbg,B.zhc,B.cond_false];refine zq.intro (λt vs hh=>hh=h /\ ∃j:Nat,j+t=LL.length /\ vs=[.int .i64 (j:Int)] /\ ∀a∈LL.take j,a∉MM) LL.length ?_ ⟨rfl,0,by omega,rfl,by simp⟩;rintro Y t vs hh ⟨rfl,j,hjt,rfl,hno⟩ hY;simp -dsimp only[zde.l2,zde.k1,lx,B.ze,zr3];refine B.zbc (λhc=>?_) (λhc=>?_)
 ·have hj:j<LL.length:=of_decide_eq_true hc
  obtain⟨w,hw⟩:=zg3 hj;have i1:V.zcp 1 x (.int .i64 (j:Int))=some (elp 1 x j 0):=hx.zmd (by simpa using hj);have f1:A.ldv hh (elp 1 x j 0)=some (.str w):=hx.cell (by rw[getElem?_map,hw];rfl);simp -dsimp only[i1,f1,B.zeo,B.ze];refine s1 _ _ _ _ _ _ hy (by omega) ?_;refine B.zbc (λhd=>?_) (λhd=>?_)
  ·have em:zlr LL MM=true:=zi4.2 ⟨w,mem_of_getElem? hw,w,of_decide_eq_true hd,.inr (.inr rfl)⟩
   rw[em]at hq;exact zbf hq
  ·simp -dsimp only[zh3 (show j<4611686018427387904 by omega),B.ze]
   refine hY (t-1) _ _ (by omega) ⟨rfl,j+1,by omega,rfl,λy hy=>?_⟩;rw[take_succ hw,mem_append,mem_singleton]at hy;rcases hy with hy|hy
   ·exact hno y hy
   ·rw[hy];exact of_decide_eq_false hd
 ·have hj:j=LL.length:=by have:=of_decide_eq_false hc;omega
  rw[hj,take_length]at hno;have em:zlr LL MM=false:=by
   cases hm:zlr LL MM with
   | false=>rfl
   | true=>
    obtain⟨u,hu,v,hv,h⟩:=zi4.1 hm;rcases h with rfl|rfl|rfl
    ·exact absurd hu c1
    ·exact absurd hv c2
    ·exact absurd hv (hno _ hu)
  rw[em]at hq;exact zbf hq
variable{C:z6}{N:zN}
def zn0:DK DW (za×za) where
 n:=4
 bytes:=64
 z:=[.int .i64 0,.zdo,.zdo,.int .i64 0]
 pos:=by omega
 small:=by omega
 zlen:=rfl
 cells t a:=[.int .i64 t.Id,a.1,a.2,.int .i64 t.zkq]
 len _ _:=rfl
 at_ h t a:=(∃R,SlX h 1 a.1 (t.zff.map tc) R) /\ (∃R,SlX h 1 a.2 (t.zga.map tc) R)
 mono hle ha:=⟨ha.1.imp λ_ r=>r.mono hle,ha.2.imp λ_ r=>r.mono hle⟩
 ok _:=True
 at_ok _:=trivial
 obs b t a:=[zql b a.1 t.zff,zql b a.2 t.zga]
 ofObs {b h t a} _ ha:=⟨⟨_,show SlX h 1 a.1 (t.zff.map tc) (bif b then zho else []) from ha (zql b a.1 t.zff) (by simp)⟩,⟨_,show SlX h 1 a.2 (t.zga.map tc) (bif b then zho else []) from ha (zql b a.2 t.zga) (by simp)⟩⟩
structure DocR(h:zb)(r:Nat)(x:za)(d:DL):Prop where
 l:A.ldv h (.ptr r 0 0)=some x
 last:A.ldv h (.ptr r 0 1)=some (.int .i64 d.zji)
 zh4:Dl zn0 h x d.L
theorem DocR.mono{h h':zb}{r:Nat}{x:za}{d:DL}(hd:DocR h r x d)(hle:h.le h'):DocR h' r x d:=⟨ztk hle hd.l,ztk hle hd.last,hd.zh4.mono hle⟩
structure DocE(h:zb)(x:za)(i:Nat)(w:DW)(p o:za):Prop where
 idx:V.zcp 4 x (.int .i64 (i:Int))=some (elp 4 x i 0)
 f0:V.fieldAddr 0 (elp 4 x i 0)=some (elp 4 x i 0)
 f1:V.fieldAddr 1 (elp 4 x i 0)=some (elp 4 x i 1)
 f2:V.fieldAddr 2 (elp 4 x i 0)=some (elp 4 x i 2)
 f3:V.fieldAddr 3 (elp 4 x i 0)=some (elp 4 x i 3)
 l0:A.ldv h (elp 4 x i 0)=some (.int .i64 w.Id)
 l1:A.ldv h (elp 4 x i 1)=some p
 l2:A.ldv h (elp 4 x i 2)=some o
 l3:A.ldv h (elp 4 x i 3)=some (.int .i64 w.zkq)
 ldn:A.znu h (elp 4 x i 0) 4=some (.agg (zn0.cells w (p,o)))
 held:∃R,SlX h 1 p (w.zff.map tc) R
 zf5:∃R,SlX h 1 o (w.zga.map tc) R
theorem DocR.get{h:zb}{r:Nat}{x:za}{d:DL}(hd:DocR h r x d){i:Nat}{w:DW}(hw:d.L[i]?=some w):∃p o,DocE h x i w p o:=by
 obtain⟨a,ea⟩:=hd.zh4.get hw;obtain⟨k1,k2⟩:(∃R,SlX h 1 a.1 (w.zff.map tc) R) /\ (∃R,SlX h 1 a.2 (w.zga.map tc) R):=ea.at_;exact⟨a.1,a.2,ea.idx,ea.fld 0 0,ea.fld 0 1,ea.fld 0 2,ea.fld 0 3,ea.ld 0 (by decide),ea.ld 1 (by decide),ea.ld 2 (by decide),ea.ld 3 (by decide),ea.ldn,k1,k2⟩
theorem ztu{k:Int}:∀{L:List DW},(∀o∈L,o.Id≠k)->findD L k=none /\ (∀w,znm L k w=L++[w]) /\ delD L k=L
 | [],_=>⟨rfl,λ_=>rfl,rfl⟩
 | q::L,h=>by
  obtain⟨h1,h2,h3⟩:=ztu (L:=L) λo ho=>h o (mem_cons_of_mem _ ho)
  have h0:=h q (mem_cons_self ..)
  refine⟨by unfold findD;rw[if_neg h0,h1],λw=>?_,by unfold delD;rw[if_neg h0,h3]⟩
  unfold znm
  rw[if_neg h0,h2 w];rfl
theorem ztv{k:Int}{w:DW}:∀{L:List DW}{j:Nat},(∀o∈L.take j,o.Id≠k)->L[j]?=some w->w.Id=k->findD L k=some w /\ (∀v,znm L k v=L.set j v) /\ delD L k=L.take j++L.drop (j+1)
 | [],j,_,h,_=>by simp at h
 | q::L,0,_,h,e=>by
  cases h
  refine⟨by unfold findD;rw[if_pos e],λv=>by unfold znm;rw[if_pos e];rfl,by unfold delD;rw[if_pos e];rfl⟩
 | q::L,j+1,h1,h2,e=>by
  have h0:=h1 q (by simp)
  obtain⟨g1,g2,g3⟩:=ztv (L:=L) (j:=j) (λo ho=>h1 o (by simp[ho])) h2 e
  refine⟨by unfold findD;rw[if_neg h0,g1],λv=>by unfold znm;rw[if_neg h0,g2 v];rfl,by unfold delD;rw[if_neg h0,g3];rfl⟩
def zbu.Spec(C:z6)(N:zN):Prop:=∀(h:zb)(r:Nat)(x:za)(d:DL)(k:Int)(Q:zQ),DocR h r x d->d.L.length <= 1000000->(∀(j:Nat)(w:DW),(∀o∈d.L.take j,o.Id≠k)->d.L[j]?=some w->w.Id=k->Q (.int .i64 (j:Int)) h)->((∀o∈d.L,o.Id≠k)->Q (.int .i64 (-1)) h)->C (N 516) [.ptr r 0 0,.int .i64 k] h Q
theorem zbu.spec(i:zbu.Imp C N):zbu.Spec C N:=by
 intro h r x d k Q hd hl h1 h2;apply i;refine zq.intro (λt vs hh=>hh=h /\ ∃j:Nat,j+t=d.L.length /\ vs=[.int .i64 (j:Int)] /\ ∀o∈d.L.take j,o.Id≠k) d.L.length ?_ ⟨rfl,0,by omega,rfl,by simp⟩;rintro Y t vs hh ⟨rfl,j,hjt,rfl,hno⟩ hY;simp -dsimp only[zbu.l2,zbu.k1,B.zb9,V.zei,Nat.zero_add,B.ze,B.zeo,hd.l,hd.zh4.zcj,zr3];by_cases hj:j<d.L.length
 ·obtain⟨w,hw⟩:=zg3 hj
  obtain⟨p,o,ew⟩:=hd.get hw;simp -dsimp only[hj,decide_true,B.cond_true,B.zb9,V.zei,Nat.zero_add,hd.l,ew.idx,ew.f0,ew.l0,B.zeo,B.ze,V.zhr];refine B.zbc (λhc=>?_) (λhc=>?_)
  ·exact zbf (h1 j w hno hw (of_decide_eq_true hc))
  ·simp -dsimp only[zh3 (show j<4611686018427387904 by omega),B.ze]
   refine hY (t-1) _ _ (by omega) ⟨rfl,j+1,by omega,rfl,λq hq=>?_⟩;rw[take_succ hw,mem_append,mem_singleton]at hq;rcases hq with hq|hq
   ·exact hno q hq
   ·rw[hq];exact of_decide_eq_false hc
 ·simp -dsimp only[hj,decide_false,B.cond_false]
  refine zbf (h2 ?_);have:j=d.L.length:=by omega
  rw[this,take_length]at hno;exact hno
def zd7.Spec(C:z6)(N:zN):Prop:=∀(w:DW)(p o y:za)(M:List Key)(R1 R2 S:List (List za))(zh9:Int)(h:zb)(Q:zQ),SlX h 1 p (w.zff.map tc) R1->SlX h 1 o (w.zga.map tc) R2->SlX h 1 y (M.map tc) S->w.zff.length <= 1000000->w.zga.length <= 1000000->M.length <= 1000000->Q (.bool (zj2 w M zh9)) h->C (N 518) [.agg (zn0.cells w (p,o)),y,.int .i64 zh9] h Q
theorem zd7.spec(i:zd7.Imp C N)(s1:zde.Spec C N):zd7.Spec C N:=by
 intro w p o y M R1 R2 S zh9 h Q hp ho hy l1 l2 l3 hq;apply i;have eb:A.boxN 4 (.agg (zn0.cells w (p,o)))=some (.agg (zn0.cells w (p,o))):=by rw[boxN_agg];rfl
 have g1:V.zf6 1 (.agg (zn0.cells w (p,o)))=some p:=rfl;have g2:V.zf6 2 (.agg (zn0.cells w (p,o)))=some o:=rfl;have g3:V.zf6 3 (.agg (zn0.cells w (p,o)))=some (.int .i64 w.zkq):=rfl;simp -dsimp only[zd7.cps,zd7.k1,eb,B.ze,B.zk6,g1];refine s1 _ _ _ _ _ _ _ _ hp hy (by omega) (by omega) ?_;unfold zj2 at hq;cases b1:zlr w.zff M with
 | true=>
  rw[b1]at hq;simpa -dsimp[B.zk6]using zbf hq
 | false=>
 rw[b1,Bool.false_or]at hq;simp -dsimp only[B.zk6,B.zqj,Bool.not_false,B.zbg,g3,V.zpn,B.ze];by_cases b2:0<w.zkq
 rotate_left
 ·rw[decide_eq_false b2,Bool.false_and]at hq
  simpa -dsimp[B.zk6,b2]using zbf hq
 rw[decide_eq_true b2,Bool.true_and]at hq;simp -dsimp only[b2,decide_true,B.zk6,B.zgx,B.zbg,g3,V.zfi,B.ze,B.ze8,B.zqj,Bool.not_false];by_cases b3:w.zkq<zh9
 rotate_left
 ·rw[decide_eq_false b3,Bool.false_and]at hq
  simpa -dsimp[B.zk6,b3]using zbf hq
 rw[decide_eq_true b3,Bool.true_and]at hq;simp -dsimp only[b3,decide_true,B.zk6,B.zgx,B.zbg,g2,B.ze,B.ze8,B.zqj,Bool.not_false];refine s1 _ _ _ _ _ _ _ _ ho hy (by omega) (by omega) ?_;simpa -dsimp[B.zk6,b3]using zbf hq
def zco.Spec(C:z6)(N:zN):Prop:=∀(h:zb)(r:Nat)(x:za)(d:DL)(k:Int)(Q:zQ),DocR h r x d->d.L.length <= 1000000->(zh2 d k).length <= 1000000->(∀(x':za)(h':zb)(R':List (List za)),h.le h'->SlX h' 1 x' ((zh2 d k).map tc) R'->Q x' h')->C (N 502) [.ptr r 0 0,.int .i64 k] h Q
theorem zco.spec(i:zco.Imp C N)(s1:zbu.Spec C N):zco.Spec C N:=by
 intro h r x d k Q hd hl hh hq;apply i;simp -dsimp only[zco.cps,zco.k1];refine s1 h r x d k _ hd hl (λj w hno hw hk=>?_) (λhno=>?_)
 ·have e0:V.bin .lss (.int .i64 (j:Int)) (.int .i64 0)=some (.bool false):=by rw[V.zfi,decide_eq_false (by omega)]
  obtain⟨p,o,ew⟩:=hd.get hw;obtain⟨R,eh⟩:=ew.held;have e1:zh2 d k=w.zff:=by unfold zh2;rw[(ztv hno hw hk).1]
  rw[e1]at hh hq;have fa:V.fieldAddr 0 (.ptr r 0 0)=some (.ptr r 0 0):=rfl;simp -dsimp only[e0,B.ze,B.cond_false,B.zb9,fa,B.zeo,hd.l,ew.idx,ew.f1,ew.l1];refine((zcy.start h).sz 1).zjc 0 rfl eh (by omega) (by first|omega|(simp;done)|(simp;omega)) (by first|(simp[maxLen];done)|(simp[maxLen];omega)) λx1 h1 o1 _=>?_;have this:zcy h h1 [.sl 1 x1 ([]++w.zff.map tc) []]:=o1;rw[nil_append]at this;exact zbf (hq x1 h1 [] this.le (this.zhs 0 rfl))
 ·have e0:V.bin .lss (.int .i64 (-1)) (.int .i64 0)=some (.bool true):=rfl
  have e1:zh2 d k=[]:=by unfold zh2;rw[(ztu hno).1]
  simp -dsimp only[e0,B.ze,B.cond_true];rw[e1]at hq;exact zbf (hq _ _ [] (zb.le_refl _) (SlX.zdo h 1))
theorem get_pos{d:DL}(hg:zje d){i j:Nat}{v w:DW}(hv:d.L[i]?=some v)(hw:d.L[j]?=some w):v.Id=w.Id↔i=j:=by
 constructor
 ·intro e
  have h1:(d.L.map (·.Id))[i]?=some v.Id:=by rw[getElem?_map,hv];rfl
  have h2:(d.L.map (·.Id))[j]?=some w.Id:=by rw[getElem?_map,hw];rfl
  rw[e]at h1;obtain⟨a1,a2⟩:=List.getElem?_eq_some_iff.1 h1;obtain⟨b1,b2⟩:=List.getElem?_eq_some_iff.1 h2;rcases Nat.lt_trichotomy i j with h|h|h
  ·exact absurd (a2.trans b2.symm) (pairwise_iff_getElem.1 hg.ids i j a1 b1 h)
  ·exact h
  ·exact absurd (b2.trans a2.symm) (pairwise_iff_getElem.1 hg.ids j i b1 a1 h)
 ·rintro rfl
  rw[hv]at hw;cases hw;rfl
theorem waits_rise{d:DL}(hg:zje d){k:Int}{w:DW}(hw:findD d.L k=some w)(ht:¬ w.zkq=0){out:List Int}(h1:out.Pairwise (λa b=>a<b))(h2:∀x,x∈out↔x∈zgh d k w.zga w.zkq):out=ze7 d k:=by
 unfold ze7;rw[hw];simp only;rw[if_neg ht];have hn:(zgh d k w.zga w.zkq).Nodup:=hg.ids.sublist ((filter_sublist ..).map _);have hs:(zi0 (zgh d k w.zga w.zkq)).Nodup:=(zgq _).symm.nodup hn;refine zqq h1 (((zjt _).and hs).imp λ{a b} hab=>by obtain⟨h3,h4⟩:=hab;omega) λx=>?_;rw[h2,(zgq _).mem_iff]
theorem zsr(d:DL)(k:Int):(ze7 d k).length <= d.L.length:=by
 unfold ze7;cases findD d.L k with
 | none=>simp
 | some w=>
  simp only;split
  ·simp
  ·rw[(zgq _).length_eq]
   unfold zgh;rw[length_map];exact length_filter_le ..
inductive Via(d:DL)(a:Int):Int->Prop
 | one {b:Int}:b∈ze7 d a->Via d a b
 | more {b c:Int}:Via d a b->c∈ze7 d b->Via d a c
theorem via_eq{s:Lk}{d:DL}(hr:Rel s d)(hk:s.Ok){a b:Int}:Via d a b↔Reach s a b:=by
 constructor
 ·intro h
  induction h with
  | one h=>exact .one (by rw[ziy hr hk];exact h)
  | more _ h ih=>exact .more ih (by rw[ziy hr hk];exact h)
 ·intro h
  induction h with
  | one h=>exact .one (by rw[<-ziy hr hk];exact h)
  | more _ h ih=>exact .more ih (by rw[<-ziy hr hk];exact h)
theorem waits_ids{d:DL}{a b:Int}(h:b∈ze7 d a):b∈d.L.map (·.Id):=by
 unfold ze7 at h;cases e:findD d.L a with
 | none=>rw[e]at h;cases h
 | some w=>
  rw[e]at h;simp only at h;split at h
  ·cases h
  ·have:=(zgq _).mem_iff.1 h
   obtain⟨o,ho,rfl⟩:=mem_map.1 this;exact mem_map.2 ⟨o,(mem_filter.1 ho).1,rfl⟩
theorem zqk{d:DL}{a b:Int}(h:Via d a b):b∈d.L.map (·.Id):=by
 cases h with
 | one h=>exact waits_ids h
 | more _ h=>exact waits_ids h
theorem znn{out ids:List Int}(h1:out.Pairwise (λa b=>a<b))(h2:∀x∈out,x∈ids):out.length <= ids.length:=List.Nodup.length_le_of_subset (h1.imp λ{a b} hab e=>by omega) h2
theorem waits_rising{d:DL}(hg:zje d)(k:Int):(ze7 d k).Pairwise (λa b=>a<b):=by
 unfold ze7;cases e:findD d.L k with
 | none=>exact .nil
 | some w=>
  simp only;split
  ·exact .nil
  ·have hn:(zgh d k w.zga w.zkq).Nodup:=hg.ids.sublist ((filter_sublist ..).map _)
   have hs:(zi0 (zgh d k w.zga w.zkq)).Nodup:=(zgq _).symm.nodup hn;exact((zjt _).and hs).imp λ{a b} hab=>by obtain⟨h3,h4⟩:=hab;omega
def RoundD(d:DL)(L:List Int):Prop:=(L=[] /\ ∀w∈d.L.map (·.Id),¬ Via d w w) \/ ∃w∈d.L.map (·.Id),Via d w w /\ (∀v∈d.L.map (·.Id),v<w->¬ Via d v v) /\ L.Pairwise (λa b=>a<b) /\ ∀o,o∈L↔Via d w o /\ Via d o w
theorem zp0{s:Lk}{d:DL}(hr:Rel s d)(hk:s.Ok){L:List Int}(h:RoundIs s L):RoundD d L:=by
 have e:∀w,w∈zck s.W↔w∈d.L.map (·.Id):=λw=>by rw[<-hr.zh4.ids]
 rcases h with⟨h1,h2⟩|⟨w,h1,h2,h3,h4,h5⟩
 ·exact .inl ⟨h1,λw hw hv=>h2 w ((e w).2 hw) ((via_eq hr hk).1 hv)⟩
 ·exact .inr ⟨w,(e w).1 h1,(via_eq hr hk).2 h2,λv hv hvw hvv=>h3 v ((e v).2 hv) hvw ((via_eq hr hk).1 hvv),h4,λo=>by rw[h5,via_eq hr hk,via_eq hr hk]⟩
theorem zur{d:DL}{L M:List Int}(h:RoundD d L)(g:RoundD d M):L=M:=by
 rcases h with⟨h1,h2⟩|⟨w,h1,h2,h3,h4,h5⟩
 ·rcases g with⟨g1,_⟩|⟨v,g1,g2,_⟩
  ·rw[h1,g1]
  ·exact absurd g2 (h2 v g1)
 ·rcases g with⟨_,g2⟩|⟨v,g1,g2,g3,g4,g5⟩
  ·exact absurd h2 (g2 w h1)
  ·have e:w=v:=by
    rcases Int.lt_trichotomy w v with h|h|h
    ·exact absurd h2 (g3 w h1 h)
    ·exact h
    ·exact absurd g2 (h3 v g1 h)
   subst e;exact zqq h4 g4 λx=>by rw[h5,g5]
theorem zus{d:DL}{L:List Int}(h:RoundD d L):L.length <= d.L.length:=by
 rcases h with⟨h1,_⟩|⟨w,h1,h2,h3,h4,h5⟩
 ·rw[h1];exact Nat.zero_le _
 ·rw[<-length_map (λw:DW=>w.Id)]
  exact znn h4 λz hz=>zqk ((h5 z).1 hz).1
variable{C:z6}{N:zN}
theorem neqNN{a b:Nat}:V.bin .neq (.int .i64 (a:Int)) (.int .i64 (b:Int))=some (.bool (decide (a≠b))):=by
 rw[V.bin_neq];congr 2;rw[Bool.eq_iff_iff];simp;omega
structure Fit(d:DL):Prop where
 zrs:zje d
 len:d.L.length <= 100000
 small:znk d 100000
theorem Fit.get{d:DL}(hf:Fit d){i:Nat}{w:DW}(hw:d.L[i]?=some w):w.zff.length <= 100000 /\ w.zga.length <= 100000:=by
 have:=hf.small w (mem_of_getElem? hw);omega
def zbd.Spec(C:z6)(N:zN):Prop:=∀(h:zb)(r:Nat)(x:za)(d:DL)(k:Int)(Q:zQ),DocR h r x d->Fit d->(∀(x':za)(h':zb)(R':List (List za)),h.le h'->SlX h' 1 x' ((ze7 d k).map icl) R'->Q x' h')->C (N 503) [.ptr r 0 0,.int .i64 k] h Q
theorem zbd.spec(i:zbd.Imp C N)(s1:zbu.Spec C N)(s2:zd7.Spec C N)(s3:zb6.Spec C N):zbd.Spec C N:=by
 intro h r x d k Q hd hf hq;have hl:=hf.len;apply i;simp -dsimp only[zbd.cps];refine s1 h r x d k _ hd (by omega) (λj w hno hw hk=>?_) (λhno=>?_)
 rotate_left
 ·have e0:V.bin .lss (.int .i64 (-1)) (.int .i64 0)=some (.bool true):=rfl
  have e1:ze7 d k=[]:=by unfold ze7;rw[(ztu hno).1]
  rw[e1]at hq;simp -dsimp only[zbd.k3,e0,B.ze];simpa -dsimp using zbf (hq _ _ [] (zb.le_refl _) (SlX.zdo h 1))
 have e0:V.bin .lss (.int .i64 (j:Int)) (.int .i64 0)=some (.bool false):=by rw[V.zfi,decide_eq_false (by omega)]
 have hfd:=(ztv hno hw hk).1;obtain⟨p,o,ew⟩:=hd.get hw;simp -dsimp only[zbd.k3,e0,B.ze,B.zqj,Bool.not_false,B.zbg,B.zb9,V.zei,Nat.zero_add,B.zeo,hd.l,ew.idx,ew.f3,ew.l3,V.zhr,B.zhc];refine B.zbc (λht=>?_) (λht=>?_)
 ·have ht:=of_decide_eq_true ht
  have e1:ze7 d k=[]:=by unfold ze7;rw[hfd];exact if_pos ht
  rw[e1]at hq;exact zbf (hq _ _ [] (zb.le_refl _) (SlX.zdo h 1))
 have ht:=of_decide_eq_false ht;refine zq.intro (λt vs hh=>∃(q:Nat)(y:za)(out:List Int)(R:List (List za)),q+t=d.L.length /\ vs=[y,.int .i64 (q:Int)] /\ h.le hh /\ SlX hh 1 y (out.map icl) R /\ out.Pairwise (λa b=>a<b) /\ out.length <= q /\
  ∀z,z∈out↔z∈((d.L.take q).filter λo=>decide (o.Id≠k)&&zj2 o w.zga w.zkq).map (·.Id)) d.L.length ?_ ⟨0,.zdo,[],[],by omega,rfl,zb.le_refl _,SlX.zdo h 1,.nil,Nat.le_refl _,by simp⟩
 rintro Y t vs hh ⟨q,y,out,R,hqt,rfl,hle,hy,hr,hol,hm⟩ hY;have hd2:=hd.mono hle;simp -dsimp only[zbd.l2,zbd.k1,B.zb9,V.zei,Nat.zero_add,B.ze,B.zeo,hd2.l,hd2.zh4.zcj,zr3];by_cases hql:q<d.L.length
 rotate_left
 ·have hq':q=d.L.length:=by omega
  rw[hq',take_length]at hm;simp -dsimp only[hql,decide_false,B.cond_false];have e1:=waits_rise hf.zrs hfd ht hr hm;rw[e1]at hy;exact zbf (hq y hh R hle hy)
 obtain⟨v,hv⟩:=zg3 hql;obtain⟨p1,o1,ev⟩:=hd2.get hv;obtain⟨p2,o2,ew2⟩:=hd2.get hw;obtain⟨R1,hp1⟩:=ev.held;obtain⟨R2,ho1⟩:=ev.zf5;obtain⟨R3,ho2⟩:=ew2.zf5;have hpos:=get_pos hf.zrs hv hw;have step:(z:Int)->z∈((d.L.take (q+1)).filter λo=>decide (o.Id≠k)&&zj2 o w.zga w.zkq).map (·.Id)↔z∈((d.L.take q).filter λo=>decide (o.Id≠k)&&zj2 o w.zga w.zkq).map (·.Id) \/ (v.Id≠k /\ zj2 v w.zga w.zkq=true /\ z=v.Id):=λz=>by
  rw[take_succ hv,filter_append,map_append,mem_append];refine or_congr Iff.rfl ?_;rw[mem_map];constructor
  ·rintro⟨a,ha,rfl⟩
   obtain⟨ha1,ha2⟩:=mem_filter.1 ha;have ha1:a=v:=mem_singleton.1 ha1;subst ha1;rw[Bool.and_eq_true,decide_eq_true_eq]at ha2;exact⟨ha2.1,ha2.2,rfl⟩
  ·rintro⟨g1,g2,rfl⟩
   exact⟨v,mem_filter.2 ⟨mem_singleton.2 rfl,by rw[Bool.and_eq_true,decide_eq_true_eq];exact⟨g1,g2⟩⟩,rfl⟩
 have en:V.bin .neq (.int .i64 (q:Int)) (.int .i64 (j:Int))=some (.bool (decide (q≠j))):=neqNN;have skipN:(v.Id=k \/ zj2 v w.zga w.zkq=false)->Y [y,.int .i64 ((q+1:Nat):Int)] hh:=λhs=>by
  refine hY (t-1) _ _ (by omega) ⟨q+1,y,out,R,by omega,rfl,hle,hy,hr,by omega,λz=>?_⟩;rw[step,<-hm];constructor
  ·exact .inl
  ·rintro(h1|⟨h1,h2,_⟩)
   ·exact h1
   ·rcases hs with hs|hs
    ·exact absurd hs h1
    ·rw[hs]at h2;cases h2
 simp -dsimp only[hql,decide_true,B.cond_true,en,B.ze,zh3 (show q<4611686018427387904 by omega)];by_cases hqj:q=j
 ·have hs:v.Id=k:=by rw[hpos.2 hqj,hk]
  have:=skipN (.inl hs);subst hqj;simp -dsimp only[ne_eq,not_true_eq_false,decide_false];simpa -dsimp[-V.zh8,zh3 (show q<4611686018427387904 by omega)]using this
 have hne:v.Id≠k:=λe=>hqj (hpos.1 (by rw[e,hk]));have hne':decide (q≠j)=true:=decide_eq_true hqj;have b1:=hf.get hv;have b2:=hf.get hw;simp -dsimp only[hne',B.zgx,B.zbg,B.zb9,V.zei,Nat.zero_add,B.ze,B.zeo,B.ldn_eq,hd2.l,ev.idx,ev.ldn,ew2.idx,ew2.f2,ew2.l2,ew2.f3,ew2.l3];refine s2 v p1 o1 o2 w.zga R1 R2 R3 w.zkq hh _ hp1 ho1 ho2 (by omega) (by omega) (by omega) ?_;simp -dsimp only[hne',B.ze8];refine B.zbc (λhc=>?_) (λhc=>?_)
 ·simp -dsimp only[zh3 (show q<4611686018427387904 by omega),ev.f0,ev.l0,B.zb9,V.zei,Nat.zero_add,B.ze,B.zeo,hd2.l,ev.idx]
  refine s3.rd y out R v.Id hh _ hy (by omega) λy' h' R' hle' hy'=>?_;simp -dsimp only[zh3 (show q<4611686018427387904 by omega),B.ze];refine hY (t-1) _ _ (by omega) ⟨q+1,y',zks out v.Id,R',by omega,rfl,zb.le_trans hle hle',hy',zno hr,by have:=(zp1 (n:=v.Id) (l:=out)).1;omega,λz=>?_⟩;rw[step,zjv,<-hm];constructor
  ·rintro(h1|h1)
   ·exact .inr ⟨hne,hc,h1⟩
   ·exact .inl h1
  ·rintro(h1|⟨_,_,h1⟩)
   ·exact .inr h1
   ·exact .inl h1
 ·simp -dsimp only[zh3 (show q<4611686018427387904 by omega),B.ze]
  exact skipN (.inr hc)
def zw.Spec(C:z6)(N:zN):Prop:=∀(h:zb)(r:Nat)(x:za)(d:DL)(k:Int)(Q:zQ),DocR h r x d->Fit d->(∀(x':za)(h':zb)(out:List Int)(R':List (List za)),h.le h'->SlX h' 1 x' (out.map icl) R'->out.Pairwise (λa b=>a<b)->(∀z,z∈out↔Via d k z)->Q x' h')->C (N 521) [.ptr r 0 0,.int .i64 k] h Q
theorem zw.spec(i:zw.Imp C N)(s1:zbd.Spec C N)(s3:zb6.Spec C N):zw.Spec C N:=by
 intro h r x d k Q hd hf hq;have hl:=hf.len;have hidl:(d.L.map (·.Id)).length=d.L.length:=length_map _;apply i;simp -dsimp only[zw.cps];refine s1 h r x d k _ hd hf λx1 h1 R1 hle1 hx1=>?_;refine zq.intro (λt vs hh=>∃(n:Int)(y:za)(out:List Int)(R:List (List za)),vs=[y,.int .i64 n] /\ h.le hh /\ SlX hh 1 y (out.map icl) R /\ out.Pairwise (λa b=>a<b) /\ (∀z∈out,Via d k z) /\ (∀z∈ze7 d k,z∈out) /\
  n <= out.length /\ -1 <= n /\ ((d.L.length:Int)-n).toNat <= t /\ (n=out.length->∀a∈out,∀b∈ze7 d a,b∈out)) (d.L.length+1) ?_ ⟨-1,x1,ze7 d k,R1,rfl,hle1,hx1,waits_rising hf.zrs k,λz hz=> .one hz,λz hz=>hz,by omega,by omega,by omega,λe=>by omega⟩
 rintro Y t vs hh ⟨n,y,out,R,rfl,hle,hy,hr,hv,hw,hn1,hn2,ht,hcl⟩ hY;have hol:out.length <= d.L.length:=by rw[<-hidl];exact znn hr λz hz=>zqk (hv z hz)
 have ly:V.zcj y=some (.int .i64 (out.length:Int)):=by simpa using hy.zcj
 have en:V.bin .neq (.int .i64 n) (.int .i64 (out.length:Int))=some (.bool (decide (n≠out.length))):=by
  rw[V.bin_neq];congr 2
  first|(rw[Bool.eq_iff_iff];simp)|skip
 simp -dsimp only[zw.l6,zw.k5,ly,en,B.ze];by_cases hno:n=out.length
 ·have e0:decide (n≠out.length)=false:=decide_eq_false (by simpa using hno)
  simp -dsimp only[e0,B.cond_false];refine zbf (hq y hh out R hle hy hr λz=>⟨hv z,λh=>?_⟩)
  induction h with
  | one h=>exact hw _ h
  | more _ h ih=>exact hcl hno _ ih _ h
 have e0:decide (n≠out.length)=true:=decide_eq_true hno;simp -dsimp only[e0,B.cond_true,ly,B.ze];have hnl:n<out.length:=by omega
 refine zq.intro (λu vs h2=>∃(q:Nat)(y2:za)(out2:List Int)(R2:List (List za)),q+u=out.length /\ vs=[y2,.int .i64 (q:Int)] /\ h.le h2 /\ SlX h2 1 y2 (out2.map icl) R2 /\ out2.Pairwise (λa b=>a<b) /\ (∀z∈out2,Via d k z) /\ (∀z∈ze7 d k,z∈out2) /\
  out.length <= out2.length /\ (out2.length=out.length->out2=out /\ ∀a∈out.take q,∀b∈ze7 d a,b∈out)) out.length ?_ ⟨0,y,out,R,by omega,rfl,hle,hy,hr,hv,hw,Nat.le_refl _,λ_=>⟨rfl,by simp⟩⟩
 rintro Z u vs h2 ⟨q,y2,out2,R2,hqu,rfl,hle2,hy2,hr2,hv2,hw2,hlen2,hcl2⟩ hZ;have hol2:out2.length <= d.L.length:=by rw[<-hidl];exact znn hr2 λz hz=>zqk (hv2 z hz)
 simp -dsimp only[zw.l4,zr3,B.ze];by_cases hq2:q<out.length
 rotate_left
 ·simp -dsimp only[hq2,decide_false,B.cond_false]
  have hqe:q=out.length:=by omega
  rw[hqe,take_length]at hcl2;refine hY (t-1) _ _ (by omega) ⟨out.length,y2,out2,R2,rfl,hle2,hy2,hr2,hv2,hw2,by omega,by omega,by omega,λe=>?_⟩;obtain⟨g1,g2⟩:=hcl2 (by omega);rw[g1];exact g2
 obtain⟨a,ha⟩:=zg3 (L:=out2) (k:=q) (by omega);have i1:V.zcp 1 y2 (.int .i64 (q:Int))=some (elp 1 y2 q 0):=hy2.zmd (by rw[length_map];omega);have c1:A.ldv h2 (elp 1 y2 q 0)=some (.int .i64 a):=hy2.cell (by rw[getElem?_map,ha];rfl);simp -dsimp only[hq2,decide_true,B.cond_true,zw.k3,i1,c1,B.zeo,B.ze];refine s1 h2 r x d a _ (hd.mono hle2) hf λx3 h3 R3 hle3 hx3=>?_;have l3:V.zcj x3=some (.int .i64 ((ze7 d a).length:Int)):=by simpa using hx3.zcj
 have wl:=zsr d a;have hva:=hv2 a (mem_of_getElem? ha);refine zq.intro (λu vs h4=>∃(m:Nat)(y4:za)(out4:List Int)(R4:List (List za)),m+u=(ze7 d a).length /\ vs=[y4,.int .i64 (m:Int)] /\ h3.le h4 /\ SlX h4 1 y4 (out4.map icl) R4 /\ out4.Pairwise (λa b=>a<b) /\ (∀z∈out4,Via d k z) /\ (∀z∈out2,z∈out4) /\
  out2.length <= out4.length /\ (out4.length=out2.length->out4=out2) /\ ∀z∈(ze7 d a).take m,z∈out4) (ze7 d a).length ?_ ⟨0,y2,out2,R2,by omega,rfl,zb.le_refl _,hy2.mono hle3,hr2,hv2,λz hz=>hz,Nat.le_refl _,λ_=>rfl,by simp⟩
 rintro W u4 vs h4 ⟨m,y4,out4,R4,hmu,rfl,hle4,hy4,hr4,hv4,hsub4,hlen4,hsame4,hin4⟩ hW;have hol4:out4.length <= d.L.length:=by rw[<-hidl];exact znn hr4 λz hz=>zqk (hv4 z hz)
 have hle04:=zb.le_trans hle2 (zb.le_trans hle3 hle4);simp -dsimp only[zw.l2,zw.k1,l3,zr3,B.ze];by_cases hm:m<(ze7 d a).length
 ·obtain⟨b,hb⟩:=zg3 hm
  have hbm:=mem_of_getElem? hb;have i2:V.zcp 1 x3 (.int .i64 (m:Int))=some (elp 1 x3 m 0):=hx3.zmd (by rw[length_map];omega);have c2:A.ldv h4 (elp 1 x3 m 0)=some (.int .i64 b):=(hx3.mono hle4).cell (by rw[getElem?_map,hb];rfl);simp -dsimp only[hm,decide_true,B.cond_true,i2,c2,B.zeo,B.ze];refine s3.rd y4 out4 R4 b h4 _ hy4 (by omega) λy5 h5 R5 hle5 hy5=>?_;have rl:=zp1 (n:=b) (l:=out4);simp -dsimp only[zh3 (show m<4611686018427387904 by omega),B.ze];refine hW (u4-1) _ _ (by omega) ⟨m+1,y5,zks out4 b,R5,by omega,rfl,zb.le_trans hle4 hle5,hy5,zno hr4,λz hz=>?_,λz hz=>zjv.2 (.inr (hsub4 z hz)),by omega,λe=>?_,λz hz=>?_⟩
  ·rcases zjv.1 hz with rfl|hz
   ·exact .more hva hbm
   ·exact hv4 z hz
  ·rw[zut (by omega)];exact hsame4 (by omega)
  ·rw[take_succ hb,mem_append,mem_singleton]at hz
   rcases hz with hz|hz
   ·exact zjv.2 (.inr (hin4 z hz))
   ·exact zjv.2 (.inl hz)
 ·simp -dsimp only[hm,decide_false,B.cond_false,zh3 (show q<4611686018427387904 by omega),B.ze]
  have hme:m=(ze7 d a).length:=by omega
  rw[hme,take_length]at hin4;refine hZ (u-1) _ _ (by omega) ⟨q+1,y4,out4,R4,by omega,rfl,hle04,hy4,hr4,hv4,λz hz=>hsub4 z (hw2 z hz),by omega,λe=>?_⟩;have e4:=hsame4 (by omega);obtain⟨g1,g2⟩:=hcl2 (by omega);refine⟨e4.trans g1,λc hc b hb=>?_⟩;have ha':out[q]?=some a:=by rw[<-g1];exact ha
  rw[take_succ ha',mem_append,mem_singleton]at hc;rcases hc with hc|hc
  ·exact g2 c hc b hb
  ·rw[hc]at hb
   have:=hin4 b hb;rw[e4,g1]at this;exact this
def zr.Spec(C:z6)(N:zN):Prop:=∀(h:zb)(r:Nat)(x:za)(d:DL)(Q:zQ),DocR h r x d->Fit d->(∀(x':za)(h':zb)(out:List Int)(R':List (List za)),h.le h'->SlX h' 1 x' (out.map icl) R'->RoundD d out->Q x' h')->C (N 504) [.ptr r 0 0] h Q
theorem zr.spec(i:zr.Imp C N)(s1:zw.Spec C N)(s3:zb6.Spec C N)(s4:zdw.Spec C N):zr.Spec C N:=by
 intro h r x d Q hd hf hq;have hl:=hf.len;have hidl:(d.L.map (·.Id)).length=d.L.length:=length_map _;apply i;refine zq.intro (λt vs hh=>∃(q:Nat)(y:za)(all:List Int)(R:List (List za)),q+t=d.L.length /\ vs=[y,.int .i64 (q:Int)] /\ h.le hh /\ SlX hh 1 y (all.map icl) R /\ all.Pairwise (λa b=>a<b) /\ all.length <= q /\ ∀z,z∈all↔z∈(d.L.take q).map (·.Id)) d.L.length ?_ ⟨0,.zdo,[],[],by omega,rfl,zb.le_refl _,SlX.zdo h 1,.nil,Nat.le_refl _,by simp⟩;rintro Y t vs hh ⟨q,y,all,R,hqt,rfl,hle,hy,hr,hol,hm⟩ hY;have hd2:=hd.mono hle;simp -dsimp only[zr.l7,zr.k6,B.zb9,V.zei,Nat.zero_add,B.ze,B.zeo,hd2.l,hd2.zh4.zcj,zr3];by_cases hql:q<d.L.length
 ·obtain⟨v,hv⟩:=zg3 hql
  obtain⟨p1,o1,ev⟩:=hd2.get hv;simp -dsimp only[hql,decide_true,B.cond_true,B.zb9,V.zei,Nat.zero_add,hd2.l,ev.idx,ev.f0,ev.l0,B.zeo,B.ze];refine s3.rd y all R v.Id hh _ hy (by omega) λy' h' R' hle' hy'=>?_;simp -dsimp only[zh3 (show q<4611686018427387904 by omega),B.ze];refine hY (t-1) _ _ (by omega) ⟨q+1,y',zks all v.Id,R',by omega,rfl,zb.le_trans hle hle',hy',zno hr,by have:=(zp1 (n:=v.Id) (l:=all)).1;omega,λz=>?_⟩;rw[take_succ hv,map_append,mem_append,zjv,hm,map_cons,map_nil,mem_singleton];exact or_comm
 simp -dsimp only[hql,decide_false,B.cond_false];have hqe:q=d.L.length:=by omega
 rw[hqe,take_length]at hm;clear hY;have ly:V.zcj y=some (.int .i64 (all.length:Int)):=by simpa using hy.zcj
 refine zq.intro (λt vs h2=>∃q:Nat,q+t=all.length /\ vs=[.int .i64 (q:Int)] /\ hh.le h2 /\ ∀z∈all.take q,¬ Via d z z) all.length ?_ ⟨0,by omega,rfl,zb.le_refl _,by simp⟩;rintro Y t2 vs h2 ⟨q2,hq2,rfl,hle2,hno⟩ hY;simp -dsimp only[zr.l5,zr.k4,ly,zr3,B.ze];by_cases hql2:q2<all.length
 rotate_left
 ·simp -dsimp only[hql2,decide_false,B.cond_false]
  have hqe2:q2=all.length:=by omega
  rw[hqe2,take_length]at hno;exact zbf (hq .zdo h2 [] [] (zb.le_trans hle hle2) (SlX.zdo h2 1) (.inl ⟨rfl,λw hw=>hno w ((hm w).2 hw)⟩))
 obtain⟨w,hw⟩:=zg3 hql2;have hwm:=mem_of_getElem? hw;have i1:V.zcp 1 y (.int .i64 (q2:Int))=some (elp 1 y q2 0):=hy.zmd (by rw[length_map];omega);have c1:∀{H:zb},hh.le H->A.ldv H (elp 1 y q2 0)=some (.int .i64 w):=λhH=>(hy.mono hH).cell (by rw[getElem?_map,hw];rfl);simp -dsimp only[hql2,decide_true,B.cond_true,i1,c1 hle2,B.zeo,B.ze];refine s1 h2 r x d w _ (hd2.mono hle2) hf λx3 h3 out R3 hle3 hx3 hr3 hv3=>?_;have hle03:=zb.le_trans hle2 hle3;have ol:out.length <= d.L.length:=by rw[<-hidl];exact znn hr3 λz hz=>zqk ((hv3 z).1 hz)
 simp -dsimp only[zr.k3,i1,c1 hle03,B.zeo,B.ze];refine s4 _ _ _ _ _ _ hx3 (by omega) ?_;by_cases hww:w∈out
 rotate_left
 ·simp -dsimp only[hww,decide_false,V.zgj,Bool.not_false,B.ze,B.cond_true,zh3 (show q2<4611686018427387904 by omega)]
  refine hY (t2-1) _ _ (by omega) ⟨q2+1,by omega,rfl,hle03,λz hz=>?_⟩;rw[take_succ hw,mem_append,mem_singleton]at hz;rcases hz with hz|hz
  ·exact hno z hz
  ·rw[hz];exact λh=>hww ((hv3 w).2 h)
 simp -dsimp only[hww,decide_true,V.zgj,Bool.not_true,B.ze,B.cond_false];clear hY;have l3:V.zcj x3=some (.int .i64 (out.length:Int)):=by simpa using hx3.zcj
 refine zq.intro (λt vs h4=>∃(m:Nat)(y4:za)(M:List Int)(R4:List (List za)),m+t=out.length /\ vs=[y4,.int .i64 (m:Int)] /\ zcy h3 h4 [.sl 1 y4 (M.map icl) R4] /\ M.Sublist (out.take m) /\ ∀z,z∈M↔z∈out.take m /\ Via d z w) out.length ?_ ⟨0,.zdo,[],[],by omega,rfl,(zcy.start h3).zdo 1,.refl _,by simp⟩;rintro Y t4 vs h4 ⟨m,y4,M,R4,hmt,rfl,ho,hsb,hM⟩ hY;have hle4:=ho.le;have hx4:=hx3.mono hle4;have hMl:M.length <= m:=Nat.le_trans hsb.length_le (length_take_le ..);simp -dsimp only[zr.l2,zr.k1,l3,zr3,B.ze];by_cases hml:m<out.length
 rotate_left
 ·simp -dsimp only[hml,decide_false,B.cond_false]
  have hme:m=out.length:=by omega
  rw[hme,take_length]at hsb hM;refine zbf (hq y4 h4 M R4 (zb.le_trans hle (zb.le_trans hle03 hle4)) (ho.zhs 0 rfl) (.inr ⟨w,(hm w).1 hwm,(hv3 w).1 hww,λv hv hvw hvv=>?_,hr3.sublist hsb,λo=>?_⟩))
  ·have hva:=(hm v).2 hv
   obtain⟨j,hj⟩:=mem_iff_getElem?.1 hva;by_cases hjq:j<q2
   ·refine hno v ?_ hvv
    refine mem_of_getElem? (i:=j) ?_;rw[getElem?_take,if_pos hjq,hj]
   ·rcases Nat.lt_or_eq_of_le (Nat.le_of_not_lt hjq) with hlt|he
    ·obtain⟨j1,j2⟩:=List.getElem?_eq_some_iff.1 hj
     obtain⟨w1,w2⟩:=List.getElem?_eq_some_iff.1 hw;have:=pairwise_iff_getElem.1 hr q2 j w1 j1 hlt;rw[j2,w2]at this;omega
    ·rw[<-he,hw]at hj
     cases hj;omega
  ·rw[hM,hv3]
 obtain⟨b,hb⟩:=zg3 hml;have i2:V.zcp 1 x3 (.int .i64 (m:Int))=some (elp 1 x3 m 0):=hx3.zmd (by rw[length_map];omega);have c2:∀{H:zb},h3.le H->A.ldv H (elp 1 x3 m 0)=some (.int .i64 b):=λhH=>(hx3.mono hH).cell (by rw[getElem?_map,hb];rfl);have hle34:=zb.le_trans hle03 hle4;simp -dsimp only[hml,decide_true,B.cond_true,i1,i2,c1 hle34,c2 hle4,B.zeo,B.ze];refine s1 h4 r x d b _ (hd2.mono hle34) hf λx5 h5 out5 R5 hle5 hx5 hr5 hv5=>?_;refine keepD1 ⟨_,c1 hle34,c1 (zb.le_trans hle34 hle5)⟩ ?_;have ol5:out5.length <= d.L.length:=by rw[<-hidl];exact znn hr5 λz hz=>zqk ((hv5 z).1 hz)
 have ho5:=ho.grow hle5;have hbo:b∈out.take (m+1):=by rw[take_succ hb];simp
 refine s4 _ _ _ _ _ _ hx5 (by omega) ?_;by_cases hbw:w∈out5
 ·have hvb:=(hv5 w).1 hbw
  have f1:zeu [(0,none,.int .i64 b)] (zhu 1 [.int .i64 0])=some [.int .i64 b]:=rfl;simp -dsimp only[hbw,decide_true,B.cond_true,i2,c2 (zb.le_trans hle4 hle5),f1,B.zeo,B.ze];refine ho5.push 0 rfl (cs:=[.int .i64 b]) rfl (by omega) (by first|omega|(simp;done)|(simp;omega)) (by first|(simp[maxLen];done)|(simp[maxLen];omega)) λx6 h6 o6 _=>?_;simp -dsimp only[zh3 (show m<4611686018427387904 by omega),B.ze];have o6':zcy h3 h6 [.sl 1 x6 ((M++[b]).map icl) []]:=by rw[map_append];exact o6
  refine hY (t4-1) _ _ (by omega) ⟨m+1,x6,M++[b],[],by omega,rfl,o6',?_,λz=>?_⟩
  ·rw[take_succ hb];exact hsb.append (.refl _)
  ·rw[take_succ hb,mem_append,mem_append,hM,mem_singleton]
   constructor
   ·rintro(⟨h1,h2⟩|rfl)
    ·exact⟨.inl h1,h2⟩
    ·exact⟨.inr rfl,hvb⟩
   ·rintro⟨h1|h1,h2⟩
    ·exact .inl ⟨h1,h2⟩
    ·exact .inr h1
 ·simp -dsimp only[hbw,decide_false,B.cond_false,zh3 (show m<4611686018427387904 by omega),B.ze]
  refine hY (t4-1) _ _ (by omega) ⟨m+1,y4,M,R4,by omega,rfl,ho5,?_,λz=>?_⟩
  ·rw[take_succ hb];exact hsb.trans (sublist_append_left ..)
  ·rw[take_succ hb,mem_append,hM,mem_singleton]
   constructor
   ·rintro⟨h1,h2⟩
    exact⟨.inl h1,h2⟩
   ·rintro⟨h1|h1,h2⟩
    ·exact⟨h1,h2⟩
    ·rw[h1]at h2
     exact absurd ((hv5 w).2 h2) hbw
variable{C:z6}{N:zN}
theorem SlX.nilP{h:zb}{es:Nat}{x:za}{L R:List (List za)}(hs:SlX h es x L R){i f:Nat}(hi:i<L.length){K:za->Prop}(hk:K (elp es x i f)):B.nilCheck (elp es x i f) K:=by
 rcases hs.at_ with⟨e,_⟩|⟨id,g,off,cp,b,hi',rfl,_⟩
 ·rw[e]at hi;simp at hi
 ·exact hk
abbrev DWA:=DW×za×za
def dObs(r:Nat)(x:za)(last:Int)(P:List DWA)(R:List (List za)):List Ob:=[.box (.ptr r 0 0) [x,.int .i64 last],.sl 4 x (P.map zn0.cs) R]
structure zsb(h0 h:zb)(F:List Ob)(r:Nat)(x:za)(d:DL)(P:List DWA)(R:List (List za)):Prop where
 own:zcy h0 h (dObs r x d.zji P R++F)
 map:P.map (·.1)=d.L
 at_:∀p∈P,zn0.at_ h0 p.1 p.2
section
variable{h0 h h':zb}{F:List Ob}{r:Nat}{x:za}{d:DL}{P:List DWA}{R:List (List za)}
theorem zsb.read(hs:zsb h0 h F r x d P R):DocR h r x d:=by
 obtain⟨id,e,hb⟩:=hs.own.zr8 0 rfl;cases e;exact⟨zeq (k:=0) hb rfl,zeq (k:=1) hb rfl,P,R,hs.map,hs.own.zhs 1 rfl,λp hp=>zn0.mono hs.own.le (hs.at_ p hp)⟩
theorem zsb.grow(hs:zsb h0 h F r x d P R)(hle:h.le h'):zsb h0 h' F r x d P R:=⟨hs.own.grow hle,hs.map,hs.at_⟩
theorem zsb.rebase(hs:zsb h0 h F r x d P R){l':List Ob}(hn:zcy h h' l'):∃h1,h0.le h1 /\ zsb h1 h' F r x d P R /\ AllAt h1 l':=by
 obtain⟨h1,k1,k2,k3,k4⟩:=hs.own.rebase hn;exact⟨h1,k1,⟨k3,hs.map,λp hp=>zn0.mono k1 (hs.at_ p hp)⟩,k4⟩
theorem zsb.st(hs:zsb h0 h F r x d P R){j f:Nat}{v:za}{w w':DW}{a a':za×za}{K:zb->Prop}(hP:P[j]?=some (w,a))(hset:(zn0.cells w a).set f v=zn0.cells w' a')(hat:zn0.at_ h0 w' a')(hv:v.zdx=true)(hf:f<4)
  (hK:∀h',zsb h0 h' F r x ⟨d.L.set j w',d.zji⟩ (P.set j (w',a')) R->K h'):A.st h (elp 4 x j f) v K:=by
 refine hs.own.st 1 rfl (c:=zn0.cells w a) (by rw[getElem?_map,hP];rfl) hf hv λh2 o2 _=>hK h2 ⟨?_,?_,λp hp=>?_⟩
 ·have e:(P.map zn0.cs).set j ((zn0.cells w a).set f v)=(P.set j (w',a')).map zn0.cs:=by rw[hset,map_set]
  rw[e]at o2;exact o2
 ·rw[map_set,hs.map]
 ·rcases mem_or_eq_of_mem_set hp with hp|rfl
  ·exact hs.at_ p hp
  ·exact hat
theorem zsb.stLast(hs:zsb h0 h F r x d P R){v:Int}{K:zb->Prop}(hK:∀h',zsb h0 h' F r x ⟨d.L,v⟩ P R->K h'):A.st h (.ptr r 0 1) (.int .i64 v) K:=hs.own.zuf 0 rfl rfl (by simp) λh2 o2 _=>hK h2 ⟨o2,hs.map,hs.at_⟩
theorem zsb.stL(hs:zsb h0 h F r x d P R){x':za}{P':List DWA}{L':List DW}{B:List Ob}{K:zb->Prop}(ho:zcy h0 h (dObs r x d.zji P R++F++[.sl 4 x' (P'.map zn0.cs) []]))(hm:P'.map (·.1)=L')(ha:∀p∈P',zn0.at_ h0 p.1 p.2)
  (hK:∀h',zsb h0 h' F r x' ⟨L',d.zji⟩ P' []->K h'):A.st h (.ptr r 0 0) x' K:=by
 have hc:x'.zdx=true:=by
  have:SlX h 4 x' (P'.map zn0.cs) []:=ho.is _ (mem_append_right _ (mem_singleton.2 rfl));exact this.zdx
 refine ho.zuf 0 rfl hc (by simp) λh2 o2 _=>hK h2 ⟨?_,hm,ha⟩;have o3:zcy h0 h2 (.box (.ptr r 0 0) [x',.int .i64 d.zji]:: .sl 4 x (P.map zn0.cs) R::(F++[.sl 4 x' (P'.map zn0.cs) []])):=o2;have o4:zcy h0 h2 (.box (.ptr r 0 0) [x',.int .i64 d.zji]::(F++[.sl 4 x' (P'.map zn0.cs) []])):=o3.sub (.cons_cons _ (.cons _ (.refl _)));exact o4.perm (List.Perm.cons _ perm_append_comm)
end
def DocA(h0 h:zb)(F:List Ob)(r:Nat)(d:DL):Prop:=∃x P R,zsb h0 h F r x d P R
def zc6.Spec(C:z6)(N:zN):Prop:=∀(h0 h:zb)(F:List Ob)(r:Nat)(d:DL)(k:Int)(Q:zQ),DocA h0 h F r d->d.L.length <= 100000->(∀h',DocA h0 h' F r (zq6 d k)->Q (.tup []) h')->C (N 500) [.ptr r 0 0,.int .i64 k] h Q
theorem zc6.spec(i:zc6.Imp C N)(s1:zbu.Spec C N):zc6.Spec C N:=by
 rintro h0 h F r d k Q ⟨x,P,R,hs⟩ hl hq;have hd:=hs.read;have hPl:P.length=d.L.length:=by rw[<-hs.map,length_map]
 apply i;simp -dsimp only[zc6.cps,zc6.k1];refine s1 h r x d k _ hd (by omega) (λj w hno hw hk=>?_) (λhno=>?_)
 rotate_left
 ·have e0:V.bin .geq (.int .i64 (-1)) (.int .i64 0)=some (.bool false):=rfl
  simp -dsimp only[e0,B.ze,B.cond_false];refine zbf (hq h ⟨x,P,R,?_⟩);have e:zq6 d k=d:=by unfold zq6;rw[(ztu hno).2.2]
  rw[e];exact hs
 have e0:V.bin .geq (.int .i64 (j:Int)) (.int .i64 0)=some (.bool true):=by rw[V.zpo,decide_eq_true (by omega)]
 have hj:j<d.L.length:=(List.getElem?_eq_some_iff.1 hw).1;have hx:=hs.own.zhs 1 rfl;obtain⟨y1,R1,e1,g1,_⟩:=hx.zqo (by omega) (lo:=0) (hi:=j) (a:=none) (b:=some (.int .i64 (j:Int))) (.inl ⟨rfl,rfl⟩) (.inr ⟨_,rfl⟩) (by omega) (by omega);obtain⟨y2,R2,e2,g2,_⟩:=hx.zqo (by omega) (lo:=j+1) (hi:=P.length) (a:=some (.int .i64 ((j+1:Nat):Int))) (b:=none) (.inr ⟨_,rfl⟩) (.inl ⟨rfl,rfl⟩) (by omega) (by omega);rw[drop_zero]at g1;rw[take_length]at g2;simp -dsimp only[e0,B.ze,B.cond_true,B.zb9,V.zei,Nat.zero_add,B.zeo,hd.l,e1,e2,zh3 (show j<4611686018427387904 by omega)];refine((zcy.start h).sz 4).zjc 0 rfl g1 (by omega) (by first|omega|(simp;done)|(simp;omega)) (by first|(simp[maxLen];done)|(simp[maxLen];omega)) λx1 h1 o1 _=>?_;refine keepD1 ⟨_,hd.l,ztk o1.le hd.l⟩ ?_;refine o1.zjc 0 rfl (g2.mono o1.le) (by omega) (by first|omega|(simp;done)|(simp;omega)) (by first|(simp[maxLen];done)|(simp[maxLen];omega)) λx2 h2 o2 _=>?_;have o3:zcy h h2 [.sl 4 x2 ((P.take j++P.drop (j+1)).map zn0.cs) []]:=by
  have:zcy h h2 [.sl 4 x2 (([]++(P.take j).map zn0.cs)++(P.drop (j+1)).map zn0.cs) []]:=o2;rw[nil_append]at this;rw[map_append];exact this
 have o4:=hs.own.join o3;refine(hs.grow o3.le).stL (B:=[]) o4 (L':=delD d.L k) ?_ (λp hp=>?_) λh3 s3=>zbf (hq h3 ⟨_,_,_,s3⟩)
 ·rw[(ztv hno hw hk).2.2,<-hs.map,map_append,map_take,map_drop]
 ·rcases mem_append.1 hp with hp|hp
  ·exact hs.at_ p (mem_of_mem_take hp)
  ·exact hs.at_ p (mem_of_mem_drop hp)
theorem wantD_snoc(w:DW)(l:List Key)(n:Key)(a:List Key):(l++[n]).foldl (λl n=>if n∉w.zff /\ [42]∉w.zff then ziw l n else l) a=if n∉w.zff /\ [42]∉w.zff then ziw (l.foldl (λl n=>if n∉w.zff /\ [42]∉w.zff then ziw l n else l) a) n else l.foldl (λl n=>if n∉w.zff /\ [42]∉w.zff then ziw l n else l) a:=by
 rw[foldl_append];rfl
theorem doc_grant(s2:zdz.Spec C N){h0 h:zb}{F:List Ob}{r j:Nat}{x y p o:za}{d:DL}{P:List DWA}{R S:List (List za)}{w:DW}{W:List Key}{Q:zQ}
  (hs:zsb h0 h F r x d P R) (hP:P[j]?=some (w,(p,o))) (hy:SlX h0 1 y (W.map tc) S) (hw1:w.zff.length+W.length <= 1000000)
  (hq:∀h1 h',h0.le h1->DocA h1 h' F r ⟨d.L.set j ⟨w.Id,W.foldl ziw w.zff,[],0⟩,d.zji⟩->Q (.bool true) h'):zq (zj.l3 C N (dn Q) (elp 4 x j 0) y) [.int .i64 0] h:=by
 have hjP:=(List.getElem?_eq_some_iff.1 hP).1;have ly:V.zcj y=some (.int .i64 (W.length:Int)):=by simpa using hy.zcj
 refine zq.intro (λt vs hh=>∃(q:Nat)(hb:zb)(p':za)(P':List DWA)(d':DL),q+t=W.length /\ vs=[.int .i64 (q:Int)] /\ h0.le hb /\ zsb hb hh F r x d' P' R /\ P'[j]?=some (⟨w.Id,(W.take q).foldl ziw w.zff,w.zga,w.zkq⟩,(p',o)) /\ d'.zji=d.zji /\ ∀v,d'.L.set j v=d.L.set j v) W.length ?_
  ⟨0,h0,p,P,d,by omega,rfl,zb.le_refl _,hs,hP,rfl,λ_=>rfl⟩
 rintro Y t vs hh ⟨q,hb,p',P',d',hqt,rfl,hle,hs',hP',hlast,hset⟩ hY;have hx:=hs'.own.zhs 1 rfl;have hjP':j<(P'.map zn0.cs).length:=by rw[length_map];exact(List.getElem?_eq_some_iff.1 hP').1
 have hel:∀f,A.ldv hh (elp 4 x j f)=(zn0.cells ⟨w.Id,(W.take q).foldl ziw w.zff,w.zga,w.zkq⟩ (p',o))[f]? \/ 4 <= f:=λf=>by
  by_cases hf:f<4
  ·exact .inl (hx.ldv (by rw[getElem?_map,hP'];rfl) hf)
  ·exact .inr (by omega)
 have c1:A.ldv hh (elp 4 x j 1)=some p':=(hel 1).resolve_right (by omega);have fa:∀f,V.fieldAddr f (elp 4 x j 0)=some (elp 4 x j f):=λf=>by have:=hx.fieldA hjP' 0 f;rwa [Nat.zero_add]at this
 obtain⟨⟨Rp,hp'⟩,⟨Ro,ho'⟩⟩:(∃R,SlX hb 1 p' (((W.take q).foldl ziw w.zff).map tc) R) /\ (∃R,SlX hb 1 o (w.zga.map tc) R):=hs'.at_ _ (mem_of_getElem? hP');have hyy:=hy.mono (zb.le_trans hle hs'.own.le);simp -dsimp only[zj.l3,zj.k2,ly,zr3,B.ze];by_cases hql:q<W.length
 ·obtain⟨n,hn⟩:=zg3 hql
  have i1:V.zcp 1 y (.int .i64 (q:Int))=some (elp 1 y q 0):=hyy.zmd (by rw[length_map];exact hql);have c2:A.ldv hh (elp 1 y q 0)=some (.str n):=hyy.cell (by rw[getElem?_map,hn];rfl);simp -dsimp only[hql,decide_true,B.cond_true];refine hx.nilP hjP' ?_;simp -dsimp only[fa,c1,i1,c2,B.zeo,B.ze];have pl:=puts_len (W.take q) w.zff;have tl:(W.take q).length <= W.length:=by rw[length_take];omega
  refine s2 p' _ Rp n hh _ (hp'.mono hs'.own.le) (by omega) λp2 h2 hor=>?_;have hst:∃hb2,hb.le hb2 /\ zsb hb2 h2 F r x d' P' R /\ zn0.at_ hb2 ⟨w.Id,(W.take (q+1)).foldl ziw w.zff,w.zga,w.zkq⟩ (p2,o):=by
   have eT:(W.take (q+1)).foldl ziw w.zff=ziw ((W.take q).foldl ziw w.zff) n:=by rw[take_succ hn,foldl_append];rfl
   rw[eT];rcases hor with⟨rfl,rfl,e⟩|on
   ·refine⟨hb,zb.le_refl _,hs',⟨Rp,?_⟩,⟨Ro,ho'⟩⟩
    show SlX hb 1 p2 ((ziw ((W.take q).foldl ziw w.zff) n).map tc) Rp;rw[e];exact hp'
   ·obtain⟨h1,k1,k2,k3⟩:=hs'.rebase on
    exact⟨h1,k1,k2,⟨[],k3 _ (mem_singleton.2 rfl)⟩,⟨Ro,ho'.mono k1⟩⟩
  obtain⟨hb2,k1,k2,k3⟩:=hst;refine(k2.own.zhs 1 rfl).nilP hjP' ?_;simp -dsimp only[fa,B.ze];have hpc:p2.zdx=true:=by
   obtain⟨⟨R9,h9⟩,_⟩:(∃R,SlX hb2 1 p2 (((W.take (q+1)).foldl ziw w.zff).map tc) R) /\ (∃R,SlX hb2 1 o (w.zga.map tc) R):=k3;exact h9.zdx
  refine k2.st (f:=1) (v:=p2) (w':=⟨w.Id,(W.take (q+1)).foldl ziw w.zff,w.zga,w.zkq⟩) (a':=(p2,o)) hP' rfl k3 hpc (by omega) λh3 s3=>?_;simp -dsimp only[zh3 (show q<4611686018427387904 by omega),B.ze];refine hY (t-1) _ _ (by omega) ⟨q+1,hb2,p2,_,_,by omega,rfl,zb.le_trans hle k1,s3,?_,hlast,λv=>?_⟩
  ·rw[getElem?_set_self (by simpa using hjP')]
  ·show (d'.L.set j _).set j v=_
   rw[set_set];exact hset v
 ·have hqe:q=W.length:=by omega
  rw[hqe,take_length]at hP' hel;simp -dsimp only[hql,decide_false,B.cond_false,zj.k1];refine hx.nilP hjP' ?_;simp -dsimp only[fa,B.ze];obtain⟨⟨Rp,hp'⟩,⟨Ro,ho'⟩⟩:(∃R,SlX hb 1 p' ((W.foldl ziw w.zff).map tc) R) /\ (∃R,SlX hb 1 o (w.zga.map tc) R):=hs'.at_ _ (mem_of_getElem? hP');refine hs'.st (f:=2) (v:= .zdo) (w':=⟨w.Id,W.foldl ziw w.zff,[],w.zkq⟩) (a':=(p',.zdo)) hP' rfl ⟨⟨Rp,hp'⟩,⟨[],SlX.zdo hb 1⟩⟩ rfl (by omega) λh3 s3=>?_;refine(s3.own.zhs 1 rfl).nilP (by rw[length_map,length_set];simpa using hjP') ?_;simp -dsimp only[fa,B.ze];have hP3:(P'.set j (⟨w.Id,W.foldl ziw w.zff,[],w.zkq⟩,(p',za.zdo)))[j]?=some (⟨w.Id,W.foldl ziw w.zff,[],w.zkq⟩,(p',za.zdo)):=getElem?_set_self (by simpa using hjP');refine s3.st (f:=3) (v:= .int .i64 0) (w':=⟨w.Id,W.foldl ziw w.zff,[],0⟩) (a':=(p',.zdo)) hP3 rfl ⟨⟨Rp,hp'⟩,⟨[],SlX.zdo hb 1⟩⟩ rfl (by omega) λh4 s4=>?_;refine zbf (hq hb h4 hle ?_);have e:(⟨(d'.L.set j ⟨w.Id,W.foldl ziw w.zff,[],w.zkq⟩).set j ⟨w.Id,W.foldl ziw w.zff,[],0⟩,d'.zji⟩:DL)=⟨d.L.set j ⟨w.Id,W.foldl ziw w.zff,[],0⟩,d.zji⟩:=by
   rw[set_set,hset,hlast]
  rw[<-e];exact⟨_,_,_,s4⟩
variable{C:z6}{N:zN}
theorem doc_kept(s3:zd7.Spec C N){h0 h:zb}{F:List Ob}{r j:Nat}{x y p o:za}{d:DL}{P:List DWA}{R S:List (List za)}{w:DW}{W:List Key}{T:Int}{Q:zQ}
  (hs:zsb h0 h F r x d P R) (hf:Fit d) (hP:P[j]?=some (w,(p,o))) (hy:SlX h 1 y (W.map tc) S) (hW:W.length <= 1000000)
  (hq:∀b:Bool,(b=true↔zgh d w.Id W T≠[])->zj.k4 C N (dn Q) (.ptr r 0 0) (elp 4 x j 0) y (.int .i64 T) (.bool b) h):zq (zj.l6 C N (dn Q) (.ptr r 0 0) (.int .i64 (j:Int)) (elp 4 x j 0) y (.int .i64 T)) [.bool false,.int .i64 0] h:=by
 have hd:=hs.read;have hl:=hf.len;have hw:d.L[j]?=some w:=by rw[<-hs.map,getElem?_map,hP];rfl
 refine zq.intro (λt vs hh=>hh=h /\ ∃(q:Nat)(b:Bool),q+t=d.L.length /\ vs=[.bool b,.int .i64 (q:Int)] /\ (b=true↔∃v∈d.L.take q,v.Id≠w.Id /\ zj2 v W T=true)) d.L.length ?_ ⟨rfl,0,false,by omega,rfl,by simp⟩;rintro Y t vs hh ⟨rfl,q,b,hqt,rfl,hb⟩ hY;simp -dsimp only[zj.l6,zj.k5,B.zb9,V.zei,Nat.zero_add,B.ze,B.zeo,hd.l,hd.zh4.zcj,zr3];by_cases hql:q<d.L.length
 rotate_left
 ·have hqe:q=d.L.length:=by omega
  rw[hqe,take_length]at hb;simp -dsimp only[hql,decide_false,B.cond_false];refine hq b ?_;rw[hb];constructor
  ·rintro⟨v,hv,h1,h2⟩ e
   have:v.Id∈zgh d w.Id W T:=mem_map.2 ⟨v,mem_filter.2 ⟨hv,by rw[Bool.and_eq_true,decide_eq_true_eq];exact⟨h1,h2⟩⟩,rfl⟩;rw[e]at this;cases this
  ·intro hne
   obtain⟨z,hz⟩:=exists_mem_of_ne_nil _ hne;obtain⟨v,hv,rfl⟩:=mem_map.1 hz;obtain⟨h1,h2⟩:=mem_filter.1 hv;rw[Bool.and_eq_true,decide_eq_true_eq]at h2;exact⟨v,h1,h2⟩
 obtain⟨v,hv⟩:=zg3 hql;obtain⟨p1,o1,ev⟩:=hd.get hv;obtain⟨R1,hp1⟩:=ev.held;obtain⟨R2,ho1⟩:=ev.zf5;have hpos:=get_pos hf.zrs hv hw;have b1:=hf.get hv;have hnext:∀b':Bool,(b'=true↔b=true \/ (v.Id≠w.Id /\ zj2 v W T=true))->Y [.bool b',.int .i64 ((q+1:Nat):Int)] hh:=λb' hb'=>by
  refine hY (t-1) _ _ (by omega) ⟨rfl,q+1,b',by omega,rfl,?_⟩;rw[hb',hb];constructor
  ·rintro(⟨u,hu,h1⟩|h1)
   ·exact⟨u,by rw[take_succ hv];exact mem_append_left _ hu,h1⟩
   ·exact⟨v,by rw[take_succ hv];simp,h1⟩
  ·rintro⟨u,hu,h1⟩
   rw[take_succ hv,mem_append,mem_singleton]at hu;rcases hu with hu|rfl
   ·exact .inl ⟨u,hu,h1⟩
   ·exact .inr h1
 have en:V.bin .neq (.int .i64 (q:Int)) (.int .i64 (j:Int))=some (.bool (decide (q≠j))):=neqNN;have aq:=zh3 (show q<4611686018427387904 by omega);simp -dsimp only[hql,decide_true,B.cond_true,B.ze,zh3 (show q<4611686018427387904 by omega)];cases b with
 | true=>
  have:=hnext true (by simp);simpa -dsimp[-V.zh8,aq]using this
 | false=>
 simp -dsimp only[B.zqj,Bool.not_false,B.zbg,en,B.ze];by_cases hqj:q=j
 ·have:=hnext false (by simp[hpos.2 hqj])
  subst hqj;simp -dsimp only[ne_eq,not_true_eq_false,decide_false];simpa -dsimp[-V.zh8,aq]using this
 have hne:v.Id≠w.Id:=λe=>hqj (hpos.1 e);have hne':decide (q≠j)=true:=decide_eq_true hqj;simp -dsimp only[hne',B.zgx,B.zbg,B.zb9,V.zei,Nat.zero_add,B.ze,B.zeo,B.ldn_eq,hd.l,ev.idx,ev.ldn];refine s3 v p1 o1 y W R1 R2 S T hh _ hp1 ho1 hy (by omega) (by omega) hW ?_;simp -dsimp only[hne',B.ze8,B.zhc,B.zqj,Bool.not_false,B.zbg,B.ze,aq];exact hnext (zj2 v W T) (by simp[hne])
theorem zt2(s1:zef.Spec C N)(s2:zdz.Spec C N)(s3:zd7.Spec C N){h0 h:zb}{F:List Ob}{r j:Nat}{x nx p o:za}{d0 d:DL}{P:List DWA}{R Rn:List (List za)}{k:Int}{names:List Key}{Q:zQ}
  (hs:zsb h0 h F r x d P R) (hf:Fit d) (hP:P[j]?=some (ze6 d0 k,(p,o))) (hid:(ze6 d0 k).Id=k) (hset:∀v,znm d0.L k v=d.L.set j v) (hlast:d.zji=d0.zji) (hk:∀W T,zgh d k W T=zgh d0 k W T) (hnx:SlX h0 1 nx (names.map tc) Rn) (hn:names.length <= 100000) (hb1:0 <= d.zji) (hb2:d.zji <= 1000000000)
  (hq:∀h1 h',h0.le h1->DocA h1 h' F r (zku d0 k names).2->Q (.bool (zku d0 k names).1) h'):zj.k11 C N (dn Q) (.ptr r 0 0) nx (.int .i64 (j:Int)) h:=by
 generalize hwd:ze6 d0 k=w at hP hid;have hd:=hs.read;have hjP:=(List.getElem?_eq_some_iff.1 hP).1;have hw:d.L[j]?=some w:=by rw[<-hs.map,getElem?_map,hP];rfl
 have hx:=hs.own.zhs 1 rfl;have hjx:j<(P.map zn0.cs).length:=by rw[length_map];exact hjP
 have i0:V.zcp 4 x (.int .i64 (j:Int))=some (elp 4 x j 0):=hx.zmd hjx;have fa:∀f,V.fieldAddr f (elp 4 x j 0)=some (elp 4 x j f):=λf=>by have:=hx.fieldA hjx 0 f;rwa [Nat.zero_add]at this
 have nlp:∀{K:za->Prop},K (elp 4 x j 0)->B.nilCheck (elp 4 x j 0) K:=λhK=>hx.nilP hjx hK;have cel:∀{H:zb},h.le H->∀f,f<4->A.ldv H (elp 4 x j f)=(zn0.cells w (p,o))[f]? :=λhH f hf=>(hx.mono hH).ldv (by rw[getElem?_map,hP];rfl) hf;obtain⟨⟨Rp,hp⟩,⟨Ro,ho⟩⟩:(∃R,SlX h0 1 p (w.zff.map tc) R) /\ (∃R,SlX h0 1 o (w.zga.map tc) R):=hs.at_ _ (mem_of_getElem? hP);have bw:=hf.get hw;have lnx:V.zcj nx=some (.int .i64 (names.length:Int)):=by simpa using hnx.zcj
 have c2:A.ldv h (elp 4 x j 2)=some o:=cel (zb.le_refl _) 2 (by omega);simp -dsimp only[zj.k11,B.zb9,V.zei,Nat.zero_add,B.ze,B.zeo,hd.l,i0,zj.k10];refine nlp ?_;simp -dsimp only[fa,c2,B.ze,B.zeo]
 have wl:∀l:List Key,l.length <= names.length->(l.foldl (λl n=>if n∉w.zff /\ [42]∉w.zff then ziw l n else l) w.zga).length <= 200000:=λl hl=>by
  have:=wantD_len w l;unfold zg2 at this;omega
 refine zq.intro (λt vs hh=>∃(q:Nat)(hb:zb)(y:za)(S:List (List za)),q+t=names.length /\ vs=[y,.int .i64 (q:Int)] /\ h0.le hb /\ h.le hh /\ zsb hb hh F r x d P R /\ SlX hb 1 y (((names.take q).foldl (λl n=>if n∉w.zff /\ [42]∉w.zff then ziw l n else l) w.zga).map tc) S) names.length ?_
  ⟨0,h0,o,Ro,by omega,rfl,zb.le_refl _,zb.le_refl _,hs,ho⟩
 rintro Y t vs hh ⟨q,hb,y,S,hqt,rfl,hle,hle2,hs',hy⟩ hY;have hle3:=zb.le_trans hle hs'.own.le;have hyy:=hy.mono hs'.own.le;simp -dsimp only[zj.l9,zj.k8,lnx,zr3,B.ze];by_cases hql:q<names.length
 ·obtain⟨n,hnn⟩:=zg3 hql
  have hnh:=hnx.mono hle3;have i1:V.zcp 1 nx (.int .i64 (q:Int))=some (elp 1 nx q 0):=hnh.zmd (by rw[length_map];exact hql);have e1:∀{H:zb},hh.le H->A.ldv H (elp 1 nx q 0)=some (.str n):=λhH=>(hnh.mono hH).cell (by rw[getElem?_map,hnn];rfl);have c1:A.ldv hh (elp 4 x j 1)=some p:=cel hle2 1 (by omega);have hph:=hp.mono hle3;have tl:(names.take q).length <= names.length:=by rw[length_take];omega
  have wlq:=wl _ tl
  have eT:(names.take (q+1)).foldl (λl n=>if n∉w.zff /\ [42]∉w.zff then ziw l n else l) w.zga=if n∉w.zff /\ [42]∉w.zff then ziw ((names.take q).foldl (λl n=>if n∉w.zff /\ [42]∉w.zff then ziw l n else l) w.zga) n else (names.take q).foldl (λl n=>if n∉w.zff /\ [42]∉w.zff then ziw l n else l) w.zga:=by
   rw[take_succ hnn,wantD_snoc]
  have stay:¬ (n∉w.zff /\ [42]∉w.zff)->Y [y,.int .i64 ((q+1:Nat):Int)] hh:=λhc=>by
   refine hY (t-1) _ _ (by omega) ⟨q+1,hb,y,S,by omega,rfl,hle,hle2,hs',?_⟩;rw[eT,if_neg hc];exact hy
  simp -dsimp only[hql,decide_true,B.cond_true];refine nlp ?_;simp -dsimp only[fa,c1,i1,e1 (zb.le_refl _),B.ze,B.zeo];refine s1 _ _ _ _ _ _ hph (by omega) ?_;by_cases h1:n∈w.zff
  ·have:=stay λhc=>hc.1 h1
   have aq:=zh3 (show q<4611686018427387904 by omega);simp -dsimp only[h1,decide_true,V.zgj,Bool.not_true,B.ze];simpa -dsimp[-V.zh8,aq]using this
  simp -dsimp only[h1,decide_false,V.zgj,Bool.not_false,B.ze,B.zgx,B.zbg];refine nlp ?_;simp -dsimp only[fa,c1,B.zgx,B.zbg,B.ze,B.zeo];refine s1 _ _ _ _ _ _ hph (by omega) ?_;by_cases h2:[42]∈w.zff
  ·have:=stay λhc=>hc.2 h2
   simp -dsimp only[h2,decide_true,V.zgj,Bool.not_true,B.ze,B.zgx,B.zbg,B.ze8,B.cond_false,zh3 (show q<4611686018427387904 by omega)];exact this
  simp -dsimp only[h2,decide_false,V.zgj,Bool.not_false,B.ze,B.zgx,B.zbg,B.ze8,B.cond_true,i1,e1 (zb.le_refl _),B.zeo];refine s2 y _ S n hh _ hyy (by omega) λy2 h2' hor=>?_;simp -dsimp only[zh3 (show q<4611686018427387904 by omega),B.ze];have hc:n∉w.zff /\ [42]∉w.zff:=⟨h1,h2⟩;rcases hor with⟨rfl,rfl,e⟩|on
  ·refine hY (t-1) _ _ (by omega) ⟨q+1,hb,y2,S,by omega,rfl,hle,hle2,hs',?_⟩
   rw[eT,if_pos hc,e];exact hy
  ·obtain⟨h1',k1,k2,k3⟩:=hs'.rebase on
   refine hY (t-1) _ _ (by omega) ⟨q+1,h1',y2,[],by omega,rfl,zb.le_trans hle k1,zb.le_trans hle2 on.le,k2,?_⟩;rw[eT,if_pos hc];exact k3 _ (mem_singleton.2 rfl)
 have hqe:q=names.length:=by omega
 rw[hqe,take_length]at hy hyy;have c3:A.ldv hh (elp 4 x j 3)=some (.int .i64 w.zkq):=cel hle2 3 (by omega);have hWl:=wl names (Nat.le_refl _);simp -dsimp only[hql,decide_false,B.cond_false];refine nlp ?_;simp -dsimp only[fa,c3,B.ze,B.zeo,zj.k7,V.zhr];have hwant:names.foldl (λl n=>if n∉w.zff /\ [42]∉w.zff then ziw l n else l) w.zga=zg2 (ze6 d0 k) names:=by rw[hwd];rfl
 have hask:zku d0 k names=if (zgh d k (zg2 (ze6 d0 k) names) (zkr d0 k)).isEmpty then (true,⟨d.L.set j ⟨k,(zg2 (ze6 d0 k) names).foldl ziw (ze6 d0 k).zff,[],0⟩,d0.zji⟩) else (false,⟨d.L.set j ⟨k,(ze6 d0 k).zff,zg2 (ze6 d0 k) names,zkr d0 k⟩,max d0.zji (zkr d0 k)⟩):=by
  unfold zku;simp only[hk,hset]
 rw[hwant]at hy hyy hWl;have hd':=hs'.read;have main:∀T:Int,T=zkr d0 k->zq (zj.l6 C N (dn Q) (.ptr r 0 0) (.int .i64 (j:Int)) (elp 4 x j 0) y (.int .i64 T)) [.bool false,.int .i64 0] hh:=λT hT=>by
  refine doc_kept s3 hs' hf hP hyy (by omega) λb hb'=>?_;rw[hid]at hb';simp -dsimp only[zj.k4];cases b with
  | true=>
   have hne:=hb'.1 rfl;have hem:(zgh d k (zg2 (ze6 d0 k) names) T).isEmpty=false:=by
    cases e:zgh d k (zg2 (ze6 d0 k) names) T with
    | nil=>exact absurd e hne
    | cons _ _=>rfl
   rw[hT]at hem;rw[hask,hem]at hq;simp -dsimp only[B.cond_true];refine nlp ?_;simp -dsimp only[fa,B.ze];refine hs'.st (f:=2) (v:=y) (w':=⟨w.Id,w.zff,zg2 (ze6 d0 k) names,w.zkq⟩) (a':=(p,y)) hP rfl ⟨⟨Rp,hp.mono hle⟩,⟨S,hy⟩⟩ hy.zdx (by omega) λh3 s3'=>?_;refine nlp ?_;simp -dsimp only[fa,B.ze];have hP3:(P.set j (⟨w.Id,w.zff,zg2 (ze6 d0 k) names,w.zkq⟩,(p,y)))[j]?=some (⟨w.Id,w.zff,zg2 (ze6 d0 k) names,w.zkq⟩,(p,y)):=getElem?_set_self (by simpa using hjP);refine s3'.st (f:=3) (v:= .int .i64 T) (w':=⟨w.Id,w.zff,zg2 (ze6 d0 k) names,T⟩) (a':=(p,y)) hP3 rfl ⟨⟨Rp,hp.mono hle⟩,⟨S,hy⟩⟩ rfl (by omega) λh4 s4=>?_;have el:A.ldv h4 (.ptr r 0 1)=some (.int .i64 d.zji):=s4.read.last;have em:V.max2 (.int .i64 d.zji) (.int .i64 T)=some (.int .i64 (max d.zji T)):=V.max2_int _ _ _;simp -dsimp only[B.zb9,V.zei,Nat.zero_add,B.ze,B.zeo,el,em];refine s4.stLast λh5 s5=>?_;refine zbf (hq hb h5 hle ?_);have e:(⟨(d.L.set j ⟨w.Id,w.zff,zg2 (ze6 d0 k) names,w.zkq⟩).set j ⟨w.Id,w.zff,zg2 (ze6 d0 k) names,T⟩,max d.zji T⟩:DL)=⟨d.L.set j ⟨k,(ze6 d0 k).zff,zg2 (ze6 d0 k) names,zkr d0 k⟩,max d0.zji (zkr d0 k)⟩:=by
    rw[set_set,hid,hT,hlast,hwd]
   rw[if_neg (by simp),<-e];exact⟨_,_,_,s5⟩
  | false=>
   have hem:zgh d k (zg2 (ze6 d0 k) names) T=[]:=by
    apply Classical.byContradiction;intro hne;exact Bool.noConfusion (hb'.2 hne)
   rw[hT]at hem;rw[hask,hem]at hq;simp -dsimp only[B.cond_false];refine doc_grant s2 hs' hP hy (by omega) λh1 h' l1 d1=>hq h1 h' (zb.le_trans hle l1) ?_;rw[hid,hlast]at d1;rw[if_pos (by rfl),hwd];rw[hwd]at d1;exact d1
 refine B.zbc (λht=>?_) (λht=>?_)
 ·have ht:=of_decide_eq_true ht
  have ea:V.bin .add (.int .i64 d.zji) (.int .i64 1)=some (.int .i64 (d.zji+1)):=by rw[V.zh8,wrap_i64 (by omega) (by omega)]
  simp -dsimp only[B.zb9,V.zei,Nat.zero_add,B.ze,B.zeo,hd'.last,ea];exact main _ (by unfold zkr;rw[hwd,if_pos ht,hlast])
 ·have ht:=of_decide_eq_false ht
  exact main _ (by unfold zkr;rw[hwd,if_neg ht])
def zj.Spec(C:z6)(N:zN):Prop:=∀(h0 h:zb)(F:List Ob)(r:Nat)(d:DL)(k:Int)(names:List Key)(nx:za)(Rn:List (List za))(Q:zQ),DocA h0 h F r d->Fit d->d.L.length<100000->SlX h0 1 nx (names.map tc) Rn->names.length <= 100000->d.zji <= 1000000000->(∀h1 h',h0.le h1->DocA h1 h' F r (zku d k names).2->Q (.bool (zku d k names).1) h')->C (N 501) [.ptr r 0 0,.int .i64 k,nx] h Q
theorem zj.spec(i:zj.Imp C N)(s0:zbu.Spec C N)(s1:zef.Spec C N)(s2:zdz.Spec C N)(s3:zd7.Spec C N):zj.Spec C N:=by
 rintro h0 h F r d k names nx Rn Q ⟨x,P,R,hs⟩ hf hl hnx hn hb hq;have hd:=hs.read;have hPl:P.length=d.L.length:=by rw[<-hs.map,length_map]
 have hbl:=hf.zrs.last;apply i;simp -dsimp only[zj.cps,zj.k12];refine s0 h r x d k _ hd (by omega) (λj w hno hw hk=>?_) (λhno=>?_)
 ·have e0:V.bin .lss (.int .i64 (j:Int)) (.int .i64 0)=some (.bool false):=by rw[V.zfi,decide_eq_false (by omega)]
  have hj:=(List.getElem?_eq_some_iff.1 hw).1;obtain⟨⟨v,p,o⟩,hP⟩:=zg3 (L:=P) (k:=j) (by omega);have hv:v=w:=by
   have:d.L[j]?=some v:=by rw[<-hs.map,getElem?_map,hP];rfl
   rw[hw]at this;cases this;rfl
  subst hv;obtain⟨g1,g2,g3⟩:=ztv hno hw hk;have hwd:ze6 d k=v:=by unfold ze6;rw[g1];rfl
  simp -dsimp only[zj.k12,e0,B.ze,B.cond_false];exact zt2 s1 s2 s3 hs hf (by rw[hwd];exact hP) (by rw[hwd];exact hk) g2 rfl (λ_ _=>rfl) hnx hn hbl hb hq
 ·have e0:V.bin .lss (.int .i64 (-1)) (.int .i64 0)=some (.bool true):=rfl
  obtain⟨g1,g2,g3⟩:=ztu hno;have hwd:ze6 d k=⟨k,[],[],0⟩:=by unfold ze6;rw[g1];rfl
  have eb:A.bld [(0,none,.int .i64 k)] [.int .i64 0,.zdo,.zdo,.int .i64 0]=some (.agg [.int .i64 k,.zdo,.zdo,.int .i64 0]):=rfl;have ef:zeu [(0,some 4,.agg [.int .i64 k,.zdo,.zdo,.int .i64 0])] (zhu 1 [.int .i64 0,.zdo,.zdo,.int .i64 0])=some [.int .i64 k,.zdo,.zdo,.int .i64 0]:=rfl;simp -dsimp only[zj.k12,e0,B.ze,B.cond_true,B.zb9,V.zei,Nat.zero_add,B.zeo,hd.l,eb,ef];refine hs.own.push 1 rfl (cs:=[.int .i64 k,.zdo,.zdo,.int .i64 0]) rfl (by omega) (by rw[length_map];omega) (by rw[length_map];simp[maxLen]<;>omega) λx1 h1 o1 _=>?_;have o2:zcy h0 h1 ([.box (.ptr r 0 0) [x,.int .i64 d.zji],.sl 4 x1 ((P++[((⟨k,[],[],0⟩:DW),(za.zdo,za.zdo))]).map zn0.cs) []]++F):=by
   rw[map_append];exact o1
  have hc1:x1.zdx=true:=(o2.zhs 1 rfl).zdx;refine o2.zuf 0 rfl hc1 (by simp) λh2 o3 _=>?_;have s2':zsb h0 h2 F r x1 ⟨d.L++[⟨k,[],[],0⟩],d.zji⟩ (P++[((⟨k,[],[],0⟩:DW),(za.zdo,za.zdo))]) []:=by
   refine⟨o3,by rw[map_append,hs.map];rfl,λp hp=>?_⟩;rcases mem_append.1 hp with hp|hp
   ·exact hs.at_ p hp
   ·rw[mem_singleton.1 hp]
    exact⟨⟨[],SlX.zdo h0 1⟩,⟨[],SlX.zdo h0 1⟩⟩
  have hd2:=s2'.read;have l2:V.zcj x1=some (.int .i64 ((d.L.length+1:Nat):Int)):=by
   have:=hd2.zh4.zcj;simpa using this
  have es:V.bin .sub (.int .i64 ((d.L.length+1:Nat):Int)) (.int .i64 1)=some (.int .i64 (d.L.length:Int)):=by
   rw[V.zld,wrap_i64 (by omega) (by omega)];congr 2;omega
  simp -dsimp only[B.zb9,V.zei,Nat.zero_add,B.ze,B.zeo,hd2.l,l2,es];have hfit:Fit ⟨d.L++[⟨k,[],[],0⟩],d.zji⟩:=by
   refine⟨⟨hf.zrs.last,λw hw=>?_,?_⟩,by simp;omega,λw hw=>?_⟩
   ·rcases mem_append.1 hw with hw|hw
    ·exact hf.zrs.turns w hw
    ·rw[mem_singleton.1 hw];exact⟨Int.le_refl _,hf.zrs.last⟩
   ·rw[map_append,nodup_append]
    refine⟨hf.zrs.ids,by simp,λa ha b hb e=>?_⟩;obtain⟨w,hw,rfl⟩:=mem_map.1 ha;have hb:b=k:=by simpa using hb
    exact hno w hw (by rw[e,hb])
   ·rcases mem_append.1 hw with hw|hw
    ·exact hf.small w hw
    ·rw[mem_singleton.1 hw];simp
  refine zt2 (d0:=d) (k:=k) s1 s2 s3 s2' hfit (p:= .zdo) (o:= .zdo) ?_ (by rw[hwd]) (λv=>?_) rfl (λW T=>?_) hnx hn hbl hb hq
  ·rw[hwd,<-hPl,getElem?_append_right (Nat.le_refl _),Nat.sub_self];rfl
  ·rw[g2 v]
   rw[set_append_right _ _ (Nat.le_refl _),Nat.sub_self];rfl
  ·unfold zgh
   rw[filter_append,map_append];simp
variable{C:z6}{N:zN}
theorem zmw.fit{s:Lk}{d:DL}{k n:Nat}(hv:zmw s d k n)(hk:k <= 1000)(hn:n <= 100000):Fit d:=⟨hv.zrs,by have:=hv.len;omega,hv.small.mono hn⟩
theorem zcy.mid{h0 h:zb}{a b c:List Ob}(ho:zcy h0 h (a++(b++c))):zcy h0 h (b++a++c):=ho.perm (by
 rw[<-append_assoc]
 exact List.Perm.append_right c perm_append_comm)
def zed.Spec(C:z6)(N:zN):Prop:=∀(h:zb)(s:Lk)(r:Nat)(x:za)(d:DL)(k n:Nat)(w:Int)(Q:zQ),zmw s d k n->s.At h->DocR h r x d->k <= 1000->n <= 100000->(∀h',h.le h'->Q (.bool true) h')->C (N 483) [.ptr s.l 0 0,.ptr r 0 0,.int .i64 w] h Q
theorem zed.spec(i:zed.Imp C N)(sH:zcx.Spec C N)(sW:zcd.Spec C N)(sR:zy.Spec C N)(dH:zco.Spec C N)(dW:zbd.Spec C N)(dR:zr.Spec C N)(sT:zdk.Spec C N)(sL:zdl.Spec C N):zed.Spec C N:=by
 intro h s r x d k n w Q hv ha hd hk hn hq;have hf:=hv.fit hk hn;have e1:=hv.len;have hl:=zu4 hv.small w;have hwl:=zsr d w;apply i;simp -dsimp only[zed.cps,zed.k1];refine sH h s w _ ha hv.ok (Nat.le_trans (held_len hv.rel hv.ok w) (by omega)) λx1 h1 L p q o1=>?_;rw[zsk hv.rel hv.ok p q]at o1;refine dH h1 r x d w _ (hd.mono o1.le) (by omega) (by omega) λx2 h2 R2 l2 g2=>?_;have le2:=zb.le_trans o1.le l2;refine sT x1 x2 _ _ [] R2 _ _ ((o1.zhs 0 rfl).mono l2) g2 (by omega) ?_;rw[decide_eq_true (rfl:zh2 d w=zh2 d w)];simp -dsimp only[ B.zgx,B.zbg];refine sW h2 s w _ (ha.mono le2) hv.ok (by rw[hv.rel.len];omega) λx3 h3 o3=>?_;rw[ziy hv.rel hv.ok]at o3;simp -dsimp only[B.zgx,B.zbg];refine dW h3 r x d w _ (hd.mono (zb.le_trans le2 o3.le)) hf λx4 h4 R4 l4 g4=>?_;have le4:=zb.le_trans le2 (zb.le_trans o3.le l4);simp -dsimp only[B.zgx,B.zbg];refine sL x3 x4 _ _ [] R4 _ _ ((o3.zhs 0 rfl).mono l4) g4 (by omega) ?_;rw[decide_eq_true (rfl:ze7 d w=ze7 d w)];simp -dsimp only[ B.zgx,B.zbg,B.ze8];refine sR h4 s _ (ha.mono le4) hv.ok (by rw[hv.rel.len];omega) λh5 x5 L5 r5 o5=>?_;have rd:=zp0 hv.rel hv.ok r5;simp -dsimp only[B.zgx,B.zbg];refine dR h5 r x d _ (hd.mono (zb.le_trans le4 o5.le)) hf λx6 h6 L6 R6 l6 g6 r6=>?_;have e6:=zur r6 rd;subst e6;have rl:=zus rd;simp -dsimp only[B.zgx,B.zbg];refine sL x5 x6 _ _ [] R6 _ _ ((o5.zhs 0 rfl).mono l6) g6 (by omega) ?_;simp -dsimp only[decide_true,B.ze8];exact zbf (hq h6 (zb.le_trans le4 (zb.le_trans o5.le l6)))
def zej.Spec(C:z6)(N:zN):Prop:=∀(h0 h:zb)(s:Lk)(r:Nat)(d:DL)(k n:Nat)(t:Stp)(a:za)(R:List (List za))(Q:zQ),zmw s d k n->DocA h0 h s.obs r d->SlX h0 1 a (t.Names.map tc) R->k <= 900->n <= 10000->t.Names.length <= 10000->(∀(h1 h':zb)(s':Lk)(d':DL),h0.le h1->zmw s' d' (k+1) (n+t.Names.length)->s'.l=s.l->DocA h1 h' s'.obs r d'->(d'=zq6 d t.Work \/ d'=(zku d t.Work t.Names).2)->Q (.bool true) h')->C (N 484) [.ptr s.l 0 0,.ptr r 0 0,.agg (zmo.cells t a)] h Q
theorem zej.spec(i:zej.Imp C N)(sP:zf9.Spec C N)(sA:z8.Spec C N)(sF:zda.Spec C N)(dA:zj.Spec C N)(dF:zc6.Spec C N)(k1:zd0.Spec C N)(k2:zdm.Spec C N)(k3:zd8.Spec C N):zej.Spec C N:=by
 rintro h0 h s r d k n t a R Q hv ⟨x,P,Rx,hs⟩ ha hk hn hnl hq;have hlen:=hv.len;have hlast:=hv.last;have hf:=hv.fit (by omega) (by omega);apply i;have eb:A.boxN 3 (.agg (zmo.cells t a))=some (.agg (zmo.cells t a)):=by rw[boxN_agg];rfl
 have g0:V.zf6 0 (.agg (zmo.cells t a))=some (.int .i64 t.Op):=rfl;have g1:V.zf6 1 (.agg (zmo.cells t a))=some (.int .i64 t.Work):=rfl;have g2:V.zf6 2 (.agg (zmo.cells t a))=some a:=rfl;simp -dsimp only[zej.cps,zej.k1,eb,g0,B.zk6,B.ze];refine sP _ _ _ _ (by omega) (by omega) λp p0 p5=>?_;have e0:V.bin .eql (.int .i64 p) (.int .i64 0)=some (.bool (decide (p=0))):=by rw[V.zhr]
 simp -dsimp only[e0,B.ze];refine B.zbc (λhp=>?_) (λhp=>?_)
 ·simp -dsimp only[B.zk6,g1,B.ze]
  refine hv.free sF (w:=t.Work) hs.own λh1 s1 v1 o1 l1=>?_;simp -dsimp only[B.zk6,g1,B.ze];refine dF h0 h1 s1.obs r d t.Work _ ⟨x,P,Rx,⟨o1,hs.map,hs.at_⟩⟩ (by omega) λh2 d2=>?_;exact zbf (hq h0 h2 s1 _ (zb.le_refl _) (v1.mono (by omega) (by omega)) l1 d2 (.inl rfl))
 ·simp -dsimp only[B.zk6,g2,B.ze]
  refine k1 a t.Names R h _ (ha.mono hs.own.le) (by omega) λv h1 o1=>?_;simp -dsimp only[B.zk6,g1,g2,B.ze];have oj:zcy h0 h1 (([.sl 1 v (t.Names.map tc) zho]++dObs r x d.zji P Rx)++s.obs):=by
   have:=(hs.own.join o1).perm (perm_append_comm);rw[<-append_assoc]at this;exact this
  refine hv.ask sA (w:=t.Work) (names:=t.Names) (R:=zho) oj (by omega) (λH oH=>oH.zhs 0 rfl) (by omega) λh2 s2 v2 o2 l2=>?_;have o2':zcy h0 h2 (dObs r x d.zji P Rx++([.sl 1 v (t.Names.map tc) zho]++s2.obs)):=by
   rw[append_assoc]at o2;rw[<-append_assoc];exact o2.mid
  refine dA h0 h2 _ r d t.Work t.Names a R _ ⟨x,P,Rx,⟨o2',hs.map,hs.at_⟩⟩ hf (by omega) ha (by omega) (by omega) λh3 h4 l3 d4=>?_;obtain⟨x4,P4,R4,s4⟩:=d4;have own4:zcy h3 h4 ((dObs r x4 (zku d t.Work t.Names).2.zji P4 R4++s2.obs)++[.sl 1 v (t.Names.map tc) zho]):=by
   refine s4.own.perm ?_;rw[append_assoc];exact List.Perm.append_left _ perm_append_comm
  have hv4:SlX h4 1 v (t.Names.map tc) zho:=own4.is _ (mem_append_right _ (mem_singleton.2 rfl));simp -dsimp only[V.eqBool_eql,beq_self_eq_true,B.ze,B.zgx,B.zbg,B.zk6,g2];refine k2 v a t.Names t.Names R h4 _ hv4 (ha.mono (zb.le_trans l3 s4.own.le)) (by omega) ?_;simp -dsimp only[decide_true,B.ze8];obtain⟨q1,q2⟩:=own4.out;refine k3 _ h4 v _ _ _ q2 (by rfl) (by rw[length_map];omega) λh5 l5=>?_;exact zbf (hq h3 h5 s2 _ l3 v2 l2 ⟨x4,P4,R4,⟨q1.grow l5,s4.map,s4.at_⟩⟩ (.inr rfl))
structure zmx(h hh:zb)(l0:Nat)(r:Nat)(s:Lk)(d:DL)(k n:Nat):Prop where
 l:s.l=l0
 lived:zmw s d k n
 doc:∃h1,h.le h1 /\ DocA h1 hh s.obs r d
theorem zmx.at_{h hh:zb}{l0 r:Nat}{s:Lk}{d:DL}{k n:Nat}(g:zmx h hh l0 r s d k n):h.le hh /\ s.At hh /\ ∃x,DocR hh r x d:=by
 obtain⟨h1,l1,x,P,R,ds⟩:=g.doc;exact⟨zb.le_trans l1 ds.own.le,at_fr ds.own g.lived.ok,x,ds.read⟩
theorem zmx.grow{h hh h2:zb}{l0 r:Nat}{s:Lk}{d:DL}{k n:Nat}(g:zmx h hh l0 r s d k n)(hle:hh.le h2):zmx h h2 l0 r s d k n:=by
 obtain⟨h1,l1,x,P,R,ds⟩:=g.doc;exact⟨g.l,g.lived,h1,l1,x,P,R,ds.grow hle⟩
theorem zmx.step(sS:zej.Spec C N){h hh:zb}{l0 r:Nat}{s:Lk}{d:DL}{k n:Nat}(g:zmx h hh l0 r s d k n){t:Stp}{a:za}{R:List (List za)}(ha:SlX h 1 a (t.Names.map tc) R)(hk:k <= 900)(hn:n <= 10000)(hnl:t.Names.length <= 10000){Q:zQ}
  (hq:∀(h':zb)(s':Lk)(d':DL),zmx h h' l0 r s' d' (k+1) (n+t.Names.length)->(d'=zq6 d t.Work \/ d'=(zku d t.Work t.Names).2)->Q (.bool true) h'):C (N 484) [.ptr l0 0 0,.ptr r 0 0,.agg (zmo.cells t a)] hh Q:=by
 obtain⟨h1,l1,da⟩:=g.doc;rw[<-g.l];refine sS h1 hh s r d k n t a R Q g.lived da (ha.mono l1) hk hn hnl λh2 h' s' d' l2 v' ls dd hd=>hq h' s' d' ⟨ls.trans g.l,v',h2,zb.le_trans l1 l2,dd⟩ hd
theorem zmx.like(sK:zed.Spec C N){h hh:zb}{l0 r:Nat}{s:Lk}{d:DL}{k n:Nat}(g:zmx h hh l0 r s d k n)(hk:k <= 1000)(hn:n <= 100000){w:Int}{Q:zQ}(hq:∀h',hh.le h'->zmx h h' l0 r s d k n->Q (.bool true) h'):C (N 483) [.ptr l0 0 0,.ptr r 0 0,.int .i64 w] hh Q:=by
 obtain⟨g1,g2,x,g3⟩:=g.at_;rw[<-g.l];refine sK hh s r x d k n w Q g.lived g2 g3 hk hn λh' hle=>hq h' hle ?_;exact g.grow hle
theorem zmx.start{h h1:zb}{s:Lk}(k1:s.Ok)(w1:s.W=[])(l1:s.last=0)(o1:zcy h h1 s.obs){r:Nat}(hr:h1 r=none):zmx h (upd h1 r (zdr [.zdo,.int .i64 0])) s.l r s ⟨[],0⟩ 0 0:=by
 refine⟨rfl,zmw.zero k1 w1 l1,h,zb.le_refl _,.zdo,[],[],⟨?_,rfl,λp hp=>absurd hp (not_mem_nil)⟩⟩;have o2:=(o1.zor hr [.zdo,.int .i64 0]).zdo 4;rw[append_assoc]at o2;exact o2.perm perm_append_comm
end Go.Ab
namespace Go.Ab
open List
variable{C:z6}{N:zN}
def bagTL:BagK:=⟨λ_=>1,λ_=>100000000,λi=>decide (i=3)||decide (i=2)⟩
theorem flatLongs_eq:zl.cps=λC N v0 h Q=>zq (zek.l103 (zdd 8 (.int .i64 0) (N 20)) C Q v0) [.int .i64 0] h:=by kernel_rfl
theorem zl.spec(i:zl.Imp C N)(s1:zgs.Spec C N):zgb C 1 (N 82):=λt h0 h Q ht ho hq=>
 i t.x h Q ((congrFun (congrFun (congrFun (congrFun (congrFun flatLongs_eq C) N) t.x) h) (dn Q)).mpr <| zu7 (elS (bytes:=8) (z:= .int .i64 0) (mv:=λk i=> .int .i64 (mark k i)) (λ_ _=>rfl) (λ_ _=>by rw[V.zhr];simp) (by omega) s1) ht.is ho ht.n_le ht.zro λh' hle=>zbf (hq h' hle))
theorem zeh.spg(i:zeh.Imp C N)(f0:zdc C (N 80))(f1:zdc C (N 81))(s2:zgb C 1 (N 82))(s3:zgb C 1 (N 83))(f4:zdc C (N 84))(f5:zdc C (N 85))(f6:zdc C (N 86))(f7:zdc C (N 87))(f8:zdc C (N 88))(f9:zdc C (N 89))(f10:zdc C (N 90))(f11:zdc C (N 91))(f12:zdc C (N 92))(f13:zdc C (N 93))(f14:zdc C (N 94))(f15:zdc C (N 95))(f16:zdc C (N 96))(f17:zdc C (N 97))(f18:zdc C (N 98))(f19:zdc C (N 99))(f20:zdc C (N 100))(f21:zdc C (N 101))(f22:zdc C (N 102)):zvi C bagTL (N 62):=by
 have z:∀{j g:Nat},bagTL.full j=false->zdc C g->zhd C bagTL j g:=λh s=>⟨λe=>(by rw[h]at e;cases e),λ_=>s⟩;exact bag_apartK i bagTL (z rfl f0) (z rfl f1) ⟨λ_ t h0 h Q ht ho hq=>s2 t h0 h Q ⟨ht.is,ht.n_le,ht.zro⟩ ho hq,λe=>(by cases e)⟩ ⟨λ_ t h0 h Q ht ho hq=>s3 t h0 h Q ⟨ht.is,ht.n_le,ht.zro⟩ ho hq,λe=>(by cases e)⟩ (z rfl f4) (z rfl f5) (z rfl f6) (z rfl f7) (z rfl f8) (z rfl f9) (z rfl f10) (z rfl f11) (z rfl f12) (z rfl f13) (z rfl f14) (z rfl f15) (z rfl f16) (z rfl f17) (z rfl f18) (z rfl f19) (z rfl f20) (z rfl f21) (z rfl f22)
theorem oneTL{k:Nat}(hk:k=2 \/ k=3)(Lk:LK):bagOb bagTL (λi=>if i=k then Lk else []) 0 23=Lk.map (obK 1):=by
 have:List.range' 0 23=[0,1,2,3,4,5,6,7,8,9,10,11,12,13,14,15,16,17,18,19,20,21,22]:=rfl;unfold bagOb;rw[this];rcases hk with rfl|rfl<;>simp[bagTL]
theorem zd2.spec(i:zd2.Imp C N):zpq C 2 (N 550):=λh hh id B y Q hb hy hl hq=>i _ _ hh Q (putG_spec (k:=2) (by omega) hb hy hl λh' hb'=>zbf (hq h' hb'))
theorem zdf.spg(i:zdf.Imp C N)(s1:zpq C 3 (N 405))(s2:zvi C bagTL (N 62)):zgb C 1 (N 396):=λt h0 h Q ht ho hq=>i t.x h Q (zt3 (k:=3) (by omega) (λi h e=>by subst e;cases h) (oneTL (.inr rfl)) (Nat.le_refl _) s1 s2 ht ho λh' hle=>zbf (hq h' hle))
theorem zdg.spg(i:zdg.Imp C N)(s1:zpq C 2 (N 550))(s2:zvi C bagTL (N 62)):zgb C 1 (N 548):=λt h0 h Q ht ho hq=>i t.x h Q (zt3 (k:=2) (by omega) (λi h e=>by subst e;cases h) (oneTL (.inl rfl)) (Nat.le_refl _) s1 s2 ht ho λh' hle=>zbf (hq h' hle))
theorem flat_lits{f:Nat}(s:zgb C 1 f){h0 h:zb}(l:LK)(hl:l.length <= 100)(hd:∀q:za×List (List za),q∈l->q.2.length <= 100000)(hc:∀q:za×List (List za),q∈l->q.1.zdx=true)(ho:zcy h0 h (List.map (obK 1) l)){Q:zQ}(hq:∀h',h0.le h'->Q (.bool true) h'):∀id,h id=none->C f [.sl id 0 0 l.length 1 l.length] (upd h id (zdr (List.map (λq:za×List (List za)=>q.1) l))) Q:=by
 intro id hid;have e:(List.map (λq:za×List (List za)=>q.1) l)=((List.map (λq:za×List (List za)=>[q.1]) l)++[]).flatten:=by
  rw[append_nil];clear ho hl hd hc
  induction l with
  | nil=>rfl
  | cons n r ih=>rw[map_cons,map_cons,flatten_cons,ih];rfl
 have o1:=ho.newSl (id:=id) (n:=l.length) (cp:=l.length) (es:=1) (cs:=List.map (λq:za×List (List za)=>q.1) l) (L:=List.map (λq:za×List (List za)=>[q.1]) l) (R:=[]) hid (λp hp=>by
  rw[append_nil]at hp;obtain⟨n,_,rfl⟩:=mem_map.1 hp;rfl) (by simp) (by simp) e
 obtain⟨q1,q2⟩:=(o1.perm (perm_append_comm)).out;have hg:∀j,j<l.length->l.getD j (.zdo,[])∈l:=λj hj=>by
  rw[getD_eq_getElem?_getD,getElem?_eq_getElem hj];exact getElem_mem hj
 refine s (l.ll (.sl id 0 0 l.length 1 l.length)) _ _ Q ⟨?_,by show l.length <= _;omega,λj hj=>?_⟩ (by rw[LK.obs];exact q2) λh' hle=>hq h' (zb.le_trans q1.le hle)
 ·have e2:(List.map (λq:za×List (List za)=>[q.1]) l)=zhf l.length λj=>[(l.getD j (.zdo,[])).1]:=by
   apply ext_getElem?;intro j;by_cases hj:j<l.length
   ·simp[zhf,hj]
   ·simp[zhf,hj]
  have:=q1.zhs 0 rfl;rw[e2]at this;exact this
 ·have:=hd _ (hg j hj)
  show ((l.getD j (.zdo,[])).2).length <= _;omega
def LongD(d:DL):Prop:=∀w∈d.L,(∀n∈w.zff,n.length<4611686018427387904) /\ (∀n∈w.zga,n.length<4611686018427387904)
theorem mem_wantD{w:DW}{names:List Key}{n:Key}(h:n∈zg2 w names):n∈w.zga \/ n∈names:=by
 unfold zg2 at h;revert h;generalize w.zga=a
 induction names generalizing a with
 | nil=>exact .inl
 | cons x r ih=>
  intro h;rw[foldl_cons]at h;rcases ih _ h with h|h
  ·split at h
   ·rcases znr.1 h with rfl|h
    ·exact .inr (mem_cons_self ..)
    ·exact .inl h
   ·exact .inl h
  ·exact .inr (mem_cons_of_mem _ h)
theorem zui{d:DL}(h:LongD d)(k:Int):(∀n∈(ze6 d k).zff,n.length<4611686018427387904) /\ (∀n∈(ze6 d k).zga,n.length<4611686018427387904):=by
 unfold ze6;cases e:findD d.L k with
 | none=>exact⟨λn hn=>absurd hn (not_mem_nil),λn hn=>absurd hn (not_mem_nil)⟩
 | some w=>exact h w (zlx e).1
theorem ask_long{d:DL}(h:LongD d)(k:Int){names:List Key}(hn:∀n∈names,n.length<4611686018427387904):LongD (zku d k names).2:=by
 obtain⟨h1,h2⟩:=zui h k;have hw:∀n∈zg2 (ze6 d k) names,n.length<4611686018427387904:=λn hm=>(mem_wantD hm).elim (h2 n) (hn n);unfold zku;simp only;split
 ·intro w hm
  rcases zk1 hm with rfl|hm
  ·exact⟨λn hh=>(mem_puts.1 hh).elim (h1 n) (hw n),λn hh=>absurd hh (not_mem_nil)⟩
  ·exact h w hm
 ·intro w hm
  rcases zk1 hm with rfl|hm
  ·exact⟨h1,hw⟩
  ·exact h w hm
theorem free_long{d:DL}(h:LongD d)(k:Int):LongD (zq6 d k):=λw hw=>h w (zns hw)
theorem holds_long{d:DL}(h:LongD d)(k:Int):∀n∈zh2 d k,n.length<4611686018427387904:=by
 rw[holdsD_work];exact(zui h k).1
variable{C:z6}{N:zN}
theorem addS(a b:List UInt8)(h:a.length+b.length<9000000000000000000):V.bin .add (.str a) (.str b)=some (.str (a++b)):=by
 show V.strOp .add a b=_;unfold V.strOp;have e:IntKind.i64.max=9223372036854775807:=rfl;rw[if_neg (by rw[e];omega)]
def zo.Spec(C:z6)(N:zN):Prop:=∀(x:za)(L:List Stp)(w:Int)(h:zb)(Q:zQ),Dl zmo h x L->L.length<4611686018427387904->(∀t∈L,t.inLen)->Q (.bool true) h->C (N 549) [x,.int .i64 w] h Q
structure Six2 where
 a:za
 b:za
 c:za
 d:za
 e:za
 f:za
def Six2.obs(z:Six2)(A B C D E F:List (List za)):List Ob:=[.sl 1 z.a A [],.sl 1 z.b B [],.sl 1 z.c C [],.sl 1 z.d D [],.sl 1 z.e E [],.sl 1 z.f F []]
theorem apart_end(sE:zec.Spec C N)(sK:zed.Spec C N)(s1:zgb C 1 (N 396))(s2:zgb C 1 (N 548)){h hh h2:zb}{l0 r:Nat}{s:Lk}{d:DL}{k n:Nat}(g:zmx h hh l0 r s d k n)(hk:k <= 1000)(hn:n <= 100000){w:Int}{z:Six2}{TA TB TC TD TE TF:List (List za)}(ho:zcy hh h2 (z.obs TA TB TC TD TE TF))
  (b1:TA.length <= 100000) (b2:TB.length <= 100000) (b3:TC.length <= 100000) (b4:TD.length <= 100000) (b5:TE.length <= 100000) (b6:TF.length <= 100000) {Q:zQ} (hq:Q (.bool true) h):zo.k1 C N (dn Q) (.int .i64 w) (.ptr l0 0 0) (.ptr r 0 0) z.a z.b z.c z.d z.e z.f h2:=by
 have hle2:=(g.grow ho.le).at_.1;simp -dsimp only[zo.k1];refine(g.grow ho.le).like sK hk hn λh3 hle3 g3=>?_;have o3:=ho.grow hle3;obtain⟨q1,q2⟩:=(o3.perm (perm_append_comm (l₁:=[Ob.sl 1 z.a TA [],.sl 1 z.b TB []]) (l₂:=[Ob.sl 1 z.c TC [],.sl 1 z.d TD [],.sl 1 z.e TE [],.sl 1 z.f TF []]))).out;have oA:zcy _ h3 (List.map (obK 1) [(z.a,TA),(z.b,TB)]):=q2;have fA:zeu [(0,none,z.a),(1,none,z.b)] (zhu 2 [.zdo])=some [z.a,z.b]:=by
  have c1:=(ho.zhs 0 rfl).zdx;have c2:=(ho.zhs 1 rfl).zdx;simp[c1,c2,zhu]
 have fB:zeu [(0,none,z.c),(1,none,z.d),(2,none,z.e),(3,none,z.f)] (zhu 4 [.zdo])=some [z.c,z.d,z.e,z.f]:=by
  have c3:=(ho.zhs 2 rfl).zdx;have c4:=(ho.zhs 3 rfl).zdx;have c5:=(ho.zhs 4 rfl).zdx;have c6:=(ho.zhs 5 rfl).zdx;simp[c3,c4,c5,c6,zhu]
 simp -dsimp only[B.zgx,B.zbg,fA];intro i hi;simp -dsimp only[B.zgx,B.zbg]
 refine flat_lits s1 [(z.a,TA),(z.b,TB)] (by simp) (λq hq=>by
  simp only[mem_cons,not_mem_nil,or_false]at hq;rcases hq with rfl|rfl<;>simp only<;>omega) (λq hq=>by
  simp only[mem_cons,not_mem_nil,or_false]at hq;rcases hq with rfl|rfl
  ·exact(o3.zhs 0 rfl).zdx
  ·exact(o3.zhs 1 rfl).zdx) oA (λh4 hle4=>?_) i hi
 have oB:zcy hh h4 (List.map (obK 1) [(z.c,TC),(z.d,TD),(z.e,TE),(z.f,TF)]):=q1.grow hle4;simp -dsimp only[B.zgx,B.zbg,B.ze8,fB];intro i2 hi2;simp -dsimp only[B.zgx,B.zbg]
 refine flat_lits s2 [(z.c,TC),(z.d,TD),(z.e,TE),(z.f,TF)] (by simp) (λq hq=>by
  simp only[mem_cons,not_mem_nil,or_false]at hq;rcases hq with rfl|rfl|rfl|rfl<;>simp only<;>omega) (λq hq=>by
  simp only[mem_cons,not_mem_nil,or_false]at hq;rcases hq with rfl|rfl|rfl|rfl
  ·exact(oB.zhs 0 rfl).zdx
  ·exact(oB.zhs 1 rfl).zdx
  ·exact(oB.zhs 2 rfl).zdx
  ·exact(oB.zhs 3 rfl).zdx) oB (λh5 hle5=>?_) i2 hi2
 simp -dsimp only[B.zgx,B.zbg,B.ze8];refine sE _ _ ?_;simp -dsimp only[B.ze8];exact dn_le (zb.le_trans (zb.le_trans g.at_.1 (zb.le_refl _)) hle5) hq
theorem apart_mid(sE:zec.Spec C N)(sK:zed.Spec C N)(s1:zgb C 1 (N 396))(s2:zgb C 1 (N 548)){h hh h2:zb}{l0 r:Nat}{s:Lk}{d:DL}{k n:Nat}(g:zmx h hh l0 r s d k n)(hk:k <= 1000)(hn:n <= 100000){w:Int}{z:Six2}{LA:List Key}{LE:List Int}{TB TC TD TF:List (List za)}(ho:zcy hh h2 (z.obs (LA.map tc) TB TC TD (LE.map icl) TF))
  (hlong:∀n∈LA,n.length<4611686018427387904) (b1:LA.length <= 100000) (b2:TB.length <= 100000) (b3:TC.length <= 100000) (b4:TD.length <= 100000) (b5:LE.length <= 100000) (b6:TF.length <= 100000) {Q:zQ} (hq:Q (.bool true) h):zq (zo.l5 C N (dn Q) (.int .i64 w) (.ptr l0 0 0) (.ptr r 0 0) z.a z.b z.c z.d z.e z.f) [.int .i64 0] h2:=by
 refine zq.intro (λt vs h3=>∃(j:Nat)(M:List Key),j+t=LA.length /\ vs=[.int .i64 (j:Int)] /\ M.length=LA.length /\ (∀i,j <= i->M[i]?=LA[i]?) /\ zcy hh h3 (z.obs (M.map tc) TB TC TD (LE.map icl) TF)) LA.length ?_ ⟨0,LA,by omega,rfl,rfl,λ_ _=>rfl,ho⟩;rintro Y t vs h3 ⟨j,M,hjt,rfl,hM,hMi,o3⟩ hY;have hx:=o3.zhs 0 rfl;have lx:V.zcj z.a=some (.int .i64 (LA.length:Int)):=by rw[<-hM];simpa using hx.zcj
 simp -dsimp only[zo.l5,zo.k4,lx,zr3,B.ze];by_cases hj:j<LA.length
 ·obtain⟨a,ha⟩:=zg3 hj
  have haM:M[j]?=some a:=by rw[hMi j (Nat.le_refl _),ha]
  have hal:=hlong a (mem_of_getElem? ha);have i1:V.zcp 1 z.a (.int .i64 (j:Int))=some (elp 1 z.a j 0):=hx.zmd (by rw[length_map];omega);have hcell:(M.map tc)[j]?=some (tc a):=by rw[getElem?_map,haM];rfl
  have c1:A.ldv h3 (elp 1 z.a j 0)=some (.str a):=hx.cell hcell;simp -dsimp only[hj,decide_true,B.cond_true,i1,c1,B.zeo,B.ze,addS a [120] (by simp;omega)];refine o3.st 0 rfl hcell (by omega) rfl λh4 o4 _=>?_;simp -dsimp only[zh3 (show j<4611686018427387904 by omega),B.ze];refine hY (t-1) _ _ (by omega) ⟨j+1,M.set j (a++[120]),by omega,rfl,by rw[length_set,hM],λi hi=>?_,?_⟩
  ·rw[getElem?_set_ne (by omega)]
   exact hMi i (by omega)
  ·have e:(M.map tc).set j ((tc a).set 0 (.str (a++[120])))=(M.set j (a++[120])).map tc:=by rw[map_set];rfl
   rw[e]at o4;exact o4
 simp -dsimp only[hj,decide_false,B.cond_false];clear hY;refine zq.intro (λt vs h4=>∃(i:Nat)(E:List Int),i+t=LE.length /\ vs=[.int .i64 (i:Int)] /\ E.length=LE.length /\ zcy hh h4 (z.obs (M.map tc) TB TC TD (E.map icl) TF)) LE.length ?_ ⟨0,LE,by omega,rfl,rfl,o3⟩;rintro Y u vs h4 ⟨i,E,hiu,rfl,hE,o4⟩ hY;have hy:=o4.zhs 4 rfl;have ly:V.zcj z.e=some (.int .i64 (LE.length:Int)):=by rw[<-hE];simpa using hy.zcj
 simp -dsimp only[zo.l3,zo.k2,ly,zr3,B.ze];by_cases hi:i<LE.length
 ·obtain⟨a,ha⟩:=zg3 (L:=E) (k:=i) (by omega)
  have i1:V.zcp 1 z.e (.int .i64 (i:Int))=some (elp 1 z.e i 0):=hy.zmd (by rw[length_map];omega);have hcell:(E.map icl)[i]?=some (icl a):=by rw[getElem?_map,ha];rfl
  have c1:A.ldv h4 (elp 1 z.e i 0)=some (.int .i64 a):=hy.cell hcell;simp -dsimp only[hi,decide_true,B.cond_true,i1,c1,B.zeo,B.ze,V.zh8];refine o4.st 4 rfl hcell (by omega) rfl λh5 o5 _=>?_;simp -dsimp only[zh3 (show i<4611686018427387904 by omega),B.ze];refine hY (u-1) _ _ (by omega) ⟨i+1,E.set i (IntKind.i64.wrap (a+1)),by omega,rfl,by rw[length_set,hE],?_⟩
  ·have e:(E.map icl).set i ((icl a).set 0 (.int .i64 (IntKind.i64.wrap (a+1))))=(E.set i (IntKind.i64.wrap (a+1))).map icl:=by rw[map_set];rfl
   rw[e]at o5;exact o5
 simp -dsimp only[hi,decide_false,B.cond_false];exact apart_end sE sK s1 s2 g hk hn o4 (by rw[length_map];omega) b2 b3 b4 (by rw[length_map];omega) b6 hq
theorem apart_k10(sE:zec.Spec C N)(sN:zf3.Spec C N)(sS:zej.Spec C N)(sK:zed.Spec C N)(sH:zcx.Spec C N)(sW:zcd.Spec C N)(sR:zy.Spec C N)(sT:zdk.Spec C N)(sL:zdl.Spec C N)(s1:zgb C 1 (N 396))(s2:zgb C 1 (N 548)){x:za}{L:List Stp}{w:Int}{h:zb}{Q:zQ}(hx:Dl zmo h x L)(hlen:L.length <= 60)(hin:∀t∈L,t.inLen)(hsm:zmk L <= 2000)(hq:Q (.bool true) h):zo.k10 C N (dn Q) x (.int .i64 w) h:=by
 simp -dsimp only[zo.k10];refine sN h _ λh1 s k1 w1 l1 o1=>?_;have eb:A.bld [] [.zdo,.int .i64 0]=some (.agg [.zdo,.int .i64 0]):=rfl;have ec:A.zj4 2 (.agg [.zdo,.int .i64 0])=some [.zdo,.int .i64 0]:=rfl;simp -dsimp only[eb,ec,B.ze];intro r hr;refine zq.intro (λt vs hh=>∃(k:Nat)(s':Lk)(d:DL),k+t=L.length /\ vs=[.int .i64 (k:Int)] /\ zmx h hh s.l r s' d k (zmk (L.take k)) /\ LongD d) L.length ?_ ⟨0,s,_,by omega,rfl,zmx.start k1 w1 l1 o1 hr,λw hw=>absurd hw (not_mem_nil)⟩;rintro Y t vs hh ⟨k,s',d,ht,rfl,g,hlg⟩ hY;obtain⟨hle,hat,_⟩:=g.at_;have hxx:=hx.mono hle;have hnk:=namesN_le (L:=L) (k:=k);simp -dsimp only[zo.l9,zo.k8,hxx.zcj,zr3,B.ze];by_cases hk:k<L.length
 ·obtain⟨p,hp⟩:=zg3 hk
  have hnk1:=namesN_le (L:=L) (k:=k+1);have hns:=ztg hp;have hpin:=hin p (mem_of_getElem? hp);obtain⟨a,ea⟩:=stp_get hx hp;obtain⟨R,ha⟩:=ea.at_;obtain⟨a1,ea1⟩:=stp_get hxx hp;have e2:a1=a:=by
   have q2:=ea1.l2;rw[ea.mono' hle hx hp]at q2;cases q2;rfl
  subst e2;simp -dsimp only[hk,decide_true,B.cond_true,ea1.idx,ea1.ldn,B.ldn_eq,B.ze];refine g.step sS (t:=p) ha (by omega) (by omega) (by omega) λh2 s2 d2 g2 hd2=>?_;rw[<-hns]at g2;simp -dsimp only[V.zgj,Bool.not_true,B.ze,B.cond_false,zh3 (show k<4611686018427387904 by omega)];refine hY (t-1) _ _ (by omega) ⟨k+1,s2,d2,by omega,rfl,g2,?_⟩;rcases hd2 with rfl|rfl
  ·exact free_long hlg _
  ·exact ask_long hlg _ hpin.2
 simp -dsimp only[hk,decide_false,B.cond_false];clear hY;have hv:=g.lived;have e1:=hv.len;have hl:=zu4 hv.small w;have hwl:=zsr d w;have hhe:(ztr s' w).length <= 100000:=Nat.le_trans (held_len hv.rel hv.ok w) (by omega);have hWl:s'.W.length <= 100000:=by rw[hv.rel.len];omega
 rw[<-g.l];refine sH hh s' w _ hat hv.ok hhe λxa ha LA pa qa oa=>?_;rw[zsk hv.rel hv.ok pa qa]at oa;refine sH ha s' w _ (hat.mono oa.le) hv.ok hhe λxb hb LB pb qb ob=>?_;rw[zsk hv.rel hv.ok pb qb]at ob;have ob2:=oa.join ob;simp -dsimp only[zo.k7];refine sW hb s' w _ (hat.mono ob2.le) hv.ok hWl λxc hc oc=>?_;rw[ziy hv.rel hv.ok]at oc;have oc2:=ob2.join oc;refine sW hc s' w _ (hat.mono oc2.le) hv.ok hWl λxd hd od=>?_;rw[ziy hv.rel hv.ok]at od;have od2:=oc2.join od;refine sR hd s' _ (hat.mono od2.le) hv.ok hWl λhe xe LE re oe=>?_;have oe2:=od2.join oe;refine sR he s' _ (hat.mono oe2.le) hv.ok hWl λhf xf LF rf of=>?_;have of2:=oe2.join of;have eF:LF=LE:=zur (zp0 hv.rel hv.ok rf) (zp0 hv.rel hv.ok re);subst eF;have rl:=zus (zp0 hv.rel hv.ok rf);have oz:zcy hh hf ((⟨xa,xb,xc,xd,xe,xf⟩:Six2).obs ((zh2 d w).map tc) ((zh2 d w).map tc) ((ze7 d w).map icl) ((ze7 d w).map icl) (LF.map icl) (LF.map icl)):=of2;simp -dsimp only[zo.k6];refine sT xa xb _ _ [] [] _ _ (oz.zhs 0 rfl) (oz.zhs 1 rfl) (by omega) ?_;rw[decide_eq_true (rfl:zh2 d w=zh2 d w)];simp -dsimp only[V.zgj,Bool.not_true,B.ze,B.zqj,Bool.not_false,B.zbg];refine sL xc xd _ _ [] [] _ _ (oz.zhs 2 rfl) (oz.zhs 3 rfl) (by omega) ?_;rw[decide_eq_true (rfl:ze7 d w=ze7 d w)];simp -dsimp only[V.zgj,Bool.not_true,B.ze,B.zqj,Bool.not_false,B.zbg,B.zhc];refine sL xe xf _ _ [] [] _ _ (oz.zhs 4 rfl) (oz.zhs 5 rfl) (by omega) ?_;rw[decide_eq_true (rfl:LF=LF)];simp -dsimp only[V.zgj,Bool.not_true,B.ze,B.zqj,Bool.not_false,B.zbg,B.zhc,B.cond_false];have gl:zmx h hh s'.l r s' d k (zmk (L.take k)):=⟨rfl,g.lived,g.doc⟩;exact apart_mid sE sK s1 s2 (z:=⟨xa,xb,xc,xd,xe,xf⟩) gl (by omega) (by omega) oz (holds_long hlg w) (by omega) (by rw[length_map];omega) (by rw[length_map];omega) (by rw[length_map];omega) (by omega) (by rw[length_map];omega) hq
theorem zo.spec(i:zo.Imp C N)(s0:zec.Spec C N)(s2:zcs.Spec C N)(sN:zf3.Spec C N)(sS:zej.Spec C N)(sK:zed.Spec C N)(sH:zcx.Spec C N)(sW:zcd.Spec C N)(sR:zy.Spec C N)(sT:zdk.Spec C N)(sL:zdl.Spec C N)(a1:zgb C 1 (N 396))(a2:zgb C 1 (N 548)):zo.Spec C N:=by
 intro x L w h Q hx hlen hin hq;apply i;have g60:V.bin .gtr (.int .i64 (L.length:Int)) (.int .i64 60)=some (.bool (decide (60<L.length))):=by rw[V.zpn];congr 3;exact propext (by omega)
 have core:∀(y:za)(M:List Stp),Dl zmo h y M->M.length <= 60->(∀t∈M,t.inLen)->B.call C (N 486) [y] h λv22 h=>B.cond v22 (B.call C (N 482) [] h λv23 h=>dn Q v23 h) (zo.k10 C N (dn Q) y (.int .i64 w) h):=λy M hy hM hin=>by
  refine s2 _ _ _ _ hy (by omega) hin λbg hbg=>?_;cases bg with
  | true=>
   simp -dsimp only[B.cond_true];refine s0 _ _ ?_;exact zbf hq
  | false=>
   simp -dsimp only[B.cond_false];exact apart_k10 s0 sN sS sK sH sW sR sT sL a1 a2 hy hM hin (hbg rfl) hq
 simp -dsimp only[zo.cps,zo.k11,hx.zcj,g60,B.ze];refine B.zbc (λhb=>?_) (λhb=>?_)
 ·have hb:=of_decide_eq_true hb
  obtain⟨y,e1,e2⟩:=hx.upTo (m:=60) (by omega);have e1:V.zjp 3 x none (some (.int .i64 60))=some y:=e1;simp -dsimp only[e1,B.ze];exact core y _ e2 (by rw[length_take];omega) (λt ht=>hin t (mem_of_mem_take ht))
 ·have hb:=of_decide_eq_false hb
  exact core x _ hx (by omega) hin
end Go.Ab
