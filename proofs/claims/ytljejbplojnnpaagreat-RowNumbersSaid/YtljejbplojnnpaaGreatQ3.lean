/- What is proved: a part of the way to the statement: AcB. No conditions. -/
import Derived.Test.YtljejbplojnnpaaGreatQ2
import Derived.KernelRfl
set_option linter.unusedVariables false
set_option linter.unusedSimpArgs false
namespace Go.Ab
open List
def cC:a7->Option Nat | .sl id _ _ _ _ _=>some id | .ptr id _ _=>some id | .mp id=>some id|_=>none
structure aJ(h:a9)(es:Nat)(x:a7)(L R:List (List a7)):Prop where
 len:∀p∈L++R,p.length=es
 at_:(L=[] /\ R=[] /\ (x= .aA \/ x= .sz)) \/ ∃id g off cp b hi,x= .sl id g off L.length es cp /\ L.length+R.length <= max L.length cp /\ h id=some b /\ b.eE.lookup g=some hi /\
  off+(L.length+R.length)*es <= hi /\ hi <= b.cells.length /\ (b.cells.drop off).take ((L.length+R.length)*es)=(L++R).flatten
abbrev yX(h:a9)(es:Nat)(x:a7)(L:List (List a7)):Prop:=aJ h es x L []
theorem aJ.aA(h:a9)(es:Nat):aJ h es .aA [] []:=⟨λ_ a=>(by cases a),.inl ⟨rfl,rfl,.inl rfl⟩⟩
theorem aJ.sz(h:a9)(es:Nat):aJ h es .sz [] []:=⟨λ_ a=>(by cases a),.inl ⟨rfl,rfl,.inr rfl⟩⟩
theorem flat_get{α:Type}{n:Nat}:∀{css:List (List α)},(∀cs∈css,cs.length=n)->∀(i f:Nat)(c:List α),css[i]?=some c->f<n->css.flatten[i*n+f]?=c[f]?
 | [],_,_,_,_,h,_=>by simp at h
 | c0::css,a,0,f,c,h,d=>by
  simp only[getElem?_cons_zero,Option.some.injEq]at h
  subst h
  have:=a c0 (by simp)
  rw[flatten_cons,Nat.zero_mul,Nat.zero_add,getElem?_append_left (by omega)]
 | c0::css,a,i+1,f,c,h,d=>by
  simp only[getElem?_cons_succ]at h
  have h0:=a c0 (by simp)
  rw[flatten_cons,getElem?_append_right (by rw[h0,Nat.add_mul];omega),<-flat_get (λcs b=>a cs (by simp[b])) i f c h d]
  congr 1
  rw[h0,Nat.add_mul];omega
theorem ve{α:Type}{n:Nat}:∀{css:List (List α)},(∀cs∈css,cs.length=n)->css.flatten.length=css.length*n
 | [],_=>by simp
 | c::css,b=>by
  have d:c.length=n:=b c (by simp)
  rw[flatten_cons,length_append,ve (λcs a=>b cs (by simp[a])),d,length_cons,Nat.add_mul]
  omega
section
variable{h H h0:a9}{es:Nat}{x:a7}{L R:List (List a7)}
theorem aJ.mono(a:aJ h es x L R)(hle:h.le H):aJ H es x L R:=by
 refine⟨a.len,?_⟩;rcases a.at_ with e|⟨id,g,off,cp,b,hi,h1,fl,j,i,f,c,d⟩
 ·exact .inl e
 ·exact .inr ⟨id,g,off,cp,b,hi,h1,fl,hle _ _ j,i,f,c,d⟩
theorem aJ.dQ(a:aJ h es x L R)(hk:∀id b,cC x=some id->h id=some b->H id=some b):aJ H es x L R:=by
 refine⟨a.len,?_⟩;rcases a.at_ with e|⟨id,g,off,cp,b,hi,h1,fl,j,i,f,c,d⟩
 ·exact .inl e
 ·exact .inr ⟨id,g,off,cp,b,hi,h1,fl,hk _ _ (by rw[h1];rfl) j,i,f,c,d⟩
theorem aJ.bQ(d:aJ h es x L R){id:Nat}{b:fB}(a:cC x≠some id):aJ (bQ h id b) es x L R:=
 d.dQ λj c f g=>by rw[cQ];exact g;intro e;subst e;exact a f
theorem aJ.known(a:aJ h es x L R){id:Nat}(hx:cC x=some id):∃b,h id=some b:=by
 rcases a.at_ with⟨_,_,e|e⟩|⟨id,g,off,cp,b,hi,h1,fl,c,_⟩
 ·subst e;cases hx
 ·subst e;cases hx
 ·subst h1;cases hx;exact⟨b,c⟩
theorem aJ.cut(a:aJ h es x L R):yX h es x L:=by
 refine⟨λp c=>a.len p (by simpa using .inl (by simpa using c)),?_⟩;rcases a.at_ with⟨e,_,n⟩|⟨id,g,off,cp,b,hi,h1,fl,m,l,k,f,j⟩
 ·exact .inl ⟨e,rfl,n⟩
 ·have d:∀p∈L,p.length=es:=λp c=>a.len p (mem_append_left _ c)
  have i:=ve d;refine .inr ⟨id,g,off,cp,b,hi,h1,by simp;omega,m,l,?_,f,?_⟩
  ·simp only[length_nil,Nat.add_zero];rw[Nat.add_mul]at k;omega
  ·simp only[length_nil,Nat.add_zero,append_nil]
   have:((b.cells.drop off).take ((L.length+R.length)*es)).take (L.length*es)=L.flatten:=by
    rw[j,flatten_append,take_append_of_le_length (by omega),take_of_length_le (by omega)]
   rw[<-this,take_take,Nat.min_eq_left];rw[Nat.add_mul];omega
theorem aJ.aE(c:aJ h es x L R):V.aE x=some (.int .i64 L.length):=by
 rcases c.at_ with⟨e,_,a|a⟩|⟨id,g,off,cp,b,hi,h1,_⟩
 ·subst e a;rfl
 ·subst e a;rfl
 ·subst h1;rfl
theorem aJ.aI(c:aJ h es x L R):x.aI=true:=by
 rcases c.at_ with⟨e,_,a|a⟩|⟨id,g,off,cp,b,hi,h1,_⟩
 ·subst a;rfl
 ·subst a;rfl
 ·subst h1;rfl
theorem aJ.jR(c:aJ h es x L R):A.jR x=some L.length:=by
 rcases c.at_ with⟨e,_,a|a⟩|⟨id,g,off,cp,b,hi,h1,_⟩
 ·subst e a;rfl
 ·subst e a;rfl
 ·subst h1;rfl
def aV(es:Nat)(x:a7)(i f:Nat):a7:=
 match x with
 | .sl id g off _ _ _=> .ptr id g (off+i*es+f)
 | _=> .undef
theorem aJ.idx(c:aJ h es x L R){k:IntKind}{n:Int}(h0:0 <= n)(a:n<L.length):V.aM es x (.int k n)=some (aV es x n.toNat 0):=by
 rcases c.at_ with⟨e,_⟩|⟨id,g,off,cp,b,hi,h1,_⟩
 ·subst e;simp at a;omega
 ·subst h1
  simp[V.aM,aV,h0,a]
theorem aJ.dF(a:aJ h es x L R){k:IntKind}{i:Nat}(b:i<L.length):V.aM es x (.int k i)=some (aV es x i 0):=by
 have:=a.idx (k:=k) (n:=(i:Int)) (by omega) (by omega);simpa using this
theorem aJ.jF(a:aJ h es x L R){i:Nat}(c:i<L.length)(f o:Nat):V.fieldAddr o (aV es x i f)=some (aV es x i (f+o)):=by
 rcases a.at_ with⟨e,_⟩|⟨id,g,off,cp,b,hi,h1,_⟩
 ·subst e;simp at c
 ·subst h1
  simp[aV,Nat.add_assoc]
theorem aJ.Qi(a:aJ h es x L R){i f:Nat}{c:List a7}(hi:i<L.length)(k:(L++R)[i]?=some c)(j:f<es):A.bX h (aV es x i f)=c[f]? :=by
 rcases a.at_ with⟨e,q,_⟩|⟨id,g,off,cp,b,dZ,h1,fl,n,m,p,o,l⟩
 ·subst e;simp at hi
 ·have hm:i*es+f<(L.length+R.length)*es:=by
   have:(i+1)*es <= (L.length+R.length)*es:=Nat.mul_le_mul_right _ (by omega);rw[Nat.add_mul]at this;omega
  subst h1;have d:=flat_get a.len i f c k j;rw[<-l,getElem?_take_of_lt hm,getElem?_drop]at d;simp only[aV,A.bX,n,m];rw[if_pos (by omega),Nat.add_assoc,d]
theorem aJ.bX(b:aJ h es x L R){i f:Nat}{c:List a7}(a:L[i]?=some c)(d:f<es):A.bX h (aV es x i f)=c[f]? :=by
 have hi:=(List.getElem?_eq_some_iff.1 a).1;exact b.Qi hi (by rw[getElem?_append_left hi];exact a) d
theorem aJ.fF(a:aJ h es x L R){i f n:Nat}{c:List a7}(d:L[i]?=some c)(r:f+n <= es):A.fF h (aV es x i f) n=some (.agg ((c.drop f).take n)):=by
 have hi:=(List.getElem?_eq_some_iff.1 d).1;have l:=a.len c (mem_append_left _ (mem_of_getElem? d));rcases a.at_ with⟨e,t,_⟩|⟨id,g,off,cp,b,dZ,h1,fl,p,o,s,q,m⟩
 ·subst e;simp at hi
 ·have hm:i*es+es <= (L.length+R.length)*es:=by
   have:(i+1)*es <= (L.length+R.length)*es:=Nat.mul_le_mul_right _ (by omega);rw[Nat.add_mul]at this;omega
  subst h1;simp only[aV,A.fF,p,o];rw[if_pos (by omega)];congr 2;apply ext_getElem?;intro k;by_cases hk:k<n
  ·rw[getElem?_take_of_lt hk,getElem?_take_of_lt hk,getElem?_drop,getElem?_drop]
   have j:=flat_get a.len i (f+k) c (by rw[getElem?_append_left hi];exact d) (by omega);rw[<-m,getElem?_take_of_lt (by omega),getElem?_drop]at j;rw[<-j];congr 1;omega
  ·rw[getElem?_take_eq_none (by omega),getElem?_take_eq_none (by omega)]
theorem aJ.elem(a:aJ h es x L R){i:Nat}{c:List a7}(b:L[i]?=some c):A.fF h (aV es x i 0) es=some (.agg c):=by
 rw[a.fF b (by omega)];have:=a.len c (mem_append_left _ (mem_of_getElem? b));simp[<-this]
theorem aJ.rdv(a:aJ h es x L R):A.rdv h x L.length es=some L.flatten:=by
 have a:=a.cut;rcases a.at_ with⟨e,_,c|c⟩|⟨id,g,off,cp,b,hi,h1,fl,j,i,f,k,d⟩
 ·subst e c;rfl
 ·subst e c;rfl
 ·subst h1
  simp only[length_nil,Nat.add_zero,append_nil]at f d;simp only[A.rdv,j,i];rw[if_pos ⟨Nat.le_refl _,f⟩,d]
theorem Hi{n cp lo hi:Nat}{a b:Option a7}(c:a=none /\ lo=0 \/ ∃k,a=some (.int k lo))(hb:b=none /\ hi=n \/ ∃k,b=some (.int k hi)):
  V.wF n cp a b=if lo <= hi /\ hi <= max n cp then some (lo,hi) else none:=by
 rcases c with⟨rfl,rfl⟩|⟨k,rfl⟩<;>rcases hb with⟨rfl,rfl⟩|⟨d,rfl⟩<;>simp[V.wF,V.asNat]
theorem aJ.slice(o:aJ h es x L R)(v:0<es){lo hi:Nat}{a b:Option a7}(q:a=none /\ lo=0 \/ ∃k,a=some (.int k lo))(hb:b=none /\ hi=L.length \/ ∃k,b=some (.int k hi))(h1:lo <= hi)(i:hi <= L.length+R.length):
  ∃m,V.dS es x a b=some m /\ aJ h es m (((L++R).take hi).drop lo) ((L++R).drop hi) /\ cC m=cC x:=by
 rcases o.at_ with⟨e,z,j⟩|⟨id,g,off,cp,A,t,k1,r,k2,k3,k4,k5,k6⟩
 ·subst e z
  simp only[length_nil,Nat.add_zero,Nat.le_zero_eq]at i;subst i;have:lo=0:=by omega
  subst this;refine⟨x,?_,⟨by simp,.inl ⟨by simp,by simp,j⟩⟩,rfl⟩;rcases j with rfl|rfl<;>simp only[V.dS,V.ends,Hi (n:=0) q hb]<;>rfl
 ·subst k1
  have d:(L++R).length=L.length+R.length:=by simp
  refine⟨.sl id g (off+lo*es) (hi-lo) es (max L.length cp-lo),?_,⟨λp f=>o.len p ?_,.inr ⟨id,g,off+lo*es,max L.length cp-lo,A,t,?_,?_,k2,k3,?_,k5,?_⟩⟩,rfl⟩
  ·simp only[V.dS,Hi q hb]
   rw[if_pos ⟨h1,by omega⟩];simp
  ·rcases mem_append.1 f with f|f
   ·exact mem_of_mem_take (mem_of_mem_drop f)
   ·exact mem_of_mem_drop f
  ·simp only[length_drop,length_take,d,Nat.min_eq_left i]
  ·simp only[length_drop,length_take,d,Nat.min_eq_left i];omega
  ·simp only[length_drop,length_take,d,Nat.min_eq_left i]
   have:lo*es+(hi-lo+(L.length+R.length-hi))*es=(L.length+R.length)*es:=by rw[<-Nat.add_mul];congr 1;omega
   omega
  ·simp only[length_drop,length_take,d,Nat.min_eq_left i]
   have e1:((L++R).take hi).drop lo++(L++R).drop hi=(L++R).drop lo:=by
    have u:∀M:List (List a7),lo <= (M.take hi).length->(M.take hi).drop lo++M.drop hi=M.drop lo:=λM l=>by
     rw[<-drop_append_of_le_length l,take_append_drop]
    exact u _ (by rw[length_take,d];omega)
   rw[e1];have y:((L++R).drop lo).flatten=(L++R).flatten.drop (lo*es):=by
    have w:∀(M:List (List a7))(n:Nat),(∀p∈M,p.length=es)->(M.drop n).flatten=M.flatten.drop (n*es):=by
     intro M
     induction M with
     | nil=>intro n _;simp
     | cons c M s=>
      intro n l;cases n with
      | zero=>simp
      | succ n=>
       have B:c.length=es:=l c (by simp);rw[drop_succ_cons,s n (λp f=>l p (by simp[f])),flatten_cons,Nat.add_mul,Nat.one_mul];rw[show n*es+es=c.length+n*es by omega,drop_length_add_append]
    exact w _ _ o.len
   rw[y,<-k6,drop_take,drop_drop];congr 1;rw[<-Nat.sub_mul];congr 1;omega
def iH(x:a7)(h h':a9):Prop:=∀j b,h j=some b->cC x≠some j->h' j=some b
theorem iH.of_le(x:a7)(hle:h.le H):iH x h H:=λj b e _=>hle j b e
theorem iH.sl{h h':a9}{x y:a7}(hb:iH x h h'){es:Nat}{L R:List (List a7)}(c:aJ h es y L R)(a:∀id,cC y=some id->cC x≠some id):aJ h' es y L R:=c.dQ λid b d he=>hb id b he (a id d)
theorem wU(g n:Nat)(l:List (Nat×Nat)):List.lookup g ((g,n)::l)=some n:=by simp[List.lookup]
theorem aJ.app{bytes:Nat}{M:List (List a7)}{K:zQ}(B:aJ h es x L R)(q:∀id b,cC x=some id->h id=some b->b.own=true)(w:0<es)(D:∀p∈M,p.length=es)(hb:(L.length+M.length)*bytes <= 140737488355328)(hm:L.length+M.length <= maxLen)
  (hk:∀o h',yX h' es o (L++M)->(∀id b,cC o=some id->h' id=some b->b.own=true)->iH x h h'->(cC o=cC x \/ ∀id,cC o=some id->h id=none)->K o h'):A.app h es bytes x (some M.flatten) K:=by
 have n:=ve D;have C:M.flatten.length / es=M.length:=by rw[n,Nat.mul_div_cancel _ w]
 have k:∀p∈(L++M)++[],p.length=es:=λp m=>by
  rw[append_nil]at m;rcases mem_append.1 m with m|m
  ·exact B.len p (mem_append_left _ m)
  ·exact D p m
 have fresh:L=[]->(M≠[]->(M.flatten.length / es)*bytes <= 140737488355328 /\ M.flatten.length / es <= maxLen /\ A.new h M.flatten λid h=>K (.sl id 0 0 (M.flatten.length / es) es (M.flatten.length / es)) h):=λe H=>by
  subst e;rw[C];simp only[length_nil,Nat.zero_add]at hb hm;refine⟨hb,hm,λid s=>?_⟩;refine hk _ _ ⟨k,.inr ⟨id,0,0,_,cG M.flatten,M.flatten.length,by simp only[nil_append];exact rfl,by simp,dR ..,wU ..,by simp[n],Nat.le_refl _,?_⟩⟩ (λj b f u=>?_) (iH.of_le _ (hU _ s)) (.inr λj f=>?_)
  ·simp only[nil_append,append_nil,length_nil,Nat.add_zero,<-n,cG,drop_zero,take_length]
  ·cases f
   rw[dR]at u;cases u;rfl
  ·cases f;exact s
 have i:M=[] \/ M.flatten.length≠0:=by
  cases M with
  | nil=>exact .inl rfl
  | cons a r=>
   refine .inr ?_;rw[n,length_cons,Nat.add_mul];omega
 have h0:=B.cut;rcases h0.at_ with⟨e,_,z|z⟩|⟨id,g,off,cp,b,hi,h1,fl,G,J,F,O,E⟩
 ·subst z
  simp only[A.app];split
  ·rename_i l
   rcases i with d|d
   ·subst d;exact hk _ _ (by simpa using h0) (λ_ _ f=>by cases f) (iH.of_le _ (a9.le_refl h)) (.inl rfl)
   ·exact absurd l d
  ·rename_i l
   exact fresh e λd=>l (by rw[d];rfl)
 ·subst z
  simp only[A.app];split
  ·rename_i l
   rcases i with d|d
   ·subst d;exact hk _ _ (by simpa using h0) (λ_ _ f=>by cases f) (iH.of_le _ (a9.le_refl h)) (.inl rfl)
   ·exact absurd l d
  ·rename_i l
   exact fresh e λd=>l (by rw[d];rfl)
 ·have c:=q id b (by rw[h1];rfl) G
  subst h1;simp only[length_nil,Nat.add_zero,append_nil]at F E;simp only[A.app,G,J,C,c,cond_true];have I:off+L.length*es <= b.cells.length:=by omega
  have v:(b.cells.take (off+L.length*es)).length=off+L.length*es:=by simp;omega
  refine⟨trivial,trivial,F,hb,hm,hk _ _ ⟨k,.inr ⟨id,b.next,off,_,_,off+L.length*es+M.flatten.length,by rw[length_append],by simp,dR ..,wU ..,?_,?_,?_⟩⟩ (λj N f t=>?_) (λj N e1 y=>?_) (.inl rfl)⟩
  ·rw[length_append,length_nil,Nat.add_zero,Nat.add_mul,n];omega
  ·simp only[jd,length_append,v];omega
  ·simp only[jd,append_nil,length_nil,Nat.add_zero]
   rw[drop_append_of_le_length (by omega),length_append,Nat.add_mul,<-n,flatten_append,<-E];have e1:(b.cells.take (off+L.length*es)).drop off=(b.cells.drop off).take (L.length*es):=by
    rw[drop_take];congr 1;omega
   have y:((b.cells.drop off).take (L.length*es)).length=L.length*es:=by simp;omega
   rw[e1,take_of_length_le];rw[length_append,y];omega
  ·cases f
   rw[dR]at t;cases t;exact c
  ·rw[cQ]
   ·exact e1
   ·intro e;subst e;exact y rfl
theorem aJ.bO{bytes:Nat}{y:a7}{M R':List (List a7)}{K:zQ}(g:aJ h es x L R)(c:∀id b,cC x=some id->h id=some b->b.own=true)(d:aJ h es y M R')(e:0<es)(hb:(L.length+M.length)*bytes <= 140737488355328)(hm:L.length+M.length <= maxLen)
  (hk:∀a h',yX h' es a (L++M)->(∀id b,cC a=some id->h' id=some b->b.own=true)->iH x h h'->(cC a=cC x \/ ∀id,cC a=some id->h id=none)->K a h'):A.bO h es bytes x y K:=by
 unfold A.bO;rw[d.jR];simp only;rw[d.rdv];exact g.app c e (λp f=>d.len p (mem_append_left _ f)) hb hm hk
theorem F5{α:Type}{n:Nat}:∀{L:List (List α)},(∀c∈L,c.length=n)->∀(i f:Nat)(c xs:List α),L[i]?=some c->f+xs.length <= n ->
  (L.set i (c.take f++xs++c.drop (f+xs.length))).flatten=L.flatten.take (i*n+f)++xs++L.flatten.drop (i*n+f+xs.length)
 | [],_,_,_,_,_,h,_=>by simp at h
 | c0::L,a,0,f,c,xs,h,b=>by
  simp only[getElem?_cons_zero,Option.some.injEq]at h
  subst h
  have:=a c0 (by simp)
  rw[set_cons_zero,flatten_cons,flatten_cons,Nat.zero_mul,Nat.zero_add,take_append_of_le_length (by omega),drop_append_of_le_length (by omega),append_assoc]
 | c0::L,a,i+1,f,c,xs,h,b=>by
  simp only[getElem?_cons_succ]at h
  have h0:=a c0 (by simp)
  rw[set_cons_succ,flatten_cons,flatten_cons,F5 (λc d=>a c (by simp[d])) i f c xs h b]
  have e1:(i+1)*n+f=c0.length+(i*n+f):=by rw[h0,Nat.add_mul];omega
  have e:(i+1)*n+f+xs.length=c0.length+(i*n+f+xs.length):=by rw[h0,Nat.add_mul];omega
  rw[e1,take_length_add_append,show c0.length+(i*n+f)+xs.length=c0.length+(i*n+f+xs.length) by omega,drop_length_add_append]
  simp[append_assoc]
theorem FY{α:Type}(A xs B:List α){p:Nat}(a:A.length=p)(k:Nat):(A++(xs++B))[k]?=if k<p then A[k]? else if k-p<xs.length then xs[k-p]? else B[k-p-xs.length]? :=by
 subst a;split
 ·rw[getElem?_append_left (by omega)]
 ·rw[getElem?_append_right (by omega)]
  split
  ·rw[getElem?_append_left (by omega)]
  ·rw[getElem?_append_right (by omega)]
theorem FI{α:Type}(l:List α)(p:Nat)(v:α)(a:p<l.length):l.set p v=l.take p++[v]++l.drop (p+1):=by
 rw[set_eq_take_append_cons_drop,if_pos a];simp
theorem L6{i f n off hi:Nat}{cells c xs:List a7}{T:List (List a7)}(h:∀p∈T,p.length=es)(m:off+T.length*es <= hi)(l:hi <= cells.length)
  (j:(cells.drop off).take (T.length*es)=T.flatten) (b:T[i]?=some c) (d:xs.length=n) (g:f+n <= es):
  ((cells.take (off+i*es+f)++xs++cells.drop (off+i*es+f+n)).drop off).take (T.length*es)=(T.set i (c.take f++xs++c.drop (f+n))).flatten /\ (cells.take (off+i*es+f)++xs++cells.drop (off+i*es+f+n)).length=cells.length:=by
 subst d;have a:i<T.length:=(List.getElem?_eq_some_iff.1 b).1;have hm:i*es+es <= T.length*es:=by
  have:(i+1)*es <= T.length*es:=Nat.mul_le_mul_right _ a;rw[Nat.add_mul]at this;omega
 refine⟨?_,by simp;omega⟩;rw[F5 h i f c xs b g,<-j];apply ext_getElem?;intro k;have e:((cells.drop off).take (T.length*es)).length=T.length*es:=by simp;omega
 by_cases hk:k<T.length*es
 ·rw[getElem?_take_of_lt hk,getElem?_drop,append_assoc,append_assoc]
  have l1:(cells.take (off+i*es+f)).length=off+i*es+f:=by simp;omega
  have l2:(((cells.drop off).take (T.length*es)).take (i*es+f)).length=i*es+f:=by simp;omega
  rw[FY _ _ _ l1,FY _ _ _ l2,show off+k-(off+i*es+f)=k-(i*es+f) by omega];by_cases k1:k<i*es+f
  ·rw[if_pos (by omega),if_pos k1,getElem?_take_of_lt (by omega),getElem?_take_of_lt (by omega),getElem?_take_of_lt (by omega),getElem?_drop]
  ·rw[if_neg (by omega),if_neg k1]
   split
   ·rfl
   ·rw[getElem?_drop,getElem?_drop,getElem?_take_of_lt (by omega),getElem?_drop]
    congr 1;omega
 ·rw[getElem?_take_eq_none (by omega),getElem?_eq_none]
  simp;omega
theorem aJ.Ia{i f n:Nat}{c xs:List a7}{K:a9->Prop}(o:aJ h es x L R)(m:∀id b,cC x=some id->h id=some b->b.own=true)(s:L[i]?=some c)(C:xs.length=n)(E:f+n <= es)(fn:List a7->Option (List a7))
  (t:∀(cells:List a7)(p:Nat),A.uB (aV es x i f)=p->p+n <= cells.length->fn cells=some (cells.take p++xs++cells.drop (p+n)))
  (hk:∀h',aJ h' es x (L.set i (c.take f++xs++c.drop (f+n))) R->(∀id b,cC x=some id->h' id=some b->b.own=true)->iH x h h'->K h'):A.ph (A.sb h (aV es x i f) fn n 0) K:=by
 have q:i<L.length:=(List.getElem?_eq_some_iff.1 s).1;rcases o.at_ with⟨e,_⟩|⟨id,g,off,cp,b,hi,h1,fl,B,H,z,y,G⟩
 ·subst e;simp at s
 ·have hm:i*es+es <= (L.length+R.length)*es:=by
   have:(i+1)*es <= (L.length+R.length)*es:=Nat.mul_le_mul_right _ (by omega);rw[Nat.add_mul]at this;omega
  have d:=m id b (by rw[h1];rfl) B;have u:(L++R)[i]?=some c:=by rw[getElem?_append_left q];exact s
  have hlen:(L++R).length=L.length+R.length:=by simp
  obtain⟨w,r2⟩:=L6 (off:=off) (hi:=hi) (cells:=b.cells) o.len (by rw[hlen];exact z) y (by rw[hlen];exact G) u C E;have l:(L++R).set i (c.take f++xs++c.drop (f+n))=L.set i (c.take f++xs++c.drop (f+n))++R:=by rw[set_append_left _ _ q]
  rw[l,hlen]at w;have F:=o.len c (mem_append_left _ (mem_of_getElem? s));have v:Nat.ble (0+(off+i*es+f)+n) hi=true:=by rw[Nat.ble_eq];omega
  have a:=t b.cells (off+i*es+f) (by rw[h1];rfl) (by omega);have k:∀p∈L.set i (c.take f++xs++c.drop (f+n))++R,p.length=es:=λp a=>by
   rcases mem_append.1 a with a|a
   ·rcases mem_or_eq_of_mem_set a with a|a
    ·exact o.len p (mem_append_left _ a)
    ·subst a;simp;omega
   ·exact o.len p (mem_append_right _ a)
  subst h1;simp only[aV,A.sb,B,H,d,v,Bool.true_and,cond_true,a,A.ph];refine hk _ ⟨k,.inr ⟨id,g,off,cp,_,hi,by rw[length_set],by rw[length_set];exact fl,dR ..,wU ..,by rw[length_set];exact z,by simp only;rw[r2];exact y,by simp only;rw[length_set];exact w⟩⟩ (λj J D r=>?_) (λj J e1 I=>?_)
  ·cases D
   rw[dR]at r;cases r;rfl
  ·rw[cQ]
   ·exact e1
   ·intro e;subst e;exact I rfl
theorem aJ.st{i f:Nat}{c:List a7}{v:a7}{K:a9->Prop}(d:aJ h es x L R)(a:∀id b,cC x=some id->h id=some b->b.own=true)(e:L[i]?=some c)(k:f<es)(g:v.aI=true)
  (hk:∀h',aJ h' es x (L.set i (c.set f v)) R->(∀id b,cC x=some id->h' id=some b->b.own=true)->iH x h h'->K h'):A.st h (aV es x i f) v K:=by
 have l:=d.len c (mem_append_left _ (mem_of_getElem? e));refine d.Ia a e (xs:=[v]) (n:=1) rfl k _ (λcells p j hle=>?_) ?_
 ·rw[<-j]at hle ⊢
  simp only[V.pY,g,cond_true];rw[if_pos (by omega),FI _ _ _ (by omega)]
 ·rw[<-FI c f v (by omega)];exact hk
theorem aJ.gp{i f n:Nat}{c xs:List a7}{K:a9->Prop}(g:aJ h es x L R)(a:∀id b,cC x=some id->h id=some b->b.own=true)(k:L[i]?=some c)(d:xs.length=n)(j:f+n <= es)
  (hk:∀h',aJ h' es x (L.set i (c.take f++xs++c.drop (f+n))) R->(∀id b,cC x=some id->h' id=some b->b.own=true)->iH x h h'->K h'):A.gp h (aV es x i f) n (.agg xs) K:=by
 refine g.Ia a k d j _ (λcells p e hle=>?_) hk;rw[<-e]at hle ⊢;simp only[V.mf];rw[if_pos ⟨d,hle⟩]
end
inductive Ob where
 | sl (es:Nat) (x:a7) (L R:List (List a7))
 | box (p:a7) (cs:List a7)
 | bT (id:Nat) (b:fB)
def Ob.cC:Ob->Option Nat | .sl _ x _ _=>Ab.cC x | .box p _=>Ab.cC p | .bT id _=>some id
def Ob.at(h:a9):Ob->Prop
 | .sl es x L R=>aJ h es x L R
 | .box p cs=>∃id,p= .ptr id 0 0 /\ h id=some (cG cs)
 | .bT id b=>h id=some b
theorem Ob.at.dQ{h H:a9}{o:Ob}(a:o.at h)(hk:∀id b,o.cC=some id->h id=some b->H id=some b):o.at H:=by
 cases o with
 | sl es x L R=>exact aJ.dQ a hk
 | box p cs=>obtain⟨id,rfl,e⟩:=a;exact⟨id,rfl,hk id _ rfl e⟩
 | bT id b=>exact hk id b rfl a
theorem Ob.at.known{h:a9}{o:Ob}(a:o.at h){id:Nat}(c:o.cC=some id):∃b,h id=some b:=by
 cases o with
 | sl es x L R=>exact aJ.known a c
 | box p cs=>obtain⟨d,rfl,e⟩:=a;cases c;exact⟨_,e⟩
 | bT id b=>cases c;exact⟨_,a⟩
structure aG(h0 h:a9)(l:List Ob):Prop where
 le:h0.le h
 is:∀o∈l,o.at h
 own:∀o∈l,∀id,o.cC=some id->h0 id=none /\ ∀b,h id=some b->b.own=true
 apart:l.Pairwise λa b=>∀id,a.cC=some id->b.cC≠some id
section
variable{h0 h h' H:a9}{l l':List Ob}
theorem aG.nil(hle:h0.le h):aG h0 h []:=⟨hle,λ_ h=>(by cases h),λ_ h=>(by cases h),.nil⟩
theorem aG.start(h:a9):aG h h []:=aG.nil (a9.le_refl h)
theorem aG.sub(a:aG h0 h l)(b:l'.Sublist l):aG h0 h l':=⟨a.le,λo hm=>a.is o (b.subset hm),λo hm=>a.own o (b.subset hm),a.apart.sublist b⟩
theorem aG.grow(d:aG h0 h l)(hle:h.le H):aG h0 H l:=
 ⟨a9.le_trans d.le hle,λo hm=>(d.is o hm).dQ λ_ _ _ e=>hle _ _ e,λo hm id g=>by
  obtain⟨a,b⟩:=d.own o hm id g
  obtain⟨j,f⟩:=(d.is o hm).known g
  exact⟨a,λc i=>(by rw[hle _ _ f]at i;cases i;exact b _ f)⟩,d.apart⟩
theorem aG.back(a:aG h0 h l)(hle:H.le h0):aG H h l:=
 ⟨a9.le_trans hle a.le,a.is,λo hm id c=>⟨(by
  cases e:H id with
  | none=>rfl
  | some b=>have:=hle _ _ e;rw[(a.own o hm id c).1]at this;cases this),(a.own o hm id c).2⟩,a.apart⟩
theorem aG.join(d:aG h0 h l)(a:aG h h' l'):aG h0 h' (l++l'):=by
 have g:=d.grow a.le;have b:=a.back d.le;refine⟨g.le,λo hm=>?_,λo hm=>?_,pairwise_append.2 ⟨g.apart,a.apart,λx hx y f id i e=>?_⟩⟩
 ·rcases mem_append.1 hm with hm|hm
  ·exact g.is o hm
  ·exact b.is o hm
 ·rcases mem_append.1 hm with hm|hm
  ·exact g.own o hm
  ·exact b.own o hm
 ·obtain⟨c,j⟩:=(d.is x hx).known i
  have:=(a.own y f id e).1;rw[j]at this;cases this
theorem aG.ni(d:aG h0 h l){id:Nat}(a:h id=none)(cs:List a7):aG h0 (bQ h id (cG cs)) (l++[.box (.ptr id 0 0) cs]):=
 d.join ⟨hU _ a,λo hm=>by rw[mem_singleton.1 hm];exact⟨id,rfl,dR ..⟩,λo hm j c=>by rw[mem_singleton.1 hm]at c;cases c;exact⟨a,λb hb=>by rw[dR]at hb;cases hb;rfl⟩,pairwise_singleton _ _⟩
theorem aJ.lit{h:a9}{es:Nat}{id n cp:Nat}{cs:List a7}{L R:List (List a7)}(hb:h id=some (cG cs))(a:∀p∈L++R,p.length=es)(b:n=L.length)(c:L.length+R.length <= cp)(d:cs=(L++R).flatten):aJ h es (.sl id 0 0 n es cp) L R:=by
 subst b d;have:=ve a;rw[length_append]at this;exact⟨a,.inr ⟨id,0,0,cp,_,_,rfl,by omega,hb,wU ..,by rw[this];omega,Nat.le_refl _,by rw[<-this];simp only[cG,drop_zero,take_length]⟩⟩
theorem aG.gU(e:aG h0 h l){id n cp es:Nat}{cs:List a7}{L R:List (List a7)}(a:h id=none)(i:∀p∈L++R,p.length=es)(f:n=L.length)(c:L.length+R.length <= cp)(g:cs=(L++R).flatten):aG h0 (bQ h id (cG cs)) (l++[.sl es (.sl id 0 0 n es cp) L R]):=
 e.join ⟨hU _ a,λo hm=>by rw[mem_singleton.1 hm];exact aJ.lit (dR ..) i f c g,λo hm j d=>by rw[mem_singleton.1 hm]at d;cases d;exact⟨a,λb hb=>by rw[dR]at hb;cases hb;rfl⟩,pairwise_singleton _ _⟩
theorem aG.aA(b:aG h0 h l)(es:Nat):aG h0 h (l++[.sl es .aA [] []]):=
 b.join ⟨a9.le_refl h,λo hm=>by rw[mem_singleton.1 hm];exact aJ.aA h es,λo hm j a=>(by rw[mem_singleton.1 hm]at a;cases a),pairwise_singleton _ _⟩
theorem aG.sz(b:aG h0 h l)(es:Nat):aG h0 h (l++[.sl es .sz [] []]):=
 b.join ⟨a9.le_refl h,λo hm=>by rw[mem_singleton.1 hm];exact aJ.sz h es,λo hm j a=>(by rw[mem_singleton.1 hm]at a;cases a),pairwise_singleton _ _⟩
theorem aG.at(a:aG h0 h l)(k:Nat){o:Ob}(hk:l[k]?=some o):o.at h:=a.is o (mem_of_getElem? hk)
theorem aG.aP(a:aG h0 h l)(k:Nat){es:Nat}{x:a7}{L R:List (List a7)}(hk:l[k]?=some (.sl es x L R)):aJ h es x L R:=a.at k hk
theorem aG.fE(a:aG h0 h l)(k:Nat){p:a7}{cs:List a7}(hk:l[k]?=some (.box p cs)):∃id,p= .ptr id 0 0 /\ h id=some (cG cs):=a.at k hk
theorem aG.off(d:aG h0 h l){es:Nat}{x:a7}{L R:List (List a7)}(c:aJ h0 es x L R){o:Ob}(hm:o∈l):∀id,Ab.cC x=some id->o.cC≠some id:=λid e a=>by
 obtain⟨b,hb⟩:=c.known e
 rw[(d.own o hm id a).1]at hb;cases hb
theorem aG.jB(f:aG h0 h l)(k:Nat){o o':Ob}(hk:l[k]?=some o)(C:o'.at h')(v:∀id b,o'.cC=some id->h' id=some b->b.own=true)
  (m:∀j b,h j=some b->o.cC≠some j->h' j=some b) (p:o'.cC=o.cC \/ ∀id,o'.cC=some id->h id=none):aG h0 h' (l.set k o'):=by
 have hm:o∈l:=mem_of_getElem? hk;have g:k<l.length:=(List.getElem?_eq_some_iff.1 hk).1;have t:∀i a,l[i]?=some a->i≠k->∀id,a.cC=some id->o.cC≠some id:=λi a hi y id d hb=>by
  rcases Nat.lt_or_gt_of_ne y with g|A
  ·have:=pairwise_iff_getElem.1 f.apart i k (List.getElem?_eq_some_iff.1 hi).1 (List.getElem?_eq_some_iff.1 hk).1 g
   rw[(List.getElem?_eq_some_iff.1 hi).2,(List.getElem?_eq_some_iff.1 hk).2]at this;exact this id d hb
  ·have:=pairwise_iff_getElem.1 f.apart k i (List.getElem?_eq_some_iff.1 hk).1 (List.getElem?_eq_some_iff.1 hi).1 A
   rw[(List.getElem?_eq_some_iff.1 hi).2,(List.getElem?_eq_some_iff.1 hk).2]at this;exact this id hb d
 have q:∀a∈l.set k o',a=o' \/ ∃i,i≠k /\ l[i]?=some a:=λa d=>by
  obtain⟨i,hi⟩:=getElem?_of_mem d;by_cases e:i=k
  ·subst e;rw[getElem?_set_self g]at hi;cases hi;exact .inl rfl
  ·rw[getElem?_set_ne (Ne.symm e)]at hi;exact .inr ⟨i,e,hi⟩
 have hle:h0.le h':=λj b e=>m j b (f.le j b e) λx=>by rw[(f.own o hm j x).1]at e;cases e
 have D:∀id,o'.cC=some id->h0 id=none:=λid c=>by
  rcases p with p|p
  ·rw[p]at c;exact(f.own o hm id c).1
  ·cases e:h0 id with
   | none=>rfl
   | some b=>have:=f.le _ _ e;rw[p id c]at this;cases this
 refine⟨hle,λa d=>?_,λa d id c=>?_,?_⟩
 ·rcases q a d with rfl|⟨i,hi,r⟩
  ·exact C
  ·exact(f.is a (mem_of_getElem? r)).dQ λid b B hb=>m id b hb (t i a r hi id B)
 ·rcases q a d with rfl|⟨i,hi,r⟩
  ·exact⟨D id c,λb hb=>v id b c hb⟩
  ·have u:=mem_of_getElem? r
   obtain⟨E,n⟩:=(f.is a u).known c;refine⟨(f.own a u id c).1,λb hb=>?_⟩;rw[m id E n (t i a r hi id c)]at hb;cases hb;exact(f.own a u id c).2 _ n
 ·have sym:∀i a,l[i]?=some a->i≠k->∀id,a.cC=some id->o'.cC≠some id:=λi a r hi id d hb=>by
   rcases p with p|p
   ·rw[p]at hb;exact t i a r hi id d hb
   ·obtain⟨E,n⟩:=(f.is a (mem_of_getElem? r)).known d
    rw[p id hb]at n;cases n
  rw[pairwise_iff_getElem];intro i j hi x z id d hb;have li:(l.set k o')[i]?=some (l.set k o')[i]:=getElem?_eq_getElem hi;have s:(l.set k o')[j]?=some (l.set k o')[j]:=getElem?_eq_getElem x;by_cases e1:i=k
  ·have w:j≠k:=by omega
   rw[getElem?_set_ne (Ne.symm w)]at s;subst e1;rw[getElem?_set_self g]at li;rw[<-Option.some.inj li]at d;exact sym j _ s w id hb d
  ·rw[getElem?_set_ne (Ne.symm e1)]at li
   by_cases w:j=k
   ·subst w
    rw[getElem?_set_self g]at s;rw[<-Option.some.inj s]at hb;exact sym i _ li e1 id d hb
   ·rw[getElem?_set_ne (Ne.symm w)]at s
    have:=pairwise_iff_getElem.1 f.apart i j (List.getElem?_eq_some_iff.1 li).1 (List.getElem?_eq_some_iff.1 s).1 z;rw[(List.getElem?_eq_some_iff.1 li).2,(List.getElem?_eq_some_iff.1 s).2]at this;exact this id d hb
theorem aG.lg(a:aG h0 h l)(k:Nat){o:Ob}(hk:l[k]?=some o):∀id b,o.cC=some id->h id=some b->b.own=true:=λid b c hb=>(a.own o (mem_of_getElem? hk) id c).2 b hb
theorem aG.bO(b:aG h0 h l)(k:Nat){es bytes:Nat}{x y:a7}{L R M R':List (List a7)}{K:zQ}(hk:l[k]?=some (.sl es x L R))(e:aJ h es y M R')(c:0<es)(hb:(L.length+M.length)*bytes <= 140737488355328)(hm:L.length+M.length <= maxLen)(f:∀a h',aG h0 h' (l.set k (.sl es a (L++M) []))->iH x h h'->K a h'):A.bO h es bytes x y K:=(b.aP k hk).bO (b.lg k hk) e c hb hm λa h' h1 i d g=>f a h' (b.jB k hk h1 i d g) d
theorem aG.st(a:aG h0 h l)(k:Nat){es i f:Nat}{x v:a7}{L R:List (List a7)}{c:List a7}{K:a9->Prop}(hk:l[k]?=some (.sl es x L R))(g:L[i]?=some c)(e:f<es)(d:v.aI=true)(j:∀h',aG h0 h' (l.set k (.sl es x (L.set i (c.set f v)) R))->iH x h h'->K h'):A.st h (aV es x i f) v K:=(a.aP k hk).st (a.lg k hk) g e d λh' h1 m b=>j h' (a.jB k hk h1 m b (.inl rfl)) b
theorem aG.gp(a:aG h0 h l)(k:Nat){es i f n:Nat}{x:a7}{L R:List (List a7)}{c xs:List a7}{K:a9->Prop}(hk:l[k]?=some (.sl es x L R))(g:L[i]?=some c)(d:xs.length=n)(e:f+n <= es)(j:∀h',aG h0 h' (l.set k (.sl es x (L.set i (c.take f++xs++c.drop (f+n))) R))->iH x h h'->K h'):A.gp h (aV es x i f) n (.agg xs) K:=(a.aP k hk).gp (a.lg k hk) g d e λh' h1 m b=>j h' (a.jB k hk h1 m b (.inl rfl)) b
theorem aG.HG(b:aG h0 h l)(k:Nat){es i:Nat}{x:a7}{L R:List (List a7)}{c xs:List a7}{K:a9->Prop}(hk:l[k]?=some (.sl es x L R))(d:L[i]?=some c)(f:xs.length=es)
  (g:∀h',aG h0 h' (l.set k (.sl es x (L.set i xs) R))->iH x h h'->K h'):A.gp h (aV es x i 0) es (.agg xs) K:=by
 have a:=(b.aP k hk).len c (mem_append_left _ (mem_of_getElem? d));refine b.gp k hk d f (by omega) λh' h1 j=>g h' ?_ j;have e:c.take 0++xs++c.drop (0+es)=xs:=by simp[drop_of_length_le,a]
 rwa [e]at h1
end
theorem aG.push{h0 h:a9}{l:List Ob}(e:aG h0 h l)(k:Nat){es bytes:Nat}{x:a7}{L R:List (List a7)}{cs:List a7}{K:zQ}(hk:l[k]?=some (.sl es x L R))(d:cs.length=es)(c:0<es)(hb:(L.length+1)*bytes <= 140737488355328)(hm:L.length+1 <= maxLen)(f:∀a h',aG h0 h' (l.set k (.sl es a (L++[cs]) []))->iH x h h'->K a h'):A.bL h (some cs) λi h=>A.bO h es bytes x (.sl i 0 0 1 es 1) K:=λi hi=>(e.grow (hU _ hi)).bO k hk (M:=[cs]) (R':=[]) (aJ.lit (dR ..) (by simpa using d) rfl (by simp) (by simp)) c hb hm λa h' h1 g=>f a h' h1 λj b e1 m=>g j b (hU _ hi j b e1) m
section
theorem KO{α:Type}(l:List α)(i:Nat):(if i<l.length then l[i]? else none)=l[i]? :=by
 split
 ·rfl
 ·rw[getElem?_eq_none (by omega)]
theorem e9{h:a9}{id:Nat}{cs:List a7}(hb:h id=some (cG cs))(off:Nat):A.bX h (.ptr id 0 off)=cs[off]? :=by
 simp only[A.bX,hb,cG,List.lookup,beq_self_eq_true,KO]
theorem xu{h:a9}{id:Nat}{cs:List a7}(hb:h id=some (cG cs))(off n:Nat):A.fF h (.ptr id 0 off) n=if off+n <= cs.length then some (.agg ((cs.drop off).take n)) else none:=by
 simp only[A.fF,hb,cG,List.lookup,beq_self_eq_true]
theorem P6{h:a9}{id:Nat}{cs:List a7}(hb:h id=some (cG cs)){off:Nat}{v:a7}(a:v.aI=true)(b:off<cs.length){K:a9->Prop}:A.st h (.ptr id 0 off) v K=K (bQ h id (cG (cs.set off v))):=by
 have h1:Nat.ble (0+off+1) cs.length=true:=by rw[Nat.ble_eq];omega
 simp only[A.st,A.sb,hb,cG,List.lookup,beq_self_eq_true,A.uB,V.pY,a,b,if_true,A.ph,h1,Bool.true_and,cond_true,length_set]
theorem Pb{h:a9}{id:Nat}{cs xs:List a7}(hb:h id=some (cG cs)){off n:Nat}(b:xs.length=n)(a:off+n <= cs.length){K:a9->Prop}:A.gp h (.ptr id 0 off) n (.agg xs) K=K (bQ h id (cG (cs.take off++xs++cs.drop (off+n)))):=by
 have h1:Nat.ble (0+off+n) cs.length=true:=by rw[Nat.ble_eq];omega
 have c:(cs.take off++xs++cs.drop (off+n)).length=cs.length:=by simp;omega
 simp only[A.gp,A.sb,hb,cG,List.lookup,beq_self_eq_true,A.uB,V.mf,b,a,and_self,if_true,A.ph,h1,Bool.true_and,cond_true,c]
variable{h0 h:a9}{l:List Ob}
theorem aG.jW(f:aG h0 h l)(k:Nat){id off:Nat}{cs:List a7}{v:a7}{K:a9->Prop}(hk:l[k]?=some (.box (.ptr id 0 0) cs))(i:v.aI=true)(c:off<cs.length)
  (n:∀h',aG h0 h' (l.set k (.box (.ptr id 0 0) (cs.set off v)))->iH (.ptr id 0 0) h h'->K h'):A.st h (.ptr id 0 off) v K:=by
 obtain⟨g,e,hb⟩:=f.fE k hk;cases e;rw[P6 hb i c];have a:iH (.ptr id 0 0) h (bQ h id (cG (cs.set off v))):=λj b e1 o=>by rw[cQ];exact e1;intro e;subst e;exact o rfl
 exact n _ (f.jB k hk ⟨id,rfl,dR ..⟩ (λj b m d=>by cases m;rw[dR]at d;cases d;rfl) a (.inl rfl)) a
end
def fill(n:Nat)(g:Nat->a7):List a7:=(List.range n).map g
@[simp] theorem Rn(n:Nat)(g:Nat->a7):(fill n g).length=n:=by simp[fill]
theorem A5{n k:Nat}(g:Nat->a7)(hk:k<n):(fill n g)[k]?=some (g k):=by simp[fill,hk]
theorem Oi{n k:Nat}(g:Nat->a7)(v:a7):(fill n g).set k v=fill n λj=>if j=k then v else g j:=by
 apply ext_getElem?;intro j;by_cases a:j<n
 ·rw[A5 _ a]
  by_cases e:k=j
  ·subst e;rw[getElem?_set_self (by simpa using a)];simp
  ·rw[getElem?_set_ne e,A5 _ a];simp[Ne.symm e]
 ·rw[getElem?_eq_none (by simp;omega),getElem?_eq_none (by simp;omega)]
def fx(n:Nat)(g:Nat->List a7):List (List a7):=(List.range n).map g
@[simp] theorem Ny(n:Nat)(g:Nat->List a7):(fx n g).length=n:=by simp[fx]
@[simp] theorem CM(g:Nat->List a7):fx 0 g=[]:=rfl
theorem xg{n k:Nat}(g:Nat->List a7)(hk:k<n):(fx n g)[k]?=some (g k):=by simp[fx,hk]
theorem GJ{n k:Nat}(g:Nat->List a7)(v:List a7):(fx n g).set k v=fx n λj=>if j=k then v else g j:=by
 apply ext_getElem?;intro j;by_cases a:j<n
 ·rw[xg _ a]
  by_cases e:k=j
  ·subst e;rw[getElem?_set_self (by simpa using a)];simp
  ·rw[getElem?_set_ne e,xg _ a];simp[Ne.symm e]
 ·rw[getElem?_eq_none (by simp;omega),getElem?_eq_none (by simp;omega)]
theorem F6{n:Nat}{f g:Nat->List a7}(e:∀j,j<n->f j=g j):fx n f=fx n g:=map_congr_left λj a=>e j (by simpa using a)
theorem zW(n:Nat)(z:List a7):(fx n λ_=>z).flatten=(List.replicate n z).flatten:=by
 unfold fx;rw[map_const',length_range]
theorem Mr(n:Nat)(z:List a7):bG n z=(fx n λ_=>z).flatten:=by
 rw[zW];unfold bG;split
 ·rw[flatten_replicate_singleton]
 ·rfl
theorem GK{n:Nat}{g:Nat->List a7}{es:Nat}(h:∀j,(g j).length=es):∀p∈fx n g,p.length=es:=λp a=>by
 obtain⟨j,_,rfl⟩:=mem_map.1 a
 exact h j
theorem aG.eO{h0 h:a9}{l:List Ob}(f:aG h0 h l){bytes es:Nat}{n c:Int}{z:List a7}{k j:IntKind}{K:zQ}(b:z.length=es)(h1:0 <= n)(m:n <= c)(hb:c*bytes <= 281474976710656)(g:c <= 9223372036854775807)
  (i:∀e h',aG h0 h' (l++[.sl es e (fx n.toNat λ_=>z) (fx (c.toNat-n.toNat) λ_=>z)])->K e h'):A.eO h bytes (some z) (.int k n) (.int j c) K:=by
 refine⟨h1,m,hb,g,λid d=>?_⟩;rw[b];refine i _ _ (f.gU d ?_ (by simp) (by simp;omega) ?_)
 ·intro p a
  rcases mem_append.1 a with a|a
  ·exact GK (λ_=>b) p a
  ·exact GK (λ_=>b) p a
 ·rw[flatten_append,Mr,zW,zW,zW,<-flatten_append,replicate_append_replicate]
  congr 2;omega
def cA:Code->Code | .seq a _=>a | .cond _ a _=>a | .block _ b=>b | .loop b=>b | .scope b=>b|_=> .skip
def cB:Code->Code | .seq _ b=>b | .cond _ _ b=>b|_=> .skip
def cI:Code->Nat | .block i _=>i|_=>0
def lA:Code->Bool | .seq _ _=>true|_=>false
def Iu(t:Nat):Code->Bool | .cond (.tmp k) _ _=>Nat.beq k t|_=>false
def xN:Code->Bool | .block _ _=>true|_=>false
def rA:Code->Code | .rangeFunc _ _ a b=> .seq a b|_=> .skip
def BF(t:Nat)(ps dQ:List Nat):Code->Bool | .rangeFunc (.tmp k) c a b=>Nat.beq k t&&(v9 c.toList ps&&(wg a&&dQ.all λk=>dK (jr c.toList a b) k&& !dK ps k))|_=>false
def xM:Code->Bool | .loop _=>true|_=>false
section
variable{P:Program}{C:aC}{I:Bx}
theorem eS(b:gD C){c:Code}{Q:Ex->bB->a9->Prop}{s:bB}{h:a9}(X:bB->a9->Prop)(a:dM P C I (cA c) (Ex.then X Q) s h)(hb:∀s h,X s h->dM P C I (cB c) Q s h)(hk:lA c=true:=by kernel_rfl):dM P C I c Q s h:=by
 cases c<;>first|exact Qe b rfl hb a|cases hk
theorem eC{c:Code}{Q:Ex->bB->a9->Prop}{p q:Prop}{s:bB}{h:a9}(t:Nat)(b:A.cond (s t) p q)(hx:p->dM P C I (cA c) Q s h)(a:q->dM P C I (cB c) Q s h)(hk:Iu t c=true:=by kernel_rfl):dM P C I c Q s h:=by
 cases c with
 | cond o x y=>
  cases o with
  | tmp k=>
   have e:k=t:=Nat.eq_of_beq_eq_true hk;subst e;exact PW rfl hx a b
  | _=>cases hk
 | _=>cases hk
theorem eK{c:Code}{Q:Ex->bB->a9->Prop}{s:bB}{h:a9}(hb:dM P C I (cA c) (Ex.inBlock (cI c) Q) s h)(hk:xN c=true:=by kernel_rfl):dM P C I c Q s h:=by
 cases c<;>first|exact hb|cases hk
theorem eL(b:gD C){c:Code}{Q:Ex->bB->a9->Prop}{s:bB}{h:a9}(dQ live:List Nat)(G:List a7->zG)
  (a:aB (G (dQ.map s)) (live.map s) h)
  (hG:∀(Y:zL)(s:bB)(h:a9),G (dQ.map s) (live.map s) h Y->dM P C I (cA c) (Ex.then (λs h=>Y (live.map s) h) Q) s h)
  (hk:xM c=true:=by kernel_rfl) (hw:(dQ.all λk=> !dK (ma P I (cA c)) k)=true:=by kernel_rfl):dM P C I c Q s h:=by
 cases c<;>first|exact PD b dQ live rfl hw hG a|cases hk
theorem Pf{Q:Ex->bB->a9->Prop}{s:bB}:∀j h,RK [] j h->Q (uM j) s h:=λ_ _ x=>x.elim
theorem O8{Q:Ex->bB->a9->Prop}{s:bB}{k:Nat}{p:a9->Prop}{r:List (Nat×(a9->Prop))}(h1:∀h,p h->Q (uM k) s h)(a:∀j h,RK r j h->Q (uM j) s h):∀j h,RK ((k,p)::r) j h->Q (uM j) s h:=by
 rintro j h (⟨rfl,x⟩|x)
 ·exact h1 h x
 ·exact a j h x
theorem e0{q p:Prop}(a:p)(e:q=p:=by kernel_rfl):q:=e.mpr a
theorem GA:∀{a b:List Nat},v9 a b=true->a=b
 | [],[],_=>rfl
 | x::a,y::b,h=>by
  simp only[v9,Bool.and_eq_true]at h
  rw[Nat.eq_of_beq_eq_true h.1,GA h.2]
theorem Hd{t:Nat}{ps dQ:List Nat}{c:Code}(h:BF t ps dQ c=true):∃d a b,c= .rangeFunc (.tmp t) d a b /\ d.toList=ps /\ wg a=true /\ ∀k∈dQ,dK (jr ps a b) k=true /\ dK ps k=false:=by
 cases c<;>(try cases h);rename_i g d a b;cases g<;>(try cases h);rename_i k;simp only[BF,Bool.and_eq_true,all_eq_true,Bool.not_eq_true']at h;obtain⟨h1,i,f,e⟩:=h;have e1:=Nat.eq_of_beq_eq_true h1;have j:=GA i;subst e1 j;exact⟨d,a,b,rfl,rfl,f,e⟩
theorem GZ:∀{l:List Nat}{k:Nat},k∈l->dK l k=true
 | x::r,k,h=>by
  simp only[dK]
  rcases mem_cons.1 h with rfl|h
  ·rw[Nat.beq_refl];rfl
  ·rw[GZ h];cases Nat.beq x k<;>rfl
theorem FW{ps dQ:List Nat}{a b:Code}{s:bB}(xs:List a7)(hk:∀k∈dQ,dK (jr ps a b) k=true /\ dK ps k=false):dQ.map (lV ps xs (jX (jr ps a b) s))=dQ.map s:=by
 refine map_congr_left λk c=>?_;obtain⟨h1,d⟩:=hk k c;rw[C2 λp f e=>by subst e;rw[GZ f]at d;cases d];simp only[jX,h1,cond_true]
theorem Q4(l:gD C){c:Code}{Q:Ex->bB->a9->Prop}{s:bB}{h:a9}(t p:Nat)(dQ:List Nat)(G:List a7->a7->a9->(Nat->a9->Prop)->Prop){K:Nat->a9->Prop}
  (g:x5 C (s t) (W1 (G (dQ.map s))) h K) (k:∀j h,K j h->Q (uM j) s h)
  (i:∀(E:Nat->a9->Prop)(s:bB)(h:a9),G (dQ.map s) (s p) h E->dM P C I (rA c) (λe _ d=>E (jn e) d) s h)
  (hk:BF t [p] dQ c=true:=by kernel_rfl):dM P C I c Q s h:=by
 obtain⟨m,a,b,rfl,f,h1,d⟩:=Hd hk;refine HK l rfl h1 g k λxs h E w=>?_
 match xs,w with
 | [x],w=>
  refine⟨by rw[<-Array.length_toList,f];rfl,?_⟩;rw[f];refine i E _ h ?_;rw[FW [x] d];have:lV [p] [x] (jX (jr [p] a b) s) p=x:=by simp only[lV,bW,Nat.beq_refl,cond_true]
  rw[this];exact w
theorem zk(l:gD C){c:Code}{Q:Ex->bB->a9->Prop}{s:bB}{h:a9}(t p q:Nat)(dQ:List Nat)(G:List a7->a7->a7->a9->(Nat->a9->Prop)->Prop){K:Nat->a9->Prop}
  (g:x5 C (s t) (W2 (G (dQ.map s))) h K) (k:∀j h,K j h->Q (uM j) s h)
  (i:∀(E:Nat->a9->Prop)(s:bB)(h:a9),G (dQ.map s) (s p) (s q) h E->dM P C I (rA c) (λe _ d=>E (jn e) d) s h)
  (hk:(BF t [p,q] dQ c&& !Nat.beq p q)=true:=by kernel_rfl):dM P C I c Q s h:=by
 rw[Bool.and_eq_true,Bool.not_eq_true']at hk;obtain⟨n,a,b,rfl,f,h1,d⟩:=Hd hk.1;refine HK l rfl h1 g k λxs h E w=>?_
 match xs,w with
 | [x,y],w=>
  refine⟨by rw[<-Array.length_toList,f];rfl,?_⟩;rw[f];refine i E _ h ?_;rw[FW [x,y] d];have e1:lV [p,q] [x,y] (jX (jr [p,q] a b) s) p=x:=by simp only[lV,bW,Nat.beq_refl,hk.2,cond_true,cond_false]
  have m:lV [p,q] [x,y] (jX (jr [p,q] a b) s) q=y:=by simp only[lV,bW,Nat.beq_refl,cond_true]
  rw[e1,m];exact w
theorem e1{c:Code}{Q:Ex->bB->a9->Prop}{s:bB}{h:a9}{p:Prop}(a:p)(e:dM P C I c Q s h=p:=by kernel_rfl):dM P C I c Q s h:=e.mpr a
theorem eF(hm:P.follows .mixedOrders=true){f:FuncId}{fn:Func}{c:Code}{I:Bx}{args:List a7}{h:a9}{Q:zQ}
  (hx:gD (AC P)→dM P (AC P) I c (pb P I fn.results.toList (dn Q)) (fv args) h) (b:P.funcs[f]? =some fn:=by kernel_rfl) (hb:fn.body=some c:=by kernel_rfl) (h1:(fn.name== "runtime.NumGoroutine")=false:=by kernel_rfl)
  (e:nj fn.ntmps c=true:=by kernel_rfl) (a:Nat.beq f sy=false:=by kernel_rfl) (d:Nat.ble args.length fn.ntmps=true:=by kernel_rfl) (g:Nat.ble args.length I.B=true:=by kernel_rfl) (hk:np P I c=true:=by kernel_rfl):AC P f args h Q:=
 HD (NC hm b hb (EV b (by rw[hb];rfl) h1) e a (Nat.le_of_ble_eq_true d) (Nat.le_of_ble_eq_true g) hk (hx (Hn P)))
end
variable{C:aC}{N:zN}
theorem take_succ{α:Type}{L:List α}{i:Nat}{w:α}(h:L[i]?=some w):L.take (i+1)=L.take i++[w]:=by
 rw[take_add_one,h];rfl
theorem get_map{α β:Type}{f:α->β}{L:List α}{i:Nat}{w:α}(h:L[i]?=some w):(L.map f)[i]?=some (f w):=by simp[h]
theorem fH{n:Nat}(h:n<4611686018427387904):IntKind.i64.wrap ((n:Int)+1)=((n+1:Nat):Int):=by rw[wrap_i64 (by omega) (by omega)];omega
theorem dI{α:Type}{L:List α}{k:Nat}(h:k<L.length):∃w,L[k]?=some w:=⟨L[k],by simp[h]⟩
structure Flat(T:Type)[DecidableEq T] where
 cs:T->List a7
 es:Nat
 sh:List Ck
 len:∀t,(cs t).length=es
 pos:0<es
 eq:∀a b,V.lN sh (cs a) (cs b)=some (decide (a=b))
section
variable{T:Type}[DecidableEq T](F:Flat T)
theorem Flat.neq(a b:T):V.rN .neq F.sh (.agg (F.cs a)) (.agg (F.cs b))=some (.bool (!decide (a=b))):=by simp only[V.rN,F.eq,V.eqv]
theorem Flat.eql(a b:T):V.rN .eql F.sh (.agg (F.cs a)) (.agg (F.cs b))=some (.bool (decide (a=b))):=by simp only[V.rN,F.eq,V.eqv]
@[simp] def mD.k2(es:Nat)(sh:List Ck)(Q:zQ)(Y1:zL)(v0 v1 v5:a7)(h:a9):Prop:=B.pv (V.aE v0) λg=>B.pv (V.bin .lss v5 g) λf=>B.cond f (B.pv (V.aM es v0 v5) λd=>B.cR h d es λv20=>B.pv (V.aM es v1 v5) λc=>B.cR h c es λb=>B.pv (V.rN .neq sh v20 b) λa=>B.cond a (Q (.bool false) h) (B.pv (V.bin .add v5 (.int .i64 1)) λe=>Y1 [e] h)) (Q (.bool true) h)
@[simp] def mD.l4(es:Nat)(sh:List Ck)(Q:zQ)(v0 v1:a7):zG|[v5],h,Y1=>mD.k2 es sh Q Y1 v0 v1 v5 h|_,_,_=>False
def mD(es:Nat)(sh:List Ck)(v0 v1:a7)(h:a9)(Q:zQ):Prop:=B.pv (V.aE v0) λb=>B.pv (V.aE v1) λa=>B.pv (V.bin .neq b a) λv10=>B.cond v10 (Q (.bool false) h) (aB (mD.l4 es sh Q v0 v1) [(.int .i64 0)] h)
theorem zO{x y:a7}{L M:List T}{R S:List (List a7)}{h:a9}{Q:zQ}(hx:aJ h F.es x (L.map F.cs) R)(g:aJ h F.es y (M.map F.cs) S)(hlen:L.length<4611686018427387904)
  (b:Q (.bool (decide (L=M))) h):mD F.es F.sh x y h Q:=by
 have a:=hx.aE;have c:=g.aE;rw[length_map]at a c;simp -dsimp[mD,a,c];refine B.bF (λhb=>?_) (λhb=>?_)<;>simp -dsimp at hb ⊢
 ·rw[decide_eq_false λe=>hb (by rw[e])]at b
  exact b
 ·refine aB.intro (λn vs j=>∃k,k+n=L.length /\ vs=[.int .i64 k] /\ j=h /\ L.take k=M.take k) L.length ?_ ⟨0,by simp,by simp,rfl,by simp⟩
  rintro Y n vs _ ⟨k,m,rfl,rfl,he⟩ l;simp -dsimp[a];refine B.bF (λf=>?_) (λf=>?_)<;>simp -dsimp at f ⊢
  ·obtain⟨w,hw⟩:=dI f
   obtain⟨u,hu⟩:=dI (L:=M) (k:=k) (by omega);have hk:k<(L.map F.cs).length:=by simpa using f
   have i:k<(M.map F.cs).length:=by simp;omega
   simp only[hx.dF hk,g.dF i,hx.elem (get_map hw),g.elem (get_map hu),B.aK,B.iL,F.neq];refine B.bF (λd=>?_) (λd=>?_)<;>simp -dsimp at d ⊢
   ·rw[decide_eq_false λe=>by subst e;rw[hw]at hu;cases hu;exact d rfl]at b
    exact b
   ·simp[fH (n:=k) (by omega)]
    refine l (L.length-(k+1)) _ _ (by omega) ⟨k+1,by omega,by simp,rfl,?_⟩;rw[take_succ hw,take_succ hu,he,d]
  ·rw[take_of_length_le (by omega),take_of_length_le (by omega)]at he
   rw[decide_eq_true he]at b;exact b
def marks(mk:Int->T)(n:Nat):List (List a7):=(List.range n).map fun(i:Nat)=>F.cs (mk (i:Int))
@[simp] theorem Np(mk:Int->T)(n:Nat):(marks F mk n).length=n:=by simp[marks]
theorem Nq(mk:Int->T){n k:Nat}(hk:k<n):(marks F mk n)[k]?=some (F.cs (mk k)):=by simp[marks,hk]
theorem M7(mk:Int->T)(n:Nat):marks F mk (n+1)=marks F mk n++[F.cs (mk n)]:=by simp[marks,range_succ]
@[simp] def kR.k2(C:aC)(es bytes f:Nat)(z:List a7)(m:Int)(Q:zQ)(Y1:zL)(v0 g v4:a7)(h:a9):Prop:=B.pv (V.bin .lss v4 (.int .i64 12)) λe=>B.cond e (B.call C f [(.int .i64 m),v4] h λc h=>B.bL h (bN [(0,some es,c)] (bG 1 z)) λi19 h=>B.bO h es bytes g (.sl i19 0 0 1 es 1) λv20 h=>B.pv (V.bin .add v4 (.int .i64 1)) λd=>Y1 [v20,d] h) (B.pv (V.aE v0) λb=>B.pv (V.dS es g none (some b)) λa=>Q a h)
@[simp] def kR.l4(C:aC)(es bytes f:Nat)(z:List a7)(m:Int)(Q:zQ)(v0:a7):zG|[a,v4],h,Y1=>kR.k2 C es bytes f z m Q Y1 v0 a v4 h|_,_,_=>False
def kR(C:aC)(es bytes f:Nat)(z:List a7)(m:Int)(v0:a7)(h:a9)(Q:zQ):Prop:=B.pv (V.aE v0) λv6=>B.pv (V.bin .add v6 (.int .i64 12)) λb=>0<es /\ B.eO h bytes (some z) (.int .i64 0) b λa h=>B.bO h es bytes a v0 λv11 h=>aB (kR.l4 C es bytes f z m Q v0) [v11,(.int .i64 0)] h
theorem zT{bytes f:Nat}{z:List a7}{m:Int}{mk:Int->T}(s:z.length=F.es)(r:bytes <= 1000)(s1:∀(i:Int)(h:a9)(Q:zQ),Q (.agg (F.cs (mk i))) h->C f [.int .i64 m,.int .i64 i] h Q)
  {x:a7} {L:List T} {R:List (List a7)} {h:a9} {Q:zQ} (hx:aJ h F.es x (L.map F.cs) R) (hlen:L.length <= 100000000)
  (H:∀o h',aG h h' [.sl F.es o (L.map F.cs) (marks F mk 12)]->Q o h'):kR C F.es bytes f z m x h Q:=by
 have d:=hx.aE;rw[length_map]at d;have hmul:∀n:Nat,n <= 100000100->n*bytes <= 140737488355328:=λn u=>by
  have:=Nat.mul_le_mul u r;omega
 have e1:IntKind.i64.wrap ((L.length:Int)+12)=(L.length:Int)+12:=wrap_i64 (by omega) (by omega);simp -dsimp[kR,d,e1];refine⟨F.pos,(aG.start h).eO (es:=F.es) s (by omega) (by omega) ?_ (by omega) λy h1 t=>?_⟩
 ·have:=hmul (L.length+12) (by omega)
  have e:((L.length:Int)+12)*bytes=((L.length+12)*bytes:Nat):=by simp
  rw[e];omega
 refine t.bO 0 rfl (hx.mono t.le) F.pos (by simpa using hmul L.length (by omega)) (by simp[maxLen];omega) λG A q _=>?_;refine aB.intro (λn vs v=>∃k y,k+n=12 /\ vs=[y,.int .i64 k] /\ aG h v [.sl F.es y (L.map F.cs++marks F mk k) []]) 12 ?_ ⟨0,G,by simp,by simp,by simpa[marks]using q⟩;rintro Y n vs v ⟨k,E,u,rfl,c⟩ J;simp -dsimp[d];refine B.bF (λw=>?_) (λw=>?_)<;>simp -dsimp at w ⊢
 ·refine s1 _ _ _ ?_
  have l:bG 1 z=z:=by unfold bG;split<;>simp
  have g:bN [(0,some F.es,.agg (F.cs (mk k)))] z=some (F.cs (mk k)):=by
   have h1:=F.len (mk k);simp[h1,s]
  rw[l,g];refine c.push 0 rfl (F.len _) F.pos (by simp;have:=hmul (L.length+k+1) (by omega);omega) (by simp[maxLen];omega) λD M p _=>?_;simp[fH (n:=k) (by omega)];refine J (12-(k+1)) _ _ (by omega) ⟨k+1,D,by omega,by simp,?_⟩;rw[M7,<-append_assoc];exact p
 ·have:k=12:=by omega
  subst this;obtain⟨o,K,e3,e4⟩:=(c.aP 0 rfl).slice F.pos (lo:=0) (hi:=L.length) (a:=none) (b:=some (.int .i64 L.length)) (.inl ⟨rfl,rfl⟩) (.inr ⟨_,rfl⟩) (by omega) (by simp);simp -dsimp[d,K];refine H _ _ (c.jB 0 rfl (o':= .sl F.es o (L.map F.cs) (marks F mk 12)) ?_ (λid b I hb=>c.lg 0 rfl id b (by show cC E=some id;rw[<-e4];exact I) hb) (λj b hb _=>hb) (.inl e4));have h1:((L.map F.cs++marks F mk 12++[]).take L.length).drop 0=L.map F.cs:=by simp[take_append_of_le_length]
  have A:(L.map F.cs++marks F mk 12++[]).drop L.length=marks F mk 12:=by simp[drop_append_of_le_length]
  rw[h1,A]at e3;exact e3
@[simp] def mH.k2(C:aC)(es f:Nat)(sh:List Ck)(m:Int)(Q:zQ)(Y1:zL)(v1 v5 v6:a7)(h:a9):Prop:=B.pv (V.aE v5) λM=>B.pv (V.bin .lss v6 M) λv20=>B.cond v20 (B.pv (V.aE v1) λJ=>B.pv (V.bin .lss v6 J) λb=>B.gd h b true (λK=>K v5 h) λI h=>B.gd h b true (λK=>K v6 h) λH h=>B.gd h b true (λK=>B.pv (V.aM es I H) λv=>K v h) λv30 h=>B.gd h b true (λK=>B.cR h v30 es λv=>K v h) λG h=>B.gd h b true (λK=>K v1 h) λF h=>B.gd h b true (λK=>K v6 h) λE h=>B.gd h b true (λK=>B.pv (V.aM es F E) λv=>K v h) λD h=>B.gd h b true (λK=>B.cR h D es λv=>K v h) λA h=>B.gd h b true (λK=>B.pv (V.rN .eql sh G A) λv=>K v h) λz h=>B.gd h b true (λK=>B.pv (V.un .not z) λv=>K v h) λy h=>B.pick b y (.bool false) λc=>B.gd h c false (λK=>K v6 h) λx h=>B.gd h c false (λK=>K v1 h) λw h=>B.gd h c false (λK=>B.pv (V.aE w) λv=>K v h) λu h=>B.gd h c false (λK=>B.pv (V.bin .geq x u) λv=>K v h) λt h=>B.gd h c false (λK=>K t h) λa h=>B.gd h a true (λK=>K v5 h) λs h=>B.gd h a true (λK=>K v6 h) λr h=>B.gd h a true (λK=>B.pv (V.aM es s r) λv=>K v h) λd h=>B.gd h a true (λK=>B.cR h d es λv=>K v h) λq h=>B.gd h a true (λK=>K v6 h) λp h=>B.gd h a true (λK=>K v1 h) λo h=>B.gd h a true (λK=>B.pv (V.aE o) λv=>K v h) λn h=>B.gd h a true (λK=>B.pv (V.bin .sub p n) λv=>K v h) λl h=>B.gd h a true (λK=>B.call C f [(.int .i64 m),l] h (B.jV h [(d,some es)] K)) λk h=>B.gd h a true (λK=>B.pv (V.rN .eql sh q k) λv=>K v h) λj h=>B.gd h a true (λK=>B.pv (V.un .not j) λv=>K v h) λi h=>B.gd h c false (λK=>B.pick a i (.bool false) λv=>K v h) λg h=>B.pick c (.bool true) g λe=>B.cond e (Q (.bool false) h) (B.pv (V.bin .add v6 (.int .i64 1)) λL=>Y1 [L] h)) (Q (.bool true) h)
@[simp] def mH.l4(C:aC)(es f:Nat)(sh:List Ck)(m:Int)(Q:zQ)(v1 v5:a7):zG|[v6],h,Y1=>mH.k2 C es f sh m Q Y1 v1 v5 v6 h|_,_,_=>False
def mH(C:aC)(es f:Nat)(sh:List Ck)(m:Int)(v0 v1:a7)(h:a9)(Q:zQ):Prop:=B.pv (V.aE v0) λd=>B.pv (V.aE v1) λv10=>B.pv (V.bin .neq d v10) λv11=>B.cond v11 (Q (.bool false) h) (B.pv (V.aE v1) λc=>B.pv (V.bin .add c (.int .i64 12)) λb=>B.pv (V.dS es v0 none (some b)) λa=>aB (mH.l4 C es f sh m Q v1 a) [(.int .i64 0)] h)
theorem zV{f:Nat}{m:Int}{mk:Int->T}(s1:∀(i:Int)(h:a9)(Q:zQ),Q (.agg (F.cs (mk i))) h->C f [.int .i64 m,.int .i64 i] h Q)
  {x y:a7} {L M:List T} {R:List (List a7)} {h:a9} {Q:zQ} (hx:aJ h F.es x (L.map F.cs) (marks F mk 12)) (o:aJ h F.es y (M.map F.cs) R) (hlen:L.length <= 100000000)
  (l:Q (.bool (decide (L=M))) h):mH C F.es f F.sh m x y h Q:=by
 have s:=hx.aE;have c:=o.aE;rw[length_map]at s c;simp -dsimp[mH,s,c];refine B.bF (λhb=>?_) (λhb=>?_)<;>simp -dsimp at hb ⊢
 ·rw[decide_eq_false λe=>hb (by rw[e])]at l
  exact l
 ·have e1:IntKind.i64.wrap ((M.length:Int)+12)=((M.length+12:Nat):Int):=by rw[wrap_i64 (by omega) (by omega)];omega
  obtain⟨z,K,e3,e4⟩:=hx.slice F.pos (lo:=0) (hi:=M.length+12) (a:=none) (b:=some (.int .i64 ((M.length+12:Nat):Int))) (.inl ⟨rfl,rfl⟩) (.inr ⟨_,rfl⟩) (by omega) (by simp;omega);have h1:((L.map F.cs++marks F mk 12).take (M.length+12)).drop 0=L.map F.cs++marks F mk 12:=by rw[drop_zero,take_of_length_le];simp;omega
  rw[h1]at e3;have r:=e3.aE;simp only[length_append,length_map,Np]at r;simp only[c,V.fP,e1,K,B.aK];refine aB.intro (λn vs G=>∃k,k+n=L.length+12 /\ vs=[.int .i64 k] /\ G=h /\ L.take k=M.take k) (L.length+12) ?_ ⟨0,by simp,by simp,rfl,by simp⟩;rintro Y n vs _ ⟨k,N,rfl,rfl,he⟩ D;simp -dsimp[r];refine B.bF (λA=>?_) (λA=>?_)<;>simp -dsimp at A ⊢
  ·have hk:k<(L.map F.cs++marks F mk 12).length:=by simp;omega
   by_cases t:k<L.length
   ·have H:=dI t
    have I:=dI (L:=M) (k:=k) (by omega);obtain⟨w,hw⟩:=H;obtain⟨u,hu⟩:=I;have v:k<(M.map F.cs).length:=by simp;omega
    have d:k<M.length:=by omega
    have q:(L.map F.cs++marks F mk 12)[k]?=some (F.cs w):=by rw[getElem?_append_left (by simpa using t)];exact get_map hw
    by_cases g:w=u
    ·subst g
     simp -dsimp[c,d,e3.dF hk,o.dF v,e3.elem q,o.elem (get_map hu),F.eql,show ¬ M.length <= k by omega,fH (n:=k) (by omega)];refine D (L.length+12-(k+1)) _ _ (by omega) ⟨k+1,by omega,by simp,rfl,?_⟩;rw[take_succ hw,take_succ hu,he]
    ·simp -dsimp[c,d,e3.dF hk,o.dF v,e3.elem q,o.elem (get_map hu),F.eql,g]
     rw[decide_eq_false λe=>by subst e;rw[hw]at hu;cases hu;exact g rfl]at l;exact l
   ·have d:¬ k<M.length:=by omega
    have j:(L.map F.cs++marks F mk 12)[k]?=some (F.cs (mk ((k-M.length:Nat):Int))):=by
     rw[getElem?_append_right (by simp;omega),length_map,show k-L.length=k-M.length by omega];exact Nq F mk (by omega)
    have J:IntKind.i64.wrap ((k:Int)-M.length)=((k-M.length:Nat):Int):=by rw[wrap_i64 (by omega) (by omega)];omega
    simp -dsimp[c,d,e3.dF hk,e3.elem j,show M.length <= k by omega,J];refine s1 _ _ _ ⟨?_,?_⟩
    ·intro p E
     rw[mem_singleton.1 E];exact⟨_,e3.elem j,e3.elem j⟩
    ·simp[F.eql,fH (n:=k) (by omega)]
     refine D (L.length+12-(k+1)) _ _ (by omega) ⟨k+1,by omega,by simp,rfl,?_⟩;rw[take_of_length_le (by omega),take_of_length_le (by omega)]at he ⊢;exact he
  ·rw[take_of_length_le (by omega),take_of_length_le (by omega)]at he
   rw[decide_eq_true he]at l;exact l
end
variable{C:aC}{N:zN}
structure fi where
 es:Nat
 bytes:Nat
 z:List a7
 f:Nat
 kp:Option Nat
 ld:a9->a7->(a7->Prop)->Prop
 st:a9->a7->a7->(a9->Prop)->Prop
 eq:a9->a7->a7->(zQ)->Prop
section
variable(E:fi)
@[simp] def aH.k3(C:aC)(Q:zQ)(Y1 Y2:zL)(v0 v5 c b:a7)(h:a9):Prop:=B.pv (V.aM 1 v0 c) λG=>B.ld h G λF=>B.pv (V.aE F) λD=>B.pv (V.bin .lss b D) λA=>B.cond A (B.pv (V.aM 1 v0 c) λi=>B.ld h i λy=>B.pv (V.aM E.es y b) λg=>E.ld h g λx=>B.call C E.f [c,b] h (B.jV h [(i,none),(g,E.kp)] (λw h=>E.eq h x w λu h=>B.pv (V.un .not u) λa=>B.gd h a false (λK=>K v5 h) λt h=>B.gd h a false (λK=>K c h) λs h=>B.gd h a false (λK=>B.pv (V.aM 1 t s) λv=>K v h) λe h=>B.gd h a false (λK=>B.ld h e λv=>K v h) λr h=>B.gd h a false (λK=>K b h) λq h=>B.gd h a false (λK=>B.pv (V.aM E.es r q) λv=>K v h) λd h=>B.gd h a false (λK=>E.ld h d λv=>K v h) λp h=>B.gd h a false (λK=>K c h) λo h=>B.gd h a false (λK=>K b h) λn h=>B.gd h a false (λK=>B.call C E.f [o,n] h (B.jV h [(e,none),(d,E.kp)] K)) λm h=>B.gd h a false (λK=>E.eq h p m K) λl h=>B.gd h a false (λK=>B.pv (V.un .not l) λv=>K v h) λk h=>B.pick a (.bool true) k λj=>B.cond j (Q (.bool false) h) (B.pv (V.bin .add b (.int .i64 1)) λz=>Y2 [z] h)))) (B.pv (V.bin .add c (.int .i64 1)) λH=>Y1 [H] h)
@[simp] def aH.l5(C:aC)(Q:zQ)(Y1:zL)(v0 v5 b:a7):zG|[a],h,Y2=>aH.k3 E C Q Y1 Y2 v0 v5 b a h|_,_,_=>False
@[simp] def aH.mK(C:aC)(Q:zQ)(Y1:zL)(v0 v5 c:a7)(h:a9):Prop:=B.pv (V.aE v0) λb=>B.pv (V.bin .lss c b) λa=>B.cond a (aB (aH.l5 E C Q Y1 v0 v5 c) [(.int .i64 0)] h) (Q (.bool true) h)
@[simp] def aH.gY(C:aC)(Q:zQ)(v0 v5:a7):zG|[a],h,Y1=>aH.mK E C Q Y1 v0 v5 a h|_,_,_=>False
@[simp] def aH.og(C:aC)(Q:zQ)(Y3:zL)(v0 v5 v11 f:a7)(h:a9):Prop:=B.pv (V.aM 1 v0 v11) λd=>B.ld h d λc=>B.bO h E.es E.bytes c f λb h=>B.pv (V.aM 1 v5 v11) λa=>B.st h a b λh=>B.pv (V.bin .add v11 (.int .i64 1)) λe=>Y3 [e] h
@[simp] def aH.Q0(C:aC)(Q:zQ)(Y3 k:zL)(v0 v5 v11 j a:a7)(h:a9):Prop:=B.pv (V.bin .lss a (.int .i64 64)) λi=>B.cond i (B.pv (V.aE v0) λe=>B.pv (V.bin .add v11 e) λd=>B.call C E.f [d,a] h λc h=>B.pv (V.aM E.es j a) λb=>E.st h b c λh=>B.pv (V.bin .add a (.int .i64 1)) λg=>k [g] h) (aH.og E C Q Y3 v0 v5 v11 j h)
@[simp] def aH.g8(C:aC)(Q:zQ)(Y3:zL)(v0 v5 v11 b:a7):zG|[a],h,c=>aH.Q0 E C Q Y3 c v0 v5 v11 b a h|_,_,_=>False
@[simp] def aH.Qz(C:aC)(Q:zQ)(Y3:zL)(v0 v5 v11:a7)(h:a9):Prop:=B.pv (V.aE v0) λc=>B.pv (V.bin .lss v11 c) λb=>B.cond b (0<E.es /\ B.eO h E.bytes (some E.z) (.int .i64 64) (.int .i64 64) λa h=>aB (aH.g8 E C Q Y3 v0 v5 v11 a) [(.int .i64 0)] h) (aB (aH.gY E C Q v0 v5) [(.int .i64 0)] h)
@[simp] def aH.ic(C:aC)(Q:zQ)(v0 v5:a7):zG|[v11],h,Y3=>aH.Qz E C Q Y3 v0 v5 v11 h|_,_,_=>False
@[simp] def aH.Qy(C:aC)(Q:zQ)(Y5 S:zL)(v0 v5 e v10:a7)(h:a9):Prop:=B.pv (V.aM 1 v5 e) λP=>B.ld h P λO=>B.pv (V.aE O) λN=>B.pv (V.bin .lss v10 N) λM=>B.cond M (B.pv (V.aM 1 v5 e) λi=>B.ld h i λJ=>B.pv (V.aM E.es J v10) λg=>E.ld h g λI=>B.call C E.f [e,v10] h (B.jV h [(i,none),(g,E.kp)] (λH h=>E.eq h I H λG h=>B.pv (V.un .not G) λb=>B.gd h b false (λK=>K v10 h) λF h=>B.gd h b false (λK=>K v0 h) λD h=>B.gd h b false (λK=>K e h) λA h=>B.gd h b false (λK=>B.pv (V.aM 1 D A) λv=>K v h) λz h=>B.gd h b false (λK=>B.ld h z λv=>K v h) λy h=>B.gd h b false (λK=>B.pv (V.aE y) λv=>K v h) λx h=>B.gd h b false (λK=>B.pv (V.bin .lss F x) λv=>K v h) λw h=>B.gd h b false (λK=>K w h) λa h=>B.gd h a true (λK=>K v0 h) λu h=>B.gd h a true (λK=>K e h) λt h=>B.gd h a true (λK=>B.pv (V.aM 1 u t) λv=>K v h) λd h=>B.gd h a true (λK=>B.ld h d λv=>K v h) λs h=>B.gd h a true (λK=>K v10 h) λr h=>B.gd h a true (λK=>B.pv (V.aM E.es s r) λv=>K v h) λc h=>B.gd h a true (λK=>E.ld h c λv=>K v h) λq h=>B.gd h a true (λK=>K e h) λp h=>B.gd h a true (λK=>K v10 h) λo h=>B.gd h a true (λK=>B.call C E.f [p,o] h (B.jV h [(d,none),(c,E.kp)] K)) λn h=>B.gd h a true (λK=>E.eq h q n K) λm h=>B.gd h a true (λK=>B.pv (V.un .not m) λv=>K v h) λl h=>B.gd h b false (λK=>B.pick a l (.bool false) λv=>K v h) λk h=>B.pick b (.bool true) k λj=>B.cond j (Q (.bool false) h) (B.pv (V.bin .add v10 (.int .i64 1)) λL=>S [L] h)))) (B.pv (V.bin .add e (.int .i64 1)) λR=>Y5 [R] h)
@[simp] def aH.iw(C:aC)(Q:zQ)(Y5:zL)(v0 v5 a:a7):zG|[v10],h,b=>aH.Qy E C Q Y5 b v0 v5 a v10 h|_,_,_=>False
@[simp] def aH.Qx(C:aC)(Q:zQ)(Y5:zL)(v0 v5 c:a7)(h:a9):Prop:=B.pv (V.aE v0) λb=>B.pv (V.bin .lss c b) λa=>B.cond a (aB (aH.iw E C Q Y5 v0 v5 c) [(.int .i64 0)] h) (aB (aH.ic E C Q v0 v5) [(.int .i64 0)] h)
@[simp] def aH.ib(C:aC)(Q:zQ)(v0 v5:a7):zG|[a],h,Y5=>aH.Qx E C Q Y5 v0 v5 a h|_,_,_=>False
@[simp] def aH.Qw(C:aC)(Q:zQ)(p o:zL)(v0 v5 v6 n a:a7)(h:a9):Prop:=B.pv (V.bin .lss a (.int .i64 64)) λl=>B.cond l (B.pv (V.aM 1 v0 v6) λj=>B.ld h j λi=>B.pv (V.aE i) λg=>B.pv (V.bin .add g a) λe=>B.call C E.f [v6,e] h λd h=>B.bL h (bN [(0,E.kp,d)] (bG 1 E.z)) λi67 h=>B.bO h E.es E.bytes n (.sl i67 0 0 1 E.es 1) λc h=>B.pv (V.bin .add a (.int .i64 1)) λk=>o [c,k] h) (B.pv (V.aM 1 v5 v6) λb=>B.st h b n λh=>B.pv (V.bin .add v6 (.int .i64 1)) λm=>p [m] h)
@[simp] def aH.g7(C:aC)(Q:zQ)(d:zL)(v0 v5 v6:a7):zG|[b,a],h,c=>aH.Qw E C Q d c v0 v5 v6 b a h|_,_,_=>False
@[simp] def aH.Qv(C:aC)(Q:zQ)(e:zL)(v0 v5 v6:a7)(h:a9):Prop:=B.pv (V.aE v0) λd=>B.pv (V.bin .lss v6 d) λc=>B.cond c (B.pv (V.aM 1 v0 v6) λb=>B.ld h b λa=>aB (aH.g7 E C Q e v0 v5 v6) [a,(.int .i64 0)] h) (aB (aH.ib E C Q v0 v5) [(.int .i64 0)] h)
@[simp] def aH.gu(C:aC)(Q:zQ)(v0 v5:a7):zG|[v6],h,a=>aH.Qv E C Q a v0 v5 v6 h|_,_,_=>False
@[simp] def aH.Qu(C:aC)(Q:zQ)(n m:zL)(v0 b v4:a7)(h:a9):Prop:=B.pv (V.aM 1 v0 b) λk=>B.ld h k λj=>B.pv (V.aE j) λi=>B.pv (V.bin .lss v4 i) λg=>B.cond g (B.pv (V.aM 1 v0 b) λa=>B.ld h a λe=>B.call C E.f [b,v4] h (B.jV h [(a,none)] (λd h=>B.pv (V.aM E.es e v4) λc=>E.st h c d λh=>B.pv (V.bin .add v4 (.int .i64 1)) λv30=>m [v30] h))) (B.pv (V.bin .add b (.int .i64 1)) λl=>n [l] h)
@[simp] def aH.iv(C:aC)(Q:zQ)(c:zL)(v0 b:a7):zG|[v4],h,a=>aH.Qu E C Q c a v0 b v4 h|_,_,_=>False
@[simp] def aH.Qj(C:aC)(Q:zQ)(f:zL)(v0 e:a7)(h:a9):Prop:=B.pv (V.aE v0) λd=>B.pv (V.bin .lss e d) λc=>B.cond c (aB (aH.iv E C Q f v0 e) [(.int .i64 0)] h) (B.pv (V.aE v0) λa=>0<1 /\ B.eO h 24 (some [.aA]) a a λb h=>aB (aH.gu E C Q v0 b) [(.int .i64 0)] h)
@[simp] def aH.gz(C:aC)(Q:zQ)(v0:a7):zG|[a],h,b=>aH.Qj E C Q b v0 a h|_,_,_=>False
def aH(C:aC)(v0:a7)(h:a9)(Q:zQ):Prop:=aB (aH.gz E C Q v0) [(.int .i64 0)] h
def rW(es bytes:Nat)(z:List a7)(f:Nat)(sh:List Ck):fi where
 es:=es;bytes:=bytes;z:=z;f:=f;kp:=some es
 ld:=λh p K=>B.cR h p es K
 st:=λh p v K=>B.gp h p es v K
 eq:=λh a b K=>B.pv (V.rN .eql sh a b) λv=>K v h
def dH(bytes:Nat)(z:a7)(f:Nat):fi where
 es:=1;bytes:=bytes;z:=[z];f:=f;kp:=none
 ld:=λh p K=>B.ld h p K
 st:=λh p v K=>B.st h p v K
 eq:=λh a b K=>B.pv (V.bin .eql a b) λv=>K v h
def pZ(C:aC)(es bytes:Nat)(z:List a7)(f g:Nat):fi where
 es:=es;bytes:=bytes;z:=z;f:=f;kp:=some es
 ld:=λh p K=>B.cR h p es K
 st:=λh p v K=>B.gp h p es v K
 eq:=λh a b K=>B.call C g [a,b] h K
end
variable{C:aC}{N:zN}
def yW:a7->Nat | .sl _ _ off _ _ _=>off|_=>0
theorem FR(g hi e:Nat):∀(eE:List (Nat×Nat)),eE.lookup g=some hi->(xv eE e).lookup g=some (min hi e)
 | [],h=>by cases h
 | (g',k)::r,h=>by
  unfold xv
  rw[map_cons]
  by_cases e1:(g==g')=true
  ·simp only[List.lookup,e1]at h ⊢
   rw[Option.some.inj h]
  ·simp only[Bool.not_eq_true]at e1
   simp only[List.lookup,e1]at h ⊢
   exact FR g hi e r h
theorem aJ.Pm{h:a9}{es:Nat}{x:a7}{L R:List (List a7)}(i:aJ h es x L R){id:Nat}{b:fB}(j:cC x=some id)(hb:h id=some b){e:Nat}(he:yW x+L.length*es <= e)(l:e <= b.cells.length)(news:List a7):
  aJ (Ab.bQ h id (jd b e news)) es x L []:=by
 have h0:=i.cut;refine⟨h0.len,?_⟩;rcases h0.at_ with e1|⟨f,g,off,cp,p,hi,h1,fl,d,n,m,o,c⟩
 ·exact .inl e1
 ·subst h1
  cases j;rw[hb]at d;cases d;simp only[yW]at he;simp only[length_nil,Nat.add_zero]at m c fl;have hcells:((b.cells.take e++news).drop off).take (L.length*es)=(L++[]).flatten:=by
   rw[<-c];apply ext_getElem?;intro k;by_cases hk:k<L.length*es
   ·rw[getElem?_take_of_lt hk,getElem?_take_of_lt hk,getElem?_drop,getElem?_drop,getElem?_append_left (by simp;omega),getElem?_take_of_lt (by omega)]
   ·rw[getElem?_take_eq_none (by omega),getElem?_take_eq_none (by omega)]
  by_cases a:g=b.next
  ·refine .inr ⟨_,g,off,cp,_,e+news.length,rfl,by simpa using fl,dR ..,by simp[jd,a,List.lookup],by simp;omega,by simp[jd];omega,?_⟩
   simpa[jd]using hcells
  ·refine .inr ⟨_,g,off,cp,_,min hi e,rfl,by simpa using fl,dR ..,?_,by simp;omega,by simp[jd];omega,?_⟩
   ·simp only[jd,List.lookup]
    rw[show (g==b.next)=false by simpa using a];exact FR g hi e b.eE n
   ·simpa[jd]using hcells
structure Old(h:a9)(es:Nat)(x:a7)(L:List (List a7))(y:a7)(M:List (List a7)):Prop where
 at_:aJ h es x L []
 ft:cC x=none \/ (cC x=cC y /\ yW x=yW y)
 len:L.length <= M.length
theorem Old.refl{h:a9}{es:Nat}{x:a7}{L R:List (List a7)}(a:aJ h es x L R):Old h es x L x L:=⟨a.cut,.inr ⟨rfl,rfl⟩,Nat.le_refl _⟩
theorem Old.other{h h':a9}{es:Nat}{x y z:a7}{L M:List (List a7)}(a:Old h es x L y M)(hb:iH z h h')(b:∀id,cC y=some id->cC z≠some id):Old h' es x L y M:=
 ⟨hb.sl a.at_ λid c=>b id (by rcases a.ft with e|⟨e,_⟩<;>rw[e]at c;cases c;exact c),a.ft,a.len⟩
theorem Old.mono{h h':a9}{es:Nat}{x y:a7}{L M:List (List a7)}(a:Old h es x L y M)(hle:h.le h'):Old h' es x L y M:=⟨a.at_.mono hle,a.ft,a.len⟩
section
variable{h H h0:a9}{es:Nat}{x:a7}{L R:List (List a7)}
theorem aJ.Qn{bytes:Nat}{M:List (List a7)}{K:zQ}(G:aJ h es x L R)(s:∀id b,cC x=some id->h id=some b->b.own=true)(D:0<es)(I:∀p∈M,p.length=es)(hb:(L.length+M.length)*bytes <= 140737488355328)(hm:L.length+M.length <= maxLen)
  (hk:∀n h',yX h' es n (L++M)->(∀id b,cC n=some id->h' id=some b->b.own=true)->iH x h h'->(cC n=cC x \/ ∀id,cC n=some id->h id=none)->(∀u U,Old h es u U x L->Old h' es u U n (L++M))->K n h'):A.app h es bytes x (some M.flatten) K:=by
 have q:=ve I;have H:M.flatten.length / es=M.length:=by rw[q,Nat.mul_div_cancel _ D]
 have k:∀p∈(L++M)++[],p.length=es:=λp o=>by
  rw[append_nil]at o;rcases mem_append.1 o with o|o
  ·exact G.len p (mem_append_left _ o)
  ·exact I p o
 have fresh:L=[]->cC x=none->(M≠[]->(M.flatten.length / es)*bytes <= 140737488355328 /\ M.flatten.length / es <= maxLen /\ A.new h M.flatten λid h=>K (.sl id 0 0 (M.flatten.length / es) es (M.flatten.length / es)) h):=λe C O=>by
  subst e;rw[H];simp only[length_nil,Nat.zero_add]at hb hm;refine⟨hb,hm,λid m=>?_⟩;refine hk _ _ ⟨k,.inr ⟨id,0,0,_,cG M.flatten,M.flatten.length,by simp only[nil_append];exact rfl,by simp,dR ..,wU ..,by simp[q],Nat.le_refl _,?_⟩⟩ (λj b f v=>?_) (iH.of_le _ (hU _ m)) (.inr λj f=>?_) (λu U hu=>⟨hu.at_.mono (hU _ m),.inl ?_,?_⟩)
  ·simp only[nil_append,append_nil,length_nil,Nat.add_zero,<-q,cG,drop_zero,take_length]
  ·cases f
   rw[dR]at v;cases v;rfl
  ·cases f;exact m
  ·rcases hu.ft with e|⟨e,_⟩
   ·exact e
   ·rw[e,C]
  ·have:=hu.len;simp at this;simp[this]
 have i:M=[] \/ M.flatten.length≠0:=by
  cases M with
  | nil=>exact .inl rfl
  | cons a r=>
   refine .inr ?_;rw[q,length_cons,Nat.add_mul];omega
 have h0:=G.cut;rcases h0.at_ with⟨e,_,y|y⟩|⟨id,g,off,cp,b,hi,h1,fl,F,P,N,S,J⟩
 ·subst y
  simp only[A.app];split
  ·rename_i l
   rcases i with d|d
   ·subst d;exact hk _ _ (by simpa using h0) (λ_ _ f=>by cases f) (iH.of_le _ (a9.le_refl h)) (.inl rfl) (λu U hu=>by simpa using hu)
   ·exact absurd l d
  ·rename_i l
   exact fresh e rfl λd=>l (by rw[d];rfl)
 ·subst y
  simp only[A.app];split
  ·rename_i l
   rcases i with d|d
   ·subst d;exact hk _ _ (by simpa using h0) (λ_ _ f=>by cases f) (iH.of_le _ (a9.le_refl h)) (.inl rfl) (λu U hu=>by simpa using hu)
   ·exact absurd l d
  ·rename_i l
   exact fresh e rfl λd=>l (by rw[d];rfl)
 ·have c:=s id b (by rw[h1];rfl) F
  subst h1;simp only[length_nil,Nat.add_zero,append_nil]at N J;simp only[A.app,F,P,H,c,cond_true];have E:off+L.length*es <= b.cells.length:=by omega
  have B:(b.cells.take (off+L.length*es)).length=off+L.length*es:=by simp;omega
  refine⟨trivial,trivial,N,hb,hm,hk _ _ ⟨k,.inr ⟨id,b.next,off,_,_,off+L.length*es+M.flatten.length,by rw[length_append],by simp,dR ..,wU ..,?_,?_,?_⟩⟩ (λj Q f t=>?_) (λj Q e1 w=>?_) (.inl rfl) (λu U hu=>⟨?_,?_,?_⟩)⟩
  ·rw[length_append,length_nil,Nat.add_zero,Nat.add_mul,q];omega
  ·simp only[jd,length_append,B];omega
  ·simp only[jd,append_nil,length_nil,Nat.add_zero]
   rw[drop_append_of_le_length (by omega),length_append,Nat.add_mul,<-q,flatten_append,<-J];have e1:(b.cells.take (off+L.length*es)).drop off=(b.cells.drop off).take (L.length*es):=by
    rw[drop_take];congr 1;omega
   have w:((b.cells.drop off).take (L.length*es)).length=L.length*es:=by simp;omega
   rw[e1,take_of_length_le];rw[length_append,w];omega
  ·cases f
   rw[dR]at t;cases t;exact c
  ·rw[cQ]
   ·exact e1
   ·intro e;subst e;exact w rfl
  ·by_cases z:cC u=some id
   ·refine hu.at_.Pm z F ?_ E _
    have e1:=hu.len;have w:yW u=off:=by
     rcases hu.ft with e|⟨_,e⟩
     ·rw[e]at z;cases z
     ·exact e
    rw[w];have:=Nat.mul_le_mul_right es e1;omega
   ·exact hu.at_.bQ z
  ·rcases hu.ft with e|⟨e,y⟩
   ·exact .inl e
   ·exact .inr ⟨e,y⟩
  ·have:=hu.len;rw[length_append];omega
theorem aJ.yO{bytes:Nat}{y:a7}{M R':List (List a7)}{K:zQ}(g:aJ h es x L R)(c:∀id b,cC x=some id->h id=some b->b.own=true)(d:aJ h es y M R')(e:0<es)(hb:(L.length+M.length)*bytes <= 140737488355328)(hm:L.length+M.length <= maxLen)
  (hk:∀a h',yX h' es a (L++M)->(∀id b,cC a=some id->h' id=some b->b.own=true)->iH x h h'->(cC a=cC x \/ ∀id,cC a=some id->h id=none)->(∀u U,Old h es u U x L->Old h' es u U a (L++M))->K a h'):A.bO h es bytes x y K:=by
 unfold A.bO;rw[d.jR];simp only;rw[d.rdv];exact g.Qn c e (λp f=>d.len p (mem_append_left _ f)) hb hm hk
end
section
variable{h0 h h':a9}{l:List Ob}
theorem aG.ne(g:aG h0 h l){i j:Nat}{a b:Ob}(hi:l[i]?=some a)(c:l[j]?=some b)(e:i≠j):∀id,a.cC=some id->b.cC≠some id:=λid k hb=>by
 rcases Nat.lt_or_gt_of_ne e with d|f
 ·have:=pairwise_iff_getElem.1 g.apart i j (List.getElem?_eq_some_iff.1 hi).1 (List.getElem?_eq_some_iff.1 c).1 d
  rw[(List.getElem?_eq_some_iff.1 hi).2,(List.getElem?_eq_some_iff.1 c).2]at this
  exact this id k hb
 ·have:=pairwise_iff_getElem.1 g.apart j i (List.getElem?_eq_some_iff.1 c).1 (List.getElem?_eq_some_iff.1 hi).1 f
  rw[(List.getElem?_eq_some_iff.1 c).2,(List.getElem?_eq_some_iff.1 hi).2]at this
  exact this id hb k
end
def Kp(h:a9)(p:a7)(o:Option Nat):Prop:=match o with|none=>∃x,A.bX h p=some x|some n=>∃x,A.fF h p n=some x
theorem FX{h:a9}{ls:List (a7×Option Nat)}{K:zQ}{v:a7}(b:∀p∈ls,Kp h p.1 p.2)(hk:K v h):B.jV h ls K v h:=by
 refine⟨λp a=>?_,hk⟩;have:=b p a;obtain⟨p,o⟩:=p;cases o with
 | none=>obtain⟨x,e⟩:=this;exact⟨x,e,e⟩
 | some n=>obtain⟨x,e⟩:=this;exact⟨x,e,e⟩
theorem Ps{h:a9}{p:a7}{o:Option Nat}{K:zQ}{v:a7}(h1:Kp h p o)(hk:K v h):B.jV h [(p,o)] K v h:=
 FX (λq a=>by rw[mem_singleton.1 a];exact h1) hk
theorem Bc{h:a9}{p q:a7}{o u:Option Nat}{K:zQ}{v:a7}(h1:Kp h p o)(b:Kp h q u)(hk:K v h):B.jV h [(p,o),(q,u)] K v h:=
 FX (λr a=>by rcases mem_cons.1 a with e|a;rw[e];exact h1;rw[mem_singleton.1 a];exact b) hk
def dU{α:Type}(f:Nat->α)(k:Nat)(v:α):Nat->α:=λj=>if j=k then v else f j
def cS(es n:Nat)(xs:Nat->a7)(D R:Nat->List (List a7)):List Ob:=(List.range n).map λj=>Ob.sl es (xs j) (D j) (R j)
section
variable{es n k:Nat}{xs:Nat->a7}{D R:Nat->List (List a7)}
@[simp] theorem cS.length:(cS es n xs D R).length=n:=by simp[cS]
theorem cS.get(hk:k<n):(cS es n xs D R)[k]?=some (.sl es (xs k) (D k) (R k)):=by simp[cS,hk]
theorem cS.set{x:a7}{L M:List (List a7)}:(cS es n xs D R).set k (.sl es x L M)=cS es n (dU xs k x) (dU D k L) (dU R k M):=by
 apply ext_getElem?;intro j;by_cases a:j<n
 ·rw[cS.get a]
  by_cases e:k=j
  ·subst e;rw[getElem?_set_self (by simpa using a)];simp[dU]
  ·rw[getElem?_set_ne e,cS.get a];simp[dU,Ne.symm e]
 ·rw[getElem?_eq_none (by simp;omega),getElem?_eq_none (by simp;omega)]
theorem cS.congr{ys:Nat->a7}{E S:Nat->List (List a7)}(h:∀j,j<n->xs j=ys j /\ D j=E j /\ R j=S j):cS es n xs D R=cS es n ys E S:=
 map_congr_left λj d=>by obtain⟨a,b,c⟩:=h j (by simpa using d);rw[a,b,c]
theorem cS.lq{l:List Ob}(hk:k<n):(cS es n xs D R++l)[k]?=some (.sl es (xs k) (D k) (R k)):=by
 rw[getElem?_append_left (by simpa using hk)];exact cS.get hk
theorem cS.DX{l:List Ob}(hk:k<n){x:a7}{L M:List (List a7)}:(cS es n xs D R++l).set k (.sl es x L M)=cS es n (dU xs k x) (dU D k L) (dU R k M)++l:=by
 rw[set_append_left _ _ (by simpa using hk),cS.set]
theorem cS.sR{o:Ob}:(cS es n xs D R++[o])[n]?=some o:=by
 rw[getElem?_append_right (by simp)];simp
theorem cS.DW{o o':Ob}:(cS es n xs D R++[o]).set n o'=cS es n xs D R++[o']:=by
 rw[set_append_right _ _ (by simp)];simp
end
theorem aG.yU{h0 h:a9}{es n:Nat}{xs:Nat->a7}{D R:Nat->List (List a7)}{l:List Ob}(d:aG h0 h (cS es n xs D R++l)):aG h0 h (cS es n xs D (λ_=>[])++l):=by
 have mem:∀o∈cS es n xs D (λ_=>[]),∃o'∈cS es n xs D R,o'.cC=o.cC /\ (o'.at h->o.at h):=λo hm=>by
  obtain⟨j,g,rfl⟩:=mem_map.1 hm;exact⟨_,mem_map.2 ⟨j,g,rfl⟩,rfl,λh=>aJ.cut h⟩
 refine⟨d.le,λo hm=>?_,λo hm=>?_,?_⟩
 ·rcases mem_append.1 hm with hm|hm
  ·obtain⟨o',h1,_,i⟩:=mem o hm
   exact i (d.is _ (mem_append_left _ h1))
  ·exact d.is _ (mem_append_right _ hm)
 ·rcases mem_append.1 hm with hm|hm
  ·obtain⟨o',h1,e,_⟩:=mem o hm
   rw[<-e];exact d.own _ (mem_append_left _ h1)
  ·exact d.own _ (mem_append_right _ hm)
 ·obtain⟨a,b,c⟩:=pairwise_append.1 d.apart
  refine pairwise_append.2 ⟨?_,b,λx hx y f=>?_⟩
  ·unfold cS at a ⊢
   rw[pairwise_map]at a ⊢;exact a.imp λh=>h
  ·obtain⟨o',h1,e,_⟩:=mem x hx
   rw[<-e];exact c o' h1 y f
variable{C:aC}{N:zN}
structure uE(C:aC)(E:fi)(m:Int->Int->List a7)(v:Int->Int->a7):Prop where
 pos:0<E.es
 small:E.bytes <= 1000
 len:∀k i,(m k i).length=E.es
 mJ:E.z.length=E.es
 new:∀k i,bN [(0,E.kp,v k i)] (bG 1 E.z)=some (m k i)
 call:∀(k i:Int)(h:a9)(Q:zQ),Q (v k i) h->C E.f [.int .i64 k,.int .i64 i] h Q
 ld:∀{h:a9}{x:a7}{L R:List (List a7)}{i:Nat}{k j:Int}{K:a7->Prop},aJ h E.es x L R->L[i]?=some (m k j)->K (v k j)->E.ld h (aV E.es x i 0) K
 qd:∀{h:a9}{x:a7}{L R:List (List a7)}{i:Nat}{k j:Int},aJ h E.es x L R->L[i]?=some (m k j)->Kp h (aV E.es x i 0) E.kp
 st:∀{h:a9}{x:a7}{L R:List (List a7)}{i:Nat}{c:List a7}{k j:Int}{K:a9->Prop},aJ h E.es x L R->(∀id b,cC x=some id->h id=some b->b.own=true)->L[i]?=some c ->
  (∀h',aJ h' E.es x (L.set i (m k j)) R->(∀id b,cC x=some id->h' id=some b->b.own=true)->iH x h h'->K h')->E.st h (aV E.es x i 0) (v k j) K
 eq:∀{h:a9}{k i:Int}{K:zQ},K (.bool true) h->E.eq h (v k i) (v k i) K
def jh(m:Int->Int->List a7)(k n:Nat):List (List a7):=(List.range n).map fun(i:Nat)=>m (k:Int) (i:Int)
section
variable{m:Int->Int->List a7}{k n i:Nat}
@[simp] theorem uZ:(jh m k n).length=n:=by simp[jh]
theorem vb(hi:i<n):(jh m k n)[i]?=some (m (k:Int) (i:Int)):=by simp[jh,hi]
theorem GB:jh m k (n+1)=jh m k n++[m (k:Int) (n:Int)]:=by simp[jh,range_succ]
@[simp] theorem Nn:jh m k 0=[]:=rfl
theorem GC{D:List (List a7)}(hi:i<D.length):(jh m k i++D.drop i).set i (m (k:Int) (i:Int))=jh m k (i+1)++D.drop (i+1):=by
 rw[set_append_right _ _ (by simp),uZ,Nat.sub_self,GB,drop_eq_getElem_cons hi,set_cons_zero,append_assoc];rfl
theorem Hz{D:List (List a7)}(hi:i<D.length):(jh m k i++D.drop i)[i]?=some D[i]:=by
 rw[getElem?_append_right (by simp),uZ,Nat.sub_self,getElem?_drop];simp[hi]
end
theorem gR{α:Type}(f:Nat->α)(k:Nat)(v:α):dU f k v k=v:=by simp[dU]
theorem jy{α:Type}(f:Nat->α){k j:Nat}(v:α)(h:j≠k):dU f k v j=f j:=by simp[dU,h]
theorem si{α:Type}(f:Nat->α)(k:Nat):dU f k (f k)=f:=by funext j;unfold dU;split<;>simp_all
theorem Ae{α:Type}(k:Nat)(v:α):dU (λ_=>v) k v=λ_=>v:=by funext j;unfold dU;split<;>rfl
theorem uy{α:Type}(f:Nat->α)(k:Nat)(v w:α):dU (dU f k v) k w=dU f k w:=by funext j;unfold dU;split<;>rfl
section
variable{h:a9}{x:a7}{n k:Nat}{xs:Nat->a7}{W:List (List a7)}(hx:aJ h 1 x (fx n λj=>[xs j]) W)
include hx
theorem oP:V.aE x=some (.int .i64 n):=by rw[hx.aE,Ny]
theorem iK(hk:k<n):V.aM 1 x (.int .i64 (k:Int))=some (aV 1 x k 0):=hx.dF (by simpa using hk)
theorem j0(hk:k<n):A.bX h (aV 1 x k 0)=some (xs k):=by rw[hx.bX (xg _ hk) (by omega)];rfl
theorem yJ(hk:k<n):Kp h (aV 1 x k 0) none:=⟨_,j0 hx hk⟩
end
structure FS(E:fi)(m:Int->Int->List a7)(h0 h:a9)(v5:a7)(n:Nat)(xs:Nat->a7)(len:Nat->Nat)(ys:Nat->a7)(F:Nat->List (List a7))(gs:Nat->a7):Prop where
 own:aG h0 h (cS E.es n ys F (λ_=>[])++[.sl 1 v5 (fx n λj=>[gs j]) []])
 ji:∀j,j<n->Old h E.es (xs j) (jh m j (len j)) (ys j) (F j)
section
variable{E:fi}{m:Int->Int->List a7}{v:Int->Int->a7}{h0 h h':a9}{x v5:a7}{n k:Nat}{xs ys gs:Nat->a7}{len:Nat->Nat}{F:Nat->List (List a7)}{W:List (List a7)}{Q:zQ}
theorem FS.grow(fs:FS E m h0 h v5 n xs len ys F gs)(hle:h.le h'):FS E m h0 h' v5 n xs len ys F gs:=⟨fs.own.grow hle,λj a=>(fs.ji j a).mono hle⟩
theorem FS.lB(fs:FS E m h0 h v5 n xs len ys F gs):aJ h 1 v5 (fx n λj=>[gs j]) []:=fs.own.aP n cS.sR
theorem FS.rY(fs:FS E m h0 h v5 n xs len ys F gs)(hk:k<n):aJ h E.es (ys k) (F k) []:=fs.own.aP k (cS.lq hk)
theorem FS.jB(fs:FS E m h0 h v5 n xs len ys F gs)(hk:k<n){y:a7}{L:List (List a7)}(h1:aJ h' E.es y L [])(g:∀id b,cC y=some id->h' id=some b->b.own=true)
  (c:∀j b,h j=some b->cC (ys k)≠some j->h' j=some b) (f:cC y=cC (ys k) \/ ∀id,cC y=some id->h id=none) (d:Old h' E.es (xs k) (jh m k (len k)) y L):FS E m h0 h' v5 n xs len (dU ys k y) (dU F k L) gs:=by
 refine⟨?_,λj a=>?_⟩
 ·have:=fs.own.jB k (cS.lq hk) (o':= .sl E.es y L []) h1 g c f
  rwa [cS.DX hk,Ae]at this
 ·by_cases e:j=k
  ·subst e;rw[gR,gR];exact d
  ·rw[jy _ _ e,jy _ _ e]
   exact(fs.ji j a).other (z:=ys k) c (fs.own.ne (cS.lq a) (cS.lq hk) e)
theorem FS.store(fs:FS E m h0 h v5 n xs len ys F gs)(hk:k<n){y:a7}(c:y.aI=true){K:a9->Prop}(d:∀h',FS E m h0 h' v5 n xs len ys F (dU gs k y)->K h'):A.st h (aV 1 v5 k 0) y K:=by
 refine fs.own.st n cS.sR (xg _ hk) (by omega) c λh' b hb=>d h' ⟨?_,λj a=>?_⟩
 ·rw[cS.DW]at b
  have e:(fx n λj=>[gs j]).set k ([gs k].set 0 y)=fx n λj=>[dU gs k y j]:=by
   rw[GJ];refine F6 λj a=>?_;unfold dU;split<;>rfl
  rwa [e]at b
 ·exact(fs.ji j a).other hb (fs.own.ne (cS.lq a) cS.sR (by omega))
theorem FS.push(S:uE C E m v)(fs:FS E m h0 h v5 n xs len ys F gs)(hk:k<n){cs:List a7}(b:cs.length=E.es)(j:(F k).length <= 100000100){K:zQ}
  (c:∀y h',FS E m h0 h' v5 n xs len (dU ys k y) (dU F k (F k++[cs])) gs->K y h'):A.bL h (some cs) λi h=>A.bO h E.es E.bytes (ys k) (.sl i 0 0 1 E.es 1) K:=λi hi=>by
 have a:=fs.grow (hU (cG cs) hi)
 have hmul:=Nat.mul_le_mul (show (F k).length+1 <= 100000101 by omega) S.small
 refine(a.rY hk).yO (a.own.lg k (cS.lq hk)) (M:=[cs]) (R':=[]) (aJ.lit (dR ..) (by simpa using b) rfl (by simp) (by simp)) S.pos (by simp only[length_singleton];omega) (by simp[maxLen];omega) λy h' h1 g f e d=>?_
 exact c y h' (a.jB hk h1 g f e (d _ _ (a.ji k hk)))
theorem PH(S:uE C E m v)(hx:aJ h0 1 x (fx n λj=>[xs j]) W)(fs:FS E m h0 h v5 n xs len ys F gs)(A:n <= 100000000)(p:∀j,j<n->len j <= 100000000)
  (g:∀j,j<n->gs j=ys j) (s:∀j i,j<n->i<len j->(F j)[i]?=some (m j i)) (l:∀h',h0.le h'->Q (.bool true) h'):aB (aH.gY E C Q x v5) [.int .i64 0] h:=by
 have a:=hx.mono fs.own.le;refine aB.intro (λt vs f=>∃k:Nat,k+t=n /\ vs=[.int .i64 k] /\ f=h) n ?_ ⟨0,by simp,by simp,rfl⟩;rintro Y t vs f ⟨k,z,rfl,rfl⟩ r;simp -dsimp[oP a];refine B.bF (λhb=>?_) (λhb=>?_)<;>simp -dsimp at hb ⊢
 ·refine aB.intro (λt vs u=>∃i:Nat,i+t=len k /\ vs=[.int .i64 i] /\ u=f) (len k) ?_ ⟨0,by simp,by simp,rfl⟩
  rintro Z y vs D ⟨i,hi,rfl,rfl⟩ q;have hold:=(fs.ji k hb).at_;have o:=p k hb;have e:=hold.aE;rw[uZ]at e;simp -dsimp[iK a hb,j0 a hb,e];refine B.bF (λd=>?_) (λd=>?_)<;>simp -dsimp at d ⊢
  ·have b:=fs.rY hb
   have c:=s k i hb d;have e1:V.aM E.es (xs k) (.int .i64 (i:Int))=some (aV E.es (xs k) i 0):=hold.dF (by simpa using d);have w:V.aM E.es (ys k) (.int .i64 (i:Int))=some (aV E.es (ys k) i 0):=b.dF (List.getElem?_eq_some_iff.1 c).1;have e3:=j0 fs.lB hb;rw[g k hb]at e3;simp -dsimp only[iK a hb,j0 a hb,e1,B.aK,B.fw];refine S.ld hold (vb d) ?_;refine S.call _ _ _ _ (Bc (yJ a hb) (S.qd hold (vb d)) ?_);refine S.eq ?_;simp -dsimp[iK fs.lB hb,e3,w];refine S.ld b c ?_;refine S.call _ _ _ _ (Bc (yJ fs.lB hb) (S.qd b c) ?_);simp -dsimp;refine S.eq ?_;simp -dsimp[fH (n:=i) (by omega)];exact q (len k-(i+1)) _ _ (by omega) ⟨i+1,by omega,by simp,rfl⟩
  ·simp -dsimp[fH (n:=k) (by omega)]
   exact r (n-(k+1)) _ _ (by omega) ⟨k+1,by omega,by simp,rfl⟩
 ·exact l _ fs.own.le
theorem PI(S:uE C E m v)(hx:aJ h0 1 x (fx n λj=>[xs j]) W)(fs:FS E m h0 h v5 n xs len ys F gs)(N:n <= 100000000)(I:∀j,j<n->len j <= 100000000)
  (f:∀j,j<n->gs j=ys j) (r:∀j i,j<n->i<len j->(F j)[i]?=some (m j i)) (M:∀h',h0.le h'->Q (.bool true) h'):aB (aH.ic E C Q x v5) [.int .i64 0] h:=by
 refine aB.intro (λt vs q=>∃(k:Nat)(ys gs:Nat->a7)(F:Nat->List (List a7)),k+t=n /\ vs=[.int .i64 k] /\ FS E m h0 q v5 n xs len ys F gs /\ (∀j,j<n->gs j=ys j) /\ ∀j i,j<n->i<len j->(F j)[i]?=some (m j i)) n ?_
  ⟨0,ys,gs,F,by simp,by simp,fs,f,r⟩
 rintro Y t vs h ⟨k,ys,gs,F,ht,rfl,fs,f,r⟩ U;have g:=hx.mono fs.own.le;simp -dsimp[oP g];refine B.bF (λhb=>?_) (λhb=>?_)<;>simp -dsimp at hb ⊢
 ·refine⟨S.pos,(aG.start h).eO (es:=E.es) S.mJ (by omega) (by omega) (by have:=S.small;omega) (by omega) λy h1 l=>?_⟩
  simp only[nil_append]at l;refine aB.intro (λt vs q=>∃i:Nat,i+t=64 /\ vs=[.int .i64 i] /\ ∃R,aG h q [.sl E.es y (jh m (k+n:Nat) i++(fx 64 λ_=>E.z).drop i) R]) 64 ?_ ⟨0,by simp,by simp,_,by simpa using l⟩;rintro Z t' vs q ⟨i,hi,rfl,R,d⟩ T;simp -dsimp;refine B.bF (λJ=>?_) (λJ=>?_)<;>simp -dsimp at J ⊢
  ·have e1:IntKind.i64.wrap ((k:Int)+n)=((k+n:Nat):Int):=by rw[wrap_i64 (by omega) (by omega)];omega
   have c:=g.mono d.le;have a:i<(fx 64 λ_=>E.z).length:=by simp;omega
   have s:i<(jh m (k+n:Nat) i++(fx 64 λ_=>E.z).drop i).length:=by simp;omega
   simp -dsimp only[oP c,B.aK,V.fP,e1];refine S.call _ _ _ _ ?_;simp -dsimp only[(d.aP 0 rfl).dF s,B.aK];refine S.st (d.aP 0 rfl) (d.lg 0 rfl) (Hz a) λK p A w=>?_;rw[GC a]at p;simp -dsimp[fH (n:=i) (by omega)];exact T (64-(i+1)) _ _ (by omega) ⟨i+1,by omega,by simp,R,d.jB 0 rfl (o':= .sl E.es y _ R) p A w (.inl rfl)⟩
  ·have a:i=64:=by omega
   subst a;have P:(fx 64 λ_=>E.z).drop 64=[]:=drop_of_length_le (by simp);rw[P,append_nil]at d;have D:=fs.grow d.le;have hold:=D.ji k hb;have c:=g.mono d.le;have O:=I k hb;have hmul:=Nat.mul_le_mul (show len k+64 <= 100000064 by omega) S.small;simp -dsimp[iK c hb,j0 c hb];refine hold.at_.yO (λid b e1 G=>?_) (d.aP 0 rfl) S.pos (by simp only[uZ];omega) (by simp[maxLen];omega) λL K p A w h6 X=>?_
   ·rcases hold.ft with e|⟨e,_⟩
    ·rw[e]at e1;cases e1
    ·rw[e]at e1;exact D.own.lg k (cS.lq hb) id b e1 G
   ·have f2:FS E m h0 K v5 n xs len (dU ys k L) (dU F k (jh m k (len k)++jh m (k+n:Nat) 64)) gs:=D.jB hb p A (λj b e1 G=>w j b e1 λe3=>by
      rcases hold.ft with e|⟨e,_⟩
      ·rw[e]at e3;cases e3
      ·rw[e]at e3;exact G e3) (by
      rcases h6 with e|e
      ·rcases hold.ft with H|⟨H,_⟩
       ·exact .inr λid o=>by rw[e,H]at o;cases o
       ·exact .inl (e.trans H)
      ·exact .inr e) (X _ _ (Old.refl hold.at_))
    simp -dsimp[iK f2.lB hb];refine f2.store hb p.aI λh8 f3=>?_;simp -dsimp[fH (n:=k) (by omega)];refine U (n-(k+1)) _ _ (by omega) ⟨k+1,_,_,_,by omega,by simp,f3,λj u=>?_,λj i u hi=>?_⟩
    ·by_cases e:j=k
     ·subst e;rw[gR,gR]
     ·rw[jy _ _ e,jy _ _ e];exact f j u
    ·by_cases e:j=k
     ·subst e
      rw[gR,getElem?_append_left (by simpa using hi)];exact vb hi
     ·rw[jy _ _ e];exact r j i u hi
 ·exact PH S hx fs N I f r M
theorem PJ(S:uE C E m v)(hx:aJ h0 1 x (fx n λj=>[xs j]) W)(fs:FS E m h0 h v5 n xs len ys F gs)(s:n <= 100000000)(o:∀j,j<n->len j <= 100000000)
  (f:∀j,j<n->gs j=ys j) (q:∀j,j<n->F j=jh m j (len j+64)) (r:∀h',h0.le h'->Q (.bool true) h'):aB (aH.ib E C Q x v5) [.int .i64 0] h:=by
 have a:=hx.mono fs.own.le;refine aB.intro (λt vs l=>∃k:Nat,k+t=n /\ vs=[.int .i64 k] /\ l=h) n ?_ ⟨0,by simp,by simp,rfl⟩;rintro Y t vs l ⟨k,G,rfl,rfl⟩ y;simp -dsimp[oP a];refine B.bF (λhb=>?_) (λhb=>?_)<;>simp -dsimp at hb ⊢
 ·refine aB.intro (λt vs z=>∃i:Nat,i+t=len k+64 /\ vs=[.int .i64 i] /\ z=l) (len k+64) ?_ ⟨0,by simp,by simp,rfl⟩
  rintro Z D vs H ⟨i,hi,rfl,rfl⟩ p;have hold:=(fs.ji k hb).at_;have u:=o k hb;have c:=hold.aE;rw[uZ]at c;have b:=fs.rY hb;rw[q k hb]at b;have e:=b.aE;rw[uZ]at e;have e3:=j0 fs.lB hb;rw[f k hb]at e3;simp -dsimp[iK fs.lB hb,e3,e];refine B.bF (λd=>?_) (λd=>?_)
  ·have d:i<len k+64:=by simp at d;omega
   have A:V.aM E.es (ys k) (.int .i64 (i:Int))=some (aV E.es (ys k) i 0):=b.dF (by simpa using d);simp -dsimp only[iK fs.lB hb,e3,A,B.aK,B.fw];refine S.ld b (vb d) ?_;refine S.call _ _ _ _ (Bc (yJ fs.lB hb) (S.qd b (vb d)) ?_);refine S.eq ?_;by_cases g:i<len k
   ·have e1:V.aM E.es (xs k) (.int .i64 (i:Int))=some (aV E.es (xs k) i 0):=hold.dF (by simpa using g)
    simp -dsimp[iK a hb,j0 a hb,c,g,e1];refine S.ld hold (vb g) ?_;refine S.call _ _ _ _ (Bc (yJ a hb) (S.qd hold (vb g)) ?_);simp -dsimp;refine S.eq ?_;simp -dsimp[fH (n:=i) (by omega)];exact p (len k+64-(i+1)) _ _ (by omega) ⟨i+1,by omega,by simp,rfl⟩
   ·simp -dsimp[iK a hb,j0 a hb,c,g]
    simp -dsimp[fH (n:=i) (by omega)];exact p (len k+64-(i+1)) _ _ (by omega) ⟨i+1,by omega,by simp,rfl⟩
  ·simp -dsimp[fH (n:=k) (by omega)]
   exact y (n-(k+1)) _ _ (by omega) ⟨k+1,by omega,by simp,rfl⟩
 ·exact PI S hx fs s o f (λj i w hi=>by rw[q j w];exact vb (by omega)) r
theorem PK(S:uE C E m v)(hx:aJ h0 1 x (fx n λj=>[xs j]) W)(fs:FS E m h0 h v5 n xs len xs (λj=>jh m j (len j)) gs)(D:n <= 100000000)(s:∀j,j<n->len j <= 100000000)
  (A:∀h',h0.le h'->Q (.bool true) h'):aB (aH.gu E C Q x v5) [.int .i64 0] h:=by
 refine aB.intro (λt vs p=>∃(k:Nat)(ys gs:Nat->a7)(F:Nat->List (List a7)),k+t=n /\ vs=[.int .i64 k] /\ FS E m h0 p v5 n xs len ys F gs /\ (∀j,j<k->gs j=ys j /\ F j=jh m j (len j+64)) /\ ∀j,k <= j->ys j=xs j /\ F j=jh m j (len j)) n ?_
  ⟨0,_,gs,_,by simp,by simp,fs,by simp,λj _=>⟨rfl,rfl⟩⟩
 rintro Y t vs h ⟨k,ys,gs,F,N,rfl,fs,b,o⟩ I;have a:=hx.mono fs.own.le;simp -dsimp[oP a];refine B.bF (λhb=>?_) (λhb=>?_)<;>simp -dsimp at hb ⊢
 ·have hk:=o k (Nat.le_refl k)
  have G:=s k hb;simp -dsimp[iK a hb,j0 a hb];refine aB.intro (λt vs p=>∃(i:Nat)(y:a7),i+t=64 /\ vs=[y,.int .i64 i] /\ FS E m h0 p v5 n xs len (dU ys k y) (dU F k (jh m k (len k+i))) gs) 64 ?_ ⟨0,xs k,by simp,by simp,?_⟩
  ·rintro Z M vs p ⟨i,y,hi,rfl,f1⟩ H
   have d:=hx.mono f1.own.le;have hold:=(f1.ji k hb).at_;have f:=hold.aE;rw[uZ]at f;have w:dU ys k y k=y:=gR ..;simp -dsimp;refine B.bF (λu=>?_) (λu=>?_)<;>simp -dsimp at u ⊢
   ·have e1:IntKind.i64.wrap ((len k:Int)+i)=((len k+i:Nat):Int):=by rw[wrap_i64 (by omega) (by omega)];omega
    simp -dsimp only[iK d hb,j0 d hb,f,B.aK,B.fw,V.fP,e1];refine S.call _ _ _ _ ?_;rw[S.new];have:=f1.push S hb (cs:=m k (len k+i:Nat)) (S.len _ _) (by rw[gR,uZ];omega) (K:=λq h=>B.pv (V.bin .add (.int .i64 (i:Int)) (.int .i64 1)) λr=>Z [q,r] h) λz J f2=>?_
    ·rw[w]at this;exact this
    ·simp -dsimp[fH (n:=i) (by omega)]
     refine H (64-(i+1)) _ _ (by omega) ⟨i+1,z,by omega,by simp,?_⟩;rw[uy,uy,gR,<-GB]at f2;exact f2
   ·have l:i=64:=by omega
    subst l;simp -dsimp[iK f1.lB hb];have c:=(f1.rY hb).aI;rw[w]at c;refine f1.store hb c λJ f2=>?_;simp -dsimp[fH (n:=k) (by omega)];refine I (n-(k+1)) _ _ (by omega) ⟨k+1,_,_,_,by omega,by simp,f2,λj g=>?_,λj g=>?_⟩
    ·by_cases e:j=k
     ·subst e;rw[gR,gR,gR];exact⟨rfl,rfl⟩
     ·rw[jy _ _ e,jy _ _ e,jy _ _ e];exact b j (by omega)
    ·rw[jy _ _ (by omega),jy _ _ (by omega)];exact o j (by omega)
  ·have e1:dU ys k (xs k)=ys:=by rw[<-hk.1,si]
   have L:dU F k (jh m k (len k+0))=F:=by rw[Nat.add_zero,<-hk.2,si]
   rw[e1,L];exact fs
 ·have:k=n:=by omega
  subst this;exact PJ S hx fs D s (λj g=>(b j g).1) (λj g=>(b j g).2) A
theorem vW(S:uE C E m v){D R:Nat->List (List a7)}(hx:aJ h0 1 x (fx n λj=>[xs j]) W)(o:aG h0 h (cS E.es n xs D R))(M:n <= 100000000)(I:∀j,j<n->(D j).length <= 100000000)
  (L:∀h',h0.le h'->Q (.bool true) h'):aH E C x h Q:=by
 refine aB.intro (λt vs s=>∃(k:Nat)(G:Nat->List (List a7)),k+t=n /\ vs=[.int .i64 k] /\ aG h0 s (cS E.es n xs G R) /\ (∀j,j<k->G j=jh m j (D j).length) /\ ∀j,k <= j->G j=D j) n ?_
  ⟨0,D,by simp,by simp,o,by simp,λj _=>rfl⟩
 rintro Y t vs h ⟨k,G,X,rfl,o,q,r⟩ P;have l:=hx.mono o.le;simp -dsimp[oP l];refine B.bF (λhb=>?_) (λhb=>?_)<;>simp -dsimp at hb ⊢
 ·have N:=I k hb
  have H:=r k (Nat.le_refl k);refine aB.intro (λt vs s=>∃i:Nat,i+t=(D k).length /\ vs=[.int .i64 i] /\ aG h0 s (cS E.es n xs (dU G k (jh m k i++(D k).drop i)) R)) (D k).length ?_ ⟨0,by simp,by simp,?_⟩
  ·rintro Z V vs s ⟨i,hi,rfl,a⟩ O
   have b:=hx.mono a.le;have d:=a.aP k (cS.get hb);rw[gR]at d;have p:=d.aE;have A:(jh m k i++(D k).drop i).length=(D k).length:=by simp;omega
   rw[A]at p;simp -dsimp[iK b hb,j0 b hb,p];refine B.bF (λu=>?_) (λu=>?_)<;>simp -dsimp at u ⊢
   ·have w:i<(jh m k i++(D k).drop i).length:=by omega
    simp -dsimp only[iK b hb,j0 b hb,B.aK,B.fw];refine S.call _ _ _ _ (Ps (yJ b hb) ?_);simp -dsimp only[d.dF w,B.aK];refine S.st d (a.lg k (cS.get hb)) (Hz u) λh2 K U T=>?_;rw[GC u]at K;have J:=a.jB k (cS.get hb) (o':= .sl E.es (xs k) _ (R k)) K U T (.inl rfl);rw[cS.set,si,si,uy]at J;simp -dsimp[fH (n:=i) (by omega)];exact O ((D k).length-(i+1)) _ _ (by omega) ⟨i+1,by omega,by simp,J⟩
   ·have F:i=(D k).length:=by omega
    subst F;rw[drop_length,append_nil]at a;simp -dsimp[fH (n:=k) (by omega)];refine P (n-(k+1)) _ _ (by omega) ⟨k+1,_,by omega,by simp,a,λj g=>?_,λj g=>?_⟩
    ·by_cases e:j=k
     ·subst e;rw[gR]
     ·rw[jy _ _ e];exact q j (by omega)
    ·rw[jy _ _ (by omega)];exact r j (by omega)
  ·simp only[Nn,nil_append,drop_zero]
   rw[<-H,si];exact o
 ·have:k=n:=by omega
  subst this;simp -dsimp only[oP l,B.aK];refine⟨Nat.one_pos,?_⟩;refine o.eO (bytes:=24) (es:=1) (n:=k) (c:=k) (z:=[.aA]) rfl (by omega) (by omega) (by omega) (by omega) λy h1 a=>?_;have e1:((k:Int)).toNat=k:=by simp
  rw[e1,Nat.sub_self,CM]at a;have f:=a.yU;rw[cS.congr (ys:=xs) (E:=λj=>jh m j (D j).length) (S:=λ_=>[]) λj g=>⟨rfl,q j g,rfl⟩]at f;exact PK S hx ⟨f,λj g=>Old.refl (f.aP j (cS.lq g))⟩ M (λj g=>I j g) L
end
variable{C:aC}{N:zN}
structure B3(T:Type)[DecidableEq T] where
 c:T->a7
 cell:∀t,(c t).aI=true
 eql:∀a b,V.bin .eql (c a) (c b)=some (.bool (decide (a=b)))
 neq:∀a b,V.bin .neq (c a) (c b)=some (.bool (!decide (a=b)))
theorem aJ.cell{h:a9}{x c:a7}{L R:List (List a7)}{i:Nat}(a:aJ h 1 x L R)(b:L[i]?=some [c]):A.bX h (aV 1 x i 0)=some c:=by
 rw[a.bX b (by omega)];rfl
section
variable{T:Type}[DecidableEq T](F:B3 T)
abbrev B3.cs(t:T):List a7:=[F.c t]
@[simp] def rP.k2(Q:zQ)(Y1:zL)(v0 v1 v5:a7)(h:a9):Prop:=B.pv (V.aE v0) λg=>B.pv (V.bin .lss v5 g) λf=>B.cond f (B.pv (V.aM 1 v0 v5) λd=>B.ld h d λv20=>B.pv (V.aM 1 v1 v5) λc=>B.ld h c λb=>B.pv (V.bin .neq v20 b) λa=>B.cond a (Q (.bool false) h) (B.pv (V.bin .add v5 (.int .i64 1)) λe=>Y1 [e] h)) (Q (.bool true) h)
@[simp] def rP.l4(Q:zQ)(v0 v1:a7):zG|[v5],h,Y1=>rP.k2 Q Y1 v0 v1 v5 h|_,_,_=>False
def rP(v0 v1:a7)(h:a9)(Q:zQ):Prop:=B.pv (V.aE v0) λb=>B.pv (V.aE v1) λa=>B.pv (V.bin .neq b a) λv10=>B.cond v10 (Q (.bool false) h) (aB (rP.l4 Q v0 v1) [(.int .i64 0)] h)
theorem FJ{x y:a7}{L M:List T}{R S:List (List a7)}{h:a9}{Q:zQ}(hx:aJ h 1 x (L.map F.cs) R)(g:aJ h 1 y (M.map F.cs) S)(hlen:L.length<4611686018427387904)
  (b:Q (.bool (decide (L=M))) h):rP x y h Q:=by
 have a:=hx.aE;have c:=g.aE;rw[length_map]at a c;simp -dsimp[rP,a,c];refine B.bF (λhb=>?_) (λhb=>?_)<;>simp -dsimp at hb ⊢
 ·rw[decide_eq_false λe=>hb (by rw[e])]at b
  exact b
 ·refine aB.intro (λn vs j=>∃k,k+n=L.length /\ vs=[.int .i64 k] /\ j=h /\ L.take k=M.take k) L.length ?_ ⟨0,by simp,by simp,rfl,by simp⟩
  rintro Y n vs _ ⟨k,m,rfl,rfl,he⟩ l;simp -dsimp[a];refine B.bF (λf=>?_) (λf=>?_)<;>simp -dsimp at f ⊢
  ·obtain⟨w,hw⟩:=dI f
   obtain⟨u,hu⟩:=dI (L:=M) (k:=k) (by omega);have hk:k<(L.map F.cs).length:=by simpa using f
   have i:k<(M.map F.cs).length:=by simp;omega
   simp only[hx.dF hk,g.dF i,hx.cell (get_map hw),g.cell (get_map hu),B.aK,B.fw,F.neq];refine B.bF (λd=>?_) (λd=>?_)<;>simp -dsimp at d ⊢
   ·rw[decide_eq_false λe=>by subst e;rw[hw]at hu;cases hu;exact d rfl]at b
    exact b
   ·simp[fH (n:=k) (by omega)]
    refine l (L.length-(k+1)) _ _ (by omega) ⟨k+1,by omega,by simp,rfl,?_⟩;rw[take_succ hw,take_succ hu,he,d]
  ·rw[take_of_length_le (by omega),take_of_length_le (by omega)]at he
   rw[decide_eq_true he]at b;exact b
def jG(mk:Int->T)(n:Nat):List (List a7):=(List.range n).map fun(i:Nat)=>F.cs (mk (i:Int))
@[simp] theorem MI(mk:Int->T)(n:Nat):(jG F mk n).length=n:=by simp[jG]
theorem MJ(mk:Int->T){n k:Nat}(hk:k<n):(jG F mk n)[k]?=some (F.cs (mk k)):=by simp[jG,hk]
theorem LW(mk:Int->T)(n:Nat):jG F mk (n+1)=jG F mk n++[F.cs (mk n)]:=by simp[jG,range_succ]
@[simp] def oX.k2(C:aC)(bytes f:Nat)(z:a7)(m:Int)(Q:zQ)(Y1:zL)(v0 g v4:a7)(h:a9):Prop:=B.pv (V.bin .lss v4 (.int .i64 12)) λe=>B.cond e (B.call C f [(.int .i64 m),v4] h λc h=>B.bL h (bN [(0,none,c)] (bG 1 [z])) λi19 h=>B.bO h 1 bytes g (.sl i19 0 0 1 1 1) λv20 h=>B.pv (V.bin .add v4 (.int .i64 1)) λd=>Y1 [v20,d] h) (B.pv (V.aE v0) λb=>B.pv (V.dS 1 g none (some b)) λa=>Q a h)
@[simp] def oX.l4(C:aC)(bytes f:Nat)(z:a7)(m:Int)(Q:zQ)(v0:a7):zG|[a,v4],h,Y1=>oX.k2 C bytes f z m Q Y1 v0 a v4 h|_,_,_=>False
def oX(C:aC)(bytes f:Nat)(z:a7)(m:Int)(v0:a7)(h:a9)(Q:zQ):Prop:=B.pv (V.aE v0) λv6=>B.pv (V.bin .add v6 (.int .i64 12)) λb=>0<1 /\ B.eO h bytes (some [z]) (.int .i64 0) b λa h=>B.bO h 1 bytes a v0 λv11 h=>aB (oX.l4 C bytes f z m Q v0) [v11,(.int .i64 0)] h
theorem F1{bytes f:Nat}{z:a7}{m:Int}{mk:Int->T}(s1:∀(i:Int)(h:a9)(Q:zQ),Q (F.c (mk i)) h->C f [.int .i64 m,.int .i64 i] h Q)
  {x:a7} {L:List T} {R:List (List a7)} {h:a9} {Q:zQ} (hx:aJ h 1 x (L.map F.cs) R) (hlen:L.length <= 4611686018427387000) (r:(L.length+12)*bytes <= 140737488355328)
  (G:∀o h',aG h h' [.sl 1 o (L.map F.cs) (jG F mk 12)]->Q o h'):oX C bytes f z m x h Q:=by
 have g:=hx.aE;rw[length_map]at g;have hmul:∀n:Nat,n <= L.length+12->n*bytes <= 140737488355328:=λn t=>Nat.le_trans (Nat.mul_le_mul_right bytes t) r;have e1:IntKind.i64.wrap ((L.length:Int)+12)=(L.length:Int)+12:=wrap_i64 (by omega) (by omega);simp -dsimp[oX,g,e1];refine(aG.start h).eO (es:=1) rfl (by omega) (by omega) ?_ (by omega) λy h1 s=>?_
 ·have:=hmul (L.length+12) (by omega)
  have e:((L.length:Int)+12)*bytes=((L.length+12)*bytes:Nat):=by simp
  rw[e];omega
 refine s.bO 0 rfl (hx.mono s.le) Nat.one_pos (by simpa using hmul L.length (by omega)) (by simp[maxLen];omega) λE w q _=>?_;refine aB.intro (λn vs u=>∃k y,k+n=12 /\ vs=[y,.int .i64 k] /\ aG h u [.sl 1 y (L.map F.cs++jG F mk k) []]) 12 ?_ ⟨0,E,by simp,by simp,by simpa[jG]using q⟩;rintro Y n vs u ⟨k,D,t,rfl,d⟩ I;simp -dsimp[g];refine B.bF (λv=>?_) (λv=>?_)<;>simp -dsimp at v ⊢
 ·refine s1 _ _ _ ?_
  have l:bN [(0,none,F.c (mk k))] (bG 1 [z])=some (F.cs (mk k)):=by
   simp[F.cell,bG]
  rw[l];refine d.push 0 rfl rfl Nat.one_pos (by simp;have:=hmul (L.length+k+1) (by omega);omega) (by simp[maxLen];omega) λA K p _=>?_;simp[fH (n:=k) (by omega)];refine I (12-(k+1)) _ _ (by omega) ⟨k+1,A,by omega,by simp,?_⟩;rw[LW,<-append_assoc];exact p
 ·have:k=12:=by omega
  subst this;obtain⟨o,J,e3,e4⟩:=(d.aP 0 rfl).slice Nat.one_pos (lo:=0) (hi:=L.length) (a:=none) (b:=some (.int .i64 L.length)) (.inl ⟨rfl,rfl⟩) (.inr ⟨_,rfl⟩) (by omega) (by simp);simp -dsimp[g,J];refine G _ _ (d.jB 0 rfl (o':= .sl 1 o (L.map F.cs) (jG F mk 12)) ?_ (λid b H hb=>d.lg 0 rfl id b (by show cC D=some id;rw[<-e4];exact H) hb) (λj b hb _=>hb) (.inl e4));have h1:((L.map F.cs++jG F mk 12++[]).take L.length).drop 0=L.map F.cs:=by simp[take_append_of_le_length]
  have w:(L.map F.cs++jG F mk 12++[]).drop L.length=jG F mk 12:=by simp[drop_append_of_le_length]
  rw[h1,w]at e3;exact e3
theorem M9{bytes f:Nat}{z:a7}{m:Int}{mk:Int->T}(a:bytes <= 1000)(s1:∀(i:Int)(h:a9)(Q:zQ),Q (F.c (mk i)) h->C f [.int .i64 m,.int .i64 i] h Q)
  {x:a7} {L:List T} {R:List (List a7)} {h:a9} {Q:zQ} (hx:aJ h 1 x (L.map F.cs) R) (hlen:L.length <= 100000000)
  (d:∀b h',aG h h' [.sl 1 b (L.map F.cs) (jG F mk 12)]->Q b h'):oX C bytes f z m x h Q:=
 F1 F s1 hx (by omega) (by have:=Nat.mul_le_mul (show L.length+12 <= 100000100 by omega) a;omega) d
@[simp] def rn.k2(C:aC)(f:Nat)(m:Int)(Q:zQ)(Y1:zL)(v1 v5 v6:a7)(h:a9):Prop:=B.pv (V.aE v5) λM=>B.pv (V.bin .lss v6 M) λv20=>B.cond v20 (B.pv (V.aE v1) λJ=>B.pv (V.bin .lss v6 J) λb=>B.gd h b true (λK=>K v5 h) λI h=>B.gd h b true (λK=>K v6 h) λH h=>B.gd h b true (λK=>B.pv (V.aM 1 I H) λv=>K v h) λv30 h=>B.gd h b true (λK=>B.ld h v30 λv=>K v h) λG h=>B.gd h b true (λK=>K v1 h) λF h=>B.gd h b true (λK=>K v6 h) λE h=>B.gd h b true (λK=>B.pv (V.aM 1 F E) λv=>K v h) λD h=>B.gd h b true (λK=>B.ld h D λv=>K v h) λA h=>B.gd h b true (λK=>B.pv (V.bin .eql G A) λv=>K v h) λz h=>B.gd h b true (λK=>B.pv (V.un .not z) λv=>K v h) λy h=>B.pick b y (.bool false) λc=>B.gd h c false (λK=>K v6 h) λx h=>B.gd h c false (λK=>K v1 h) λw h=>B.gd h c false (λK=>B.pv (V.aE w) λv=>K v h) λu h=>B.gd h c false (λK=>B.pv (V.bin .geq x u) λv=>K v h) λt h=>B.gd h c false (λK=>K t h) λa h=>B.gd h a true (λK=>K v5 h) λs h=>B.gd h a true (λK=>K v6 h) λr h=>B.gd h a true (λK=>B.pv (V.aM 1 s r) λv=>K v h) λd h=>B.gd h a true (λK=>B.ld h d λv=>K v h) λq h=>B.gd h a true (λK=>K v6 h) λp h=>B.gd h a true (λK=>K v1 h) λo h=>B.gd h a true (λK=>B.pv (V.aE o) λv=>K v h) λn h=>B.gd h a true (λK=>B.pv (V.bin .sub p n) λv=>K v h) λl h=>B.gd h a true (λK=>B.call C f [(.int .i64 m),l] h (B.jV h [(d,none)] K)) λk h=>B.gd h a true (λK=>B.pv (V.bin .eql q k) λv=>K v h) λj h=>B.gd h a true (λK=>B.pv (V.un .not j) λv=>K v h) λi h=>B.gd h c false (λK=>B.pick a i (.bool false) λv=>K v h) λg h=>B.pick c (.bool true) g λe=>B.cond e (Q (.bool false) h) (B.pv (V.bin .add v6 (.int .i64 1)) λL=>Y1 [L] h)) (Q (.bool true) h)
@[simp] def rn.l4(C:aC)(f:Nat)(m:Int)(Q:zQ)(v1 v5:a7):zG|[v6],h,Y1=>rn.k2 C f m Q Y1 v1 v5 v6 h|_,_,_=>False
def rn(C:aC)(f:Nat)(m:Int)(v0 v1:a7)(h:a9)(Q:zQ):Prop:=B.pv (V.aE v0) λd=>B.pv (V.aE v1) λv10=>B.pv (V.bin .neq d v10) λv11=>B.cond v11 (Q (.bool false) h) (B.pv (V.aE v1) λc=>B.pv (V.bin .add c (.int .i64 12)) λb=>B.pv (V.dS 1 v0 none (some b)) λa=>aB (rn.l4 C f m Q v1 a) [(.int .i64 0)] h)
theorem F2{f:Nat}{m:Int}{mk:Int->T}(s1:∀(i:Int)(h:a9)(Q:zQ),Q (F.c (mk i)) h->C f [.int .i64 m,.int .i64 i] h Q)
  {x y:a7} {L M:List T} {R:List (List a7)} {h:a9} {Q:zQ} (hx:aJ h 1 x (L.map F.cs) (jG F mk 12)) (q:aJ h 1 y (M.map F.cs) R) (hlen:L.length <= 4611686018427387000)
  (o:Q (.bool (decide (L=M))) h):rn C f m x y h Q:=by
 have t:=hx.aE;have d:=q.aE;rw[length_map]at t d;simp -dsimp[rn,t,d];refine B.bF (λhb=>?_) (λhb=>?_)<;>simp -dsimp at hb ⊢
 ·rw[decide_eq_false λe=>hb (by rw[e])]at o
  exact o
 ·have e1:IntKind.i64.wrap ((M.length:Int)+12)=((M.length+12:Nat):Int):=by rw[wrap_i64 (by omega) (by omega)];omega
  obtain⟨z,N,e3,e4⟩:=hx.slice Nat.one_pos (lo:=0) (hi:=M.length+12) (a:=none) (b:=some (.int .i64 ((M.length+12:Nat):Int))) (.inl ⟨rfl,rfl⟩) (.inr ⟨_,rfl⟩) (by omega) (by simp;omega);have h1:((L.map F.cs++jG F mk 12).take (M.length+12)).drop 0=L.map F.cs++jG F mk 12:=by rw[drop_zero,take_of_length_le];simp;omega
  rw[h1]at e3;have s:=e3.aE;simp only[length_append,length_map,MI]at s;simp only[d,V.fP,e1,N,B.aK];refine aB.intro (λn vs H=>∃k,k+n=L.length+12 /\ vs=[.int .i64 k] /\ H=h /\ L.take k=M.take k) (L.length+12) ?_ ⟨0,by simp,by simp,rfl,by simp⟩;rintro Y n vs _ ⟨k,O,rfl,rfl,he⟩ E;simp -dsimp[s];refine B.bF (λD=>?_) (λD=>?_)<;>simp -dsimp at D ⊢
  ·have hk:k<(L.map F.cs++jG F mk 12).length:=by simp;omega
   by_cases v:k<L.length
   ·have I:=dI v
    have J:=dI (L:=M) (k:=k) (by omega);obtain⟨w,hw⟩:=I;obtain⟨u,hu⟩:=J;have A:k<(M.map F.cs).length:=by simp;omega
    have g:k<M.length:=by omega
    have r:(L.map F.cs++jG F mk 12)[k]?=some (F.cs w):=by rw[getElem?_append_left (by simpa using v)];exact get_map hw
    by_cases j:w=u
    ·subst j
     simp -dsimp[d,g,e3.dF hk,q.dF A,e3.cell r,q.cell (get_map hu),F.eql,show ¬ M.length <= k by omega,fH (n:=k) (by omega)];refine E (L.length+12-(k+1)) _ _ (by omega) ⟨k+1,by omega,by simp,rfl,?_⟩;rw[take_succ hw,take_succ hu,he]
    ·simp -dsimp[d,g,e3.dF hk,q.dF A,e3.cell r,q.cell (get_map hu),F.eql,j]
     rw[decide_eq_false λe=>by subst e;rw[hw]at hu;cases hu;exact j rfl]at o;exact o
   ·have g:¬ k<M.length:=by omega
    have l:(L.map F.cs++jG F mk 12)[k]?=some (F.cs (mk ((k-M.length:Nat):Int))):=by
     rw[getElem?_append_right (by simp;omega),length_map,show k-L.length=k-M.length by omega];exact MJ F mk (by omega)
    have K:IntKind.i64.wrap ((k:Int)-M.length)=((k-M.length:Nat):Int):=by rw[wrap_i64 (by omega) (by omega)];omega
    simp -dsimp[d,g,e3.dF hk,e3.cell l,show M.length <= k by omega,K];refine s1 _ _ _ ⟨?_,?_⟩
    ·intro p G
     rw[mem_singleton.1 G];exact⟨_,e3.cell l,e3.cell l⟩
    ·simp[F.eql,fH (n:=k) (by omega)]
     refine E (L.length+12-(k+1)) _ _ (by omega) ⟨k+1,by omega,by simp,rfl,?_⟩;rw[take_of_length_le (by omega),take_of_length_le (by omega)]at he ⊢;exact he
  ·rw[take_of_length_le (by omega),take_of_length_le (by omega)]at he
   rw[decide_eq_true he]at o;exact o
theorem MB{f:Nat}{m:Int}{mk:Int->T}(s1:∀(i:Int)(h:a9)(Q:zQ),Q (F.c (mk i)) h->C f [.int .i64 m,.int .i64 i] h Q){x y:a7}{L M:List T}{R:List (List a7)}{h:a9}{Q:zQ}(hx:aJ h 1 x (L.map F.cs) (jG F mk 12))(a:aJ h 1 y (M.map F.cs) R)(hlen:L.length <= 100000000)(b:Q (.bool (decide (L=M))) h):rn C f m x y h Q:=F2 F s1 hx a (by omega) b
end
@[simp] def jH.k1(C:aC)(es f:Nat)(st:a9->a7->a7->(a9->Prop)->Prop)(m:Int)(Q:zQ)(Y1:zL)(v2 a:a7)(h:a9):Prop:=B.pv (V.aE v2) λv11=>B.pv (V.bin .lss a v11) λe=>B.cond e (B.call C f [(.int .i64 m),a] h λc h=>B.pv (V.aM es v2 a) λb=>st h b c λh=>B.pv (V.bin .add a (.int .i64 1)) λd=>Y1 [d] h) (Q (.bI []) h)
@[simp] def jH.l3(C:aC)(es f:Nat)(st:a9->a7->a7->(a9->Prop)->Prop)(m:Int)(Q:zQ)(v2:a7):zG|[a],h,Y1=>jH.k1 C es f st m Q Y1 v2 a h|_,_,_=>False
def jH(C:aC)(es f:Nat)(st:a9->a7->a7->(a9->Prop)->Prop)(m:Int)(v0:a7)(h:a9)(Q:zQ):Prop:=B.pv (V.aE v0) λv6=>B.pv (V.bin .add v6 (.int .i64 12)) λb=>B.pv (V.dS es v0 none (some b)) λa=>aB (jH.l3 C es f st m Q a) [(.int .i64 0)] h
theorem Fy{es f:Nat}{st:a9->a7->a7->(a9->Prop)->Prop}{m:Int}(q:0<es){v:Int->a7}(s1:∀(i:Int)(h:a9)(Q:zQ),Q (v i) h->C f [.int .i64 m,.int .i64 i] h Q)
  (s2:∀{h0 h:a9}{x:a7}{L R:List (List a7)}{i:Nat}{k:Int}{K:a9->Prop},aG h0 h [.sl es x L R]->i<L.length->(∀h' L',L'.length=L.length->aG h0 h' [.sl es x L' R]->K h')->st h (aV es x i 0) (v k) K)
  {h0 h:a9} {x:a7} {L R:List (List a7)} {Q:zQ} (l:aG h0 h [.sl es x L R]) (A:R.length=12) (hlen:L.length <= 4611686018427387000) (t:∀h',h0.le h'->Q (.bI []) h'):jH C es f st m x h Q:=by
 have hx:=l.aP 0 rfl;have o:=hx.aE;have e1:IntKind.i64.wrap ((L.length:Int)+12)=((L.length+12:Nat):Int):=by rw[wrap_i64 (by omega) (by omega)];omega
 obtain⟨z,D,e3,e4⟩:=hx.slice q (lo:=0) (hi:=L.length+12) (a:=none) (b:=some (.int .i64 ((L.length+12:Nat):Int))) (.inl ⟨rfl,rfl⟩) (.inr ⟨_,rfl⟩) (by omega) (by omega);have h1:((L++R).take (L.length+12)).drop 0=L++R:=by rw[drop_zero,take_of_length_le];simp;omega
 rw[h1]at e3;simp only[jH,o,V.fP,e1,D,B.aK];have e:aG h0 h [.sl es z (L++R) ((L++R).drop (L.length+12))]:=l.jB 0 rfl (o':= .sl es z (L++R) ((L++R).drop (L.length+12))) e3 (λid b w hb=>l.lg 0 rfl id b (by show cC x=some id;rw[<-e4];exact w) hb) (λj b hb _=>hb) (.inl e4);refine aB.intro (λn vs r=>∃(k:Nat)(L':List (List a7)),k+n=L.length+12 /\ vs=[.int .i64 k] /\ L'.length=L.length+12 /\ aG h0 r [.sl es z L' ((L++R).drop (L.length+12))]) (L.length+12) ?_ ⟨0,L++R,by simp,by simp,by simp[A],e⟩;rintro Y n vs r ⟨k,L',F,rfl,p,c⟩ y;have d:=(c.aP 0 rfl).aE;rw[p]at d;simp -dsimp[d];refine B.bF (λs=>?_) (λs=>?_)<;>simp -dsimp at s ⊢
 ·have hk:k<L'.length:=by omega
  refine s1 _ _ _ ?_;simp -dsimp only[(c.aP 0 rfl).dF hk,B.aK];refine s2 c hk λh' E u g=>?_;simp -dsimp[fH (n:=k) (by omega)];exact y (L.length+12-(k+1)) _ _ (by omega) ⟨k+1,E,by omega,by simp,by omega,g⟩
 ·exact t _ c.le
theorem ya{es f:Nat}{st:a9->a7->a7->(a9->Prop)->Prop}{m:Int}(a:0<es){v:Int->a7}(s1:∀(i:Int)(h:a9)(Q:zQ),Q (v i) h->C f [.int .i64 m,.int .i64 i] h Q)(s2:∀{h0 h:a9}{x:a7}{L R:List (List a7)}{i:Nat}{k:Int}{K:a9->Prop},aG h0 h [.sl es x L R]->i<L.length->(∀h' L',L'.length=L.length->aG h0 h' [.sl es x L' R]->K h')->st h (aV es x i 0) (v k) K){h0 h:a9}{x:a7}{L R:List (List a7)}{Q:zQ}(c:aG h0 h [.sl es x L R])(d:R.length=12)(hlen:L.length <= 100000000)(b:∀h',h0.le h'->Q (.bI []) h'):jH C es f st m x h Q:=Fy a s1 s2 c d (by omega) b
theorem GV{v:a7}(b:v.aI=true){h0 h:a9}{x:a7}{L R:List (List a7)}{i:Nat}{K:a9->Prop}(d:aG h0 h [.sl 1 x L R])(hi:i<L.length)(e:∀h' L',L'.length=L.length->aG h0 h' [.sl 1 x L' R]->K h'):B.st h (aV 1 x i 0) v K:=by
 refine d.st 0 rfl (c:=L[i]) (by simp[hi]) (by omega) b λh' a _=>e h' _ (by simp) a
theorem A1{es:Nat}{xs:List a7}(a:xs.length=es){h0 h:a9}{x:a7}{L R:List (List a7)}{i:Nat}{K:a9->Prop}(d:aG h0 h [.sl es x L R])(hi:i<L.length)(e:∀h' L',L'.length=L.length->aG h0 h' [.sl es x L' R]->K h'):B.gp h (aV es x i 0) es (.agg xs) K:=by
 refine d.HG 0 rfl (c:=L[i]) (by simp[hi]) a λh' b _=>e h' _ (by simp) b
theorem Gg{es bytes:Nat}(b:0<es){h:a9}{x:a7}{L R:List (List a7)}{K:zQ}(hx:aJ h es x L R)(hlen:L.length <= 4611686018427387000)(hmul:L.length*bytes <= 140737488355328)(hk:∀a h',aG h h' [.sl es a L []]->K a h'):B.bO h es bytes .aA x K:=by
 refine((aG.start h).aA es).bO 0 rfl hx b (by simp;omega) (by simp[maxLen];omega) λa h' c _=>hk a h' (by simpa using c)
theorem Am{es bytes:Nat}(a:0<es)(hb:bytes <= 1000){h:a9}{x:a7}{L R:List (List a7)}{K:zQ}(hx:aJ h es x L R)(hlen:L.length <= 100000000)(hk:∀b h',aG h h' [.sl es b L []]->K b h'):B.bO h es bytes .aA x K:=by
 have hmul:=Nat.mul_le_mul hlen hb;exact Gg a hx (by omega) (by omega) hk
def a9.wo(h:a9)(l:List Ob):a9:=⟨λi=>bif l.any (λo=>o.cC==some i) then none else h i,by
 obtain⟨n,k⟩:=h.2
 refine⟨n,λi hi=>?_⟩
 show (bif l.any (λo=>o.cC==some i) then none else h i)=none
 cases l.any (λo=>o.cC==some i)
 ·exact k i hi
 ·rfl⟩
theorem FC{h:a9}{l:List Ob}{i:Nat}{o:Ob}(hm:o∈l)(a:o.cC=some i):h.wo l i=none:=by
 have:(l.any λo=>o.cC==some i)=true:=any_eq_true.2 ⟨o,hm,by simp[a]⟩;show (bif l.any (λo=>o.cC==some i) then none else h i)=none;rw[this];rfl
theorem Cx{h:a9}{l:List Ob}{i:Nat}(hm:∀o∈l,o.cC≠some i):h.wo l i=h i:=by
 have:(l.any λo=>o.cC==some i)=false:=by
  rw[<-Bool.not_eq_true,any_eq_true];rintro⟨o,h1,a⟩;exact hm o h1 (by simpa using a)
 show (bif l.any (λo=>o.cC==some i) then none else h i)=_;rw[this];rfl
theorem Me(h:a9)(l:List Ob):(h.wo l).le h:=λi b e=>by
 by_cases hm:∃o∈l,o.cC=some i
 ·obtain⟨o,h1,a⟩:=hm
  rw[FC h1 a]at e;cases e
 ·rw[Cx λo h1 a=>hm ⟨o,h1,a⟩]at e;exact e
theorem aG.out{h0 h:a9}{l1 l2:List Ob}(c:aG h0 h (l1++l2)):aG h0 (h.wo l2) l1 /\ aG (h.wo l2) h l2:=by
 obtain⟨m,l,k⟩:=pairwise_append.1 c.apart;have h1:h0.le (h.wo l2):=λi b e=>by
  rw[Cx λo hm a=>by rw[(c.own o (mem_append_right _ hm) i a).1]at e;cases e];exact c.le i b e
 have dQ:∀o∈l1,∀id,o.cC=some id->(h.wo l2) id=h id:=λo hm id a=>Cx λo2 d f=>k o hm o2 d id a f
 refine⟨⟨h1,λo hm=>(c.is o (mem_append_left _ hm)).dQ λid b a hb=>by rw[dQ o hm id a];exact hb,λo hm id a=>?_,m⟩,
  ⟨Me h l2,λo hm=>c.is o (mem_append_right _ hm),λo hm id a=>⟨FC hm a,(c.own o (mem_append_right _ hm) id a).2⟩,l⟩⟩
 obtain⟨j,g⟩:=c.own o (mem_append_left _ hm) id a;exact⟨j,λb hb=>g b (by rw[<-dQ o hm id a];exact hb)⟩
theorem aG.perm{h0 h:a9}{l l':List Ob}(c:aG h0 h l)(d:l.Perm l'):aG h0 h l':=⟨c.le,λo hm=>c.is o (d.mem_iff.2 hm),λo hm=>c.own o (d.mem_iff.2 hm),(d.pairwise_iff λ{a b} e id hb f=>e id f hb).1 c.apart⟩
theorem BG{T:Type}[DecidableEq T](F:Flat T){bytes f:Nat}{z:List a7}{mk:Int->Int->T}(m:z.length=F.es)(hb:bytes <= 1000)(s1:∀(k i:Int)(h:a9)(Q:zQ),Q (.agg (F.cs (mk k i))) h->C f [.int .i64 k,.int .i64 i] h Q):
  uE C (rW F.es bytes z f F.sh) (λk i=>F.cs (mk k i)) (λk i=> .agg (F.cs (mk k i))) where
 pos:=F.pos
 small:=hb
 len _ _:=F.len _
 mJ:=m
 new k i:=by
  have d:bG 1 z=z:=by unfold bG;split<;>simp
  have h1:=F.len (mk k i);show bN [(0,some F.es,a7.agg (F.cs (mk k i)))] (bG 1 z)=_;rw[d];simp[h1,m]
 call:=s1
 ld a b hk:=by
  simp only[rW,B.iL]at a ⊢;rw[a.elem b];exact hk
 qd a b:=⟨_,a.elem b⟩
 st {h x L R i c k j K} a g b hk:=by
  refine a.gp g b (F.len _) (by simp[rW]) ?_;have l:=a.len c (mem_append_left _ (mem_of_getElem? b));have e:c.take 0++F.cs (mk k j)++c.drop (0+F.es)=F.cs (mk k j):=by
   have:c.length=F.es:=l;simp[this]
  rw[e];exact hk
 eq hk:=by simp only[rW,F.eql,B.aK,decide_true];exact hk
theorem Q3{bytes f:Nat}{z:a7}{mv:Int->Int->a7}(b:∀k i,(mv k i).aI=true)(he:∀k i,V.bin .eql (mv k i) (mv k i)=some (.bool true))(hb:bytes <= 1000)(s1:∀(k i:Int)(h:a9)(Q:zQ),Q (mv k i) h->C f [.int .i64 k,.int .i64 i] h Q):
  uE C (dH bytes z f) (λk i=>[mv k i]) mv where
 pos:=Nat.one_pos
 small:=hb
 len _ _:=rfl
 mJ:=rfl
 new k i:=by simp[dH,b,bG]
 call:=s1
 ld a b hk:=by
  simp only[dH,B.fw]at a ⊢;rw[a.cell b];exact hk
 qd a b:=⟨_,a.cell b⟩
 st {h x L R i c k j K} a e g hk:=by
  have d:aJ h 1 x L R:=a;have l:c.length=1:=d.len c (mem_append_left _ (mem_of_getElem? g));obtain⟨u,rfl⟩:=length_eq_one_iff.1 l;exact d.st e g (by omega) (b _ _) hk
 eq hk:=by simp only[dH,he,B.aK];exact hk
end Go.Ab
