/- What is proved: a part of the way to the statement: AcB. No conditions. -/
import Derived.Test.YtneeejngeoaaoaaQ2
import Derived.KernelRfl
import Derived.Test.YtneeejngeoaaoaaRows
set_option linter.unusedVariables false
set_option linter.unusedSimpArgs false
set_option maxRecDepth 100000
namespace Go.Ab
open List
def zhy:za->Option Nat | .sl id _ _ _ _ _=>some id | .ptr id _ _=>some id | .mp id=>some id|_=>none
structure SlX(h:zb)(es:Nat)(x:za)(L R:List (List za)):Prop where
 len:∀p∈L++R,p.length=es
 at_:(L=[] /\ R=[] /\ (x= .zed \/ x= .sz)) \/ ∃id g off cp b hi,x= .sl id g off L.length es cp /\ L.length+R.length <= max L.length cp /\ h id=some b /\ b.zij.lookup g=some hi /\
  off+(L.length+R.length)*es <= hi /\ hi <= b.cells.length /\ (b.cells.drop off).take ((L.length+R.length)*es)=(L++R).flatten
abbrev SlIs(h:zb)(es:Nat)(x:za)(L:List (List za)):Prop:=SlX h es x L []
theorem SlX.zed(h:zb)(es:Nat):SlX h es .zed [] []:=⟨λ_ hp=>(by cases hp),.inl ⟨rfl,rfl,.inl rfl⟩⟩
theorem SlX.sz(h:zb)(es:Nat):SlX h es .sz [] []:=⟨λ_ hp=>(by cases hp),.inl ⟨rfl,rfl,.inr rfl⟩⟩
theorem flat_get{α:Type}{n:Nat}:∀{css:List (List α)},(∀cs∈css,cs.length=n)->∀(i f:Nat)(c:List α),css[i]?=some c->f<n->css.flatten[i*n+f]?=c[f]?
 | [],_,_,_,_,h,_=>by simp at h
 | c0::css,hl,0,f,c,h,hf=>by
  simp only[getElem?_cons_zero,Option.some.injEq]at h
  subst h
  have:=hl c0 (by simp)
  rw[flatten_cons,Nat.zero_mul,Nat.zero_add,getElem?_append_left (by omega)]
 | c0::css,hl,i+1,f,c,h,hf=>by
  simp only[getElem?_cons_succ]at h
  have h0:=hl c0 (by simp)
  rw[flatten_cons,getElem?_append_right (by rw[h0,Nat.add_mul];omega),<-flat_get (λcs hcs=>hl cs (by simp[hcs])) i f c h hf]
  congr 1
  rw[h0,Nat.add_mul];omega
theorem zp6{α:Type}{n:Nat}:∀{css:List (List α)},(∀cs∈css,cs.length=n)->css.flatten.length=css.length*n
 | [],_=>by simp
 | c::css,hl=>by
  have hc:c.length=n:=hl c (by simp)
  rw[flatten_cons,length_append,zp6 (λcs hcs=>hl cs (by simp[hcs])),hc,length_cons,Nat.add_mul]
  omega
section
variable{h H h0:zb}{es:Nat}{x:za}{L R:List (List za)}
theorem SlX.mono(hs:SlX h es x L R)(hle:h.le H):SlX H es x L R:=by
 refine⟨hs.len,?_⟩;rcases hs.at_ with e|⟨id,g,off,cp,b,hi,h1,h1',h2,h3,h4,hh,h5⟩
 ·exact .inl e
 ·exact .inr ⟨id,g,off,cp,b,hi,h1,h1',hle _ _ h2,h3,h4,hh,h5⟩
theorem SlX.zj0(hs:SlX h es x L R)(hk:∀id b,zhy x=some id->h id=some b->H id=some b):SlX H es x L R:=by
 refine⟨hs.len,?_⟩;rcases hs.at_ with e|⟨id,g,off,cp,b,hi,h1,h1',h2,h3,h4,hh,h5⟩
 ·exact .inl e
 ·exact .inr ⟨id,g,off,cp,b,hi,h1,h1',hk _ _ (by rw[h1];rfl) h2,h3,h4,hh,h5⟩
theorem SlX.known(hs:SlX h es x L R){id:Nat}(hx:zhy x=some id):∃b,h id=some b:=by
 rcases hs.at_ with⟨_,_,e|e⟩|⟨id,g,off,cp,b,hi,h1,h1',h2,_⟩
 ·subst e;cases hx
 ·subst e;cases hx
 ·subst h1;cases hx;exact⟨b,h2⟩
theorem SlX.cut(hs:SlX h es x L R):SlIs h es x L:=by
 refine⟨λp hp=>hs.len p (by simpa using .inl (by simpa using hp)),?_⟩;rcases hs.at_ with⟨e,_,e'⟩|⟨id,g,off,cp,b,hi,h1,h1',h2,h3,h4,hh,h5⟩
 ·exact .inl ⟨e,rfl,e'⟩
 ·have hl:∀p∈L,p.length=es:=λp hp=>hs.len p (mem_append_left _ hp)
  have hfl:=zp6 hl;refine .inr ⟨id,g,off,cp,b,hi,h1,by simp;omega,h2,h3,?_,hh,?_⟩
  ·simp only[length_nil,Nat.add_zero];rw[Nat.add_mul]at h4;omega
  ·simp only[length_nil,Nat.add_zero,append_nil]
   have:((b.cells.drop off).take ((L.length+R.length)*es)).take (L.length*es)=L.flatten:=by
    rw[h5,flatten_append,take_append_of_le_length (by omega),take_of_length_le (by omega)]
   rw[<-this,take_take,Nat.min_eq_left];rw[Nat.add_mul];omega
theorem SlX.zde(hs:SlX h es x L R):V.zde x=some (.int .i64 L.length):=by
 rcases hs.at_ with⟨e,_,e'|e'⟩|⟨id,g,off,cp,b,hi,h1,_⟩
 ·subst e e';rfl
 ·subst e e';rfl
 ·subst h1;rfl
theorem SlX.zec(hs:SlX h es x L R):x.zec=true:=by
 rcases hs.at_ with⟨e,_,e'|e'⟩|⟨id,g,off,cp,b,hi,h1,_⟩
 ·subst e';rfl
 ·subst e';rfl
 ·subst h1;rfl
theorem SlX.zgt(hs:SlX h es x L R):A.zgt x=some L.length:=by
 rcases hs.at_ with⟨e,_,e'|e'⟩|⟨id,g,off,cp,b,hi,h1,_⟩
 ·subst e e';rfl
 ·subst e e';rfl
 ·subst h1;rfl
def elp(es:Nat)(x:za)(i f:Nat):za:=
 match x with
 | .sl id g off _ _ _=> .ptr id g (off+i*es+f)
 | _=> .undef
theorem SlX.idx(hs:SlX h es x L R){k:IntKind}{n:Int}(h0:0 <= n)(hn:n<L.length):V.zda es x (.int k n)=some (elp es x n.toNat 0):=by
 rcases hs.at_ with⟨e,_⟩|⟨id,g,off,cp,b,hi,h1,_⟩
 ·subst e;simp at hn;omega
 ·subst h1
  simp[V.zda,elp,h0,hn]
theorem SlX.zmq(hs:SlX h es x L R){k:IntKind}{i:Nat}(hn:i<L.length):V.zda es x (.int k i)=some (elp es x i 0):=by
 have:=hs.idx (k:=k) (n:=(i:Int)) (by omega) (by omega);simpa using this
theorem SlX.fieldA(hs:SlX h es x L R){i:Nat}(hn:i<L.length)(f o:Nat):V.fieldAddr o (elp es x i f)=some (elp es x i (f+o)):=by
 rcases hs.at_ with⟨e,_⟩|⟨id,g,off,cp,b,hi,h1,_⟩
 ·subst e;simp at hn
 ·subst h1
  simp[elp,Nat.add_assoc]
theorem SlX.ldvX(hs:SlX h es x L R){i f:Nat}{c:List za}(hi:i<L.length)(hc:(L++R)[i]?=some c)(hf:f<es):A.ldv h (elp es x i f)=c[f]? :=by
 rcases hs.at_ with⟨e,e',_⟩|⟨id,g,off,cp,b,hi',h1,h1',h2,h3,h4,hh,h5⟩
 ·subst e;simp at hi
 ·have hm:i*es+f<(L.length+R.length)*es:=by
   have:(i+1)*es <= (L.length+R.length)*es:=Nat.mul_le_mul_right _ (by omega);rw[Nat.add_mul]at this;omega
  subst h1;have h6:=flat_get hs.len i f c hc hf;rw[<-h5,getElem?_take_of_lt hm,getElem?_drop]at h6;simp only[elp,A.ldv,h2,h3];rw[if_pos (by omega),Nat.add_assoc,h6]
theorem SlX.ldv(hs:SlX h es x L R){i f:Nat}{c:List za}(hc:L[i]?=some c)(hf:f<es):A.ldv h (elp es x i f)=c[f]? :=by
 have hi:=(List.getElem?_eq_some_iff.1 hc).1;exact hs.ldvX hi (by rw[getElem?_append_left hi];exact hc) hf
theorem SlX.zl7(hs:SlX h es x L R){i f n:Nat}{c:List za}(hc:L[i]?=some c)(hf:f+n <= es):A.zl7 h (elp es x i f) n=some (.agg ((c.drop f).take n)):=by
 have hi:=(List.getElem?_eq_some_iff.1 hc).1;have hcl:=hs.len c (mem_append_left _ (mem_of_getElem? hc));rcases hs.at_ with⟨e,e',_⟩|⟨id,g,off,cp,b,hi',h1,h1',h2,h3,h4,hh,h5⟩
 ·subst e;simp at hi
 ·have hm:i*es+es <= (L.length+R.length)*es:=by
   have:(i+1)*es <= (L.length+R.length)*es:=Nat.mul_le_mul_right _ (by omega);rw[Nat.add_mul]at this;omega
  subst h1;simp only[elp,A.zl7,h2,h3];rw[if_pos (by omega)];congr 2;apply ext_getElem?;intro k;by_cases hk:k<n
  ·rw[getElem?_take_of_lt hk,getElem?_take_of_lt hk,getElem?_drop,getElem?_drop]
   have h6:=flat_get hs.len i (f+k) c (by rw[getElem?_append_left hi];exact hc) (by omega);rw[<-h5,getElem?_take_of_lt (by omega),getElem?_drop]at h6;rw[<-h6];congr 1;omega
  ·rw[getElem?_take_eq_none (by omega),getElem?_take_eq_none (by omega)]
theorem SlX.elem(hs:SlX h es x L R){i:Nat}{c:List za}(hc:L[i]?=some c):A.zl7 h (elp es x i 0) es=some (.agg c):=by
 rw[hs.zl7 hc (by omega)];have:=hs.len c (mem_append_left _ (mem_of_getElem? hc));simp[<-this]
theorem SlX.rdv(hs:SlX h es x L R):A.rdv h x L.length es=some L.flatten:=by
 have hs:=hs.cut;rcases hs.at_ with⟨e,_,e'|e'⟩|⟨id,g,off,cp,b,hi,h1,h1',h2,h3,h4,hh,h5⟩
 ·subst e e';rfl
 ·subst e e';rfl
 ·subst h1
  simp only[length_nil,Nat.add_zero,append_nil]at h4 h5;simp only[A.rdv,h2,h3];rw[if_pos ⟨Nat.le_refl _,h4⟩,h5]
theorem endsC_eq{n cp lo hi:Nat}{a b:Option za}(ha:a=none /\ lo=0 \/ ∃k,a=some (.int k lo))(hb:b=none /\ hi=n \/ ∃k,b=some (.int k hi)):
  V.endsC n cp a b=if lo <= hi /\ hi <= max n cp then some (lo,hi) else none:=by
 rcases ha with⟨rfl,rfl⟩|⟨k,rfl⟩<;>rcases hb with⟨rfl,rfl⟩|⟨k',rfl⟩<;>simp[V.endsC,V.asNat]
theorem SlX.slice(hs:SlX h es x L R)(hes:0<es){lo hi:Nat}{a b:Option za}(ha:a=none /\ lo=0 \/ ∃k,a=some (.int k lo))(hb:b=none /\ hi=L.length \/ ∃k,b=some (.int k hi))(h1:lo <= hi)(h2:hi <= L.length+R.length):
  ∃x',V.zh9 es x a b=some x' /\ SlX h es x' (((L++R).take hi).drop lo) ((L++R).drop hi) /\ zhy x'=zhy x:=by
 rcases hs.at_ with⟨e,e',e''⟩|⟨id,g,off,cp,bk,hh,k1,k1',k2,k3,k4,k5,k6⟩
 ·subst e e'
  simp only[length_nil,Nat.add_zero,Nat.le_zero_eq]at h2;subst h2;have:lo=0:=by omega
  subst this;refine⟨x,?_,⟨by simp,.inl ⟨by simp,by simp,e''⟩⟩,rfl⟩;rcases e'' with rfl|rfl<;>simp only[V.zh9,V.ends,endsC_eq (n:=0) ha hb]<;>rfl
 ·subst k1
  have hlt:(L++R).length=L.length+R.length:=by simp
  refine⟨.sl id g (off+lo*es) (hi-lo) es (max L.length cp-lo),?_,⟨λp hp=>hs.len p ?_,.inr ⟨id,g,off+lo*es,max L.length cp-lo,bk,hh,?_,?_,k2,k3,?_,k5,?_⟩⟩,rfl⟩
  ·simp only[V.zh9,endsC_eq ha hb]
   rw[if_pos ⟨h1,by omega⟩];simp
  ·rcases mem_append.1 hp with hp|hp
   ·exact mem_of_mem_take (mem_of_mem_drop hp)
   ·exact mem_of_mem_drop hp
  ·simp only[length_drop,length_take,hlt,Nat.min_eq_left h2]
  ·simp only[length_drop,length_take,hlt,Nat.min_eq_left h2];omega
  ·simp only[length_drop,length_take,hlt,Nat.min_eq_left h2]
   have:lo*es+(hi-lo+(L.length+R.length-hi))*es=(L.length+R.length)*es:=by rw[<-Nat.add_mul];congr 1;omega
   omega
  ·simp only[length_drop,length_take,hlt,Nat.min_eq_left h2]
   have e1:((L++R).take hi).drop lo++(L++R).drop hi=(L++R).drop lo:=by
    have hg:∀M:List (List za),lo <= (M.take hi).length->(M.take hi).drop lo++M.drop hi=M.drop lo:=λM hM=>by
     rw[<-drop_append_of_le_length hM,take_append_drop]
    exact hg _ (by rw[length_take,hlt];omega)
   rw[e1];have e2:((L++R).drop lo).flatten=(L++R).flatten.drop (lo*es):=by
    have hd:∀(M:List (List za))(n:Nat),(∀p∈M,p.length=es)->(M.drop n).flatten=M.flatten.drop (n*es):=by
     intro M
     induction M with
     | nil=>intro n _;simp
     | cons c M ih=>
      intro n hM;cases n with
      | zero=>simp
      | succ n=>
       have hc:c.length=es:=hM c (by simp);rw[drop_succ_cons,ih n (λp hp=>hM p (by simp[hp])),flatten_cons,Nat.add_mul,Nat.one_mul];rw[show n*es+es=c.length+n*es by omega,drop_length_add_append]
    exact hd _ _ hs.len
   rw[e2,<-k6,drop_take,drop_drop];congr 1;rw[<-Nat.sub_mul];congr 1;omega
def But(x:za)(h h':zb):Prop:=∀j b,h j=some b->zhy x≠some j->h' j=some b
theorem But.of_le(x:za)(hle:h.le H):But x h H:=λj b e _=>hle j b e
theorem zkt(g n:Nat)(l:List (Nat×Nat)):List.lookup g ((g,n)::l)=some n:=by simp[List.lookup]
theorem SlX.app{bytes:Nat}{M:List (List za)}{K:zQ}(ho:SlX h es x L R)(hown:∀id b,zhy x=some id->h id=some b->b.own=true)(hes:0<es)(hM:∀p∈M,p.length=es)(hb:(L.length+M.length)*bytes <= 140737488355328)(hm:L.length+M.length <= maxLen)
  (hk:∀x' h',SlIs h' es x' (L++M)->(∀id b,zhy x'=some id->h' id=some b->b.own=true)->But x h h'->(zhy x'=zhy x \/ ∀id,zhy x'=some id->h id=none)->K x' h'):A.app h es bytes x (some M.flatten) K:=by
 have hl:=zp6 hM;have hd:M.flatten.length / es=M.length:=by rw[hl,Nat.mul_div_cancel _ hes]
 have hall:∀p∈(L++M)++[],p.length=es:=λp hp=>by
  rw[append_nil]at hp;rcases mem_append.1 hp with hp|hp
  ·exact ho.len p (mem_append_left _ hp)
  ·exact hM p hp
 have fresh:L=[]->(M≠[]->(M.flatten.length / es)*bytes <= 140737488355328 /\ M.flatten.length / es <= maxLen /\ A.new h M.flatten λid h=>K (.sl id 0 0 (M.flatten.length / es) es (M.flatten.length / es)) h):=λe hne=>by
  subst e;rw[hd];simp only[length_nil,Nat.zero_add]at hb hm;refine⟨hb,hm,λid hid=>?_⟩;refine hk _ _ ⟨hall,.inr ⟨id,0,0,_,zdn M.flatten,M.flatten.length,by simp only[nil_append];exact rfl,by simp,zb4 ..,zkt ..,by simp[hl],Nat.le_refl _,?_⟩⟩ (λj b hj hb'=>?_) (But.of_le _ (zgi _ hid)) (.inr λj hj=>?_)
  ·simp only[nil_append,append_nil,length_nil,Nat.add_zero,<-hl,zdn,drop_zero,take_length]
  ·cases hj
   rw[zb4]at hb';cases hb';rfl
  ·cases hj;exact hid
 have hnil:M=[] \/ M.flatten.length≠0:=by
  cases M with
  | nil=>exact .inl rfl
  | cons a r=>
   refine .inr ?_;rw[hl,length_cons,Nat.add_mul];omega
 have h0:=ho.cut;rcases h0.at_ with⟨e,_,e'|e'⟩|⟨id,g,off,cp,b,hi,h1,h1',h2,h3,h4,hh,h5⟩
 ·subst e'
  simp only[A.app];split
  ·rename_i hz
   rcases hnil with hn|hn
   ·subst hn;exact hk _ _ (by simpa using h0) (λ_ _ hj=>by cases hj) (But.of_le _ (zb.le_refl h)) (.inl rfl)
   ·exact absurd hz hn
  ·rename_i hz
   exact fresh e λhn=>hz (by rw[hn];rfl)
 ·subst e'
  simp only[A.app];split
  ·rename_i hz
   rcases hnil with hn|hn
   ·subst hn;exact hk _ _ (by simpa using h0) (λ_ _ hj=>by cases hj) (But.of_le _ (zb.le_refl h)) (.inl rfl)
   ·exact absurd hz hn
  ·rename_i hz
   exact fresh e λhn=>hz (by rw[hn];rfl)
 ·have hown':=hown id b (by rw[h1];rfl) h2
  subst h1;simp only[length_nil,Nat.add_zero,append_nil]at h4 h5;simp only[A.app,h2,h3,hd,hown',cond_true];have hcl:off+L.length*es <= b.cells.length:=by omega
  have htl:(b.cells.take (off+L.length*es)).length=off+L.length*es:=by simp;omega
  refine⟨trivial,trivial,h4,hb,hm,hk _ _ ⟨hall,.inr ⟨id,b.next,off,_,_,off+L.length*es+M.flatten.length,by rw[length_append],by simp,zb4 ..,zkt ..,?_,?_,?_⟩⟩ (λj b1 hj hb1=>?_) (λj b1 e1 e2=>?_) (.inl rfl)⟩
  ·rw[length_append,length_nil,Nat.add_zero,Nat.add_mul,hl];omega
  ·simp only[zhw,length_append,htl];omega
  ·simp only[zhw,append_nil,length_nil,Nat.add_zero]
   rw[drop_append_of_le_length (by omega),length_append,Nat.add_mul,<-hl,flatten_append,<-h5];have e1:(b.cells.take (off+L.length*es)).drop off=(b.cells.drop off).take (L.length*es):=by
    rw[drop_take];congr 1;omega
   have e2:((b.cells.drop off).take (L.length*es)).length=L.length*es:=by simp;omega
   rw[e1,take_of_length_le];rw[length_append,e2];omega
  ·cases hj
   rw[zb4]at hb1;cases hb1;exact hown'
  ·rw[zy]
   ·exact e1
   ·intro e;subst e;exact e2 rfl
theorem SlX.zim{bytes:Nat}{y:za}{M R':List (List za)}{K:zQ}(ho:SlX h es x L R)(hown:∀id b,zhy x=some id->h id=some b->b.own=true)(hs:SlX h es y M R')(hes:0<es)(hb:(L.length+M.length)*bytes <= 140737488355328)(hm:L.length+M.length <= maxLen)
  (hk:∀x' h',SlIs h' es x' (L++M)->(∀id b,zhy x'=some id->h' id=some b->b.own=true)->But x h h'->(zhy x'=zhy x \/ ∀id,zhy x'=some id->h id=none)->K x' h'):A.zim h es bytes x y K:=by
 unfold A.zim;rw[hs.zgt];simp only;rw[hs.rdv];exact ho.app hown hes (λp hp=>hs.len p (mem_append_left _ hp)) hb hm hk
theorem zq6{α:Type}{n:Nat}:∀{L:List (List α)},(∀c∈L,c.length=n)->∀(i f:Nat)(c xs:List α),L[i]?=some c->f+xs.length <= n ->
  (L.set i (c.take f++xs++c.drop (f+xs.length))).flatten=L.flatten.take (i*n+f)++xs++L.flatten.drop (i*n+f+xs.length)
 | [],_,_,_,_,_,h,_=>by simp at h
 | c0::L,hl,0,f,c,xs,h,hf=>by
  simp only[getElem?_cons_zero,Option.some.injEq]at h
  subst h
  have:=hl c0 (by simp)
  rw[set_cons_zero,flatten_cons,flatten_cons,Nat.zero_mul,Nat.zero_add,take_append_of_le_length (by omega),drop_append_of_le_length (by omega),append_assoc]
 | c0::L,hl,i+1,f,c,xs,h,hf=>by
  simp only[getElem?_cons_succ]at h
  have h0:=hl c0 (by simp)
  rw[set_cons_succ,flatten_cons,flatten_cons,zq6 (λc hc=>hl c (by simp[hc])) i f c xs h hf]
  have e1:(i+1)*n+f=c0.length+(i*n+f):=by rw[h0,Nat.add_mul];omega
  have e2:(i+1)*n+f+xs.length=c0.length+(i*n+f+xs.length):=by rw[h0,Nat.add_mul];omega
  rw[e1,take_length_add_append,show c0.length+(i*n+f)+xs.length=c0.length+(i*n+f+xs.length) by omega,drop_length_add_append]
  simp[append_assoc]
theorem zsc{α:Type}(A xs B:List α){p:Nat}(hA:A.length=p)(k:Nat):(A++(xs++B))[k]?=if k<p then A[k]? else if k-p<xs.length then xs[k-p]? else B[k-p-xs.length]? :=by
 subst hA;split
 ·rw[getElem?_append_left (by omega)]
 ·rw[getElem?_append_right (by omega)]
  split
  ·rw[getElem?_append_left (by omega)]
  ·rw[getElem?_append_right (by omega)]
theorem zr0{α:Type}(l:List α)(p:Nat)(v:α)(hp:p<l.length):l.set p v=l.take p++[v]++l.drop (p+1):=by
 rw[set_eq_take_append_cons_drop,if_pos hp];simp
theorem splice_read{i f n off hi:Nat}{cells c xs:List za}{T:List (List za)}(hT:∀p∈T,p.length=es)(h4:off+T.length*es <= hi)(hh:hi <= cells.length)
  (h5:(cells.drop off).take (T.length*es)=T.flatten) (hc:T[i]?=some c) (hn:xs.length=n) (hf:f+n <= es):
  ((cells.take (off+i*es+f)++xs++cells.drop (off+i*es+f+n)).drop off).take (T.length*es)=(T.set i (c.take f++xs++c.drop (f+n))).flatten /\ (cells.take (off+i*es+f)++xs++cells.drop (off+i*es+f+n)).length=cells.length:=by
 subst hn;have hlt:i<T.length:=(List.getElem?_eq_some_iff.1 hc).1;have hm:i*es+es <= T.length*es:=by
  have:(i+1)*es <= T.length*es:=Nat.mul_le_mul_right _ hlt;rw[Nat.add_mul]at this;omega
 refine⟨?_,by simp;omega⟩;rw[zq6 hT i f c xs hc hf,<-h5];apply ext_getElem?;intro k;have hfl:((cells.drop off).take (T.length*es)).length=T.length*es:=by simp;omega
 by_cases hk:k<T.length*es
 ·rw[getElem?_take_of_lt hk,getElem?_drop,append_assoc,append_assoc]
  have l1:(cells.take (off+i*es+f)).length=off+i*es+f:=by simp;omega
  have l2:(((cells.drop off).take (T.length*es)).take (i*es+f)).length=i*es+f:=by simp;omega
  rw[zsc _ _ _ l1,zsc _ _ _ l2,show off+k-(off+i*es+f)=k-(i*es+f) by omega];by_cases k1:k<i*es+f
  ·rw[if_pos (by omega),if_pos k1,getElem?_take_of_lt (by omega),getElem?_take_of_lt (by omega),getElem?_take_of_lt (by omega),getElem?_drop]
  ·rw[if_neg (by omega),if_neg k1]
   split
   ·rfl
   ·rw[getElem?_drop,getElem?_drop,getElem?_take_of_lt (by omega),getElem?_drop]
    congr 1;omega
 ·rw[getElem?_take_eq_none (by omega),getElem?_eq_none]
  simp;omega
theorem SlX.stn'{i f n:Nat}{c xs:List za}{K:zb->Prop}(ho:SlX h es x L R)(hown:∀id b,zhy x=some id->h id=some b->b.own=true)(hc:L[i]?=some c)(hn:xs.length=n)(hf:f+n <= es)(fn:List za->Option (List za))
  (hfn:∀(cells:List za)(p:Nat),A.zo5 (elp es x i f)=p->p+n <= cells.length->fn cells=some (cells.take p++xs++cells.drop (p+n)))
  (hk:∀h',SlX h' es x (L.set i (c.take f++xs++c.drop (f+n))) R->(∀id b,zhy x=some id->h' id=some b->b.own=true)->But x h h'->K h'):A.ph (A.stv h (elp es x i f) fn n 0) K:=by
 have hi0:i<L.length:=(List.getElem?_eq_some_iff.1 hc).1;rcases ho.at_ with⟨e,_⟩|⟨id,g,off,cp,b,hi,h1,h1',h2,h3,h4,hh,h5⟩
 ·subst e;simp at hc
 ·have hm:i*es+es <= (L.length+R.length)*es:=by
   have:(i+1)*es <= (L.length+R.length)*es:=Nat.mul_le_mul_right _ (by omega);rw[Nat.add_mul]at this;omega
  have hown':=hown id b (by rw[h1];rfl) h2;have hcT:(L++R)[i]?=some c:=by rw[getElem?_append_left hi0];exact hc
  have hlen:(L++R).length=L.length+R.length:=by simp
  obtain⟨r1,r2⟩:=splice_read (off:=off) (hi:=hi) (cells:=b.cells) ho.len (by rw[hlen];exact h4) hh (by rw[hlen];exact h5) hcT hn hf;have hset:(L++R).set i (c.take f++xs++c.drop (f+n))=L.set i (c.take f++xs++c.drop (f+n))++R:=by rw[set_append_left _ _ hi0]
  rw[hset,hlen]at r1;have hcl:=ho.len c (mem_append_left _ (mem_of_getElem? hc));have hbl:Nat.ble (0+(off+i*es+f)+n) hi=true:=by rw[Nat.ble_eq];omega
  have hp:=hfn b.cells (off+i*es+f) (by rw[h1];rfl) (by omega);have hlen':∀p∈L.set i (c.take f++xs++c.drop (f+n))++R,p.length=es:=λp hp=>by
   rcases mem_append.1 hp with hp|hp
   ·rcases mem_or_eq_of_mem_set hp with hp|hp
    ·exact ho.len p (mem_append_left _ hp)
    ·subst hp;simp;omega
   ·exact ho.len p (mem_append_right _ hp)
  subst h1;simp only[elp,A.stv,h2,h3,hown',hbl,Bool.true_and,cond_true,hp,A.ph];refine hk _ ⟨hlen',.inr ⟨id,g,off,cp,_,hi,by rw[length_set],by rw[length_set];exact h1',zb4 ..,zkt ..,by rw[length_set];exact h4,by simp only;rw[r2];exact hh,by simp only;rw[length_set];exact r1⟩⟩ (λj b1 hj hb1=>?_) (λj b1 e1 e2=>?_)
  ·cases hj
   rw[zb4]at hb1;cases hb1;rfl
  ·rw[zy]
   ·exact e1
   ·intro e;subst e;exact e2 rfl
theorem SlX.st{i f:Nat}{c:List za}{v:za}{K:zb->Prop}(ho:SlX h es x L R)(hown:∀id b,zhy x=some id->h id=some b->b.own=true)(hc:L[i]?=some c)(hf:f<es)(hv:v.zec=true)
  (hk:∀h',SlX h' es x (L.set i (c.set f v)) R->(∀id b,zhy x=some id->h' id=some b->b.own=true)->But x h h'->K h'):A.st h (elp es x i f) v K:=by
 have hcl:=ho.len c (mem_append_left _ (mem_of_getElem? hc));refine ho.stn' hown hc (xs:=[v]) (n:=1) rfl hf _ (λcells p hp hle=>?_) ?_
 ·rw[<-hp]at hle ⊢
  simp only[V.put1,hv,cond_true];rw[if_pos (by omega),zr0 _ _ _ (by omega)]
 ·rw[<-zr0 c f v (by omega)];exact hk
end
inductive Ob where
 | sl (es:Nat) (x:za) (L R:List (List za))
 | box (p:za) (cs:List za)
 | blk (id:Nat) (b:Blk)
def Ob.zhy:Ob->Option Nat | .sl _ x _ _=>Ab.zhy x | .box p _=>Ab.zhy p | .blk id _=>some id
def Ob.at(h:zb):Ob->Prop
 | .sl es x L R=>SlX h es x L R
 | .box p cs=>∃id,p= .ptr id 0 0 /\ h id=some (zdn cs)
 | .blk id b=>h id=some b
theorem Ob.at.zj0{h H:zb}{o:Ob}(hs:o.at h)(hk:∀id b,o.zhy=some id->h id=some b->H id=some b):o.at H:=by
 cases o with
 | sl es x L R=>exact SlX.zj0 hs hk
 | box p cs=>obtain⟨id,rfl,e⟩:=hs;exact⟨id,rfl,hk id _ rfl e⟩
 | blk id b=>exact hk id b rfl hs
theorem Ob.at.known{h:zb}{o:Ob}(hs:o.at h){id:Nat}(hf:o.zhy=some id):∃b,h id=some b:=by
 cases o with
 | sl es x L R=>exact SlX.known hs hf
 | box p cs=>obtain⟨id',rfl,e⟩:=hs;cases hf;exact⟨_,e⟩
 | blk id b=>cases hf;exact⟨_,hs⟩
structure zc6(h0 h:zb)(l:List Ob):Prop where
 le:h0.le h
 is:∀o∈l,o.at h
 own:∀o∈l,∀id,o.zhy=some id->h0 id=none /\ ∀b,h id=some b->b.own=true
 apart:l.Pairwise λa b=>∀id,a.zhy=some id->b.zhy≠some id
section
variable{h0 h h' H:zb}{l l':List Ob}
theorem zc6.nil(hle:h0.le h):zc6 h0 h []:=⟨hle,λ_ h=>(by cases h),λ_ h=>(by cases h),.nil⟩
theorem zc6.start(h:zb):zc6 h h []:=zc6.nil (zb.le_refl h)
theorem zc6.sub(ho:zc6 h0 h l)(hs:l'.Sublist l):zc6 h0 h l':=⟨ho.le,λo hm=>ho.is o (hs.subset hm),λo hm=>ho.own o (hs.subset hm),ho.apart.sublist hs⟩
theorem zc6.grow(ho:zc6 h0 h l)(hle:h.le H):zc6 h0 H l:=
 ⟨zb.le_trans ho.le hle,λo hm=>(ho.is o hm).zj0 λ_ _ _ e=>hle _ _ e,λo hm id hf=>by
  obtain⟨a,b⟩:=ho.own o hm id hf
  obtain⟨b',hb'⟩:=(ho.is o hm).known hf
  exact⟨a,λc hc=>(by rw[hle _ _ hb']at hc;cases hc;exact b _ hb')⟩,ho.apart⟩
theorem zc6.back(ho:zc6 h0 h l)(hle:H.le h0):zc6 H h l:=
 ⟨zb.le_trans hle ho.le,ho.is,λo hm id hf=>⟨(by
  cases e:H id with
  | none=>rfl
  | some b=>have:=hle _ _ e;rw[(ho.own o hm id hf).1]at this;cases this),(ho.own o hm id hf).2⟩,ho.apart⟩
theorem zc6.join(ho:zc6 h0 h l)(hn:zc6 h h' l'):zc6 h0 h' (l++l'):=by
 have g:=ho.grow hn.le;have b:=hn.back ho.le;refine⟨g.le,λo hm=>?_,λo hm=>?_,pairwise_append.2 ⟨g.apart,hn.apart,λx hx y hy id hf hf'=>?_⟩⟩
 ·rcases mem_append.1 hm with hm|hm
  ·exact g.is o hm
  ·exact b.is o hm
 ·rcases mem_append.1 hm with hm|hm
  ·exact g.own o hm
  ·exact b.own o hm
 ·obtain⟨c,hc⟩:=(ho.is x hx).known hf
  have:=(hn.own y hy id hf').1;rw[hc]at this;cases this
theorem zc6.zns(ho:zc6 h0 h l){id:Nat}(hid:h id=none)(cs:List za):zc6 h0 (upd h id (zdn cs)) (l++[.box (.ptr id 0 0) cs]):=
 ho.join ⟨zgi _ hid,λo hm=>by rw[mem_singleton.1 hm];exact⟨id,rfl,zb4 ..⟩,λo hm j hj=>by rw[mem_singleton.1 hm]at hj;cases hj;exact⟨hid,λb hb=>by rw[zb4]at hb;cases hb;rfl⟩,pairwise_singleton _ _⟩
theorem SlX.lit{h:zb}{es:Nat}{id n cp:Nat}{cs:List za}{L R:List (List za)}(hb:h id=some (zdn cs))(hL:∀p∈L++R,p.length=es)(hn:n=L.length)(hcp:L.length+R.length <= cp)(hc:cs=(L++R).flatten):SlX h es (.sl id 0 0 n es cp) L R:=by
 subst hn hc;have:=zp6 hL;rw[length_append]at this;exact⟨hL,.inr ⟨id,0,0,cp,_,_,rfl,by omega,hb,zkt ..,by rw[this];omega,Nat.le_refl _,by rw[<-this];simp only[zdn,drop_zero,take_length]⟩⟩
theorem zc6.newSl(ho:zc6 h0 h l){id n cp es:Nat}{cs:List za}{L R:List (List za)}(hid:h id=none)(hL:∀p∈L++R,p.length=es)(hn:n=L.length)(hcp:L.length+R.length <= cp)(hc:cs=(L++R).flatten):zc6 h0 (upd h id (zdn cs)) (l++[.sl es (.sl id 0 0 n es cp) L R]):=
 ho.join ⟨zgi _ hid,λo hm=>by rw[mem_singleton.1 hm];exact SlX.lit (zb4 ..) hL hn hcp hc,λo hm j hj=>by rw[mem_singleton.1 hm]at hj;cases hj;exact⟨hid,λb hb=>by rw[zb4]at hb;cases hb;rfl⟩,pairwise_singleton _ _⟩
theorem zc6.zed(ho:zc6 h0 h l)(es:Nat):zc6 h0 h (l++[.sl es .zed [] []]):=
 ho.join ⟨zb.le_refl h,λo hm=>by rw[mem_singleton.1 hm];exact SlX.zed h es,λo hm j hj=>(by rw[mem_singleton.1 hm]at hj;cases hj),pairwise_singleton _ _⟩
theorem zc6.sz(ho:zc6 h0 h l)(es:Nat):zc6 h0 h (l++[.sl es .sz [] []]):=
 ho.join ⟨zb.le_refl h,λo hm=>by rw[mem_singleton.1 hm];exact SlX.sz h es,λo hm j hj=>(by rw[mem_singleton.1 hm]at hj;cases hj),pairwise_singleton _ _⟩
theorem zc6.at(ho:zc6 h0 h l)(k:Nat){o:Ob}(hk:l[k]?=some o):o.at h:=ho.is o (mem_of_getElem? hk)
theorem zc6.zj4(ho:zc6 h0 h l)(k:Nat){es:Nat}{x:za}{L R:List (List za)}(hk:l[k]?=some (.sl es x L R)):SlX h es x L R:=ho.at k hk
theorem zc6.zrt(ho:zc6 h0 h l)(k:Nat){p:za}{cs:List za}(hk:l[k]?=some (.box p cs)):∃id,p= .ptr id 0 0 /\ h id=some (zdn cs):=ho.at k hk
theorem zc6.off(ho:zc6 h0 h l){es:Nat}{x:za}{L R:List (List za)}(hs:SlX h0 es x L R){o:Ob}(hm:o∈l):∀id,Ab.zhy x=some id->o.zhy≠some id:=λid hf hf'=>by
 obtain⟨b,hb⟩:=hs.known hf
 rw[(ho.own o hm id hf').1]at hb;cases hb
theorem zc6.zhe(ho:zc6 h0 h l)(k:Nat){o o':Ob}(hk:l[k]?=some o)(hat:o'.at h')(hown:∀id b,o'.zhy=some id->h' id=some b->b.own=true)
  (hbut:∀j b,h j=some b->o.zhy≠some j->h' j=some b) (hf:o'.zhy=o.zhy \/ ∀id,o'.zhy=some id->h id=none):zc6 h0 h' (l.set k o'):=by
 have hm:o∈l:=mem_of_getElem? hk;have hlt:k<l.length:=(List.getElem?_eq_some_iff.1 hk).1;have hne:∀i a,l[i]?=some a->i≠k->∀id,a.zhy=some id->o.zhy≠some id:=λi a hi hik id ha hb=>by
  rcases Nat.lt_or_gt_of_ne hik with hlt|hgt
  ·have:=pairwise_iff_getElem.1 ho.apart i k (List.getElem?_eq_some_iff.1 hi).1 (List.getElem?_eq_some_iff.1 hk).1 hlt
   rw[(List.getElem?_eq_some_iff.1 hi).2,(List.getElem?_eq_some_iff.1 hk).2]at this;exact this id ha hb
  ·have:=pairwise_iff_getElem.1 ho.apart k i (List.getElem?_eq_some_iff.1 hk).1 (List.getElem?_eq_some_iff.1 hi).1 hgt
   rw[(List.getElem?_eq_some_iff.1 hi).2,(List.getElem?_eq_some_iff.1 hk).2]at this;exact this id hb ha
 have hset:∀a∈l.set k o',a=o' \/ ∃i,i≠k /\ l[i]?=some a:=λa ha=>by
  obtain⟨i,hi⟩:=getElem?_of_mem ha;by_cases e:i=k
  ·subst e;rw[getElem?_set_self hlt]at hi;cases hi;exact .inl rfl
  ·rw[getElem?_set_ne (Ne.symm e)]at hi;exact .inr ⟨i,e,hi⟩
 have hle:h0.le h':=λj b e=>hbut j b (ho.le j b e) λhj=>by rw[(ho.own o hm j hj).1]at e;cases e
 have h0n:∀id,o'.zhy=some id->h0 id=none:=λid hid=>by
  rcases hf with hf|hf
  ·rw[hf]at hid;exact(ho.own o hm id hid).1
  ·cases e:h0 id with
   | none=>rfl
   | some b=>have:=ho.le _ _ e;rw[hf id hid]at this;cases this
 refine⟨hle,λa ha=>?_,λa ha id hid=>?_,?_⟩
 ·rcases hset a ha with rfl|⟨i,hi,hl⟩
  ·exact hat
  ·exact(ho.is a (mem_of_getElem? hl)).zj0 λid b hf' hb=>hbut id b hb (hne i a hl hi id hf')
 ·rcases hset a ha with rfl|⟨i,hi,hl⟩
  ·exact⟨h0n id hid,λb hb=>hown id b hid hb⟩
  ·have hma:=mem_of_getElem? hl
   obtain⟨b',hb'⟩:=(ho.is a hma).known hid;refine⟨(ho.own a hma id hid).1,λb hb=>?_⟩;rw[hbut id b' hb' (hne i a hl hi id hid)]at hb;cases hb;exact(ho.own a hma id hid).2 _ hb'
 ·have sym:∀i a,l[i]?=some a->i≠k->∀id,a.zhy=some id->o'.zhy≠some id:=λi a hl hi id ha hb=>by
   rcases hf with hf|hf
   ·rw[hf]at hb;exact hne i a hl hi id ha hb
   ·obtain⟨b',hb'⟩:=(ho.is a (mem_of_getElem? hl)).known ha
    rw[hf id hb]at hb';cases hb'
  rw[pairwise_iff_getElem];intro i j hi hj hij id ha hb;have li:(l.set k o')[i]?=some (l.set k o')[i]:=getElem?_eq_getElem hi;have lj:(l.set k o')[j]?=some (l.set k o')[j]:=getElem?_eq_getElem hj;by_cases e1:i=k
  ·have e2:j≠k:=by omega
   rw[getElem?_set_ne (Ne.symm e2)]at lj;subst e1;rw[getElem?_set_self hlt]at li;rw[<-Option.some.inj li]at ha;exact sym j _ lj e2 id hb ha
  ·rw[getElem?_set_ne (Ne.symm e1)]at li
   by_cases e2:j=k
   ·subst e2
    rw[getElem?_set_self hlt]at lj;rw[<-Option.some.inj lj]at hb;exact sym i _ li e1 id ha hb
   ·rw[getElem?_set_ne (Ne.symm e2)]at lj
    have:=pairwise_iff_getElem.1 ho.apart i j (List.getElem?_eq_some_iff.1 li).1 (List.getElem?_eq_some_iff.1 lj).1 hij;rw[(List.getElem?_eq_some_iff.1 li).2,(List.getElem?_eq_some_iff.1 lj).2]at this;exact this id ha hb
theorem zc6.ownAt(ho:zc6 h0 h l)(k:Nat){o:Ob}(hk:l[k]?=some o):∀id b,o.zhy=some id->h id=some b->b.own=true:=λid b hf hb=>(ho.own o (mem_of_getElem? hk) id hf).2 b hb
theorem zc6.zim(ho:zc6 h0 h l)(k:Nat){es bytes:Nat}{x y:za}{L R M R':List (List za)}{K:zQ}(hk:l[k]?=some (.sl es x L R))(hs:SlX h es y M R')(hes:0<es)(hb:(L.length+M.length)*bytes <= 140737488355328)(hm:L.length+M.length <= maxLen)(hK:∀x' h',zc6 h0 h' (l.set k (.sl es x' (L++M) []))->But x h h'->K x' h'):A.zim h es bytes x y K:=(ho.zj4 k hk).zim (ho.ownAt k hk) hs hes hb hm λx' h' h1 h2 h3 h4=>hK x' h' (ho.zhe k hk h1 h2 h3 h4) h3
theorem zc6.st(ho:zc6 h0 h l)(k:Nat){es i f:Nat}{x v:za}{L R:List (List za)}{c:List za}{K:zb->Prop}(hk:l[k]?=some (.sl es x L R))(hc:L[i]?=some c)(hf:f<es)(hv:v.zec=true)(hK:∀h',zc6 h0 h' (l.set k (.sl es x (L.set i (c.set f v)) R))->But x h h'->K h'):A.st h (elp es x i f) v K:=(ho.zj4 k hk).st (ho.ownAt k hk) hc hf hv λh' h1 h2 h3=>hK h' (ho.zhe k hk h1 h2 h3 (.inl rfl)) h3
end
theorem zc6.push{h0 h:zb}{l:List Ob}(ho:zc6 h0 h l)(k:Nat){es bytes:Nat}{x:za}{L R:List (List za)}{cs:List za}{K:zQ}(hk:l[k]?=some (.sl es x L R))(hcs:cs.length=es)(hes:0<es)(hb:(L.length+1)*bytes <= 140737488355328)(hm:L.length+1 <= maxLen)(hK:∀x' h',zc6 h0 h' (l.set k (.sl es x' (L++[cs]) []))->But x h h'->K x' h'):A.zf2 h (some cs) λi h=>A.zim h es bytes x (.sl i 0 0 1 es 1) K:=λi hi=>(ho.grow (zgi _ hi)).zim k hk (M:=[cs]) (R':=[]) (SlX.lit (zb4 ..) (by simpa using hcs) rfl (by simp) (by simp)) hes hb hm λx' h' h1 h2=>hK x' h' h1 λj b e1 e2=>h2 j b (zgi _ hi j b e1) e2
section
theorem zrp{α:Type}(l:List α)(i:Nat):(if i<l.length then l[i]? else none)=l[i]? :=by
 split
 ·rfl
 ·rw[getElem?_eq_none (by omega)]
theorem ldv_at{h:zb}{id:Nat}{cs:List za}(hb:h id=some (zdn cs))(off:Nat):A.ldv h (.ptr id 0 off)=cs[off]? :=by
 simp only[A.ldv,hb,zdn,List.lookup,beq_self_eq_true,zrp]
theorem st_at{h:zb}{id:Nat}{cs:List za}(hb:h id=some (zdn cs)){off:Nat}{v:za}(hv:v.zec=true)(ho:off<cs.length){K:zb->Prop}:A.st h (.ptr id 0 off) v K=K (upd h id (zdn (cs.set off v))):=by
 have h1:Nat.ble (0+off+1) cs.length=true:=by rw[Nat.ble_eq];omega
 simp only[A.st,A.stv,hb,zdn,List.lookup,beq_self_eq_true,A.zo5,V.put1,hv,ho,if_true,A.ph,h1,Bool.true_and,cond_true,length_set]
variable{h0 h:zb}{l:List Ob}
theorem zc6.boxSt(ho:zc6 h0 h l)(k:Nat){id off:Nat}{cs:List za}{v:za}{K:zb->Prop}(hk:l[k]?=some (.box (.ptr id 0 0) cs))(hv:v.zec=true)(hoff:off<cs.length)
  (hK:∀h',zc6 h0 h' (l.set k (.box (.ptr id 0 0) (cs.set off v)))->But (.ptr id 0 0) h h'->K h'):A.st h (.ptr id 0 off) v K:=by
 obtain⟨id',e,hb⟩:=ho.zrt k hk;cases e;rw[st_at hb hv hoff];have hbut:But (.ptr id 0 0) h (upd h id (zdn (cs.set off v))):=λj b e1 e2=>by rw[zy];exact e1;intro e;subst e;exact e2 rfl
 exact hK _ (ho.zhe k hk ⟨id,rfl,zb4 ..⟩ (λj b hj hb'=>by cases hj;rw[zb4]at hb';cases hb';rfl) hbut (.inl rfl)) hbut
end
def zrr(n:Nat)(g:Nat->List za):List (List za):=(List.range n).map g
@[simp] theorem fills_len(n:Nat)(g:Nat->List za):(zrr n g).length=n:=by simp[zrr]
@[simp] theorem fills_zero(g:Nat->List za):zrr 0 g=[]:=rfl
theorem zl9(n:Nat)(z:List za):(zrr n λ_=>z).flatten=(List.replicate n z).flatten:=by
 unfold zrr;rw[map_const',length_range]
theorem repL_fills(n:Nat)(z:List za):zf7 n z=(zrr n λ_=>z).flatten:=by
 rw[zl9];unfold zf7;split
 ·rw[flatten_replicate_singleton]
 ·rfl
theorem fills_all{n:Nat}{g:Nat->List za}{es:Nat}(h:∀j,(g j).length=es):∀p∈zrr n g,p.length=es:=λp hp=>by
 obtain⟨j,_,rfl⟩:=mem_map.1 hp
 exact h j
theorem zc6.mks{h0 h:zb}{l:List Ob}(ho:zc6 h0 h l){bytes es:Nat}{n c:Int}{z:List za}{k j:IntKind}{K:zQ}(hz:z.length=es)(h1:0 <= n)(h2:n <= c)(hb:c*bytes <= 281474976710656)(hc:c <= 9223372036854775807)
  (hK:∀x' h',zc6 h0 h' (l++[.sl es x' (zrr n.toNat λ_=>z) (zrr (c.toNat-n.toNat) λ_=>z)])->K x' h'):A.mks h bytes (some z) (.int k n) (.int j c) K:=by
 refine⟨h1,h2,hb,hc,λid hid=>?_⟩;rw[hz];refine hK _ _ (ho.newSl hid ?_ (by simp) (by simp;omega) ?_)
 ·intro p hp
  rcases mem_append.1 hp with hp|hp
  ·exact fills_all (λ_=>hz) p hp
  ·exact fills_all (λ_=>hz) p hp
 ·rw[flatten_append,repL_fills,zl9,zl9,zl9,<-flatten_append,replicate_append_replicate]
  congr 2;omega
def cA:Code->Code | .seq a _=>a | .cond _ a _=>a | .block _ b=>b | .loop b=>b | .scope b=>b|_=> .skip
def cB:Code->Code | .seq _ b=>b | .cond _ _ b=>b|_=> .skip
def cI:Code->Nat | .block i _=>i|_=>0
def isS:Code->Bool | .seq _ _=>true|_=>false
def isC(t:Nat):Code->Bool | .cond (.tmp k) _ _=>Nat.beq k t|_=>false
def isK:Code->Bool | .block _ _=>true|_=>false
def rA:Code->Code | .rangeFunc _ _ a b=> .seq a b|_=> .skip
def isR(t:Nat)(ps zj0:List Nat):Code->Bool | .rangeFunc (.tmp k) qs a b=>Nat.beq k t&&(zpa qs.toList ps&&(zkm a&&zj0.all λk=>zhd (zpt qs.toList a b) k&& !zhd ps k))|_=>false
def isL:Code->Bool | .loop _=>true|_=>false
section
variable{P:Program}{C:z5}{I:Bx}
theorem eS(hC:zk2 C){c:Code}{Q:Ex->zbr->zb->Prop}{s:zbr}{h:zb}(X:zbr->zb->Prop)(ha:bwp P C I (cA c) (Ex.then X Q) s h)(hb:∀s h,X s h->bwp P C I (cB c) Q s h)(hk:isS c=true:=by kernel_rfl):bwp P C I c Q s h:=by
 cases c<;>first|exact seqB hC rfl hb ha|cases hk
theorem eC{c:Code}{Q:Ex->zbr->zb->Prop}{p q:Prop}{s:zbr}{h:zb}(t:Nat)(hr:A.cond (s t) p q)(hx:p->bwp P C I (cA c) Q s h)(hy:q->bwp P C I (cB c) Q s h)(hk:isC t c=true:=by kernel_rfl):bwp P C I c Q s h:=by
 cases c with
 | cond o x y=>
  cases o with
  | tmp k=>
   have e:k=t:=Nat.eq_of_beq_eq_true hk;subst e;exact condB rfl hx hy hr
  | _=>cases hk
 | _=>cases hk
theorem eK{c:Code}{Q:Ex->zbr->zb->Prop}{s:zbr}{h:zb}(hb:bwp P C I (cA c) (Ex.inBlock (cI c) Q) s h)(hk:isK c=true:=by kernel_rfl):bwp P C I c Q s h:=by
 cases c<;>first|exact hb|cases hk
theorem eL(hC:zk2 C){c:Code}{Q:Ex->zbr->zb->Prop}{s:zbr}{h:zb}(zj0 live:List Nat)(G:List za->zG)
  (hr:z0 (G (zj0.map s)) (live.map s) h)
  (hG:∀(Y:zL)(s:zbr)(h:zb),G (zj0.map s) (live.map s) h Y->bwp P C I (cA c) (Ex.then (λs h=>Y (live.map s) h) Q) s h)
  (hk:isL c=true:=by kernel_rfl) (hw:(zj0.all λk=> !zhd (zhg P I (cA c)) k)=true:=by kernel_rfl):bwp P C I c Q s h:=by
 cases c<;>first|exact loopB hC zj0 live rfl hw hG hr|cases hk
theorem rk_nil{Q:Ex->zbr->zb->Prop}{s:zbr}:∀j h,RK [] j h->Q (unj j) s h:=λ_ _ x=>x.elim
theorem rk_cons{Q:Ex->zbr->zb->Prop}{s:zbr}{k:Nat}{p:zb->Prop}{r:List (Nat×(zb->Prop))}(h1:∀h,p h->Q (unj k) s h)(h2:∀j h,RK r j h->Q (unj j) s h):∀j h,RK ((k,p)::r) j h->Q (unj j) s h:=by
 rintro j h (⟨rfl,x⟩|x)
 ·exact h1 h x
 ·exact h2 j h x
theorem e0{q p:Prop}(hR:p)(e:q=p:=by kernel_rfl):q:=e.mpr hR
theorem natsEq_eq:∀{a b:List Nat},zpa a b=true->a=b
 | [],[],_=>rfl
 | x::a,y::b,h=>by
  simp only[zpa,Bool.and_eq_true]at h
  rw[Nat.eq_of_beq_eq_true h.1,natsEq_eq h.2]
theorem isR_spec{t:Nat}{ps zj0:List Nat}{c:Code}(h:isR t ps zj0 c=true):∃qs a b,c= .rangeFunc (.tmp t) qs a b /\ qs.toList=ps /\ zkm a=true /\ ∀k∈zj0,zhd (zpt ps a b) k=true /\ zhd ps k=false:=by
 cases c<;>(try cases h);rename_i g qs a b;cases g<;>(try cases h);rename_i k;simp only[isR,Bool.and_eq_true,all_eq_true,Bool.not_eq_true']at h;obtain⟨h1,h2,h3,h4⟩:=h;have e1:=Nat.eq_of_beq_eq_true h1;have e2:=natsEq_eq h2;subst e1 e2;exact⟨qs,a,b,rfl,rfl,h3,h4⟩
theorem mem_memB:∀{l:List Nat}{k:Nat},k∈l->zhd l k=true
 | x::r,k,h=>by
  simp only[zhd]
  rcases mem_cons.1 h with rfl|h
  ·rw[Nat.beq_refl];rfl
  ·rw[mem_memB h];cases Nat.beq x k<;>rfl
theorem keep_setPs{ps zj0:List Nat}{a b:Code}{s:zbr}(xs:List za)(hk:∀k∈zj0,zhd (zpt ps a b) k=true /\ zhd ps k=false):zj0.map (zme ps xs (zrh (zpt ps a b) s))=zj0.map s:=by
 refine map_congr_left λk hk'=>?_;obtain⟨h1,h2⟩:=hk k hk';rw[zm2 λp hp e=>by subst e;rw[mem_memB hp]at h2;cases h2];simp only[zrh,h1,cond_true]
theorem eR1(hC:zk2 C){c:Code}{Q:Ex->zbr->zb->Prop}{s:zbr}{h:zb}(t p:Nat)(zj0:List Nat)(G:List za->za->zb->(Nat->zb->Prop)->Prop){K:Nat->zb->Prop}
  (hr:zpm C (s t) (W1 (G (zj0.map s))) h K) (hK:∀j h,K j h->Q (unj j) s h)
  (hW:∀(E:Nat->zb->Prop)(s:zbr)(h:zb),G (zj0.map s) (s p) h E->bwp P C I (rA c) (λe _ h2=>E (jn e) h2) s h)
  (hk:isR t [p] zj0 c=true:=by kernel_rfl):bwp P C I c Q s h:=by
 obtain⟨qs,a,b,rfl,hq,h1,h2⟩:=isR_spec hk;refine rangeB hC rfl h1 hr hK λxs h E w=>?_
 match xs,w with
 | [x],w=>
  refine⟨by rw[<-Array.length_toList,hq];rfl,?_⟩;rw[hq];refine hW E _ h ?_;rw[keep_setPs [x] h2];have:zme [p] [x] (zrh (zpt [p] a b) s) p=x:=by simp only[zme,zew,Nat.beq_refl,cond_true]
  rw[this];exact w
theorem e1{c:Code}{Q:Ex->zbr->zb->Prop}{s:zbr}{h:zb}{p:Prop}(hR:p)(e:bwp P C I c Q s h=p:=by kernel_rfl):bwp P C I c Q s h:=e.mpr hR
theorem eF(hm:P.follows .mixedOrders=true){f:FuncId}{fn:Func}{c:Code}{I:Bx}{args:List za}{h:zb}{Q:zQ}
  (hx:zk2 (AC P)→bwp P (AC P) I c (retB P I fn.results.toList (dn Q)) (zcr args) h) (hf:P.funcs[f]? =some fn:=by kernel_rfl) (hb:fn.body=some c:=by kernel_rfl) (h1:(fn.name== "runtime.NumGoroutine")=false:=by kernel_rfl)
  (hc:ziu fn.ntmps c=true:=by kernel_rfl) (hne:Nat.beq f zle=false:=by kernel_rfl) (hl:Nat.ble args.length fn.ntmps=true:=by kernel_rfl) (hB:Nat.ble args.length I.B=true:=by kernel_rfl) (hk:chkC P I c=true:=by kernel_rfl):AC P f args h Q:=
 AC_drop (AC_introB hm hf hb (zmu hf (by rw[hb];rfl) h1) hc hne (Nat.le_of_ble_eq_true hl) (Nat.le_of_ble_eq_true hB) hk (hx (AC_cmono P)))
end
variable(C:z5)(N:Nat→Nat)
@[simp] def zdd.k1(Q:zQ)(c d:za)(h:zb):Prop:=B.call C (N 389) [c] h λb h=>B.gd h b true (λK=>K d h) λk h=>B.gd h b true (λK=>B.call C (N 389) [k] h K) λl h=>B.gd h b true (λK=>B.pv (V.un .not l) λv=>K v h) λe h=>B.pick b e (.bool false) λa=>B.gd h a false (λK=>K c h) λf h=>B.gd h a false (λK=>K d h) λg h=>B.gd h a false (λK=>B.pv (V.bin .lss f g) λv=>K v h) λi h=>B.pick a (.bool true) i λj=>Q j h
@[simp] def zdd.cps(a b:za)(h:zb)(Q:zQ):Prop:=zdd.k1 C N Q a b h
def zdd.Imp:Prop:=im2 C (N 377) (zdd.cps C N)
@[simp] def zdg.cps(C:z5)(N:zN)(a:za)(h:zb)(Q:zQ):Prop:=B.pv (V.bin .neq a a) λb=>Q b h
def zdg.Imp:Prop:=im1 C (N 389) (zdg.cps C N)
@[simp] def zdm.k1(Q:zQ)(c d:za)(h:zb):Prop:=B.call C (N 546) [c] h λb h=>B.gd h b true (λK=>K d h) λk h=>B.gd h b true (λK=>B.call C (N 546) [k] h K) λl h=>B.gd h b true (λK=>B.pv (V.un .not l) λv=>K v h) λe h=>B.pick b e (.bool false) λa=>B.gd h a false (λK=>K c h) λf h=>B.gd h a false (λK=>K d h) λg h=>B.gd h a false (λK=>B.pv (V.bin .lss f g) λv=>K v h) λi h=>B.pick a (.bool true) i λj=>Q j h
@[simp] def zdm.cps(a b:za)(h:zb)(Q:zQ):Prop:=zdm.k1 C N Q a b h
def zdm.Imp:Prop:=im2 C (N 534) (zdm.cps C N)
@[simp] def zdq.cps(C:z5)(N:zN)(a:za)(h:zb)(Q:zQ):Prop:=B.pv (V.bin .neq a a) λb=>Q b h
def zdq.Imp:Prop:=im1 C (N 546) (zdq.cps C N)
variable{C:z5}{N:zN}
theorem take_succ{α:Type}{L:List α}{i:Nat}{w:α}(h:L[i]?=some w):L.take (i+1)=L.take i++[w]:=by
 rw[take_add_one,h];rfl
theorem get_map{α β:Type}{f:α->β}{L:List α}{i:Nat}{w:α}(h:L[i]?=some w):(L.map f)[i]?=some (f w):=by simp[h]
theorem inc64{n:Nat}(h:n<4611686018427387904):IntKind.i64.wrap ((n:Int)+1)=((n+1:Nat):Int):=by rw[wrap_i64 (by omega) (by omega)];omega
theorem zfv{α:Type}{L:List α}{k:Nat}(h:k<L.length):∃w,L[k]?=some w:=⟨L[k],by simp[h]⟩
structure Flat(T:Type)[DecidableEq T] where
 cs:T->List za
 es:Nat
 sh:List Ck
 len:∀t,(cs t).length=es
 pos:0<es
 eq:∀a b,V.zfw sh (cs a) (cs b)=some (decide (a=b))
section
variable{T:Type}[DecidableEq T](F:Flat T)
end
variable{C:z5}{N:zN}
structure zbc where
 es:Nat
 bytes:Nat
 z:List za
 f:Nat
 kp:Option Nat
 ld:zb->za->(za->Prop)->Prop
 st:zb->za->za->(zb->Prop)->Prop
 eq:zb->za->za->(zQ)->Prop
section
variable(E:zbc)
def zdh(bytes:Nat)(z:za)(f:Nat):zbc where
 es:=1;bytes:=bytes;z:=[z];f:=f;kp:=none
 ld:=λh p K=>B.ld h p K
 st:=λh p v K=>B.st h p v K
 eq:=λh a b K=>B.pv (V.bin .eql a b) λv=>K v h
end
variable{C:z5}{N:zN}
def aoff:za->Nat | .sl _ _ off _ _ _=>off|_=>0
structure Old(h:zb)(es:Nat)(x:za)(L:List (List za))(y:za)(M:List (List za)):Prop where
 at_:SlX h es x L []
 ft:zhy x=none \/ (zhy x=zhy y /\ aoff x=aoff y)
 len:L.length <= M.length
section
variable{h H h0:zb}{es:Nat}{x:za}{L R:List (List za)}
end
section
variable{h0 h h':zb}{l:List Ob}
end
def Kp(h:zb)(p:za)(o:Option Nat):Prop:=match o with|none=>∃x,A.ldv h p=some x|some n=>∃x,A.zl7 h p n=some x
section
variable{es n k:Nat}{xs:Nat->za}{D R:Nat->List (List za)}
end
variable{C:z5}{N:zN}
section
variable{m:Int->Int->List za}{k n i:Nat}
end
section
variable{h:zb}{x:za}{n k:Nat}{xs:Nat->za}{W:List (List za)}(hx:SlX h 1 x (zrr n λj=>[xs j]) W)
include hx
end
section
variable{E:zbc}{m:Int->Int->List za}{v:Int->Int->za}{h0 h h':zb}{x v5:za}{n k:Nat}{xs ys gs:Nat->za}{len:Nat->Nat}{F:Nat->List (List za)}{W:List (List za)}{Q:zQ}
end
variable{C:z5}{N:zN}
structure Scal(T:Type)[DecidableEq T] where
 c:T->za
 cell:∀t,(c t).zec=true
 eql:∀a b,V.bin .eql (c a) (c b)=some (.bool (decide (a=b)))
 neq:∀a b,V.bin .neq (c a) (c b)=some (.bool (!decide (a=b)))
theorem SlX.cell{h:zb}{x c:za}{L R:List (List za)}{i:Nat}(hs:SlX h 1 x L R)(hc:L[i]?=some [c]):A.ldv h (elp 1 x i 0)=some c:=by
 rw[hs.ldv hc (by omega)];rfl
section
variable{T:Type}[DecidableEq T](F:Scal T)
abbrev Scal.cs(t:T):List za:=[F.c t]
@[simp] def znm.k2(Q:zQ)(Y1:zL)(v0 v1 v5:za)(h:zb):Prop:=B.pv (V.zde v0) λv13=>B.pv (V.bin .lss v5 v13) λv14=>B.cond v14 (B.pv (V.zda 1 v0 v5) λv19=>B.ld h v19 λv20=>B.pv (V.zda 1 v1 v5) λv23=>B.ld h v23 λv24=>B.pv (V.bin .neq v20 v24) λv25=>B.cond v25 (Q (.bool false) h) (B.pv (V.bin .add v5 (.int .i64 1)) λv16=>Y1 [v16] h)) (Q (.bool true) h)
@[simp] def znm.l4(Q:zQ)(v0 v1:za):zG|[v5],h,Y1=>znm.k2 Q Y1 v0 v1 v5 h|_,_,_=>False
def znm(v0 v1:za)(h:zb)(Q:zQ):Prop:=B.pv (V.zde v0) λv7=>B.pv (V.zde v1) λv9=>B.pv (V.bin .neq v7 v9) λv10=>B.cond v10 (Q (.bool false) h) (z0 (znm.l4 Q v0 v1) [(.int .i64 0)] h)
theorem zr2{x y:za}{L M:List T}{R S:List (List za)}{h:zb}{Q:zQ}(hx:SlX h 1 x (L.map F.cs) R)(hy:SlX h 1 y (M.map F.cs) S)(hlen:L.length<4611686018427387904)
  (hq:Q (.bool (decide (L=M))) h):znm x y h Q:=by
 have hlx:=hx.zde;have hly:=hy.zde;rw[length_map]at hlx hly;simp -dsimp[znm,hlx,hly];refine B.zbe (λhb=>?_) (λhb=>?_)<;>simp -dsimp at hb ⊢
 ·rw[decide_eq_false λe=>hb (by rw[e])]at hq
  exact hq
 ·refine z0.intro (λn vs hh=>∃k,k+n=L.length /\ vs=[.int .i64 k] /\ hh=h /\ L.take k=M.take k) L.length ?_ ⟨0,by simp,by simp,rfl,by simp⟩
  rintro Y n vs _ ⟨k,hn,rfl,rfl,he⟩ hY;simp -dsimp[hlx];refine B.zbe (λhc=>?_) (λhc=>?_)<;>simp -dsimp at hc ⊢
  ·obtain⟨w,hw⟩:=zfv hc
   obtain⟨u,hu⟩:=zfv (L:=M) (k:=k) (by omega);have hk:k<(L.map F.cs).length:=by simpa using hc
   have hk2:k<(M.map F.cs).length:=by simp;omega
   simp only[hx.zmq hk,hy.zmq hk2,hx.cell (get_map hw),hy.cell (get_map hu),B.ze,B.zeh,F.neq];refine B.zbe (λhd=>?_) (λhd=>?_)<;>simp -dsimp at hd ⊢
   ·rw[decide_eq_false λe=>by subst e;rw[hw]at hu;cases hu;exact hd rfl]at hq
    exact hq
   ·simp[inc64 (n:=k) (by omega)]
    refine hY (L.length-(k+1)) _ _ (by omega) ⟨k+1,by omega,by simp,rfl,?_⟩;rw[take_succ hw,take_succ hu,he,hd]
  ·rw[take_of_length_le (by omega),take_of_length_le (by omega)]at he
   rw[decide_eq_true he]at hq;exact hq
def zgl(mk:Int->T)(n:Nat):List (List za):=(List.range n).map fun(i:Nat)=>F.cs (mk (i:Int))
@[simp] theorem cmarks_len(mk:Int->T)(n:Nat):(zgl F mk n).length=n:=by simp[zgl]
theorem cmarks_get(mk:Int->T){n k:Nat}(hk:k<n):(zgl F mk n)[k]?=some (F.cs (mk k)):=by simp[zgl,hk]
theorem cmarks_succ(mk:Int->T)(n:Nat):zgl F mk (n+1)=zgl F mk n++[F.cs (mk n)]:=by simp[zgl,range_succ]
@[simp] def zps.k2(C:z5)(bytes f:Nat)(z:za)(m:Int)(Q:zQ)(Y1:zL)(v0 v3 v4:za)(h:zb):Prop:=B.pv (V.bin .lss v4 (.int .i64 12)) λv13=>B.cond v13 (B.call C f [(.int .i64 m),v4] h λv18 h=>B.zf2 h (zee [(0,none,v18)] (zf7 1 [z])) λi19 h=>B.zim h 1 bytes v3 (.sl i19 0 0 1 1 1) λv20 h=>B.pv (V.bin .add v4 (.int .i64 1)) λv15=>Y1 [v20,v15] h) (B.pv (V.zde v0) λv23=>B.pv (V.zh9 1 v3 none (some v23)) λv24=>Q v24 h)
@[simp] def zps.l4(C:z5)(bytes f:Nat)(z:za)(m:Int)(Q:zQ)(v0:za):zG|[v3,v4],h,Y1=>zps.k2 C bytes f z m Q Y1 v0 v3 v4 h|_,_,_=>False
def zps(C:z5)(bytes f:Nat)(z:za)(m:Int)(v0:za)(h:zb)(Q:zQ):Prop:=B.pv (V.zde v0) λv6=>B.pv (V.bin .add v6 (.int .i64 12)) λv7=>0<1 /\ B.mks h bytes (some [z]) (.int .i64 0) v7 λv8 h=>B.zim h 1 bytes v8 v0 λv11 h=>z0 (zps.l4 C bytes f z m Q v0) [v11,(.int .i64 0)] h
theorem lentS_specL{bytes f:Nat}{z:za}{m:Int}{mk:Int->T}(s1:∀(i:Int)(h:zb)(Q:zQ),Q (F.c (mk i)) h->C f [.int .i64 m,.int .i64 i] h Q)
  {x:za} {L:List T} {R:List (List za)} {h:zb} {Q:zQ} (hx:SlX h 1 x (L.map F.cs) R) (hlen:L.length <= 4611686018427387000) (hbm:(L.length+12)*bytes <= 140737488355328)
  (hq:∀x' h',zc6 h h' [.sl 1 x' (L.map F.cs) (zgl F mk 12)]->Q x' h'):zps C bytes f z m x h Q:=by
 have hlx:=hx.zde;rw[length_map]at hlx;have hmul:∀n:Nat,n <= L.length+12->n*bytes <= 140737488355328:=λn hn=>Nat.le_trans (Nat.mul_le_mul_right bytes hn) hbm;have e1:IntKind.i64.wrap ((L.length:Int)+12)=(L.length:Int)+12:=wrap_i64 (by omega) (by omega);simp -dsimp[zps,hlx,e1];refine(zc6.start h).mks (es:=1) rfl (by omega) (by omega) ?_ (by omega) λy h1 ho=>?_
 ·have:=hmul (L.length+12) (by omega)
  have e:((L.length:Int)+12)*bytes=((L.length+12)*bytes:Nat):=by simp
  rw[e];omega
 refine ho.zim 0 rfl (hx.mono ho.le) Nat.one_pos (by simpa using hmul L.length (by omega)) (by simp[maxLen];omega) λy2 h2 ho2 _=>?_;refine z0.intro (λn vs hh=>∃k y,k+n=12 /\ vs=[y,.int .i64 k] /\ zc6 h hh [.sl 1 y (L.map F.cs++zgl F mk k) []]) 12 ?_ ⟨0,y2,by simp,by simp,by simpa[zgl]using ho2⟩;rintro Y n vs hh ⟨k,y3,hn,rfl,ho3⟩ hY;simp -dsimp[hlx];refine B.zbe (λhc=>?_) (λhc=>?_)<;>simp -dsimp at hc ⊢
 ·refine s1 _ _ _ ?_
  have hfill:zee [(0,none,F.c (mk k))] (zf7 1 [z])=some (F.cs (mk k)):=by
   simp[F.cell,zf7]
  rw[hfill];refine ho3.push 0 rfl rfl Nat.one_pos (by simp;have:=hmul (L.length+k+1) (by omega);omega) (by simp[maxLen];omega) λz' h4 ho4 _=>?_;simp[inc64 (n:=k) (by omega)];refine hY (12-(k+1)) _ _ (by omega) ⟨k+1,z',by omega,by simp,?_⟩;rw[cmarks_succ,<-append_assoc];exact ho4
 ·have:k=12:=by omega
  subst this;obtain⟨x',e2,e3,e4⟩:=(ho3.zj4 0 rfl).slice Nat.one_pos (lo:=0) (hi:=L.length) (a:=none) (b:=some (.int .i64 L.length)) (.inl ⟨rfl,rfl⟩) (.inr ⟨_,rfl⟩) (by omega) (by simp);simp -dsimp[hlx,e2];refine hq _ _ (ho3.zhe 0 rfl (o':= .sl 1 x' (L.map F.cs) (zgl F mk 12)) ?_ (λid b hf hb=>ho3.ownAt 0 rfl id b (by show zhy y3=some id;rw[<-e4];exact hf) hb) (λj b hb _=>hb) (.inl e4));have h1:((L.map F.cs++zgl F mk 12++[]).take L.length).drop 0=L.map F.cs:=by simp[take_append_of_le_length]
  have h2:(L.map F.cs++zgl F mk 12++[]).drop L.length=zgl F mk 12:=by simp[drop_append_of_le_length]
  rw[h1,h2]at e3;exact e3
theorem lentS_spec{bytes f:Nat}{z:za}{m:Int}{mk:Int->T}(hbm:bytes <= 1000)(s1:∀(i:Int)(h:zb)(Q:zQ),Q (F.c (mk i)) h->C f [.int .i64 m,.int .i64 i] h Q)
  {x:za} {L:List T} {R:List (List za)} {h:zb} {Q:zQ} (hx:SlX h 1 x (L.map F.cs) R) (hlen:L.length <= 100000000)
  (hq:∀x' h',zc6 h h' [.sl 1 x' (L.map F.cs) (zgl F mk 12)]->Q x' h'):zps C bytes f z m x h Q:=
 lentS_specL F s1 hx (by omega) (by have:=Nat.mul_le_mul (show L.length+12 <= 100000100 by omega) hbm;omega) hq
@[simp] def zqy.k2(C:z5)(f:Nat)(m:Int)(Q:zQ)(Y1:zL)(v1 v5 v6:za)(h:zb):Prop:=B.pv (V.zde v5) λv19=>B.pv (V.bin .lss v6 v19) λv20=>B.cond v20 (B.pv (V.zde v1) λv25=>B.pv (V.bin .lss v6 v25) λv26=>B.gd h v26 true (λK=>K v5 h) λv28 h=>B.gd h v26 true (λK=>K v6 h) λv29 h=>B.gd h v26 true (λK=>B.pv (V.zda 1 v28 v29) λv=>K v h) λv30 h=>B.gd h v26 true (λK=>B.ld h v30 λv=>K v h) λv31 h=>B.gd h v26 true (λK=>K v1 h) λv32 h=>B.gd h v26 true (λK=>K v6 h) λv33 h=>B.gd h v26 true (λK=>B.pv (V.zda 1 v32 v33) λv=>K v h) λv34 h=>B.gd h v26 true (λK=>B.ld h v34 λv=>K v h) λv35 h=>B.gd h v26 true (λK=>B.pv (V.bin .eql v31 v35) λv=>K v h) λv36 h=>B.gd h v26 true (λK=>B.pv (V.un .not v36) λv=>K v h) λv37 h=>B.pick v26 v37 (.bool false) λv38=>B.gd h v38 false (λK=>K v6 h) λv40 h=>B.gd h v38 false (λK=>K v1 h) λv41 h=>B.gd h v38 false (λK=>B.pv (V.zde v41) λv=>K v h) λv42 h=>B.gd h v38 false (λK=>B.pv (V.bin .geq v40 v42) λv=>K v h) λv43 h=>B.gd h v38 false (λK=>K v43 h) λv44 h=>B.gd h v44 true (λK=>K v5 h) λv45 h=>B.gd h v44 true (λK=>K v6 h) λv46 h=>B.gd h v44 true (λK=>B.pv (V.zda 1 v45 v46) λv=>K v h) λv47 h=>B.gd h v44 true (λK=>B.ld h v47 λv=>K v h) λv48 h=>B.gd h v44 true (λK=>K v6 h) λv49 h=>B.gd h v44 true (λK=>K v1 h) λv50 h=>B.gd h v44 true (λK=>B.pv (V.zde v50) λv=>K v h) λv51 h=>B.gd h v44 true (λK=>B.pv (V.bin .sub v49 v51) λv=>K v h) λv52 h=>B.gd h v44 true (λK=>B.call C f [(.int .i64 m),v52] h (B.keepS h [(v47,none)] K)) λv53 h=>B.gd h v44 true (λK=>B.pv (V.bin .eql v48 v53) λv=>K v h) λv54 h=>B.gd h v44 true (λK=>B.pv (V.un .not v54) λv=>K v h) λv55 h=>B.gd h v38 false (λK=>B.pick v44 v55 (.bool false) λv=>K v h) λv56 h=>B.pick v38 (.bool true) v56 λv57=>B.cond v57 (Q (.bool false) h) (B.pv (V.bin .add v6 (.int .i64 1)) λv22=>Y1 [v22] h)) (Q (.bool true) h)
@[simp] def zqy.l4(C:z5)(f:Nat)(m:Int)(Q:zQ)(v1 v5:za):zG|[v6],h,Y1=>zqy.k2 C f m Q Y1 v1 v5 v6 h|_,_,_=>False
def zqy(C:z5)(f:Nat)(m:Int)(v0 v1:za)(h:zb)(Q:zQ):Prop:=B.pv (V.zde v0) λv8=>B.pv (V.zde v1) λv10=>B.pv (V.bin .neq v8 v10) λv11=>B.cond v11 (Q (.bool false) h) (B.pv (V.zde v1) λv14=>B.pv (V.bin .add v14 (.int .i64 12)) λv15=>B.pv (V.zh9 1 v0 none (some v15)) λv16=>z0 (zqy.l4 C f m Q v1 v16) [(.int .i64 0)] h)
theorem keptS_specL{f:Nat}{m:Int}{mk:Int->T}(s1:∀(i:Int)(h:zb)(Q:zQ),Q (F.c (mk i)) h->C f [.int .i64 m,.int .i64 i] h Q)
  {x y:za} {L M:List T} {R:List (List za)} {h:zb} {Q:zQ} (hx:SlX h 1 x (L.map F.cs) (zgl F mk 12)) (hy:SlX h 1 y (M.map F.cs) R) (hlen:L.length <= 4611686018427387000)
  (hq:Q (.bool (decide (L=M))) h):zqy C f m x y h Q:=by
 have hlx:=hx.zde;have hly:=hy.zde;rw[length_map]at hlx hly;simp -dsimp[zqy,hlx,hly];refine B.zbe (λhb=>?_) (λhb=>?_)<;>simp -dsimp at hb ⊢
 ·rw[decide_eq_false λe=>hb (by rw[e])]at hq
  exact hq
 ·have e1:IntKind.i64.wrap ((M.length:Int)+12)=((M.length+12:Nat):Int):=by rw[wrap_i64 (by omega) (by omega)];omega
  obtain⟨z,e2,e3,e4⟩:=hx.slice Nat.one_pos (lo:=0) (hi:=M.length+12) (a:=none) (b:=some (.int .i64 ((M.length+12:Nat):Int))) (.inl ⟨rfl,rfl⟩) (.inr ⟨_,rfl⟩) (by omega) (by simp;omega);have h1:((L.map F.cs++zgl F mk 12).take (M.length+12)).drop 0=L.map F.cs++zgl F mk 12:=by rw[drop_zero,take_of_length_le];simp;omega
  rw[h1]at e3;have hlz:=e3.zde;simp only[length_append,length_map,cmarks_len]at hlz;simp only[hly,V.zia,e1,e2,B.ze];refine z0.intro (λn vs hh=>∃k,k+n=L.length+12 /\ vs=[.int .i64 k] /\ hh=h /\ L.take k=M.take k) (L.length+12) ?_ ⟨0,by simp,by simp,rfl,by simp⟩;rintro Y n vs _ ⟨k,hn,rfl,rfl,he⟩ hY;simp -dsimp[hlz];refine B.zbe (λhc=>?_) (λhc=>?_)<;>simp -dsimp at hc ⊢
  ·have hk:k<(L.map F.cs++zgl F mk 12).length:=by simp;omega
   by_cases hkL:k<L.length
   ·have ew:=zfv hkL
    have eu:=zfv (L:=M) (k:=k) (by omega);obtain⟨w,hw⟩:=ew;obtain⟨u,hu⟩:=eu;have hk2:k<(M.map F.cs).length:=by simp;omega
    have hkM:k<M.length:=by omega
    have hwz:(L.map F.cs++zgl F mk 12)[k]?=some (F.cs w):=by rw[getElem?_append_left (by simpa using hkL)];exact get_map hw
    by_cases hwu:w=u
    ·subst hwu
     simp -dsimp[hly,hkM,e3.zmq hk,hy.zmq hk2,e3.cell hwz,hy.cell (get_map hu),F.eql,show ¬ M.length <= k by omega,inc64 (n:=k) (by omega)];refine hY (L.length+12-(k+1)) _ _ (by omega) ⟨k+1,by omega,by simp,rfl,?_⟩;rw[take_succ hw,take_succ hu,he]
    ·simp -dsimp[hly,hkM,e3.zmq hk,hy.zmq hk2,e3.cell hwz,hy.cell (get_map hu),F.eql,hwu]
     rw[decide_eq_false λe=>by subst e;rw[hw]at hu;cases hu;exact hwu rfl]at hq;exact hq
   ·have hkM:¬ k<M.length:=by omega
    have hmk:(L.map F.cs++zgl F mk 12)[k]?=some (F.cs (mk ((k-M.length:Nat):Int))):=by
     rw[getElem?_append_right (by simp;omega),length_map,show k-L.length=k-M.length by omega];exact cmarks_get F mk (by omega)
    have e5:IntKind.i64.wrap ((k:Int)-M.length)=((k-M.length:Nat):Int):=by rw[wrap_i64 (by omega) (by omega)];omega
    simp -dsimp[hly,hkM,e3.zmq hk,e3.cell hmk,show M.length <= k by omega,e5];refine s1 _ _ _ ⟨?_,?_⟩
    ·intro p hp
     rw[mem_singleton.1 hp];exact⟨_,e3.cell hmk,e3.cell hmk⟩
    ·simp[F.eql,inc64 (n:=k) (by omega)]
     refine hY (L.length+12-(k+1)) _ _ (by omega) ⟨k+1,by omega,by simp,rfl,?_⟩;rw[take_of_length_le (by omega),take_of_length_le (by omega)]at he ⊢;exact he
  ·rw[take_of_length_le (by omega),take_of_length_le (by omega)]at he
   rw[decide_eq_true he]at hq;exact hq
theorem keptS_spec{f:Nat}{m:Int}{mk:Int->T}(s1:∀(i:Int)(h:zb)(Q:zQ),Q (F.c (mk i)) h->C f [.int .i64 m,.int .i64 i] h Q){x y:za}{L M:List T}{R:List (List za)}{h:zb}{Q:zQ}(hx:SlX h 1 x (L.map F.cs) (zgl F mk 12))(hy:SlX h 1 y (M.map F.cs) R)(hlen:L.length <= 100000000)(hq:Q (.bool (decide (L=M))) h):zqy C f m x y h Q:=keptS_specL F s1 hx hy (by omega) hq
end
@[simp] def zqq.k1(C:z5)(es f:Nat)(st:zb->za->za->(zb->Prop)->Prop)(m:Int)(Q:zQ)(Y1:zL)(v2 v3:za)(h:zb):Prop:=B.pv (V.zde v2) λv11=>B.pv (V.bin .lss v3 v11) λv12=>B.cond v12 (B.call C f [(.int .i64 m),v3] h λv18 h=>B.pv (V.zda es v2 v3) λv19=>st h v19 v18 λh=>B.pv (V.bin .add v3 (.int .i64 1)) λv14=>Y1 [v14] h) (Q (.tup []) h)
@[simp] def zqq.l3(C:z5)(es f:Nat)(st:zb->za->za->(zb->Prop)->Prop)(m:Int)(Q:zQ)(v2:za):zG|[v3],h,Y1=>zqq.k1 C es f st m Q Y1 v2 v3 h|_,_,_=>False
def zqq(C:z5)(es f:Nat)(st:zb->za->za->(zb->Prop)->Prop)(m:Int)(v0:za)(h:zb)(Q:zQ):Prop:=B.pv (V.zde v0) λv6=>B.pv (V.bin .add v6 (.int .i64 12)) λv7=>B.pv (V.zh9 es v0 none (some v7)) λv8=>z0 (zqq.l3 C es f st m Q v8) [(.int .i64 0)] h
theorem overG_specL{es f:Nat}{st:zb->za->za->(zb->Prop)->Prop}{m:Int}(hes:0<es){v:Int->za}(s1:∀(i:Int)(h:zb)(Q:zQ),Q (v i) h->C f [.int .i64 m,.int .i64 i] h Q)
  (s2:∀{h0 h:zb}{x:za}{L R:List (List za)}{i:Nat}{k:Int}{K:zb->Prop},zc6 h0 h [.sl es x L R]->i<L.length->(∀h' L',L'.length=L.length->zc6 h0 h' [.sl es x L' R]->K h')->st h (elp es x i 0) (v k) K)
  {h0 h:zb} {x:za} {L R:List (List za)} {Q:zQ} (ho:zc6 h0 h [.sl es x L R]) (hR:R.length=12) (hlen:L.length <= 4611686018427387000) (hq:∀h',h0.le h'->Q (.tup []) h'):zqq C es f st m x h Q:=by
 have hx:=ho.zj4 0 rfl;have hlx:=hx.zde;have e1:IntKind.i64.wrap ((L.length:Int)+12)=((L.length+12:Nat):Int):=by rw[wrap_i64 (by omega) (by omega)];omega
 obtain⟨z,e2,e3,e4⟩:=hx.slice hes (lo:=0) (hi:=L.length+12) (a:=none) (b:=some (.int .i64 ((L.length+12:Nat):Int))) (.inl ⟨rfl,rfl⟩) (.inr ⟨_,rfl⟩) (by omega) (by omega);have h1:((L++R).take (L.length+12)).drop 0=L++R:=by rw[drop_zero,take_of_length_le];simp;omega
 rw[h1]at e3;simp only[zqq,hlx,V.zia,e1,e2,B.ze];have hoz:zc6 h0 h [.sl es z (L++R) ((L++R).drop (L.length+12))]:=ho.zhe 0 rfl (o':= .sl es z (L++R) ((L++R).drop (L.length+12))) e3 (λid b hf hb=>ho.ownAt 0 rfl id b (by show zhy x=some id;rw[<-e4];exact hf) hb) (λj b hb _=>hb) (.inl e4);refine z0.intro (λn vs hh=>∃(k:Nat)(L':List (List za)),k+n=L.length+12 /\ vs=[.int .i64 k] /\ L'.length=L.length+12 /\ zc6 h0 hh [.sl es z L' ((L++R).drop (L.length+12))]) (L.length+12) ?_ ⟨0,L++R,by simp,by simp,by simp[hR],hoz⟩;rintro Y n vs hh ⟨k,L',hn,rfl,hl',ho'⟩ hY;have hlz:=(ho'.zj4 0 rfl).zde;rw[hl']at hlz;simp -dsimp[hlz];refine B.zbe (λhc=>?_) (λhc=>?_)<;>simp -dsimp at hc ⊢
 ·have hk:k<L'.length:=by omega
  refine s1 _ _ _ ?_;simp -dsimp only[(ho'.zj4 0 rfl).zmq hk,B.ze];refine s2 ho' hk λh' L2 hl2 ho2=>?_;simp -dsimp[inc64 (n:=k) (by omega)];exact hY (L.length+12-(k+1)) _ _ (by omega) ⟨k+1,L2,by omega,by simp,by omega,ho2⟩
 ·exact hq _ ho'.le
theorem overG_spec{es f:Nat}{st:zb->za->za->(zb->Prop)->Prop}{m:Int}(hes:0<es){v:Int->za}(s1:∀(i:Int)(h:zb)(Q:zQ),Q (v i) h->C f [.int .i64 m,.int .i64 i] h Q)(s2:∀{h0 h:zb}{x:za}{L R:List (List za)}{i:Nat}{k:Int}{K:zb->Prop},zc6 h0 h [.sl es x L R]->i<L.length->(∀h' L',L'.length=L.length->zc6 h0 h' [.sl es x L' R]->K h')->st h (elp es x i 0) (v k) K){h0 h:zb}{x:za}{L R:List (List za)}{Q:zQ}(ho:zc6 h0 h [.sl es x L R])(hR:R.length=12)(hlen:L.length <= 100000000)(hq:∀h',h0.le h'->Q (.tup []) h'):zqq C es f st m x h Q:=overG_specL hes s1 s2 ho hR (by omega) hq
theorem over_stS{v:za}(hv:v.zec=true){h0 h:zb}{x:za}{L R:List (List za)}{i:Nat}{K:zb->Prop}(ho:zc6 h0 h [.sl 1 x L R])(hi:i<L.length)(hK:∀h' L',L'.length=L.length->zc6 h0 h' [.sl 1 x L' R]->K h'):B.st h (elp 1 x i 0) v K:=by
 refine ho.st 0 rfl (c:=L[i]) (by simp[hi]) (by omega) hv λh' ho' _=>hK h' _ (by simp) ho'
def zb.zlf(h:zb)(l:List Ob):zb:=⟨λi=>bif l.any (λo=>o.zhy==some i) then none else h i,by
 obtain⟨n,k⟩:=h.2
 refine⟨n,λi hi=>?_⟩
 show (bif l.any (λo=>o.zhy==some i) then none else h i)=none
 cases l.any (λo=>o.zhy==some i)
 ·exact k i hi
 ·rfl⟩
theorem zrw{h:zb}{l:List Ob}{i:Nat}{o:Ob}(hm:o∈l)(hf:o.zhy=some i):h.zlf l i=none:=by
 have:(l.any λo=>o.zhy==some i)=true:=any_eq_true.2 ⟨o,hm,by simp[hf]⟩;show (bif l.any (λo=>o.zhy==some i) then none else h i)=none;rw[this];rfl
theorem zmx{h:zb}{l:List Ob}{i:Nat}(hm:∀o∈l,o.zhy≠some i):h.zlf l i=h i:=by
 have:(l.any λo=>o.zhy==some i)=false:=by
  rw[<-Bool.not_eq_true,any_eq_true];rintro⟨o,h1,h2⟩;exact hm o h1 (by simpa using h2)
 show (bif l.any (λo=>o.zhy==some i) then none else h i)=_;rw[this];rfl
theorem without_le(h:zb)(l:List Ob):(h.zlf l).le h:=λi b e=>by
 by_cases hm:∃o∈l,o.zhy=some i
 ·obtain⟨o,h1,h2⟩:=hm
  rw[zrw h1 h2]at e;cases e
 ·rw[zmx λo h1 h2=>hm ⟨o,h1,h2⟩]at e;exact e
theorem zc6.out{h0 h:zb}{l1 l2:List Ob}(ho:zc6 h0 h (l1++l2)):zc6 h0 (h.zlf l2) l1 /\ zc6 (h.zlf l2) h l2:=by
 obtain⟨a1,a2,a3⟩:=pairwise_append.1 ho.apart;have h1:h0.le (h.zlf l2):=λi b e=>by
  rw[zmx λo hm hf=>by rw[(ho.own o (mem_append_right _ hm) i hf).1]at e;cases e];exact ho.le i b e
 have zj0:∀o∈l1,∀id,o.zhy=some id->(h.zlf l2) id=h id:=λo hm id hf=>zmx λo2 hm2 hf2=>a3 o hm o2 hm2 id hf hf2
 refine⟨⟨h1,λo hm=>(ho.is o (mem_append_left _ hm)).zj0 λid b hf hb=>by rw[zj0 o hm id hf];exact hb,λo hm id hf=>?_,a1⟩,
  ⟨without_le h l2,λo hm=>ho.is o (mem_append_right _ hm),λo hm id hf=>⟨zrw hm hf,(ho.own o (mem_append_right _ hm) id hf).2⟩,a2⟩⟩
 obtain⟨b1,b2⟩:=ho.own o (mem_append_left _ hm) id hf;exact⟨b1,λb hb=>b2 b (by rw[<-zj0 o hm id hf];exact hb)⟩
theorem zc6.perm{h0 h:zb}{l l':List Ob}(ho:zc6 h0 h l)(hp:l.Perm l'):zc6 h0 h l':=⟨ho.le,λo hm=>ho.is o (hp.mem_iff.2 hm),λo hm=>ho.own o (hp.mem_iff.2 hm),(hp.pairwise_iff λ{a b} hab id hb ha=>hab id ha hb).1 ho.apart⟩
@[simp] def zdw.k1(C:z5)(N:zN)(Q:zQ)(a b:za)(h:zb):Prop:=B.pv (V.toInt .u8 a) λm=>B.pv (V.bin .shr a (.int .u64 8)) λn=>B.pv (V.toInt .u8 n) λo=>B.pv (V.bin .shr a (.int .u64 16)) λc=>B.pv (V.toInt .u8 c) λd=>B.pv (V.toInt .u8 b) λe=>B.pv (V.bin .shr b (.int .u64 8)) λf=>B.pv (V.toInt .u8 f) λg=>B.pv (V.bin .shr b (.int .u64 16)) λi=>B.pv (V.toInt .u8 i) λj=>B.zf2 h (zee [(0,none,(.int .u8 35)),(1,none,m),(2,none,o),(3,none,d),(4,none,(.int .u8 47)),(5,none,e),(6,none,g),(7,none,j)] (zf7 8 [.int .u8 0])) λk h=>B.ze0 h (.sl k 0 0 8 1 8) λl=>Q l h
variable(C:z5)(N:Nat→Nat)
@[simp] def zdw.cps(a b:za)(h:zb)(Q:zQ):Prop:=zdw.k1 C N Q a b h
def zdw.Imp:Prop:=im2 C (N 106) (zdw.cps C N)
@[simp] def zdk.k3(C:z5)(N:zN)(Q:zQ)(a b:za)(h:zb):Prop:=B.pv (V.zde a) λd=>B.pv (V.zde b) λe=>B.pv (V.bin .neq d e) λc=>B.cond c (Q (.bool false) h) (z0 (znm.l4  Q a b) [(.int .i64 0)] h)
def zdk.cps(a b:za)(h:zb)(Q:zQ):Prop:=zdk.k3 C N Q a b h
def zdk.Imp:Prop:=im2 C (N 133) (zdk.cps C N)
@[simp] def zfg.k1(C:z5)(N:zN)(Q:zQ)(e a:za)(h:zb):Prop:=B.pv (V.bin .lss a (.int .i64 1)) λf=>B.cond f (Q (.int .i64 0) h) (B.pv (V.bin .rem e a) λb=>B.pv (V.bin .lss b (.int .i64 0)) λc=>B.cond c (B.pv (V.bin .add b a) λd=>Q d h) (Q b h))
@[simp] def zfg.cps(a b:za)(h:zb)(Q:zQ):Prop:=zfg.k1 C N Q a b h
def zfg.Imp:Prop:=im2 C (N 155) (zfg.cps C N)
@[simp] def zds.k3(Q:zQ)(a:za)(h:zb):Prop:=B.pv (V.zde a) λc=>B.pv (V.bin .add c (.int .i64 12)) λd=>0<1 /\ B.mks h 16 (some [.str []]) (.int .i64 0) d λe h=>B.zim h 1 16 e a λb h=>z0 (zps.l4 C 16 (N 106) (.str []) 1 Q a) [b,(.int .i64 0)] h
def zds.cps(a:za)(h:zb)(Q:zQ):Prop:=zds.k3 C N Q a h
def zds.Imp:Prop:=im1 C (N 406) (zds.cps C N)
@[simp] def zdc.k3(Q:zQ)(e a:za)(h:zb):Prop:=B.pv (V.zde a) λb=>B.pv (V.bin .add b (.int .i64 12)) λc=>B.pv (V.zh9 1 e none (some c)) λd=>z0 (zqy.l4 C (N 106) 1 Q a d) [(.int .i64 0)] h
@[simp] def zdc.k4(Q:zQ)(a b:za)(h:zb):Prop:=B.pv (V.zde a) λe=>B.pv (V.zde b) λc=>B.pv (V.bin .neq e c) λd=>B.cond d (Q (.bool false) h) (zdc.k3 C N Q a b h)
def zdc.cps(a b:za)(h:zb)(Q:zQ):Prop:=zdc.k4 C N Q a b h
def zdc.Imp:Prop:=im2 C (N 407) (zdc.cps C N)
@[simp] def zdv.k3(Q:zQ)(a:za)(h:zb):Prop:=B.pv (V.zde a) λb=>B.pv (V.bin .add b (.int .i64 12)) λc=>B.pv (V.zh9 1 a none (some c)) λd=>z0 (zqq.l3 C 1 (N 106) (λh p v K=>B.st h p v K) 2 Q d) [(.int .i64 0)] h
def zdv.cps(a:za)(h:zb)(Q:zQ):Prop:=zdv.k3 C N Q a h
def zdv.Imp:Prop:=im1 C (N 409) (zdv.cps C N)
@[simp] def zdl.k3(C:z5)(N:zN)(Q:zQ)(a b:za)(h:zb):Prop:=B.pv (V.zde a) λd=>B.pv (V.zde b) λe=>B.pv (V.bin .neq d e) λc=>B.cond c (Q (.bool false) h) (z0 (znm.l4  Q a b) [(.int .i64 0)] h)
def zdl.cps(a b:za)(h:zb)(Q:zQ):Prop:=zdl.k3 C N Q a b h
def zdl.Imp:Prop:=im2 C (N 499) (zdl.cps C N)
variable(C:z5)(N:Nat→Nat)
@[simp] def zd2.k1(Q:zQ)(h:zb):Prop:=B.call C (N 485) [] h λc h=>B.pv (V.zgk .eql c .zk4) λo=>B.gd h o false (λK=>K c h) λv8 h=>B.gd h o false (λK=>B.zf2 h (zee [(0,none,(.str [65]))] (zf7 1 [.str []])) λi h=>K (.sl i 0 0 1 1 1) h) λv9 h=>B.gd h o false (λK=>B.call C (N 489) [v8,(.int .i64 1),v9] h K) λr h=>B.gd h o false (λK=>B.pv (V.un .not r) λv=>K v h) λs h=>B.pick o (.bool true) s λl=>B.gd h l false (λK=>K c h) λt h=>B.gd h l false (λK=>B.zf2 h (zee [(0,none,(.str [65])),(1,none,(.str [66]))] (zf7 2 [.str []])) λi h=>K (.sl i 0 0 2 1 2) h) λu h=>B.gd h l false (λK=>B.call C (N 489) [t,(.int .i64 2),u] h K) λw h=>B.pick l (.bool true) w λm=>B.gd h m false (λK=>K c h) λx h=>B.gd h m false (λK=>B.zf2 h (zee [(0,none,(.str [66]))] (zf7 1 [.str []])) λi h=>K (.sl i 0 0 1 1 1) h) λy h=>B.gd h m false (λK=>B.call C (N 489) [x,(.int .i64 3),y] h K) λz h=>B.pick m (.bool true) z λb=>B.gd h b false (λK=>K c h) λaa h=>B.gd h b false (λK=>B.call C (N 491) [aa,(.int .i64 3)] h K) λab h=>B.gd h b false (λK=>B.zf2 h (zee [(0,none,(.int .i64 2))] (zf7 1 [.int .i64 0])) λi h=>K (.sl i 0 0 1 1 1) h) λac h=>B.gd h b false (λK=>B.call C (N 499) [ab,ac] h K) λad h=>B.gd h b false (λK=>B.pv (V.un .not ad) λv=>K v h) λae h=>B.pick b (.bool true) ae λaf=>B.cond af (Q (.bool false) h) (B.call C (N 488) [c,(.int .i64 1)] h λbt h=>B.call C (N 485) [] h λa h=>B.zf2 h (zee [(0,none,(.str [65]))] (zf7 1 [.str []])) λag h=>B.call C (N 489) [a,(.int .i64 1),(.sl ag 0 0 1 1 1)] h λn h=>B.gd h n true (λK=>K a h) λah h=>B.gd h n true (λK=>B.zf2 h (zee [(0,none,(.str [66]))] (zf7 1 [.str []])) λi h=>K (.sl i 0 0 1 1 1) h) λai h=>B.gd h n true (λK=>B.call C (N 489) [ah,(.int .i64 2),ai] h K) λaj h=>B.pick n aj (.bool false) λd=>B.gd h d true (λK=>K a h) λak h=>B.gd h d true (λK=>B.zf2 h (zee [(0,none,(.str [66]))] (zf7 1 [.str []])) λi h=>K (.sl i 0 0 1 1 1) h) λal h=>B.gd h d true (λK=>B.call C (N 489) [ak,(.int .i64 1),al] h K) λam h=>B.gd h d true (λK=>B.pv (V.un .not am) λv=>K v h) λan h=>B.pick d an (.bool false) λe=>B.gd h e true (λK=>K a h) λao h=>B.gd h e true (λK=>B.zf2 h (zee [(0,none,(.str [65]))] (zf7 1 [.str []])) λi h=>K (.sl i 0 0 1 1 1) h) λap h=>B.gd h e true (λK=>B.call C (N 489) [ao,(.int .i64 2),ap] h K) λaq h=>B.gd h e true (λK=>B.pv (V.un .not aq) λv=>K v h) λar h=>B.pick e ar (.bool false) λau=>B.zf2 h (zee [(0,none,(.str [66]))] (zf7 1 [.str []])) λav h=>B.call C (N 489) [c,(.int .i64 3),(.sl av 0 0 1 1 1)] h λaw h=>B.pv (V.un .not aw) λp=>B.gd h p true (λK=>K c h) λax h=>B.gd h p true (λK=>B.call C (N 489) [ax,(.int .i64 2),.zed] h K) λay h=>B.pick p ay (.bool false) λf=>B.gd h f true (λK=>K c h) λaz h=>B.gd h f true (λK=>B.call C (N 490) [az,(.int .i64 2)] h K) λba h=>B.gd h f true (λK=>B.zf2 h (zee [(0,none,(.str [65])),(1,none,(.str [66]))] (zf7 2 [.str []])) λi h=>K (.sl i 0 0 2 1 2) h) λbb h=>B.gd h f true (λK=>B.call C (N 133) [ba,bb] h K) λbc h=>B.pick f bc (.bool false) λq=>B.gd h q true (λK=>K au h) λbd h=>B.pick q bd (.bool false) λg=>B.gd h g true (λK=>K a h) λbe h=>B.gd h g true (λK=>B.call C (N 492) [be] h K) λbf h=>B.gd h g true (λK=>B.zf2 h (zee [(0,none,(.int .i64 1)),(1,none,(.int .i64 2))] (zf7 2 [.int .i64 0])) λi h=>K (.sl i 0 0 2 1 2) h) λbg h=>B.gd h g true (λK=>B.call C (N 499) [bf,bg] h K) λbh h=>B.pick g bh (.bool false) λj=>B.gd h j true (λK=>K a h) λbi h=>B.gd h j true (λK=>B.zf2 h (zee [(0,none,(.str [42]))] (zf7 1 [.str []])) λi h=>K (.sl i 0 0 1 1 1) h) λbj h=>B.gd h j true (λK=>B.call C (N 489) [bi,(.int .i64 4),bj] h K) λbk h=>B.gd h j true (λK=>B.pv (V.un .not bk) λv=>K v h) λbl h=>B.pick j bl (.bool false) λk=>B.gd h k true (λK=>K a h) λbm h=>B.gd h k true (λK=>B.call C (N 491) [bm,(.int .i64 4)] h K) λbn h=>B.gd h k true (λK=>B.zf2 h (zee [(0,none,(.int .i64 1)),(1,none,(.int .i64 2))] (zf7 2 [.int .i64 0])) λi h=>K (.sl i 0 0 2 1 2) h) λbo h=>B.gd h k true (λK=>B.call C (N 499) [bn,bo] h K) λbp h=>B.pick k bp (.bool false) λbq=>Q bq h)
@[simp] def zd2.cps(h:zb)(Q:zQ):Prop:=zd2.k1 C N Q h
def zd2.Imp:Prop:=im0 C (N 482) (zd2.cps C N)
@[simp] def zd8.k1(Q:zQ)(d e c:za)(h:zb):Prop:=B.call C (N 490) [d,c] h λu h=>B.call C (N 502) [e,c] h λf h=>B.call C (N 133) [u,f] h λa h=>B.gd h a true (λK=>K d h) λg h=>B.gd h a true (λK=>K c h) λi h=>B.gd h a true (λK=>B.call C (N 491) [g,i] h K) λj h=>B.gd h a true (λK=>K e h) λk h=>B.gd h a true (λK=>K c h) λl h=>B.gd h a true (λK=>B.call C (N 503) [k,l] h K) λm h=>B.gd h a true (λK=>B.call C (N 499) [j,m] h K) λn h=>B.pick a n (.bool false) λb=>B.gd h b true (λK=>K d h) λo h=>B.gd h b true (λK=>B.call C (N 492) [o] h K) λp h=>B.gd h b true (λK=>K e h) λq h=>B.gd h b true (λK=>B.call C (N 504) [q] h K) λr h=>B.gd h b true (λK=>B.call C (N 499) [p,r] h K) λs h=>B.pick b s (.bool false) λt=>Q t h
@[simp] def zd8.cps(a b c:za)(h:zb)(Q:zQ):Prop:=zd8.k1 C N Q a b c h
def zd8.Imp:Prop:=im3 C (N 483) (zd8.cps C N)
@[simp] def zd7.k1(Q:zQ)(d e w:za)(h:zb):Prop:=B.pv (A.boxN 3 w) λa=>B.al a (B.pv (V.zfa 0 a) λf=>B.call C (N 155) [f,(.int .i64 5)] h λg h=>B.pv (V.bin .eql g (.int .i64 0)) λi=>B.cond i (B.al a (B.pv (V.zfa 1 a) λj=>B.call C (N 488) [d,j] h λx h=>B.al a (B.pv (V.zfa 1 a) λk=>B.call C (N 500) [e,k] h λy h=>Q (.bool true) h))) (B.al a (B.pv (V.zfa 2 a) λl=>B.call C (N 406) [l] h λc h=>B.al a (B.pv (V.zfa 1 a) λm=>B.al a (B.pv (V.zfa 1 a) λn=>B.al a (B.pv (V.zfa 2 a) λo=>B.call C (N 489) [d,m,c] h λp h=>B.call C (N 501) [e,n,o] h λq h=>B.pv (V.zpj .eql p q) λb=>B.gd h b true (λK=>K c h) λr h=>B.al a (B.gd h b true (λK=>K .undef h) λ_ h=>B.gd h b true (λK=>B.pv (V.zfa 2 a) λv=>K v h) λs h=>B.gd h b true (λK=>B.call C (N 407) [r,s] h K) λt h=>B.pick b t (.bool false) λu=>B.call C (N 409) [c] h λz h=>Q u h)))))))
@[simp] def zd7.cps(a b c:za)(h:zb)(Q:zQ):Prop:=zd7.k1 C N Q a b c h
def zd7.Imp:Prop:=im3 C (N 484) (zd7.cps C N)
@[simp] def zck.k1(C:z5)(N:zN)(Q:zQ)(Y1:zL)(Y2:zL)(e b c d:za)(h:zb):Prop:=B.pv (V.zda 3 e c) λf=>B.pv (V.fieldAddr 2 f) λg=>B.ld h g λi=>B.pv (V.zde i) λj=>B.pv (V.bin .lss d j) λa=>B.gd h a true (λK=>K b h) λk h=>B.gd h a true (λK=>B.pv (V.bin .leq k (.int .i64 2000)) λv=>K v h) λl h=>B.pick a l (.bool false) λm=>B.cond m (B.pv (V.bin .add b (.int .i64 1)) λn=>B.pv (V.zda 3 e c) λo=>B.pv (V.fieldAddr 2 o) λp=>B.ld h p λq=>B.pv (V.zda 1 q d) λr=>B.ld h r λs=>B.pv (V.zny s) λt=>B.pv (V.bin .quo t (.int .i64 20)) λu=>B.pv (V.bin .add n u) λw=>B.pv (V.bin .add d (.int .i64 1)) λx=>Y2 [w,x] h) (B.pv (V.bin .add c (.int .i64 1)) λy=>Y1 [b,y] h)
@[simp] def zck.l2(Q:zQ)(Y1:zL)(a b:za):zG|[c,d],h,Y2=>zck.k1 C N Q Y1 Y2 a c b d h|_,_,_=>False
@[simp] def zck.k3(Q:zQ)(Y1:zL)(c a d:za)(h:zb):Prop:=B.pv (V.zde c) λj=>B.pv (V.bin .lss d j) λb=>B.gd h b true (λK=>K a h) λe h=>B.gd h b true (λK=>B.pv (V.bin .leq e (.int .i64 2000)) λv=>K v h) λf h=>B.pick b f (.bool false) λg=>B.cond g (z0 (zck.l2 C N Q Y1 c d) [a,(.int .i64 0)] h) (B.pv (V.bin .gtr a (.int .i64 2000)) λi=>Q i h)
@[simp] def zck.l4(Q:zQ)(a:za):zG|[b,c],h,Y1=>zck.k3 C N Q Y1 a b c h|_,_,_=>False
@[simp] def zck.cps(a:za)(h:zb)(Q:zQ):Prop:=z0 (zck.l4 C N Q a) [(.int .i64 0),(.int .i64 0)] h
def zck.Imp:Prop:=im1 C (N 486) (zck.cps C N)
@[simp] def zz.k1(Q:zQ)(Y1:zL)(b m n a:za)(h:zb):Prop:=B.pv (V.zde b) λc=>B.pv (V.bin .lss a c) λd=>B.cond d (B.pv (V.zda 3 b a) λe=>B.pv (V.fieldAddr 1 e) λf=>B.ld h f λg=>B.call C (N 483) [m,n,g] h λi h=>B.pv (V.un .not i) λj=>B.cond j (Q (.bool false) h) (B.pv (V.bin .add a (.int .i64 1)) λk=>Y1 [k] h)) (B.call C (N 482) [] h λl h=>Q l h)
@[simp] def zz.l2(Q:zQ)(a b c:za):zG|[d],h,Y1=>zz.k1 C N Q Y1 a b c d h|_,_,_=>False
@[simp] def zz.k3(Q:zQ)(Y2:zL)(b d e c:za)(h:zb):Prop:=B.pv (V.zde b) λf=>B.pv (V.bin .lss c f) λg=>B.cond g (B.pv (V.zda 3 b c) λi=>B.ldn h i 3 λj=>B.call C (N 484) [d,e,j] h λk h=>B.pv (V.un .not k) λa=>B.gd h a false (λK=>K d h) λl h=>B.gd h a false (λK=>K e h) λm h=>B.gd h a false (λK=>K b h) λn h=>B.gd h a false (λK=>K c h) λo h=>B.gd h a false (λK=>B.pv (V.zda 3 n o) λv=>K v h) λp h=>B.gd h a false (λK=>B.pv (V.fieldAddr 1 p) λv=>K v h) λq h=>B.gd h a false (λK=>B.ld h q λv=>K v h) λr h=>B.gd h a false (λK=>B.call C (N 483) [l,m,r] h K) λs h=>B.gd h a false (λK=>B.pv (V.un .not s) λv=>K v h) λt h=>B.pick a (.bool true) t λu=>B.cond u (Q (.bool false) h) (B.pv (V.bin .add c (.int .i64 1)) λw=>Y2 [w] h)) (z0 (zz.l2 C N Q b d e) [(.int .i64 0)] h)
@[simp] def zz.l4(Q:zQ)(a b c:za):zG|[d],h,Y2=>zz.k3 C N Q Y2 a b c d h|_,_,_=>False
@[simp] def zz.k5(Q:zQ)(e:za)(h:zb):Prop:=B.call C (N 485) [] h λa h=>B.pv (A.bld [] [.zed,.int .i64 0]) λb=>B.zf2 h (A.zkj 2 b) λc h=>B.pv (V.zgk .eql a .zk4) λd=>B.cond d (Q (.bool false) h) (z0 (zz.l4 C N Q e a (.ptr c 0 0)) [(.int .i64 0)] h)
@[simp] def zz.k6(Q:zQ)(c:za)(h:zb):Prop:=B.pv (V.zde c) λe=>B.pv (V.bin .gtr e (.int .i64 60)) λf=>B.cond f (B.pv (V.zh9 3 c none (some (.int .i64 60))) λd=>B.call C (N 486) [d] h λa h=>B.cond a (B.call C (N 482) [] h λb h=>Q b h) (zz.k5 C N Q d h)) (B.call C (N 486) [c] h λa h=>B.cond a (B.call C (N 482) [] h λb h=>Q b h) (zz.k5 C N Q c h))
@[simp] def zz.cps(a:za)(h:zb)(Q:zQ):Prop:=zz.k6 C N Q a h
def zz.Imp:Prop:=im1 C (N 487) (zz.cps C N)
@[simp] def zbm.k1(Q:zQ)(Y1:zL)(v0 b e a:za)(h:zb):Prop:=B.pv (V.zde b) λf=>B.pv (V.bin .lss a f) λg=>B.cond g (B.pv (V.zda 3 b a) λi=>B.pv (V.fieldAddr 0 i) λj=>B.ld h j λk=>B.pv (V.bin .eql k (.int .i64 0)) λl=>B.cond l (B.pv (V.zda 3 b a) λm=>B.pv (V.fieldAddr 1 m) λn=>B.ld h n λo=>B.call C (N 488) [e,o] h λac h=>B.pv (V.bin .add a (.int .i64 1)) λc=>Y1 [c] h) (B.pv (V.zda 3 b a) λp=>B.pv (V.fieldAddr 1 p) λq=>B.ld h q λr=>B.pv (V.zda 3 b a) λs=>B.pv (V.fieldAddr 2 s) λt=>B.ld h t λu=>B.pv (V.zda 1 v0 a) λd=>B.ld h d λv=>B.pv (V.zii v (.int .i64 0)) λw=>B.pv (V.bin .eql w (.int .u8 43)) λx=>B.call C (N 489) [e,r,u] h (B.keepS h [(d,none)] (λy h=>B.pv (V.zpj .neq y x) λz=>B.cond z (Q (.bool false) h) (B.pv (V.bin .add a (.int .i64 1)) λc=>Y1 [c] h))))) (B.call C (N 487) [b] h λaa h=>Q aa h)
@[simp] def zbm.l2(Q:zQ)(a b c:za):zG|[d],h,Y1=>zbm.k1 C N Q Y1 a b c d h|_,_,_=>False
@[simp] def zbm.k3(C:z5)(N:zN)(Q:zQ)(Y2:zL)(l f g k a:za)(h:zb):Prop:=B.pv (V.zii k (.int .i64 0)) λi=>B.pv (V.bin .eql i (.int .u8 33)) λj=>B.cond j (B.al a (B.pv (V.setF 0 (.int .i64 0) a) λa=>B.pv (V.zhu 0 3 a) λb=>B.zf2 h (zee [(0,some 3,b)] (zf7 1 [.int .i64 0,.int .i64 0,.zed])) λc h=>B.zim h 3 40 f (.sl c 0 0 1 3 1) λd h=>B.pv (V.bin .add g (.int .i64 1)) λe=>Y2 [d,e] h)) (B.pv (V.zhu 0 3 a) λb=>B.zf2 h (zee [(0,some 3,b)] (zf7 1 [.int .i64 0,.int .i64 0,.zed])) λc h=>B.zim h 3 40 f (.sl c 0 0 1 3 1) λd h=>B.pv (V.bin .add g (.int .i64 1)) λe=>Y2 [d,e] h)
@[simp] def zbm.k4(Q:zQ)(Y2:zL)(Y3:zL)(m n o c b a:za)(h:zb):Prop:=B.pv (V.zny c) λd=>B.pv (V.bin .lss b d) λe=>B.cond e (B.al a (B.pv (V.zfa 2 a) λf=>B.pv (V.bin .add b (.int .i64 1)) λg=>B.pv (V.zrf c (some b) (some g)) λi=>B.zf2 h (zee [(0,none,i)] (zf7 1 [.str []])) λj h=>B.zim h 1 16 f (.sl j 0 0 1 1 1) λk h=>B.al a (B.pv (V.setF 2 k a) λa=>B.pv (V.bin .add b (.int .i64 1)) λl=>Y3 [l,a] h))) (zbm.k3 C N Q Y2 m n o c a h)
@[simp] def zbm.l5(Q:zQ)(Y2:zL)(a b c d:za):zG|[e,f],h,Y3=>zbm.k4 C N Q Y2 Y3 a b c d e f h|_,_,_=>False
@[simp] def zbm.k6(Q:zQ)(Y2:zL)(f g i a:za)(h:zb):Prop:=B.pv (V.zii a (.int .i64 1)) λb=>B.pv (V.bin .sub b (.int .u8 48)) λc=>B.pv (V.toInt .i64 c) λd=>B.pv (A.bld [(0,none,(.int .i64 1)),(1,none,d)] [.int .i64 0,.int .i64 0,.zed]) λe=>B.pv (V.setN 0 3 e (.agg [.int .i64 0,.int .i64 0,.zed])) λj=>z0 (zbm.l5 C N Q Y2 f g i a) [(.int .i64 2),j] h
@[simp] def zbm.k7(Q:zQ)(Y2:zL)(a c b:za)(h:zb):Prop:=B.pv (V.zde a) λd=>B.pv (V.bin .lss b d) λe=>B.cond e (B.pv (V.zda 1 a b) λf=>B.ld h f λg=>zbm.k6 C N Q Y2 a c b g h) (B.call C (N 485) [] h λi h=>z0 (zbm.l2 C N Q a c i) [(.int .i64 0)] h)
@[simp] def zbm.l8(Q:zQ)(a:za):zG|[b,c],h,Y2=>zbm.k7 C N Q Y2 a b c h|_,_,_=>False
@[simp] def zbm.cps(a:za)(h:zb)(Q:zQ):Prop:=z0 (zbm.l8 C N Q a) [.zed,(.int .i64 0)] h
def zbm.Imp:Prop:=im1 C (N 494) (zbm.cps C N)
@[simp] def zct.k1(Q:zQ)(h:zb):Prop:=B.zf2 h (zee [(0,none,(.str [43,49,65])),(1,none,(.str [43,49,65])),(2,none,(.str [43,49])),(3,none,(.str [43,49,65,66])),(4,none,(.str [45,50,66])),(5,none,(.str [45,50,67])),(6,none,(.str [33,49])),(7,none,(.str [43,50])),(8,none,(.str [43,50,65]))] (zf7 9 [.str []])) λt h=>B.call C (N 494) [(.sl t 0 0 9 1 9)] h λf h=>B.gd h f true (λK=>B.zf2 h (zee [(0,none,(.str [43,49,42])),(1,none,(.str [43,49,65])),(2,none,(.str [45,50,65])),(3,none,(.str [45,51,42])),(4,none,(.str [43,49,66])),(5,none,(.str [33,49])),(6,none,(.str [45,51])),(7,none,(.str [43,50])),(8,none,(.str [45,51])),(9,none,(.str [33,50])),(10,none,(.str [43,51]))] (zf7 11 [.str []])) λi h=>K (.sl i 0 0 11 1 11) h) λu h=>B.gd h f true (λK=>B.call C (N 494) [u] h K) λv h=>B.pick f v (.bool false) λg=>B.gd h g true (λK=>B.zf2 h (zee [(0,none,(.str [43,49,65])),(1,none,(.str [45,50,42])),(2,none,(.str [45,51,66])),(3,none,(.str [45,49,66])),(4,none,(.str [33,49])),(5,none,(.str [45,51])),(6,none,(.str [43,50])),(7,none,(.str [33,50])),(8,none,(.str [43,51]))] (zf7 9 [.str []])) λi h=>K (.sl i 0 0 9 1 9) h) λw h=>B.gd h g true (λK=>B.call C (N 494) [w] h K) λx h=>B.pick g x (.bool false) λa=>B.gd h a true (λK=>B.zf2 h (zee [(0,none,(.str [43,49,65])),(1,none,(.str [43,50,66])),(2,none,(.str [43,51,67])),(3,none,(.str [45,49,66])),(4,none,(.str [45,50,67])),(5,none,(.str [45,51,65])),(6,none,(.str [45,52,65])),(7,none,(.str [45,53,68,42])),(8,none,(.str [33,51])),(9,none,(.str [43,50,68])),(10,none,(.str [33,53])),(11,none,(.str [43,50]))] (zf7 12 [.str []])) λi h=>K (.sl i 0 0 12 1 12) h) λj h=>B.gd h a true (λK=>B.call C (N 494) [j] h K) λk h=>B.pick a k (.bool false) λb=>B.gd h b true (λK=>B.zf2 h (zee [(0,none,(.str [43,49,65])),(1,none,(.str [43,50,66])),(2,none,(.str [45,49,66])),(3,none,(.str [45,50,65])),(4,none,(.str [43,51,67])),(5,none,(.str [43,52,68])),(6,none,(.str [45,51,68])),(7,none,(.str [45,52,67])),(8,none,(.str [33,49])),(9,none,(.str [43,50])),(10,none,(.str [33,52])),(11,none,(.str [43,51]))] (zf7 12 [.str []])) λi h=>K (.sl i 0 0 12 1 12) h) λl h=>B.gd h b true (λK=>B.call C (N 494) [l] h K) λm h=>B.pick b m (.bool false) λc=>B.gd h c true (λK=>B.zf2 h (zee [(0,none,(.str [43,49,65])),(1,none,(.str [45,50,65])),(2,none,(.str [45,51,65])),(3,none,(.str [33,50])),(4,none,(.str [45,50,65])),(5,none,(.str [33,49])),(6,none,(.str [45,50])),(7,none,(.str [43,51])),(8,none,(.str [33,51])),(9,none,(.str [43,50]))] (zf7 10 [.str []])) λi h=>K (.sl i 0 0 10 1 10) h) λn h=>B.gd h c true (λK=>B.call C (N 494) [n] h K) λo h=>B.pick c o (.bool false) λd=>B.gd h d true (λK=>B.zf2 h (zee [(0,none,(.str [43,49,65,66,67])),(1,none,(.str [43,49,42])),(2,none,(.str [45,50,68])),(3,none,(.str [33,49])),(4,none,(.str [43,50]))] (zf7 5 [.str []])) λi h=>K (.sl i 0 0 5 1 5) h) λp h=>B.gd h d true (λK=>B.call C (N 494) [p] h K) λq h=>B.pick d q (.bool false) λe=>B.gd h e true (λK=>B.call C (N 482) [] h K) λr h=>B.pick e r (.bool false) λs=>Q s h
@[simp] def zct.cps(h:zb)(Q:zQ):Prop:=zct.k1 C N Q h
def zct.Imp:Prop:=im0 C (N 495) (zct.cps C N)
@[simp] def zez.cps(C:z5)(N:zN)(h:zb)(Q:zQ):Prop:=B.zk5 h λa h=>B.pv (A.bld [(0,none,a)] [.zo8,.int .i64 0]) λb=>B.zf2 h (A.zkj 2 b) λc h=>Q (.ptr c 0 0) h
variable(C:z5)(N:Nat→Nat)
def zez.Imp:Prop:=im0 C (N 485) (zez.cps C N)
@[simp] def zcp.k1(Q:zQ)(a b:za)(h:zb):Prop:=B.call C (N 505) [a] h λc h=>B.cond c (B.nilCheck a λd=>B.pv (V.fieldAddr 0 d) λe=>B.ld h e λf=>B.mdel h .i f b λ_ h=>Q (.tup []) h) (Q (.tup []) h)
@[simp] def zcp.cps(a b:za)(h:zb)(Q:zQ):Prop:=zcp.k1 C N Q a b h
def zcp.Imp:Prop:=im2 C (N 488) (zcp.cps C N)
@[simp] def zu.k1(Q:zQ)(c a b:za)(h:zb):Prop:=B.nilCheck a λk=>B.pv (V.fieldAddr 1 k) λl=>B.ld h l λm=>B.call C (N 506) [c,a,m,b] h λn h=>B.pv (V.zde n) λo=>B.pv (V.bin .gtr o (.int .i64 0)) λp=>B.cond p (B.nilCheck c λq=>B.pv (V.fieldAddr 1 q) λr=>B.ld h r λs=>B.pv (V.max2 s b) λt=>B.nilCheck a λu=>B.pv (V.fieldAddr 2 u) λv=>B.st h v b λh=>B.nilCheck c λw=>B.pv (V.fieldAddr 1 w) λx=>B.st h x t λh=>Q (.bool false) h) (B.nilCheck a λy=>B.pv (V.fieldAddr 0 y) λz=>B.ld h z λaa=>B.nilCheck a λab=>B.pv (V.fieldAddr 1 ab) λac=>B.ld h ac λd=>B.call C (N 507) [aa,d] h λad h=>B.zk5 h λe h=>B.nilCheck a λf=>B.pv (V.fieldAddr 1 f) λg=>B.st h g e λh=>B.nilCheck a λi=>B.pv (V.fieldAddr 2 i) λj=>B.st h j (.int .i64 0) λh=>Q (.bool true) h)
@[simp] def zu.k2(Q:zQ)(b c a:za)(h:zb):Prop:=B.pv (V.bin .eql a (.int .i64 0)) λd=>B.cond d (B.nilCheck b λe=>B.pv (V.fieldAddr 1 e) λf=>B.ld h f λg=>B.pv (V.bin .add g (.int .i64 1)) λi=>zu.k1 C N Q b c i h) (zu.k1 C N Q b c a h)
@[simp] def zu.k3(Q:zQ)(Y1:zL)(v0 c f g b:za)(h:zb):Prop:=B.pv (V.bin .lss b g) λi=>B.cond i (B.pv (V.zda 1 f b) λj=>B.ld h j λe=>B.nilCheck c λk=>B.pv (V.fieldAddr 0 k) λl=>B.ld h l λm=>B.call C (N 508) [m,e] h λn h=>B.pv (V.un .not n) λa=>B.gd h a true (λK=>K c h) λo h=>B.gd h a true (λK=>B.nilCheck o λv=>K v h) λp h=>B.gd h a true (λK=>B.pv (V.fieldAddr 0 p) λv=>K v h) λq h=>B.gd h a true (λK=>B.ld h q λv=>K v h) λr h=>B.gd h a true (λK=>B.call C (N 508) [r,(.str [42])] h K) λt h=>B.gd h a true (λK=>B.pv (V.un .not t) λv=>K v h) λu h=>B.pick a u (.bool false) λw=>B.cond w (B.nilCheck c λx=>B.pv (V.fieldAddr 1 x) λy=>B.ld h y λz=>B.mset h .s z e (.int .i64 1) λh=>B.pv (V.bin .add b (.int .i64 1)) λd=>Y1 [d] h) (B.pv (V.bin .add b (.int .i64 1)) λd=>Y1 [d] h)) (B.nilCheck c λaa=>B.pv (V.fieldAddr 2 aa) λab=>B.ld h ab λac=>zu.k2 C N Q v0 c ac h)
@[simp] def zu.l4(Q:zQ)(d e a b:za):zG|[c],h,Y1=>zu.k3 C N Q Y1 d e a b c h|_,_,_=>False
@[simp] def zu.k5(Q:zQ)(d o b e:za)(h:zb):Prop:=B.pv (V.zgk .eql e .zk4) λf=>B.cond f (B.zk5 h λg h=>B.zk5 h λj h=>B.pv (A.bld [(0,none,g),(1,none,j)] [.zo8,.zo8,.int .i64 0]) λk=>B.zf2 h (A.zkj 3 k) λc h=>B.nilCheck d λl=>B.pv (V.fieldAddr 0 l) λm=>B.ld h m λn=>B.mset h .i n o (.ptr c 0 0) λh=>B.pv (V.zde b) λa=>z0 (zu.l4 C N Q d (.ptr c 0 0) b a) [(.int .i64 0)] h) (B.pv (V.zde b) λa=>z0 (zu.l4 C N Q d e b a) [(.int .i64 0)] h)
@[simp] def zu.k6(Q:zQ)(a b g:za)(h:zb):Prop:=B.nilCheck a λc=>B.pv (V.fieldAddr 0 c) λd=>B.ld h d λe=>B.pv (A.lkp h (some .i) (some (.zk4)) false e b) λf=>zu.k5 C N Q a b g f h
@[simp] def zu.cps(a d e:za)(h:zb)(Q:zQ):Prop:=B.call C (N 505) [a] h λb h=>B.pv (V.un .not b) λc=>B.cond c (Q (.bool false) h) (zu.k6 C N Q a d e h)
def zu.Imp:Prop:=im3 C (N 489) (zu.cps C N)
@[simp] def zc4.k1(Q:zQ)(b c:za)(h:zb):Prop:=B.call C (N 505) [b] h λw h=>B.pv (V.un .not w) λa=>B.gd h a false (λK=>K b h) λx h=>B.gd h a false (λK=>B.nilCheck x λv=>K v h) λd h=>B.gd h a false (λK=>B.pv (V.fieldAddr 0 d) λv=>K v h) λe h=>B.gd h a false (λK=>B.ld h e λv=>K v h) λf h=>B.gd h a false (λK=>K c h) λg h=>B.gd h a false (λK=>B.pv (A.lkp h (some .i) (some (.zk4)) false f g) λv=>K v h) λj h=>B.gd h a false (λK=>B.pv (V.zgk .eql j .zk4) λv=>K v h) λk h=>B.pick a (.bool true) k λl=>B.cond l (Q .zed h) (B.nilCheck b λm=>B.pv (V.fieldAddr 0 m) λn=>B.ld h n λo=>B.pv (A.lkp h (some .i) (some (.zk4)) false o c) λp=>B.nilCheck p λq=>B.pv (V.fieldAddr 0 q) λr=>B.ld h r λs=>B.call C (N 509) [s] h λt h=>B.call C (N 510) [t] h λu h=>Q u h)
@[simp] def zc4.cps(a b:za)(h:zb)(Q:zQ):Prop:=zc4.k1 C N Q a b h
def zc4.Imp:Prop:=im2 C (N 490) (zc4.cps C N)
@[simp] def zcq.k1(Q:zQ)(c e:za)(h:zb):Prop:=B.call C (N 505) [c] h λv7 h=>B.pv (V.un .not v7) λb=>B.gd h b false (λK=>K c h) λf h=>B.gd h b false (λK=>B.nilCheck f λv=>K v h) λg h=>B.gd h b false (λK=>B.pv (V.fieldAddr 0 g) λv=>K v h) λj h=>B.gd h b false (λK=>B.ld h j λv=>K v h) λk h=>B.gd h b false (λK=>K e h) λl h=>B.gd h b false (λK=>B.pv (A.lkp h (some .i) (some (.zk4)) false k l) λv=>K v h) λm h=>B.gd h b false (λK=>B.pv (V.zgk .eql m .zk4) λv=>K v h) λn h=>B.pick b (.bool true) n λa=>B.gd h a false (λK=>K c h) λo h=>B.gd h a false (λK=>B.nilCheck o λv=>K v h) λp h=>B.gd h a false (λK=>B.pv (V.fieldAddr 0 p) λv=>K v h) λq h=>B.gd h a false (λK=>B.ld h q λv=>K v h) λr h=>B.gd h a false (λK=>K e h) λs h=>B.gd h a false (λK=>B.pv (A.lkp h (some .i) (some (.zk4)) false r s) λv=>K v h) λt h=>B.gd h a false (λK=>B.nilCheck t λv=>K v h) λu h=>B.gd h a false (λK=>B.pv (V.fieldAddr 2 u) λv=>K v h) λw h=>B.gd h a false (λK=>B.ld h w λv=>K v h) λx h=>B.gd h a false (λK=>B.pv (V.bin .eql x (.int .i64 0)) λv=>K v h) λy h=>B.pick a (.bool true) y λz=>B.cond z (Q .zed h) (B.nilCheck c λaa=>B.pv (V.fieldAddr 0 aa) λab=>B.ld h ab λac=>B.pv (A.lkp h (some .i) (some (.zk4)) false ac e) λd=>B.nilCheck d λad=>B.pv (V.fieldAddr 1 ad) λae=>B.ld h ae λaf=>B.nilCheck d λag=>B.pv (V.fieldAddr 2 ag) λah=>B.ld h ah λai=>B.call C (N 506) [c,d,af,ai] h λaj h=>Q aj h)
@[simp] def zcq.cps(a b:za)(h:zb)(Q:zQ):Prop:=zcq.k1 C N Q a b h
def zcq.Imp:Prop:=im2 C (N 491) (zcq.cps C N)
@[simp] def zw.k1(Q:zQ)(Y1:zL)(Y2:zL)(l m a b:za)(h:zb):Prop:=B.zet h b λd h=>B.pv (V.ext 0 d) λe=>B.cond e (B.pv (A.zfp h b) λf=>B.pv (V.ext 0 f) λc=>B.call C (N 512) [l,c] h λg h=>B.call C (N 513) [g,m] h λi h=>B.cond i (B.zf2 h (zee [(0,none,c)] (zf7 1 [.int .i64 0])) λj h=>B.zim h 1 8 a (.sl j 0 0 1 1 1) λk h=>Y2 [k] h) (Y2 [a] h)) (B.call C (N 511) [a] h λn h=>Q a h)
@[simp] def zw.l2(Q:zQ)(Y1:zL)(b c a:za):zG|[d],h,Y2=>zw.k1 C N Q Y1 Y2 b c d a h|_,_,_=>False
@[simp] def zw.k3(Q:zQ)(Y1:zL)(i a b j k c:za)(h:zb):Prop:=B.call C (N 513) [b,a] h λd h=>B.pv (V.un .not d) λe=>B.cond e (B.pv (V.bin .add c (.int .i64 1)) λf=>Y1 [f] h) (B.rangeMap h b λg h=>z0 (zw.l2 C N Q Y1 i a g) [.zed] h)
@[simp] def zw.k4(Q:zQ)(Y1:zL)(d a e b:za)(h:zb):Prop:=B.pv (V.zda 1 a b) λf=>B.ld h f λc=>B.call C (N 512) [d,c] h λg h=>zw.k3 C N Q Y1 d c g a e b h
@[simp] def zw.l5(Q:zQ)(e c a:za):zG|[b],h,Y1=>B.pv (V.bin .lss b a) λd=>B.cond d (zw.k4 C N Q Y1 e c a b h) (Q .zed h)|_,_,_=>False
@[simp] def zw.k6(Q:zQ)(b:za)(h:zb):Prop:=B.nilCheck b λc=>B.pv (V.fieldAddr 0 c) λd=>B.ld h d λe=>B.call C (N 514) [e] h λf h=>B.call C (N 515) [f] h λa h=>B.pv (V.zde a) λg=>z0 (zw.l5 C N Q b a g) [(.int .i64 0)] h
@[simp] def zw.cps(a:za)(h:zb)(Q:zQ):Prop:=B.call C (N 505) [a] h λc h=>B.pv (V.un .not c) λb=>B.cond b (Q .zed h) (zw.k6 C N Q a h)
def zw.Imp:Prop:=im1 C (N 492) (zw.cps C N)
@[simp] def zcz.k1(C:z5)(N:zN)(Q:zQ)(b:za)(h:zb):Prop:=B.pv (V.zgk .neq b .zk4) λa=>B.gd h a true (λK=>K b h) λe h=>B.gd h a true (λK=>B.nilCheck e λv=>K v h) λf h=>B.gd h a true (λK=>B.pv (V.fieldAddr 0 f) λv=>K v h) λg h=>B.gd h a true (λK=>B.ld h g λv=>K v h) λi h=>B.gd h a true (λK=>B.pv (V.eqMap .neq i .zo8) λv=>K v h) λc h=>B.pick a c (.bool false) λd=>Q d h
@[simp] def zcz.cps(a:za)(h:zb)(Q:zQ):Prop:=zcz.k1 C N Q a h
def zcz.Imp:Prop:=im1 C (N 505) (zcz.cps C N)
@[simp] def zbg.k1(Q:zQ)(Y1:zL)(l a b:za)(h:zb):Prop:=B.zet h b λd h=>B.pv (V.ext 0 d) λe=>B.cond e (B.pv (A.zfp h b) λc=>B.pv (V.ext 0 c) λf=>B.pv (V.ext 1 c) λg=>B.zk0 h C l [g] λi h=>B.cond i (B.zf2 h (zee [(0,none,f)] (zf7 1 [.int .i64 0])) λj h=>B.zim h 1 8 a (.sl j 0 0 1 1 1) λk h=>Y1 [k] h) (Y1 [a] h)) (B.call C (N 511) [a] h λm h=>Q a h)
@[simp] def zbg.l2(Q:zQ)(c a:za):zG|[b],h,Y1=>zbg.k1 C N Q Y1 c b a h|_,_,_=>False
@[simp] def zbg.k3(Q:zQ)(f g a:za)(h:zb):Prop:=B.nilCheck f λb=>B.pv (V.fieldAddr 0 b) λc=>B.ld h c λd=>B.rangeMap h d λe h=>z0 (zbg.l2 C N Q g e) [a] h
@[simp] def zbg.k4(Q:zQ)(a b c d:za)(h:zb):Prop:=B.zf2 h (A.zjs b) λe h=>B.zf2 h (A.zjs c) λf h=>B.zf2 h (A.zjs d) λg h=>zbg.k3 C N Q a (.fn (N 523) [] [(.ptr e 0 0),(.ptr f 0 0),(.ptr g 0 0)]) .zed h
@[simp] def zbg.cps(a b c d:za)(h:zb)(Q:zQ):Prop:=zbg.k4 C N Q a b c d h
def zbg.Imp:Prop:=im4 C (N 506) (zbg.cps C N)
@[simp] def zb6.cps(C:z5)(N:zN)(a b:za)(h:zb)(Q:zQ):Prop:=B.pv (A.lkp h (some .s) (some (.int .i64 0)) false a b) λc=>B.pv (V.bin .gtr c (.int .i64 0)) λd=>Q d h
def zb6.Imp:Prop:=im2 C (N 508) (zb6.cps C N)
@[simp] def zcb.k1(Q:zQ)(d e:za)(h:zb):Prop:=B.zf2 h (A.zjs d) λf h=>B.zk5 h λg h=>B.zf2 h (some [.zo8]) λa h=>B.st h (.ptr a 0 0) g λh=>B.zf2 h (some [.nilf]) λb h=>B.st h (.ptr b 0 0) (.fn (N 526) [] [(.ptr f 0 0),(.ptr a 0 0),(.ptr b 0 0)]) λh=>B.ld h (.ptr b 0 0) λi=>B.zk0 h C i [e] λj h=>B.ld h (.ptr a 0 0) λc=>Q c h
@[simp] def zcb.cps(a b:za)(h:zb)(Q:zQ):Prop:=zcb.k1 C N Q a b h
def zcb.Imp:Prop:=im2 C (N 512) (zcb.cps C N)
@[simp] def zb7.cps(C:z5)(N:zN)(a b:za)(h:zb)(Q:zQ):Prop:=B.pv (A.lkp h (some .i) (some (.int .i64 0)) false a b) λc=>B.pv (V.bin .gtr c (.int .i64 0)) λd=>Q d h
def zb7.Imp:Prop:=im2 C (N 513) (zb7.cps C N)
@[simp] def zc1.k1(Q:zQ)(e v1 f v3:za)(h:zb):Prop:=B.ld h v1 λv7=>B.pv (A.zgk h 3 .neq e v7) λd=>B.gd h d true (λK=>K e h) λg h=>B.gd h d true (λK=>B.nilCheck g λv=>K v h) λi h=>B.gd h d true (λK=>B.pv (V.fieldAddr 0 i) λv=>K v h) λj h=>B.gd h d true (λK=>B.ld h j λv=>K v h) λk h=>B.gd h d true (λK=>B.ld h f λv=>K v h) λl h=>B.gd h d true (λK=>B.call C (N 528) [k,l] h K) λm h=>B.gd h d true (λK=>K m h) λa h=>B.gd h a false (λK=>K e h) λn h=>B.gd h a false (λK=>B.nilCheck n λv=>K v h) λo h=>B.gd h a false (λK=>B.pv (V.fieldAddr 2 o) λv=>K v h) λp h=>B.gd h a false (λK=>B.ld h p λv=>K v h) λq h=>B.gd h a false (λK=>B.pv (V.bin .gtr q (.int .i64 0)) λv=>K v h) λr h=>B.gd h a false (λK=>K r h) λb h=>B.gd h b true (λK=>K e h) λs h=>B.gd h b true (λK=>B.nilCheck s λv=>K v h) λt h=>B.gd h b true (λK=>B.pv (V.fieldAddr 2 t) λv=>K v h) λu h=>B.gd h b true (λK=>B.ld h u λv=>K v h) λw h=>B.gd h b true (λK=>B.ld h v3 λv=>K v h) λx h=>B.gd h b true (λK=>B.pv (V.bin .lss w x) λv=>K v h) λy h=>B.gd h a false (λK=>B.pick b y (.bool false) λv=>K v h) λz h=>B.gd h a false (λK=>K z h) λc h=>B.gd h c true (λK=>K e h) λaa h=>B.gd h c true (λK=>B.nilCheck aa λv=>K v h) λab h=>B.gd h c true (λK=>B.pv (V.fieldAddr 1 ab) λv=>K v h) λac h=>B.gd h c true (λK=>B.ld h ac λv=>K v h) λad h=>B.gd h c true (λK=>B.ld h f λv=>K v h) λae h=>B.gd h c true (λK=>B.call C (N 528) [ad,ae] h K) λaf h=>B.gd h a false (λK=>B.pick c af (.bool false) λv=>K v h) λag h=>B.gd h d true (λK=>B.pick a (.bool true) ag λv=>K v h) λah h=>B.pick d ah (.bool false) λai=>Q ai h
@[simp] def zc1.cps(a b c d:za)(h:zb)(Q:zQ):Prop:=zc1.k1 C N Q a b c d h
def zc1.Imp:Prop:=im4 C (N 523) (zc1.cps C N)
@[simp] def zbj.k1(Q:zQ)(Y1:zL)(d o p e a:za)(h:zb):Prop:=B.pv (V.bin .lss a e) λf=>B.cond f (B.pv (V.zda 1 p a) λg=>B.ld h g λb=>B.ld h d λj=>B.call C (N 513) [j,b] h λk h=>B.pv (V.un .not k) λl=>B.cond l (B.ld h d λm=>B.mset h .i m b (.int .i64 1) λh=>B.ld h o λn=>B.zk0 h C n [b] λq h=>B.pv (V.bin .add a (.int .i64 1)) λc=>Y1 [c] h) (B.pv (V.bin .add a (.int .i64 1)) λc=>Y1 [c] h)) (Q (.tup []) h)
@[simp] def zbj.l2(Q:zQ)(c d e a:za):zG|[b],h,Y1=>zbj.k1 C N Q Y1 c d e a b h|_,_,_=>False
@[simp] def zbj.k3(Q:zQ)(c d e f:za)(h:zb):Prop:=B.ld h d λg=>B.call C (N 491) [g,c] h λa h=>B.pv (V.zde a) λb=>z0 (zbj.l2 C N Q e f a b) [(.int .i64 0)] h
@[simp] def zbj.cps(a b c d:za)(h:zb)(Q:zQ):Prop:=zbj.k3 C N Q a b c d h
def zbj.Imp:Prop:=im4 C (N 526) (zbj.cps C N)
@[simp] def zdo.k1(Q:zQ)(Y1:zL)(g a:za)(h:zb):Prop:=B.zet h a λb h=>B.pv (V.ext 0 b) λc=>B.cond c (B.pv (A.zfp h a) λd=>B.pv (V.ext 0 d) λe=>B.call C (N 508) [g,e] h λf h=>B.cond f (Q (.bool true) h) (Y1 [] h)) (Q (.bool false) h)
@[simp] def zdo.l2(Q:zQ)(b a:za):zG|[],h,Y1=>zdo.k1 C N Q Y1 b a h|_,_,_=>False
@[simp] def zdo.k3(Q:zQ)(b c:za)(h:zb):Prop:=B.call C (N 508) [b,(.str [42])] h λa h=>B.gd h a false (λK=>K c h) λd h=>B.gd h a false (λK=>B.call C (N 508) [d,(.str [42])] h K) λe h=>B.pick a (.bool true) e λf=>B.cond f (Q (.bool true) h) (B.rangeMap h b λg h=>z0 (zdo.l2 C N Q c g) [] h)
@[simp] def zdo.k4(Q:zQ)(b c:za)(h:zb):Prop:=B.pv (A.zlm h b) λi=>B.pv (V.bin .eql i (.int .i64 0)) λa=>B.gd h a false (λK=>K c h) λd h=>B.gd h a false (λK=>B.pv (A.zlm h d) λv=>K v h) λe h=>B.gd h a false (λK=>B.pv (V.bin .eql e (.int .i64 0)) λv=>K v h) λf h=>B.pick a (.bool true) f λg=>B.cond g (Q (.bool false) h) (zdo.k3 C N Q b c h)
@[simp] def zdo.cps(a b:za)(h:zb)(Q:zQ):Prop:=zdo.k4 C N Q a b h
def zdo.Imp:Prop:=im2 C (N 528) (zdo.cps C N)
@[simp] def zg.k1(C:z5)(N:zN)(Q:zQ)(Y1:zL)(e b:za)(h:zb):Prop:=B.zet h b λf h=>B.pv (V.ext 0 f) λg=>B.cond g (B.pv (A.zfp h b) λa=>B.pv (V.ext 0 a) λc=>B.pv (V.ext 1 a) λd=>B.mset h .s e c d λh=>Y1 [] h) (Q (.tup []) h)
variable(C:z5)(N:Nat→Nat)
@[simp] def zg.l2(Q:zQ)(a b:za):zG|[],h,Y1=>zg.k1 C N Q Y1 a b h|_,_,_=>False
@[simp] def zg.cps(a b:za)(h:zb)(Q:zQ):Prop:=B.rangeMap h b λc h=>z0 (zg.l2 C N Q a c) [] h
def zg.Imp:Prop:=im2 C (N 507) (zg.cps C N)
@[simp] def zbk.cps(C:z5)(N:zN)(a:za)(h:zb)(Q:zQ):Prop:=B.zf2 h (A.zjs a) λb h=>Q (.fn (N 524) [] [(.ptr b 0 0)]) h
def zbk.Imp:Prop:=im1 C (N 509) (zbk.cps C N)
@[simp] def z4.cps(C:z5)(N:zN)(a:za)(h:zb)(Q:zQ):Prop:=B.zf2 h (A.zjs a) λb h=>Q (.fn (N 525) [] [(.ptr b 0 0)]) h
def z4.Imp:Prop:=im1 C (N 514) (z4.cps C N)
@[simp] def zq.k1(C:z5)(N:zN)(Q:zQ)(Y1:zL)(d a:za)(h:zb):Prop:=B.zet h a λe h=>B.pv (V.ext 0 e) λf=>B.cond f (B.pv (A.zfp h a) λg=>B.pv (V.ext 0 g) λi=>B.zk0 h C d [i] λb h=>B.pv (V.un .not b) λc=>B.cond c (Q (.tup []) h) (Y1 [] h)) (Q (.tup []) h)
@[simp] def zq.l2(Q:zQ)(a b:za):zG|[],h,Y1=>zq.k1 C N Q Y1 a b h|_,_,_=>False
@[simp] def zq.cps(a b:za)(h:zb)(Q:zQ):Prop:=B.ld h b λc=>B.rangeMap h c λd h=>z0 (zq.l2 C N Q a d) [] h
def zq.Imp:Prop:=im2 C (N 524) (zq.cps C N)
@[simp] def zm.k1(C:z5)(N:zN)(Q:zQ)(Y1:zL)(d a:za)(h:zb):Prop:=B.zet h a λe h=>B.pv (V.ext 0 e) λf=>B.cond f (B.pv (A.zfp h a) λg=>B.pv (V.ext 0 g) λi=>B.zk0 h C d [i] λb h=>B.pv (V.un .not b) λc=>B.cond c (Q (.tup []) h) (Y1 [] h)) (Q (.tup []) h)
@[simp] def zm.l2(Q:zQ)(a b:za):zG|[],h,Y1=>zm.k1 C N Q Y1 a b h|_,_,_=>False
@[simp] def zm.cps(a b:za)(h:zb)(Q:zQ):Prop:=B.ld h b λc=>B.rangeMap h c λd h=>z0 (zm.l2 C N Q a d) [] h
def zm.Imp:Prop:=im2 C (N 525) (zm.cps C N)
variable(C:z5)(N:Nat→Nat)
@[simp] def zdx.k1(Q:zQ)(a:za)(h:zb):Prop:=B.cond (.bool false) (B.pv (V.toInt .u32 a) λb=>B.call C (N 304) [b] h λc h=>Q c h) (B.call C (N 305) [a] h λd h=>Q d h)
@[simp] def zdx.cps(a:za)(h:zb)(Q:zQ):Prop:=zdx.k1 C N Q a h
def zdx.Imp:Prop:=im1 C (N 287) (zdx.cps C N)
@[simp] def zbi.k1(C:z5)(N:zN)(Q:zQ)(e f:za)(h:zb):Prop:=B.pv (V.toInt .u8 e) λa=>B.pv (V.zii (.str [0,1,2,2,3,3,3,3,4,4,4,4,4,4,4,4,5,5,5,5,5,5,5,5,5,5,5,5,5,5,5,5,6,6,6,6,6,6,6,6,6,6,6,6,6,6,6,6,6,6,6,6,6,6,6,6,6,6,6,6,6,6,6,6,7,7,7,7,7,7,7,7,7,7,7,7,7,7,7,7,7,7,7,7,7,7,7,7,7,7,7,7,7,7,7,7,7,7,7,7,7,7,7,7,7,7,7,7,7,7,7,7,7,7,7,7,7,7,7,7,7,7,7,7,7,7,7,7,8,8,8,8,8,8,8,8,8,8,8,8,8,8,8,8,8,8,8,8,8,8,8,8,8,8,8,8,8,8,8,8,8,8,8,8,8,8,8,8,8,8,8,8,8,8,8,8,8,8,8,8,8,8,8,8,8,8,8,8,8,8,8,8,8,8,8,8,8,8,8,8,8,8,8,8,8,8,8,8,8,8,8,8,8,8,8,8,8,8,8,8,8,8,8,8,8,8,8,8,8,8,8,8,8,8,8,8,8,8,8,8,8,8,8,8,8,8,8,8,8,8,8,8,8,8,8,8]) a) λb=>B.pv (V.toInt .i64 b) λc=>B.pv (V.bin .add f c) λd=>Q d h
@[simp] def zbi.k2(Q:zQ)(a b:za)(h:zb):Prop:=B.pv (V.bin .geq a (.int .u64 256)) λc=>B.cond c (B.pv (V.bin .shr a (.int .u64 8)) λd=>B.pv (V.bin .add b (.int .i64 8)) λe=>zbi.k1 C N Q d e h) (zbi.k1 C N Q a b h)
@[simp] def zbi.k3(Q:zQ)(a b:za)(h:zb):Prop:=B.pv (V.bin .geq a (.int .u64 65536)) λe=>B.cond e (B.pv (V.bin .shr a (.int .u64 16)) λc=>B.pv (V.bin .add b (.int .i64 16)) λd=>zbi.k2 C N Q c d h) (zbi.k2 C N Q a b h)
@[simp] def zbi.k4(Q:zQ)(a b:za)(h:zb):Prop:=B.pv (V.bin .geq a (.int .u64 4294967296)) λc=>B.cond c (B.pv (V.bin .shr a (.int .u64 32)) λd=>zbi.k3 C N Q d (.int .i64 32) h) (zbi.k3 C N Q a b h)
@[simp] def zbi.cps(a:za)(h:zb)(Q:zQ):Prop:=zbi.k4 C N Q a (.int .i64 0) h
def zbi.Imp:Prop:=im1 C (N 305) (zbi.cps C N)
variable(C:z5)(N:Nat→Nat)
@[simp] def zc0.k1(Q:zQ)(a q:za)(h:zb):Prop:=B.call C (N 516) [a,q] h λc h=>B.pv (V.bin .geq c (.int .i64 0)) λr=>B.cond r (B.nilCheck a λd=>B.pv (V.fieldAddr 0 d) λe=>B.ld h e λf=>B.pv (V.zh9 4 f none (some c)) λg=>B.nilCheck a λi=>B.pv (V.fieldAddr 0 i) λb=>B.ld h b λj=>B.pv (V.bin .add c (.int .i64 1)) λk=>B.pv (V.zh9 4 j (some k) none) λl=>B.zim h 4 64 .sz g (B.keepS h [(b,none)] (λm h=>B.zim h 4 64 m l λn h=>B.nilCheck a λo=>B.pv (V.fieldAddr 0 o) λp=>B.st h p n λh=>Q (.tup []) h))) (Q (.tup []) h)
@[simp] def zc0.cps(a b:za)(h:zb)(Q:zQ):Prop:=zc0.k1 C N Q a b h
def zc0.Imp:Prop:=im2 C (N 500) (zc0.cps C N)
@[simp] def zj.k1(C:z5)(N:zN)(Q:zQ)(e:za)(h:zb):Prop:=B.nilCheck e λa=>B.pv (V.fieldAddr 2 a) λb=>B.st h b .zed λh=>B.nilCheck e λc=>B.pv (V.fieldAddr 3 c) λd=>B.st h d (.int .i64 0) λh=>Q (.bool true) h
@[simp] def zj.k2(Q:zQ)(Y1:zL)(b o a:za)(h:zb):Prop:=B.pv (V.zde o) λc=>B.pv (V.bin .lss a c) λd=>B.cond d (B.nilCheck b λe=>B.pv (V.fieldAddr 1 e) λf=>B.ld h f λg=>B.pv (V.zda 1 o a) λi=>B.ld h i λj=>B.call C (N 517) [g,j] h λk h=>B.nilCheck b λl=>B.pv (V.fieldAddr 1 l) λm=>B.st h m k λh=>B.pv (V.bin .add a (.int .i64 1)) λn=>Y1 [n] h) (zj.k1 C N Q b h)
@[simp] def zj.l3(Q:zQ)(b c:za):zG|[a],h,Y1=>zj.k2 C N Q Y1 b c a h|_,_,_=>False
@[simp] def zj.k4(Q:zQ)(n b o a p:za)(h:zb):Prop:=B.cond p (B.nilCheck b λc=>B.pv (V.fieldAddr 2 c) λd=>B.st h d o λh=>B.nilCheck b λe=>B.pv (V.fieldAddr 3 e) λf=>B.st h f a λh=>B.nilCheck n λg=>B.pv (V.fieldAddr 1 g) λi=>B.ld h i λj=>B.pv (V.max2 j a) λk=>B.nilCheck n λl=>B.pv (V.fieldAddr 1 l) λm=>B.st h m k λh=>Q (.bool false) h) (z0 (zj.l3 C N Q b o) [(.int .i64 0)] h)
@[simp] def zj.k5(Q:zQ)(Y2:zL)(e v7 v8 u d b c:za)(h:zb):Prop:=B.nilCheck e λw=>B.pv (V.fieldAddr 0 w) λx=>B.ld h x λy=>B.pv (V.zde y) λz=>B.pv (V.bin .lss c z) λaa=>B.cond aa (B.gd h b false (λK=>K c h) λab h=>B.gd h b false (λK=>K v7 h) λf h=>B.gd h b false (λK=>B.pv (V.bin .neq ab f) λv=>K v h) λg h=>B.gd h b false (λK=>K g h) λa h=>B.gd h a true (λK=>K e h) λi h=>B.gd h a true (λK=>B.nilCheck i λv=>K v h) λj h=>B.gd h a true (λK=>B.pv (V.fieldAddr 0 j) λv=>K v h) λk h=>B.gd h a true (λK=>B.ld h k λv=>K v h) λl h=>B.gd h a true (λK=>K c h) λm h=>B.gd h a true (λK=>B.pv (V.zda 4 l m) λv=>K v h) λn h=>B.gd h a true (λK=>B.ldn h n 4 λv=>K v h) λo h=>B.gd h a true (λK=>K u h) λp h=>B.gd h a true (λK=>K d h) λq h=>B.gd h a true (λK=>B.call C (N 518) [o,p,q] h K) λr h=>B.gd h b false (λK=>B.pick a r (.bool false) λv=>K v h) λs h=>B.pick b (.bool true) s λt=>B.pv (V.bin .add c (.int .i64 1)) λac=>Y2 [t,ac] h) (zj.k4 C N Q e v8 u d b h)
@[simp] def zj.l6(Q:zQ)(d e f g a:za):zG|[b,c],h,Y2=>zj.k5 C N Q Y2 d e f g a b c h|_,_,_=>False
@[simp] def zj.k7(Q:zQ)(b c d e a:za)(h:zb):Prop:=B.pv (V.bin .eql a (.int .i64 0)) λf=>B.cond f (B.nilCheck b λg=>B.pv (V.fieldAddr 1 g) λi=>B.ld h i λj=>B.pv (V.bin .add j (.int .i64 1)) λk=>z0 (zj.l6 C N Q b c d e k) [(.bool false),(.int .i64 0)] h) (z0 (zj.l6 C N Q b c d e a) [(.bool false),(.int .i64 0)] h)
@[simp] def zj.k8(Q:zQ)(Y3:zL)(v0 e v7 d f b:za)(h:zb):Prop:=B.pv (V.zde e) λg=>B.pv (V.bin .lss b g) λi=>B.cond i (B.nilCheck d λj=>B.pv (V.fieldAddr 1 j) λk=>B.ld h k λl=>B.pv (V.zda 1 e b) λm=>B.ld h m λn=>B.call C (N 519) [l,n] h λo h=>B.pv (V.un .not o) λa=>B.gd h a true (λK=>K d h) λp h=>B.gd h a true (λK=>B.nilCheck p λv=>K v h) λq h=>B.gd h a true (λK=>B.pv (V.fieldAddr 1 q) λv=>K v h) λr h=>B.gd h a true (λK=>B.ld h r λv=>K v h) λs h=>B.gd h a true (λK=>B.call C (N 519) [s,(.str [42])] h K) λt h=>B.gd h a true (λK=>B.pv (V.un .not t) λv=>K v h) λu h=>B.pick a u (.bool false) λw=>B.cond w (B.pv (V.zda 1 e b) λx=>B.ld h x λy=>B.call C (N 517) [f,y] h λz h=>B.pv (V.bin .add b (.int .i64 1)) λc=>Y3 [z,c] h) (B.pv (V.bin .add b (.int .i64 1)) λc=>Y3 [f,c] h)) (B.nilCheck d λaa=>B.pv (V.fieldAddr 3 aa) λab=>B.ld h ab λac=>zj.k7 C N Q v0 v7 d f ac h)
@[simp] def zj.l9(Q:zQ)(b c d e:za):zG|[f,a],h,Y3=>zj.k8 C N Q Y3 b c d e f a h|_,_,_=>False
@[simp] def zj.k10(Q:zQ)(e f g a:za)(h:zb):Prop:=B.nilCheck a λb=>B.pv (V.fieldAddr 2 b) λc=>B.ld h c λd=>z0 (zj.l9 C N Q e f g a) [d,(.int .i64 0)] h
@[simp] def zj.k11(Q:zQ)(a g b:za)(h:zb):Prop:=B.nilCheck a λc=>B.pv (V.fieldAddr 0 c) λd=>B.ld h d λe=>B.pv (V.zda 4 e b) λf=>zj.k10 C N Q a g b f h
@[simp] def zj.k12(Q:zQ)(a s b c:za)(h:zb):Prop:=B.pv (V.bin .lss c (.int .i64 0)) λd=>B.cond d (B.nilCheck a λe=>B.pv (V.fieldAddr 0 e) λf=>B.ld h f λg=>B.pv (A.bld [(0,none,s)] [.int .i64 0,.zed,.zed,.int .i64 0]) λi=>B.zf2 h (zee [(0,some 4,i)] (zf7 1 [.int .i64 0,.zed,.zed,.int .i64 0])) λj h=>B.zim h 4 64 g (.sl j 0 0 1 4 1) λk h=>B.nilCheck a λl=>B.pv (V.fieldAddr 0 l) λm=>B.st h m k λh=>B.nilCheck a λn=>B.pv (V.fieldAddr 0 n) λo=>B.ld h o λp=>B.pv (V.zde p) λq=>B.pv (V.bin .sub q (.int .i64 1)) λr=>zj.k11 C N Q a b r h) (zj.k11 C N Q a b c h)
@[simp] def zj.cps(a b d:za)(h:zb)(Q:zQ):Prop:=B.call C (N 516) [a,b] h λc h=>zj.k12 C N Q a b d c h
def zj.Imp:Prop:=im3 C (N 501) (zj.cps C N)
@[simp] def zch.k1(Q:zQ)(a l:za)(h:zb):Prop:=B.call C (N 516) [a,l] h λb h=>B.pv (V.bin .lss b (.int .i64 0)) λc=>B.cond c (Q .zed h) (B.nilCheck a λd=>B.pv (V.fieldAddr 0 d) λe=>B.ld h e λf=>B.pv (V.zda 4 f b) λg=>B.pv (V.fieldAddr 1 g) λi=>B.ld h i λj=>B.zim h 1 16 .sz j λk h=>Q k h)
@[simp] def zch.cps(a b:za)(h:zb)(Q:zQ):Prop:=zch.k1 C N Q a b h
def zch.Imp:Prop:=im2 C (N 502) (zch.cps C N)
@[simp] def z8.k1(Q:zQ)(Y1:zL)(c e f b:za)(h:zb):Prop:=B.nilCheck c λg=>B.pv (V.fieldAddr 0 g) λi=>B.ld h i λj=>B.pv (V.zde j) λk=>B.pv (V.bin .lss b k) λl=>B.cond l (B.pv (V.bin .neq b e) λa=>B.gd h a true (λK=>K c h) λm h=>B.gd h a true (λK=>B.nilCheck m λv=>K v h) λn h=>B.gd h a true (λK=>B.pv (V.fieldAddr 0 n) λv=>K v h) λo h=>B.gd h a true (λK=>B.ld h o λv=>K v h) λp h=>B.gd h a true (λK=>K b h) λq h=>B.gd h a true (λK=>B.pv (V.zda 4 p q) λv=>K v h) λr h=>B.gd h a true (λK=>B.ldn h r 4 λv=>K v h) λs h=>B.gd h a true (λK=>K c h) λt h=>B.gd h a true (λK=>B.nilCheck t λv=>K v h) λu h=>B.gd h a true (λK=>B.pv (V.fieldAddr 0 u) λv=>K v h) λw h=>B.gd h a true (λK=>B.ld h w λv=>K v h) λx h=>B.gd h a true (λK=>K e h) λy h=>B.gd h a true (λK=>B.pv (V.zda 4 x y) λv=>K v h) λz h=>B.gd h a true (λK=>B.pv (V.fieldAddr 2 z) λv=>K v h) λaa h=>B.gd h a true (λK=>B.ld h aa λv=>K v h) λab h=>B.gd h a true (λK=>K c h) λac h=>B.gd h a true (λK=>B.nilCheck ac λv=>K v h) λad h=>B.gd h a true (λK=>B.pv (V.fieldAddr 0 ad) λv=>K v h) λae h=>B.gd h a true (λK=>B.ld h ae λv=>K v h) λaf h=>B.gd h a true (λK=>K e h) λag h=>B.gd h a true (λK=>B.pv (V.zda 4 af ag) λv=>K v h) λah h=>B.gd h a true (λK=>B.pv (V.fieldAddr 3 ah) λv=>K v h) λai h=>B.gd h a true (λK=>B.ld h ai λv=>K v h) λaj h=>B.gd h a true (λK=>B.call C (N 518) [s,ab,aj] h K) λak h=>B.pick a ak (.bool false) λal=>B.cond al (B.nilCheck c λam=>B.pv (V.fieldAddr 0 am) λan=>B.ld h an λao=>B.pv (V.zda 4 ao b) λap=>B.pv (V.fieldAddr 0 ap) λaq=>B.ld h aq λar=>B.call C (N 520) [f,ar] h λau h=>B.pv (V.bin .add b (.int .i64 1)) λd=>Y1 [au,d] h) (B.pv (V.bin .add b (.int .i64 1)) λd=>Y1 [f,d] h)) (Q f h)
@[simp] def z8.l2(Q:zQ)(a b:za):zG|[c,d],h,Y1=>z8.k1 C N Q Y1 a b c d h|_,_,_=>False
@[simp] def z8.k3(Q:zQ)(c b:za)(h:zb):Prop:=B.pv (V.bin .lss b (.int .i64 0)) λa=>B.gd h a false (λK=>K c h) λd h=>B.gd h a false (λK=>B.nilCheck d λv=>K v h) λe h=>B.gd h a false (λK=>B.pv (V.fieldAddr 0 e) λv=>K v h) λf h=>B.gd h a false (λK=>B.ld h f λv=>K v h) λg h=>B.gd h a false (λK=>K b h) λi h=>B.gd h a false (λK=>B.pv (V.zda 4 g i) λv=>K v h) λj h=>B.gd h a false (λK=>B.pv (V.fieldAddr 3 j) λv=>K v h) λk h=>B.gd h a false (λK=>B.ld h k λv=>K v h) λl h=>B.gd h a false (λK=>B.pv (V.bin .eql l (.int .i64 0)) λv=>K v h) λm h=>B.pick a (.bool true) m λn=>B.cond n (Q .zed h) (z0 (z8.l2 C N Q c b) [.zed,(.int .i64 0)] h)
@[simp] def z8.cps(a c:za)(h:zb)(Q:zQ):Prop:=B.call C (N 516) [a,c] h λb h=>z8.k3 C N Q a b h
def z8.Imp:Prop:=im2 C (N 503) (z8.cps C N)
@[simp] def zo.k1(Q:zQ)(Y1:zL)(Y2:zL)(r s t d e a:za)(h:zb):Prop:=B.pv (V.zde d) λf=>B.pv (V.bin .lss a f) λg=>B.cond g (B.pv (V.zda 1 d a) λi=>B.ld h i λj=>B.pv (V.zda 1 s t) λc=>B.ld h c λk=>B.call C (N 521) [r,j] h (B.keepS h [(c,none)] (λl h=>B.call C (N 522) [l,k] h λm h=>B.cond m (B.pv (V.zda 1 d a) λn=>B.ld h n λo=>B.zf2 h (zee [(0,none,o)] (zf7 1 [.int .i64 0])) λp h=>B.zim h 1 8 e (.sl p 0 0 1 1 1) λq h=>B.pv (V.bin .add a (.int .i64 1)) λb=>Y2 [q,b] h) (B.pv (V.bin .add a (.int .i64 1)) λb=>Y2 [e,b] h)))) (Q e h)
@[simp] def zo.l2(Q:zQ)(Y1:zL)(a b c d:za):zG|[e,f],h,Y2=>zo.k1 C N Q Y1 Y2 a b c d e f h|_,_,_=>False
@[simp] def zo.k3(Q:zQ)(Y1:zL)(j b a c:za)(h:zb):Prop:=B.pv (V.zda 1 b a) λd=>B.ld h d λe=>B.call C (N 522) [c,e] h λf h=>B.pv (V.un .not f) λg=>B.cond g (B.pv (V.bin .add a (.int .i64 1)) λi=>Y1 [i] h) (z0 (zo.l2 C N Q Y1 j b a c) [.zed,(.int .i64 0)] h)
@[simp] def zo.k4(Q:zQ)(Y1:zL)(c a b:za)(h:zb):Prop:=B.pv (V.zde a) λd=>B.pv (V.bin .lss b d) λe=>B.cond e (B.pv (V.zda 1 a b) λf=>B.ld h f λg=>B.call C (N 521) [c,g] h λi h=>zo.k3 C N Q Y1 c a b i h) (Q .zed h)
@[simp] def zo.l5(Q:zQ)(a b:za):zG|[c],h,Y1=>zo.k4 C N Q Y1 a b c h|_,_,_=>False
@[simp] def zo.k6(Q:zQ)(Y3:zL)(a c b:za)(h:zb):Prop:=B.nilCheck a λd=>B.pv (V.fieldAddr 0 d) λe=>B.ld h e λf=>B.pv (V.zde f) λg=>B.pv (V.bin .lss b g) λi=>B.cond i (B.nilCheck a λj=>B.pv (V.fieldAddr 0 j) λk=>B.ld h k λl=>B.pv (V.zda 4 l b) λm=>B.pv (V.fieldAddr 0 m) λn=>B.ld h n λo=>B.call C (N 520) [c,o] h λp h=>B.pv (V.bin .add b (.int .i64 1)) λq=>Y3 [p,q] h) (z0 (zo.l5 C N Q a c) [(.int .i64 0)] h)
@[simp] def zo.l7(Q:zQ)(a:za):zG|[b,c],h,Y3=>zo.k6 C N Q Y3 a b c h|_,_,_=>False
@[simp] def zo.cps(a:za)(h:zb)(Q:zQ):Prop:=z0 (zo.l7 C N Q a) [.zed,(.int .i64 0)] h
def zo.Imp:Prop:=im1 C (N 504) (zo.cps C N)
@[simp] def zbo.k1(C:z5)(N:zN)(Q:zQ)(Y1:zL)(b o a:za)(h:zb):Prop:=B.nilCheck b λp=>B.pv (V.fieldAddr 0 p) λq=>B.ld h q λc=>B.pv (V.zde c) λd=>B.pv (V.bin .lss a d) λe=>B.cond e (B.nilCheck b λf=>B.pv (V.fieldAddr 0 f) λg=>B.ld h g λi=>B.pv (V.zda 4 i a) λj=>B.pv (V.fieldAddr 0 j) λk=>B.ld h k λl=>B.pv (V.bin .eql l o) λm=>B.cond m (Q a h) (B.pv (V.bin .add a (.int .i64 1)) λn=>Y1 [n] h)) (Q (.int .i64 (-1)) h)
@[simp] def zbo.l2(Q:zQ)(a b:za):zG|[c],h,Y1=>zbo.k1 C N Q Y1 a b c h|_,_,_=>False
@[simp] def zbo.cps(a b:za)(h:zb)(Q:zQ):Prop:=z0 (zbo.l2 C N Q a b) [(.int .i64 0)] h
def zbo.Imp:Prop:=im2 C (N 516) (zbo.cps C N)
@[simp] def zdr.k1(C:z5)(N:zN)(Q:zQ)(b d c:za)(h:zb):Prop:=B.pv (V.zde b) λe=>B.pv (V.bin .lss c e) λa=>B.gd h a true (λK=>K b h) λf h=>B.gd h a true (λK=>K c h) λg h=>B.gd h a true (λK=>B.pv (V.zda 1 f g) λv=>K v h) λi h=>B.gd h a true (λK=>B.ld h i λv=>K v h) λj h=>B.gd h a true (λK=>K d h) λk h=>B.gd h a true (λK=>B.pv (V.bin .eql j k) λv=>K v h) λl h=>B.pick a l (.bool false) λm=>B.cond m (Q b h) (B.pv (V.zh9 1 b none (some c)) λn=>B.zim h 1 16 .sz n λo h=>B.zf2 h (zee [(0,none,d)] (zf7 1 [.str []])) λp h=>B.zim h 1 16 o (.sl p 0 0 1 1 1) λq h=>B.pv (V.zh9 1 b (some c) none) λr=>B.zim h 1 16 q r λs h=>Q s h)
@[simp] def zdr.k2(Q:zQ)(Y1:zL)(c d b:za)(h:zb):Prop:=B.pv (V.zde c) λn=>B.pv (V.bin .lss b n) λa=>B.gd h a true (λK=>K c h) λe h=>B.gd h a true (λK=>K b h) λf h=>B.gd h a true (λK=>B.pv (V.zda 1 e f) λv=>K v h) λg h=>B.gd h a true (λK=>B.ld h g λv=>K v h) λi h=>B.gd h a true (λK=>K d h) λj h=>B.gd h a true (λK=>B.pv (V.bin .lss i j) λv=>K v h) λk h=>B.pick a k (.bool false) λl=>B.cond l (B.pv (V.bin .add b (.int .i64 1)) λm=>Y1 [m] h) (zdr.k1 C N Q c d b h)
@[simp] def zdr.l3(Q:zQ)(a b:za):zG|[c],h,Y1=>zdr.k2 C N Q Y1 a b c h|_,_,_=>False
@[simp] def zdr.cps(a b:za)(h:zb)(Q:zQ):Prop:=z0 (zdr.l3 C N Q a b) [(.int .i64 0)] h
def zdr.Imp:Prop:=im2 C (N 517) (zdr.cps C N)
@[simp] def zdu.k1(Q:zQ)(r e s:za)(h:zb):Prop:=B.pv (A.boxN 4 r) λb=>B.al b (B.pv (V.zfa 1 b) λt=>B.call C (N 527) [t,e] h λa h=>B.al b (B.gd h a false (λK=>K .undef h) λ_ h=>B.gd h a false (λK=>B.pv (V.zfa 3 b) λv=>K v h) λf h=>B.gd h a false (λK=>B.pv (V.bin .gtr f (.int .i64 0)) λv=>K v h) λg h=>B.gd h a false (λK=>K g h) λc h=>B.al b (B.gd h c true (λK=>K .undef h) λ_ h=>B.gd h c true (λK=>B.pv (V.zfa 3 b) λv=>K v h) λi h=>B.gd h c true (λK=>K s h) λj h=>B.gd h c true (λK=>B.pv (V.bin .lss i j) λv=>K v h) λk h=>B.gd h a false (λK=>B.pick c k (.bool false) λv=>K v h) λl h=>B.gd h a false (λK=>K l h) λd h=>B.al b (B.gd h d true (λK=>K .undef h) λ_ h=>B.gd h d true (λK=>B.pv (V.zfa 2 b) λv=>K v h) λm h=>B.gd h d true (λK=>K e h) λn h=>B.gd h d true (λK=>B.call C (N 527) [m,n] h K) λo h=>B.gd h a false (λK=>B.pick d o (.bool false) λv=>K v h) λp h=>B.pick a (.bool true) p λq=>Q q h))))
@[simp] def zdu.cps(a b c:za)(h:zb)(Q:zQ):Prop:=zdu.k1 C N Q a b c h
def zdu.Imp:Prop:=im3 C (N 518) (zdu.cps C N)
@[simp] def zd3.k1(C:z5)(N:zN)(Q:zQ)(Y1:zL)(b g a:za)(h:zb):Prop:=B.pv (V.zde b) λi=>B.pv (V.bin .lss a i) λj=>B.cond j (B.pv (V.zda 1 b a) λc=>B.ld h c λd=>B.pv (V.bin .eql d g) λe=>B.cond e (Q (.bool true) h) (B.pv (V.bin .add a (.int .i64 1)) λf=>Y1 [f] h)) (Q (.bool false) h)
@[simp] def zd3.l2(Q:zQ)(a b:za):zG|[c],h,Y1=>zd3.k1 C N Q Y1 a b c h|_,_,_=>False
@[simp] def zd3.cps(a b:za)(h:zb)(Q:zQ):Prop:=z0 (zd3.l2 C N Q a b) [(.int .i64 0)] h
def zd3.Imp:Prop:=im2 C (N 519) (zd3.cps C N)
@[simp] def zb0.k1(C:z5)(N:zN)(Q:zQ)(b d c:za)(h:zb):Prop:=B.pv (V.zde b) λe=>B.pv (V.bin .lss c e) λa=>B.gd h a true (λK=>K b h) λf h=>B.gd h a true (λK=>K c h) λg h=>B.gd h a true (λK=>B.pv (V.zda 1 f g) λv=>K v h) λi h=>B.gd h a true (λK=>B.ld h i λv=>K v h) λj h=>B.gd h a true (λK=>K d h) λk h=>B.gd h a true (λK=>B.pv (V.bin .eql j k) λv=>K v h) λl h=>B.pick a l (.bool false) λm=>B.cond m (Q b h) (B.pv (V.zh9 1 b none (some c)) λn=>B.zim h 1 8 .sz n λo h=>B.zf2 h (zee [(0,none,d)] (zf7 1 [.int .i64 0])) λp h=>B.zim h 1 8 o (.sl p 0 0 1 1 1) λq h=>B.pv (V.zh9 1 b (some c) none) λr=>B.zim h 1 8 q r λs h=>Q s h)
@[simp] def zb0.k2(Q:zQ)(Y1:zL)(c d b:za)(h:zb):Prop:=B.pv (V.zde c) λn=>B.pv (V.bin .lss b n) λa=>B.gd h a true (λK=>K c h) λe h=>B.gd h a true (λK=>K b h) λf h=>B.gd h a true (λK=>B.pv (V.zda 1 e f) λv=>K v h) λg h=>B.gd h a true (λK=>B.ld h g λv=>K v h) λi h=>B.gd h a true (λK=>K d h) λj h=>B.gd h a true (λK=>B.pv (V.bin .lss i j) λv=>K v h) λk h=>B.pick a k (.bool false) λl=>B.cond l (B.pv (V.bin .add b (.int .i64 1)) λm=>Y1 [m] h) (zb0.k1 C N Q c d b h)
@[simp] def zb0.l3(Q:zQ)(a b:za):zG|[c],h,Y1=>zb0.k2 C N Q Y1 a b c h|_,_,_=>False
@[simp] def zb0.cps(a b:za)(h:zb)(Q:zQ):Prop:=z0 (zb0.l3 C N Q a b) [(.int .i64 0)] h
def zb0.Imp:Prop:=im2 C (N 520) (zb0.cps C N)
@[simp] def zr.k1(Q:zQ)(Y1:zL)(Y2:zL)(Y3:zL)(m b n l c a:za)(h:zb):Prop:=B.pv (V.zde c) λd=>B.pv (V.bin .lss a d) λe=>B.cond e (B.pv (V.zda 1 c a) λf=>B.ld h f λg=>B.call C (N 520) [b,g] h λi h=>B.pv (V.bin .add a (.int .i64 1)) λj=>Y3 [i,j] h) (B.pv (V.bin .add l (.int .i64 1)) λk=>Y2 [b,k] h)
@[simp] def zr.l2(Q:zQ)(Y1:zL)(Y2:zL)(a b c d:za):zG|[e,f],h,Y3=>zr.k1 C N Q Y1 Y2 Y3 a e b c d f h|_,_,_=>False
@[simp] def zr.k3(Q:zQ)(Y1:zL)(Y2:zL)(a b g c:za)(h:zb):Prop:=B.pv (V.zda 1 b c) λd=>B.ld h d λe=>B.call C (N 503) [a,e] h λf h=>z0 (zr.l2 C N Q Y1 Y2 a g c f) [b,(.int .i64 0)] h
@[simp] def zr.l4(Q:zQ)(Y1:zL)(e a:za):zG|[b,c],h,Y2=>B.pv (V.bin .lss c a) λd=>B.cond d (zr.k3 C N Q Y1 Y2 e b a c h) (Y1 [b,a] h)|_,_,_=>False
@[simp] def zr.k5(Q:zQ)(Y1:zL)(e a f:za)(h:zb):Prop:=B.pv (V.zde a) λb=>B.pv (V.bin .neq f b) λc=>B.cond c (B.pv (V.zde a) λd=>z0 (zr.l4 C N Q Y1 e d) [a,(.int .i64 0)] h) (Q a h)
@[simp] def zr.l6(Q:zQ)(a:za):zG|[b,c],h,Y1=>zr.k5 C N Q Y1 a b c h|_,_,_=>False
@[simp] def zr.cps(a c:za)(h:zb)(Q:zQ):Prop:=B.call C (N 503) [a,c] h λb h=>z0 (zr.l6 C N Q a) [b,(.int .i64 (-1))] h
def zr.Imp:Prop:=im2 C (N 521) (zr.cps C N)
@[simp] def zdp.k1(C:z5)(N:zN)(Q:zQ)(Y1:zL)(b g a:za)(h:zb):Prop:=B.pv (V.zde b) λi=>B.pv (V.bin .lss a i) λj=>B.cond j (B.pv (V.zda 1 b a) λc=>B.ld h c λd=>B.pv (V.bin .eql d g) λe=>B.cond e (Q (.bool true) h) (B.pv (V.bin .add a (.int .i64 1)) λf=>Y1 [f] h)) (Q (.bool false) h)
@[simp] def zdp.l2(Q:zQ)(a b:za):zG|[c],h,Y1=>zdp.k1 C N Q Y1 a b c h|_,_,_=>False
@[simp] def zdp.cps(a b:za)(h:zb)(Q:zQ):Prop:=z0 (zdp.l2 C N Q a b) [(.int .i64 0)] h
def zdp.Imp:Prop:=im2 C (N 522) (zdp.cps C N)
@[simp] def zc7.k1(Q:zQ)(Y1:zL)(b j a:za)(h:zb):Prop:=B.pv (V.zde b) λc=>B.pv (V.bin .lss a c) λd=>B.cond d (B.pv (V.zda 1 b a) λe=>B.ld h e λf=>B.call C (N 519) [j,f] h λg h=>B.cond g (Q (.bool true) h) (B.pv (V.bin .add a (.int .i64 1)) λi=>Y1 [i] h)) (Q (.bool false) h)
@[simp] def zc7.l2(Q:zQ)(a b:za):zG|[c],h,Y1=>zc7.k1 C N Q Y1 a b c h|_,_,_=>False
@[simp] def zc7.k3(Q:zQ)(b c:za)(h:zb):Prop:=B.call C (N 519) [b,(.str [42])] h λa h=>B.gd h a false (λK=>K c h) λd h=>B.gd h a false (λK=>B.call C (N 519) [d,(.str [42])] h K) λe h=>B.pick a (.bool true) e λf=>B.cond f (Q (.bool true) h) (z0 (zc7.l2 C N Q b c) [(.int .i64 0)] h)
@[simp] def zc7.k4(Q:zQ)(b c:za)(h:zb):Prop:=B.pv (V.zde b) λi=>B.pv (V.bin .eql i (.int .i64 0)) λa=>B.gd h a false (λK=>K c h) λd h=>B.gd h a false (λK=>B.pv (V.zde d) λv=>K v h) λe h=>B.gd h a false (λK=>B.pv (V.bin .eql e (.int .i64 0)) λv=>K v h) λf h=>B.pick a (.bool true) f λg=>B.cond g (Q (.bool false) h) (zc7.k3 C N Q b c h)
@[simp] def zc7.cps(a b:za)(h:zb)(Q:zQ):Prop:=zc7.k4 C N Q a b h
def zc7.Imp:Prop:=im2 C (N 527) (zc7.cps C N)
@[simp] def zgd.k1(C:z5)(E:zbc)(f1 f2:Nat)(Q:zQ)(a:za)(h:zb):Prop:=B.pv (V.zde a) λb=>B.pv (V.toInt .u64 b) λc=>B.call C f1 [c] h λd h=>B.call C f2 [a,(.int .i64 0),b,d] h λe h=>Q (.tup []) h
@[simp] def zgd.cps(C:z5)(E:zbc)(f1 f2:Nat)(a:za)(h:zb)(Q:zQ):Prop:=zgd.k1 C E f1 f2 Q a h
@[simp] def zn.k1(C:z5)(E:zbc)(f1 f2 f3 f4 f5 f6 f7 f8 f9 f10:Nat)(Q:zQ)(Y1:zL)(d c e f v8 v9 s g:za)(h:zb):Prop:=B.pv (V.bin .gtr c (.int .i64 0)) λa=>B.gd h a true (λK=>K d h) λt h=>B.gd h a true (λK=>K c h) λu h=>B.gd h a true (λK=>B.pv (V.bin .sub u (.int .i64 1)) λv=>K v h) λw h=>B.gd h a true (λK=>B.pv (V.zda E.es t w) λv=>K v h) λx h=>B.gd h a true (λK=>E.ld h x λv=>K v h) λy h=>B.gd h a true (λK=>K d h) λz h=>B.gd h a true (λK=>K g h) λaa h=>B.gd h a true (λK=>B.pv (V.zda E.es z aa) λv=>K v h) λab h=>B.gd h a true (λK=>E.ld h ab λv=>K v h) λac h=>B.gd h a true (λK=>B.call C f1 [y,ac] h K) λad h=>B.gd h a true (λK=>B.pv (V.un .not ad) λv=>K v h) λae h=>B.pick a ae (.bool false) λaf=>B.cond af (B.call C f2 [d,c,e,g] h λag h=>Y1 [ag,e,f,v8,v9] h) (B.call C f3 [d,c,e,g] h λm h=>B.pv (V.ext 0 m) λb=>B.pv (V.ext 1 m) λi=>B.pv (V.bin .sub b c) λj=>B.pv (V.bin .sub e b) λk=>B.pv (V.bin .quo s (.int .i64 8)) λl=>B.pv (V.bin .lss j k) λn=>B.cond n (B.pv (V.bin .geq j l) λo=>B.call C f4 [d,c,b,f] h λaj h=>B.pv (V.bin .add b (.int .i64 1)) λp=>Y1 [p,e,f,o,i] h) (B.pv (V.bin .geq k l) λq=>B.pv (V.bin .add b (.int .i64 1)) λr=>B.call C f4 [d,r,e,f] h λak h=>Y1 [c,b,f,q,i] h))
@[simp] def zn.k2(C:z5)(E:zbc)(f1 f2 f3 f4 f5 f6 f7 f8 f9 f10:Nat)(Q:zQ)(Y1:zL)(e f g j b i c d k:za)(h:zb):Prop:=B.gd h b true (λK=>K i h) λl h=>B.pick b l (.bool false) λa=>B.gd h a true (λK=>K k h) λm h=>B.gd h a true (λK=>B.pv (V.bin .eql m (.int .i64 1)) λv=>K v h) λn h=>B.pick a n (.bool false) λo=>B.cond o (B.call C f5 [e,f,g] h λp h=>B.cond p (Q (.tup []) h) (zn.k1 C E f1 f2 f3 f4 f5 f6 f7 f8 f9 f10 Q Y1 e f g j b i c d h)) (zn.k1 C E f1 f2 f3 f4 f5 f6 f7 f8 f9 f10 Q Y1 e f g j b i c d h)
@[simp] def zn.k3(C:z5)(E:zbc)(f1 f2 f3 f4 f5 f6 f7 f8 f9 f10:Nat)(Q:zQ)(Y1:zL)(f a b g i j c d e:za)(h:zb):Prop:=B.pv (V.bin .eql e (.int .i64 2)) λk=>B.cond k (B.call C f6 [f,a,b] h λo h=>B.pv (V.bin .sub b (.int .i64 1)) λl=>B.pv (V.bin .sub d a) λm=>B.pv (V.bin .sub l m) λn=>zn.k2 C E f1 f2 f3 f4 f5 f6 f7 f8 f9 f10 Q Y1 f a b g i j c n (.int .i64 1) h) (zn.k2 C E f1 f2 f3 f4 f5 f6 f7 f8 f9 f10 Q Y1 f a b g i j c d e h)
@[simp] def zn.k4(C:z5)(E:zbc)(f1 f2 f3 f4 f5 f6 f7 f8 f9 f10:Nat)(Q:zQ)(Y1:zL)(b c d i j k e:za)(h:zb):Prop:=B.call C f7 [b,c,d] h λa h=>B.pv (V.ext 0 a) λf=>B.pv (V.ext 1 a) λg=>zn.k3 C E f1 f2 f3 f4 f5 f6 f7 f8 f9 f10 Q Y1 b c d i j k e f g h
@[simp] def zn.k5(C:z5)(E:zbc)(f1 f2 f3 f4 f5 f6 f7 f8 f9 f10:Nat)(Q:zQ)(Y1:zL)(b c d f e g a:za)(h:zb):Prop:=B.pv (V.un .not e) λi=>B.cond i (B.call C f8 [b,c,d] h λk h=>B.pv (V.bin .sub f (.int .i64 1)) λj=>zn.k4 C E f1 f2 f3 f4 f5 f6 f7 f8 f9 f10 Q Y1 b c d j e g a h) (zn.k4 C E f1 f2 f3 f4 f5 f6 f7 f8 f9 f10 Q Y1 b c d f e g a h)
@[simp] def zn.k6(C:z5)(E:zbc)(f1 f2 f3 f4 f5 f6 f7 f8 f9 f10:Nat)(Q:zQ)(Y1:zL)(a b c d g i e:za)(h:zb):Prop:=B.pv (V.bin .eql d (.int .i64 0)) λf=>B.cond f (B.call C f9 [a,b,c] h λj h=>Q (.tup []) h) (zn.k5 C E f1 f2 f3 f4 f5 f6 f7 f8 f9 f10 Q Y1 a b c d g i e h)
@[simp] def zn.k7(C:z5)(E:zbc)(f1 f2 f3 f4 f5 f6 f7 f8 f9 f10:Nat)(Q:zQ)(Y1:zL)(b c d f g i a:za)(h:zb):Prop:=B.pv (V.bin .leq a (.int .i64 12)) λe=>B.cond e (B.call C f10 [b,c,d] h λj h=>Q (.tup []) h) (zn.k6 C E f1 f2 f3 f4 f5 f6 f7 f8 f9 f10 Q Y1 b c d f g i a h)
@[simp] def zn.l8(C:z5)(E:zbc)(f1 f2 f3 f4 f5 f6 f7 f8 f9 f10:Nat)(Q:zQ)(d:za):zG|[a,b,e,f,g],h,Y1=>B.pv (V.bin .sub b a) λc=>zn.k7 C E f1 f2 f3 f4 f5 f6 f7 f8 f9 f10 Q Y1 d a b e f g c h|_,_,_=>False
@[simp] def zn.cps(C:z5)(E:zbc)(f1 f2 f3 f4 f5 f6 f7 f8 f9 f10:Nat)(a b c d:za)(h:zb)(Q:zQ):Prop:=z0 (zn.l8 C E f1 f2 f3 f4 f5 f6 f7 f8 f9 f10 Q a) [b,c,d,(.bool true),(.bool true)] h
@[simp] def z6.k1(C:z5)(E:zbc)(f1:Nat)(Q:zQ)(Y1:zL)(Y2:zL)(c v1 v2 v6 b:za)(h:zb):Prop:=B.pv (V.bin .gtr b v1) λa=>B.gd h a true (λK=>K c h) λd h=>B.gd h a true (λK=>K b h) λe h=>B.gd h a true (λK=>B.pv (V.zda E.es d e) λv=>K v h) λf h=>B.gd h a true (λK=>E.ld h f λv=>K v h) λg h=>B.gd h a true (λK=>K c h) λi h=>B.gd h a true (λK=>K b h) λj h=>B.gd h a true (λK=>B.pv (V.bin .sub j (.int .i64 1)) λv=>K v h) λk h=>B.gd h a true (λK=>B.pv (V.zda E.es i k) λv=>K v h) λl h=>B.gd h a true (λK=>E.ld h l λv=>K v h) λm h=>B.gd h a true (λK=>B.call C f1 [g,m] h K) λn h=>B.pick a n (.bool false) λo=>B.cond o (B.pv (V.bin .sub b (.int .i64 1)) λp=>B.pv (V.bin .sub b (.int .i64 1)) λq=>B.pv (V.zda E.es c q) λr=>E.ld h r λs=>B.pv (V.zda E.es c b) λt=>E.ld h t λu=>B.pv (V.zda E.es c b) λw=>E.st h w s λh=>B.pv (V.zda E.es c p) λx=>E.st h x u λh=>B.pv (V.bin .sub b (.int .i64 1)) λy=>Y2 [y] h) (B.pv (V.bin .add v6 (.int .i64 1)) λz=>Y1 [z] h)
@[simp] def z6.l2(C:z5)(E:zbc)(f1:Nat)(Q:zQ)(Y1:zL)(a b c d:za):zG|[e],h,Y2=>z6.k1 C E f1 Q Y1 Y2 a b c d e h|_,_,_=>False
@[simp] def z6.l3(C:z5)(E:zbc)(f1:Nat)(Q:zQ)(d e b:za):zG|[a],h,Y1=>B.pv (V.bin .lss a b) λc=>B.cond c (z0 (z6.l2 C E f1 Q Y1 d e b a) [a] h) (Q (.tup []) h)|_,_,_=>False
@[simp] def z6.cps(C:z5)(E:zbc)(f1:Nat)(b a c:za)(h:zb)(Q:zQ):Prop:=B.pv (V.bin .add a (.int .i64 1)) λd=>z0 (z6.l3 C E f1 Q b a c) [d] h
@[simp] def zx.k1(C:z5)(E:zbc)(f1:Nat)(Q:zQ)(Y1:zL)(b c o a:za)(h:zb):Prop:=B.pv (V.bin .geq a (.int .i64 0)) λd=>B.cond d (B.pv (V.bin .add c a) λe=>B.pv (V.bin .add c a) λf=>B.pv (V.zda E.es b f) λg=>E.ld h g λi=>B.pv (V.zda E.es b c) λj=>E.ld h j λk=>B.pv (V.zda E.es b c) λl=>E.st h l i λh=>B.pv (V.zda E.es b e) λm=>E.st h m k λh=>B.call C f1 [b,o,a,c] h λp h=>B.pv (V.bin .sub a (.int .i64 1)) λn=>Y1 [n] h) (Q (.tup []) h)
@[simp] def zx.l2(C:z5)(E:zbc)(f1:Nat)(Q:zQ)(b c d:za):zG|[a],h,Y1=>zx.k1 C E f1 Q Y1 b c d a h|_,_,_=>False
@[simp] def zx.k3(C:z5)(E:zbc)(f1:Nat)(Q:zQ)(Y2:zL)(b c i d a:za)(h:zb):Prop:=B.pv (V.bin .geq a (.int .i64 0)) λe=>B.cond e (B.call C f1 [b,a,d,c] h λj h=>B.pv (V.bin .sub a (.int .i64 1)) λf=>Y2 [f] h) (B.pv (V.bin .sub d (.int .i64 1)) λg=>z0 (zx.l2 C E f1 Q b c i) [g] h)
@[simp] def zx.l4(C:z5)(E:zbc)(f1:Nat)(Q:zQ)(a b c d:za):zG|[e],h,Y2=>zx.k3 C E f1 Q Y2 a b c d e h|_,_,_=>False
@[simp] def zx.k5(C:z5)(E:zbc)(f1:Nat)(Q:zQ)(d e f a:za)(h:zb):Prop:=B.pv (V.bin .sub a (.int .i64 1)) λb=>B.pv (V.bin .quo b (.int .i64 2)) λc=>z0 (zx.l4 C E f1 Q d e f a) [c] h
@[simp] def zx.cps(C:z5)(E:zbc)(f1:Nat)(c a d:za)(h:zb)(Q:zQ):Prop:=B.pv (V.bin .sub d a) λb=>zx.k5 C E f1 Q c a (.int .i64 0) b h
@[simp] def zi.k1(C:z5)(E:zbc)(f1 f2:Nat)(Q:zQ)(Y1:zL)(a d o p q c b:za)(h:zb):Prop:=B.pv (V.bin .add d b) λe=>B.pv (V.bin .add d b) λf=>B.pv (V.zda E.es a f) λg=>E.ld h g λi=>B.pv (V.zda E.es a c) λj=>E.ld h j λk=>B.pv (V.zda E.es a c) λl=>E.st h l i λh=>B.pv (V.zda E.es a e) λm=>E.st h m k λh=>B.pv (V.bin .add c (.int .i64 1)) λn=>Y1 [n] h
@[simp] def zi.k2(C:z5)(E:zbc)(f1 f2:Nat)(Q:zQ)(Y1:zL)(c d b e f g a:za)(h:zb):Prop:=B.pv (V.bin .geq a b) λi=>B.cond i (B.pv (V.bin .sub a b) λj=>zi.k1 C E f1 f2 Q Y1 c d b e f g j h) (zi.k1 C E f1 f2 Q Y1 c d b e f g a h)
@[simp] def zi.k3(C:z5)(E:zbc)(f1 f2:Nat)(Q:zQ)(Y1:zL)(g i j a b k:za)(h:zb):Prop:=B.call C f1 [a] h λc h=>B.pv (V.bin .sub b (.int .u64 1)) λd=>B.pv (V.bin .and c d) λe=>B.pv (V.toInt .i64 e) λf=>zi.k2 C E f1 f2 Q Y1 g i j a b k f h
@[simp] def zi.k4(C:z5)(E:zbc)(f1 f2:Nat)(Q:zQ)(Y1:zL)(j a b k l c:za)(h:zb):Prop:=B.pv (V.bin .quo b (.int .i64 4)) λd=>B.pv (V.bin .mul d (.int .i64 2)) λe=>B.pv (V.bin .add a e) λf=>B.pv (V.bin .add f (.int .i64 1)) λg=>B.pv (V.bin .leq c g) λi=>B.cond i (zi.k3 C E f1 f2 Q Y1 j a b k l c h) (Q (.tup []) h)
@[simp] def zi.l5(C:z5)(E:zbc)(f1 f2:Nat)(Q:zQ)(a b c d e:za):zG|[f],h,Y1=>zi.k4 C E f1 f2 Q Y1 a b c d e f h|_,_,_=>False
@[simp] def zi.k6(C:z5)(E:zbc)(f1 f2:Nat)(Q:zQ)(g a b i j:za)(h:zb):Prop:=B.pv (V.bin .quo b (.int .i64 4)) λc=>B.pv (V.bin .mul c (.int .i64 2)) λd=>B.pv (V.bin .add a d) λe=>B.pv (V.bin .sub e (.int .i64 1)) λf=>z0 (zi.l5 C E f1 f2 Q g a b i j) [f] h
@[simp] def zi.k7(C:z5)(E:zbc)(f1 f2:Nat)(Q:zQ)(e f a:za)(h:zb):Prop:=B.pv (V.toInt .u64 a) λb=>B.zf2 h (some [.int .u64 0]) λc h=>B.st h (.ptr c 0 0) b λh=>B.call C f2 [a] h λd h=>zi.k6 C E f1 f2 Q e f a (.ptr c 0 0) d h
@[simp] def zi.k8(C:z5)(E:zbc)(f1 f2:Nat)(Q:zQ)(d b e:za)(h:zb):Prop:=B.pv (V.bin .sub e b) λa=>B.pv (V.bin .geq a (.int .i64 8)) λc=>B.cond c (zi.k7 C E f1 f2 Q d b a h) (Q (.tup []) h)
@[simp] def zi.cps(C:z5)(E:zbc)(f1 f2:Nat)(a b c:za)(h:zb)(Q:zQ):Prop:=zi.k8 C E f1 f2 Q a b c h
@[simp] def zp.k1(C:z5)(E:zbc)(f1 f2:Nat)(Q:zQ)(e a:za)(h:zb):Prop:=B.ld h e λb=>B.pv (V.bin .eql b (.int .i64 0)) λc=>B.cond c (Q (.tup [a,(.int .i64 1)]) h) (B.pv (V.bin .eql b (.int .i64 12)) λd=>B.cond d (Q (.tup [a,(.int .i64 2)]) h) (Q (.tup [a,(.int .i64 0)]) h))
@[simp] def zp.k2(C:z5)(E:zbc)(f1 f2:Nat)(Q:zQ)(b g a e c f:za)(h:zb):Prop:=B.pv (V.bin .geq g (.int .i64 8)) λi=>B.cond i (B.pv (V.bin .geq g (.int .i64 50)) λj=>B.cond j (B.call C f1 [b,e,a] h λk h=>B.call C f1 [b,c,a] h λl h=>B.call C f1 [b,f,a] h λm h=>B.call C f2 [b,k,l,m,a] h λd h=>zp.k1 C E f1 f2 Q a d h) (B.call C f2 [b,e,c,f,a] h λd h=>zp.k1 C E f1 f2 Q a d h)) (zp.k1 C E f1 f2 Q a c h)
@[simp] def zp.k3(C:z5)(E:zbc)(f1 f2:Nat)(Q:zQ)(g i a j b c:za)(h:zb):Prop:=B.pv (V.bin .quo a (.int .i64 4)) λd=>B.pv (V.bin .mul d (.int .i64 3)) λe=>B.pv (V.bin .add i e) λf=>zp.k2 C E f1 f2 Q g a j b c f h
@[simp] def zp.k4(C:z5)(E:zbc)(f1 f2:Nat)(Q:zQ)(g a b i c:za)(h:zb):Prop:=B.pv (V.bin .quo b (.int .i64 4)) λd=>B.pv (V.bin .mul d (.int .i64 2)) λe=>B.pv (V.bin .add a e) λf=>zp.k3 C E f1 f2 Q g a b i c f h
@[simp] def zp.k5(C:z5)(E:zbc)(f1 f2:Nat)(Q:zQ)(f a b g:za)(h:zb):Prop:=B.pv (V.bin .quo b (.int .i64 4)) λc=>B.pv (V.bin .mul c (.int .i64 1)) λd=>B.pv (V.bin .add a d) λe=>zp.k4 C E f1 f2 Q f a b g e h
@[simp] def zp.cps(C:z5)(E:zbc)(f1 f2:Nat)(c a d:za)(h:zb)(Q:zQ):Prop:=B.pv (V.bin .sub d a) λb=>B.zf2 h (some [.int .i64 0]) λe h=>zp.k5 C E f1 f2 Q c a b (.ptr e 0 0) h
@[simp] def zbx.k1(C:z5)(E:zbc)(Q:zQ)(Y1:zL)(a b c:za)(h:zb):Prop:=B.pv (V.bin .lss b c) λd=>B.cond d (B.pv (V.zda E.es a c) λe=>E.ld h e λf=>B.pv (V.zda E.es a b) λg=>E.ld h g λi=>B.pv (V.zda E.es a b) λj=>E.st h j f λh=>B.pv (V.zda E.es a c) λk=>E.st h k i λh=>B.pv (V.bin .add b (.int .i64 1)) λl=>B.pv (V.bin .sub c (.int .i64 1)) λm=>Y1 [l,m] h) (Q (.tup []) h)
@[simp] def zbx.l2(C:z5)(E:zbc)(Q:zQ)(a:za):zG|[b,c],h,Y1=>zbx.k1 C E Q Y1 a b c h|_,_,_=>False
@[simp] def zbx.cps(C:z5)(E:zbc)(b c d:za)(h:zb)(Q:zQ):Prop:=B.pv (V.bin .sub d (.int .i64 1)) λa=>z0 (zbx.l2 C E Q b) [c,a] h
@[simp] def zd.k1(C:z5)(E:zbc)(f1:Nat)(Q:zQ)(Y1:zL)(Y2:zL)(b y x v w a:za)(h:zb):Prop:=B.pv (V.bin .lss a x) λd=>B.cond d (B.pv (V.zda E.es b a) λe=>E.ld h e λf=>B.pv (V.bin .sub a (.int .i64 1)) λg=>B.pv (V.zda E.es b g) λi=>E.ld h i λj=>B.call C f1 [f,j] h λk h=>B.pv (V.un .not k) λl=>B.cond l (B.pv (V.bin .add w (.int .i64 1)) λc=>Y1 [v,c] h) (B.pv (V.bin .sub a (.int .i64 1)) λm=>B.pv (V.bin .sub a (.int .i64 1)) λn=>B.pv (V.zda E.es b n) λo=>E.ld h o λp=>B.pv (V.zda E.es b a) λq=>E.ld h q λr=>B.pv (V.zda E.es b a) λs=>E.st h s p λh=>B.pv (V.zda E.es b m) λt=>E.st h t r λh=>B.pv (V.bin .add a (.int .i64 1)) λu=>Y2 [u] h)) (B.pv (V.bin .add w (.int .i64 1)) λc=>Y1 [v,c] h)
@[simp] def zd.l2(C:z5)(E:zbc)(f1:Nat)(Q:zQ)(Y1:zL)(b c d e f:za):zG|[a],h,Y2=>zd.k1 C E f1 Q Y1 Y2 b c d e f a h|_,_,_=>False
@[simp] def zd.k3(C:z5)(E:zbc)(f1:Nat)(Q:zQ)(Y1:zL)(i j c a d:za)(h:zb):Prop:=B.pv (V.bin .sub c a) λe=>B.pv (V.bin .geq e (.int .i64 2)) λf=>B.cond f (B.pv (V.bin .add a (.int .i64 1)) λb=>z0 (zd.l2 C E f1 Q Y1 i j c a d) [b] h) (B.pv (V.bin .add d (.int .i64 1)) λg=>Y1 [a,g] h)
@[simp] def zd.k4(C:z5)(E:zbc)(f1:Nat)(Q:zQ)(Y1:zL)(Y3:zL)(a c d e f b:za)(h:zb):Prop:=B.pv (V.bin .geq b (.int .i64 1)) λg=>B.cond g (B.pv (V.zda E.es a b) λi=>E.ld h i λj=>B.pv (V.bin .sub b (.int .i64 1)) λk=>B.pv (V.zda E.es a k) λl=>E.ld h l λm=>B.call C f1 [j,m] h λn h=>B.pv (V.un .not n) λo=>B.cond o (zd.k3 C E f1 Q Y1 a c d e f h) (B.pv (V.bin .sub b (.int .i64 1)) λp=>B.pv (V.bin .sub b (.int .i64 1)) λq=>B.pv (V.zda E.es a q) λr=>E.ld h r λs=>B.pv (V.zda E.es a b) λt=>E.ld h t λu=>B.pv (V.zda E.es a b) λv=>E.st h v s λh=>B.pv (V.zda E.es a p) λw=>E.st h w u λh=>B.pv (V.bin .sub b (.int .i64 1)) λx=>Y3 [x] h)) (zd.k3 C E f1 Q Y1 a c d e f h)
@[simp] def zd.l5(C:z5)(E:zbc)(f1:Nat)(Q:zQ)(Y1:zL)(a b c d e:za):zG|[f],h,Y3=>zd.k4 C E f1 Q Y1 Y3 a b c d e f h|_,_,_=>False
@[simp] def zd.k6(C:z5)(E:zbc)(f1:Nat)(Q:zQ)(Y1:zL)(c b d a e:za)(h:zb):Prop:=B.pv (V.bin .sub a b) λf=>B.pv (V.bin .geq f (.int .i64 2)) λg=>B.cond g (B.pv (V.bin .sub a (.int .i64 1)) λi=>z0 (zd.l5 C E f1 Q Y1 c b d a e) [i] h) (zd.k3 C E f1 Q Y1 c b d a e h)
@[simp] def zd.k7(C:z5)(E:zbc)(f1:Nat)(Q:zQ)(Y1:zL)(a l m b n:za)(h:zb):Prop:=B.pv (V.bin .sub b (.int .i64 1)) λc=>B.pv (V.bin .sub b (.int .i64 1)) λd=>B.pv (V.zda E.es a d) λe=>E.ld h e λf=>B.pv (V.zda E.es a b) λg=>E.ld h g λi=>B.pv (V.zda E.es a b) λj=>E.st h j f λh=>B.pv (V.zda E.es a c) λk=>E.st h k i λh=>zd.k6 C E f1 Q Y1 a l m b n h
@[simp] def zd.k8(C:z5)(E:zbc)(f1:Nat)(Q:zQ)(Y1:zL)(e a b f g:za)(h:zb):Prop:=B.pv (V.bin .sub b a) λc=>B.pv (V.bin .lss c (.int .i64 50)) λd=>B.cond d (Q (.bool false) h) (zd.k7 C E f1 Q Y1 e a b f g h)
@[simp] def zd.k9(C:z5)(E:zbc)(f1:Nat)(Q:zQ)(Y1:zL)(Y4:zL)(c t d b u:za)(h:zb):Prop:=B.pv (V.bin .lss b d) λa=>B.gd h a true (λK=>K c h) λe h=>B.gd h a true (λK=>K b h) λf h=>B.gd h a true (λK=>B.pv (V.zda E.es e f) λv=>K v h) λg h=>B.gd h a true (λK=>E.ld h g λv=>K v h) λi h=>B.gd h a true (λK=>K c h) λj h=>B.gd h a true (λK=>K b h) λk h=>B.gd h a true (λK=>B.pv (V.bin .sub k (.int .i64 1)) λv=>K v h) λl h=>B.gd h a true (λK=>B.pv (V.zda E.es j l) λv=>K v h) λm h=>B.gd h a true (λK=>E.ld h m λv=>K v h) λn h=>B.gd h a true (λK=>B.call C f1 [i,n] h K) λo h=>B.gd h a true (λK=>B.pv (V.un .not o) λv=>K v h) λp h=>B.pick a p (.bool false) λq=>B.cond q (B.pv (V.bin .add b (.int .i64 1)) λr=>Y4 [r] h) (B.pv (V.bin .eql b d) λs=>B.cond s (Q (.bool true) h) (zd.k8 C E f1 Q Y1 c t d b u h))
@[simp] def zd.l10(C:z5)(E:zbc)(f1:Nat)(Q:zQ)(Y1:zL)(a b c d:za):zG|[e],h,Y4=>zd.k9 C E f1 Q Y1 Y4 a b c e d h|_,_,_=>False
@[simp] def zd.k11(C:z5)(E:zbc)(f1:Nat)(Q:zQ)(Y1:zL)(c d e f a:za)(h:zb):Prop:=B.pv (V.bin .lss a (.int .i64 5)) λb=>B.cond b (z0 (zd.l10 C E f1 Q Y1 c d e a) [f] h) (Q (.bool false) h)
@[simp] def zd.l12(C:z5)(E:zbc)(f1:Nat)(Q:zQ)(a b c:za):zG|[d,e],h,Y1=>zd.k11 C E f1 Q Y1 a b c d e h|_,_,_=>False
@[simp] def zd.cps(C:z5)(E:zbc)(f1:Nat)(c a d:za)(h:zb)(Q:zQ):Prop:=B.pv (V.bin .add a (.int .i64 1)) λb=>z0 (zd.l12 C E f1 Q c a d) [b,(.int .i64 0)] h
@[simp] def zk.k1(C:z5)(E:zbc)(f1:Nat)(Q:zQ)(Y1:zL)(c n b a:za)(h:zb):Prop:=B.pv (V.bin .gtr b a) λd=>B.cond d (Q b h) (B.pv (V.zda E.es c a) λe=>E.ld h e λf=>B.pv (V.zda E.es c b) λg=>E.ld h g λi=>B.pv (V.zda E.es c b) λj=>E.st h j f λh=>B.pv (V.zda E.es c a) λk=>E.st h k i λh=>B.pv (V.bin .add b (.int .i64 1)) λl=>B.pv (V.bin .sub a (.int .i64 1)) λm=>Y1 [l,m] h)
@[simp] def zk.k2(C:z5)(E:zbc)(f1:Nat)(Q:zQ)(Y1:zL)(Y2:zL)(c d e b:za)(h:zb):Prop:=B.pv (V.bin .leq e b) λa=>B.gd h a true (λK=>K c h) λf h=>B.gd h a true (λK=>K d h) λg h=>B.gd h a true (λK=>B.pv (V.zda E.es f g) λv=>K v h) λi h=>B.gd h a true (λK=>E.ld h i λv=>K v h) λj h=>B.gd h a true (λK=>K c h) λk h=>B.gd h a true (λK=>K b h) λl h=>B.gd h a true (λK=>B.pv (V.zda E.es k l) λv=>K v h) λm h=>B.gd h a true (λK=>E.ld h m λv=>K v h) λn h=>B.gd h a true (λK=>B.call C f1 [j,n] h K) λo h=>B.pick a o (.bool false) λp=>B.cond p (B.pv (V.bin .sub b (.int .i64 1)) λq=>Y2 [q] h) (zk.k1 C E f1 Q Y1 c d e b h)
@[simp] def zk.l3(C:z5)(E:zbc)(f1:Nat)(Q:zQ)(Y1:zL)(b c d:za):zG|[a],h,Y2=>zk.k2 C E f1 Q Y1 Y2 b c d a h|_,_,_=>False
@[simp] def zk.k4(C:z5)(E:zbc)(f1:Nat)(Q:zQ)(Y1:zL)(Y3:zL)(d e b c:za)(h:zb):Prop:=B.pv (V.bin .leq b c) λa=>B.gd h a true (λK=>K d h) λf h=>B.gd h a true (λK=>K e h) λg h=>B.gd h a true (λK=>B.pv (V.zda E.es f g) λv=>K v h) λi h=>B.gd h a true (λK=>E.ld h i λv=>K v h) λj h=>B.gd h a true (λK=>K d h) λk h=>B.gd h a true (λK=>K b h) λl h=>B.gd h a true (λK=>B.pv (V.zda E.es k l) λv=>K v h) λm h=>B.gd h a true (λK=>E.ld h m λv=>K v h) λn h=>B.gd h a true (λK=>B.call C f1 [j,n] h K) λo h=>B.gd h a true (λK=>B.pv (V.un .not o) λv=>K v h) λp h=>B.pick a p (.bool false) λq=>B.cond q (B.pv (V.bin .add b (.int .i64 1)) λr=>Y3 [r] h) (z0 (zk.l3 C E f1 Q Y1 d e b) [c] h)
@[simp] def zk.l5(C:z5)(E:zbc)(f1:Nat)(Q:zQ)(Y1:zL)(b c a:za):zG|[d],h,Y3=>zk.k4 C E f1 Q Y1 Y3 b c d a h|_,_,_=>False
@[simp] def zk.l6(C:z5)(E:zbc)(f1:Nat)(Q:zQ)(b c:za):zG|[d,a],h,Y1=>z0 (zk.l5 C E f1 Q Y1 b c a) [d] h|_,_,_=>False
@[simp] def zk.k7(C:z5)(E:zbc)(f1:Nat)(Q:zQ)(d a e:za)(h:zb):Prop:=B.pv (V.bin .add a (.int .i64 1)) λb=>B.pv (V.bin .sub e (.int .i64 1)) λc=>z0 (zk.l6 C E f1 Q d a) [b,c] h
@[simp] def zk.k8(C:z5)(E:zbc)(f1:Nat)(Q:zQ)(a b k c:za)(h:zb):Prop:=B.pv (V.zda E.es a c) λd=>E.ld h d λe=>B.pv (V.zda E.es a b) λf=>E.ld h f λg=>B.pv (V.zda E.es a b) λi=>E.st h i e λh=>B.pv (V.zda E.es a c) λj=>E.st h j g λh=>zk.k7 C E f1 Q a b k h
@[simp] def zk.cps(C:z5)(E:zbc)(f1:Nat)(a b c d:za)(h:zb)(Q:zQ):Prop:=zk.k8 C E f1 Q a b c d h
@[simp] def zf.k1(C:z5)(E:zbc)(f1:Nat)(Q:zQ)(b j a:za)(h:zb):Prop:=B.pv (V.zda E.es b j) λc=>E.ld h c λd=>B.pv (V.zda E.es b a) λe=>E.ld h e λf=>B.pv (V.zda E.es b a) λg=>E.st h g d λh=>B.pv (V.zda E.es b j) λi=>E.st h i f λh=>Q (.tup [a,(.bool false)]) h
@[simp] def zf.k2(C:z5)(E:zbc)(f1:Nat)(Q:zQ)(Y1:zL)(c n b a:za)(h:zb):Prop:=B.pv (V.bin .gtr b a) λd=>B.cond d (zf.k1 C E f1 Q c n a h) (B.pv (V.zda E.es c a) λe=>E.ld h e λf=>B.pv (V.zda E.es c b) λg=>E.ld h g λi=>B.pv (V.zda E.es c b) λj=>E.st h j f λh=>B.pv (V.zda E.es c a) λk=>E.st h k i λh=>B.pv (V.bin .add b (.int .i64 1)) λl=>B.pv (V.bin .sub a (.int .i64 1)) λm=>Y1 [l,m] h)
@[simp] def zf.k3(C:z5)(E:zbc)(f1:Nat)(Q:zQ)(Y1:zL)(Y2:zL)(d r c b:za)(h:zb):Prop:=B.pv (V.bin .leq c b) λa=>B.gd h a true (λK=>K d h) λe h=>B.gd h a true (λK=>K b h) λf h=>B.gd h a true (λK=>B.pv (V.zda E.es e f) λv=>K v h) λg h=>B.gd h a true (λK=>E.ld h g λv=>K v h) λi h=>B.gd h a true (λK=>K d h) λj h=>B.gd h a true (λK=>K r h) λk h=>B.gd h a true (λK=>B.pv (V.zda E.es j k) λv=>K v h) λl h=>B.gd h a true (λK=>E.ld h l λv=>K v h) λm h=>B.gd h a true (λK=>B.call C f1 [i,m] h K) λn h=>B.gd h a true (λK=>B.pv (V.un .not n) λv=>K v h) λo h=>B.pick a o (.bool false) λp=>B.cond p (B.pv (V.bin .sub b (.int .i64 1)) λq=>Y2 [q] h) (zf.k2 C E f1 Q Y1 d r c b h)
@[simp] def zf.l4(C:z5)(E:zbc)(f1:Nat)(Q:zQ)(Y1:zL)(c d a:za):zG|[b],h,Y2=>zf.k3 C E f1 Q Y1 Y2 c d a b h|_,_,_=>False
@[simp] def zf.k5(C:z5)(E:zbc)(f1:Nat)(Q:zQ)(Y1:zL)(Y3:zL)(d q b c:za)(h:zb):Prop:=B.pv (V.bin .leq b c) λa=>B.gd h a true (λK=>K d h) λe h=>B.gd h a true (λK=>K b h) λf h=>B.gd h a true (λK=>B.pv (V.zda E.es e f) λv=>K v h) λg h=>B.gd h a true (λK=>E.ld h g λv=>K v h) λi h=>B.gd h a true (λK=>K d h) λj h=>B.gd h a true (λK=>K q h) λk h=>B.gd h a true (λK=>B.pv (V.zda E.es j k) λv=>K v h) λl h=>B.gd h a true (λK=>E.ld h l λv=>K v h) λm h=>B.gd h a true (λK=>B.call C f1 [i,m] h K) λn h=>B.pick a n (.bool false) λo=>B.cond o (B.pv (V.bin .add b (.int .i64 1)) λp=>Y3 [p] h) (z0 (zf.l4 C E f1 Q Y1 d q b) [c] h)
@[simp] def zf.l6(C:z5)(E:zbc)(f1:Nat)(Q:zQ)(Y1:zL)(c d a:za):zG|[b],h,Y3=>zf.k5 C E f1 Q Y1 Y3 c d b a h|_,_,_=>False
@[simp] def zf.l7(C:z5)(E:zbc)(f1:Nat)(Q:zQ)(c d:za):zG|[a,b],h,Y1=>z0 (zf.l6 C E f1 Q Y1 c d b) [a] h|_,_,_=>False
@[simp] def zf.k8(C:z5)(E:zbc)(f1:Nat)(Q:zQ)(e f a b:za)(h:zb):Prop:=B.pv (V.bin .add a (.int .i64 1)) λc=>B.pv (V.bin .sub b (.int .i64 1)) λd=>z0 (zf.l7 C E f1 Q e f) [c,d] h
@[simp] def zf.k9(C:z5)(E:zbc)(f1:Nat)(Q:zQ)(a k b c:za)(h:zb):Prop:=B.pv (V.zda E.es a c) λd=>E.ld h d λe=>B.pv (V.zda E.es a b) λf=>E.ld h f λg=>B.pv (V.zda E.es a b) λi=>E.st h i e λh=>B.pv (V.zda E.es a c) λj=>E.st h j g λh=>zf.k8 C E f1 Q a k b c h
@[simp] def zf.k10(C:z5)(E:zbc)(f1:Nat)(Q:zQ)(b d c a:za)(h:zb):Prop:=B.pv (V.bin .gtr c a) λe=>B.cond e (B.pv (V.zda E.es b d) λf=>E.ld h f λg=>B.pv (V.zda E.es b a) λi=>E.ld h i λj=>B.pv (V.zda E.es b a) λk=>E.st h k g λh=>B.pv (V.zda E.es b d) λl=>E.st h l j λh=>Q (.tup [a,(.bool true)]) h) (zf.k9 C E f1 Q b d c a h)
@[simp] def zf.k11(C:z5)(E:zbc)(f1:Nat)(Q:zQ)(Y4:zL)(d e c b:za)(h:zb):Prop:=B.pv (V.bin .leq c b) λa=>B.gd h a true (λK=>K d h) λf h=>B.gd h a true (λK=>K b h) λg h=>B.gd h a true (λK=>B.pv (V.zda E.es f g) λv=>K v h) λi h=>B.gd h a true (λK=>E.ld h i λv=>K v h) λj h=>B.gd h a true (λK=>K d h) λk h=>B.gd h a true (λK=>K e h) λl h=>B.gd h a true (λK=>B.pv (V.zda E.es k l) λv=>K v h) λm h=>B.gd h a true (λK=>E.ld h m λv=>K v h) λn h=>B.gd h a true (λK=>B.call C f1 [j,n] h K) λo h=>B.gd h a true (λK=>B.pv (V.un .not o) λv=>K v h) λp h=>B.pick a p (.bool false) λq=>B.cond q (B.pv (V.bin .sub b (.int .i64 1)) λr=>Y4 [r] h) (zf.k10 C E f1 Q d e c b h)
@[simp] def zf.l12(C:z5)(E:zbc)(f1:Nat)(Q:zQ)(c d a:za):zG|[b],h,Y4=>zf.k11 C E f1 Q Y4 c d a b h|_,_,_=>False
@[simp] def zf.k13(C:z5)(E:zbc)(f1:Nat)(Q:zQ)(Y5:zL)(d e b c:za)(h:zb):Prop:=B.pv (V.bin .leq b c) λa=>B.gd h a true (λK=>K d h) λf h=>B.gd h a true (λK=>K b h) λg h=>B.gd h a true (λK=>B.pv (V.zda E.es f g) λv=>K v h) λi h=>B.gd h a true (λK=>E.ld h i λv=>K v h) λj h=>B.gd h a true (λK=>K d h) λk h=>B.gd h a true (λK=>K e h) λl h=>B.gd h a true (λK=>B.pv (V.zda E.es k l) λv=>K v h) λm h=>B.gd h a true (λK=>E.ld h m λv=>K v h) λn h=>B.gd h a true (λK=>B.call C f1 [j,n] h K) λo h=>B.pick a o (.bool false) λp=>B.cond p (B.pv (V.bin .add b (.int .i64 1)) λq=>Y5 [q] h) (z0 (zf.l12 C E f1 Q d e b) [c] h)
@[simp] def zf.l14(C:z5)(E:zbc)(f1:Nat)(Q:zQ)(c d a:za):zG|[b],h,Y5=>zf.k13 C E f1 Q Y5 c d b a h|_,_,_=>False
@[simp] def zf.k15(C:z5)(E:zbc)(f1:Nat)(Q:zQ)(d a e:za)(h:zb):Prop:=B.pv (V.bin .add a (.int .i64 1)) λb=>B.pv (V.bin .sub e (.int .i64 1)) λc=>z0 (zf.l14 C E f1 Q d a c) [b] h
@[simp] def zf.k16(C:z5)(E:zbc)(f1:Nat)(Q:zQ)(a b k c:za)(h:zb):Prop:=B.pv (V.zda E.es a c) λd=>E.ld h d λe=>B.pv (V.zda E.es a b) λf=>E.ld h f λg=>B.pv (V.zda E.es a b) λi=>E.st h i e λh=>B.pv (V.zda E.es a c) λj=>E.st h j g λh=>zf.k15 C E f1 Q a b k h
@[simp] def zf.cps(C:z5)(E:zbc)(f1:Nat)(a b c d:za)(h:zb)(Q:zQ):Prop:=zf.k16 C E f1 Q a b c d h
@[simp] def z9.k1(C:z5)(E:zbc)(f1:Nat)(Q:zQ)(Y1:zL)(a x b d c:za)(h:zb):Prop:=B.pv (V.bin .add b d) λe=>B.pv (V.zda E.es a e) λf=>E.ld h f λg=>B.pv (V.bin .add b c) λi=>B.pv (V.zda E.es a i) λj=>E.ld h j λk=>B.call C f1 [g,k] h λl h=>B.pv (V.un .not l) λm=>B.cond m (Q (.tup []) h) (B.pv (V.bin .add b d) λn=>B.pv (V.bin .add b c) λo=>B.pv (V.bin .add b c) λp=>B.pv (V.zda E.es a p) λq=>E.ld h q λr=>B.pv (V.bin .add b d) λs=>B.pv (V.zda E.es a s) λt=>E.ld h t λu=>B.pv (V.zda E.es a n) λv=>E.st h v r λh=>B.pv (V.zda E.es a o) λw=>E.st h w u λh=>Y1 [c] h)
@[simp] def z9.k2(C:z5)(E:zbc)(f1:Nat)(Q:zQ)(Y1:zL)(c e d f b:za)(h:zb):Prop:=B.pv (V.bin .add b (.int .i64 1)) λg=>B.pv (V.bin .lss g e) λa=>B.gd h a true (λK=>K c h) λi h=>B.gd h a true (λK=>K d h) λj h=>B.gd h a true (λK=>K b h) λk h=>B.gd h a true (λK=>B.pv (V.bin .add j k) λv=>K v h) λl h=>B.gd h a true (λK=>B.pv (V.zda E.es i l) λv=>K v h) λm h=>B.gd h a true (λK=>E.ld h m λv=>K v h) λn h=>B.gd h a true (λK=>K c h) λo h=>B.gd h a true (λK=>K d h) λp h=>B.gd h a true (λK=>K b h) λq h=>B.gd h a true (λK=>B.pv (V.bin .add p q) λv=>K v h) λr h=>B.gd h a true (λK=>B.pv (V.bin .add r (.int .i64 1)) λv=>K v h) λs h=>B.gd h a true (λK=>B.pv (V.zda E.es o s) λv=>K v h) λt h=>B.gd h a true (λK=>E.ld h t λv=>K v h) λu h=>B.gd h a true (λK=>B.call C f1 [n,u] h K) λw h=>B.pick a w (.bool false) λx=>B.cond x (B.pv (V.bin .add b (.int .i64 1)) λy=>z9.k1 C E f1 Q Y1 c e d f y h) (z9.k1 C E f1 Q Y1 c e d f b h)
@[simp] def z9.k3(C:z5)(E:zbc)(f1:Nat)(Q:zQ)(Y1:zL)(f b g c:za)(h:zb):Prop:=B.pv (V.bin .mul (.int .i64 2) c) λd=>B.pv (V.bin .add d (.int .i64 1)) λa=>B.pv (V.bin .geq a b) λe=>B.cond e (Q (.tup []) h) (z9.k2 C E f1 Q Y1 f b g c a h)
@[simp] def z9.l4(C:z5)(E:zbc)(f1:Nat)(Q:zQ)(a b c:za):zG|[d],h,Y1=>z9.k3 C E f1 Q Y1 a b c d h|_,_,_=>False
@[simp] def z9.cps(C:z5)(E:zbc)(f1:Nat)(a b c d:za)(h:zb)(Q:zQ):Prop:=z0 (z9.l4 C E f1 Q a c d) [b] h
@[simp] def zel.cps(C:z5)(E:zbc)(f1:Nat)(d a e:za)(h:zb)(Q:zQ):Prop:=B.pv (V.bin .sub a (.int .i64 1)) λf=>B.pv (V.bin .add a (.int .i64 1)) λb=>B.call C f1 [d,f,a,b,e] h λc h=>Q c h
@[simp] def zep.k1(C:z5)(E:zbc)(f1:Nat)(Q:zQ)(d k l m e:za)(h:zb):Prop:=B.call C f1 [d,k,l,e] h λa h=>B.pv (V.ext 0 a) λf=>B.pv (V.ext 1 a) λg=>B.call C f1 [d,g,m,e] h λb h=>B.pv (V.ext 0 b) λi=>B.pv (V.ext 1 b) λn=>B.call C f1 [d,f,i,e] h λc h=>B.pv (V.ext 0 c) λo=>B.pv (V.ext 1 c) λj=>Q j h
@[simp] def zep.cps(C:z5)(E:zbc)(f1:Nat)(a b c d e:za)(h:zb)(Q:zQ):Prop:=zep.k1 C E f1 Q a b c d e h
@[simp] def zeo.k1(C:z5)(E:zbc)(f1:Nat)(Q:zQ)(c a b d:za)(h:zb):Prop:=B.pv (V.zda E.es c b) λe=>E.ld h e λf=>B.pv (V.zda E.es c a) λg=>E.ld h g λi=>B.call C f1 [f,i] h λj h=>B.cond j (B.nilCheck d λk=>B.ld h k λl=>B.pv (V.bin .add l (.int .i64 1)) λm=>B.nilCheck d λn=>B.st h n m λh=>Q (.tup [b,a]) h) (Q (.tup [a,b]) h)
@[simp] def zeo.cps(C:z5)(E:zbc)(f1:Nat)(a b c d:za)(h:zb)(Q:zQ):Prop:=zeo.k1 C E f1 Q a b c d h
@[simp] def zcs.k1(C:z5)(E:zbc)(Q:zQ)(Z1:Nat->zb->Prop)(a d:za)(h:zb):Prop:=B.ld h a λe=>B.zf2 h (zee [(0,E.kp,d)] (zf7 1 E.z)) λb h=>B.zim h E.es E.bytes e (.sl b 0 0 1 E.es 1) λc h=>B.st h a c λh=>Z1 0 h
@[simp] def zcs.r2(C:z5)(E:zbc)(Q:zQ)(a:za)(b:za)(h:zb)(Z1:Nat->zb->Prop):Prop:=zcs.k1 C E Q Z1 a b h
@[simp] def zcs.k3(C:z5)(E:zbc)(Q:zQ)(c d:za)(h:zb):Prop:=B.zf2 h (A.zjs c) λa h=>zpm C d (W1 λe h Z1=>zcs.r2 C E Q (.ptr a 0 0) e h Z1) h (RK [(0,λh=>B.ld h (.ptr a 0 0) λb=>Q b h)])
@[simp] def zcs.cps(C:z5)(E:zbc)(a b:za)(h:zb)(Q:zQ):Prop:=zcs.k3 C E Q a b h
@[simp] def zci.k1(C:z5)(N:zN)(Q:zQ)(a:za)(h:zb):Prop:=B.nilCheck a λu=>B.ld h u λv=>B.nilCheck a λw=>B.ld h w λx=>B.pv (V.bin .shl x (.int .u64 13)) λy=>B.pv (V.bin .xor v y) λb=>B.nilCheck a λc=>B.st h c b λh=>B.nilCheck a λd=>B.ld h d λe=>B.nilCheck a λf=>B.ld h f λg=>B.pv (V.bin .shr g (.int .u64 7)) λi=>B.pv (V.bin .xor e i) λj=>B.nilCheck a λk=>B.st h k j λh=>B.nilCheck a λl=>B.ld h l λm=>B.nilCheck a λn=>B.ld h n λo=>B.pv (V.bin .shl o (.int .u64 17)) λp=>B.pv (V.bin .xor m p) λq=>B.nilCheck a λr=>B.st h r q λh=>B.nilCheck a λs=>B.ld h s λt=>Q t h
variable(C:z5)(N:Nat→Nat)
@[simp] def zci.cps(a:za)(h:zb)(Q:zQ):Prop:=zci.k1 C N Q a h
def zci.Imp:Prop:=im1 C (N 298) (zci.cps C N)
@[simp] def zc5.cps(a:za)(h:zb)(Q:zQ):Prop:=B.pv (V.toInt .u64 a) λb=>B.call C (N 287) [b] h λc h=>B.pv (V.bin .shl (.int .u64 1) c) λd=>Q d h
def zc5.Imp:Prop:=im1 C (N 299) (zc5.cps C N)
def zbn.cps(a:za)(h:zb)(Q:zQ):Prop:=zgd.cps C (zdh 16 (.str []) 0) (N 287) (N 375) a h Q
def zbn.Imp:Prop:=im1 C (N 364) (zbn.cps C N)
def zcm.cps(a b c d:za)(h:zb)(Q:zQ):Prop:=zn.cps C (zdh 16 (.str []) 0) (N 377) (N 378) (N 379) (N 375) (N 380) (N 381) (N 382) (N 383) (N 384) (N 385) a b c d h Q
def zcm.Imp:Prop:=im4 C (N 375) (zcm.cps C N)
def zbp.cps(a b c d:za)(h:zb)(Q:zQ):Prop:=zk.cps C (zdh 16 (.str []) 0) (N 377) a b c d h Q
def zbp.Imp:Prop:=im4 C (N 378) (zbp.cps C N)
def zb8.cps(a b c d:za)(h:zb)(Q:zQ):Prop:=zf.cps C (zdh 16 (.str []) 0) (N 377) a b c d h Q
def zb8.Imp:Prop:=im4 C (N 379) (zb8.cps C N)
def zbd.cps(a b c:za)(h:zb)(Q:zQ):Prop:=zd.cps C (zdh 16 (.str []) 0) (N 377) a b c h Q
def zbd.Imp:Prop:=im3 C (N 380) (zbd.cps C N)
def zbw.cps(C:z5)(N:zN)(a b c:za)(h:zb)(Q:zQ):Prop:=zbx.cps C (zdh 16 (.str []) 0) a b c h Q
def zbw.Imp:Prop:=im3 C (N 381) (zbw.cps C N)
def zb2.cps(a b c:za)(h:zb)(Q:zQ):Prop:=zp.cps C (zdh 16 (.str []) 0) (N 387) (N 388) a b c h Q
def zb2.Imp:Prop:=im3 C (N 382) (zb2.cps C N)
def zbv.cps(a b c:za)(h:zb)(Q:zQ):Prop:=zi.cps C (zdh 16 (.str []) 0) (N 298) (N 299) a b c h Q
def zbv.Imp:Prop:=im3 C (N 383) (zbv.cps C N)
def zcg.cps(a b c:za)(h:zb)(Q:zQ):Prop:=zx.cps C (zdh 16 (.str []) 0) (N 386) a b c h Q
def zcg.Imp:Prop:=im3 C (N 384) (zcg.cps C N)
def zbu.cps(a b c:za)(h:zb)(Q:zQ):Prop:=z6.cps C (zdh 16 (.str []) 0) (N 377) a b c h Q
def zbu.Imp:Prop:=im3 C (N 385) (zbu.cps C N)
def zce.cps(a b c d:za)(h:zb)(Q:zQ):Prop:=z9.cps C (zdh 16 (.str []) 0) (N 377) a b c d h Q
def zce.Imp:Prop:=im4 C (N 386) (zce.cps C N)
def zbq.cps(a b c:za)(h:zb)(Q:zQ):Prop:=zel.cps C (zdh 16 (.str []) 0) (N 388) a b c h Q
def zbq.Imp:Prop:=im3 C (N 387) (zbq.cps C N)
def zcx.cps(a b c d e:za)(h:zb)(Q:zQ):Prop:=zep.cps C (zdh 16 (.str []) 0) (N 390) a b c d e h Q
def zcx.Imp:Prop:=im5 C (N 388) (zcx.cps C N)
def zcw.cps(a b c d:za)(h:zb)(Q:zQ):Prop:=zeo.cps C (zdh 16 (.str []) 0) (N 377) a b c d h Q
def zcw.Imp:Prop:=im4 C (N 390) (zcw.cps C N)
@[simp] def zca.cps(b:za)(h:zb)(Q:zQ):Prop:=B.call C (N 529) [b] h λa h=>B.call C (N 364) [a] h λc h=>Q a h
def zca.Imp:Prop:=im1 C (N 510) (zca.cps C N)
def zbl.cps(a:za)(h:zb)(Q:zQ):Prop:=zgd.cps C (zdh 8 (.int .i64 0) 0) (N 287) (N 531) a h Q
def zbl.Imp:Prop:=im1 C (N 511) (zbl.cps C N)
@[simp] def zcj.cps(b:za)(h:zb)(Q:zQ):Prop:=B.call C (N 530) [b] h λa h=>B.call C (N 511) [a] h λc h=>Q a h
def zcj.Imp:Prop:=im1 C (N 515) (zcj.cps C N)
@[simp] def zdf.cps(a:za)(h:zb)(Q:zQ):Prop:=B.call C (N 532) [.zed,a] h λb h=>Q b h
def zdf.Imp:Prop:=im1 C (N 529) (zdf.cps C N)
@[simp] def zdj.cps(a:za)(h:zb)(Q:zQ):Prop:=B.call C (N 533) [.zed,a] h λb h=>Q b h
def zdj.Imp:Prop:=im1 C (N 530) (zdj.cps C N)
def zcv.cps(a b c d:za)(h:zb)(Q:zQ):Prop:=zn.cps C (zdh 8 (.int .i64 0) 0) (N 534) (N 535) (N 536) (N 531) (N 537) (N 538) (N 539) (N 540) (N 541) (N 542) a b c d h Q
def zcv.Imp:Prop:=im4 C (N 531) (zcv.cps C N)
def zb9.cps(C:z5)(N:zN)(a b:za)(h:zb)(Q:zQ):Prop:=zcs.cps C (zdh 16 (.str []) 0) a b h Q
def zb9.Imp:Prop:=im2 C (N 532) (zb9.cps C N)
def zco.cps(C:z5)(N:zN)(a b:za)(h:zb)(Q:zQ):Prop:=zcs.cps C (zdh 8 (.int .i64 0) 0) a b h Q
def zco.Imp:Prop:=im2 C (N 533) (zco.cps C N)
def zbs.cps(a b c d:za)(h:zb)(Q:zQ):Prop:=zk.cps C (zdh 8 (.int .i64 0) 0) (N 534) a b c d h Q
def zbs.Imp:Prop:=im4 C (N 535) (zbs.cps C N)
def zcf.cps(a b c d:za)(h:zb)(Q:zQ):Prop:=zf.cps C (zdh 8 (.int .i64 0) 0) (N 534) a b c d h Q
def zcf.Imp:Prop:=im4 C (N 536) (zcf.cps C N)
def zbf.cps(a b c:za)(h:zb)(Q:zQ):Prop:=zd.cps C (zdh 8 (.int .i64 0) 0) (N 534) a b c h Q
def zbf.Imp:Prop:=im3 C (N 537) (zbf.cps C N)
def zb1.cps(C:z5)(N:zN)(a b c:za)(h:zb)(Q:zQ):Prop:=zbx.cps C (zdh 8 (.int .i64 0) 0) a b c h Q
def zb1.Imp:Prop:=im3 C (N 538) (zb1.cps C N)
def zb5.cps(a b c:za)(h:zb)(Q:zQ):Prop:=zp.cps C (zdh 8 (.int .i64 0) 0) (N 544) (N 545) a b c h Q
def zb5.Imp:Prop:=im3 C (N 539) (zb5.cps C N)
def zbz.cps(a b c:za)(h:zb)(Q:zQ):Prop:=zi.cps C (zdh 8 (.int .i64 0) 0) (N 298) (N 299) a b c h Q
def zbz.Imp:Prop:=im3 C (N 540) (zbz.cps C N)
def zcn.cps(a b c:za)(h:zb)(Q:zQ):Prop:=zx.cps C (zdh 8 (.int .i64 0) 0) (N 543) a b c h Q
def zcn.Imp:Prop:=im3 C (N 541) (zcn.cps C N)
def zby.cps(a b c:za)(h:zb)(Q:zQ):Prop:=z6.cps C (zdh 8 (.int .i64 0) 0) (N 534) a b c h Q
def zby.Imp:Prop:=im3 C (N 542) (zby.cps C N)
def zcl.cps(a b c d:za)(h:zb)(Q:zQ):Prop:=z9.cps C (zdh 8 (.int .i64 0) 0) (N 534) a b c d h Q
def zcl.Imp:Prop:=im4 C (N 543) (zcl.cps C N)
def zbt.cps(a b c:za)(h:zb)(Q:zQ):Prop:=zel.cps C (zdh 8 (.int .i64 0) 0) (N 545) a b c h Q
def zbt.Imp:Prop:=im3 C (N 544) (zbt.cps C N)
def zc3.cps(a b c d e:za)(h:zb)(Q:zQ):Prop:=zep.cps C (zdh 8 (.int .i64 0) 0) (N 547) a b c d e h Q
def zc3.Imp:Prop:=im5 C (N 545) (zc3.cps C N)
def zc2.cps(a b c d:za)(h:zb)(Q:zQ):Prop:=zeo.cps C (zdh 8 (.int .i64 0) 0) (N 534) a b c d h Q
def zc2.Imp:Prop:=im4 C (N 547) (zc2.cps C N)
end Go.Ab
namespace Go.Ab.S24
open List
open Go.Ab Go.Proofs
noncomputable abbrev P:Program:=Try.prog
def lkz:List (Nat×List Nat)->Nat->List Nat|[],_=>[]|(a,b)::r,k=>bif Nat.beq a k then b else lkz r k
def pz(e:List (Nat×List Nat)):Nat->List (Nat×List Nat)|0=>[]|n+1=>pz e n++[(n,lkz e n)]
@[reducible] def LkT(P:Program)(I:Bx)(f:Func)(F:z5->(zQ)->zbr->zb->Prop):Prop:=∀{C:z5}(hC:zk2 C)(Q:zQ)(s:zbr)(h:zb),F C Q s h->bwp P C I (f.body.getD .skip) (retB P I f.results.toList Q) s h
theorem eT{P:Program}{C:z5}{I:Bx}(hC:zk2 C){c:Code}{Q:Ex->zbr->zb->Prop}{s:zbr}{h:zb}(X:zbr->zb->Prop){p:Prop}(hR:p)(hb:∀s h,X s h->bwp P C I (cB c) Q s h)(e:bwp P C I (cA c) (Ex.then X Q) s h=p:=by kernel_rfl)(hk:isS c=true:=by kernel_rfl):bwp P C I c Q s h:=eS hC X (e1 hR e) hb hk
@[reducible] def on1(F:za->zG):List za->zG|[a],u,v,w=>F a u v w|_,_,_,_=>False
@[reducible] def on2(F:za->za->zG):List za->zG|[a,b],u,v,w=>F a b u v w|_,_,_,_=>False
@[reducible] def on3(F:za->za->za->zG):List za->zG|[a,b,c],u,v,w=>F a b c u v w|_,_,_,_=>False
@[reducible] def on4(F:za->za->za->za->zG):List za->zG|[a,b,c,d],u,v,w=>F a b c d u v w|_,_,_,_=>False
@[reducible] def on5(F:za->za->za->za->za->zG):List za->zG|[a,b,c,d,e],u,v,w=>F a b c d e u v w|_,_,_,_=>False
def N(k:Nat):Nat:=[0,0,0,0,0,0,0,0,0,0,0,0,0,0,0,0,0,0,0,0,0,0,0,0,0,0,0,0,0,0,0,0,0,0,0,0,0,0,0,0,0,0,0,0,0,0,0,0,0,0,0,0,0,0,0,0,0,0,0,0,0,0,0,0,0,0,0,0,0,0,0,0,0,0,0,0,0,0,0,0,0,0,0,0,0,0,0,0,0,0,0,0,0,0,0,0,0,0,0,0,0,0,0,0,0,0,43,0,0,0,0,0,0,0,0,0,0,0,0,0,0,0,0,0,0,0,0,0,0,0,0,0,0,21,0,0,0,0,0,0,0,0,0,0,0,0,0,0,0,0,0,0,0,0,0,19,0,0,0,0,0,0,0,0,0,0,0,0,0,0,0,0,0,0,0,0,0,0,0,0,0,0,0,0,0,0,0,0,0,0,0,0,0,0,0,0,0,0,0,0,0,0,0,0,0,0,0,0,0,0,0,0,0,0,0,0,0,0,0,0,0,0,0,0,0,0,0,0,0,0,0,0,0,0,0,0,0,0,0,0,0,0,0,0,0,0,0,0,0,0,0,0,0,0,0,0,0,0,0,0,0,0,0,0,0,0,0,0,0,0,0,0,0,0,0,0,0,0,0,0,0,0,0,0,0,0,0,59,0,0,0,0,0,0,0,0,0,0,86,85,0,0,0,0,73,74,0,0,0,0,0,0,0,0,0,0,0,0,0,0,0,0,0,0,0,0,0,0,0,0,0,0,0,0,0,0,0,0,0,0,0,0,0,0,0,0,0,0,0,0,0,0,0,0,0,0,0,0,0,0,0,0,0,0,53,0,0,0,0,0,0,0,0,0,0,62,0,81,82,83,80,79,78,77,76,75,90,91,92,93,95,0,0,0,0,0,0,0,0,0,0,0,0,0,0,0,24,26,0,27,0,0,0,0,0,0,0,0,0,0,0,0,0,0,0,0,0,0,0,0,0,0,0,0,0,0,0,0,0,0,0,0,0,0,0,0,0,0,0,0,0,0,0,0,0,0,0,0,0,0,0,0,0,0,0,0,0,0,0,0,0,0,0,0,0,0,0,0,0,0,0,0,9,12,11,10,8,3,13,14,15,16,17,4,18,5,20,6,7,22,23,25,28,29,30,31,33,34,32,36,35,41,39,40,38,37,42,45,46,44,47,48,49,50,54,56,57,60,51,52,55,58,61,63,70,71,72,69,68,67,66,65,64,84,87,88,89,94,0,0,0,0,0,0,0,0,0,0,0,0,0,0,0,0,0,0,0,0,0,0,0,0,0,0,0,0,0,0,0,0,0,0,0,0,0,0,0,0,0,0,0,0,0,0,0,0,0,0,0,0,0,0,0,0,0].getD k 0
theorem mixed:P.follows .mixedOrders=true:=by kernel_rfl
def zz.I:Bx:=⟨[],[],61,[]⟩
theorem zz.L:LkT P zz.I Try.f3 λC Q s h=>zz.cps C N (s 0) h Q:=λ{C} k Q s h r=>eT k (λs h=>zz.k6 C N Q (s 0) h) r (λs h r=>eT k (λs h=>B.call C (N 486) [(s 0)] h λa h=>B.cond a (B.call C (N 482) [] h λb h=>Q b h) (zz.k5 C N Q (s 0) h)) r (λs h r=>eT k (λs h=>zz.k5 C N Q (s 0) h) r (λs h r=>eT k (λs h=>B.pv (V.zgk .eql (s 3) .zk4) λc=>B.cond c (Q (.bool false) h) (z0 (zz.l4 C N Q (s 0) (s 3) (s 4)) [(.int .i64 0)] h)) r (λs h r=>eT k (λs h=>z0 (zz.l4 C N Q (s 0) (s 3) (s 4)) [(.int .i64 0)] h) r (λs h r=>eS k (λs h=>z0 (zz.l2 C N Q (s 0) (s 3) (s 4)) [(.int .i64 0)] h) (eT k (λs h=>z0 (zz.l4 C N Q (s 0) (s 3) (s 4)) [(s 5)] h) r (λs h r=>eK (eL k [0,3,4] [5] (on3 (zz.l4 C N Q)) r (λY2 s h r=>e1 r)))) (λs h r=>eS k (λs h=>B.call C (N 482) [] h λd h=>Q d h) (eT k (λs h=>z0 (zz.l2 C N Q (s 0) (s 3) (s 4)) [(s 6)] h) r (λs h r=>eK (eL k [0,3,4] [6] (on3 (zz.l2 C N Q)) r (λY1 s h r=>e1 r)))) (λs h r=>e1 r)))))))
theorem zz.imp:zz.Imp (AC P) N:=λa h Q r=>eF mixed (fn:=Try.f3) (λk=>zz.L k (dn Q) (zcr [a]) h r)
def zct.I:Bx:=⟨[],[],30,[]⟩
theorem zct.L:LkT P zct.I Try.f5 λC Q s h=>zct.cps C N h Q:=λ{C} k Q s h r=>e1 r
theorem zct.imp:zct.Imp (AC P) N:=λh Q r=>eF mixed (fn:=Try.f5) (λk=>zct.L k (dn Q) (zcr []) h r)
def zck.I:Bx:=⟨[],[],45,[]⟩
theorem zck.L:LkT P zck.I Try.f8 λC Q s h=>zck.cps C N (s 0) h Q:=λ{C} k Q s h r=>eT k (λs h=>z0 (zck.l4 C N Q (s 0)) [(.int .i64 0),(.int .i64 0)] h) r (λs h r=>eT k (λs h=>z0 (zck.l4 C N Q (s 0)) [(s 3),(.int .i64 0)] h) r (λs h r=>eS k (λs h=>B.pv (V.bin .gtr (s 3) (.int .i64 2000)) λa=>Q a h) (eT k (λs h=>z0 (zck.l4 C N Q (s 0)) [(s 3),(s 4)] h) r (λs h r=>eK (eL k [0] [3,4] (on1 (zck.l4 C N Q)) r (λY1 s h r=>eT k (λs h=>z0 (zck.l2 C N Q Y1 (s 0) (s 4)) [(s 3),(.int .i64 0)] h) r (λs h r=>eS k (λs h=>B.pv (V.bin .add (s 4) (.int .i64 1)) λb=>Y1 [(s 3),b] h) (eK (eT k (λs h=>z0 (zck.l2 C N Q Y1 (s 0) (s 4)) [(s 3),(s 5)] h) r (λs h r=>eK (eL k [0,4] [3,5] (on2 (zck.l2 C N Q Y1)) r (λY2 s h r=>e1 r))))) (λs h r=>e1 r)))))) (λs h r=>e1 r)))
theorem zck.imp:zck.Imp (AC P) N:=λa h Q r=>eF mixed (fn:=Try.f8) (λk=>zck.L k (dn Q) (zcr [a]) h r)
def zd2.I:Bx:=⟨[],[],88,[]⟩
theorem zd2.L:LkT P zd2.I Try.f9 λC Q s h=>zd2.cps C N h Q:=λ{C} k Q s h r=>e1 r
theorem zd2.imp:zd2.Imp (AC P) N:=λh Q r=>eF mixed (fn:=Try.f9) (λk=>zd2.L k (dn Q) (zcr []) h r)
def zez.I:Bx:=⟨[],[],4,[]⟩
theorem zez.L:LkT P zez.I Try.f10 λC Q s h=>zez.cps C N h Q:=λ{C} k Q s h r=>e1 r
theorem zez.imp:zez.Imp (AC P) N:=λh Q r=>eF mixed (fn:=Try.f10) (λk=>zez.L k (dn Q) (zcr []) h r)
def zd7.I:Bx:=⟨[5],[9,14,18,21,25,30,32,38],45,[(6,[(0,[]),(1,[]),(2,[]),(3,[]),(5,[]),(6,[]),(7,[]),(8,[]),(9,[]),(4,[7,9]),(10,[]),(11,[]),(12,[]),(13,[]),(14,[]),(15,[]),(16,[]),(17,[]),(18,[])])]⟩
theorem zd7.L:LkT P zd7.I Try.f11 λC Q s h=>zd7.cps C N (s 0) (s 1) (s 2) h Q:=λ{C} k Q s h r=>e1 r
theorem zd7.imp:zd7.Imp (AC P) N:=λa b c h Q r=>eF mixed (fn:=Try.f11) (λk=>zd7.L k (dn Q) (zcr [a,b,c]) h r)
def zd8.I:Bx:=⟨[],[],30,[]⟩
theorem zd8.L:LkT P zd8.I Try.f12 λC Q s h=>zd8.cps C N (s 0) (s 1) (s 2) h Q:=λ{C} k Q s h r=>e1 r
theorem zd8.imp:zd8.Imp (AC P) N:=λa b c h Q r=>eF mixed (fn:=Try.f12) (λk=>zd8.L k (dn Q) (zcr [a,b,c]) h r)
def zcp.I:Bx:=⟨[],[],11,[]⟩
theorem zcp.L:LkT P zcp.I Try.f13 λC Q s h=>zcp.cps C N (s 0) (s 1) h Q:=λ{C} k Q s h r=>e1 r
theorem zcp.imp:zcp.Imp (AC P) N:=λa b h Q r=>eF mixed (fn:=Try.f13) (λk=>zcp.L k (dn Q) (zcr [a,b]) h r)
def zu.I:Bx:=⟨[],[],109,[(19,pz [] 9)]⟩
theorem zu.L:LkT P zu.I Try.f14 λC Q s h=>zu.cps C N (s 0) (s 1) (s 2) h Q:=λ{C} k Q s h r=>eT k (λs h=>B.call C (N 505) [(s 0)] h λa h=>B.pv (V.un .not a) λb=>B.cond b (Q (.bool false) h) (zu.k6 C N Q (s 0) (s 1) (s 2) h)) r (λs h r=>eT k (λs h=>zu.k6 C N Q (s 0) (s 1) (s 2) h) r (λs h r=>eT k (λs h=>zu.k5 C N Q (s 0) (s 1) (s 2) (s 7) h) r (λs h r=>eT k (λs h=>B.pv (V.zde (s 2)) λc=>z0 (zu.l4 C N Q (s 0) (s 7) (s 2) c) [(.int .i64 0)] h) r (λs h r=>eS k (λs h=>B.nilCheck (s 7) λd=>B.pv (V.fieldAddr 2 d) λe=>B.ld h e λf=>zu.k2 C N Q (s 0) (s 7) f h) (eT k (λs h=>z0 (zu.l4 C N Q (s 0) (s 7) (s 32) (s 33)) [(s 34)] h) r (λs h r=>eK (eL k [0,7,32,33] [34] (on4 (zu.l4 C N Q)) r (λY1 s h r=>e1 r)))) (λs h r=>eT k (λs h=>zu.k2 C N Q (s 0) (s 7) (s 10) h) r (λs h r=>eT k (λs h=>zu.k1 C N Q (s 0) (s 7) (s 10) h) r (λs h r=>e1 r)))))))
theorem zu.imp:zu.Imp (AC P) N:=λa b c h Q r=>eF mixed (fn:=Try.f14) (λk=>zu.L k (dn Q) (zcr [a,b,c]) h r)
def zc4.I:Bx:=⟨[],[],28,[]⟩
theorem zc4.L:LkT P zc4.I Try.f15 λC Q s h=>zc4.cps C N (s 0) (s 1) h Q:=λ{C} k Q s h r=>e1 r
theorem zc4.imp:zc4.Imp (AC P) N:=λa b h Q r=>eF mixed (fn:=Try.f15) (λk=>zc4.L k (dn Q) (zcr [a,b]) h r)
def zcq.I:Bx:=⟨[],[],47,[(4,pz [] 12)]⟩
theorem zcq.L:LkT P zcq.I Try.f16 λC Q s h=>zcq.cps C N (s 0) (s 1) h Q:=λ{C} k Q s h r=>e1 r
theorem zcq.imp:zcq.Imp (AC P) N:=λa b h Q r=>eF mixed (fn:=Try.f16) (λk=>zcq.L k (dn Q) (zcr [a,b]) h r)
def zw.I:Bx:=⟨[],[],48,[]⟩
theorem zw.L:LkT P zw.I Try.f17 λC Q s h=>zw.cps C N (s 0) h Q:=λ{C} k Q s h r=>eT k (λs h=>B.call C (N 505) [(s 0)] h λe h=>B.pv (V.un .not e) λb=>B.cond b (Q .zed h) (zw.k6 C N Q (s 0) h)) r (λs h r=>eT k (λs h=>zw.k6 C N Q (s 0) h) r (λs h r=>eS k (λs h=>Q .zed h) (eT k (λs h=>z0 (zw.l5 C N Q (s 0) (s 16) (s 17)) [(s 18)] h) r (λs h r=>eK (eL k [0,16,17] [18] (on3 (zw.l5 C N Q)) r (λY1 s h r=>eT k (λs h=>B.cond (s 19) (zw.k4 C N Q Y1 (s 0) (s 16) (s 17) (s 18) h) (Q .zed h)) r (λs h r=>eT k (λs h=>zw.k4 C N Q Y1 (s 0) (s 16) (s 17) (s 18) h) r (λs h r=>eS k (λs h=>B.pv (V.bin .add (s 18) (.int .i64 1)) λc=>Y1 [c] h) (eK (eT k (λs h=>B.call C (N 512) [(s 0),(s 4)] h λd h=>zw.k3 C N Q Y1 (s 0) (s 4) d (s 16) (s 17) (s 18) h) r (λs h r=>eT k (λs h=>zw.k3 C N Q Y1 (s 0) (s 4) (s 5) (s 16) (s 17) (s 18) h) r (λs h r=>eT k (λs h=>B.rangeMap h (s 5) λa h=>z0 (zw.l2 C N Q Y1 (s 0) (s 4) a) [.zed] h) r (λs h r=>eT k (λs h=>B.rangeMap h (s 5) λa h=>z0 (zw.l2 C N Q Y1 (s 0) (s 4) a) [(s 6)] h) r (λs h r=>eS k (λs h=>B.call C (N 511) [(s 6)] h λf h=>Q (s 6) h) (eT k (λs h=>z0 (zw.l2 C N Q Y1 (s 0) (s 4) (s 30)) [(s 6)] h) r (λs h r=>eK (eL k [0,4,30] [6] (on3 (zw.l2 C N Q Y1)) r (λY2 s h r=>e1 r)))) (λs h r=>e1 r))))))) (λs h r=>e1 r))))))) (λs h r=>e1 r)))
theorem zw.imp:zw.Imp (AC P) N:=λa h Q r=>eF mixed (fn:=Try.f17) (λk=>zw.L k (dn Q) (zcr [a]) h r)
def zbm.I:Bx:=⟨[6],[31,40,44],90,[(10,pz [] 11),(20,[(0,[]),(1,[]),(2,[]),(3,[]),(4,[]),(5,[]),(6,[]),(7,[]),(8,[]),(9,[]),(10,[]),(12,[]),(13,[]),(14,[]),(15,[]),(16,[]),(17,[]),(11,[15]),(18,[])])]⟩
theorem zbm.L:LkT P zbm.I Try.f18 λC Q s h=>zbm.cps C N (s 0) h Q:=λ{C} k Q s h r=>eT k (λs h=>z0 (zbm.l8 C N Q (s 0)) [.zed,(.int .i64 0)] h) r (λs h r=>eT k (λs h=>z0 (zbm.l8 C N Q (s 0)) [(s 3),(.int .i64 0)] h) r (λs h r=>eS k (λs h=>B.call C (N 485) [] h λa h=>z0 (zbm.l2 C N Q (s 0) (s 3) a) [(.int .i64 0)] h) (eT k (λs h=>z0 (zbm.l8 C N Q (s 0)) [(s 3),(s 4)] h) r (λs h r=>eK (eL k [0] [3,4] (on1 (zbm.l8 C N Q)) r (λY2 s h r=>eT k (λs h=>B.pv (V.zda 1 (s 0) (s 4)) λb=>B.ld h b λc=>zbm.k6 C N Q Y2 (s 0) (s 3) (s 4) c h) r (λs h r=>eS k (λs h=>B.pv (V.bin .add (s 4) (.int .i64 1)) λd=>Y2 [(s 3),d] h) (eK (eT k (λs h=>zbm.k6 C N Q Y2 (s 0) (s 3) (s 4) (s 5) h) r (λs h r=>eT k (λs h=>z0 (zbm.l5 C N Q Y2 (s 0) (s 3) (s 4) (s 5)) [(.int .i64 2),(s 96)] h) r (λs h r=>eS k (λs h=>zbm.k3 C N Q Y2 (s 0) (s 3) (s 4) (s 5) (s 96) h) (eT k (λs h=>z0 (zbm.l5 C N Q Y2 (s 0) (s 3) (s 4) (s 5)) [(s 7),(s 96)] h) r (λs h r=>eK (eL k [0,3,4,5] [7,96] (on4 (zbm.l5 C N Q Y2)) r (λY3 s h r=>e1 r)))) (λs h r=>e1 r))))) (λs h r=>e1 r)))))) (λs h r=>eT k (λs h=>z0 (zbm.l2 C N Q (s 0) (s 3) (s 8)) [(.int .i64 0)] h) r (λs h r=>eS k (λs h=>B.call C (N 487) [(s 3)] h λe h=>Q e h) (eT k (λs h=>z0 (zbm.l2 C N Q (s 0) (s 3) (s 8)) [(s 9)] h) r (λs h r=>eK (eL k [0,3,8] [9] (on3 (zbm.l2 C N Q)) r (λY1 s h r=>e1 r)))) (λs h r=>e1 r)))))
theorem zbm.imp:zbm.Imp (AC P) N:=λa h Q r=>eF mixed (fn:=Try.f18) (λk=>zbm.L k (dn Q) (zcr [a]) h r)
def zfg.I:Bx:=⟨[],[],16,[]⟩
theorem zfg.L:LkT P zfg.I Try.f19 λC Q s h=>zfg.cps C N (s 0) (s 1) h Q:=λ{C} k Q s h r=>e1 r
theorem zfg.imp:zfg.Imp (AC P) N:=λa b h Q r=>eF mixed (fn:=Try.f19) (λk=>zfg.L k (dn Q) (zcr [a,b]) h r)
def zdk.I:Bx:=⟨[],[],26,[(6,pz [] 9)]⟩
theorem zdk.L:LkT P zdk.I Try.f21 λC Q s h=>zdk.cps C N (s 0) (s 1) h Q:=λ{C} k Q s h r=>eT k (λs h=>zdk.k3 C N Q (s 0) (s 1) h) r (λs h r=>eT k (λs h=>z0 (znm.l4  Q (s 0) (s 1)) [(.int .i64 0)] h) r (λs h r=>eS k (λs h=>Q (.bool true) h) (eT k (λs h=>z0 (znm.l4  Q (s 0) (s 1)) [(s 5)] h) r (λs h r=>eK (eL k [0,1] [5] (on2 (znm.l4  Q)) r (λY1 s h r=>e1 r)))) (λs h r=>e1 r)))
theorem zdk.imp:zdk.Imp (AC P) N:=λa b h Q r=>eF mixed (fn:=Try.f21) (λk=>zdk.L k (dn Q) (zcr [a,b]) h r)
def zdl.I:Bx:=⟨[],[],26,[(6,pz [] 9)]⟩
theorem zdl.L:LkT P zdl.I Try.f22 λC Q s h=>zdl.cps C N (s 0) (s 1) h Q:=λ{C} k Q s h r=>eT k (λs h=>zdl.k3 C N Q (s 0) (s 1) h) r (λs h r=>eT k (λs h=>z0 (znm.l4  Q (s 0) (s 1)) [(.int .i64 0)] h) r (λs h r=>eS k (λs h=>Q (.bool true) h) (eT k (λs h=>z0 (znm.l4  Q (s 0) (s 1)) [(s 5)] h) r (λs h r=>eK (eL k [0,1] [5] (on2 (znm.l4  Q)) r (λY1 s h r=>e1 r)))) (λs h r=>e1 r)))
theorem zdl.imp:zdl.Imp (AC P) N:=λa b h Q r=>eF mixed (fn:=Try.f22) (λk=>zdl.L k (dn Q) (zcr [a,b]) h r)
def zc0.I:Bx:=⟨[],[],29,[(2,[(0,[]),(2,[]),(3,[]),(4,[]),(5,[]),(6,[]),(7,[]),(9,[]),(10,[]),(11,[]),(12,[]),(13,[]),(14,[]),(15,[]),(1,[]),(8,[12]),(16,[]),(17,[]),(18,[]),(19,[])])]⟩
theorem zc0.L:LkT P zc0.I Try.f23 λC Q s h=>zc0.cps C N (s 0) (s 1) h Q:=λ{C} k Q s h r=>e1 r
theorem zc0.imp:zc0.Imp (AC P) N:=λa b h Q r=>eF mixed (fn:=Try.f23) (λk=>zc0.L k (dn Q) (zcr [a,b]) h r)
def zds.I:Bx:=⟨[],[],25,[]⟩
theorem zds.L:LkT P zds.I Try.f24 λC Q s h=>zds.cps C N (s 0) h Q:=λ{C} k Q s h r=>eT k (λs h=>zds.k3 C N Q (s 0) h) r (λs h r=>eT k (λs h=>B.zim h 1 16 (s 3) (s 0) λa h=>z0 (zps.l4 C 16 (N 106) (.str []) 1 Q (s 0)) [a,(.int .i64 0)] h) r (λs h r=>eT k (λs h=>z0 (zps.l4 C 16 (N 106) (.str []) 1 Q (s 0)) [(s 3),(.int .i64 0)] h) r (λs h r=>eS k (λs h=>B.pv (V.zde (s 0)) λb=>B.pv (V.zh9 1 (s 3) none (some b)) λc=>Q c h) (eT k (λs h=>z0 (zps.l4 C 16 (N 106) (.str []) 1 Q (s 0)) [(s 3),(s 4)] h) r (λs h r=>eK (eL k [0] [3,4] (on1 (zps.l4 C 16 (N 106) (.str []) 1 Q)) r (λY1 s h r=>e1 r)))) (λs h r=>e1 r))))
theorem zds.imp:zds.Imp (AC P) N:=λa h Q r=>eF mixed (fn:=Try.f24) (λk=>zds.L k (dn Q) (zcr [a]) h r)
def zj.I:Bx:=⟨[],[],157,[(10,pz [] 18),(28,pz [] 13)]⟩
theorem zj.L:LkT P zj.I Try.f25 λC Q s h=>zj.cps C N (s 0) (s 1) (s 2) h Q:=λ{C} k Q s h r=>eT k (λs h=>B.call C (N 516) [(s 0),(s 1)] h λa h=>zj.k12 C N Q (s 0) (s 1) (s 2) a h) r (λs h r=>eT k (λs h=>zj.k12 C N Q (s 0) (s 1) (s 2) (s 7) h) r (λs h r=>eT k (λs h=>zj.k11 C N Q (s 0) (s 2) (s 7) h) r (λs h r=>eT k (λs h=>zj.k10 C N Q (s 0) (s 2) (s 7) (s 8) h) r (λs h r=>eT k (λs h=>z0 (zj.l9 C N Q (s 0) (s 2) (s 7) (s 8)) [(s 9),(.int .i64 0)] h) r (λs h r=>eS k (λs h=>B.nilCheck (s 8) λb=>B.pv (V.fieldAddr 3 b) λc=>B.ld h c λd=>zj.k7 C N Q (s 0) (s 7) (s 8) (s 9) d h) (eT k (λs h=>z0 (zj.l9 C N Q (s 0) (s 2) (s 7) (s 8)) [(s 9),(s 10)] h) r (λs h r=>eK (eL k [0,2,7,8] [9,10] (on4 (zj.l9 C N Q)) r (λY3 s h r=>e1 r)))) (λs h r=>eT k (λs h=>zj.k7 C N Q (s 0) (s 7) (s 8) (s 9) (s 11) h) r (λs h r=>eT k (λs h=>z0 (zj.l6 C N Q (s 0) (s 7) (s 8) (s 9) (s 11)) [(.bool false),(.int .i64 0)] h) r (λs h r=>eT k (λs h=>z0 (zj.l6 C N Q (s 0) (s 7) (s 8) (s 9) (s 11)) [(s 12),(.int .i64 0)] h) r (λs h r=>eS k (λs h=>zj.k4 C N Q (s 0) (s 8) (s 9) (s 11) (s 12) h) (eT k (λs h=>z0 (zj.l6 C N Q (s 0) (s 7) (s 8) (s 9) (s 11)) [(s 12),(s 13)] h) r (λs h r=>eK (eL k [0,7,8,9,11] [12,13] (on5 (zj.l6 C N Q)) r (λY2 s h r=>e1 r)))) (λs h r=>eT k (λs h=>z0 (zj.l3 C N Q (s 8) (s 9)) [(.int .i64 0)] h) r (λs h r=>eS k (λs h=>zj.k1 C N Q (s 8) h) (eT k (λs h=>z0 (zj.l3 C N Q (s 8) (s 9)) [(s 14)] h) r (λs h r=>eK (eL k [8,9] [14] (on2 (zj.l3 C N Q)) r (λY1 s h r=>e1 r)))) (λs h r=>e1 r))))))))))))
theorem zj.imp:zj.Imp (AC P) N:=λa b c h Q r=>eF mixed (fn:=Try.f25) (λk=>zj.L k (dn Q) (zcr [a,b,c]) h r)
def zdc.I:Bx:=⟨[],[],58,[(7,pz [(30,[25])] 35)]⟩
theorem zdc.L:LkT P zdc.I Try.f26 λC Q s h=>zdc.cps C N (s 0) (s 1) h Q:=λ{C} k Q s h r=>eT k (λs h=>zdc.k4 C N Q (s 0) (s 1) h) r (λs h r=>eT k (λs h=>zdc.k3 C N Q (s 0) (s 1) h) r (λs h r=>eT k (λs h=>z0 (zqy.l4 C (N 106) 1 Q (s 1) (s 5)) [(.int .i64 0)] h) r (λs h r=>eS k (λs h=>Q (.bool true) h) (eT k (λs h=>z0 (zqy.l4 C (N 106) 1 Q (s 1) (s 5)) [(s 6)] h) r (λs h r=>eK (eL k [1,5] [6] (on2 (zqy.l4 C (N 106) 1 Q)) r (λY1 s h r=>e1 r)))) (λs h r=>e1 r))))
theorem zdc.imp:zdc.Imp (AC P) N:=λa b h Q r=>eF mixed (fn:=Try.f26) (λk=>zdc.L k (dn Q) (zcr [a,b]) h r)
def zdv.I:Bx:=⟨[],[],20,[]⟩
theorem zdv.L:LkT P zdv.I Try.f27 λC Q s h=>zdv.cps C N (s 0) h Q:=λ{C} k Q s h r=>eT k (λs h=>z0 (zqq.l3 C 1 (N 106) (λh p v K=>B.st h p v K) 2 Q (s 2)) [(.int .i64 0)] h) r (λs h r=>eT k (λs h=>z0 (zqq.l3 C 1 (N 106) (λh p v K=>B.st h p v K) 2 Q (s 2)) [(s 3)] h) r (λs h r=>eK (eL k [2] [3] (λkv lv h Y1=>match kv with|[a]=>zqq.l3 C 1 (N 106) (λh p v K=>B.st h p v K) 2 Q a lv h Y1|_=>False) r (λY1 s h r=>e1 r))))
theorem zdv.imp:zdv.Imp (AC P) N:=λa h Q r=>eF mixed (fn:=Try.f27) (λk=>zdv.L k (dn Q) (zcr [a]) h r)
def zch.I:Bx:=⟨[],[],21,[]⟩
theorem zch.L:LkT P zch.I Try.f28 λC Q s h=>zch.cps C N (s 0) (s 1) h Q:=λ{C} k Q s h r=>e1 r
theorem zch.imp:zch.Imp (AC P) N:=λa b h Q r=>eF mixed (fn:=Try.f28) (λk=>zch.L k (dn Q) (zcr [a,b]) h r)
def z8.I:Bx:=⟨[],[],73,[(8,pz [] 29)]⟩
theorem z8.L:LkT P z8.I Try.f29 λC Q s h=>z8.cps C N (s 0) (s 1) h Q:=λ{C} k Q s h r=>eT k (λs h=>B.call C (N 516) [(s 0),(s 1)] h λa h=>z8.k3 C N Q (s 0) a h) r (λs h r=>eT k (λs h=>z8.k3 C N Q (s 0) (s 5) h) r (λs h r=>eT k (λs h=>z0 (z8.l2 C N Q (s 0) (s 5)) [.zed,(.int .i64 0)] h) r (λs h r=>eT k (λs h=>z0 (z8.l2 C N Q (s 0) (s 5)) [(s 6),(.int .i64 0)] h) r (λs h r=>eS k (λs h=>Q (s 6) h) (eT k (λs h=>z0 (z8.l2 C N Q (s 0) (s 5)) [(s 6),(s 7)] h) r (λs h r=>eK (eL k [0,5] [6,7] (on2 (z8.l2 C N Q)) r (λY1 s h r=>e1 r)))) (λs h r=>e1 r)))))
theorem z8.imp:z8.Imp (AC P) N:=λa b h Q r=>eF mixed (fn:=Try.f29) (λk=>z8.L k (dn Q) (zcr [a,b]) h r)
def zo.I:Bx:=⟨[],[],72,[(15,[(0,[]),(1,[]),(2,[]),(3,[]),(4,[]),(6,[]),(7,[]),(8,[]),(9,[]),(5,[9]),(10,[])])]⟩
theorem zo.L:LkT P zo.I Try.f30 λC Q s h=>zo.cps C N (s 0) h Q:=λ{C} k Q s h r=>eT k (λs h=>z0 (zo.l7 C N Q (s 0)) [.zed,(.int .i64 0)] h) r (λs h r=>eT k (λs h=>z0 (zo.l7 C N Q (s 0)) [(s 3),(.int .i64 0)] h) r (λs h r=>eS k (λs h=>z0 (zo.l5 C N Q (s 0) (s 3)) [(.int .i64 0)] h) (eT k (λs h=>z0 (zo.l7 C N Q (s 0)) [(s 3),(s 4)] h) r (λs h r=>eK (eL k [0] [3,4] (on1 (zo.l7 C N Q)) r (λY3 s h r=>e1 r)))) (λs h r=>eS k (λs h=>Q .zed h) (eT k (λs h=>z0 (zo.l5 C N Q (s 0) (s 3)) [(s 5)] h) r (λs h r=>eK (eL k [0,3] [5] (on2 (zo.l5 C N Q)) r (λY1 s h r=>eT k (λs h=>B.pv (V.zda 1 (s 3) (s 5)) λa=>B.ld h a λb=>B.call C (N 521) [(s 0),b] h λc h=>zo.k3 C N Q Y1 (s 0) (s 3) (s 5) c h) r (λs h r=>eS k (λs h=>B.pv (V.bin .add (s 5) (.int .i64 1)) λd=>Y1 [d] h) (eK (eT k (λs h=>zo.k3 C N Q Y1 (s 0) (s 3) (s 5) (s 6) h) r (λs h r=>eT k (λs h=>z0 (zo.l2 C N Q Y1 (s 0) (s 3) (s 5) (s 6)) [.zed,(.int .i64 0)] h) r (λs h r=>eT k (λs h=>z0 (zo.l2 C N Q Y1 (s 0) (s 3) (s 5) (s 6)) [(s 7),(.int .i64 0)] h) r (λs h r=>eS k (λs h=>Q (s 7) h) (eT k (λs h=>z0 (zo.l2 C N Q Y1 (s 0) (s 3) (s 5) (s 6)) [(s 7),(s 8)] h) r (λs h r=>eK (eL k [0,3,5,6] [7,8] (on4 (zo.l2 C N Q Y1)) r (λY2 s h r=>e1 r)))) (λs h r=>e1 r)))))) (λs h r=>e1 r)))))) (λs h r=>e1 r))))
theorem zo.imp:zo.Imp (AC P) N:=λa h Q r=>eF mixed (fn:=Try.f30) (λk=>zo.L k (dn Q) (zcr [a]) h r)
def zcz.I:Bx:=⟨[],[],12,[]⟩
theorem zcz.L:LkT P zcz.I Try.f31 λC Q s h=>zcz.cps C N (s 0) h Q:=λ{C} k Q s h r=>e1 r
theorem zcz.imp:zcz.Imp (AC P) N:=λa h Q r=>eF mixed (fn:=Try.f31) (λk=>zcz.L k (dn Q) (zcr [a]) h r)
def zb6.I:Bx:=⟨[],[],9,[]⟩
theorem zb6.L:LkT P zb6.I Try.f32 λC Q s h=>zb6.cps C N (s 0) (s 1) h Q:=λ{C} k Q s h r=>e1 r
theorem zb6.imp:zb6.Imp (AC P) N:=λa b h Q r=>eF mixed (fn:=Try.f32) (λk=>zb6.L k (dn Q) (zcr [a,b]) h r)
def zbg.I:Bx:=⟨[],[],34,[]⟩
theorem zbg.L:LkT P zbg.I Try.f33 λC Q s h=>zbg.cps C N (s 0) (s 1) (s 2) (s 3) h Q:=λ{C} k Q s h r=>eT k (λs h=>zbg.k3 C N Q (s 0) (.fn (N 523) [] [(s 5),(s 6),(s 7)]) .zed h) r (λs h r=>eT k (λs h=>zbg.k3 C N Q (s 0) (s 9) .zed h) r (λs h r=>eT k (λs h=>zbg.k3 C N Q (s 0) (s 9) (s 10) h) r (λs h r=>eS k (λs h=>B.call C (N 511) [(s 10)] h λa h=>Q (s 10) h) (eT k (λs h=>z0 (zbg.l2 C N Q (s 9) (s 18)) [(s 10)] h) r (λs h r=>eK (eL k [9,18] [10] (on2 (zbg.l2 C N Q)) r (λY1 s h r=>e1 r)))) (λs h r=>e1 r))))
theorem zbg.imp:zbg.Imp (AC P) N:=λa b c d h Q r=>eF mixed (fn:=Try.f33) (λk=>zbg.L k (dn Q) (zcr [a,b,c,d]) h r)
def zg.I:Bx:=⟨[],[],16,[]⟩
theorem zg.L:LkT P zg.I Try.f34 λC Q s h=>zg.cps C N (s 0) (s 1) h Q:=λ{C} k Q s h r=>eT k (λs h=>z0 (zg.l2 C N Q (s 0) (s 7)) [] h) r (λs h r=>eK (eL k [0,7] [] (on2 (zg.l2 C N Q)) r (λY1 s h r=>e1 r)))
theorem zg.imp:zg.Imp (AC P) N:=λa b h Q r=>eF mixed (fn:=Try.f34) (λk=>zg.L k (dn Q) (zcr [a,b]) h r)
def zca.I:Bx:=⟨[],[],9,[]⟩
theorem zca.L:LkT P zca.I Try.f35 λC Q s h=>zca.cps C N (s 0) h Q:=λ{C} k Q s h r=>e1 r
theorem zca.imp:zca.Imp (AC P) N:=λa h Q r=>eF mixed (fn:=Try.f35) (λk=>zca.L k (dn Q) (zcr [a]) h r)
def zbk.I:Bx:=⟨[],[],4,[]⟩
theorem zbk.L:LkT P zbk.I Try.f36 λC Q s h=>zbk.cps C N (s 0) h Q:=λ{C} k Q s h r=>e1 r
theorem zbk.imp:zbk.Imp (AC P) N:=λa h Q r=>eF mixed (fn:=Try.f36) (λk=>zbk.L k (dn Q) (zcr [a]) h r)
def zcj.I:Bx:=⟨[],[],9,[]⟩
theorem zcj.L:LkT P zcj.I Try.f37 λC Q s h=>zcj.cps C N (s 0) h Q:=λ{C} k Q s h r=>e1 r
theorem zcj.imp:zcj.Imp (AC P) N:=λa h Q r=>eF mixed (fn:=Try.f37) (λk=>zcj.L k (dn Q) (zcr [a]) h r)
def z4.I:Bx:=⟨[],[],4,[]⟩
theorem z4.L:LkT P z4.I Try.f38 λC Q s h=>z4.cps C N (s 0) h Q:=λ{C} k Q s h r=>e1 r
theorem z4.imp:z4.Imp (AC P) N:=λa h Q r=>eF mixed (fn:=Try.f38) (λk=>z4.L k (dn Q) (zcr [a]) h r)
def zcb.I:Bx:=⟨[],[],13,[]⟩
theorem zcb.L:LkT P zcb.I Try.f39 λC Q s h=>zcb.cps C N (s 0) (s 1) h Q:=λ{C} k Q s h r=>e1 r
theorem zcb.imp:zcb.Imp (AC P) N:=λa b h Q r=>eF mixed (fn:=Try.f39) (λk=>zcb.L k (dn Q) (zcr [a,b]) h r)
def zb7.I:Bx:=⟨[],[],9,[]⟩
theorem zb7.L:LkT P zb7.I Try.f40 λC Q s h=>zb7.cps C N (s 0) (s 1) h Q:=λ{C} k Q s h r=>e1 r
theorem zb7.imp:zb7.Imp (AC P) N:=λa b h Q r=>eF mixed (fn:=Try.f40) (λk=>zb7.L k (dn Q) (zcr [a,b]) h r)
def zbl.I:Bx:=⟨[],[],11,[]⟩
theorem zbl.L:LkT P zbl.I Try.f41 λC Q s h=>zbl.cps C N (s 0) h Q:=λ{C} k Q s h r=>e1 r
theorem zbl.imp:zbl.Imp (AC P) N:=λa h Q r=>eF mixed (fn:=Try.f41) (λk=>zbl.L k (dn Q) (zcr [a]) h r)
def zbo.I:Bx:=⟨[],[],26,[]⟩
theorem zbo.L:LkT P zbo.I Try.f42 λC Q s h=>zbo.cps C N (s 0) (s 1) h Q:=λ{C} k Q s h r=>eT k (λs h=>z0 (zbo.l2 C N Q (s 0) (s 1)) [(.int .i64 0)] h) r (λs h r=>eS k (λs h=>Q (.int .i64 (-1)) h) (eT k (λs h=>z0 (zbo.l2 C N Q (s 0) (s 1)) [(s 5)] h) r (λs h r=>eK (eL k [0,1] [5] (on2 (zbo.l2 C N Q)) r (λY1 s h r=>e1 r)))) (λs h r=>e1 r))
theorem zbo.imp:zbo.Imp (AC P) N:=λa b h Q r=>eF mixed (fn:=Try.f42) (λk=>zbo.L k (dn Q) (zcr [a,b]) h r)
def zdw.I:Bx:=⟨[],[],23,[]⟩
theorem zdw.L:LkT P zdw.I Try.f43 λC Q s h=>zdw.cps C N (s 0) (s 1) h Q:=λ{C} k Q s h r=>e1 r
theorem zdw.imp:zdw.Imp (AC P) N:=λa b h Q r=>eF mixed (fn:=Try.f43) (λk=>zdw.L k (dn Q) (zcr [a,b]) h r)
def zd3.I:Bx:=⟨[],[],18,[]⟩
theorem zd3.L:LkT P zd3.I Try.f44 λC Q s h=>zd3.cps C N (s 0) (s 1) h Q:=λ{C} k Q s h r=>eT k (λs h=>z0 (zd3.l2 C N Q (s 0) (s 1)) [(.int .i64 0)] h) r (λs h r=>eS k (λs h=>Q (.bool false) h) (eT k (λs h=>z0 (zd3.l2 C N Q (s 0) (s 1)) [(s 5)] h) r (λs h r=>eK (eL k [0,1] [5] (on2 (zd3.l2 C N Q)) r (λY1 s h r=>e1 r)))) (λs h r=>e1 r))
theorem zd3.imp:zd3.Imp (AC P) N:=λa b h Q r=>eF mixed (fn:=Try.f44) (λk=>zd3.L k (dn Q) (zcr [a,b]) h r)
def zdr.I:Bx:=⟨[],[],48,[]⟩
theorem zdr.L:LkT P zdr.I Try.f45 λC Q s h=>zdr.cps C N (s 0) (s 1) h Q:=λ{C} k Q s h r=>eT k (λs h=>z0 (zdr.l3 C N Q (s 0) (s 1)) [(.int .i64 0)] h) r (λs h r=>eT k (λs h=>z0 (zdr.l3 C N Q (s 0) (s 1)) [(s 5)] h) r (λs h r=>eS k (λs h=>zdr.k1 C N Q (s 0) (s 1) (s 5) h) (eK (eL k [0,1] [5] (on2 (zdr.l3 C N Q)) r (λY1 s h r=>e1 r))) (λs h r=>e1 r)))
theorem zdr.imp:zdr.Imp (AC P) N:=λa b h Q r=>eF mixed (fn:=Try.f45) (λk=>zdr.L k (dn Q) (zcr [a,b]) h r)
def zdu.I:Bx:=⟨[3],[7,12,16,22],28,[]⟩
theorem zdu.L:LkT P zdu.I Try.f46 λC Q s h=>zdu.cps C N (s 0) (s 1) (s 2) h Q:=λ{C} k Q s h r=>e1 r
theorem zdu.imp:zdu.Imp (AC P) N:=λa b c h Q r=>eF mixed (fn:=Try.f46) (λk=>zdu.L k (dn Q) (zcr [a,b,c]) h r)
def zb0.I:Bx:=⟨[],[],48,[]⟩
theorem zb0.L:LkT P zb0.I Try.f47 λC Q s h=>zb0.cps C N (s 0) (s 1) h Q:=λ{C} k Q s h r=>eT k (λs h=>z0 (zb0.l3 C N Q (s 0) (s 1)) [(.int .i64 0)] h) r (λs h r=>eT k (λs h=>z0 (zb0.l3 C N Q (s 0) (s 1)) [(s 5)] h) r (λs h r=>eS k (λs h=>zb0.k1 C N Q (s 0) (s 1) (s 5) h) (eK (eL k [0,1] [5] (on2 (zb0.l3 C N Q)) r (λY1 s h r=>e1 r))) (λs h r=>e1 r)))
theorem zb0.imp:zb0.Imp (AC P) N:=λa b h Q r=>eF mixed (fn:=Try.f47) (λk=>zb0.L k (dn Q) (zcr [a,b]) h r)
def zr.I:Bx:=⟨[],[],43,[]⟩
theorem zr.L:LkT P zr.I Try.f48 λC Q s h=>zr.cps C N (s 0) (s 1) h Q:=λ{C} k Q s h r=>eT k (λs h=>B.call C (N 503) [(s 0),(s 1)] h λa h=>z0 (zr.l6 C N Q (s 0)) [a,(.int .i64 (-1))] h) r (λs h r=>eT k (λs h=>z0 (zr.l6 C N Q (s 0)) [(s 5),(.int .i64 (-1))] h) r (λs h r=>eS k (λs h=>Q (s 5) h) (eT k (λs h=>z0 (zr.l6 C N Q (s 0)) [(s 5),(s 6)] h) r (λs h r=>eK (eL k [0] [5,6] (on1 (zr.l6 C N Q)) r (λY1 s h r=>eT k (λs h=>B.pv (V.zde (s 5)) λb=>z0 (zr.l4 C N Q Y1 (s 0) b) [(s 5),(.int .i64 0)] h) r (λs h r=>eK (eT k (λs h=>z0 (zr.l4 C N Q Y1 (s 0) (s 6)) [(s 5),(.int .i64 0)] h) r (λs h r=>eT k (λs h=>z0 (zr.l4 C N Q Y1 (s 0) (s 6)) [(s 5),(s 7)] h) r (λs h r=>eK (eL k [0,6] [5,7] (on2 (zr.l4 C N Q Y1)) r (λY2 s h r=>eT k (λs h=>zr.k3 C N Q Y1 Y2 (s 0) (s 5) (s 6) (s 7) h) r (λs h r=>eS k (λs h=>B.pv (V.bin .add (s 7) (.int .i64 1)) λc=>Y2 [(s 5),c] h) (eK (eT k (λs h=>z0 (zr.l2 C N Q Y1 Y2 (s 0) (s 6) (s 7) (s 8)) [(s 5),(.int .i64 0)] h) r (λs h r=>eT k (λs h=>z0 (zr.l2 C N Q Y1 Y2 (s 0) (s 6) (s 7) (s 8)) [(s 5),(s 9)] h) r (λs h r=>eK (eL k [0,6,7,8] [5,9] (on4 (zr.l2 C N Q Y1 Y2)) r (λY3 s h r=>e1 r)))))) (λs h r=>e1 r)))))))))))) (λs h r=>e1 r)))
theorem zr.imp:zr.Imp (AC P) N:=λa b h Q r=>eF mixed (fn:=Try.f48) (λk=>zr.L k (dn Q) (zcr [a,b]) h r)
def zdp.I:Bx:=⟨[],[],18,[]⟩
theorem zdp.L:LkT P zdp.I Try.f49 λC Q s h=>zdp.cps C N (s 0) (s 1) h Q:=λ{C} k Q s h r=>eT k (λs h=>z0 (zdp.l2 C N Q (s 0) (s 1)) [(.int .i64 0)] h) r (λs h r=>eS k (λs h=>Q (.bool false) h) (eT k (λs h=>z0 (zdp.l2 C N Q (s 0) (s 1)) [(s 5)] h) r (λs h r=>eK (eL k [0,1] [5] (on2 (zdp.l2 C N Q)) r (λY1 s h r=>e1 r)))) (λs h r=>e1 r))
theorem zdp.imp:zdp.Imp (AC P) N:=λa b h Q r=>eF mixed (fn:=Try.f49) (λk=>zdp.L k (dn Q) (zcr [a,b]) h r)
def zc1.I:Bx:=⟨[],[],40,[(1,pz [] 35)]⟩
theorem zc1.L:LkT P zc1.I Try.f50 λC Q s h=>zc1.cps C N (s 0) (s 1) (s 2) (s 3) h Q:=λ{C} k Q s h r=>e1 r
theorem zc1.imp:zc1.Imp (AC P) N:=λa b c d h Q r=>eF mixed (fn:=Try.f50) (λk=>zc1.L k (dn Q) (zcr [a,b,c,d]) h r)
def zdo.I:Bx:=⟨[],[],29,[]⟩
theorem zdo.L:LkT P zdo.I Try.f51 λC Q s h=>zdo.cps C N (s 0) (s 1) h Q:=λ{C} k Q s h r=>eT k (λs h=>zdo.k4 C N Q (s 0) (s 1) h) r (λs h r=>eT k (λs h=>zdo.k3 C N Q (s 0) (s 1) h) r (λs h r=>eT k (λs h=>B.rangeMap h (s 0) λa h=>z0 (zdo.l2 C N Q (s 1) a) [] h) r (λs h r=>eS k (λs h=>Q (.bool false) h) (eT k (λs h=>z0 (zdo.l2 C N Q (s 1) (s 21)) [] h) r (λs h r=>eK (eL k [1,21] [] (on2 (zdo.l2 C N Q)) r (λY1 s h r=>e1 r)))) (λs h r=>e1 r))))
theorem zdo.imp:zdo.Imp (AC P) N:=λa b h Q r=>eF mixed (fn:=Try.f51) (λk=>zdo.L k (dn Q) (zcr [a,b]) h r)
def zdf.I:Bx:=⟨[],[],5,[]⟩
theorem zdf.L:LkT P zdf.I Try.f52 λC Q s h=>zdf.cps C N (s 0) h Q:=λ{C} k Q s h r=>e1 r
theorem zdf.imp:zdf.Imp (AC P) N:=λa h Q r=>eF mixed (fn:=Try.f52) (λk=>zdf.L k (dn Q) (zcr [a]) h r)
def zbn.I:Bx:=⟨[],[],11,[]⟩
theorem zbn.L:LkT P zbn.I Try.f53 λC Q s h=>zbn.cps C N (s 0) h Q:=λ{C} k Q s h r=>e1 r
theorem zbn.imp:zbn.Imp (AC P) N:=λa h Q r=>eF mixed (fn:=Try.f53) (λk=>zbn.L k (dn Q) (zcr [a]) h r)
def zq.I:Bx:=⟨[],[],14,[]⟩
theorem zq.L:LkT P zq.I Try.f54 λC Q s h=>zq.cps C N (s 0) (s 1) h Q:=λ{C} k Q s h r=>eT k (λs h=>z0 (zq.l2 C N Q (s 0) (s 5)) [] h) r (λs h r=>eK (eL k [0,5] [] (on2 (zq.l2 C N Q)) r (λY1 s h r=>e1 r)))
theorem zq.imp:zq.Imp (AC P) N:=λa b h Q r=>eF mixed (fn:=Try.f54) (λk=>zq.L k (dn Q) (zcr [a,b]) h r)
def zdj.I:Bx:=⟨[],[],5,[]⟩
theorem zdj.L:LkT P zdj.I Try.f55 λC Q s h=>zdj.cps C N (s 0) h Q:=λ{C} k Q s h r=>e1 r
theorem zdj.imp:zdj.Imp (AC P) N:=λa h Q r=>eF mixed (fn:=Try.f55) (λk=>zdj.L k (dn Q) (zcr [a]) h r)
def zm.I:Bx:=⟨[],[],14,[]⟩
theorem zm.L:LkT P zm.I Try.f56 λC Q s h=>zm.cps C N (s 0) (s 1) h Q:=λ{C} k Q s h r=>eT k (λs h=>z0 (zm.l2 C N Q (s 0) (s 5)) [] h) r (λs h r=>eK (eL k [0,5] [] (on2 (zm.l2 C N Q)) r (λY1 s h r=>e1 r)))
theorem zm.imp:zm.Imp (AC P) N:=λa b h Q r=>eF mixed (fn:=Try.f56) (λk=>zm.L k (dn Q) (zcr [a,b]) h r)
def zbj.I:Bx:=⟨[],[],25,[]⟩
theorem zbj.L:LkT P zbj.I Try.f57 λC Q s h=>zbj.cps C N (s 0) (s 1) (s 2) (s 3) h Q:=λ{C} k Q s h r=>eT k (λs h=>z0 (zbj.l2 C N Q (s 2) (s 3) (s 9) (s 10)) [(s 11)] h) r (λs h r=>eK (eL k [2,3,9,10] [11] (on4 (zbj.l2 C N Q)) r (λY1 s h r=>e1 r)))
theorem zbj.imp:zbj.Imp (AC P) N:=λa b c d h Q r=>eF mixed (fn:=Try.f57) (λk=>zbj.L k (dn Q) (zcr [a,b,c,d]) h r)
def zcv.I:Bx:=⟨[],[],134,[(17,pz [] 15)]⟩
theorem zcv.L:LkT P zcv.I Try.f58 λC Q s h=>zcv.cps C N (s 0) (s 1) (s 2) (s 3) h Q:=λ{C} k Q s h r=>eT k (λs h=>z0 (zn.l8 C (zdh 8 (.int .i64 0) 0) (N 534) (N 535) (N 536) (N 531) (N 537) (N 538) (N 539) (N 540) (N 541) (N 542) Q (s 0)) [(s 1),(s 2),(s 3),(s 8),(.bool true)] h) r (λs h r=>eT k (λs h=>z0 (zn.l8 C (zdh 8 (.int .i64 0) 0) (N 534) (N 535) (N 536) (N 531) (N 537) (N 538) (N 539) (N 540) (N 541) (N 542) Q (s 0)) [(s 1),(s 2),(s 3),(s 8),(s 9)] h) r (λs h r=>eK (eL k [0] [1,2,3,8,9] (on1 (zn.l8 C (zdh 8 (.int .i64 0) 0) (N 534) (N 535) (N 536) (N 531) (N 537) (N 538) (N 539) (N 540) (N 541) (N 542) Q)) r (λY1 s h r=>eK (eT k (λs h=>zn.k7 C (zdh 8 (.int .i64 0) 0) (N 534) (N 535) (N 536) (N 531) (N 537) (N 538) (N 539) (N 540) (N 541) (N 542) Q Y1 (s 0) (s 1) (s 2) (s 3) (s 8) (s 9) (s 10) h) r (λs h r=>eT k (λs h=>zn.k6 C (zdh 8 (.int .i64 0) 0) (N 534) (N 535) (N 536) (N 531) (N 537) (N 538) (N 539) (N 540) (N 541) (N 542) Q Y1 (s 0) (s 1) (s 2) (s 3) (s 8) (s 9) (s 10) h) r (λs h r=>eT k (λs h=>zn.k5 C (zdh 8 (.int .i64 0) 0) (N 534) (N 535) (N 536) (N 531) (N 537) (N 538) (N 539) (N 540) (N 541) (N 542) Q Y1 (s 0) (s 1) (s 2) (s 3) (s 8) (s 9) (s 10) h) r (λs h r=>eT k (λs h=>zn.k4 C (zdh 8 (.int .i64 0) 0) (N 534) (N 535) (N 536) (N 531) (N 537) (N 538) (N 539) (N 540) (N 541) (N 542) Q Y1 (s 0) (s 1) (s 2) (s 3) (s 8) (s 9) (s 10) h) r (λs h r=>eT k (λs h=>zn.k3 C (zdh 8 (.int .i64 0) 0) (N 534) (N 535) (N 536) (N 531) (N 537) (N 538) (N 539) (N 540) (N 541) (N 542) Q Y1 (s 0) (s 1) (s 2) (s 3) (s 8) (s 9) (s 10) (s 11) (s 12) h) r (λs h r=>eT k (λs h=>zn.k2 C (zdh 8 (.int .i64 0) 0) (N 534) (N 535) (N 536) (N 531) (N 537) (N 538) (N 539) (N 540) (N 541) (N 542) Q Y1 (s 0) (s 1) (s 2) (s 3) (s 8) (s 9) (s 10) (s 11) (s 12) h) r (λs h r=>eT k (λs h=>zn.k1 C (zdh 8 (.int .i64 0) 0) (N 534) (N 535) (N 536) (N 531) (N 537) (N 538) (N 539) (N 540) (N 541) (N 542) Q Y1 (s 0) (s 1) (s 2) (s 3) (s 8) (s 9) (s 10) (s 11) h) r (λs h r=>e1 r))))))))))))
theorem zcv.imp:zcv.Imp (AC P) N:=λa b c d h Q r=>eF mixed (fn:=Try.f58) (λk=>zcv.L k (dn Q) (zcr [a,b,c,d]) h r)
def zdx.I:Bx:=⟨[],[],8,[]⟩
theorem zdx.L:LkT P zdx.I Try.f59 λC Q s h=>zdx.cps C N (s 0) h Q:=λ{C} k Q s h r=>e1 r
theorem zdx.imp:zdx.Imp (AC P) N:=λa h Q r=>eF mixed (fn:=Try.f59) (λk=>zdx.L k (dn Q) (zcr [a]) h r)
def zc7.I:Bx:=⟨[],[],32,[]⟩
theorem zc7.L:LkT P zc7.I Try.f60 λC Q s h=>zc7.cps C N (s 0) (s 1) h Q:=λ{C} k Q s h r=>eT k (λs h=>zc7.k4 C N Q (s 0) (s 1) h) r (λs h r=>eT k (λs h=>zc7.k3 C N Q (s 0) (s 1) h) r (λs h r=>eT k (λs h=>z0 (zc7.l2 C N Q (s 0) (s 1)) [(.int .i64 0)] h) r (λs h r=>eS k (λs h=>Q (.bool false) h) (eT k (λs h=>z0 (zc7.l2 C N Q (s 0) (s 1)) [(s 5)] h) r (λs h r=>eK (eL k [0,1] [5] (on2 (zc7.l2 C N Q)) r (λY1 s h r=>e1 r)))) (λs h r=>e1 r))))
theorem zc7.imp:zc7.Imp (AC P) N:=λa b h Q r=>eF mixed (fn:=Try.f60) (λk=>zc7.L k (dn Q) (zcr [a,b]) h r)
def zb9.I:Bx:=⟨[],[],13,[]⟩
theorem zb9.L:LkT P zb9.I Try.f61 λC Q s h=>zb9.cps C N (s 0) (s 1) h Q:=λ{C} k Q s h r=>eT k (λs h=>zpm C (s 1) (W1 λb h Z1=>zcs.r2 C (zdh 16 (.str []) 0) Q (s 2) b h Z1) h (RK [(0,λh=>B.ld h (s 2) λa=>Q a h)])) r (λs h r=>eS k (λs h=>B.ld h (s 2) λa=>Q a h) (eT k (λs h=>zpm C (s 6) (W1 λb h Z1=>zcs.r2 C (zdh 16 (.str []) 0) Q (s 2) b h Z1) h (RK [(0,λh=>B.ld h (s 2) λa=>Q a h)])) r (λs h r=>eK (eR1 k 6 7 [2] (λkv b h Z1=>match kv with|[c]=>zcs.r2 C (zdh 16 (.str []) 0) Q c b h Z1|_=>False) r (rk_cons (λh r=>e0 r) rk_nil) (λZ1 s h r=>e1 r)))) (λs h r=>e1 r))
theorem zb9.imp:zb9.Imp (AC P) N:=λa b h Q r=>eF mixed (fn:=Try.f61) (λk=>zb9.L k (dn Q) (zcr [a,b]) h r)
def zcm.I:Bx:=⟨[],[],134,[(17,pz [] 15)]⟩
theorem zcm.L:LkT P zcm.I Try.f62 λC Q s h=>zcm.cps C N (s 0) (s 1) (s 2) (s 3) h Q:=λ{C} k Q s h r=>eT k (λs h=>z0 (zn.l8 C (zdh 16 (.str []) 0) (N 377) (N 378) (N 379) (N 375) (N 380) (N 381) (N 382) (N 383) (N 384) (N 385) Q (s 0)) [(s 1),(s 2),(s 3),(s 8),(.bool true)] h) r (λs h r=>eT k (λs h=>z0 (zn.l8 C (zdh 16 (.str []) 0) (N 377) (N 378) (N 379) (N 375) (N 380) (N 381) (N 382) (N 383) (N 384) (N 385) Q (s 0)) [(s 1),(s 2),(s 3),(s 8),(s 9)] h) r (λs h r=>eK (eL k [0] [1,2,3,8,9] (on1 (zn.l8 C (zdh 16 (.str []) 0) (N 377) (N 378) (N 379) (N 375) (N 380) (N 381) (N 382) (N 383) (N 384) (N 385) Q)) r (λY1 s h r=>eK (eT k (λs h=>zn.k7 C (zdh 16 (.str []) 0) (N 377) (N 378) (N 379) (N 375) (N 380) (N 381) (N 382) (N 383) (N 384) (N 385) Q Y1 (s 0) (s 1) (s 2) (s 3) (s 8) (s 9) (s 10) h) r (λs h r=>eT k (λs h=>zn.k6 C (zdh 16 (.str []) 0) (N 377) (N 378) (N 379) (N 375) (N 380) (N 381) (N 382) (N 383) (N 384) (N 385) Q Y1 (s 0) (s 1) (s 2) (s 3) (s 8) (s 9) (s 10) h) r (λs h r=>eT k (λs h=>zn.k5 C (zdh 16 (.str []) 0) (N 377) (N 378) (N 379) (N 375) (N 380) (N 381) (N 382) (N 383) (N 384) (N 385) Q Y1 (s 0) (s 1) (s 2) (s 3) (s 8) (s 9) (s 10) h) r (λs h r=>eT k (λs h=>zn.k4 C (zdh 16 (.str []) 0) (N 377) (N 378) (N 379) (N 375) (N 380) (N 381) (N 382) (N 383) (N 384) (N 385) Q Y1 (s 0) (s 1) (s 2) (s 3) (s 8) (s 9) (s 10) h) r (λs h r=>eT k (λs h=>zn.k3 C (zdh 16 (.str []) 0) (N 377) (N 378) (N 379) (N 375) (N 380) (N 381) (N 382) (N 383) (N 384) (N 385) Q Y1 (s 0) (s 1) (s 2) (s 3) (s 8) (s 9) (s 10) (s 11) (s 12) h) r (λs h r=>eT k (λs h=>zn.k2 C (zdh 16 (.str []) 0) (N 377) (N 378) (N 379) (N 375) (N 380) (N 381) (N 382) (N 383) (N 384) (N 385) Q Y1 (s 0) (s 1) (s 2) (s 3) (s 8) (s 9) (s 10) (s 11) (s 12) h) r (λs h r=>eT k (λs h=>zn.k1 C (zdh 16 (.str []) 0) (N 377) (N 378) (N 379) (N 375) (N 380) (N 381) (N 382) (N 383) (N 384) (N 385) Q Y1 (s 0) (s 1) (s 2) (s 3) (s 8) (s 9) (s 10) (s 11) h) r (λs h r=>e1 r))))))))))))
theorem zcm.imp:zcm.Imp (AC P) N:=λa b c d h Q r=>eF mixed (fn:=Try.f62) (λk=>zcm.L k (dn Q) (zcr [a,b,c,d]) h r)
def zco.I:Bx:=⟨[],[],13,[]⟩
theorem zco.L:LkT P zco.I Try.f63 λC Q s h=>zco.cps C N (s 0) (s 1) h Q:=λ{C} k Q s h r=>eT k (λs h=>zpm C (s 1) (W1 λb h Z1=>zcs.r2 C (zdh 8 (.int .i64 0) 0) Q (s 2) b h Z1) h (RK [(0,λh=>B.ld h (s 2) λa=>Q a h)])) r (λs h r=>eS k (λs h=>B.ld h (s 2) λa=>Q a h) (eT k (λs h=>zpm C (s 6) (W1 λb h Z1=>zcs.r2 C (zdh 8 (.int .i64 0) 0) Q (s 2) b h Z1) h (RK [(0,λh=>B.ld h (s 2) λa=>Q a h)])) r (λs h r=>eK (eR1 k 6 7 [2] (λkv b h Z1=>match kv with|[c]=>zcs.r2 C (zdh 8 (.int .i64 0) 0) Q c b h Z1|_=>False) r (rk_cons (λh r=>e0 r) rk_nil) (λZ1 s h r=>e1 r)))) (λs h r=>e1 r))
theorem zco.imp:zco.Imp (AC P) N:=λa b h Q r=>eF mixed (fn:=Try.f63) (λk=>zco.L k (dn Q) (zcr [a,b]) h r)
def zby.I:Bx:=⟨[],[],49,[(4,pz [] 15),(6,pz [] 18)]⟩
theorem zby.L:LkT P zby.I Try.f64 λC Q s h=>zby.cps C N (s 0) (s 1) (s 2) h Q:=λ{C} k Q s h r=>eT k (λs h=>z0 (z6.l3 C (zdh 8 (.int .i64 0) 0) (N 534) Q (s 0) (s 1) (s 2)) [(s 6)] h) r (λs h r=>eK (eL k [0,1,2] [6] (on3 (z6.l3 C (zdh 8 (.int .i64 0) 0) (N 534) Q)) r (λY1 s h r=>eT k (λs h=>z0 (z6.l2 C (zdh 8 (.int .i64 0) 0) (N 534) Q Y1 (s 0) (s 1) (s 2) (s 6)) [(s 6)] h) r (λs h r=>eS k (λs h=>B.pv (V.bin .add (s 6) (.int .i64 1)) λa=>Y1 [a] h) (eK (eT k (λs h=>z0 (z6.l2 C (zdh 8 (.int .i64 0) 0) (N 534) Q Y1 (s 0) (s 1) (s 2) (s 6)) [(s 7)] h) r (λs h r=>eK (eL k [0,1,2,6] [7] (on4 (z6.l2 C (zdh 8 (.int .i64 0) 0) (N 534) Q Y1)) r (λY2 s h r=>e1 r))))) (λs h r=>e1 r)))))
theorem zby.imp:zby.Imp (AC P) N:=λa b c h Q r=>eF mixed (fn:=Try.f64) (λk=>zby.L k (dn Q) (zcr [a,b,c]) h r)
def zcn.I:Bx:=⟨[],[],56,[(10,pz [] 20)]⟩
theorem zcn.L:LkT P zcn.I Try.f65 λC Q s h=>zcn.cps C N (s 0) (s 1) (s 2) h Q:=λ{C} k Q s h r=>eT k (λs h=>B.pv (V.bin .sub (s 2) (s 1)) λa=>zx.k5 C (zdh 8 (.int .i64 0) 0) (N 543) Q (s 0) (s 6) (.int .i64 0) a h) r (λs h r=>eT k (λs h=>B.pv (V.bin .sub (s 2) (s 1)) λa=>zx.k5 C (zdh 8 (.int .i64 0) 0) (N 543) Q (s 0) (s 6) (s 7) a h) r (λs h r=>eT k (λs h=>zx.k5 C (zdh 8 (.int .i64 0) 0) (N 543) Q (s 0) (s 6) (s 7) (s 8) h) r (λs h r=>eS k (λs h=>B.pv (V.bin .sub (s 8) (.int .i64 1)) λb=>z0 (zx.l2 C (zdh 8 (.int .i64 0) 0) (N 543) Q (s 0) (s 6) (s 7)) [b] h) (eT k (λs h=>z0 (zx.l4 C (zdh 8 (.int .i64 0) 0) (N 543) Q (s 0) (s 6) (s 7) (s 8)) [(s 9)] h) r (λs h r=>eK (eL k [0,6,7,8] [9] (on4 (zx.l4 C (zdh 8 (.int .i64 0) 0) (N 543) Q)) r (λY2 s h r=>e1 r)))) (λs h r=>eT k (λs h=>z0 (zx.l2 C (zdh 8 (.int .i64 0) 0) (N 543) Q (s 0) (s 6) (s 7)) [(s 10)] h) r (λs h r=>eK (eL k [0,6,7] [10] (on3 (zx.l2 C (zdh 8 (.int .i64 0) 0) (N 543) Q)) r (λY1 s h r=>e1 r)))))))
theorem zcn.imp:zcn.Imp (AC P) N:=λa b c h Q r=>eF mixed (fn:=Try.f65) (λk=>zcn.L k (dn Q) (zcr [a,b,c]) h r)
def zbz.I:Bx:=⟨[],[],65,[(10,pz [] 20)]⟩
theorem zbz.L:LkT P zbz.I Try.f66 λC Q s h=>zbz.cps C N (s 0) (s 1) (s 2) h Q:=λ{C} k Q s h r=>eT k (λs h=>B.pv (V.bin .geq (s 6) (.int .i64 8)) λa=>B.cond a (zi.k7 C (zdh 8 (.int .i64 0) 0) (N 298) (N 299) Q (s 0) (s 1) (s 6) h) (Q (.tup []) h)) r (λs h r=>eT k (λs h=>B.cond (s 15) (zi.k7 C (zdh 8 (.int .i64 0) 0) (N 298) (N 299) Q (s 0) (s 1) (s 6) h) (Q (.tup []) h)) r (λs h r=>eC 15 r (λr=>eT k (λs h=>B.call C (N 299) [(s 6)] h λb h=>zi.k6 C (zdh 8 (.int .i64 0) 0) (N 298) (N 299) Q (s 0) (s 1) (s 6) (s 7) b h) r (λs h r=>eT k (λs h=>zi.k6 C (zdh 8 (.int .i64 0) 0) (N 298) (N 299) Q (s 0) (s 1) (s 6) (s 7) (s 8) h) r (λs h r=>eT k (λs h=>z0 (zi.l5 C (zdh 8 (.int .i64 0) 0) (N 298) (N 299) Q (s 0) (s 1) (s 6) (s 7) (s 8)) [(s 9)] h) r (λs h r=>eK (eL k [0,1,6,7,8] [9] (on5 (zi.l5 C (zdh 8 (.int .i64 0) 0) (N 298) (N 299) Q)) r (λY1 s h r=>eT k (λs h=>zi.k3 C (zdh 8 (.int .i64 0) 0) (N 298) (N 299) Q Y1 (s 0) (s 1) (s 6) (s 7) (s 8) (s 9) h) r (λs h r=>eS k (λs h=>B.pv (V.bin .add (s 9) (.int .i64 1)) λc=>Y1 [c] h) (eK (eT k (λs h=>zi.k2 C (zdh 8 (.int .i64 0) 0) (N 298) (N 299) Q Y1 (s 0) (s 1) (s 6) (s 7) (s 8) (s 9) (s 10) h) r (λs h r=>eT k (λs h=>zi.k1 C (zdh 8 (.int .i64 0) 0) (N 298) (N 299) Q Y1 (s 0) (s 1) (s 6) (s 7) (s 8) (s 9) (s 10) h) r (λs h r=>e1 r)))) (λs h r=>e1 r)))))))) (λr=>e1 r)))
theorem zbz.imp:zbz.Imp (AC P) N:=λa b c h Q r=>eF mixed (fn:=Try.f66) (λk=>zbz.L k (dn Q) (zcr [a,b,c]) h r)
def zb5.I:Bx:=⟨[],[],57,[]⟩
theorem zb5.L:LkT P zb5.I Try.f67 λC Q s h=>zb5.cps C N (s 0) (s 1) (s 2) h Q:=λ{C} k Q s h r=>eT k (λs h=>B.pv (V.bin .sub (s 2) (s 1)) λb=>B.zf2 h (some [.int .i64 0]) λa h=>zp.k5 C (zdh 8 (.int .i64 0) 0) (N 544) (N 545) Q (s 0) (s 1) b (.ptr a 0 0) h) r (λs h r=>eT k (λs h=>B.zf2 h (some [.int .i64 0]) λa h=>zp.k5 C (zdh 8 (.int .i64 0) 0) (N 544) (N 545) Q (s 0) (s 1) (s 8) (.ptr a 0 0) h) r (λs h r=>eT k (λs h=>zp.k5 C (zdh 8 (.int .i64 0) 0) (N 544) (N 545) Q (s 0) (s 1) (s 8) (s 9) h) r (λs h r=>eT k (λs h=>zp.k4 C (zdh 8 (.int .i64 0) 0) (N 544) (N 545) Q (s 0) (s 1) (s 8) (s 9) (s 10) h) r (λs h r=>eT k (λs h=>zp.k3 C (zdh 8 (.int .i64 0) 0) (N 544) (N 545) Q (s 0) (s 1) (s 8) (s 9) (s 10) (s 11) h) r (λs h r=>eT k (λs h=>zp.k2 C (zdh 8 (.int .i64 0) 0) (N 544) (N 545) Q (s 0) (s 8) (s 9) (s 10) (s 11) (s 12) h) r (λs h r=>eT k (λs h=>zp.k1 C (zdh 8 (.int .i64 0) 0) (N 544) (N 545) Q (s 9) (s 11) h) r (λs h r=>e1 r)))))))
theorem zb5.imp:zb5.Imp (AC P) N:=λa b c h Q r=>eF mixed (fn:=Try.f67) (λk=>zb5.L k (dn Q) (zcr [a,b,c]) h r)
def zb1.I:Bx:=⟨[],[],32,[(3,pz [] 16)]⟩
theorem zb1.L:LkT P zb1.I Try.f68 λC Q s h=>zb1.cps C N (s 0) (s 1) (s 2) h Q:=λ{C} k Q s h r=>eT k (λs h=>B.pv (V.bin .sub (s 2) (.int .i64 1)) λa=>z0 (zbx.l2 C (zdh 8 (.int .i64 0) 0) Q (s 0)) [(s 6),a] h) r (λs h r=>eT k (λs h=>z0 (zbx.l2 C (zdh 8 (.int .i64 0) 0) Q (s 0)) [(s 6),(s 7)] h) r (λs h r=>eK (eL k [0] [6,7] (on1 (zbx.l2 C (zdh 8 (.int .i64 0) 0) Q)) r (λY1 s h r=>e1 r))))
theorem zb1.imp:zb1.Imp (AC P) N:=λa b c h Q r=>eF mixed (fn:=Try.f68) (λk=>zb1.L k (dn Q) (zcr [a,b,c]) h r)
def zbf.I:Bx:=⟨[],[],133,[(5,pz [] 16),(11,pz [] 18),(16,pz [] 11),(17,pz [] 18),(22,pz [] 11),(23,pz [] 18)]⟩
theorem zbf.L:LkT P zbf.I Try.f69 λC Q s h=>zbf.cps C N (s 0) (s 1) (s 2) h Q:=λ{C} k Q s h r=>eT k (λs h=>B.pv (V.bin .add (s 1) (.int .i64 1)) λc=>z0 (zd.l12 C (zdh 8 (.int .i64 0) 0) (N 534) Q (s 0) (s 1) (s 2)) [c,(.int .i64 0)] h) r (λs h r=>eT k (λs h=>z0 (zd.l12 C (zdh 8 (.int .i64 0) 0) (N 534) Q (s 0) (s 1) (s 2)) [(s 7),(.int .i64 0)] h) r (λs h r=>eS k (λs h=>Q (.bool false) h) (eT k (λs h=>z0 (zd.l12 C (zdh 8 (.int .i64 0) 0) (N 534) Q (s 0) (s 1) (s 2)) [(s 7),(s 8)] h) r (λs h r=>eK (eL k [0,1,2] [7,8] (on3 (zd.l12 C (zdh 8 (.int .i64 0) 0) (N 534) Q)) r (λY1 s h r=>eT k (λs h=>z0 (zd.l10 C (zdh 8 (.int .i64 0) 0) (N 534) Q Y1 (s 0) (s 1) (s 2) (s 8)) [(s 7)] h) r (λs h r=>eS k (λs h=>B.pv (V.bin .add (s 8) (.int .i64 1)) λa=>Y1 [(s 7),a] h) (eK (eS k (λs h=>B.pv (V.bin .eql (s 7) (s 2)) λd=>B.cond d (Q (.bool true) h) (zd.k8 C (zdh 8 (.int .i64 0) 0) (N 534) Q Y1 (s 0) (s 1) (s 2) (s 7) (s 8) h)) (eK (eL k [0,1,2,8] [7] (on4 (zd.l10 C (zdh 8 (.int .i64 0) 0) (N 534) Q Y1)) r (λY4 s h r=>e1 r))) (λs h r=>eT k (λs h=>zd.k8 C (zdh 8 (.int .i64 0) 0) (N 534) Q Y1 (s 0) (s 1) (s 2) (s 7) (s 8) h) r (λs h r=>eT k (λs h=>zd.k7 C (zdh 8 (.int .i64 0) 0) (N 534) Q Y1 (s 0) (s 1) (s 2) (s 7) (s 8) h) r (λs h r=>eT k (λs h=>zd.k6 C (zdh 8 (.int .i64 0) 0) (N 534) Q Y1 (s 0) (s 1) (s 2) (s 7) (s 8) h) r (λs h r=>eS k (λs h=>zd.k3 C (zdh 8 (.int .i64 0) 0) (N 534) Q Y1 (s 0) (s 1) (s 2) (s 7) (s 8) h) (eT k (λs h=>B.cond (s 61) (B.pv (V.bin .sub (s 7) (.int .i64 1)) λe=>z0 (zd.l5 C (zdh 8 (.int .i64 0) 0) (N 534) Q Y1 (s 0) (s 1) (s 2) (s 7) (s 8)) [e] h) (zd.k3 C (zdh 8 (.int .i64 0) 0) (N 534) Q Y1 (s 0) (s 1) (s 2) (s 7) (s 8) h)) r (λs h r=>eC 61 r (λr=>eT k (λs h=>z0 (zd.l5 C (zdh 8 (.int .i64 0) 0) (N 534) Q Y1 (s 0) (s 1) (s 2) (s 7) (s 8)) [(s 9)] h) r (λs h r=>eK (eL k [0,1,2,7,8] [9] (on5 (zd.l5 C (zdh 8 (.int .i64 0) 0) (N 534) Q Y1)) r (λY3 s h r=>e1 r)))) (λr=>e1 r))) (λs h r=>eT k (λs h=>B.cond (s 98) (B.pv (V.bin .add (s 7) (.int .i64 1)) λb=>z0 (zd.l2 C (zdh 8 (.int .i64 0) 0) (N 534) Q Y1 (s 0) (s 1) (s 2) (s 7) (s 8)) [b] h) (B.pv (V.bin .add (s 8) (.int .i64 1)) λa=>Y1 [(s 7),a] h)) r (λs h r=>eC 98 r (λr=>eT k (λs h=>z0 (zd.l2 C (zdh 8 (.int .i64 0) 0) (N 534) Q Y1 (s 0) (s 1) (s 2) (s 7) (s 8)) [(s 10)] h) r (λs h r=>eK (eL k [0,1,2,7,8] [10] (on5 (zd.l2 C (zdh 8 (.int .i64 0) 0) (N 534) Q Y1)) r (λY2 s h r=>e1 r)))) (λr=>e1 r))))))))) (λs h r=>e1 r)))))) (λs h r=>e1 r)))
theorem zbf.imp:zbf.Imp (AC P) N:=λa b c h Q r=>eF mixed (fn:=Try.f69) (λk=>zbf.L k (dn Q) (zcr [a,b,c]) h r)
def zdm.I:Bx:=⟨[],[],17,[]⟩
theorem zdm.L:LkT P zdm.I Try.f70 λC Q s h=>zdm.cps C N (s 0) (s 1) h Q:=λ{C} k Q s h r=>e1 r
theorem zdm.imp:zdm.Imp (AC P) N:=λa b h Q r=>eF mixed (fn:=Try.f70) (λk=>zdm.L k (dn Q) (zcr [a,b]) h r)
def zbs.I:Bx:=⟨[],[],84,[(1,pz [] 16),(3,pz [] 15),(5,pz [] 14),(8,pz [] 16)]⟩
theorem zbs.L:LkT P zbs.I Try.f71 λC Q s h=>zbs.cps C N (s 0) (s 1) (s 2) (s 3) h Q:=λ{C} k Q s h r=>eT k (λs h=>zk.k8 C (zdh 8 (.int .i64 0) 0) (N 534) Q (s 0) (s 1) (s 2) (s 3) h) r (λs h r=>eT k (λs h=>zk.k7 C (zdh 8 (.int .i64 0) 0) (N 534) Q (s 0) (s 1) (s 2) h) r (λs h r=>eT k (λs h=>z0 (zk.l6 C (zdh 8 (.int .i64 0) 0) (N 534) Q (s 0) (s 1)) [(s 9),(s 10)] h) r (λs h r=>eS k (λs h=>Q (s 9) h) (eK (eL k [0,1] [9,10] (on2 (zk.l6 C (zdh 8 (.int .i64 0) 0) (N 534) Q)) r (λY1 s h r=>eK (eS k (λs h=>z0 (zk.l3 C (zdh 8 (.int .i64 0) 0) (N 534) Q Y1 (s 0) (s 1) (s 9)) [(s 10)] h) (eK (eL k [0,1,10] [9] (on3 (zk.l5 C (zdh 8 (.int .i64 0) 0) (N 534) Q Y1)) r (λY3 s h r=>e1 r))) (λs h r=>eS k (λs h=>zk.k1 C (zdh 8 (.int .i64 0) 0) (N 534) Q Y1 (s 0) (s 1) (s 9) (s 10) h) (eK (eL k [0,1,9] [10] (on3 (zk.l3 C (zdh 8 (.int .i64 0) 0) (N 534) Q Y1)) r (λY2 s h r=>e1 r))) (λs h r=>e1 r)))))) (λs h r=>e1 r))))
theorem zbs.imp:zbs.Imp (AC P) N:=λa b c d h Q r=>eF mixed (fn:=Try.f71) (λk=>zbs.L k (dn Q) (zcr [a,b,c,d]) h r)
def zcf.I:Bx:=⟨[],[],168,[(1,pz [] 16),(3,pz [] 14),(5,pz [] 15),(8,pz [] 16),(10,pz [] 16),(13,pz [] 14),(15,pz [] 15),(18,pz [] 16),(21,pz [] 16)]⟩
theorem zcf.L:LkT P zcf.I Try.f72 λC Q s h=>zcf.cps C N (s 0) (s 1) (s 2) (s 3) h Q:=λ{C} k Q s h r=>eT k (λs h=>zf.k16 C (zdh 8 (.int .i64 0) 0) (N 534) Q (s 0) (s 1) (s 2) (s 3) h) r (λs h r=>eT k (λs h=>zf.k15 C (zdh 8 (.int .i64 0) 0) (N 534) Q (s 0) (s 1) (s 2) h) r (λs h r=>eT k (λs h=>z0 (zf.l14 C (zdh 8 (.int .i64 0) 0) (N 534) Q (s 0) (s 1) (s 11)) [(s 10)] h) r (λs h r=>eS k (λs h=>z0 (zf.l12 C (zdh 8 (.int .i64 0) 0) (N 534) Q (s 0) (s 1) (s 10)) [(s 11)] h) (eK (eL k [0,1,11] [10] (on3 (zf.l14 C (zdh 8 (.int .i64 0) 0) (N 534) Q)) r (λY5 s h r=>e1 r))) (λs h r=>eS k (λs h=>zf.k10 C (zdh 8 (.int .i64 0) 0) (N 534) Q (s 0) (s 1) (s 10) (s 11) h) (eK (eL k [0,1,10] [11] (on3 (zf.l12 C (zdh 8 (.int .i64 0) 0) (N 534) Q)) r (λY4 s h r=>e1 r))) (λs h r=>eT k (λs h=>zf.k9 C (zdh 8 (.int .i64 0) 0) (N 534) Q (s 0) (s 1) (s 10) (s 11) h) r (λs h r=>eT k (λs h=>zf.k8 C (zdh 8 (.int .i64 0) 0) (N 534) Q (s 0) (s 1) (s 10) (s 11) h) r (λs h r=>eT k (λs h=>B.pv (V.bin .sub (s 11) (.int .i64 1)) λa=>z0 (zf.l7 C (zdh 8 (.int .i64 0) 0) (N 534) Q (s 0) (s 1)) [(s 10),a] h) r (λs h r=>eT k (λs h=>z0 (zf.l7 C (zdh 8 (.int .i64 0) 0) (N 534) Q (s 0) (s 1)) [(s 10),(s 11)] h) r (λs h r=>eS k (λs h=>zf.k1 C (zdh 8 (.int .i64 0) 0) (N 534) Q (s 0) (s 1) (s 11) h) (eK (eL k [0,1] [10,11] (on2 (zf.l7 C (zdh 8 (.int .i64 0) 0) (N 534) Q)) r (λY1 s h r=>eK (eS k (λs h=>z0 (zf.l4 C (zdh 8 (.int .i64 0) 0) (N 534) Q Y1 (s 0) (s 1) (s 10)) [(s 11)] h) (eK (eL k [0,1,11] [10] (on3 (zf.l6 C (zdh 8 (.int .i64 0) 0) (N 534) Q Y1)) r (λY3 s h r=>e1 r))) (λs h r=>eS k (λs h=>zf.k2 C (zdh 8 (.int .i64 0) 0) (N 534) Q Y1 (s 0) (s 1) (s 10) (s 11) h) (eK (eL k [0,1,10] [11] (on3 (zf.l4 C (zdh 8 (.int .i64 0) 0) (N 534) Q Y1)) r (λY2 s h r=>e1 r))) (λs h r=>e1 r)))))) (λs h r=>e1 r))))))))))
theorem zcf.imp:zcf.Imp (AC P) N:=λa b c d h Q r=>eF mixed (fn:=Try.f72) (λk=>zcf.L k (dn Q) (zcr [a,b,c,d]) h r)
def zbi.I:Bx:=⟨[],[],25,[]⟩
theorem zbi.L:LkT P zbi.I Try.f74 λC Q s h=>zbi.cps C N (s 0) h Q:=λ{C} k Q s h r=>eT k (λs h=>zbi.k4 C N Q (s 0) (s 2) h) r (λs h r=>eT k (λs h=>zbi.k3 C N Q (s 0) (s 2) h) r (λs h r=>eT k (λs h=>zbi.k2 C N Q (s 0) (s 2) h) r (λs h r=>eT k (λs h=>zbi.k1 C N Q (s 0) (s 2) h) r (λs h r=>e1 r))))
theorem zbi.imp:zbi.Imp (AC P) N:=λa h Q r=>eF mixed (fn:=Try.f74) (λk=>zbi.L k (dn Q) (zcr [a]) h r)
def zbu.I:Bx:=⟨[],[],49,[(4,pz [] 15),(6,pz [] 18)]⟩
theorem zbu.L:LkT P zbu.I Try.f75 λC Q s h=>zbu.cps C N (s 0) (s 1) (s 2) h Q:=λ{C} k Q s h r=>eT k (λs h=>z0 (z6.l3 C (zdh 16 (.str []) 0) (N 377) Q (s 0) (s 1) (s 2)) [(s 6)] h) r (λs h r=>eK (eL k [0,1,2] [6] (on3 (z6.l3 C (zdh 16 (.str []) 0) (N 377) Q)) r (λY1 s h r=>eT k (λs h=>z0 (z6.l2 C (zdh 16 (.str []) 0) (N 377) Q Y1 (s 0) (s 1) (s 2) (s 6)) [(s 6)] h) r (λs h r=>eS k (λs h=>B.pv (V.bin .add (s 6) (.int .i64 1)) λa=>Y1 [a] h) (eK (eT k (λs h=>z0 (z6.l2 C (zdh 16 (.str []) 0) (N 377) Q Y1 (s 0) (s 1) (s 2) (s 6)) [(s 7)] h) r (λs h r=>eK (eL k [0,1,2,6] [7] (on4 (z6.l2 C (zdh 16 (.str []) 0) (N 377) Q Y1)) r (λY2 s h r=>e1 r))))) (λs h r=>e1 r)))))
theorem zbu.imp:zbu.Imp (AC P) N:=λa b c h Q r=>eF mixed (fn:=Try.f75) (λk=>zbu.L k (dn Q) (zcr [a,b,c]) h r)
def zcg.I:Bx:=⟨[],[],56,[(10,pz [] 20)]⟩
theorem zcg.L:LkT P zcg.I Try.f76 λC Q s h=>zcg.cps C N (s 0) (s 1) (s 2) h Q:=λ{C} k Q s h r=>eT k (λs h=>B.pv (V.bin .sub (s 2) (s 1)) λa=>zx.k5 C (zdh 16 (.str []) 0) (N 386) Q (s 0) (s 6) (.int .i64 0) a h) r (λs h r=>eT k (λs h=>B.pv (V.bin .sub (s 2) (s 1)) λa=>zx.k5 C (zdh 16 (.str []) 0) (N 386) Q (s 0) (s 6) (s 7) a h) r (λs h r=>eT k (λs h=>zx.k5 C (zdh 16 (.str []) 0) (N 386) Q (s 0) (s 6) (s 7) (s 8) h) r (λs h r=>eS k (λs h=>B.pv (V.bin .sub (s 8) (.int .i64 1)) λb=>z0 (zx.l2 C (zdh 16 (.str []) 0) (N 386) Q (s 0) (s 6) (s 7)) [b] h) (eT k (λs h=>z0 (zx.l4 C (zdh 16 (.str []) 0) (N 386) Q (s 0) (s 6) (s 7) (s 8)) [(s 9)] h) r (λs h r=>eK (eL k [0,6,7,8] [9] (on4 (zx.l4 C (zdh 16 (.str []) 0) (N 386) Q)) r (λY2 s h r=>e1 r)))) (λs h r=>eT k (λs h=>z0 (zx.l2 C (zdh 16 (.str []) 0) (N 386) Q (s 0) (s 6) (s 7)) [(s 10)] h) r (λs h r=>eK (eL k [0,6,7] [10] (on3 (zx.l2 C (zdh 16 (.str []) 0) (N 386) Q)) r (λY1 s h r=>e1 r)))))))
theorem zcg.imp:zcg.Imp (AC P) N:=λa b c h Q r=>eF mixed (fn:=Try.f76) (λk=>zcg.L k (dn Q) (zcr [a,b,c]) h r)
def zbv.I:Bx:=⟨[],[],65,[(10,pz [] 20)]⟩
theorem zbv.L:LkT P zbv.I Try.f77 λC Q s h=>zbv.cps C N (s 0) (s 1) (s 2) h Q:=λ{C} k Q s h r=>eT k (λs h=>B.pv (V.bin .geq (s 6) (.int .i64 8)) λa=>B.cond a (zi.k7 C (zdh 16 (.str []) 0) (N 298) (N 299) Q (s 0) (s 1) (s 6) h) (Q (.tup []) h)) r (λs h r=>eT k (λs h=>B.cond (s 15) (zi.k7 C (zdh 16 (.str []) 0) (N 298) (N 299) Q (s 0) (s 1) (s 6) h) (Q (.tup []) h)) r (λs h r=>eC 15 r (λr=>eT k (λs h=>B.call C (N 299) [(s 6)] h λb h=>zi.k6 C (zdh 16 (.str []) 0) (N 298) (N 299) Q (s 0) (s 1) (s 6) (s 7) b h) r (λs h r=>eT k (λs h=>zi.k6 C (zdh 16 (.str []) 0) (N 298) (N 299) Q (s 0) (s 1) (s 6) (s 7) (s 8) h) r (λs h r=>eT k (λs h=>z0 (zi.l5 C (zdh 16 (.str []) 0) (N 298) (N 299) Q (s 0) (s 1) (s 6) (s 7) (s 8)) [(s 9)] h) r (λs h r=>eK (eL k [0,1,6,7,8] [9] (on5 (zi.l5 C (zdh 16 (.str []) 0) (N 298) (N 299) Q)) r (λY1 s h r=>eT k (λs h=>zi.k3 C (zdh 16 (.str []) 0) (N 298) (N 299) Q Y1 (s 0) (s 1) (s 6) (s 7) (s 8) (s 9) h) r (λs h r=>eS k (λs h=>B.pv (V.bin .add (s 9) (.int .i64 1)) λc=>Y1 [c] h) (eK (eT k (λs h=>zi.k2 C (zdh 16 (.str []) 0) (N 298) (N 299) Q Y1 (s 0) (s 1) (s 6) (s 7) (s 8) (s 9) (s 10) h) r (λs h r=>eT k (λs h=>zi.k1 C (zdh 16 (.str []) 0) (N 298) (N 299) Q Y1 (s 0) (s 1) (s 6) (s 7) (s 8) (s 9) (s 10) h) r (λs h r=>e1 r)))) (λs h r=>e1 r)))))))) (λr=>e1 r)))
theorem zbv.imp:zbv.Imp (AC P) N:=λa b c h Q r=>eF mixed (fn:=Try.f77) (λk=>zbv.L k (dn Q) (zcr [a,b,c]) h r)
def zb2.I:Bx:=⟨[],[],57,[]⟩
theorem zb2.L:LkT P zb2.I Try.f78 λC Q s h=>zb2.cps C N (s 0) (s 1) (s 2) h Q:=λ{C} k Q s h r=>eT k (λs h=>B.pv (V.bin .sub (s 2) (s 1)) λb=>B.zf2 h (some [.int .i64 0]) λa h=>zp.k5 C (zdh 16 (.str []) 0) (N 387) (N 388) Q (s 0) (s 1) b (.ptr a 0 0) h) r (λs h r=>eT k (λs h=>B.zf2 h (some [.int .i64 0]) λa h=>zp.k5 C (zdh 16 (.str []) 0) (N 387) (N 388) Q (s 0) (s 1) (s 8) (.ptr a 0 0) h) r (λs h r=>eT k (λs h=>zp.k5 C (zdh 16 (.str []) 0) (N 387) (N 388) Q (s 0) (s 1) (s 8) (s 9) h) r (λs h r=>eT k (λs h=>zp.k4 C (zdh 16 (.str []) 0) (N 387) (N 388) Q (s 0) (s 1) (s 8) (s 9) (s 10) h) r (λs h r=>eT k (λs h=>zp.k3 C (zdh 16 (.str []) 0) (N 387) (N 388) Q (s 0) (s 1) (s 8) (s 9) (s 10) (s 11) h) r (λs h r=>eT k (λs h=>zp.k2 C (zdh 16 (.str []) 0) (N 387) (N 388) Q (s 0) (s 8) (s 9) (s 10) (s 11) (s 12) h) r (λs h r=>eT k (λs h=>zp.k1 C (zdh 16 (.str []) 0) (N 387) (N 388) Q (s 9) (s 11) h) r (λs h r=>e1 r)))))))
theorem zb2.imp:zb2.Imp (AC P) N:=λa b c h Q r=>eF mixed (fn:=Try.f78) (λk=>zb2.L k (dn Q) (zcr [a,b,c]) h r)
def zbw.I:Bx:=⟨[],[],32,[(3,pz [] 16)]⟩
theorem zbw.L:LkT P zbw.I Try.f79 λC Q s h=>zbw.cps C N (s 0) (s 1) (s 2) h Q:=λ{C} k Q s h r=>eT k (λs h=>B.pv (V.bin .sub (s 2) (.int .i64 1)) λa=>z0 (zbx.l2 C (zdh 16 (.str []) 0) Q (s 0)) [(s 6),a] h) r (λs h r=>eT k (λs h=>z0 (zbx.l2 C (zdh 16 (.str []) 0) Q (s 0)) [(s 6),(s 7)] h) r (λs h r=>eK (eL k [0] [6,7] (on1 (zbx.l2 C (zdh 16 (.str []) 0) Q)) r (λY1 s h r=>e1 r))))
theorem zbw.imp:zbw.Imp (AC P) N:=λa b c h Q r=>eF mixed (fn:=Try.f79) (λk=>zbw.L k (dn Q) (zcr [a,b,c]) h r)
def zbd.I:Bx:=⟨[],[],133,[(5,pz [] 16),(11,pz [] 18),(16,pz [] 11),(17,pz [] 18),(22,pz [] 11),(23,pz [] 18)]⟩
theorem zbd.L:LkT P zbd.I Try.f80 λC Q s h=>zbd.cps C N (s 0) (s 1) (s 2) h Q:=λ{C} k Q s h r=>eT k (λs h=>B.pv (V.bin .add (s 1) (.int .i64 1)) λc=>z0 (zd.l12 C (zdh 16 (.str []) 0) (N 377) Q (s 0) (s 1) (s 2)) [c,(.int .i64 0)] h) r (λs h r=>eT k (λs h=>z0 (zd.l12 C (zdh 16 (.str []) 0) (N 377) Q (s 0) (s 1) (s 2)) [(s 7),(.int .i64 0)] h) r (λs h r=>eS k (λs h=>Q (.bool false) h) (eT k (λs h=>z0 (zd.l12 C (zdh 16 (.str []) 0) (N 377) Q (s 0) (s 1) (s 2)) [(s 7),(s 8)] h) r (λs h r=>eK (eL k [0,1,2] [7,8] (on3 (zd.l12 C (zdh 16 (.str []) 0) (N 377) Q)) r (λY1 s h r=>eT k (λs h=>z0 (zd.l10 C (zdh 16 (.str []) 0) (N 377) Q Y1 (s 0) (s 1) (s 2) (s 8)) [(s 7)] h) r (λs h r=>eS k (λs h=>B.pv (V.bin .add (s 8) (.int .i64 1)) λa=>Y1 [(s 7),a] h) (eK (eS k (λs h=>B.pv (V.bin .eql (s 7) (s 2)) λd=>B.cond d (Q (.bool true) h) (zd.k8 C (zdh 16 (.str []) 0) (N 377) Q Y1 (s 0) (s 1) (s 2) (s 7) (s 8) h)) (eK (eL k [0,1,2,8] [7] (on4 (zd.l10 C (zdh 16 (.str []) 0) (N 377) Q Y1)) r (λY4 s h r=>e1 r))) (λs h r=>eT k (λs h=>zd.k8 C (zdh 16 (.str []) 0) (N 377) Q Y1 (s 0) (s 1) (s 2) (s 7) (s 8) h) r (λs h r=>eT k (λs h=>zd.k7 C (zdh 16 (.str []) 0) (N 377) Q Y1 (s 0) (s 1) (s 2) (s 7) (s 8) h) r (λs h r=>eT k (λs h=>zd.k6 C (zdh 16 (.str []) 0) (N 377) Q Y1 (s 0) (s 1) (s 2) (s 7) (s 8) h) r (λs h r=>eS k (λs h=>zd.k3 C (zdh 16 (.str []) 0) (N 377) Q Y1 (s 0) (s 1) (s 2) (s 7) (s 8) h) (eT k (λs h=>B.cond (s 61) (B.pv (V.bin .sub (s 7) (.int .i64 1)) λe=>z0 (zd.l5 C (zdh 16 (.str []) 0) (N 377) Q Y1 (s 0) (s 1) (s 2) (s 7) (s 8)) [e] h) (zd.k3 C (zdh 16 (.str []) 0) (N 377) Q Y1 (s 0) (s 1) (s 2) (s 7) (s 8) h)) r (λs h r=>eC 61 r (λr=>eT k (λs h=>z0 (zd.l5 C (zdh 16 (.str []) 0) (N 377) Q Y1 (s 0) (s 1) (s 2) (s 7) (s 8)) [(s 9)] h) r (λs h r=>eK (eL k [0,1,2,7,8] [9] (on5 (zd.l5 C (zdh 16 (.str []) 0) (N 377) Q Y1)) r (λY3 s h r=>e1 r)))) (λr=>e1 r))) (λs h r=>eT k (λs h=>B.cond (s 98) (B.pv (V.bin .add (s 7) (.int .i64 1)) λb=>z0 (zd.l2 C (zdh 16 (.str []) 0) (N 377) Q Y1 (s 0) (s 1) (s 2) (s 7) (s 8)) [b] h) (B.pv (V.bin .add (s 8) (.int .i64 1)) λa=>Y1 [(s 7),a] h)) r (λs h r=>eC 98 r (λr=>eT k (λs h=>z0 (zd.l2 C (zdh 16 (.str []) 0) (N 377) Q Y1 (s 0) (s 1) (s 2) (s 7) (s 8)) [(s 10)] h) r (λs h r=>eK (eL k [0,1,2,7,8] [10] (on5 (zd.l2 C (zdh 16 (.str []) 0) (N 377) Q Y1)) r (λY2 s h r=>e1 r)))) (λr=>e1 r))))))))) (λs h r=>e1 r)))))) (λs h r=>e1 r)))
theorem zbd.imp:zbd.Imp (AC P) N:=λa b c h Q r=>eF mixed (fn:=Try.f80) (λk=>zbd.L k (dn Q) (zcr [a,b,c]) h r)
def zdd.I:Bx:=⟨[],[],17,[]⟩
theorem zdd.L:LkT P zdd.I Try.f81 λC Q s h=>zdd.cps C N (s 0) (s 1) h Q:=λ{C} k Q s h r=>e1 r
theorem zdd.imp:zdd.Imp (AC P) N:=λa b h Q r=>eF mixed (fn:=Try.f81) (λk=>zdd.L k (dn Q) (zcr [a,b]) h r)
def zbp.I:Bx:=⟨[],[],84,[(1,pz [] 16),(3,pz [] 15),(5,pz [] 14),(8,pz [] 16)]⟩
theorem zbp.L:LkT P zbp.I Try.f82 λC Q s h=>zbp.cps C N (s 0) (s 1) (s 2) (s 3) h Q:=λ{C} k Q s h r=>eT k (λs h=>zk.k8 C (zdh 16 (.str []) 0) (N 377) Q (s 0) (s 1) (s 2) (s 3) h) r (λs h r=>eT k (λs h=>zk.k7 C (zdh 16 (.str []) 0) (N 377) Q (s 0) (s 1) (s 2) h) r (λs h r=>eT k (λs h=>z0 (zk.l6 C (zdh 16 (.str []) 0) (N 377) Q (s 0) (s 1)) [(s 9),(s 10)] h) r (λs h r=>eS k (λs h=>Q (s 9) h) (eK (eL k [0,1] [9,10] (on2 (zk.l6 C (zdh 16 (.str []) 0) (N 377) Q)) r (λY1 s h r=>eK (eS k (λs h=>z0 (zk.l3 C (zdh 16 (.str []) 0) (N 377) Q Y1 (s 0) (s 1) (s 9)) [(s 10)] h) (eK (eL k [0,1,10] [9] (on3 (zk.l5 C (zdh 16 (.str []) 0) (N 377) Q Y1)) r (λY3 s h r=>e1 r))) (λs h r=>eS k (λs h=>zk.k1 C (zdh 16 (.str []) 0) (N 377) Q Y1 (s 0) (s 1) (s 9) (s 10) h) (eK (eL k [0,1,9] [10] (on3 (zk.l3 C (zdh 16 (.str []) 0) (N 377) Q Y1)) r (λY2 s h r=>e1 r))) (λs h r=>e1 r)))))) (λs h r=>e1 r))))
theorem zbp.imp:zbp.Imp (AC P) N:=λa b c d h Q r=>eF mixed (fn:=Try.f82) (λk=>zbp.L k (dn Q) (zcr [a,b,c,d]) h r)
def zb8.I:Bx:=⟨[],[],168,[(1,pz [] 16),(3,pz [] 14),(5,pz [] 15),(8,pz [] 16),(10,pz [] 16),(13,pz [] 14),(15,pz [] 15),(18,pz [] 16),(21,pz [] 16)]⟩
theorem zb8.L:LkT P zb8.I Try.f83 λC Q s h=>zb8.cps C N (s 0) (s 1) (s 2) (s 3) h Q:=λ{C} k Q s h r=>eT k (λs h=>zf.k16 C (zdh 16 (.str []) 0) (N 377) Q (s 0) (s 1) (s 2) (s 3) h) r (λs h r=>eT k (λs h=>zf.k15 C (zdh 16 (.str []) 0) (N 377) Q (s 0) (s 1) (s 2) h) r (λs h r=>eT k (λs h=>z0 (zf.l14 C (zdh 16 (.str []) 0) (N 377) Q (s 0) (s 1) (s 11)) [(s 10)] h) r (λs h r=>eS k (λs h=>z0 (zf.l12 C (zdh 16 (.str []) 0) (N 377) Q (s 0) (s 1) (s 10)) [(s 11)] h) (eK (eL k [0,1,11] [10] (on3 (zf.l14 C (zdh 16 (.str []) 0) (N 377) Q)) r (λY5 s h r=>e1 r))) (λs h r=>eS k (λs h=>zf.k10 C (zdh 16 (.str []) 0) (N 377) Q (s 0) (s 1) (s 10) (s 11) h) (eK (eL k [0,1,10] [11] (on3 (zf.l12 C (zdh 16 (.str []) 0) (N 377) Q)) r (λY4 s h r=>e1 r))) (λs h r=>eT k (λs h=>zf.k9 C (zdh 16 (.str []) 0) (N 377) Q (s 0) (s 1) (s 10) (s 11) h) r (λs h r=>eT k (λs h=>zf.k8 C (zdh 16 (.str []) 0) (N 377) Q (s 0) (s 1) (s 10) (s 11) h) r (λs h r=>eT k (λs h=>B.pv (V.bin .sub (s 11) (.int .i64 1)) λa=>z0 (zf.l7 C (zdh 16 (.str []) 0) (N 377) Q (s 0) (s 1)) [(s 10),a] h) r (λs h r=>eT k (λs h=>z0 (zf.l7 C (zdh 16 (.str []) 0) (N 377) Q (s 0) (s 1)) [(s 10),(s 11)] h) r (λs h r=>eS k (λs h=>zf.k1 C (zdh 16 (.str []) 0) (N 377) Q (s 0) (s 1) (s 11) h) (eK (eL k [0,1] [10,11] (on2 (zf.l7 C (zdh 16 (.str []) 0) (N 377) Q)) r (λY1 s h r=>eK (eS k (λs h=>z0 (zf.l4 C (zdh 16 (.str []) 0) (N 377) Q Y1 (s 0) (s 1) (s 10)) [(s 11)] h) (eK (eL k [0,1,11] [10] (on3 (zf.l6 C (zdh 16 (.str []) 0) (N 377) Q Y1)) r (λY3 s h r=>e1 r))) (λs h r=>eS k (λs h=>zf.k2 C (zdh 16 (.str []) 0) (N 377) Q Y1 (s 0) (s 1) (s 10) (s 11) h) (eK (eL k [0,1,10] [11] (on3 (zf.l4 C (zdh 16 (.str []) 0) (N 377) Q Y1)) r (λY2 s h r=>e1 r))) (λs h r=>e1 r)))))) (λs h r=>e1 r))))))))))
theorem zb8.imp:zb8.Imp (AC P) N:=λa b c d h Q r=>eF mixed (fn:=Try.f83) (λk=>zb8.L k (dn Q) (zcr [a,b,c,d]) h r)
def zcl.I:Bx:=⟨[],[],76,[(3,pz [] 20),(5,pz [] 14),(6,pz [] 24)]⟩
theorem zcl.L:LkT P zcl.I Try.f84 λC Q s h=>zcl.cps C N (s 0) (s 1) (s 2) (s 3) h Q:=λ{C} k Q s h r=>eT k (λs h=>z0 (z9.l4 C (zdh 8 (.int .i64 0) 0) (N 534) Q (s 0) (s 2) (s 3)) [(s 8)] h) r (λs h r=>eK (eL k [0,2,3] [8] (on3 (z9.l4 C (zdh 8 (.int .i64 0) 0) (N 534) Q)) r (λY1 s h r=>eK (eT k (λs h=>B.pv (V.bin .geq (s 9) (s 2)) λa=>B.cond a (Q (.tup []) h) (z9.k2 C (zdh 8 (.int .i64 0) 0) (N 534) Q Y1 (s 0) (s 2) (s 3) (s 8) (s 9) h)) r (λs h r=>eT k (λs h=>z9.k2 C (zdh 8 (.int .i64 0) 0) (N 534) Q Y1 (s 0) (s 2) (s 3) (s 8) (s 9) h) r (λs h r=>eT k (λs h=>z9.k1 C (zdh 8 (.int .i64 0) 0) (N 534) Q Y1 (s 0) (s 2) (s 3) (s 8) (s 9) h) r (λs h r=>e1 r)))))))
theorem zcl.imp:zcl.Imp (AC P) N:=λa b c d h Q r=>eF mixed (fn:=Try.f84) (λk=>zcl.L k (dn Q) (zcr [a,b,c,d]) h r)
def zc5.I:Bx:=⟨[],[],7,[]⟩
theorem zc5.L:LkT P zc5.I Try.f85 λC Q s h=>zc5.cps C N (s 0) h Q:=λ{C} k Q s h r=>e1 r
theorem zc5.imp:zc5.Imp (AC P) N:=λa h Q r=>eF mixed (fn:=Try.f85) (λk=>zc5.L k (dn Q) (zcr [a]) h r)
def zci.I:Bx:=⟨[],[],33,[(1,pz [] 10),(2,pz [] 10),(3,pz [] 10)]⟩
theorem zci.L:LkT P zci.I Try.f86 λC Q s h=>zci.cps C N (s 0) h Q:=λ{C} k Q s h r=>e1 r
theorem zci.imp:zci.Imp (AC P) N:=λa h Q r=>eF mixed (fn:=Try.f86) (λk=>zci.L k (dn Q) (zcr [a]) h r)
def zbt.I:Bx:=⟨[],[],15,[]⟩
theorem zbt.L:LkT P zbt.I Try.f87 λC Q s h=>zbt.cps C N (s 0) (s 1) (s 2) h Q:=λ{C} k Q s h r=>e1 r
theorem zbt.imp:zbt.Imp (AC P) N:=λa b c h Q r=>eF mixed (fn:=Try.f87) (λk=>zbt.L k (dn Q) (zcr [a,b,c]) h r)
def zc3.I:Bx:=⟨[],[],36,[]⟩
theorem zc3.L:LkT P zc3.I Try.f88 λC Q s h=>zc3.cps C N (s 0) (s 1) (s 2) (s 3) (s 4) h Q:=λ{C} k Q s h r=>e1 r
theorem zc3.imp:zc3.Imp (AC P) N:=λa b c d e h Q r=>eF mixed (fn:=Try.f88) (λk=>zc3.L k (dn Q) (zcr [a,b,c,d,e]) h r)
def zdq.I:Bx:=⟨[],[],6,[]⟩
theorem zdq.L:LkT P zdq.I Try.f89 λC Q s h=>zdq.cps C N (s 0) h Q:=λ{C} k Q s h r=>e1 r
theorem zdq.imp:zdq.Imp (AC P) N:=λa h Q r=>eF mixed (fn:=Try.f89) (λk=>zdq.L k (dn Q) (zcr [a]) h r)
def zce.I:Bx:=⟨[],[],76,[(3,pz [] 20),(5,pz [] 14),(6,pz [] 24)]⟩
theorem zce.L:LkT P zce.I Try.f90 λC Q s h=>zce.cps C N (s 0) (s 1) (s 2) (s 3) h Q:=λ{C} k Q s h r=>eT k (λs h=>z0 (z9.l4 C (zdh 16 (.str []) 0) (N 377) Q (s 0) (s 2) (s 3)) [(s 8)] h) r (λs h r=>eK (eL k [0,2,3] [8] (on3 (z9.l4 C (zdh 16 (.str []) 0) (N 377) Q)) r (λY1 s h r=>eK (eT k (λs h=>B.pv (V.bin .geq (s 9) (s 2)) λa=>B.cond a (Q (.tup []) h) (z9.k2 C (zdh 16 (.str []) 0) (N 377) Q Y1 (s 0) (s 2) (s 3) (s 8) (s 9) h)) r (λs h r=>eT k (λs h=>z9.k2 C (zdh 16 (.str []) 0) (N 377) Q Y1 (s 0) (s 2) (s 3) (s 8) (s 9) h) r (λs h r=>eT k (λs h=>z9.k1 C (zdh 16 (.str []) 0) (N 377) Q Y1 (s 0) (s 2) (s 3) (s 8) (s 9) h) r (λs h r=>e1 r)))))))
theorem zce.imp:zce.Imp (AC P) N:=λa b c d h Q r=>eF mixed (fn:=Try.f90) (λk=>zce.L k (dn Q) (zcr [a,b,c,d]) h r)
def zbq.I:Bx:=⟨[],[],15,[]⟩
theorem zbq.L:LkT P zbq.I Try.f91 λC Q s h=>zbq.cps C N (s 0) (s 1) (s 2) h Q:=λ{C} k Q s h r=>e1 r
theorem zbq.imp:zbq.Imp (AC P) N:=λa b c h Q r=>eF mixed (fn:=Try.f91) (λk=>zbq.L k (dn Q) (zcr [a,b,c]) h r)
def zcx.I:Bx:=⟨[],[],36,[]⟩
theorem zcx.L:LkT P zcx.I Try.f92 λC Q s h=>zcx.cps C N (s 0) (s 1) (s 2) (s 3) (s 4) h Q:=λ{C} k Q s h r=>e1 r
theorem zcx.imp:zcx.Imp (AC P) N:=λa b c d e h Q r=>eF mixed (fn:=Try.f92) (λk=>zcx.L k (dn Q) (zcr [a,b,c,d,e]) h r)
def zdg.I:Bx:=⟨[],[],6,[]⟩
theorem zdg.L:LkT P zdg.I Try.f93 λC Q s h=>zdg.cps C N (s 0) h Q:=λ{C} k Q s h r=>e1 r
theorem zdg.imp:zdg.Imp (AC P) N:=λa h Q r=>eF mixed (fn:=Try.f93) (λk=>zdg.L k (dn Q) (zcr [a]) h r)
def zc2.I:Bx:=⟨[],[],28,[(1,pz [] 9)]⟩
theorem zc2.L:LkT P zc2.I Try.f94 λC Q s h=>zc2.cps C N (s 0) (s 1) (s 2) (s 3) h Q:=λ{C} k Q s h r=>e1 r
theorem zc2.imp:zc2.Imp (AC P) N:=λa b c d h Q r=>eF mixed (fn:=Try.f94) (λk=>zc2.L k (dn Q) (zcr [a,b,c,d]) h r)
def zcw.I:Bx:=⟨[],[],28,[(1,pz [] 9)]⟩
theorem zcw.L:LkT P zcw.I Try.f95 λC Q s h=>zcw.cps C N (s 0) (s 1) (s 2) (s 3) h Q:=λ{C} k Q s h r=>e1 r
theorem zcw.imp:zcw.Imp (AC P) N:=λa b c d h Q r=>eF mixed (fn:=Try.f95) (λk=>zcw.L k (dn Q) (zcr [a,b,c,d]) h r)
end Go.Ab.S24
namespace Go.Ab
open List
section
variable{h h0:zb}{es:Nat}{x:za}{L R:List (List za)}{l:List Ob}
end
abbrev zes(K T:Type):=List (K×T×Nat)
def zcd{K T:Type}(ps:zes K T):List K:=ps.map (·.1)
theorem zkg{K T:Type}(p:K×T×Nat)(r:zes K T):zcd (p::r)=p.1::zcd r:=rfl
section
variable{K T:Type}[DecidableEq K]
def zg2:zes K T->K->Option T|[],_=>none|p::r,k=>if p.1=k then some p.2.1 else zg2 r k
def zl2:zes K T->K->T->Nat->zes K T|[],k,t,c=>[(k,t,c)]|p::r,k,t,c=>if p.1=k then (k,t,p.2.2)::r else p::zl2 r k t c
def znj:zes K T->K->zes K T|[],_=>[]|p::r,k=>if p.1=k then r else p::znj r k
def clkP(ps:zes K T)(k:K)(c:Nat):Nat:=if (zg2 ps k).isSome then c else c+1
def znh:zes K T->K->Option (Nat×T×Nat)|[],_=>none|p::r,k=>if p.1=k then some (0,p.2.1,p.2.2) else (znh r k).map fun(i,q)=>(i+1,q)
theorem zp5(k k':K)(t:T)(c:Nat):∀ps:zes K T,zg2 (zl2 ps k t c) k'=if k'=k then some t else zg2 ps k'
 | []=>by
  simp only[zl2,zg2]
  by_cases h:k'=k
  ·rw[if_pos h.symm,if_pos h]
  ·rw[if_neg (Ne.symm h),if_neg h]
 | p::r=>by
  have ih:=zp5 k k' t c r
  simp only[zl2]
  by_cases hp:p.1=k
  ·rw[if_pos hp]
   simp only[zg2]
   by_cases h:k'=k
   ·rw[if_pos h.symm,if_pos h]
   ·rw[if_neg (Ne.symm h),if_neg h,if_neg (by rw[hp];exact Ne.symm h)]
  ·rw[if_neg hp]
   simp only[zg2,ih]
   by_cases h:k'=k
   ·subst h;rw[if_neg hp,if_pos rfl,if_pos rfl]
   ·rw[if_neg h,if_neg h]
theorem zq5{k:K}:∀{ps:zes K T},zg2 ps k=none↔k∉zcd ps
 | []=>by simp[zg2,zcd]
 | p::r=>by
  have ih:=zq5 (k:=k) (ps:=r)
  simp only[zg2,zcd,map_cons,mem_cons,not_or]at ih ⊢
  by_cases hp:p.1=k
  ·simp[hp]
  ·simp[hp,ih,Ne.symm hp]
theorem zn3(k:K):∀ps:zes K T,zg2 ps k=(znh ps k).map (·.2.1)
 | []=>rfl
 | p::r=>by
  simp only[zg2,znh]
  split
  ·rfl
  ·rw[zn3 k r];cases znh r k<;>rfl
theorem idxP_put{k:K}{t:T}{c i:Nat}{q:T×Nat}:∀{ps:zes K T},znh ps k=some (i,q)->zl2 ps k t c=ps.set i (k,t,q.2) /\ i<ps.length
 | [],h=>by simp[znh]at h
 | p::r,h=>by
  simp only[znh]at h
  by_cases hp:p.1=k
  ·rw[if_pos hp]at h
   simp only[Option.some.injEq,Prod.mk.injEq]at h
   obtain⟨rfl,rfl⟩:=h
   simp[zl2,hp]
  ·rw[if_neg hp]at h
   cases hr:znh r k with
   | none=>simp[hr]at h
   | some x=>
    obtain⟨j,q'⟩:=x
    simp[hr]at h
    obtain⟨rfl,rfl⟩:=h
    have:=idxP_put (t:=t) (c:=c) hr
    simp[zl2,hp,this.1,this.2]
theorem idxP_del{k:K}{i:Nat}{q:T×Nat}:∀{ps:zes K T},znh ps k=some (i,q)->znj ps k=ps.eraseIdx i
 | [],h=>by simp[znh]at h
 | p::r,h=>by
  simp only[znh]at h
  by_cases hp:p.1=k
  ·rw[if_pos hp]at h
   simp only[Option.some.injEq,Prod.mk.injEq]at h
   obtain⟨rfl,rfl⟩:=h
   simp[znj,hp]
  ·rw[if_neg hp]at h
   cases hr:znh r k with
   | none=>simp[hr]at h
   | some x=>
    obtain⟨j,q'⟩:=x
    simp[hr]at h
    obtain⟨rfl,rfl⟩:=h
    simp[znj,hp,idxP_del hr]
theorem zkx{k:K}{t:T}{c:Nat}:∀{ps:zes K T},znh ps k=none->zl2 ps k t c=ps++[(k,t,c)]
 | [],_=>rfl
 | p::r,h=>by
  simp only[znh]at h
  by_cases hp:p.1=k
  ·rw[if_pos hp]at h;cases h
  ·rw[if_neg hp]at h
   cases hr:znh r k with
   | none=>simp[zl2,hp,zkx hr]
   | some x=>simp[hr]at h
theorem zky{k:K}:∀{ps:zes K T},znh ps k=none->znj ps k=ps
 | [],_=>rfl
 | p::r,h=>by
  simp only[znh]at h
  by_cases hp:p.1=k
  ·rw[if_pos hp]at h;cases h
  ·rw[if_neg hp]at h
   cases hr:znh r k with
   | none=>simp[znj,hp,zky hr]
   | some x=>simp[hr]at h
theorem zlo(k:K)(t:T)(c:Nat):∀ps:zes K T,zcd (zl2 ps k t c)=if k∈zcd ps then zcd ps else zcd ps++[k]
 | []=>by simp[zl2,zcd]
 | p::r=>by
  have ih:=zlo k t c r
  by_cases hp:p.1=k
  ·rw[zl2,if_pos hp,zkg,zkg,if_pos (by simp[hp]),hp]
  ·rw[zl2,if_neg hp,zkg,ih,zkg]
   by_cases hm:k∈zcd r
   ·rw[if_pos hm,if_pos (by simp[hm])]
   ·rw[if_neg hm,if_neg (by simp[hm,Ne.symm hp])];rfl
theorem zll{ps:zes K T}(h:(zcd ps).Nodup)(k:K)(t:T)(c:Nat):(zcd (zl2 ps k t c)).Nodup:=by
 rw[zlo];split
 ·exact h
 ·rename_i hk
  rw[nodup_append];exact⟨h,pairwise_singleton _ _,λa ha b hb e=>hk (by rw[mem_singleton.1 hb]at e;rw[<-e];exact ha)⟩
theorem keysP_del(k:K):∀{ps:zes K T},zcd (znj ps k)=(zcd ps).erase k
 | []=>rfl
 | p::r=>by
  have ih:=keysP_del k (ps:=r)
  simp only[znj,zcd]at ih ⊢
  by_cases hp:p.1=k
  ·simp[hp]
  ·simp[hp,ih,erase_cons]
theorem nodup_del{ps:zes K T}(h:(zcd ps).Nodup)(k:K):(zcd (znj ps k)).Nodup:=by
 rw[keysP_del];exact h.sublist (erase_sublist)
theorem zic{k:K}{t:T}:∀{ps:zes K T},zg2 ps k=some t->∃n,(k,t,n)∈ps
 | [],h=>by simp[zg2]at h
 | p::r,h=>by
  simp only[zg2]at h
  by_cases hp:p.1=k
  ·rw[if_pos hp]at h
   cases h
   exact⟨p.2.2,by rw[<-hp];simp⟩
  ·rw[if_neg hp]at h
   obtain⟨n,hn⟩:=zic h
   exact⟨n,by simp[hn]⟩
theorem mem_getP{ps:zes K T}(hn:(zcd ps).Nodup){p:K×T×Nat}(hp:p∈ps):zg2 ps p.1=some p.2.1:=by
 induction ps with
 | nil=>cases hp
 | cons q r ih=>
  simp only[zcd,map_cons,nodup_cons]at hn;simp only[zg2];rcases mem_cons.1 hp with rfl|hp
  ·rw[if_pos rfl]
  ·rw[if_neg,ih hn.2 hp]
   intro e;exact hn.1 (by rw[e];exact mem_map_of_mem hp)
end
structure KeyE(kd:KD){K:Type}[DecidableEq K](κ:K->za):Prop where
 same:∀a b,V.sameK kd (κ a) (κ b)=some (decide (a=b))
theorem keyI:KeyE .i (λn:Int=> .int .i64 n):=⟨λa b=>by
 simp only[V.sameK,if_true];congr 1⟩
theorem keyS:KeyE .s (λs:List UInt8=> .str s):=⟨λa b=>by
 simp only[V.sameK];congr 1;rw[Bool.eq_iff_iff,beq_iff_eq,decide_eq_true_eq]⟩
theorem map_eraseIdx{α β:Type}(f:α->β):∀(l:List α)(i:Nat),(l.map f).eraseIdx i=(l.eraseIdx i).map f
 | [],_=>rfl
 | _::_,0=>rfl
 | a::l,i+1=>by simp[map_eraseIdx f l i]
def zid{K T:Type}(κ:K->za)(v:T->za)(ps:zes K T):List (za×za×Nat):=ps.map λp=>(κ p.1,v p.2.1,p.2.2)
section
variable{kd:KD}{K T:Type}[DecidableEq K]{κ:K->za}{v:T->za}
theorem zlq(hκ:KeyE kd κ)(k:K):∀(ps:zes K T)(i:Nat),V.zrq kd (κ k) (zid κ v ps) i=some ((znh ps k).map fun(j,q)=>(i+j,v q.1,q.2))
 | [],i=>rfl
 | p::r,i=>by
  simp only[zid,map_cons,V.zrq,hκ.same,znh]
  by_cases hp:k=p.1
  ·rw[if_pos hp.symm];simp[hp]
  ·rw[if_neg (Ne.symm hp)]
   have ih:=zlq hκ k r (i+1)
   simp only[zid]at ih
   simp only[hp,decide_false,ih]
   cases znh r k with
   | none=>rfl
   | some x=>obtain⟨j,q⟩:=x;simp only[Option.map_some];congr 3;omega
theorem fset_enc(hκ:KeyE kd κ)(k:K)(t:T)(ps:zes K T)(c:Nat):A.fset (some kd) (κ k) (v t) (zid κ v ps) c=some (zid κ v (zl2 ps k t c),clkP ps k c,.undef):=by
 simp only[A.fset,zlq hκ,clkP,zn3];cases h:znh ps k with
 | none=>simp[zkx h,zid]
 | some x=>
  obtain⟨j,q⟩:=x;have:=idxP_put (t:=t) (c:=c) h;simp only[Option.map_some,Option.isSome_some,if_true,Nat.zero_add,this.1,zid,map_set]
theorem fdel_enc(hκ:KeyE kd κ)(k:K)(ps:zes K T)(c:Nat):A.fdel (some kd) (κ k) (zid κ v ps) c=some (zid κ v (znj ps k),c,.tup []):=by
 simp only[A.fdel,zlq hκ];cases h:znh ps k with
 | none=>simp[zky h]
 | some x=>
  obtain⟨j,q⟩:=x;have:=idxP_del h;simp only[Option.map_some,Nat.zero_add,this,zid];rw[map_eraseIdx]
end
def ze6(es:List (za×za×Nat))(c:Nat):Blk:=zgb (.map es c)
theorem zc6.znt{h0 h:zb}{l:List Ob}(ho:zc6 h0 h l){id:Nat}(hid:h id=none){b:Blk}(hb:b.own=true):zc6 h0 (upd h id b) (l++[.blk id b]):=
 ho.join ⟨zgi _ hid,λo hm=>by rw[mem_singleton.1 hm];exact zb4 ..,λo hm j hj=>by rw[mem_singleton.1 hm]at hj;cases hj;exact⟨hid,λb hb'=>by rw[zb4]at hb';cases hb';exact hb⟩,pairwise_singleton _ _⟩
theorem zc6.zk5{h0 h:zb}{l:List Ob}{K T:Type}(ho:zc6 h0 h l)(κ:K->za)(v:T->za){Q:zQ}(hq:∀id h',h id=none->zc6 h0 h' (l++[.blk id (ze6 (zid κ v []) 0)])->h.le h'->Q (.mp id) h'):B.zk5 h Q:=λid hid=>hq id _ hid (ho.znt hid rfl) (zgi _ hid)
section
variable{h0 h:zb}{l:List Ob}{kd:KD}{K T:Type}[DecidableEq K]{κ:K->za}{v:T->za}
theorem zc6.setBlk(ho:zc6 h0 h l)(k:Nat){id:Nat}{b b':Blk}(hk:l[k]?=some (.blk id b))(hb:b'.own=true):zc6 h0 (upd h id b') (l.set k (.blk id b')):=
 ho.zhe k hk (zb4 ..) (λj c hj hc=>by cases hj;rw[zb4]at hc;cases hc;exact hb) (λj c e1 e2=>by rw[zy];exact e1;intro e;subst e;exact e2 rfl) (.inl rfl)
theorem zig{id:Nat}{es:List (za×za×Nat)}{c:Nat}(hb:h id=some (ze6 es c)):A.zmi h (.mp id)=some (es,c):=by simp[A.zmi,hb,ze6,zgb]
theorem objT_blk{id:Nat}{es es':List (za×za×Nat)}{c c':Nat}{u:za}{f:List (za×za×Nat)->Nat->Option (List (za×za×Nat)×Nat×za)}{Q:zQ}(hb:h id=some (ze6 es c))(hf:f es c=some (es',c',u))
  (hq:Q u (upd h id (ze6 es' c'))):A.zpr h (.mp id) f Q:=by
 unfold ze6 zgb at *;simp only[A.zpr,hb,hf];exact hq
theorem lkp_blk{id:Nat}{c:Nat}{ps:zes K T}(hκ:KeyE kd κ)(hb:h id=some (ze6 (zid κ v ps) c))(z:T)(k:K)(ok:Bool):
  A.lkp h (some kd) (some (v z)) ok (.mp id) (κ k)=some (bif ok then .tup [v ((zg2 ps k).getD z),.bool (zg2 ps k).isSome] else v ((zg2 ps k).getD z)):=by
 simp only[A.lkp,A.entries,zig hb,zlq hκ,zn3];cases znh ps k with
 | none=>rfl
 | some x=>rfl
theorem zc6.mset(ho:zc6 h0 h l)(i:Nat){id c:Nat}{ps:zes K T}(hi:l[i]?=some (.blk id (ze6 (zid κ v ps) c)))(hκ:KeyE kd κ)(k:K)(t:T){Q:zb->Prop}
  (hq:∀h',zc6 h0 h' (l.set i (.blk id (ze6 (zid κ v (zl2 ps k t c)) (clkP ps k c))))->But (.mp id) h h'->(∀j,j≠id->h' j=h j)->Q h'):B.mset h kd (.mp id) (κ k) (v t) Q:=
 objT_blk (ho.at i hi) (fset_enc hκ k t ps c) (hq _ (ho.setBlk i hi rfl) (λj b e1 e2=>by rw[zy];exact e1;intro e;subst e;exact e2 rfl) λj hj=>zy _ _ hj)
end
def zfz{K T:Type}(ps:zes K T)(c:Nat):Prop:=(∀p∈ps,p.2.2<c) /\ (ps.map (·.2.2)).Nodup
section
variable{K T:Type}{ps D:zes K T}{c:Nat}
theorem zfz.nil(c:Nat):zfz ([]:zes K T) c:=⟨λ_ h=>(by cases h),List.Pairwise.nil⟩
theorem zfz.put[DecidableEq K](hb:zfz ps c)(k:K)(t:T):zfz (zl2 ps k t c) (clkP ps k c):=by
 unfold clkP;rw[zn3];cases h:znh ps k with
 | none=>
  rw[zkx h];simp only[Option.map_none,Option.isSome_none,Bool.false_eq_true,if_false];refine⟨λp hp=>?_,?_⟩
  ·rcases mem_append.1 hp with hp|hp
   ·have:=hb.1 p hp;omega
   ·rw[mem_singleton.1 hp];exact Nat.lt_succ_self _
  ·rw[map_append,nodup_append]
   refine⟨hb.2,pairwise_singleton _ _,λa ha b hb2=>?_⟩;obtain⟨p,hp,rfl⟩:=mem_map.1 ha;rw[map_singleton,mem_singleton]at hb2;have:=hb.1 p hp;subst hb2;exact Nat.ne_of_lt this
 | some x=>
  obtain⟨j,q⟩:=x;have he:=idxP_put (t:=t) (c:=c) h;simp only[Option.map_some,Option.isSome_some,if_true,he.1];have hq:(ps.map (·.2.2))[j]?=some q.2:=by
   have:∀(ps:zes K T)(j:Nat)(q:T×Nat),znh ps k=some (j,q)->(ps.map (·.2.2))[j]?=some q.2:=by
    intro ps
    induction ps with
    | nil=>intro j q h;cases h
    | cons p r ih=>
     intro j q h;simp only[znh]at h;split at h
     ·cases h;rfl
     ·cases e:znh r k with
      | none=>rw[e]at h;cases h
      | some y=>
       obtain⟨j',q'⟩:=y;rw[e]at h;simp only[Option.map_some,Option.some.injEq,Prod.mk.injEq]at h;obtain⟨rfl,rfl⟩:=h;simpa using ih _ _ e
   exact this _ _ _ h
  have hm:(ps.set j (k,t,q.2)).map (·.2.2)=ps.map (·.2.2):=by
   rw[map_set];apply ext_getElem?;intro i;rw[getElem?_set];split
   ·rename_i e;subst e
    split
    ·exact hq.symm
    ·rename_i e2;simp at e2;omega
   ·rfl
  refine⟨λp hp=>?_,by rw[hm];exact hb.2⟩;have:p.2.2∈(ps.set j (k,t,q.2)).map (·.2.2):=mem_map.2 ⟨p,hp,rfl⟩;rw[hm]at this;obtain⟨p',hp',e⟩:=mem_map.1 this;rw[<-e];exact hb.1 p' hp'
theorem zfz.del[DecidableEq K](hb:zfz ps c)(k:K):zfz (znj ps k) c:=by
 cases h:znh ps k with
 | none=>rw[zky h];exact hb
 | some x=>
  obtain⟨j,q⟩:=x;rw[idxP_del h];have hs:=eraseIdx_sublist ps j;exact⟨λp hp=>hb.1 p (hs.subset hp),(hs.map _).nodup hb.2⟩
theorem zfz.inj(hb:zfz ps c){p q:K×T×Nat}(hp:p∈ps)(hq:q∈ps)(e:p.2.2=q.2.2):p=q:=by
 obtain⟨i,hi,rfl⟩:=mem_iff_getElem.1 hp;obtain⟨j,hj,rfl⟩:=mem_iff_getElem.1 hq;have:i=j:=by
  refine(getElem_inj (h₀:=by simpa using hi) (h₁:=by simpa using hj) hb.2).1 ?_;simpa using e
 subst this;rfl
theorem zfz.all(hb:zfz ps c)(h1:∀p∈D,p∈ps)(h2:(D.map (·.2.2)).Nodup)(h3:∀p∈ps,p.2.2∈D.map (·.2.2)):D.Perm ps:=by
 have nd:∀{l:zes K T},(l.map (·.2.2)).Nodup->l.Nodup:=λh=>List.Pairwise.of_map (S:=(· ≠ ·)) (λp:K×T×Nat=>p.2.2) (λa b h e=>h (by rw[e])) h;refine(perm_ext_iff_of_nodup (nd h2) (nd hb.2)).2 λp=>⟨h1 p,λhp=>?_⟩;obtain⟨q,hq,e⟩:=mem_map.1 (h3 p hp)
 rwa [hb.inj (h1 q hq) hp e]at hq
end
def ze9(m since:Nat)(seen:List Nat)(last:Nat):Blk:=zgb (.mapIter (some m) since seen last)
section
variable{h0 h:zb}{l:List Ob}{K T:Type}{κ:K->za}{v:T->za}{ps:zes K T}{m c:Nat}{Q:zQ}
theorem zc6.nextMapB(ho:zc6 h0 h l)(j:Nat){it since last:Nat}{seen:List Nat}(hbm:h m=some (ze6 (zid κ v ps) c))(hj:l[j]?=some (.blk it (ze9 m since seen last)))(hb:zfz ps c)(hs:c <= since)(hsl:since <= last)
  (hdone:(∀p∈ps,p.2.2∈seen)->Q (.tup [.bool false]) h)
  (hstep:∀p∈ps,p.2.2∉seen->∀h',zc6 h0 h' (l.set j (.blk it (ze9 m since (seen++[p.2.2]) c)))->(∀k,k≠it->h' k=h k)->A.zfp h' (.ptr it 0 0)=some (.tup [κ p.1,v p.2.1])->Q (.tup [.bool true,κ p.1,v p.2.1]) h'):
  B.zet h (.ptr it 0 0) Q:=by
 have hbi:h it=some (ze9 m since seen last):=ho.at j hj;have hne:m≠it:=λe=>by
  subst e;rw[hbm]at hbi;have:=Option.some.inj hbi;unfold ze6 ze9 zgb at this;cases this
 show A.zet h (.ptr it 0 0) Q;have hall:((zid κ v ps).all λe=>Nat.blt e.2.2 since)=true:=by
  rw[all_eq_true];intro e he;obtain⟨p,hp,rfl⟩:=mem_map.1 he;have:=hb.1 p hp;rw[Nat.blt_eq];show p.2.2<since;omega
 have hle:Nat.ble since last=true:=by rw[Nat.ble_eq];exact hsl
 have hst:A.steps h (.ptr it 0 0)=some (it,match (zid κ v ps).filter (λe=> !seen.contains e.2.2) with
   | []=>[(ze9 m since seen last,.tup [.bool false])]
   | l=>l.map λe=>({ ze9 m since seen last with obj:=some (.mapIter (some m) since (seen++[e.2.2]) c) },.tup [.bool true,e.1,e.2.1])):=by
  simp only[A.steps,hbi];unfold ze9 zgb;simp only[zig hbm,hall,hle,Bool.and_self,cond_true];rfl
 simp only[A.zet,hst];intro p hp
 have hf:∀e,e∈(zid κ v ps).filter (λe=> !seen.contains e.2.2)↔∃q∈ps,q.2.2∉seen /\ e=(κ q.1,v q.2.1,q.2.2):=λe=>by
  rw[mem_filter];constructor
  ·rintro⟨he,hc⟩
   obtain⟨q,hq,rfl⟩:=mem_map.1 he;refine⟨q,hq,?_,rfl⟩;simpa using hc
  ·rintro⟨q,hq,hn,rfl⟩
   exact⟨mem_map.2 ⟨q,hq,rfl⟩,by simpa using hn⟩
 cases hfl:(zid κ v ps).filter (λe=> !seen.contains e.2.2) with
 | nil=>
  rw[hfl]at hp;rw[mem_singleton.1 hp];have:upd h it (ze9 m since seen last)=h:=upd_self hbi;rw[this];refine hdone λq hq=>?_;by_cases hn:q.2.2∈seen
  ·exact hn
  ·have:=(hf _).2 ⟨q,hq,hn,rfl⟩
   rw[hfl]at this;cases this
 | cons e0 es0=>
  rw[hfl]at hp;obtain⟨e,he,rfl⟩:=mem_map.1 hp;rw[<-hfl]at he;obtain⟨q,hq,hn,rfl⟩:=(hf _).1 he;have hblk:({ ze9 m since seen last with obj:=some (.mapIter (some m) since (seen++[q.2.2]) c) }:Blk)=ze9 m since (seen++[q.2.2]) c:=rfl;show Q _ (upd h it { ze9 m since seen last with obj:=some (.mapIter (some m) since (seen++[q.2.2]) c) });rw[hblk];refine hstep q hq hn _ (ho.setBlk j hj rfl) (λk hk=>zy _ _ hk) ?_;have hbm':upd h it (ze9 m since (seen++[q.2.2]) c) m=some (ze6 (zid κ v ps) c):=by rw[zy _ _ hne];exact hbm
  have hfind:(zid κ v ps).find? (λe=>Nat.beq e.2.2 q.2.2)=some (κ q.1,v q.2.1,q.2.2):=by
   have key:∀(ps:zes K T),(ps.map (·.2.2)).Nodup->q∈ps->(zid κ v ps).find? (λe=>Nat.beq e.2.2 q.2.2)=some (κ q.1,v q.2.1,q.2.2):=by
    intro ps
    induction ps with
    | nil=>intro _ h;cases h
    | cons a r ih=>
     intro hnd hm;simp only[map_cons,nodup_cons]at hnd;simp only[zid,map_cons,find?_cons];rcases mem_cons.1 hm with rfl|hm
     ·simp[Nat.beq_refl]
     ·have hne:a.2.2≠q.2.2:=λe=>hnd.1 (by rw[e];exact mem_map.2 ⟨q,hm,rfl⟩)
      have:Nat.beq a.2.2 q.2.2=false:=by
       cases e:Nat.beq a.2.2 q.2.2 with
       | false=>rfl
       | true=>exact absurd (Nat.eq_of_beq_eq_true e) hne
      rw[this];exact ih hnd.2 hm
   exact key ps hb.2 hq
  simp only[A.zfp,upd_get];unfold ze9 zgb;have hbm'':=hbm';unfold ze9 zgb at hbm'';simp only[zig hbm'',getLast?_append,getLast?_singleton,Option.some_or,Nat.beq_refl,cond_true,hfind]
theorem zc6.rangeLoop{J:zes K T->List Ob->Prop}{Lp:za->zG}{REST:za->za->zb->(zL)->Prop}(ho:zc6 h0 h l)(hbm:h0 m=some (ze6 (zid κ v ps) c))(hb:zfz ps c)(hJ:J [] l)
  (heq:∀it hh Y,B.zet hh it (λv h2=>REST it v h2 Y)->Lp it [] hh Y)
  (hdone:∀it hh D l b Y,J D l->D.Perm ps->zc6 h0 hh (l++[.blk it b])->REST (.ptr it 0 0) (.tup [.bool false]) hh Y)
  (hstep:∀it hh D l b Y,∀p∈ps,J D l->(∀q∈D,q∈ps)->p∉D->zc6 h0 hh (l++[.blk it b])->A.zfp hh (.ptr it 0 0)=some (.tup [κ p.1,v p.2.1]) ->
   (∀h' l',J (D++[p]) l'->zc6 h0 h' (l'++[.blk it b])->Y [] h')->REST (.ptr it 0 0) (.tup [.bool true,κ p.1,v p.2.1]) hh Y):
  B.rangeMap h (.mp m) λv h=>z0 (Lp v) [] h:=by
 show A.rangeMap h (.mp m) _;simp only[A.rangeMap,zig (ho.le _ _ hbm)];intro it hit;have ho:zc6 h0 (upd h it (zgb (.mapIter (some m) c [] c))) (l++[.blk it (ze9 m c (([]:zes K T).map (·.2.2)) c)]):=ho.znt (b:=ze9 m c [] c) hit rfl;refine z0.intro (λt vs hh=>vs=[] /\ ∃(D:zes K T)(l':List Ob),D.length+t=ps.length /\ J D l' /\ (∀q∈D,q∈ps) /\ (D.map (·.2.2)).Nodup /\ zc6 h0 hh (l'++[.blk it (ze9 m c (D.map (·.2.2)) c)])) ps.length ?_ ⟨rfl,[],l,by simp,hJ,by simp,List.Pairwise.nil,ho⟩;rintro Y t vs hh ⟨rfl,D,l',ht,hJ',hD,hnd,o⟩ hY;refine heq _ _ _ ?_;refine o.nextMapB l'.length (seen:=D.map (·.2.2)) (since:=c) (last:=c) (o.le _ _ hbm) (by simp) hb (Nat.le_refl _) (Nat.le_refl _) (λhall=>?_) λp hp hns h' o' hk he=>?_
 ·exact hdone it hh D l' _ Y hJ' (hb.all hD hnd hall) o
 ·have o'':zc6 h0 h' (l'++[.blk it (ze9 m c ((D++[p]).map (·.2.2)) c)]):=by
   have:=o';rw[set_append_right _ _ (Nat.le_refl _),Nat.sub_self]at this;simpa using this
  have hpD:p∉D:=λhm=>hns (mem_map.2 ⟨p,hm,rfl⟩);have nd2:((D++[p]).map (·.2.2)).Nodup:=by
   rw[map_append,nodup_append];exact⟨hnd,by simp,λx hx y hy e=>hns (by rw[map_cons,map_nil,mem_singleton]at hy;rw[<-hy,<-e];exact hx)⟩
  have sub:∀q∈D++[p],q∈ps:=λq hq=>by
   rcases mem_append.1 hq with h|h
   ·exact hD q h
   ·rw[mem_singleton.1 h];exact hp
  have hl:(D++[p]).length <= ps.length:=List.Nodup.length_le_of_subset (List.Pairwise.of_map (S:=(· ≠ ·)) (λp:K×T×Nat=>p.2.2) (λa b h e=>h (by rw[e])) nd2) sub;rw[length_append]at hl;have hl:D.length+1 <= ps.length:=hl;exact hstep it h' D l' _ Y p hp hJ' hD hpD o'' he λh2 l2 hJ2 o2=>hY (t-1) _ _ (by omega) ⟨rfl,D++[p],l2,by rw[length_append,length_singleton];omega,hJ2,sub,nd2,o2⟩
end
section
variable{h0 h:zb}{l:List Ob}{K T:Type}{κ:K->za}{v:T->za}{ps:zes K T}{m c:Nat}{Q:zQ}
theorem zc6.zr5{J:zes K T->List Ob->List za->Prop}{vs0:List za}{Lp:za->zG}{REST:za->List za->za->zb->(zL)->Prop}(ho:zc6 h0 h l)(hbm:h0 m=some (ze6 (zid κ v ps) c))(hb:zfz ps c)(hJ:J [] l vs0)
  (heq:∀it vs hh Y D l,J D l vs->B.zet hh it (λv h2=>REST it vs v h2 Y)->Lp it vs hh Y)
  (hdone:∀it hh D l b Y vs,J D l vs->D.Perm ps->zc6 h0 hh (l++[.blk it b])->REST (.ptr it 0 0) vs (.tup [.bool false]) hh Y)
  (hstep:∀it hh D l b Y vs,∀p∈ps,J D l vs->(∀q∈D,q∈ps)->p∉D->D.length<ps.length->zc6 h0 hh (l++[.blk it b])->A.zfp hh (.ptr it 0 0)=some (.tup [κ p.1,v p.2.1]) ->
   (∀h' l' vs',J (D++[p]) l' vs'->zc6 h0 h' (l'++[.blk it b])->Y vs' h')->REST (.ptr it 0 0) vs (.tup [.bool true,κ p.1,v p.2.1]) hh Y):
  B.rangeMap h (.mp m) λv h=>z0 (Lp v) vs0 h:=by
 show A.rangeMap h (.mp m) _;simp only[A.rangeMap,zig (ho.le _ _ hbm)];intro it hit;have ho:zc6 h0 (upd h it (zgb (.mapIter (some m) c [] c))) (l++[.blk it (ze9 m c (([]:zes K T).map (·.2.2)) c)]):=ho.znt (b:=ze9 m c [] c) hit rfl;refine z0.intro (λt vs hh=>∃(D:zes K T)(l':List Ob),D.length+t=ps.length /\ J D l' vs /\ (∀q∈D,q∈ps) /\ (D.map (·.2.2)).Nodup /\ zc6 h0 hh (l'++[.blk it (ze9 m c (D.map (·.2.2)) c)])) ps.length ?_ ⟨[],l,by simp,hJ,by simp,List.Pairwise.nil,ho⟩;rintro Y t vs hh ⟨D,l',ht,hJ',hD,hnd,o⟩ hY;refine heq _ _ _ _ _ _ hJ' ?_;refine o.nextMapB l'.length (seen:=D.map (·.2.2)) (since:=c) (last:=c) (o.le _ _ hbm) (by simp) hb (Nat.le_refl _) (Nat.le_refl _) (λhall=>?_) λp hp hns h' o' hk he=>?_
 ·exact hdone it hh D l' _ Y vs hJ' (hb.all hD hnd hall) o
 ·have o'':zc6 h0 h' (l'++[.blk it (ze9 m c ((D++[p]).map (·.2.2)) c)]):=by
   have:=o';rw[set_append_right _ _ (Nat.le_refl _),Nat.sub_self]at this;simpa using this
  have hpD:p∉D:=λhm=>hns (mem_map.2 ⟨p,hm,rfl⟩);have nd2:((D++[p]).map (·.2.2)).Nodup:=by
   rw[map_append,nodup_append];exact⟨hnd,by simp,λx hx y hy e=>hns (by rw[map_cons,map_nil,mem_singleton]at hy;rw[<-hy,<-e];exact hx)⟩
  have sub:∀q∈D++[p],q∈ps:=λq hq=>by
   rcases mem_append.1 hq with h|h
   ·exact hD q h
   ·rw[mem_singleton.1 h];exact hp
  have hl:(D++[p]).length <= ps.length:=List.Nodup.length_le_of_subset (List.Pairwise.of_map (S:=(· ≠ ·)) (λp:K×T×Nat=>p.2.2) (λa b h e=>h (by rw[e])) nd2) sub;rw[length_append]at hl;have hl:D.length+1 <= ps.length:=hl;exact hstep it h' D l' _ Y vs p hp hJ' hD hpD hl o'' he λh2 l2 vs2 hJ2 o2=>hY (t-1) _ _ (by omega) ⟨D++[p],l2,by rw[length_append,length_singleton];omega,hJ2,sub,nd2,o2⟩
end
variable{C:z5}{N:zN}
abbrev Nam:=List UInt8
abbrev nV:Nam->za:=λs=> .str s
abbrev wV:Int->za:=λn=> .int .i64 n
def zpw(h:zb)(m:Nat)(ps:zes Nam Int):Prop:=∃c,h m=some (ze6 (zid nV wV ps) c) /\ zfz ps c /\ (∀p∈ps,p.2.1=1) /\ (zcd ps).Nodup
theorem zpw.mono{h H:zb}{m:Nat}{ps:zes Nam Int}(hs:zpw h m ps)(hle:h.le H):zpw H m ps:=by
 obtain⟨c,h1,h2⟩:=hs;exact⟨c,hle _ _ h1,h2⟩
theorem ones_get{ps:zes Nam Int}(h1:∀p∈ps,p.2.1=1)(k:Nam):decide (0<(zg2 ps k).getD 0)=decide (k∈zcd ps):=by
 cases e:zg2 ps k with
 | none=>have:=zq5.1 e;simp[this]
 | some v=>
  obtain⟨n,hn⟩:=zic e;have:=h1 _ hn;have hk:k∈zcd ps:=mem_map.2 ⟨_,hn,rfl⟩;simp at this;simp[hk,this]
def zb6.Spec(C:z5)(N:zN):Prop:=∀(h:zb)(m:Nat)(ps:zes Nam Int)(k:Nam)(Q:zQ),zpw h m ps->Q (.bool (decide (k∈zcd ps))) h->C (N 508) [.mp m,.str k] h Q
theorem zb6.spec(i:zb6.Imp C N):zb6.Spec C N:=by
 intro h m ps k Q hs hq;obtain⟨c,h1,h2,h3,h4⟩:=hs;apply i;have e:A.lkp h (some .s) (some (.int .i64 0)) false (.mp m) (.str k)=some (.int .i64 ((zg2 ps k).getD 0)):=lkp_blk (v:=wV) keyS h1 0 k false;simp -dsimp only[zb6.cps,e,B.ze,V.znc];rw[ones_get h3];exact zbh hq
def zkd(a b:zes Nam Int):Bool:= !a.isEmpty&&(!b.isEmpty&&(decide ([42]∈zcd a)||(decide ([42]∈zcd b)||a.any λp=>decide (p.1∈zcd b))))
def zdo.Spec(C:z5)(N:zN):Prop:=∀(h:zb)(m n:Nat)(a b:zes Nam Int)(Q:zQ),zpw h m a->zpw h n b->Q (.bool (zkd a b)) h->C (N 528) [.mp m,.mp n] h Q
theorem zr9{h:zb}{m c:Nat}{ps:zes Nam Int}(hb:h m=some (ze6 (zid nV wV ps) c)):A.zlm h (.mp m)=some (.int .i64 ps.length):=by
 simp[A.zlm,A.entries,zig hb,zid]
theorem zdo.spec(i:zdo.Imp C N)(hC:zk2 C)(s1:zb6.Spec C N):zdo.Spec C N:=by
 intro h m n a b Q ha hb hq;have ha':=ha;have hb':=hb;obtain⟨c,h1,h2,h3,h4⟩:=ha;obtain⟨d,g1,g2,g3,g4⟩:=hb;apply i;simp +contextual -dsimp[zr9 h1,zr9 g1];refine B.zbe (λhc=>?_) (λhc=>?_)<;>simp +contextual -dsimp at hc ⊢
 ·have e:zkd a b=false:=by
   unfold zkd;rcases hc with rfl|rfl<;>simp
  rw[e]at hq;exact zbh hq
 ·obtain⟨hna,hnb⟩:=hc
  have ea:a.isEmpty=false:=by cases a with
   | nil=>exact absurd rfl hna
   | cons _ _=>rfl
  have eb:b.isEmpty=false:=by cases b with
   | nil=>exact absurd rfl hnb
   | cons _ _=>rfl
  refine s1 h m a [42] _ ha' ?_;simp +contextual -dsimp;refine B.gdb_call (λ_ _ hq=>s1 h n b [42] _ hb' hq) ?_;simp +contextual -dsimp;refine B.zbe (λhc=>?_) (λhc=>?_)<;>simp +contextual -dsimp at hc ⊢
  ·have e:zkd a b=true:=by
    unfold zkd;rw[ea,eb];rcases hc with hc|hc<;>simp[hc]
   rw[e]at hq;exact zbh hq
  ·obtain⟨ha2,hb2⟩:=hc
   have hme:zkd a b=a.any λp=>decide (p.1∈zcd b):=by
    unfold zkd;rw[ea,eb];simp[ha2,hb2]
   rw[hme]at hq;refine zc6.rangeLoop (κ:=nV) (v:=wV) (ps:=a) (c:=c) (J:=λD l=>l=[] /\ ∀p∈D,p.1∉zcd b)
    (REST:=λit v h Y=>B.pv (V.ext 0 v) λv23=>B.cond v23
     (B.pv (A.zfp h it) λv24=>B.pv (V.ext 0 v24) λv25=>B.call C (N 508) [.mp n,v25] h λv28 h=>B.cond v28 (dn Q (.bool true) h) (Y [] h)) (dn Q (.bool false) h)) (zc6.start h) h1 h2 ⟨rfl,by simp⟩ ?_ ?_ ?_
   ·intro it hh Y hn
    exact hn
   ·rintro it hh D l bb Y ⟨rfl,hD⟩ hp ho
    simp -dsimp only[V.zg9,getElem?_cons_zero,B.ze,B.cond_false];have e:(a.any λp=>decide (p.1∈zcd b))=false:=by
     rw[any_eq_false];intro p hpm;have:=hD p (hp.mem_iff.2 hpm);simpa using this
    rw[e]at hq;exact zre ho.le hq
   ·rintro it hh D l bb Y p hpm ⟨rfl,hD⟩ hsub hpD ho he hY
    simp -dsimp only[V.zg9,getElem?_cons_zero,B.ze,B.cond_true,he];refine s1 hh n b p.1 _ (hb'.mono ho.le) ?_;refine B.zbe (λhc=>?_) (λhc=>?_)
    ·have e:(a.any λp=>decide (p.1∈zcd b))=true:=any_eq_true.2 ⟨p,hpm,hc⟩
     rw[e]at hq;exact zre ho.le hq
    ·refine hY hh [] ⟨rfl,λq hq'=>?_⟩ ho
     rcases mem_append.1 hq' with h|h
     ·exact hD q h
     ·rw[mem_singleton.1 h];exact of_decide_eq_false hc
variable{C:z5}{N:zN}
structure Wk where
 p:Nat
 hm:Nat
 wm:Nat
 hc:Nat
 wc:Nat
 held:zes Nam Int
 zfe:zes Nam Int
 zhe:Int
structure Lk where
 l:Nat
 m:Nat
 c:Nat
 last:Int
 W:zes Int Wk
abbrev pV(w:Wk):za:= .ptr w.p 0 0
def Wk.obs(w:Wk):List Ob:=[.blk w.p (zdn [.mp w.hm,.mp w.wm,.int .i64 w.zhe]),.blk w.hm (ze6 (zid nV wV w.held) w.hc),.blk w.wm (ze6 (zid nV wV w.zfe) w.wc)]
def Lk.obs(s:Lk):List Ob:= .blk s.l (zdn [.mp s.m,.int .i64 s.last]):: .blk s.m (ze6 (zid wV pV s.W) s.c)::s.W.flatMap λe=>e.2.1.obs
def zo0(ps:zes Nam Int)(c:Nat):Prop:=zfz ps c /\ (∀p∈ps,p.2.1=1) /\ (zcd ps).Nodup
structure Wk.Ok(w:Wk):Prop where
 held:zo0 w.held w.hc
 zfe:zo0 w.zfe w.wc
structure Lk.Ok(s:Lk):Prop where
 zsk:zfz s.W s.c
 nodup:(zcd s.W).Nodup
 zgv:∀e∈s.W,e.2.1.Ok
 far:(s.W.map (·.2.1.p)).Nodup
def Wk.At(h:zb)(w:Wk):Prop:=h w.p=some (zdn [.mp w.hm,.mp w.wm,.int .i64 w.zhe]) /\ zpw h w.hm w.held /\ zpw h w.wm w.zfe
def Lk.At(h:zb)(s:Lk):Prop:=h s.l=some (zdn [.mp s.m,.int .i64 s.last]) /\ h s.m=some (ze6 (zid wV pV s.W) s.c) /\ ∀e∈s.W,e.2.1.At h
theorem Wk.At.mono{h H:zb}{w:Wk}(ha:w.At h)(hle:h.le H):w.At H:=⟨hle _ _ ha.1,ha.2.1.mono hle,ha.2.2.mono hle⟩
theorem Lk.At.mono{h H:zb}{s:Lk}(ha:s.At h)(hle:h.le H):s.At H:=⟨hle _ _ ha.1,hle _ _ ha.2.1,λe he=>(ha.2.2 e he).mono hle⟩
theorem Lk.at_of{h0 h:zb}{s:Lk}(ho:zc6 h0 h s.obs)(hs:s.Ok):s.At h:=by
 have hm:∀o∈s.obs,o.at h:=ho.is;refine⟨hm _ (mem_cons_self ..),hm _ (mem_cons_of_mem _ (mem_cons_self ..)),λe he=>?_⟩;have hw:∀o∈e.2.1.obs,o.at h:=λo h1=>hm o (mem_cons_of_mem _ (mem_cons_of_mem _ (mem_flatMap.2 ⟨e,he,h1⟩)));exact⟨hw _ (mem_cons_self ..),⟨_,hw _ (mem_cons_of_mem _ (mem_cons_self ..)),(hs.zgv e he).held⟩,⟨_,hw _ (mem_cons_of_mem _ (mem_cons_of_mem _ (mem_cons_self ..))),(hs.zgv e he).zfe⟩⟩
theorem eqPtr_own{h:zb}{i j:Nat}{a b:List za}(hi:h i=some (zdn a))(hj:h j=some (zdn b)):A.zgk h 3 .neq (.ptr i 0 0) (.ptr j 0 0)=some (.bool (decide (i≠j))):=by
 have oi:A.ownG h i 0=true:=by simp[A.ownG,hi,zdn]
 have oj:A.ownG h j 0=true:=by simp[A.ownG,hj,zdn]
 unfold A.zgk;cases e:Nat.beq i j with
 | true=>have:=Nat.eq_of_beq_eq_true e;subst this;simp[V.eqv,show Nat.blt 0 3=true from rfl]
 | false=>have:=Nat.ne_of_beq_eq_false e;simp[V.eqv,oi,oj,this,e,show Nat.blt 0 3=true from rfl]
def zk7(o:Wk)(ps:zes Nam Int)(t:Int):Bool:=zkd o.held ps||(decide (0<o.zhe)&&(decide (o.zhe<t)&&zkd o.zfe ps))
def zc1.Spec(C:z5)(N:zN):Prop:=∀(h:zb)(o:Wk)(p b i j q:Nat)(cs:List za)(ps:zes Nam Int)(t:Int)(Q:zQ),o.At h->h p=some (zdn cs)->zpw h b ps->h i=some (zdn [.ptr p 0 0])->h j=some (zdn [.mp b])->h q=some (zdn [.int .i64 t])->Q (.bool (decide (o.p≠p)&&zk7 o ps t)) h->C (N 523) [.ptr o.p 0 0,.ptr i 0 0,.ptr j 0 0,.ptr q 0 0] h Q
theorem zeg{h:zb}{i k:Nat}{cs:List za}{v:za}(hi:h i=some (zdn cs))(hk:cs[k]?=some v):A.ldv h (.ptr i 0 k)=some v:=by
 have hl:k<cs.length:=(List.getElem?_eq_some_iff.1 hk).1;simp only[A.ldv,hi,zdn,List.lookup,beq_self_eq_true,if_pos hl,hk]
theorem zc1.spec(i:zc1.Imp C N)(s1:zdo.Spec C N):zc1.Spec C N:=by
 intro h o p b i1 i2 i3 cs ps t Q ho hp hb h1 h2 h3 hq;obtain⟨o1,o2,o3⟩:=ho;apply i;have e1:=zeg (k:=0) h1 rfl;have e2:=zeg (k:=0) h2 rfl;have e3:=zeg (k:=0) h3 rfl;have f1:=zeg (k:=0) o1 rfl;have f2:=zeg (k:=1) o1 rfl;have f3:=zeg (k:=2) o1 rfl;have ee:=eqPtr_own o1 hp;simp +contextual -dsimp[e1,e2,e3,f1,f2,f3,ee,V.fieldAddr];by_cases e:o.p=p
 ·simp +contextual -dsimp[e]at hq ⊢
  exact zbh hq
 ·have eb:decide (o.p=p)=false:=decide_eq_false e
  have eq:(decide (o.p≠p)&&zk7 o ps t)=zk7 o ps t:=by simp[e]
  rw[eq]at hq;simp +contextual -dsimp[eb]at hq ⊢;refine s1 _ _ _ _ _ _ o2 hb ?_;cases em:zkd o.held ps with
  | true=>
   rw[show zk7 o ps t=true by simp[zk7,em]]at hq;simp +contextual -dsimp[eb];exact zbh hq
  | false=>
   simp +contextual -dsimp[eb,f3,e3];cases ec:decide (0<o.zhe)&&decide (o.zhe<t) with
   | false=>
    rw[show zk7 o ps t=false by simp only[zk7,em,<-Bool.and_assoc,ec,Bool.false_and,Bool.or_self]]at hq;simp +contextual -dsimp[eb];exact zbh hq
   | true=>
    rw[show zk7 o ps t=zkd o.zfe ps by simp only[zk7,em,<-Bool.and_assoc,ec,Bool.true_and,Bool.false_or]]at hq;simp +contextual -dsimp[eb,f2,e2];refine s1 _ _ _ _ _ _ o3 hb ?_;simp +contextual -dsimp[eb];exact zbh hq
end Go.Ab
