/- What is proved: a part of the way to the statement: AcB. No conditions. -/
import Derived.Test.YtlcijlhcilgknaaGreatQ2
import Derived.KernelRfl
set_option linter.unusedVariables false
set_option linter.unusedSimpArgs false
namespace Go.Ab
open List
def zhy:za->Option Nat | .sl id _ _ _ _ _=>some id | .ptr id _ _=>some id | .mp id=>some id|_=>none
structure SlX(h:zb)(es:Nat)(x:za)(L R:List (List za)):Prop where
 len:∀p∈L++R,p.length=es
 at_:(L=[] /\ R=[] /\ (x= .zbj \/ x= .sz)) \/ ∃id g off cp b hi,x= .sl id g off L.length es cp /\ L.length+R.length <= max L.length cp /\ h id=some b /\ b.zmi.lookup g=some hi /\
  off+(L.length+R.length)*es <= hi /\ hi <= b.cells.length /\ (b.cells.drop off).take ((L.length+R.length)*es)=(L++R).flatten
abbrev SlIs(h:zb)(es:Nat)(x:za)(L:List (List za)):Prop:=SlX h es x L []
theorem SlX.zbj(h:zb)(es:Nat):SlX h es .zbj [] []:=⟨λ_ hp=>(by cases hp),.inl ⟨rfl,rfl,.inl rfl⟩⟩
theorem SlX.sz(h:zb)(es:Nat):SlX h es .sz [] []:=⟨λ_ hp=>(by cases hp),.inl ⟨rfl,rfl,.inr rfl⟩⟩
theorem flat_get{α:Type}{n:Nat}:∀{css:List (List α)},(∀cs∈css,cs.length=n)->∀(i f:Nat)(c:List α),css[i]?=some c->f<n->css.flatten[i*n+f]?=c[f]?
 | [],_,_,_,_,h,_=>by simp at h
 | c0::css,hl,0,f,c,h,hf=>by
  simp only[getElem?_cons_zero,Option.some.injEq]at h
  subst h
  have:=hl c0 (by simp)
  rw[flatten_cons,Nat.zero_mul,Nat.zero_add,getElem?_append_left (by omega)]
 | c0::css,hl,i+1,f,c,h,hf=>by
  simp only[getElem?_cons_succ]at h
  have h0:=hl c0 (by simp)
  rw[flatten_cons,getElem?_append_right (by rw[h0,Nat.add_mul];omega),<-flat_get (λcs hcs=>hl cs (by simp[hcs])) i f c h hf]
  congr 1
  rw[h0,Nat.add_mul];omega
theorem zqa{α:Type}{n:Nat}:∀{css:List (List α)},(∀cs∈css,cs.length=n)->css.flatten.length=css.length*n
 | [],_=>by simp
 | c::css,hl=>by
  have hc:c.length=n:=hl c (by simp)
  rw[flatten_cons,length_append,zqa (λcs hcs=>hl cs (by simp[hcs])),hc,length_cons,Nat.add_mul]
  omega
section
variable{h H h0:zb}{es:Nat}{x:za}{L R:List (List za)}
theorem SlX.mono(hs:SlX h es x L R)(hle:h.le H):SlX H es x L R:=by
 refine⟨hs.len,?_⟩;rcases hs.at_ with e|⟨id,g,off,cp,b,hi,h1,h1',h2,h3,h4,hh,h5⟩
 ·exact .inl e
 ·exact .inr ⟨id,g,off,cp,b,hi,h1,h1',hle _ _ h2,h3,h4,hh,h5⟩
theorem SlX.zms(hs:SlX h es x L R)(hk:∀id b,zhy x=some id->h id=some b->H id=some b):SlX H es x L R:=by
 refine⟨hs.len,?_⟩;rcases hs.at_ with e|⟨id,g,off,cp,b,hi,h1,h1',h2,h3,h4,hh,h5⟩
 ·exact .inl e
 ·exact .inr ⟨id,g,off,cp,b,hi,h1,h1',hk _ _ (by rw[h1];rfl) h2,h3,h4,hh,h5⟩
theorem SlX.upd(hs:SlX h es x L R){id:Nat}{b:Blk}(hid:zhy x≠some id):SlX (upd h id b) es x L R:=
 hs.zms λj c hj hc=>by rw[zbf];exact hc;intro e;subst e;exact hid hj
theorem SlX.known(hs:SlX h es x L R){id:Nat}(hx:zhy x=some id):∃b,h id=some b:=by
 rcases hs.at_ with⟨_,_,e|e⟩|⟨id,g,off,cp,b,hi,h1,h1',h2,_⟩
 ·subst e;cases hx
 ·subst e;cases hx
 ·subst h1;cases hx;exact⟨b,h2⟩
theorem SlX.cut(hs:SlX h es x L R):SlIs h es x L:=by
 refine⟨λp hp=>hs.len p (by simpa using .inl (by simpa using hp)),?_⟩;rcases hs.at_ with⟨e,_,e'⟩|⟨id,g,off,cp,b,hi,h1,h1',h2,h3,h4,hh,h5⟩
 ·exact .inl ⟨e,rfl,e'⟩
 ·have hl:∀p∈L,p.length=es:=λp hp=>hs.len p (mem_append_left _ hp)
  have hfl:=zqa hl;refine .inr ⟨id,g,off,cp,b,hi,h1,by simp;omega,h2,h3,?_,hh,?_⟩
  ·simp only[length_nil,Nat.add_zero];rw[Nat.add_mul]at h4;omega
  ·simp only[length_nil,Nat.add_zero,append_nil]
   have:((b.cells.drop off).take ((L.length+R.length)*es)).take (L.length*es)=L.flatten:=by
    rw[h5,flatten_append,take_append_of_le_length (by omega),take_of_length_le (by omega)]
   rw[<-this,take_take,Nat.min_eq_left];rw[Nat.add_mul];omega
theorem SlX.zbi(hs:SlX h es x L R):V.zbi x=some (.int .i64 L.length):=by
 rcases hs.at_ with⟨e,_,e'|e'⟩|⟨id,g,off,cp,b,hi,h1,_⟩
 ·subst e e';rfl
 ·subst e e';rfl
 ·subst h1;rfl
theorem SlX.zbm(hs:SlX h es x L R):x.zbm=true:=by
 rcases hs.at_ with⟨e,_,e'|e'⟩|⟨id,g,off,cp,b,hi,h1,_⟩
 ·subst e';rfl
 ·subst e';rfl
 ·subst h1;rfl
theorem SlX.zjv(hs:SlX h es x L R):A.zjv x=some L.length:=by
 rcases hs.at_ with⟨e,_,e'|e'⟩|⟨id,g,off,cp,b,hi,h1,_⟩
 ·subst e e';rfl
 ·subst e e';rfl
 ·subst h1;rfl
def elp(es:Nat)(x:za)(i f:Nat):za:=
 match x with
 | .sl id g off _ _ _=> .ptr id g (off+i*es+f)
 | _=> .undef
theorem SlX.idx(hs:SlX h es x L R){k:IntKind}{n:Int}(h0:0 <= n)(hn:n<L.length):V.zb3 es x (.int k n)=some (elp es x n.toNat 0):=by
 rcases hs.at_ with⟨e,_⟩|⟨id,g,off,cp,b,hi,h1,_⟩
 ·subst e;simp at hn;omega
 ·subst h1
  simp[V.zb3,elp,h0,hn]
theorem SlX.zjp(hs:SlX h es x L R){k:IntKind}{i:Nat}(hn:i<L.length):V.zb3 es x (.int k i)=some (elp es x i 0):=by
 have:=hs.idx (k:=k) (n:=(i:Int)) (by omega) (by omega);simpa using this
theorem SlX.zot(hs:SlX h es x L R){i:Nat}(hn:i<L.length)(f o:Nat):V.fieldAddr o (elp es x i f)=some (elp es x i (f+o)):=by
 rcases hs.at_ with⟨e,_⟩|⟨id,g,off,cp,b,hi,h1,_⟩
 ·subst e;simp at hn
 ·subst h1
  simp[elp,Nat.add_assoc]
theorem SlX.ldvX(hs:SlX h es x L R){i f:Nat}{c:List za}(hi:i<L.length)(hc:(L++R)[i]?=some c)(hf:f<es):A.ldv h (elp es x i f)=c[f]? :=by
 rcases hs.at_ with⟨e,e',_⟩|⟨id,g,off,cp,b,hi',h1,h1',h2,h3,h4,hh,h5⟩
 ·subst e;simp at hi
 ·have hm:i*es+f<(L.length+R.length)*es:=by
   have:(i+1)*es <= (L.length+R.length)*es:=Nat.mul_le_mul_right _ (by omega);rw[Nat.add_mul]at this;omega
  subst h1;have h6:=flat_get hs.len i f c hc hf;rw[<-h5,getElem?_take_of_lt hm,getElem?_drop]at h6;simp only[elp,A.ldv,h2,h3];rw[if_pos (by omega),Nat.add_assoc,h6]
theorem SlX.ldv(hs:SlX h es x L R){i f:Nat}{c:List za}(hc:L[i]?=some c)(hf:f<es):A.ldv h (elp es x i f)=c[f]? :=by
 have hi:=(List.getElem?_eq_some_iff.1 hc).1;exact hs.ldvX hi (by rw[getElem?_append_left hi];exact hc) hf
theorem SlX.zo3(hs:SlX h es x L R){i f n:Nat}{c:List za}(hc:L[i]?=some c)(hf:f+n <= es):A.zo3 h (elp es x i f) n=some (.agg ((c.drop f).take n)):=by
 have hi:=(List.getElem?_eq_some_iff.1 hc).1;have hcl:=hs.len c (mem_append_left _ (mem_of_getElem? hc));rcases hs.at_ with⟨e,e',_⟩|⟨id,g,off,cp,b,hi',h1,h1',h2,h3,h4,hh,h5⟩
 ·subst e;simp at hi
 ·have hm:i*es+es <= (L.length+R.length)*es:=by
   have:(i+1)*es <= (L.length+R.length)*es:=Nat.mul_le_mul_right _ (by omega);rw[Nat.add_mul]at this;omega
  subst h1;simp only[elp,A.zo3,h2,h3];rw[if_pos (by omega)];congr 2;apply ext_getElem?;intro k;by_cases hk:k<n
  ·rw[getElem?_take_of_lt hk,getElem?_take_of_lt hk,getElem?_drop,getElem?_drop]
   have h6:=flat_get hs.len i (f+k) c (by rw[getElem?_append_left hi];exact hc) (by omega);rw[<-h5,getElem?_take_of_lt (by omega),getElem?_drop]at h6;rw[<-h6];congr 1;omega
  ·rw[getElem?_take_eq_none (by omega),getElem?_take_eq_none (by omega)]
theorem SlX.elem(hs:SlX h es x L R){i:Nat}{c:List za}(hc:L[i]?=some c):A.zo3 h (elp es x i 0) es=some (.agg c):=by
 rw[hs.zo3 hc (by omega)];have:=hs.len c (mem_append_left _ (mem_of_getElem? hc));simp[<-this]
theorem SlX.rdv(hs:SlX h es x L R):A.rdv h x L.length es=some L.flatten:=by
 have hs:=hs.cut;rcases hs.at_ with⟨e,_,e'|e'⟩|⟨id,g,off,cp,b,hi,h1,h1',h2,h3,h4,hh,h5⟩
 ·subst e e';rfl
 ·subst e e';rfl
 ·subst h1
  simp only[length_nil,Nat.add_zero,append_nil]at h4 h5;simp only[A.rdv,h2,h3];rw[if_pos ⟨Nat.le_refl _,h4⟩,h5]
theorem endsC_eq{n cp lo hi:Nat}{a b:Option za}(ha:a=none /\ lo=0 \/ ∃k,a=some (.int k lo))(hb:b=none /\ hi=n \/ ∃k,b=some (.int k hi)):
  V.endsC n cp a b=if lo <= hi /\ hi <= max n cp then some (lo,hi) else none:=by
 rcases ha with⟨rfl,rfl⟩|⟨k,rfl⟩<;>rcases hb with⟨rfl,rfl⟩|⟨k',rfl⟩<;>simp[V.endsC,V.asNat]
theorem SlX.slice(hs:SlX h es x L R)(hes:0<es){lo hi:Nat}{a b:Option za}(ha:a=none /\ lo=0 \/ ∃k,a=some (.int k lo))(hb:b=none /\ hi=L.length \/ ∃k,b=some (.int k hi))(h1:lo <= hi)(h2:hi <= L.length+R.length):
  ∃x',V.zhj es x a b=some x' /\ SlX h es x' (((L++R).take hi).drop lo) ((L++R).drop hi) /\ zhy x'=zhy x:=by
 rcases hs.at_ with⟨e,e',e''⟩|⟨id,g,off,cp,bk,hh,k1,k1',k2,k3,k4,k5,k6⟩
 ·subst e e'
  simp only[length_nil,Nat.add_zero,Nat.le_zero_eq]at h2;subst h2;have:lo=0:=by omega
  subst this;refine⟨x,?_,⟨by simp,.inl ⟨by simp,by simp,e''⟩⟩,rfl⟩;rcases e'' with rfl|rfl<;>simp only[V.zhj,V.ends,endsC_eq (n:=0) ha hb]<;>rfl
 ·subst k1
  have hlt:(L++R).length=L.length+R.length:=by simp
  refine⟨.sl id g (off+lo*es) (hi-lo) es (max L.length cp-lo),?_,⟨λp hp=>hs.len p ?_,.inr ⟨id,g,off+lo*es,max L.length cp-lo,bk,hh,?_,?_,k2,k3,?_,k5,?_⟩⟩,rfl⟩
  ·simp only[V.zhj,endsC_eq ha hb]
   rw[if_pos ⟨h1,by omega⟩];simp
  ·rcases mem_append.1 hp with hp|hp
   ·exact mem_of_mem_take (mem_of_mem_drop hp)
   ·exact mem_of_mem_drop hp
  ·simp only[length_drop,length_take,hlt,Nat.min_eq_left h2]
  ·simp only[length_drop,length_take,hlt,Nat.min_eq_left h2];omega
  ·simp only[length_drop,length_take,hlt,Nat.min_eq_left h2]
   have:lo*es+(hi-lo+(L.length+R.length-hi))*es=(L.length+R.length)*es:=by rw[<-Nat.add_mul];congr 1;omega
   omega
  ·simp only[length_drop,length_take,hlt,Nat.min_eq_left h2]
   have e1:((L++R).take hi).drop lo++(L++R).drop hi=(L++R).drop lo:=by
    have hg:∀M:List (List za),lo <= (M.take hi).length->(M.take hi).drop lo++M.drop hi=M.drop lo:=λM hM=>by
     rw[<-drop_append_of_le_length hM,take_append_drop]
    exact hg _ (by rw[length_take,hlt];omega)
   rw[e1];have e2:((L++R).drop lo).flatten=(L++R).flatten.drop (lo*es):=by
    have hd:∀(M:List (List za))(n:Nat),(∀p∈M,p.length=es)->(M.drop n).flatten=M.flatten.drop (n*es):=by
     intro M
     induction M with
     | nil=>intro n _;simp
     | cons c M ih=>
      intro n hM;cases n with
      | zero=>simp
      | succ n=>
       have hc:c.length=es:=hM c (by simp);rw[drop_succ_cons,ih n (λp hp=>hM p (by simp[hp])),flatten_cons,Nat.add_mul,Nat.one_mul];rw[show n*es+es=c.length+n*es by omega,drop_length_add_append]
    exact hd _ _ hs.len
   rw[e2,<-k6,drop_take,drop_drop];congr 1;rw[<-Nat.sub_mul];congr 1;omega
def But(x:za)(h h':zb):Prop:=∀j b,h j=some b->zhy x≠some j->h' j=some b
theorem But.of_le(x:za)(hle:h.le H):But x h H:=λj b e _=>hle j b e
theorem But.sl{h h':zb}{x y:za}(hb:But x h h'){es:Nat}{L R:List (List za)}(hs:SlX h es y L R)(hne:∀id,zhy y=some id->zhy x≠some id):SlX h' es y L R:=hs.zms λid b hf he=>hb id b he (hne id hf)
theorem zk2(g n:Nat)(l:List (Nat×Nat)):List.lookup g ((g,n)::l)=some n:=by simp[List.lookup]
theorem SlX.app{bytes:Nat}{M:List (List za)}{K:zQ}(ho:SlX h es x L R)(hown:∀id b,zhy x=some id->h id=some b->b.own=true)(hes:0<es)(hM:∀p∈M,p.length=es)(hb:(L.length+M.length)*bytes <= 140737488355328)(hm:L.length+M.length <= maxLen)
  (hk:∀x' h',SlIs h' es x' (L++M)->(∀id b,zhy x'=some id->h' id=some b->b.own=true)->But x h h'->(zhy x'=zhy x \/ ∀id,zhy x'=some id->h id=none)->K x' h'):A.app h es bytes x (some M.flatten) K:=by
 have hl:=zqa hM;have hd:M.flatten.length / es=M.length:=by rw[hl,Nat.mul_div_cancel _ hes]
 have hall:∀p∈(L++M)++[],p.length=es:=λp hp=>by
  rw[append_nil]at hp;rcases mem_append.1 hp with hp|hp
  ·exact ho.len p (mem_append_left _ hp)
  ·exact hM p hp
 have fresh:L=[]->(M≠[]->(M.flatten.length / es)*bytes <= 140737488355328 /\ M.flatten.length / es <= maxLen /\ A.new h M.flatten λid h=>K (.sl id 0 0 (M.flatten.length / es) es (M.flatten.length / es)) h):=λe hne=>by
  subst e;rw[hd];simp only[length_nil,Nat.zero_add]at hb hm;refine⟨hb,hm,λid hid=>?_⟩;refine hk _ _ ⟨hall,.inr ⟨id,0,0,_,zgl M.flatten,M.flatten.length,by simp only[nil_append];exact rfl,by simp,zck ..,zk2 ..,by simp[hl],Nat.le_refl _,?_⟩⟩ (λj b hj hb'=>?_) (But.of_le _ (zl6 _ hid)) (.inr λj hj=>?_)
  ·simp only[nil_append,append_nil,length_nil,Nat.add_zero,<-hl,zgl,drop_zero,take_length]
  ·cases hj
   rw[zck]at hb';cases hb';rfl
  ·cases hj;exact hid
 have hnil:M=[] \/ M.flatten.length≠0:=by
  cases M with
  | nil=>exact .inl rfl
  | cons a r=>
   refine .inr ?_;rw[hl,length_cons,Nat.add_mul];omega
 have h0:=ho.cut;rcases h0.at_ with⟨e,_,e'|e'⟩|⟨id,g,off,cp,b,hi,h1,h1',h2,h3,h4,hh,h5⟩
 ·subst e'
  simp only[A.app];split
  ·rename_i hz
   rcases hnil with hn|hn
   ·subst hn;exact hk _ _ (by simpa using h0) (λ_ _ hj=>by cases hj) (But.of_le _ (zb.le_refl h)) (.inl rfl)
   ·exact absurd hz hn
  ·rename_i hz
   exact fresh e λhn=>hz (by rw[hn];rfl)
 ·subst e'
  simp only[A.app];split
  ·rename_i hz
   rcases hnil with hn|hn
   ·subst hn;exact hk _ _ (by simpa using h0) (λ_ _ hj=>by cases hj) (But.of_le _ (zb.le_refl h)) (.inl rfl)
   ·exact absurd hz hn
  ·rename_i hz
   exact fresh e λhn=>hz (by rw[hn];rfl)
 ·have hown':=hown id b (by rw[h1];rfl) h2
  subst h1;simp only[length_nil,Nat.add_zero,append_nil]at h4 h5;simp only[A.app,h2,h3,hd,hown',cond_true];have hcl:off+L.length*es <= b.cells.length:=by omega
  have htl:(b.cells.take (off+L.length*es)).length=off+L.length*es:=by simp;omega
  refine⟨trivial,trivial,h4,hb,hm,hk _ _ ⟨hall,.inr ⟨id,b.next,off,_,_,off+L.length*es+M.flatten.length,by rw[length_append],by simp,zck ..,zk2 ..,?_,?_,?_⟩⟩ (λj b1 hj hb1=>?_) (λj b1 e1 e2=>?_) (.inl rfl)⟩
  ·rw[length_append,length_nil,Nat.add_zero,Nat.add_mul,hl];omega
  ·simp only[ziu,length_append,htl];omega
  ·simp only[ziu,append_nil,length_nil,Nat.add_zero]
   rw[drop_append_of_le_length (by omega),length_append,Nat.add_mul,<-hl,flatten_append,<-h5];have e1:(b.cells.take (off+L.length*es)).drop off=(b.cells.drop off).take (L.length*es):=by
    rw[drop_take];congr 1;omega
   have e2:((b.cells.drop off).take (L.length*es)).length=L.length*es:=by simp;omega
   rw[e1,take_of_length_le];rw[length_append,e2];omega
  ·cases hj
   rw[zck]at hb1;cases hb1;exact hown'
  ·rw[zbf]
   ·exact e1
   ·intro e;subst e;exact e2 rfl
theorem SlX.zif{bytes:Nat}{y:za}{M R':List (List za)}{K:zQ}(ho:SlX h es x L R)(hown:∀id b,zhy x=some id->h id=some b->b.own=true)(hs:SlX h es y M R')(hes:0<es)(hb:(L.length+M.length)*bytes <= 140737488355328)(hm:L.length+M.length <= maxLen)
  (hk:∀x' h',SlIs h' es x' (L++M)->(∀id b,zhy x'=some id->h' id=some b->b.own=true)->But x h h'->(zhy x'=zhy x \/ ∀id,zhy x'=some id->h id=none)->K x' h'):A.zif h es bytes x y K:=by
 unfold A.zif;rw[hs.zjv];simp only;rw[hs.rdv];exact ho.app hown hes (λp hp=>hs.len p (mem_append_left _ hp)) hb hm hk
theorem zx3{α:Type}{n:Nat}:∀{L:List (List α)},(∀c∈L,c.length=n)->∀(i f:Nat)(c xs:List α),L[i]?=some c->f+xs.length <= n ->
  (L.set i (c.take f++xs++c.drop (f+xs.length))).flatten=L.flatten.take (i*n+f)++xs++L.flatten.drop (i*n+f+xs.length)
 | [],_,_,_,_,_,h,_=>by simp at h
 | c0::L,hl,0,f,c,xs,h,hf=>by
  simp only[getElem?_cons_zero,Option.some.injEq]at h
  subst h
  have:=hl c0 (by simp)
  rw[set_cons_zero,flatten_cons,flatten_cons,Nat.zero_mul,Nat.zero_add,take_append_of_le_length (by omega),drop_append_of_le_length (by omega),append_assoc]
 | c0::L,hl,i+1,f,c,xs,h,hf=>by
  simp only[getElem?_cons_succ]at h
  have h0:=hl c0 (by simp)
  rw[set_cons_succ,flatten_cons,flatten_cons,zx3 (λc hc=>hl c (by simp[hc])) i f c xs h hf]
  have e1:(i+1)*n+f=c0.length+(i*n+f):=by rw[h0,Nat.add_mul];omega
  have e2:(i+1)*n+f+xs.length=c0.length+(i*n+f+xs.length):=by rw[h0,Nat.add_mul];omega
  rw[e1,take_length_add_append,show c0.length+(i*n+f)+xs.length=c0.length+(i*n+f+xs.length) by omega,drop_length_add_append]
  simp[append_assoc]
theorem zrs{α:Type}(A xs B:List α){p:Nat}(hA:A.length=p)(k:Nat):(A++(xs++B))[k]?=if k<p then A[k]? else if k-p<xs.length then xs[k-p]? else B[k-p-xs.length]? :=by
 subst hA;split
 ·rw[getElem?_append_left (by omega)]
 ·rw[getElem?_append_right (by omega)]
  split
  ·rw[getElem?_append_left (by omega)]
  ·rw[getElem?_append_right (by omega)]
theorem zyv{α:Type}(l:List α)(p:Nat)(v:α)(hp:p<l.length):l.set p v=l.take p++[v]++l.drop (p+1):=by
 rw[set_eq_take_append_cons_drop,if_pos hp];simp
theorem splice_read{i f n off hi:Nat}{cells c xs:List za}{T:List (List za)}(hT:∀p∈T,p.length=es)(h4:off+T.length*es <= hi)(hh:hi <= cells.length)
  (h5:(cells.drop off).take (T.length*es)=T.flatten) (hc:T[i]?=some c) (hn:xs.length=n) (hf:f+n <= es):
  ((cells.take (off+i*es+f)++xs++cells.drop (off+i*es+f+n)).drop off).take (T.length*es)=(T.set i (c.take f++xs++c.drop (f+n))).flatten /\ (cells.take (off+i*es+f)++xs++cells.drop (off+i*es+f+n)).length=cells.length:=by
 subst hn;have hlt:i<T.length:=(List.getElem?_eq_some_iff.1 hc).1;have hm:i*es+es <= T.length*es:=by
  have:(i+1)*es <= T.length*es:=Nat.mul_le_mul_right _ hlt;rw[Nat.add_mul]at this;omega
 refine⟨?_,by simp;omega⟩;rw[zx3 hT i f c xs hc hf,<-h5];apply ext_getElem?;intro k;have hfl:((cells.drop off).take (T.length*es)).length=T.length*es:=by simp;omega
 by_cases hk:k<T.length*es
 ·rw[getElem?_take_of_lt hk,getElem?_drop,append_assoc,append_assoc]
  have l1:(cells.take (off+i*es+f)).length=off+i*es+f:=by simp;omega
  have l2:(((cells.drop off).take (T.length*es)).take (i*es+f)).length=i*es+f:=by simp;omega
  rw[zrs _ _ _ l1,zrs _ _ _ l2,show off+k-(off+i*es+f)=k-(i*es+f) by omega];by_cases k1:k<i*es+f
  ·rw[if_pos (by omega),if_pos k1,getElem?_take_of_lt (by omega),getElem?_take_of_lt (by omega),getElem?_take_of_lt (by omega),getElem?_drop]
  ·rw[if_neg (by omega),if_neg k1]
   split
   ·rfl
   ·rw[getElem?_drop,getElem?_drop,getElem?_take_of_lt (by omega),getElem?_drop]
    congr 1;omega
 ·rw[getElem?_take_eq_none (by omega),getElem?_eq_none]
  simp;omega
theorem SlX.stn'{i f n:Nat}{c xs:List za}{K:zb->Prop}(ho:SlX h es x L R)(hown:∀id b,zhy x=some id->h id=some b->b.own=true)(hc:L[i]?=some c)(hn:xs.length=n)(hf:f+n <= es)(fn:List za->Option (List za))
  (hfn:∀(cells:List za)(p:Nat),A.zvx (elp es x i f)=p->p+n <= cells.length->fn cells=some (cells.take p++xs++cells.drop (p+n)))
  (hk:∀h',SlX h' es x (L.set i (c.take f++xs++c.drop (f+n))) R->(∀id b,zhy x=some id->h' id=some b->b.own=true)->But x h h'->K h'):A.ph (A.stv h (elp es x i f) fn n 0) K:=by
 have hi0:i<L.length:=(List.getElem?_eq_some_iff.1 hc).1;rcases ho.at_ with⟨e,_⟩|⟨id,g,off,cp,b,hi,h1,h1',h2,h3,h4,hh,h5⟩
 ·subst e;simp at hc
 ·have hm:i*es+es <= (L.length+R.length)*es:=by
   have:(i+1)*es <= (L.length+R.length)*es:=Nat.mul_le_mul_right _ (by omega);rw[Nat.add_mul]at this;omega
  have hown':=hown id b (by rw[h1];rfl) h2;have hcT:(L++R)[i]?=some c:=by rw[getElem?_append_left hi0];exact hc
  have hlen:(L++R).length=L.length+R.length:=by simp
  obtain⟨r1,r2⟩:=splice_read (off:=off) (hi:=hi) (cells:=b.cells) ho.len (by rw[hlen];exact h4) hh (by rw[hlen];exact h5) hcT hn hf;have hset:(L++R).set i (c.take f++xs++c.drop (f+n))=L.set i (c.take f++xs++c.drop (f+n))++R:=by rw[set_append_left _ _ hi0]
  rw[hset,hlen]at r1;have hcl:=ho.len c (mem_append_left _ (mem_of_getElem? hc));have hbl:Nat.ble (0+(off+i*es+f)+n) hi=true:=by rw[Nat.ble_eq];omega
  have hp:=hfn b.cells (off+i*es+f) (by rw[h1];rfl) (by omega);have hlen':∀p∈L.set i (c.take f++xs++c.drop (f+n))++R,p.length=es:=λp hp=>by
   rcases mem_append.1 hp with hp|hp
   ·rcases mem_or_eq_of_mem_set hp with hp|hp
    ·exact ho.len p (mem_append_left _ hp)
    ·subst hp;simp;omega
   ·exact ho.len p (mem_append_right _ hp)
  subst h1;simp only[elp,A.stv,h2,h3,hown',hbl,Bool.true_and,cond_true,hp,A.ph];refine hk _ ⟨hlen',.inr ⟨id,g,off,cp,_,hi,by rw[length_set],by rw[length_set];exact h1',zck ..,zk2 ..,by rw[length_set];exact h4,by simp only;rw[r2];exact hh,by simp only;rw[length_set];exact r1⟩⟩ (λj b1 hj hb1=>?_) (λj b1 e1 e2=>?_)
  ·cases hj
   rw[zck]at hb1;cases hb1;rfl
  ·rw[zbf]
   ·exact e1
   ·intro e;subst e;exact e2 rfl
theorem SlX.st{i f:Nat}{c:List za}{v:za}{K:zb->Prop}(ho:SlX h es x L R)(hown:∀id b,zhy x=some id->h id=some b->b.own=true)(hc:L[i]?=some c)(hf:f<es)(hv:v.zbm=true)
  (hk:∀h',SlX h' es x (L.set i (c.set f v)) R->(∀id b,zhy x=some id->h' id=some b->b.own=true)->But x h h'->K h'):A.st h (elp es x i f) v K:=by
 have hcl:=ho.len c (mem_append_left _ (mem_of_getElem? hc));refine ho.stn' hown hc (xs:=[v]) (n:=1) rfl hf _ (λcells p hp hle=>?_) ?_
 ·rw[<-hp]at hle ⊢
  simp only[V.put1,hv,cond_true];rw[if_pos (by omega),zyv _ _ _ (by omega)]
 ·rw[<-zyv c f v (by omega)];exact hk
theorem SlX.stn{i f n:Nat}{c xs:List za}{K:zb->Prop}(ho:SlX h es x L R)(hown:∀id b,zhy x=some id->h id=some b->b.own=true)(hc:L[i]?=some c)(hn:xs.length=n)(hf:f+n <= es)
  (hk:∀h',SlX h' es x (L.set i (c.take f++xs++c.drop (f+n))) R->(∀id b,zhy x=some id->h' id=some b->b.own=true)->But x h h'->K h'):A.stn h (elp es x i f) n (.agg xs) K:=by
 refine ho.stn' hown hc hn hf _ (λcells p hp hle=>?_) hk;rw[<-hp]at hle ⊢;simp only[V.zy0];rw[if_pos ⟨hn,hle⟩]
end
inductive Ob where
 | sl (es:Nat) (x:za) (L R:List (List za))
 | box (p:za) (cs:List za)
 | blk (id:Nat) (b:Blk)
def Ob.zhy:Ob->Option Nat | .sl _ x _ _=>Ab.zhy x | .box p _=>Ab.zhy p | .blk id _=>some id
def Ob.at(h:zb):Ob->Prop
 | .sl es x L R=>SlX h es x L R
 | .box p cs=>∃id,p= .ptr id 0 0 /\ h id=some (zgl cs)
 | .blk id b=>h id=some b
theorem Ob.at.zms{h H:zb}{o:Ob}(hs:o.at h)(hk:∀id b,o.zhy=some id->h id=some b->H id=some b):o.at H:=by
 cases o with
 | sl es x L R=>exact SlX.zms hs hk
 | box p cs=>obtain⟨id,rfl,e⟩:=hs;exact⟨id,rfl,hk id _ rfl e⟩
 | blk id b=>exact hk id b rfl hs
theorem Ob.at.known{h:zb}{o:Ob}(hs:o.at h){id:Nat}(hf:o.zhy=some id):∃b,h id=some b:=by
 cases o with
 | sl es x L R=>exact SlX.known hs hf
 | box p cs=>obtain⟨id',rfl,e⟩:=hs;cases hf;exact⟨_,e⟩
 | blk id b=>cases hf;exact⟨_,hs⟩
structure zcw(h0 h:zb)(l:List Ob):Prop where
 le:h0.le h
 is:∀o∈l,o.at h
 own:∀o∈l,∀id,o.zhy=some id->h0 id=none /\ ∀b,h id=some b->b.own=true
 apart:l.Pairwise λa b=>∀id,a.zhy=some id->b.zhy≠some id
section
variable{h0 h h' H:zb}{l l':List Ob}
theorem zcw.nil(hle:h0.le h):zcw h0 h []:=⟨hle,λ_ h=>(by cases h),λ_ h=>(by cases h),.nil⟩
theorem zcw.start(h:zb):zcw h h []:=zcw.nil (zb.le_refl h)
theorem zcw.sub(ho:zcw h0 h l)(hs:l'.Sublist l):zcw h0 h l':=⟨ho.le,λo hm=>ho.is o (hs.subset hm),λo hm=>ho.own o (hs.subset hm),ho.apart.sublist hs⟩
theorem zcw.grow(ho:zcw h0 h l)(hle:h.le H):zcw h0 H l:=
 ⟨zb.le_trans ho.le hle,λo hm=>(ho.is o hm).zms λ_ _ _ e=>hle _ _ e,λo hm id hf=>by
  obtain⟨a,b⟩:=ho.own o hm id hf
  obtain⟨b',hb'⟩:=(ho.is o hm).known hf
  exact⟨a,λc hc=>(by rw[hle _ _ hb']at hc;cases hc;exact b _ hb')⟩,ho.apart⟩
theorem zcw.back(ho:zcw h0 h l)(hle:H.le h0):zcw H h l:=
 ⟨zb.le_trans hle ho.le,ho.is,λo hm id hf=>⟨(by
  cases e:H id with
  | none=>rfl
  | some b=>have:=hle _ _ e;rw[(ho.own o hm id hf).1]at this;cases this),(ho.own o hm id hf).2⟩,ho.apart⟩
theorem zcw.join(ho:zcw h0 h l)(hn:zcw h h' l'):zcw h0 h' (l++l'):=by
 have g:=ho.grow hn.le;have b:=hn.back ho.le;refine⟨g.le,λo hm=>?_,λo hm=>?_,pairwise_append.2 ⟨g.apart,hn.apart,λx hx y hy id hf hf'=>?_⟩⟩
 ·rcases mem_append.1 hm with hm|hm
  ·exact g.is o hm
  ·exact b.is o hm
 ·rcases mem_append.1 hm with hm|hm
  ·exact g.own o hm
  ·exact b.own o hm
 ·obtain⟨c,hc⟩:=(ho.is x hx).known hf
  have:=(hn.own y hy id hf').1;rw[hc]at this;cases this
theorem zcw.zvy(ho:zcw h0 h l){id:Nat}(hid:h id=none)(cs:List za):zcw h0 (upd h id (zgl cs)) (l++[.box (.ptr id 0 0) cs]):=
 ho.join ⟨zl6 _ hid,λo hm=>by rw[mem_singleton.1 hm];exact⟨id,rfl,zck ..⟩,λo hm j hj=>by rw[mem_singleton.1 hm]at hj;cases hj;exact⟨hid,λb hb=>by rw[zck]at hb;cases hb;rfl⟩,pairwise_singleton _ _⟩
theorem SlX.lit{h:zb}{es:Nat}{id n cp:Nat}{cs:List za}{L R:List (List za)}(hb:h id=some (zgl cs))(hL:∀p∈L++R,p.length=es)(hn:n=L.length)(hcp:L.length+R.length <= cp)(hc:cs=(L++R).flatten):SlX h es (.sl id 0 0 n es cp) L R:=by
 subst hn hc;have:=zqa hL;rw[length_append]at this;exact⟨hL,.inr ⟨id,0,0,cp,_,_,rfl,by omega,hb,zk2 ..,by rw[this];omega,Nat.le_refl _,by rw[<-this];simp only[zgl,drop_zero,take_length]⟩⟩
theorem zcw.zpz(ho:zcw h0 h l){id n cp es:Nat}{cs:List za}{L R:List (List za)}(hid:h id=none)(hL:∀p∈L++R,p.length=es)(hn:n=L.length)(hcp:L.length+R.length <= cp)(hc:cs=(L++R).flatten):zcw h0 (upd h id (zgl cs)) (l++[.sl es (.sl id 0 0 n es cp) L R]):=
 ho.join ⟨zl6 _ hid,λo hm=>by rw[mem_singleton.1 hm];exact SlX.lit (zck ..) hL hn hcp hc,λo hm j hj=>by rw[mem_singleton.1 hm]at hj;cases hj;exact⟨hid,λb hb=>by rw[zck]at hb;cases hb;rfl⟩,pairwise_singleton _ _⟩
theorem zcw.zbj(ho:zcw h0 h l)(es:Nat):zcw h0 h (l++[.sl es .zbj [] []]):=
 ho.join ⟨zb.le_refl h,λo hm=>by rw[mem_singleton.1 hm];exact SlX.zbj h es,λo hm j hj=>(by rw[mem_singleton.1 hm]at hj;cases hj),pairwise_singleton _ _⟩
theorem zcw.sz(ho:zcw h0 h l)(es:Nat):zcw h0 h (l++[.sl es .sz [] []]):=
 ho.join ⟨zb.le_refl h,λo hm=>by rw[mem_singleton.1 hm];exact SlX.sz h es,λo hm j hj=>(by rw[mem_singleton.1 hm]at hj;cases hj),pairwise_singleton _ _⟩
theorem zcw.at(ho:zcw h0 h l)(k:Nat){o:Ob}(hk:l[k]?=some o):o.at h:=ho.is o (mem_of_getElem? hk)
theorem zcw.zgz(ho:zcw h0 h l)(k:Nat){es:Nat}{x:za}{L R:List (List za)}(hk:l[k]?=some (.sl es x L R)):SlX h es x L R:=ho.at k hk
theorem zcw.zts(ho:zcw h0 h l)(k:Nat){p:za}{cs:List za}(hk:l[k]?=some (.box p cs)):∃id,p= .ptr id 0 0 /\ h id=some (zgl cs):=ho.at k hk
theorem zcw.off(ho:zcw h0 h l){es:Nat}{x:za}{L R:List (List za)}(hs:SlX h0 es x L R){o:Ob}(hm:o∈l):∀id,Ab.zhy x=some id->o.zhy≠some id:=λid hf hf'=>by
 obtain⟨b,hb⟩:=hs.known hf
 rw[(ho.own o hm id hf').1]at hb;cases hb
theorem zcw.zqk(ho:zcw h0 h l)(k:Nat){o o':Ob}(hk:l[k]?=some o)(hat:o'.at h')(hown:∀id b,o'.zhy=some id->h' id=some b->b.own=true)
  (hbut:∀j b,h j=some b->o.zhy≠some j->h' j=some b) (hf:o'.zhy=o.zhy \/ ∀id,o'.zhy=some id->h id=none):zcw h0 h' (l.set k o'):=by
 have hm:o∈l:=mem_of_getElem? hk;have hlt:k<l.length:=(List.getElem?_eq_some_iff.1 hk).1;have hne:∀i a,l[i]?=some a->i≠k->∀id,a.zhy=some id->o.zhy≠some id:=λi a hi hik id ha hb=>by
  rcases Nat.lt_or_gt_of_ne hik with hlt|hgt
  ·have:=pairwise_iff_getElem.1 ho.apart i k (List.getElem?_eq_some_iff.1 hi).1 (List.getElem?_eq_some_iff.1 hk).1 hlt
   rw[(List.getElem?_eq_some_iff.1 hi).2,(List.getElem?_eq_some_iff.1 hk).2]at this;exact this id ha hb
  ·have:=pairwise_iff_getElem.1 ho.apart k i (List.getElem?_eq_some_iff.1 hk).1 (List.getElem?_eq_some_iff.1 hi).1 hgt
   rw[(List.getElem?_eq_some_iff.1 hi).2,(List.getElem?_eq_some_iff.1 hk).2]at this;exact this id hb ha
 have hset:∀a∈l.set k o',a=o' \/ ∃i,i≠k /\ l[i]?=some a:=λa ha=>by
  obtain⟨i,hi⟩:=getElem?_of_mem ha;by_cases e:i=k
  ·subst e;rw[getElem?_set_self hlt]at hi;cases hi;exact .inl rfl
  ·rw[getElem?_set_ne (Ne.symm e)]at hi;exact .inr ⟨i,e,hi⟩
 have hle:h0.le h':=λj b e=>hbut j b (ho.le j b e) λhj=>by rw[(ho.own o hm j hj).1]at e;cases e
 have h0n:∀id,o'.zhy=some id->h0 id=none:=λid hid=>by
  rcases hf with hf|hf
  ·rw[hf]at hid;exact(ho.own o hm id hid).1
  ·cases e:h0 id with
   | none=>rfl
   | some b=>have:=ho.le _ _ e;rw[hf id hid]at this;cases this
 refine⟨hle,λa ha=>?_,λa ha id hid=>?_,?_⟩
 ·rcases hset a ha with rfl|⟨i,hi,hl⟩
  ·exact hat
  ·exact(ho.is a (mem_of_getElem? hl)).zms λid b hf' hb=>hbut id b hb (hne i a hl hi id hf')
 ·rcases hset a ha with rfl|⟨i,hi,hl⟩
  ·exact⟨h0n id hid,λb hb=>hown id b hid hb⟩
  ·have hma:=mem_of_getElem? hl
   obtain⟨b',hb'⟩:=(ho.is a hma).known hid;refine⟨(ho.own a hma id hid).1,λb hb=>?_⟩;rw[hbut id b' hb' (hne i a hl hi id hid)]at hb;cases hb;exact(ho.own a hma id hid).2 _ hb'
 ·have sym:∀i a,l[i]?=some a->i≠k->∀id,a.zhy=some id->o'.zhy≠some id:=λi a hl hi id ha hb=>by
   rcases hf with hf|hf
   ·rw[hf]at hb;exact hne i a hl hi id ha hb
   ·obtain⟨b',hb'⟩:=(ho.is a (mem_of_getElem? hl)).known ha
    rw[hf id hb]at hb';cases hb'
  rw[pairwise_iff_getElem];intro i j hi hj hij id ha hb;have li:(l.set k o')[i]?=some (l.set k o')[i]:=getElem?_eq_getElem hi;have lj:(l.set k o')[j]?=some (l.set k o')[j]:=getElem?_eq_getElem hj;by_cases e1:i=k
  ·have e2:j≠k:=by omega
   rw[getElem?_set_ne (Ne.symm e2)]at lj;subst e1;rw[getElem?_set_self hlt]at li;rw[<-Option.some.inj li]at ha;exact sym j _ lj e2 id hb ha
  ·rw[getElem?_set_ne (Ne.symm e1)]at li
   by_cases e2:j=k
   ·subst e2
    rw[getElem?_set_self hlt]at lj;rw[<-Option.some.inj lj]at hb;exact sym i _ li e1 id ha hb
   ·rw[getElem?_set_ne (Ne.symm e2)]at lj
    have:=pairwise_iff_getElem.1 ho.apart i j (List.getElem?_eq_some_iff.1 li).1 (List.getElem?_eq_some_iff.1 lj).1 hij;rw[(List.getElem?_eq_some_iff.1 li).2,(List.getElem?_eq_some_iff.1 lj).2]at this;exact this id ha hb
theorem zcw.zqs(ho:zcw h0 h l)(k:Nat){o:Ob}(hk:l[k]?=some o):∀id b,o.zhy=some id->h id=some b->b.own=true:=λid b hf hb=>(ho.own o (mem_of_getElem? hk) id hf).2 b hb
theorem zcw.zif(ho:zcw h0 h l)(k:Nat){es bytes:Nat}{x y:za}{L R M R':List (List za)}{K:zQ}(hk:l[k]?=some (.sl es x L R))(hs:SlX h es y M R')(hes:0<es)(hb:(L.length+M.length)*bytes <= 140737488355328)(hm:L.length+M.length <= maxLen)(hK:∀x' h',zcw h0 h' (l.set k (.sl es x' (L++M) []))->But x h h'->K x' h'):A.zif h es bytes x y K:=(ho.zgz k hk).zif (ho.zqs k hk) hs hes hb hm λx' h' h1 h2 h3 h4=>hK x' h' (ho.zqk k hk h1 h2 h3 h4) h3
theorem zcw.st(ho:zcw h0 h l)(k:Nat){es i f:Nat}{x v:za}{L R:List (List za)}{c:List za}{K:zb->Prop}(hk:l[k]?=some (.sl es x L R))(hc:L[i]?=some c)(hf:f<es)(hv:v.zbm=true)(hK:∀h',zcw h0 h' (l.set k (.sl es x (L.set i (c.set f v)) R))->But x h h'->K h'):A.st h (elp es x i f) v K:=(ho.zgz k hk).st (ho.zqs k hk) hc hf hv λh' h1 h2 h3=>hK h' (ho.zqk k hk h1 h2 h3 (.inl rfl)) h3
theorem zcw.stn(ho:zcw h0 h l)(k:Nat){es i f n:Nat}{x:za}{L R:List (List za)}{c xs:List za}{K:zb->Prop}(hk:l[k]?=some (.sl es x L R))(hc:L[i]?=some c)(hn:xs.length=n)(hf:f+n <= es)(hK:∀h',zcw h0 h' (l.set k (.sl es x (L.set i (c.take f++xs++c.drop (f+n))) R))->But x h h'->K h'):A.stn h (elp es x i f) n (.agg xs) K:=(ho.zgz k hk).stn (ho.zqs k hk) hc hn hf λh' h1 h2 h3=>hK h' (ho.zqk k hk h1 h2 h3 (.inl rfl)) h3
theorem zcw.stElem(ho:zcw h0 h l)(k:Nat){es i:Nat}{x:za}{L R:List (List za)}{c xs:List za}{K:zb->Prop}(hk:l[k]?=some (.sl es x L R))(hc:L[i]?=some c)(hn:xs.length=es)
  (hK:∀h',zcw h0 h' (l.set k (.sl es x (L.set i xs) R))->But x h h'->K h'):A.stn h (elp es x i 0) es (.agg xs) K:=by
 have hcl:=(ho.zgz k hk).len c (mem_append_left _ (mem_of_getElem? hc));refine ho.stn k hk hc hn (by omega) λh' h1 h2=>hK h' ?_ h2;have e:c.take 0++xs++c.drop (0+es)=xs:=by simp[drop_of_length_le,hcl]
 rwa [e]at h1
end
theorem zcw.push{h0 h:zb}{l:List Ob}(ho:zcw h0 h l)(k:Nat){es bytes:Nat}{x:za}{L R:List (List za)}{cs:List za}{K:zQ}(hk:l[k]?=some (.sl es x L R))(hcs:cs.length=es)(hes:0<es)(hb:(L.length+1)*bytes <= 140737488355328)(hm:L.length+1 <= maxLen)(hK:∀x' h',zcw h0 h' (l.set k (.sl es x' (L++[cs]) []))->But x h h'->K x' h'):A.zg1 h (some cs) λi h=>A.zif h es bytes x (.sl i 0 0 1 es 1) K:=λi hi=>(ho.grow (zl6 _ hi)).zif k hk (M:=[cs]) (R':=[]) (SlX.lit (zck ..) (by simpa using hcs) rfl (by simp) (by simp)) hes hb hm λx' h' h1 h2=>hK x' h' h1 λj b e1 e2=>h2 j b (zl6 _ hi j b e1) e2
section
theorem zyo{α:Type}(l:List α)(i:Nat):(if i<l.length then l[i]? else none)=l[i]? :=by
 split
 ·rfl
 ·rw[getElem?_eq_none (by omega)]
theorem zpg{h:zb}{id:Nat}{cs:List za}(hb:h id=some (zgl cs))(off:Nat):A.ldv h (.ptr id 0 off)=cs[off]? :=by
 simp only[A.ldv,hb,zgl,List.lookup,beq_self_eq_true,zyo]
theorem st_at{h:zb}{id:Nat}{cs:List za}(hb:h id=some (zgl cs)){off:Nat}{v:za}(hv:v.zbm=true)(ho:off<cs.length){K:zb->Prop}:A.st h (.ptr id 0 off) v K=K (upd h id (zgl (cs.set off v))):=by
 have h1:Nat.ble (0+off+1) cs.length=true:=by rw[Nat.ble_eq];omega
 simp only[A.st,A.stv,hb,zgl,List.lookup,beq_self_eq_true,A.zvx,V.put1,hv,ho,if_true,A.ph,h1,Bool.true_and,cond_true,length_set]
variable{h0 h:zb}{l:List Ob}
theorem zcw.zyp(ho:zcw h0 h l)(k:Nat){id off:Nat}{cs:List za}{v:za}{K:zb->Prop}(hk:l[k]?=some (.box (.ptr id 0 0) cs))(hv:v.zbm=true)(hoff:off<cs.length)
  (hK:∀h',zcw h0 h' (l.set k (.box (.ptr id 0 0) (cs.set off v)))->But (.ptr id 0 0) h h'->K h'):A.st h (.ptr id 0 off) v K:=by
 obtain⟨id',e,hb⟩:=ho.zts k hk;cases e;rw[st_at hb hv hoff];have hbut:But (.ptr id 0 0) h (upd h id (zgl (cs.set off v))):=λj b e1 e2=>by rw[zbf];exact e1;intro e;subst e;exact e2 rfl
 exact hK _ (ho.zqk k hk ⟨id,rfl,zck ..⟩ (λj b hj hb'=>by cases hj;rw[zck]at hb';cases hb';rfl) hbut (.inl rfl)) hbut
end
def fill(n:Nat)(g:Nat->za):List za:=(List.range n).map g
@[simp] theorem fill_len(n:Nat)(g:Nat->za):(fill n g).length=n:=by simp[fill]
theorem zwt{n k:Nat}(g:Nat->za)(hk:k<n):(fill n g)[k]?=some (g k):=by simp[fill,hk]
theorem fill_set{n k:Nat}(g:Nat->za)(v:za):(fill n g).set k v=fill n λj=>if j=k then v else g j:=by
 apply ext_getElem?;intro j;by_cases hj:j<n
 ·rw[zwt _ hj]
  by_cases e:k=j
  ·subst e;rw[getElem?_set_self (by simpa using hj)];simp
  ·rw[getElem?_set_ne e,zwt _ hj];simp[Ne.symm e]
 ·rw[getElem?_eq_none (by simp;omega),getElem?_eq_none (by simp;omega)]
def zhu(n:Nat)(g:Nat->List za):List (List za):=(List.range n).map g
@[simp] theorem fills_len(n:Nat)(g:Nat->List za):(zhu n g).length=n:=by simp[zhu]
@[simp] theorem zzd(g:Nat->List za):zhu 0 g=[]:=rfl
theorem zpo{n k:Nat}(g:Nat->List za)(hk:k<n):(zhu n g)[k]?=some (g k):=by simp[zhu,hk]
theorem fills_set{n k:Nat}(g:Nat->List za)(v:List za):(zhu n g).set k v=zhu n λj=>if j=k then v else g j:=by
 apply ext_getElem?;intro j;by_cases hj:j<n
 ·rw[zpo _ hj]
  by_cases e:k=j
  ·subst e;rw[getElem?_set_self (by simpa using hj)];simp
  ·rw[getElem?_set_ne e,zpo _ hj];simp[Ne.symm e]
 ·rw[getElem?_eq_none (by simp;omega),getElem?_eq_none (by simp;omega)]
theorem zx5{n:Nat}{f g:Nat->List za}(e:∀j,j<n->f j=g j):zhu n f=zhu n g:=map_congr_left λj hj=>e j (by simpa using hj)
theorem zrv(n:Nat)(z:List za):(zhu n λ_=>z).flatten=(List.replicate n z).flatten:=by
 unfold zhu;rw[map_const',length_range]
theorem repL_fills(n:Nat)(z:List za):zfs n z=(zhu n λ_=>z).flatten:=by
 rw[zrv];unfold zfs;split
 ·rw[flatten_replicate_singleton]
 ·rfl
theorem fills_all{n:Nat}{g:Nat->List za}{es:Nat}(h:∀j,(g j).length=es):∀p∈zhu n g,p.length=es:=λp hp=>by
 obtain⟨j,_,rfl⟩:=mem_map.1 hp
 exact h j
theorem zcw.mks{h0 h:zb}{l:List Ob}(ho:zcw h0 h l){bytes es:Nat}{n c:Int}{z:List za}{k j:IntKind}{K:zQ}(hz:z.length=es)(h1:0 <= n)(h2:n <= c)(hb:c*bytes <= 281474976710656)(hc:c <= 9223372036854775807)
  (hK:∀x' h',zcw h0 h' (l++[.sl es x' (zhu n.toNat λ_=>z) (zhu (c.toNat-n.toNat) λ_=>z)])->K x' h'):A.mks h bytes (some z) (.int k n) (.int j c) K:=by
 refine⟨h1,h2,hb,hc,λid hid=>?_⟩;rw[hz];refine hK _ _ (ho.zpz hid ?_ (by simp) (by simp;omega) ?_)
 ·intro p hp
  rcases mem_append.1 hp with hp|hp
  ·exact fills_all (λ_=>hz) p hp
  ·exact fills_all (λ_=>hz) p hp
 ·rw[flatten_append,repL_fills,zrv,zrv,zrv,<-flatten_append,replicate_append_replicate]
  congr 2;omega
def cA:Code->Code | .seq a _=>a | .cond _ a _=>a | .block _ b=>b | .loop b=>b | .scope b=>b|_=> .skip
def cB:Code->Code | .seq _ b=>b | .cond _ _ b=>b|_=> .skip
def cI:Code->Nat | .block i _=>i|_=>0
def isS:Code->Bool | .seq _ _=>true|_=>false
def isC(t:Nat):Code->Bool | .cond (.tmp k) _ _=>Nat.beq k t|_=>false
def isK:Code->Bool | .block _ _=>true|_=>false
def isL:Code->Bool | .loop _=>true|_=>false
section
variable{P:Program}{C:zh}{I:Bx}
theorem eS(hC:zo5 C){c:Code}{Q:Ex->zcj->zb->Prop}{s:zcj}{h:zb}(X:zcj->zb->Prop)(ha:bwp P C I (cA c) (Ex.then X Q) s h)(hb:∀s h,X s h->bwp P C I (cB c) Q s h)(hk:isS c=true:=by kernel_rfl):bwp P C I c Q s h:=by
 cases c<;>first|exact seqB hC rfl hb ha|cases hk
theorem eC{c:Code}{Q:Ex->zcj->zb->Prop}{p q:Prop}{s:zcj}{h:zb}(t:Nat)(hr:A.cond (s t) p q)(hx:p->bwp P C I (cA c) Q s h)(hy:q->bwp P C I (cB c) Q s h)(hk:isC t c=true:=by kernel_rfl):bwp P C I c Q s h:=by
 cases c with
 | cond o x y=>
  cases o with
  | tmp k=>
   have e:k=t:=Nat.eq_of_beq_eq_true hk;subst e;exact condB rfl hx hy hr
  | _=>cases hk
 | _=>cases hk
theorem eK{c:Code}{Q:Ex->zcj->zb->Prop}{s:zcj}{h:zb}(hb:bwp P C I (cA c) (Ex.inBlock (cI c) Q) s h)(hk:isK c=true:=by kernel_rfl):bwp P C I c Q s h:=by
 cases c<;>first|exact hb|cases hk
theorem eL(hC:zo5 C){c:Code}{Q:Ex->zcj->zb->Prop}{s:zcj}{h:zb}(zms live:List Nat)(G:List za->zG)
  (hr:zd (G (zms.map s)) (live.map s) h)
  (hG:∀(Y:zL)(s:zcj)(h:zb),G (zms.map s) (live.map s) h Y->bwp P C I (cA c) (Ex.then (λs h=>Y (live.map s) h) Q) s h)
  (hk:isL c=true:=by kernel_rfl) (hw:(zms.all λk=> !zl5 (zjs P I (cA c)) k)=true:=by kernel_rfl):bwp P C I c Q s h:=by
 cases c<;>first|exact loopB hC zms live rfl hw hG hr|cases hk
theorem e0{q p:Prop}(hR:p)(e:q=p:=by kernel_rfl):q:=e.mpr hR
theorem e1{c:Code}{Q:Ex->zcj->zb->Prop}{s:zcj}{h:zb}{p:Prop}(hR:p)(e:bwp P C I c Q s h=p:=by kernel_rfl):bwp P C I c Q s h:=e.mpr hR
theorem eF(hm:P.follows .mixedOrders=true){f:FuncId}{fn:Func}{c:Code}{I:Bx}{args:List za}{h:zb}{Q:zQ}
  (hx:zo5 (AC P)→bwp P (AC P) I c (retB P I fn.results.toList (dn Q)) (zbz args) h) (hf:P.funcs[f]? =some fn:=by kernel_rfl) (hb:fn.body=some c:=by kernel_rfl) (h1:(fn.name== "runtime.NumGoroutine")=false:=by kernel_rfl)
  (hc:znf fn.ntmps c=true:=by kernel_rfl) (hne:Nat.beq f zvs=false:=by kernel_rfl) (hl:Nat.ble args.length fn.ntmps=true:=by kernel_rfl) (hB:Nat.ble args.length I.B=true:=by kernel_rfl) (hk:chkC P I c=true:=by kernel_rfl):AC P f args h Q:=
 AC_drop (AC_introB hm hf hb (zs1 hf (by rw[hb];rfl) h1) hc hne (Nat.le_of_ble_eq_true hl) (Nat.le_of_ble_eq_true hB) hk (hx (AC_cmono P)))
end
variable{C:zh}{N:zN}
theorem take_succ{α:Type}{L:List α}{i:Nat}{w:α}(h:L[i]?=some w):L.take (i+1)=L.take i++[w]:=by
 rw[take_add_one,h];rfl
theorem get_map{α β:Type}{f:α->β}{L:List α}{i:Nat}{w:α}(h:L[i]?=some w):(L.map f)[i]?=some (f w):=by simp[h]
theorem zjl{n:Nat}(h:n<4611686018427387904):IntKind.i64.wrap ((n:Int)+1)=((n+1:Nat):Int):=by rw[wrap_i64 (by omega) (by omega)];omega
theorem zgf{α:Type}{L:List α}{k:Nat}(h:k<L.length):∃w,L[k]?=some w:=⟨L[k],by simp[h]⟩
structure Flat(T:Type)[DecidableEq T] where
 cs:T->List za
 es:Nat
 sh:List Ck
 len:∀t,(cs t).length=es
 pos:0<es
 eq:∀a b,V.zix sh (cs a) (cs b)=some (decide (a=b))
section
variable{T:Type}[DecidableEq T](F:Flat T)
theorem Flat.neq(a b:T):V.zqj .neq F.sh (.agg (F.cs a)) (.agg (F.cs b))=some (.bool (!decide (a=b))):=by simp only[V.zqj,F.eq,V.eqv]
theorem Flat.eql(a b:T):V.zqj .eql F.sh (.agg (F.cs a)) (.agg (F.cs b))=some (.bool (decide (a=b))):=by simp only[V.zqj,F.eq,V.eqv]
@[simp] def zql.k2(es:Nat)(sh:List Ck)(Q:zQ)(Y1:zL)(v0 v1 v5:za)(h:zb):Prop:=B.pv (V.zbi v0) λv13=>B.pv (V.bin .lss v5 v13) λv14=>B.cond v14 (B.pv (V.zb3 es v0 v5) λv19=>B.ldn h v19 es λv20=>B.pv (V.zb3 es v1 v5) λv23=>B.ldn h v23 es λv24=>B.pv (V.zqj .neq sh v20 v24) λv25=>B.cond v25 (Q (.bool false) h) (B.pv (V.bin .add v5 (.int .i64 1)) λv16=>Y1 [v16] h)) (Q (.bool true) h)
@[simp] def zql.l4(es:Nat)(sh:List Ck)(Q:zQ)(v0 v1:za):zG|[v5],h,Y1=>zql.k2 es sh Q Y1 v0 v1 v5 h|_,_,_=>False
def zql(es:Nat)(sh:List Ck)(v0 v1:za)(h:zb)(Q:zQ):Prop:=B.pv (V.zbi v0) λv7=>B.pv (V.zbi v1) λv9=>B.pv (V.bin .neq v7 v9) λv10=>B.cond v10 (Q (.bool false) h) (zd (zql.l4 es sh Q v0 v1) [(.int .i64 0)] h)
theorem zu2{x y:za}{L M:List T}{R S:List (List za)}{h:zb}{Q:zQ}(hx:SlX h F.es x (L.map F.cs) R)(hy:SlX h F.es y (M.map F.cs) S)(hlen:L.length<4611686018427387904)
  (hq:Q (.bool (decide (L=M))) h):zql F.es F.sh x y h Q:=by
 have hlx:=hx.zbi;have hly:=hy.zbi;rw[length_map]at hlx hly;simp -dsimp[zql,hlx,hly];refine B.zm (λhb=>?_) (λhb=>?_)<;>simp -dsimp at hb ⊢
 ·rw[decide_eq_false λe=>hb (by rw[e])]at hq
  exact hq
 ·refine zd.intro (λn vs hh=>∃k,k+n=L.length /\ vs=[.int .i64 k] /\ hh=h /\ L.take k=M.take k) L.length ?_ ⟨0,by simp,by simp,rfl,by simp⟩
  rintro Y n vs _ ⟨k,hn,rfl,rfl,he⟩ hY;simp -dsimp[hlx];refine B.zm (λhc=>?_) (λhc=>?_)<;>simp -dsimp at hc ⊢
  ·obtain⟨w,hw⟩:=zgf hc
   obtain⟨u,hu⟩:=zgf (L:=M) (k:=k) (by omega);have hk:k<(L.map F.cs).length:=by simpa using hc
   have hk2:k<(M.map F.cs).length:=by simp;omega
   simp only[hx.zjp hk,hy.zjp hk2,hx.elem (get_map hw),hy.elem (get_map hu),B.ze,B.zn5,F.neq];refine B.zm (λhd=>?_) (λhd=>?_)<;>simp -dsimp at hd ⊢
   ·rw[decide_eq_false λe=>by subst e;rw[hw]at hu;cases hu;exact hd rfl]at hq
    exact hq
   ·simp[zjl (n:=k) (by omega)]
    refine hY (L.length-(k+1)) _ _ (by omega) ⟨k+1,by omega,by simp,rfl,?_⟩;rw[take_succ hw,take_succ hu,he,hd]
  ·rw[take_of_length_le (by omega),take_of_length_le (by omega)]at he
   rw[decide_eq_true he]at hq;exact hq
def marks(mk:Int->T)(n:Nat):List (List za):=(List.range n).map fun(i:Nat)=>F.cs (mk (i:Int))
@[simp] theorem marks_len(mk:Int->T)(n:Nat):(marks F mk n).length=n:=by simp[marks]
theorem marks_get(mk:Int->T){n k:Nat}(hk:k<n):(marks F mk n)[k]?=some (F.cs (mk k)):=by simp[marks,hk]
theorem marks_succ(mk:Int->T)(n:Nat):marks F mk (n+1)=marks F mk n++[F.cs (mk n)]:=by simp[marks,range_succ]
@[simp] def zo2.k2(C:zh)(es bytes f:Nat)(z:List za)(m:Int)(Q:zQ)(Y1:zL)(v0 v3 v4:za)(h:zb):Prop:=B.pv (V.bin .lss v4 (.int .i64 12)) λv13=>B.cond v13 (B.call C f [(.int .i64 m),v4] h λv18 h=>B.zg1 h (zed [(0,some es,v18)] (zfs 1 z)) λi19 h=>B.zif h es bytes v3 (.sl i19 0 0 1 es 1) λv20 h=>B.pv (V.bin .add v4 (.int .i64 1)) λv15=>Y1 [v20,v15] h) (B.pv (V.zbi v0) λv23=>B.pv (V.zhj es v3 none (some v23)) λv24=>Q v24 h)
@[simp] def zo2.l4(C:zh)(es bytes f:Nat)(z:List za)(m:Int)(Q:zQ)(v0:za):zG|[v3,v4],h,Y1=>zo2.k2 C es bytes f z m Q Y1 v0 v3 v4 h|_,_,_=>False
def zo2(C:zh)(es bytes f:Nat)(z:List za)(m:Int)(v0:za)(h:zb)(Q:zQ):Prop:=B.pv (V.zbi v0) λv6=>B.pv (V.bin .add v6 (.int .i64 12)) λv7=>0<es /\ B.mks h bytes (some z) (.int .i64 0) v7 λv8 h=>B.zif h es bytes v8 v0 λv11 h=>zd (zo2.l4 C es bytes f z m Q v0) [v11,(.int .i64 0)] h
theorem zvf{bytes f:Nat}{z:List za}{m:Int}{mk:Int->T}(hz:z.length=F.es)(hbm:bytes <= 1000)(s1:∀(i:Int)(h:zb)(Q:zQ),Q (.agg (F.cs (mk i))) h->C f [.int .i64 m,.int .i64 i] h Q)
  {x:za} {L:List T} {R:List (List za)} {h:zb} {Q:zQ} (hx:SlX h F.es x (L.map F.cs) R) (hlen:L.length <= 100000000)
  (hq:∀x' h',zcw h h' [.sl F.es x' (L.map F.cs) (marks F mk 12)]->Q x' h'):zo2 C F.es bytes f z m x h Q:=by
 have hlx:=hx.zbi;rw[length_map]at hlx;have hmul:∀n:Nat,n <= 100000100->n*bytes <= 140737488355328:=λn hn=>by
  have:=Nat.mul_le_mul hn hbm;omega
 have e1:IntKind.i64.wrap ((L.length:Int)+12)=(L.length:Int)+12:=wrap_i64 (by omega) (by omega);simp -dsimp[zo2,hlx,e1];refine⟨F.pos,(zcw.start h).mks (es:=F.es) hz (by omega) (by omega) ?_ (by omega) λy h1 ho=>?_⟩
 ·have:=hmul (L.length+12) (by omega)
  have e:((L.length:Int)+12)*bytes=((L.length+12)*bytes:Nat):=by simp
  rw[e];omega
 refine ho.zif 0 rfl (hx.mono ho.le) F.pos (by simpa using hmul L.length (by omega)) (by simp[maxLen];omega) λy2 h2 ho2 _=>?_;refine zd.intro (λn vs hh=>∃k y,k+n=12 /\ vs=[y,.int .i64 k] /\ zcw h hh [.sl F.es y (L.map F.cs++marks F mk k) []]) 12 ?_ ⟨0,y2,by simp,by simp,by simpa[marks]using ho2⟩;rintro Y n vs hh ⟨k,y3,hn,rfl,ho3⟩ hY;simp -dsimp[hlx];refine B.zm (λhc=>?_) (λhc=>?_)<;>simp -dsimp at hc ⊢
 ·refine s1 _ _ _ ?_
  have hrep:zfs 1 z=z:=by unfold zfs;split<;>simp
  have hfill:zed [(0,some F.es,.agg (F.cs (mk k)))] z=some (F.cs (mk k)):=by
   have h1:=F.len (mk k);simp[h1,hz]
  rw[hrep,hfill];refine ho3.push 0 rfl (F.len _) F.pos (by simp;have:=hmul (L.length+k+1) (by omega);omega) (by simp[maxLen];omega) λz' h4 ho4 _=>?_;simp[zjl (n:=k) (by omega)];refine hY (12-(k+1)) _ _ (by omega) ⟨k+1,z',by omega,by simp,?_⟩;rw[marks_succ,<-append_assoc];exact ho4
 ·have:k=12:=by omega
  subst this;obtain⟨x',e2,e3,e4⟩:=(ho3.zgz 0 rfl).slice F.pos (lo:=0) (hi:=L.length) (a:=none) (b:=some (.int .i64 L.length)) (.inl ⟨rfl,rfl⟩) (.inr ⟨_,rfl⟩) (by omega) (by simp);simp -dsimp[hlx,e2];refine hq _ _ (ho3.zqk 0 rfl (o':= .sl F.es x' (L.map F.cs) (marks F mk 12)) ?_ (λid b hf hb=>ho3.zqs 0 rfl id b (by show zhy y3=some id;rw[<-e4];exact hf) hb) (λj b hb _=>hb) (.inl e4));have h1:((L.map F.cs++marks F mk 12++[]).take L.length).drop 0=L.map F.cs:=by simp[take_append_of_le_length]
  have h2:(L.map F.cs++marks F mk 12++[]).drop L.length=marks F mk 12:=by simp[drop_append_of_le_length]
  rw[h1,h2]at e3;exact e3
@[simp] def zqu.k2(C:zh)(es f:Nat)(sh:List Ck)(m:Int)(Q:zQ)(Y1:zL)(v1 v5 v6:za)(h:zb):Prop:=B.pv (V.zbi v5) λv19=>B.pv (V.bin .lss v6 v19) λv20=>B.cond v20 (B.pv (V.zbi v1) λv25=>B.pv (V.bin .lss v6 v25) λv26=>B.gd h v26 true (λK=>K v5 h) λv28 h=>B.gd h v26 true (λK=>K v6 h) λv29 h=>B.gd h v26 true (λK=>B.pv (V.zb3 es v28 v29) λv=>K v h) λv30 h=>B.gd h v26 true (λK=>B.ldn h v30 es λv=>K v h) λv31 h=>B.gd h v26 true (λK=>K v1 h) λv32 h=>B.gd h v26 true (λK=>K v6 h) λv33 h=>B.gd h v26 true (λK=>B.pv (V.zb3 es v32 v33) λv=>K v h) λv34 h=>B.gd h v26 true (λK=>B.ldn h v34 es λv=>K v h) λv35 h=>B.gd h v26 true (λK=>B.pv (V.zqj .eql sh v31 v35) λv=>K v h) λv36 h=>B.gd h v26 true (λK=>B.pv (V.un .not v36) λv=>K v h) λv37 h=>B.pick v26 v37 (.bool false) λv38=>B.gd h v38 false (λK=>K v6 h) λv40 h=>B.gd h v38 false (λK=>K v1 h) λv41 h=>B.gd h v38 false (λK=>B.pv (V.zbi v41) λv=>K v h) λv42 h=>B.gd h v38 false (λK=>B.pv (V.bin .geq v40 v42) λv=>K v h) λv43 h=>B.gd h v38 false (λK=>K v43 h) λv44 h=>B.gd h v44 true (λK=>K v5 h) λv45 h=>B.gd h v44 true (λK=>K v6 h) λv46 h=>B.gd h v44 true (λK=>B.pv (V.zb3 es v45 v46) λv=>K v h) λv47 h=>B.gd h v44 true (λK=>B.ldn h v47 es λv=>K v h) λv48 h=>B.gd h v44 true (λK=>K v6 h) λv49 h=>B.gd h v44 true (λK=>K v1 h) λv50 h=>B.gd h v44 true (λK=>B.pv (V.zbi v50) λv=>K v h) λv51 h=>B.gd h v44 true (λK=>B.pv (V.bin .sub v49 v51) λv=>K v h) λv52 h=>B.gd h v44 true (λK=>B.call C f [(.int .i64 m),v52] h (B.zpl h [(v47,some es)] K)) λv53 h=>B.gd h v44 true (λK=>B.pv (V.zqj .eql sh v48 v53) λv=>K v h) λv54 h=>B.gd h v44 true (λK=>B.pv (V.un .not v54) λv=>K v h) λv55 h=>B.gd h v38 false (λK=>B.pick v44 v55 (.bool false) λv=>K v h) λv56 h=>B.pick v38 (.bool true) v56 λv57=>B.cond v57 (Q (.bool false) h) (B.pv (V.bin .add v6 (.int .i64 1)) λv22=>Y1 [v22] h)) (Q (.bool true) h)
@[simp] def zqu.l4(C:zh)(es f:Nat)(sh:List Ck)(m:Int)(Q:zQ)(v1 v5:za):zG|[v6],h,Y1=>zqu.k2 C es f sh m Q Y1 v1 v5 v6 h|_,_,_=>False
def zqu(C:zh)(es f:Nat)(sh:List Ck)(m:Int)(v0 v1:za)(h:zb)(Q:zQ):Prop:=B.pv (V.zbi v0) λv8=>B.pv (V.zbi v1) λv10=>B.pv (V.bin .neq v8 v10) λv11=>B.cond v11 (Q (.bool false) h) (B.pv (V.zbi v1) λv14=>B.pv (V.bin .add v14 (.int .i64 12)) λv15=>B.pv (V.zhj es v0 none (some v15)) λv16=>zd (zqu.l4 C es f sh m Q v1 v16) [(.int .i64 0)] h)
theorem zvg{f:Nat}{m:Int}{mk:Int->T}(s1:∀(i:Int)(h:zb)(Q:zQ),Q (.agg (F.cs (mk i))) h->C f [.int .i64 m,.int .i64 i] h Q)
  {x y:za} {L M:List T} {R:List (List za)} {h:zb} {Q:zQ} (hx:SlX h F.es x (L.map F.cs) (marks F mk 12)) (hy:SlX h F.es y (M.map F.cs) R) (hlen:L.length <= 100000000)
  (hq:Q (.bool (decide (L=M))) h):zqu C F.es f F.sh m x y h Q:=by
 have hlx:=hx.zbi;have hly:=hy.zbi;rw[length_map]at hlx hly;simp -dsimp[zqu,hlx,hly];refine B.zm (λhb=>?_) (λhb=>?_)<;>simp -dsimp at hb ⊢
 ·rw[decide_eq_false λe=>hb (by rw[e])]at hq
  exact hq
 ·have e1:IntKind.i64.wrap ((M.length:Int)+12)=((M.length+12:Nat):Int):=by rw[wrap_i64 (by omega) (by omega)];omega
  obtain⟨z,e2,e3,e4⟩:=hx.slice F.pos (lo:=0) (hi:=M.length+12) (a:=none) (b:=some (.int .i64 ((M.length+12:Nat):Int))) (.inl ⟨rfl,rfl⟩) (.inr ⟨_,rfl⟩) (by omega) (by simp;omega);have h1:((L.map F.cs++marks F mk 12).take (M.length+12)).drop 0=L.map F.cs++marks F mk 12:=by rw[drop_zero,take_of_length_le];simp;omega
  rw[h1]at e3;have hlz:=e3.zbi;simp only[length_append,length_map,marks_len]at hlz;simp only[hly,V.zex,e1,e2,B.ze];refine zd.intro (λn vs hh=>∃k,k+n=L.length+12 /\ vs=[.int .i64 k] /\ hh=h /\ L.take k=M.take k) (L.length+12) ?_ ⟨0,by simp,by simp,rfl,by simp⟩;rintro Y n vs _ ⟨k,hn,rfl,rfl,he⟩ hY;simp -dsimp[hlz];refine B.zm (λhc=>?_) (λhc=>?_)<;>simp -dsimp at hc ⊢
  ·have hk:k<(L.map F.cs++marks F mk 12).length:=by simp;omega
   by_cases hkL:k<L.length
   ·have ew:=zgf hkL
    have eu:=zgf (L:=M) (k:=k) (by omega);obtain⟨w,hw⟩:=ew;obtain⟨u,hu⟩:=eu;have hk2:k<(M.map F.cs).length:=by simp;omega
    have hkM:k<M.length:=by omega
    have hwz:(L.map F.cs++marks F mk 12)[k]?=some (F.cs w):=by rw[getElem?_append_left (by simpa using hkL)];exact get_map hw
    by_cases hwu:w=u
    ·subst hwu
     simp -dsimp[hly,hkM,e3.zjp hk,hy.zjp hk2,e3.elem hwz,hy.elem (get_map hu),F.eql,show ¬ M.length <= k by omega,zjl (n:=k) (by omega)];refine hY (L.length+12-(k+1)) _ _ (by omega) ⟨k+1,by omega,by simp,rfl,?_⟩;rw[take_succ hw,take_succ hu,he]
    ·simp -dsimp[hly,hkM,e3.zjp hk,hy.zjp hk2,e3.elem hwz,hy.elem (get_map hu),F.eql,hwu]
     rw[decide_eq_false λe=>by subst e;rw[hw]at hu;cases hu;exact hwu rfl]at hq;exact hq
   ·have hkM:¬ k<M.length:=by omega
    have hmk:(L.map F.cs++marks F mk 12)[k]?=some (F.cs (mk ((k-M.length:Nat):Int))):=by
     rw[getElem?_append_right (by simp;omega),length_map,show k-L.length=k-M.length by omega];exact marks_get F mk (by omega)
    have e5:IntKind.i64.wrap ((k:Int)-M.length)=((k-M.length:Nat):Int):=by rw[wrap_i64 (by omega) (by omega)];omega
    simp -dsimp[hly,hkM,e3.zjp hk,e3.elem hmk,show M.length <= k by omega,e5];refine s1 _ _ _ ⟨?_,?_⟩
    ·intro p hp
     rw[mem_singleton.1 hp];exact⟨_,e3.elem hmk,e3.elem hmk⟩
    ·simp[F.eql,zjl (n:=k) (by omega)]
     refine hY (L.length+12-(k+1)) _ _ (by omega) ⟨k+1,by omega,by simp,rfl,?_⟩;rw[take_of_length_le (by omega),take_of_length_le (by omega)]at he ⊢;exact he
  ·rw[take_of_length_le (by omega),take_of_length_le (by omega)]at he
   rw[decide_eq_true he]at hq;exact hq
end
variable{C:zh}{N:zN}
structure z8 where
 es:Nat
 bytes:Nat
 z:List za
 f:Nat
 kp:Option Nat
 ld:zb->za->(za->Prop)->Prop
 st:zb->za->za->(zb->Prop)->Prop
 eq:zb->za->za->(zQ)->Prop
section
variable(E:z8)
@[simp] def zy.k3(C:zh)(Q:zQ)(Y1 Y2:zL)(v0 v5 v14 v15:za)(h:zb):Prop:=B.pv (V.zb3 1 v0 v14) λv161=>B.ld h v161 λv162=>B.pv (V.zbi v162) λv163=>B.pv (V.bin .lss v15 v163) λv164=>B.cond v164 (B.pv (V.zb3 1 v0 v14) λv169=>B.ld h v169 λv170=>B.pv (V.zb3 E.es v170 v15) λv172=>E.ld h v172 λv173=>B.call C E.f [v14,v15] h (B.zpl h [(v169,none),(v172,E.kp)] (λv176 h=>E.eq h v173 v176 λv177 h=>B.pv (V.un .not v177) λv178=>B.gd h v178 false (λK=>K v5 h) λv180 h=>B.gd h v178 false (λK=>K v14 h) λv181 h=>B.gd h v178 false (λK=>B.pv (V.zb3 1 v180 v181) λv=>K v h) λv182 h=>B.gd h v178 false (λK=>B.ld h v182 λv=>K v h) λv183 h=>B.gd h v178 false (λK=>K v15 h) λv184 h=>B.gd h v178 false (λK=>B.pv (V.zb3 E.es v183 v184) λv=>K v h) λv185 h=>B.gd h v178 false (λK=>E.ld h v185 λv=>K v h) λv186 h=>B.gd h v178 false (λK=>K v14 h) λv187 h=>B.gd h v178 false (λK=>K v15 h) λv188 h=>B.gd h v178 false (λK=>B.call C E.f [v187,v188] h (B.zpl h [(v182,none),(v185,E.kp)] K)) λv189 h=>B.gd h v178 false (λK=>E.eq h v186 v189 K) λv190 h=>B.gd h v178 false (λK=>B.pv (V.un .not v190) λv=>K v h) λv191 h=>B.pick v178 (.bool true) v191 λv192=>B.cond v192 (Q (.bool false) h) (B.pv (V.bin .add v15 (.int .i64 1)) λv166=>Y2 [v166] h)))) (B.pv (V.bin .add v14 (.int .i64 1)) λv157=>Y1 [v157] h)
@[simp] def zy.l5(C:zh)(Q:zQ)(Y1:zL)(v0 v5 v14:za):zG|[v15],h,Y2=>zy.k3 E C Q Y1 Y2 v0 v5 v14 v15 h|_,_,_=>False
@[simp] def zy.k12(C:zh)(Q:zQ)(Y1:zL)(v0 v5 v14:za)(h:zb):Prop:=B.pv (V.zbi v0) λv154=>B.pv (V.bin .lss v14 v154) λv155=>B.cond v155 (zd (zy.l5 E C Q Y1 v0 v5 v14) [(.int .i64 0)] h) (Q (.bool true) h)
@[simp] def zy.l15(C:zh)(Q:zQ)(v0 v5:za):zG|[v14],h,Y1=>zy.k12 E C Q Y1 v0 v5 v14 h|_,_,_=>False
@[simp] def zy.k22(C:zh)(Q:zQ)(Y3:zL)(v0 v5 v11 v12:za)(h:zb):Prop:=B.pv (V.zb3 1 v0 v11) λv147=>B.ld h v147 λv148=>B.zif h E.es E.bytes v148 v12 λv150 h=>B.pv (V.zb3 1 v5 v11) λv151=>B.st h v151 v150 λh=>B.pv (V.bin .add v11 (.int .i64 1)) λv128=>Y3 [v128] h
@[simp] def zy.k24(C:zh)(Q:zQ)(Y3 Y4:zL)(v0 v5 v11 v12 v13:za)(h:zb):Prop:=B.pv (V.bin .lss v13 (.int .i64 64)) λv131=>B.cond v131 (B.pv (V.zbi v0) λv138=>B.pv (V.bin .add v11 v138) λv139=>B.call C E.f [v139,v13] h λv141 h=>B.pv (V.zb3 E.es v12 v13) λv142=>E.st h v142 v141 λh=>B.pv (V.bin .add v13 (.int .i64 1)) λv133=>Y4 [v133] h) (zy.k22 E C Q Y3 v0 v5 v11 v12 h)
@[simp] def zy.l26(C:zh)(Q:zQ)(Y3:zL)(v0 v5 v11 v12:za):zG|[v13],h,Y4=>zy.k24 E C Q Y3 Y4 v0 v5 v11 v12 v13 h|_,_,_=>False
@[simp] def zy.k37(C:zh)(Q:zQ)(Y3:zL)(v0 v5 v11:za)(h:zb):Prop:=B.pv (V.zbi v0) λv125=>B.pv (V.bin .lss v11 v125) λv126=>B.cond v126 (0<E.es /\ B.mks h E.bytes (some E.z) (.int .i64 64) (.int .i64 64) λv129 h=>zd (zy.l26 E C Q Y3 v0 v5 v11 v129) [(.int .i64 0)] h) (zd (zy.l15 E C Q v0 v5) [(.int .i64 0)] h)
@[simp] def zy.l40(C:zh)(Q:zQ)(v0 v5:za):zG|[v11],h,Y3=>zy.k37 E C Q Y3 v0 v5 v11 h|_,_,_=>False
@[simp] def zy.k47(C:zh)(Q:zQ)(Y5 Y6:zL)(v0 v5 v9 v10:za)(h:zb):Prop:=B.pv (V.zb3 1 v5 v9) λv82=>B.ld h v82 λv83=>B.pv (V.zbi v83) λv84=>B.pv (V.bin .lss v10 v84) λv85=>B.cond v85 (B.pv (V.zb3 1 v5 v9) λv90=>B.ld h v90 λv91=>B.pv (V.zb3 E.es v91 v10) λv93=>E.ld h v93 λv94=>B.call C E.f [v9,v10] h (B.zpl h [(v90,none),(v93,E.kp)] (λv97 h=>E.eq h v94 v97 λv98 h=>B.pv (V.un .not v98) λv99=>B.gd h v99 false (λK=>K v10 h) λv101 h=>B.gd h v99 false (λK=>K v0 h) λv102 h=>B.gd h v99 false (λK=>K v9 h) λv103 h=>B.gd h v99 false (λK=>B.pv (V.zb3 1 v102 v103) λv=>K v h) λv104 h=>B.gd h v99 false (λK=>B.ld h v104 λv=>K v h) λv105 h=>B.gd h v99 false (λK=>B.pv (V.zbi v105) λv=>K v h) λv106 h=>B.gd h v99 false (λK=>B.pv (V.bin .lss v101 v106) λv=>K v h) λv107 h=>B.gd h v99 false (λK=>K v107 h) λv108 h=>B.gd h v108 true (λK=>K v0 h) λv109 h=>B.gd h v108 true (λK=>K v9 h) λv110 h=>B.gd h v108 true (λK=>B.pv (V.zb3 1 v109 v110) λv=>K v h) λv111 h=>B.gd h v108 true (λK=>B.ld h v111 λv=>K v h) λv112 h=>B.gd h v108 true (λK=>K v10 h) λv113 h=>B.gd h v108 true (λK=>B.pv (V.zb3 E.es v112 v113) λv=>K v h) λv114 h=>B.gd h v108 true (λK=>E.ld h v114 λv=>K v h) λv115 h=>B.gd h v108 true (λK=>K v9 h) λv116 h=>B.gd h v108 true (λK=>K v10 h) λv117 h=>B.gd h v108 true (λK=>B.call C E.f [v116,v117] h (B.zpl h [(v111,none),(v114,E.kp)] K)) λv118 h=>B.gd h v108 true (λK=>E.eq h v115 v118 K) λv119 h=>B.gd h v108 true (λK=>B.pv (V.un .not v119) λv=>K v h) λv120 h=>B.gd h v99 false (λK=>B.pick v108 v120 (.bool false) λv=>K v h) λv121 h=>B.pick v99 (.bool true) v121 λv122=>B.cond v122 (Q (.bool false) h) (B.pv (V.bin .add v10 (.int .i64 1)) λv87=>Y6 [v87] h)))) (B.pv (V.bin .add v9 (.int .i64 1)) λv78=>Y5 [v78] h)
@[simp] def zy.l49(C:zh)(Q:zQ)(Y5:zL)(v0 v5 v9:za):zG|[v10],h,Y6=>zy.k47 E C Q Y5 Y6 v0 v5 v9 v10 h|_,_,_=>False
@[simp] def zy.k56(C:zh)(Q:zQ)(Y5:zL)(v0 v5 v9:za)(h:zb):Prop:=B.pv (V.zbi v0) λv75=>B.pv (V.bin .lss v9 v75) λv76=>B.cond v76 (zd (zy.l49 E C Q Y5 v0 v5 v9) [(.int .i64 0)] h) (zd (zy.l40 E C Q v0 v5) [(.int .i64 0)] h)
@[simp] def zy.l59(C:zh)(Q:zQ)(v0 v5:za):zG|[v9],h,Y5=>zy.k56 E C Q Y5 v0 v5 v9 h|_,_,_=>False
@[simp] def zy.k67(C:zh)(Q:zQ)(Y7 Y8:zL)(v0 v5 v6 v7 v8:za)(h:zb):Prop:=B.pv (V.bin .lss v8 (.int .i64 64)) λv54=>B.cond v54 (B.pv (V.zb3 1 v0 v6) λv61=>B.ld h v61 λv62=>B.pv (V.zbi v62) λv63=>B.pv (V.bin .add v63 v8) λv65=>B.call C E.f [v6,v65] h λv66 h=>B.zg1 h (zed [(0,E.kp,v66)] (zfs 1 E.z)) λi67 h=>B.zif h E.es E.bytes v7 (.sl i67 0 0 1 E.es 1) λv68 h=>B.pv (V.bin .add v8 (.int .i64 1)) λv56=>Y8 [v68,v56] h) (B.pv (V.zb3 1 v5 v6) λv72=>B.st h v72 v7 λh=>B.pv (V.bin .add v6 (.int .i64 1)) λv48=>Y7 [v48] h)
@[simp] def zy.l69(C:zh)(Q:zQ)(Y7:zL)(v0 v5 v6:za):zG|[v7,v8],h,Y8=>zy.k67 E C Q Y7 Y8 v0 v5 v6 v7 v8 h|_,_,_=>False
@[simp] def zy.k79(C:zh)(Q:zQ)(Y7:zL)(v0 v5 v6:za)(h:zb):Prop:=B.pv (V.zbi v0) λv45=>B.pv (V.bin .lss v6 v45) λv46=>B.cond v46 (B.pv (V.zb3 1 v0 v6) λv51=>B.ld h v51 λv52=>zd (zy.l69 E C Q Y7 v0 v5 v6) [v52,(.int .i64 0)] h) (zd (zy.l59 E C Q v0 v5) [(.int .i64 0)] h)
@[simp] def zy.l82(C:zh)(Q:zQ)(v0 v5:za):zG|[v6],h,Y7=>zy.k79 E C Q Y7 v0 v5 v6 h|_,_,_=>False
@[simp] def zy.k91(C:zh)(Q:zQ)(Y9 Y10:zL)(v0 v3 v4:za)(h:zb):Prop:=B.pv (V.zb3 1 v0 v3) λv25=>B.ld h v25 λv26=>B.pv (V.zbi v26) λv27=>B.pv (V.bin .lss v4 v27) λv28=>B.cond v28 (B.pv (V.zb3 1 v0 v3) λv33=>B.ld h v33 λv34=>B.call C E.f [v3,v4] h (B.zpl h [(v33,none)] (λv38 h=>B.pv (V.zb3 E.es v34 v4) λv39=>E.st h v39 v38 λh=>B.pv (V.bin .add v4 (.int .i64 1)) λv30=>Y10 [v30] h))) (B.pv (V.bin .add v3 (.int .i64 1)) λv21=>Y9 [v21] h)
@[simp] def zy.l93(C:zh)(Q:zQ)(Y9:zL)(v0 v3:za):zG|[v4],h,Y10=>zy.k91 E C Q Y9 Y10 v0 v3 v4 h|_,_,_=>False
@[simp] def zy.k100(C:zh)(Q:zQ)(Y9:zL)(v0 v3:za)(h:zb):Prop:=B.pv (V.zbi v0) λv18=>B.pv (V.bin .lss v3 v18) λv19=>B.cond v19 (zd (zy.l93 E C Q Y9 v0 v3) [(.int .i64 0)] h) (B.pv (V.zbi v0) λv41=>0<1 /\ B.mks h 24 (some [.zbj]) v41 v41 λv42 h=>zd (zy.l82 E C Q v0 v42) [(.int .i64 0)] h)
@[simp] def zy.zph(C:zh)(Q:zQ)(v0:za):zG|[v3],h,Y9=>zy.k100 E C Q Y9 v0 v3 h|_,_,_=>False
def zy(C:zh)(v0:za)(h:zb)(Q:zQ):Prop:=zd (zy.zph E C Q v0) [(.int .i64 0)] h
def ztv(es bytes:Nat)(z:List za)(f:Nat)(sh:List Ck):z8 where
 es:=es;bytes:=bytes;z:=z;f:=f;kp:=some es
 ld:=λh p K=>B.ldn h p es K
 st:=λh p v K=>B.stn h p es v K
 eq:=λh a b K=>B.pv (V.zqj .eql sh a b) λv=>K v h
def zc7(bytes:Nat)(z:za)(f:Nat):z8 where
 es:=1;bytes:=bytes;z:=[z];f:=f;kp:=none
 ld:=λh p K=>B.ld h p K
 st:=λh p v K=>B.st h p v K
 eq:=λh a b K=>B.pv (V.bin .eql a b) λv=>K v h
def opsD(C:zh)(es bytes:Nat)(z:List za)(f g:Nat):z8 where
 es:=es;bytes:=bytes;z:=z;f:=f;kp:=some es
 ld:=λh p K=>B.ldn h p es K
 st:=λh p v K=>B.stn h p es v K
 eq:=λh a b K=>B.call C g [a,b] h K
end
variable{C:zh}{N:zN}
def aoff:za->Nat | .sl _ _ off _ _ _=>off|_=>0
theorem zy5(g hi e:Nat):∀(zmi:List (Nat×Nat)),zmi.lookup g=some hi->(zvn zmi e).lookup g=some (min hi e)
 | [],h=>by cases h
 | (g',k)::r,h=>by
  unfold zvn
  rw[map_cons]
  by_cases e1:(g==g')=true
  ·simp only[List.lookup,e1]at h ⊢
   rw[Option.some.inj h]
  ·simp only[Bool.not_eq_true]at e1
   simp only[List.lookup,e1]at h ⊢
   exact zy5 g hi e r h
theorem SlX.oldApp{h:zb}{es:Nat}{x:za}{L R:List (List za)}(hs:SlX h es x L R){id:Nat}{b:Blk}(hf:zhy x=some id)(hb:h id=some b){e:Nat}(he:aoff x+L.length*es <= e)(hb2:e <= b.cells.length)(news:List za):
  SlX (Ab.upd h id (ziu b e news)) es x L []:=by
 have h0:=hs.cut;refine⟨h0.len,?_⟩;rcases h0.at_ with e1|⟨id',g,off,cp,b',hi,h1,h1',h2,h3,h4,hh,h5⟩
 ·exact .inl e1
 ·subst h1
  cases hf;rw[hb]at h2;cases h2;simp only[aoff]at he;simp only[length_nil,Nat.add_zero]at h4 h5 h1';have hcells:((b.cells.take e++news).drop off).take (L.length*es)=(L++[]).flatten:=by
   rw[<-h5];apply ext_getElem?;intro k;by_cases hk:k<L.length*es
   ·rw[getElem?_take_of_lt hk,getElem?_take_of_lt hk,getElem?_drop,getElem?_drop,getElem?_append_left (by simp;omega),getElem?_take_of_lt (by omega)]
   ·rw[getElem?_take_eq_none (by omega),getElem?_take_eq_none (by omega)]
  by_cases hg:g=b.next
  ·refine .inr ⟨_,g,off,cp,_,e+news.length,rfl,by simpa using h1',zck ..,by simp[ziu,hg,List.lookup],by simp;omega,by simp[ziu];omega,?_⟩
   simpa[ziu]using hcells
  ·refine .inr ⟨_,g,off,cp,_,min hi e,rfl,by simpa using h1',zck ..,?_,by simp;omega,by simp[ziu];omega,?_⟩
   ·simp only[ziu,List.lookup]
    rw[show (g==b.next)=false by simpa using hg];exact zy5 g hi e b.zmi h3
   ·simpa[ziu]using hcells
structure Old(h:zb)(es:Nat)(x:za)(L:List (List za))(y:za)(M:List (List za)):Prop where
 at_:SlX h es x L []
 ft:zhy x=none \/ (zhy x=zhy y /\ aoff x=aoff y)
 len:L.length <= M.length
theorem Old.refl{h:zb}{es:Nat}{x:za}{L R:List (List za)}(hs:SlX h es x L R):Old h es x L x L:=⟨hs.cut,.inr ⟨rfl,rfl⟩,Nat.le_refl _⟩
theorem Old.other{h h':zb}{es:Nat}{x y z:za}{L M:List (List za)}(ho:Old h es x L y M)(hb:But z h h')(hne:∀id,zhy y=some id->zhy z≠some id):Old h' es x L y M:=
 ⟨hb.sl ho.at_ λid hf=>hne id (by rcases ho.ft with e|⟨e,_⟩<;>rw[e]at hf;cases hf;exact hf),ho.ft,ho.len⟩
theorem Old.mono{h h':zb}{es:Nat}{x y:za}{L M:List (List za)}(ho:Old h es x L y M)(hle:h.le h'):Old h' es x L y M:=⟨ho.at_.mono hle,ho.ft,ho.len⟩
section
variable{h H h0:zb}{es:Nat}{x:za}{L R:List (List za)}
theorem SlX.app2{bytes:Nat}{M:List (List za)}{K:zQ}(ho:SlX h es x L R)(hown:∀id b,zhy x=some id->h id=some b->b.own=true)(hes:0<es)(hM:∀p∈M,p.length=es)(hb:(L.length+M.length)*bytes <= 140737488355328)(hm:L.length+M.length <= maxLen)
  (hk:∀x' h',SlIs h' es x' (L++M)->(∀id b,zhy x'=some id->h' id=some b->b.own=true)->But x h h'->(zhy x'=zhy x \/ ∀id,zhy x'=some id->h id=none)->(∀u U,Old h es u U x L->Old h' es u U x' (L++M))->K x' h'):A.app h es bytes x (some M.flatten) K:=by
 have hl:=zqa hM;have hd:M.flatten.length / es=M.length:=by rw[hl,Nat.mul_div_cancel _ hes]
 have hall:∀p∈(L++M)++[],p.length=es:=λp hp=>by
  rw[append_nil]at hp;rcases mem_append.1 hp with hp|hp
  ·exact ho.len p (mem_append_left _ hp)
  ·exact hM p hp
 have fresh:L=[]->zhy x=none->(M≠[]->(M.flatten.length / es)*bytes <= 140737488355328 /\ M.flatten.length / es <= maxLen /\ A.new h M.flatten λid h=>K (.sl id 0 0 (M.flatten.length / es) es (M.flatten.length / es)) h):=λe hfx hne=>by
  subst e;rw[hd];simp only[length_nil,Nat.zero_add]at hb hm;refine⟨hb,hm,λid hid=>?_⟩;refine hk _ _ ⟨hall,.inr ⟨id,0,0,_,zgl M.flatten,M.flatten.length,by simp only[nil_append];exact rfl,by simp,zck ..,zk2 ..,by simp[hl],Nat.le_refl _,?_⟩⟩ (λj b hj hb'=>?_) (But.of_le _ (zl6 _ hid)) (.inr λj hj=>?_) (λu U hu=>⟨hu.at_.mono (zl6 _ hid),.inl ?_,?_⟩)
  ·simp only[nil_append,append_nil,length_nil,Nat.add_zero,<-hl,zgl,drop_zero,take_length]
  ·cases hj
   rw[zck]at hb';cases hb';rfl
  ·cases hj;exact hid
  ·rcases hu.ft with e|⟨e,_⟩
   ·exact e
   ·rw[e,hfx]
  ·have:=hu.len;simp at this;simp[this]
 have hnil:M=[] \/ M.flatten.length≠0:=by
  cases M with
  | nil=>exact .inl rfl
  | cons a r=>
   refine .inr ?_;rw[hl,length_cons,Nat.add_mul];omega
 have h0:=ho.cut;rcases h0.at_ with⟨e,_,e'|e'⟩|⟨id,g,off,cp,b,hi,h1,h1',h2,h3,h4,hh,h5⟩
 ·subst e'
  simp only[A.app];split
  ·rename_i hz
   rcases hnil with hn|hn
   ·subst hn;exact hk _ _ (by simpa using h0) (λ_ _ hj=>by cases hj) (But.of_le _ (zb.le_refl h)) (.inl rfl) (λu U hu=>by simpa using hu)
   ·exact absurd hz hn
  ·rename_i hz
   exact fresh e rfl λhn=>hz (by rw[hn];rfl)
 ·subst e'
  simp only[A.app];split
  ·rename_i hz
   rcases hnil with hn|hn
   ·subst hn;exact hk _ _ (by simpa using h0) (λ_ _ hj=>by cases hj) (But.of_le _ (zb.le_refl h)) (.inl rfl) (λu U hu=>by simpa using hu)
   ·exact absurd hz hn
  ·rename_i hz
   exact fresh e rfl λhn=>hz (by rw[hn];rfl)
 ·have hown':=hown id b (by rw[h1];rfl) h2
  subst h1;simp only[length_nil,Nat.add_zero,append_nil]at h4 h5;simp only[A.app,h2,h3,hd,hown',cond_true];have hcl:off+L.length*es <= b.cells.length:=by omega
  have htl:(b.cells.take (off+L.length*es)).length=off+L.length*es:=by simp;omega
  refine⟨trivial,trivial,h4,hb,hm,hk _ _ ⟨hall,.inr ⟨id,b.next,off,_,_,off+L.length*es+M.flatten.length,by rw[length_append],by simp,zck ..,zk2 ..,?_,?_,?_⟩⟩ (λj b1 hj hb1=>?_) (λj b1 e1 e2=>?_) (.inl rfl) (λu U hu=>⟨?_,?_,?_⟩)⟩
  ·rw[length_append,length_nil,Nat.add_zero,Nat.add_mul,hl];omega
  ·simp only[ziu,length_append,htl];omega
  ·simp only[ziu,append_nil,length_nil,Nat.add_zero]
   rw[drop_append_of_le_length (by omega),length_append,Nat.add_mul,<-hl,flatten_append,<-h5];have e1:(b.cells.take (off+L.length*es)).drop off=(b.cells.drop off).take (L.length*es):=by
    rw[drop_take];congr 1;omega
   have e2:((b.cells.drop off).take (L.length*es)).length=L.length*es:=by simp;omega
   rw[e1,take_of_length_le];rw[length_append,e2];omega
  ·cases hj
   rw[zck]at hb1;cases hb1;exact hown'
  ·rw[zbf]
   ·exact e1
   ·intro e;subst e;exact e2 rfl
  ·by_cases hf:zhy u=some id
   ·refine hu.at_.oldApp hf h2 ?_ hcl _
    have e1:=hu.len;have e2:aoff u=off:=by
     rcases hu.ft with e|⟨_,e⟩
     ·rw[e]at hf;cases hf
     ·exact e
    rw[e2];have:=Nat.mul_le_mul_right es e1;omega
   ·exact hu.at_.upd hf
  ·rcases hu.ft with e|⟨e,e'⟩
   ·exact .inl e
   ·exact .inr ⟨e,e'⟩
  ·have:=hu.len;rw[length_append];omega
theorem SlX.appW2{bytes:Nat}{y:za}{M R':List (List za)}{K:zQ}(ho:SlX h es x L R)(hown:∀id b,zhy x=some id->h id=some b->b.own=true)(hs:SlX h es y M R')(hes:0<es)(hb:(L.length+M.length)*bytes <= 140737488355328)(hm:L.length+M.length <= maxLen)
  (hk:∀x' h',SlIs h' es x' (L++M)->(∀id b,zhy x'=some id->h' id=some b->b.own=true)->But x h h'->(zhy x'=zhy x \/ ∀id,zhy x'=some id->h id=none)->(∀u U,Old h es u U x L->Old h' es u U x' (L++M))->K x' h'):A.zif h es bytes x y K:=by
 unfold A.zif;rw[hs.zjv];simp only;rw[hs.rdv];exact ho.app2 hown hes (λp hp=>hs.len p (mem_append_left _ hp)) hb hm hk
end
section
variable{h0 h h':zb}{l:List Ob}
theorem zcw.ne(ho:zcw h0 h l){i j:Nat}{a b:Ob}(hi:l[i]?=some a)(hj:l[j]?=some b)(hij:i≠j):∀id,a.zhy=some id->b.zhy≠some id:=λid ha hb=>by
 rcases Nat.lt_or_gt_of_ne hij with hlt|hgt
 ·have:=pairwise_iff_getElem.1 ho.apart i j (List.getElem?_eq_some_iff.1 hi).1 (List.getElem?_eq_some_iff.1 hj).1 hlt
  rw[(List.getElem?_eq_some_iff.1 hi).2,(List.getElem?_eq_some_iff.1 hj).2]at this
  exact this id ha hb
 ·have:=pairwise_iff_getElem.1 ho.apart j i (List.getElem?_eq_some_iff.1 hj).1 (List.getElem?_eq_some_iff.1 hi).1 hgt
  rw[(List.getElem?_eq_some_iff.1 hj).2,(List.getElem?_eq_some_iff.1 hi).2]at this
  exact this id hb ha
end
def Kp(h:zb)(p:za)(o:Option Nat):Prop:=match o with|none=>∃x,A.ldv h p=some x|some n=>∃x,A.zo3 h p n=some x
theorem zy8{h:zb}{ls:List (za×Option Nat)}{K:zQ}{v:za}(hl:∀p∈ls,Kp h p.1 p.2)(hk:K v h):B.zpl h ls K v h:=by
 refine⟨λp hp=>?_,hk⟩;have:=hl p hp;obtain⟨p,o⟩:=p;cases o with
 | none=>obtain⟨x,e⟩:=this;exact⟨x,e,e⟩
 | some n=>obtain⟨x,e⟩:=this;exact⟨x,e,e⟩
theorem keepS1{h:zb}{p:za}{o:Option Nat}{K:zQ}{v:za}(h1:Kp h p o)(hk:K v h):B.zpl h [(p,o)] K v h:=
 zy8 (λq hq=>by rw[mem_singleton.1 hq];exact h1) hk
theorem keepS2{h:zb}{p q:za}{o u:Option Nat}{K:zQ}{v:za}(h1:Kp h p o)(h2:Kp h q u)(hk:K v h):B.zpl h [(p,o),(q,u)] K v h:=
 zy8 (λr hr=>by rcases mem_cons.1 hr with e|hr;rw[e];exact h1;rw[mem_singleton.1 hr];exact h2) hk
def upf{α:Type}(f:Nat->α)(k:Nat)(v:α):Nat->α:=λj=>if j=k then v else f j
def zid(es n:Nat)(xs:Nat->za)(D R:Nat->List (List za)):List Ob:=(List.range n).map λj=>Ob.sl es (xs j) (D j) (R j)
section
variable{es n k:Nat}{xs:Nat->za}{D R:Nat->List (List za)}
@[simp] theorem zid.length:(zid es n xs D R).length=n:=by simp[zid]
theorem zid.get(hk:k<n):(zid es n xs D R)[k]?=some (.sl es (xs k) (D k) (R k)):=by simp[zid,hk]
theorem zid.set{x:za}{L M:List (List za)}:(zid es n xs D R).set k (.sl es x L M)=zid es n (upf xs k x) (upf D k L) (upf R k M):=by
 apply ext_getElem?;intro j;by_cases hj:j<n
 ·rw[zid.get hj]
  by_cases e:k=j
  ·subst e;rw[getElem?_set_self (by simpa using hj)];simp[upf]
  ·rw[getElem?_set_ne e,zid.get hj];simp[upf,Ne.symm e]
 ·rw[getElem?_eq_none (by simp;omega),getElem?_eq_none (by simp;omega)]
theorem zid.congr{ys:Nat->za}{E S:Nat->List (List za)}(h:∀j,j<n->xs j=ys j /\ D j=E j /\ R j=S j):zid es n xs D R=zid es n ys E S:=
 map_congr_left λj hj=>by obtain⟨a,b,c⟩:=h j (by simpa using hj);rw[a,b,c]
theorem zid.zza{l:List Ob}(hk:k<n):(zid es n xs D R++l)[k]?=some (.sl es (xs k) (D k) (R k)):=by
 rw[getElem?_append_left (by simpa using hk)];exact zid.get hk
theorem zid.setA{l:List Ob}(hk:k<n){x:za}{L M:List (List za)}:(zid es n xs D R++l).set k (.sl es x L M)=zid es n (upf xs k x) (upf D k L) (upf R k M)++l:=by
 rw[set_append_left _ _ (by simpa using hk),zid.set]
theorem zid.getL{o:Ob}:(zid es n xs D R++[o])[n]?=some o:=by
 rw[getElem?_append_right (by simp)];simp
theorem zid.setL{o o':Ob}:(zid es n xs D R++[o]).set n o'=zid es n xs D R++[o']:=by
 rw[set_append_right _ _ (by simp)];simp
end
theorem zcw.cutR{h0 h:zb}{es n:Nat}{xs:Nat->za}{D R:Nat->List (List za)}{l:List Ob}(ho:zcw h0 h (zid es n xs D R++l)):zcw h0 h (zid es n xs D (λ_=>[])++l):=by
 have mem:∀o∈zid es n xs D (λ_=>[]),∃o'∈zid es n xs D R,o'.zhy=o.zhy /\ (o'.at h->o.at h):=λo hm=>by
  obtain⟨j,hj,rfl⟩:=mem_map.1 hm;exact⟨_,mem_map.2 ⟨j,hj,rfl⟩,rfl,λh=>SlX.cut h⟩
 refine⟨ho.le,λo hm=>?_,λo hm=>?_,?_⟩
 ·rcases mem_append.1 hm with hm|hm
  ·obtain⟨o',h1,_,h3⟩:=mem o hm
   exact h3 (ho.is _ (mem_append_left _ h1))
  ·exact ho.is _ (mem_append_right _ hm)
 ·rcases mem_append.1 hm with hm|hm
  ·obtain⟨o',h1,h2,_⟩:=mem o hm
   rw[<-h2];exact ho.own _ (mem_append_left _ h1)
  ·exact ho.own _ (mem_append_right _ hm)
 ·obtain⟨a,b,c⟩:=pairwise_append.1 ho.apart
  refine pairwise_append.2 ⟨?_,b,λx hx y hy=>?_⟩
  ·unfold zid at a ⊢
   rw[pairwise_map]at a ⊢;exact a.imp λh=>h
  ·obtain⟨o',h1,h2,_⟩:=mem x hx
   rw[<-h2];exact c o' h1 y hy
variable{C:zh}{N:zN}
structure zus(C:zh)(E:z8)(m:Int->Int->List za)(v:Int->Int->za):Prop where
 pos:0<E.es
 small:E.bytes <= 1000
 len:∀k i,(m k i).length=E.es
 zlen:E.z.length=E.es
 new:∀k i,zed [(0,E.kp,v k i)] (zfs 1 E.z)=some (m k i)
 call:∀(k i:Int)(h:zb)(Q:zQ),Q (v k i) h->C E.f [.int .i64 k,.int .i64 i] h Q
 ld:∀{h:zb}{x:za}{L R:List (List za)}{i:Nat}{k j:Int}{K:za->Prop},SlX h E.es x L R->L[i]?=some (m k j)->K (v k j)->E.ld h (elp E.es x i 0) K
 kpt:∀{h:zb}{x:za}{L R:List (List za)}{i:Nat}{k j:Int},SlX h E.es x L R->L[i]?=some (m k j)->Kp h (elp E.es x i 0) E.kp
 st:∀{h:zb}{x:za}{L R:List (List za)}{i:Nat}{c:List za}{k j:Int}{K:zb->Prop},SlX h E.es x L R->(∀id b,zhy x=some id->h id=some b->b.own=true)->L[i]?=some c ->
  (∀h',SlX h' E.es x (L.set i (m k j)) R->(∀id b,zhy x=some id->h' id=some b->b.own=true)->But x h h'->K h')->E.st h (elp E.es x i 0) (v k j) K
 eq:∀{h:zb}{k i:Int}{K:zQ},K (.bool true) h->E.eq h (v k i) (v k i) K
def zuv(m:Int->Int->List za)(k n:Nat):List (List za):=(List.range n).map fun(i:Nat)=>m (k:Int) (i:Int)
section
variable{m:Int->Int->List za}{k n i:Nat}
@[simp] theorem zom:(zuv m k n).length=n:=by simp[zuv]
theorem zon(hi:i<n):(zuv m k n)[i]?=some (m (k:Int) (i:Int)):=by simp[zuv,hi]
theorem mkTo_succ:zuv m k (n+1)=zuv m k n++[m (k:Int) (n:Int)]:=by simp[zuv,range_succ]
@[simp] theorem mkTo_zero:zuv m k 0=[]:=rfl
theorem mkTo_over{D:List (List za)}(hi:i<D.length):(zuv m k i++D.drop i).set i (m (k:Int) (i:Int))=zuv m k (i+1)++D.drop (i+1):=by
 rw[set_append_right _ _ (by simp),zom,Nat.sub_self,mkTo_succ,drop_eq_getElem_cons hi,set_cons_zero,append_assoc];rfl
theorem mkTo_at{D:List (List za)}(hi:i<D.length):(zuv m k i++D.drop i)[i]?=some D[i]:=by
 rw[getElem?_append_right (by simp),zom,Nat.sub_self,getElem?_drop];simp[hi]
end
theorem zgh{α:Type}(f:Nat->α)(k:Nat)(v:α):upf f k v k=v:=by simp[upf]
theorem zja{α:Type}(f:Nat->α){k j:Nat}(v:α)(h:j≠k):upf f k v j=f j:=by simp[upf,h]
theorem zmn{α:Type}(f:Nat->α)(k:Nat):upf f k (f k)=f:=by funext j;unfold upf;split<;>simp_all
theorem ztz{α:Type}(k:Nat)(v:α):upf (λ_=>v) k v=λ_=>v:=by funext j;unfold upf;split<;>rfl
theorem zs7{α:Type}(f:Nat->α)(k:Nat)(v w:α):upf (upf f k v) k w=upf f k w:=by funext j;unfold upf;split<;>rfl
section
variable{h:zb}{x:za}{n k:Nat}{xs:Nat->za}{W:List (List za)}(hx:SlX h 1 x (zhu n λj=>[xs j]) W)
include hx
theorem zn3:V.zbi x=some (.int .i64 n):=by rw[hx.zbi,fills_len]
theorem zin(hk:k<n):V.zb3 1 x (.int .i64 (k:Int))=some (elp 1 x k 0):=hx.zjp (by simpa using hk)
theorem zmq(hk:k<n):A.ldv h (elp 1 x k 0)=some (xs k):=by rw[hx.ldv (zpo _ hk) (by omega)];rfl
theorem ls_kp(hk:k<n):Kp h (elp 1 x k 0) none:=⟨_,zmq hx hk⟩
end
structure FS(E:z8)(m:Int->Int->List za)(h0 h:zb)(v5:za)(n:Nat)(xs:Nat->za)(len:Nat->Nat)(ys:Nat->za)(F:Nat->List (List za))(gs:Nat->za):Prop where
 own:zcw h0 h (zid E.es n ys F (λ_=>[])++[.sl 1 v5 (zhu n λj=>[gs j]) []])
 old:∀j,j<n->Old h E.es (xs j) (zuv m j (len j)) (ys j) (F j)
section
variable{E:z8}{m:Int->Int->List za}{v:Int->Int->za}{h0 h h':zb}{x v5:za}{n k:Nat}{xs ys gs:Nat->za}{len:Nat->Nat}{F:Nat->List (List za)}{W:List (List za)}{Q:zQ}
theorem FS.grow(fs:FS E m h0 h v5 n xs len ys F gs)(hle:h.le h'):FS E m h0 h' v5 n xs len ys F gs:=⟨fs.own.grow hle,λj hj=>(fs.old j hj).mono hle⟩
theorem FS.gAt(fs:FS E m h0 h v5 n xs len ys F gs):SlX h 1 v5 (zhu n λj=>[gs j]) []:=fs.own.zgz n zid.getL
theorem FS.yAt(fs:FS E m h0 h v5 n xs len ys F gs)(hk:k<n):SlX h E.es (ys k) (F k) []:=fs.own.zgz k (zid.zza hk)
theorem FS.zqk(fs:FS E m h0 h v5 n xs len ys F gs)(hk:k<n){y:za}{L:List (List za)}(h1:SlX h' E.es y L [])(h2:∀id b,zhy y=some id->h' id=some b->b.own=true)
  (h3:∀j b,h j=some b->zhy (ys k)≠some j->h' j=some b) (h4:zhy y=zhy (ys k) \/ ∀id,zhy y=some id->h id=none) (h5:Old h' E.es (xs k) (zuv m k (len k)) y L):FS E m h0 h' v5 n xs len (upf ys k y) (upf F k L) gs:=by
 refine⟨?_,λj hj=>?_⟩
 ·have:=fs.own.zqk k (zid.zza hk) (o':= .sl E.es y L []) h1 h2 h3 h4
  rwa [zid.setA hk,ztz]at this
 ·by_cases e:j=k
  ·subst e;rw[zgh,zgh];exact h5
  ·rw[zja _ _ e,zja _ _ e]
   exact(fs.old j hj).other (z:=ys k) h3 (fs.own.ne (zid.zza hj) (zid.zza hk) e)
theorem FS.store(fs:FS E m h0 h v5 n xs len ys F gs)(hk:k<n){y:za}(hy:y.zbm=true){K:zb->Prop}(hK:∀h',FS E m h0 h' v5 n xs len ys F (upf gs k y)->K h'):A.st h (elp 1 v5 k 0) y K:=by
 refine fs.own.st n zid.getL (zpo _ hk) (by omega) hy λh' ho hb=>hK h' ⟨?_,λj hj=>?_⟩
 ·rw[zid.setL]at ho
  have e:(zhu n λj=>[gs j]).set k ([gs k].set 0 y)=zhu n λj=>[upf gs k y j]:=by
   rw[fills_set];refine zx5 λj hj=>?_;unfold upf;split<;>rfl
  rwa [e]at ho
 ·exact(fs.old j hj).other hb (fs.own.ne (zid.zza hj) zid.getL (by omega))
theorem FS.push(S:zus C E m v)(fs:FS E m h0 h v5 n xs len ys F gs)(hk:k<n){cs:List za}(hcs:cs.length=E.es)(hl:(F k).length <= 100000100){K:zQ}
  (hK:∀y h',FS E m h0 h' v5 n xs len (upf ys k y) (upf F k (F k++[cs])) gs->K y h'):A.zg1 h (some cs) λi h=>A.zif h E.es E.bytes (ys k) (.sl i 0 0 1 E.es 1) K:=λi hi=>by
 have fg:=fs.grow (zl6 (zgl cs) hi)
 have hmul:=Nat.mul_le_mul (show (F k).length+1 <= 100000101 by omega) S.small
 refine(fg.yAt hk).appW2 (fg.own.zqs k (zid.zza hk)) (M:=[cs]) (R':=[]) (SlX.lit (zck ..) (by simpa using hcs) rfl (by simp) (by simp)) S.pos (by simp only[length_singleton];omega) (by simp[maxLen];omega) λy h' h1 h2 h3 h4 h5=>?_
 exact hK y h' (fg.zqk hk h1 h2 h3 h4 (h5 _ _ (fg.old k hk)))
theorem flat5(S:zus C E m v)(hx:SlX h0 1 x (zhu n λj=>[xs j]) W)(fs:FS E m h0 h v5 n xs len ys F gs)(hn:n <= 100000000)(hl:∀j,j<n->len j <= 100000000)
  (hgs:∀j,j<n->gs j=ys j) (hF:∀j i,j<n->i<len j->(F j)[i]?=some (m j i)) (hq:∀h',h0.le h'->Q (.bool true) h'):zd (zy.l15 E C Q x v5) [.int .i64 0] h:=by
 have hx':=hx.mono fs.own.le;refine zd.intro (λt vs hh=>∃k:Nat,k+t=n /\ vs=[.int .i64 k] /\ hh=h) n ?_ ⟨0,by simp,by simp,rfl⟩;rintro Y t vs hh ⟨k,ht,rfl,rfl⟩ hY;simp -dsimp[zn3 hx'];refine B.zm (λhb=>?_) (λhb=>?_)<;>simp -dsimp at hb ⊢
 ·refine zd.intro (λt vs h2=>∃i:Nat,i+t=len k /\ vs=[.int .i64 i] /\ h2=hh) (len k) ?_ ⟨0,by simp,by simp,rfl⟩
  rintro Z t' vs h3 ⟨i,hi,rfl,rfl⟩ hZ;have hold:=(fs.old k hb).at_;have hlk:=hl k hb;have hlx:=hold.zbi;rw[zom]at hlx;simp -dsimp[zin hx' hb,zmq hx' hb,hlx];refine B.zm (λhc=>?_) (λhc=>?_)<;>simp -dsimp at hc ⊢
  ·have hyk:=fs.yAt hb
   have hFi:=hF k i hb hc;have e1:V.zb3 E.es (xs k) (.int .i64 (i:Int))=some (elp E.es (xs k) i 0):=hold.zjp (by simpa using hc);have e2:V.zb3 E.es (ys k) (.int .i64 (i:Int))=some (elp E.es (ys k) i 0):=hyk.zjp (List.getElem?_eq_some_iff.1 hFi).1;have e3:=zmq fs.gAt hb;rw[hgs k hb]at e3;simp -dsimp only[zin hx' hb,zmq hx' hb,e1,B.ze,B.zha];refine S.ld hold (zon hc) ?_;refine S.call _ _ _ _ (keepS2 (ls_kp hx' hb) (S.kpt hold (zon hc)) ?_);refine S.eq ?_;simp -dsimp[zin fs.gAt hb,e3,e2];refine S.ld hyk hFi ?_;refine S.call _ _ _ _ (keepS2 (ls_kp fs.gAt hb) (S.kpt hyk hFi) ?_);simp -dsimp;refine S.eq ?_;simp -dsimp[zjl (n:=i) (by omega)];exact hZ (len k-(i+1)) _ _ (by omega) ⟨i+1,by omega,by simp,rfl⟩
  ·simp -dsimp[zjl (n:=k) (by omega)]
   exact hY (n-(k+1)) _ _ (by omega) ⟨k+1,by omega,by simp,rfl⟩
 ·exact hq _ fs.own.le
theorem flat4(S:zus C E m v)(hx:SlX h0 1 x (zhu n λj=>[xs j]) W)(fs:FS E m h0 h v5 n xs len ys F gs)(hn:n <= 100000000)(hl:∀j,j<n->len j <= 100000000)
  (hgs:∀j,j<n->gs j=ys j) (hF:∀j i,j<n->i<len j->(F j)[i]?=some (m j i)) (hq:∀h',h0.le h'->Q (.bool true) h'):zd (zy.l40 E C Q x v5) [.int .i64 0] h:=by
 refine zd.intro (λt vs hh=>∃(k:Nat)(ys gs:Nat->za)(F:Nat->List (List za)),k+t=n /\ vs=[.int .i64 k] /\ FS E m h0 hh v5 n xs len ys F gs /\ (∀j,j<n->gs j=ys j) /\ ∀j i,j<n->i<len j->(F j)[i]?=some (m j i)) n ?_
  ⟨0,ys,gs,F,by simp,by simp,fs,hgs,hF⟩
 rintro Y t vs h ⟨k,ys,gs,F,ht,rfl,fs,hgs,hF⟩ hY;have hx':=hx.mono fs.own.le;simp -dsimp[zn3 hx'];refine B.zm (λhb=>?_) (λhb=>?_)<;>simp -dsimp at hb ⊢
 ·refine⟨S.pos,(zcw.start h).mks (es:=E.es) S.zlen (by omega) (by omega) (by have:=S.small;omega) (by omega) λy h1 ho1=>?_⟩
  simp only[nil_append]at ho1;refine zd.intro (λt vs hh=>∃i:Nat,i+t=64 /\ vs=[.int .i64 i] /\ ∃R,zcw h hh [.sl E.es y (zuv m (k+n:Nat) i++(zhu 64 λ_=>E.z).drop i) R]) 64 ?_ ⟨0,by simp,by simp,_,by simpa using ho1⟩;rintro Z t' vs hh ⟨i,hi,rfl,R,ho⟩ hZ;simp -dsimp;refine B.zm (λhc=>?_) (λhc=>?_)<;>simp -dsimp at hc ⊢
  ·have e1:IntKind.i64.wrap ((k:Int)+n)=((k+n:Nat):Int):=by rw[wrap_i64 (by omega) (by omega)];omega
   have hxx:=hx'.mono ho.le;have hi64:i<(zhu 64 λ_=>E.z).length:=by simp;omega
   have hlt:i<(zuv m (k+n:Nat) i++(zhu 64 λ_=>E.z).drop i).length:=by simp;omega
   simp -dsimp only[zn3 hxx,B.ze,V.zex,e1];refine S.call _ _ _ _ ?_;simp -dsimp only[(ho.zgz 0 rfl).zjp hlt,B.ze];refine S.st (ho.zgz 0 rfl) (ho.zqs 0 rfl) (mkTo_at hi64) λh2 h3 h4 h5=>?_;rw[mkTo_over hi64]at h3;simp -dsimp[zjl (n:=i) (by omega)];exact hZ (64-(i+1)) _ _ (by omega) ⟨i+1,by omega,by simp,R,ho.zqk 0 rfl (o':= .sl E.es y _ R) h3 h4 h5 (.inl rfl)⟩
  ·have hi64:i=64:=by omega
   subst hi64;have hd:(zhu 64 λ_=>E.z).drop 64=[]:=drop_of_length_le (by simp);rw[hd,append_nil]at ho;have fh:=fs.grow ho.le;have hold:=fh.old k hb;have hxx:=hx'.mono ho.le;have hlk:=hl k hb;have hmul:=Nat.mul_le_mul (show len k+64 <= 100000064 by omega) S.small;simp -dsimp[zin hxx hb,zmq hxx hb];refine hold.at_.appW2 (λid b e1 e2=>?_) (ho.zgz 0 rfl) S.pos (by simp only[zom];omega) (by simp[maxLen];omega) λy' h2 h3 h4 h5 h6 h7=>?_
   ·rcases hold.ft with e|⟨e,_⟩
    ·rw[e]at e1;cases e1
    ·rw[e]at e1;exact fh.own.zqs k (zid.zza hb) id b e1 e2
   ·have f2:FS E m h0 h2 v5 n xs len (upf ys k y') (upf F k (zuv m k (len k)++zuv m (k+n:Nat) 64)) gs:=fh.zqk hb h3 h4 (λj b e1 e2=>h5 j b e1 λe3=>by
      rcases hold.ft with e|⟨e,_⟩
      ·rw[e]at e3;cases e3
      ·rw[e]at e3;exact e2 e3) (by
      rcases h6 with e|e
      ·rcases hold.ft with e'|⟨e',_⟩
       ·exact .inr λid hid=>by rw[e,e']at hid;cases hid
       ·exact .inl (e.trans e')
      ·exact .inr e) (h7 _ _ (Old.refl hold.at_))
    simp -dsimp[zin f2.gAt hb];refine f2.store hb h3.zbm λh8 f3=>?_;simp -dsimp[zjl (n:=k) (by omega)];refine hY (n-(k+1)) _ _ (by omega) ⟨k+1,_,_,_,by omega,by simp,f3,λj hj=>?_,λj i hj hi=>?_⟩
    ·by_cases e:j=k
     ·subst e;rw[zgh,zgh]
     ·rw[zja _ _ e,zja _ _ e];exact hgs j hj
    ·by_cases e:j=k
     ·subst e
      rw[zgh,getElem?_append_left (by simpa using hi)];exact zon hi
     ·rw[zja _ _ e];exact hF j i hj hi
 ·exact flat5 S hx fs hn hl hgs hF hq
theorem flat3(S:zus C E m v)(hx:SlX h0 1 x (zhu n λj=>[xs j]) W)(fs:FS E m h0 h v5 n xs len ys F gs)(hn:n <= 100000000)(hl:∀j,j<n->len j <= 100000000)
  (hgs:∀j,j<n->gs j=ys j) (hF:∀j,j<n->F j=zuv m j (len j+64)) (hq:∀h',h0.le h'->Q (.bool true) h'):zd (zy.l59 E C Q x v5) [.int .i64 0] h:=by
 have hx':=hx.mono fs.own.le;refine zd.intro (λt vs hh=>∃k:Nat,k+t=n /\ vs=[.int .i64 k] /\ hh=h) n ?_ ⟨0,by simp,by simp,rfl⟩;rintro Y t vs hh ⟨k,ht,rfl,rfl⟩ hY;simp -dsimp[zn3 hx'];refine B.zm (λhb=>?_) (λhb=>?_)<;>simp -dsimp at hb ⊢
 ·refine zd.intro (λt vs h2=>∃i:Nat,i+t=len k+64 /\ vs=[.int .i64 i] /\ h2=hh) (len k+64) ?_ ⟨0,by simp,by simp,rfl⟩
  rintro Z t' vs h3 ⟨i,hi,rfl,rfl⟩ hZ;have hold:=(fs.old k hb).at_;have hlk:=hl k hb;have hlx:=hold.zbi;rw[zom]at hlx;have hyk:=fs.yAt hb;rw[hF k hb]at hyk;have hly:=hyk.zbi;rw[zom]at hly;have e3:=zmq fs.gAt hb;rw[hgs k hb]at e3;simp -dsimp[zin fs.gAt hb,e3,hly];refine B.zm (λhc=>?_) (λhc=>?_)
  ·have hc:i<len k+64:=by simp at hc;omega
   have e2:V.zb3 E.es (ys k) (.int .i64 (i:Int))=some (elp E.es (ys k) i 0):=hyk.zjp (by simpa using hc);simp -dsimp only[zin fs.gAt hb,e3,e2,B.ze,B.zha];refine S.ld hyk (zon hc) ?_;refine S.call _ _ _ _ (keepS2 (ls_kp fs.gAt hb) (S.kpt hyk (zon hc)) ?_);refine S.eq ?_;by_cases hd:i<len k
   ·have e1:V.zb3 E.es (xs k) (.int .i64 (i:Int))=some (elp E.es (xs k) i 0):=hold.zjp (by simpa using hd)
    simp -dsimp[zin hx' hb,zmq hx' hb,hlx,hd,e1];refine S.ld hold (zon hd) ?_;refine S.call _ _ _ _ (keepS2 (ls_kp hx' hb) (S.kpt hold (zon hd)) ?_);simp -dsimp;refine S.eq ?_;simp -dsimp[zjl (n:=i) (by omega)];exact hZ (len k+64-(i+1)) _ _ (by omega) ⟨i+1,by omega,by simp,rfl⟩
   ·simp -dsimp[zin hx' hb,zmq hx' hb,hlx,hd]
    simp -dsimp[zjl (n:=i) (by omega)];exact hZ (len k+64-(i+1)) _ _ (by omega) ⟨i+1,by omega,by simp,rfl⟩
  ·simp -dsimp[zjl (n:=k) (by omega)]
   exact hY (n-(k+1)) _ _ (by omega) ⟨k+1,by omega,by simp,rfl⟩
 ·exact flat4 S hx fs hn hl hgs (λj i hj hi=>by rw[hF j hj];exact zon (by omega)) hq
theorem flat2(S:zus C E m v)(hx:SlX h0 1 x (zhu n λj=>[xs j]) W)(fs:FS E m h0 h v5 n xs len xs (λj=>zuv m j (len j)) gs)(hn:n <= 100000000)(hl:∀j,j<n->len j <= 100000000)
  (hq:∀h',h0.le h'->Q (.bool true) h'):zd (zy.l82 E C Q x v5) [.int .i64 0] h:=by
 refine zd.intro (λt vs hh=>∃(k:Nat)(ys gs:Nat->za)(F:Nat->List (List za)),k+t=n /\ vs=[.int .i64 k] /\ FS E m h0 hh v5 n xs len ys F gs /\ (∀j,j<k->gs j=ys j /\ F j=zuv m j (len j+64)) /\ ∀j,k <= j->ys j=xs j /\ F j=zuv m j (len j)) n ?_
  ⟨0,_,gs,_,by simp,by simp,fs,by simp,λj _=>⟨rfl,rfl⟩⟩
 rintro Y t vs h ⟨k,ys,gs,F,ht,rfl,fs,hlo,hhi⟩ hY;have hx':=hx.mono fs.own.le;simp -dsimp[zn3 hx'];refine B.zm (λhb=>?_) (λhb=>?_)<;>simp -dsimp at hb ⊢
 ·have hk:=hhi k (Nat.le_refl k)
  have hlk:=hl k hb;simp -dsimp[zin hx' hb,zmq hx' hb];refine zd.intro (λt vs hh=>∃(i:Nat)(y:za),i+t=64 /\ vs=[y,.int .i64 i] /\ FS E m h0 hh v5 n xs len (upf ys k y) (upf F k (zuv m k (len k+i))) gs) 64 ?_ ⟨0,xs k,by simp,by simp,?_⟩
  ·rintro Z t' vs hh ⟨i,y,hi,rfl,f1⟩ hZ
   have hx1:=hx.mono f1.own.le;have hold:=(f1.old k hb).at_;have hlx:=hold.zbi;rw[zom]at hlx;have ey:upf ys k y k=y:=zgh ..;simp -dsimp;refine B.zm (λhc=>?_) (λhc=>?_)<;>simp -dsimp at hc ⊢
   ·have e1:IntKind.i64.wrap ((len k:Int)+i)=((len k+i:Nat):Int):=by rw[wrap_i64 (by omega) (by omega)];omega
    simp -dsimp only[zin hx1 hb,zmq hx1 hb,hlx,B.ze,B.zha,V.zex,e1];refine S.call _ _ _ _ ?_;rw[S.new];have:=f1.push S hb (cs:=m k (len k+i:Nat)) (S.len _ _) (by rw[zgh,zom];omega) (K:=λv68 h=>B.pv (V.bin .add (.int .i64 (i:Int)) (.int .i64 1)) λv56=>Z [v68,v56] h) λy' h2 f2=>?_
    ·rw[ey]at this;exact this
    ·simp -dsimp[zjl (n:=i) (by omega)]
     refine hZ (64-(i+1)) _ _ (by omega) ⟨i+1,y',by omega,by simp,?_⟩;rw[zs7,zs7,zgh,<-mkTo_succ]at f2;exact f2
   ·have hi64:i=64:=by omega
    subst hi64;simp -dsimp[zin f1.gAt hb];have hyc:=(f1.yAt hb).zbm;rw[ey]at hyc;refine f1.store hb hyc λh2 f2=>?_;simp -dsimp[zjl (n:=k) (by omega)];refine hY (n-(k+1)) _ _ (by omega) ⟨k+1,_,_,_,by omega,by simp,f2,λj hj=>?_,λj hj=>?_⟩
    ·by_cases e:j=k
     ·subst e;rw[zgh,zgh,zgh];exact⟨rfl,rfl⟩
     ·rw[zja _ _ e,zja _ _ e,zja _ _ e];exact hlo j (by omega)
    ·rw[zja _ _ (by omega),zja _ _ (by omega)];exact hhi j (by omega)
  ·have e1:upf ys k (xs k)=ys:=by rw[<-hk.1,zmn]
   have e2:upf F k (zuv m k (len k+0))=F:=by rw[Nat.add_zero,<-hk.2,zmn]
   rw[e1,e2];exact fs
 ·have:k=n:=by omega
  subst this;exact flat3 S hx fs hn hl (λj hj=>(hlo j hj).1) (λj hj=>(hlo j hj).2) hq
theorem zpn(S:zus C E m v){D R:Nat->List (List za)}(hx:SlX h0 1 x (zhu n λj=>[xs j]) W)(ho:zcw h0 h (zid E.es n xs D R))(hn:n <= 100000000)(hl:∀j,j<n->(D j).length <= 100000000)
  (hq:∀h',h0.le h'->Q (.bool true) h'):zy E C x h Q:=by
 refine zd.intro (λt vs hh=>∃(k:Nat)(G:Nat->List (List za)),k+t=n /\ vs=[.int .i64 k] /\ zcw h0 hh (zid E.es n xs G R) /\ (∀j,j<k->G j=zuv m j (D j).length) /\ ∀j,k <= j->G j=D j) n ?_
  ⟨0,D,by simp,by simp,ho,by simp,λj _=>rfl⟩
 rintro Y t vs h ⟨k,G,ht,rfl,ho,hlo,hhi⟩ hY;have hx':=hx.mono ho.le;simp -dsimp[zn3 hx'];refine B.zm (λhb=>?_) (λhb=>?_)<;>simp -dsimp at hb ⊢
 ·have hlk:=hl k hb
  have hgk:=hhi k (Nat.le_refl k);refine zd.intro (λt vs hh=>∃i:Nat,i+t=(D k).length /\ vs=[.int .i64 i] /\ zcw h0 hh (zid E.es n xs (upf G k (zuv m k i++(D k).drop i)) R)) (D k).length ?_ ⟨0,by simp,by simp,?_⟩
  ·rintro Z t' vs hh ⟨i,hi,rfl,ho1⟩ hZ
   have hx1:=hx.mono ho1.le;have hxk:=ho1.zgz k (zid.get hb);rw[zgh]at hxk;have hlx:=hxk.zbi;have hll:(zuv m k i++(D k).drop i).length=(D k).length:=by simp;omega
   rw[hll]at hlx;simp -dsimp[zin hx1 hb,zmq hx1 hb,hlx];refine B.zm (λhc=>?_) (λhc=>?_)<;>simp -dsimp at hc ⊢
   ·have hlt:i<(zuv m k i++(D k).drop i).length:=by omega
    simp -dsimp only[zin hx1 hb,zmq hx1 hb,B.ze,B.zha];refine S.call _ _ _ _ (keepS1 (ls_kp hx1 hb) ?_);simp -dsimp only[hxk.zjp hlt,B.ze];refine S.st hxk (ho1.zqs k (zid.get hb)) (mkTo_at hc) λh2 h3 h4 h5=>?_;rw[mkTo_over hc]at h3;have h6:=ho1.zqk k (zid.get hb) (o':= .sl E.es (xs k) _ (R k)) h3 h4 h5 (.inl rfl);rw[zid.set,zmn,zmn,zs7]at h6;simp -dsimp[zjl (n:=i) (by omega)];exact hZ ((D k).length-(i+1)) _ _ (by omega) ⟨i+1,by omega,by simp,h6⟩
   ·have hie:i=(D k).length:=by omega
    subst hie;rw[drop_length,append_nil]at ho1;simp -dsimp[zjl (n:=k) (by omega)];refine hY (n-(k+1)) _ _ (by omega) ⟨k+1,_,by omega,by simp,ho1,λj hj=>?_,λj hj=>?_⟩
    ·by_cases e:j=k
     ·subst e;rw[zgh]
     ·rw[zja _ _ e];exact hlo j (by omega)
    ·rw[zja _ _ (by omega)];exact hhi j (by omega)
  ·simp only[mkTo_zero,nil_append,drop_zero]
   rw[<-hgk,zmn];exact ho
 ·have:k=n:=by omega
  subst this;simp -dsimp only[zn3 hx',B.ze];refine⟨Nat.one_pos,?_⟩;refine ho.mks (bytes:=24) (es:=1) (n:=k) (c:=k) (z:=[.zbj]) rfl (by omega) (by omega) (by omega) (by omega) λy h1 ho1=>?_;have e1:((k:Int)).toNat=k:=by simp
  rw[e1,Nat.sub_self,zzd]at ho1;have ho2:=ho1.cutR;rw[zid.congr (ys:=xs) (E:=λj=>zuv m j (D j).length) (S:=λ_=>[]) λj hj=>⟨rfl,hlo j hj,rfl⟩]at ho2;exact flat2 S hx ⟨ho2,λj hj=>Old.refl (ho2.zgz j (zid.zza hj))⟩ hn (λj hj=>hl j hj) hq
end
variable{C:zh}{N:zN}
structure Scal(T:Type)[DecidableEq T] where
 c:T->za
 cell:∀t,(c t).zbm=true
 eql:∀a b,V.bin .eql (c a) (c b)=some (.bool (decide (a=b)))
 neq:∀a b,V.bin .neq (c a) (c b)=some (.bool (!decide (a=b)))
theorem SlX.cell{h:zb}{x c:za}{L R:List (List za)}{i:Nat}(hs:SlX h 1 x L R)(hc:L[i]?=some [c]):A.ldv h (elp 1 x i 0)=some c:=by
 rw[hs.ldv hc (by omega)];rfl
section
variable{T:Type}[DecidableEq T](F:Scal T)
abbrev Scal.cs(t:T):List za:=[F.c t]
@[simp] def zyh.k2(Q:zQ)(Y1:zL)(v0 v1 v5:za)(h:zb):Prop:=B.pv (V.zbi v0) λv13=>B.pv (V.bin .lss v5 v13) λv14=>B.cond v14 (B.pv (V.zb3 1 v0 v5) λv19=>B.ld h v19 λv20=>B.pv (V.zb3 1 v1 v5) λv23=>B.ld h v23 λv24=>B.pv (V.bin .neq v20 v24) λv25=>B.cond v25 (Q (.bool false) h) (B.pv (V.bin .add v5 (.int .i64 1)) λv16=>Y1 [v16] h)) (Q (.bool true) h)
@[simp] def zyh.l4(Q:zQ)(v0 v1:za):zG|[v5],h,Y1=>zyh.k2 Q Y1 v0 v1 v5 h|_,_,_=>False
def zyh(v0 v1:za)(h:zb)(Q:zQ):Prop:=B.pv (V.zbi v0) λv7=>B.pv (V.zbi v1) λv9=>B.pv (V.bin .neq v7 v9) λv10=>B.cond v10 (Q (.bool false) h) (zd (zyh.l4 Q v0 v1) [(.int .i64 0)] h)
theorem sameS_spec{x y:za}{L M:List T}{R S:List (List za)}{h:zb}{Q:zQ}(hx:SlX h 1 x (L.map F.cs) R)(hy:SlX h 1 y (M.map F.cs) S)(hlen:L.length<4611686018427387904)
  (hq:Q (.bool (decide (L=M))) h):zyh x y h Q:=by
 have hlx:=hx.zbi;have hly:=hy.zbi;rw[length_map]at hlx hly;simp -dsimp[zyh,hlx,hly];refine B.zm (λhb=>?_) (λhb=>?_)<;>simp -dsimp at hb ⊢
 ·rw[decide_eq_false λe=>hb (by rw[e])]at hq
  exact hq
 ·refine zd.intro (λn vs hh=>∃k,k+n=L.length /\ vs=[.int .i64 k] /\ hh=h /\ L.take k=M.take k) L.length ?_ ⟨0,by simp,by simp,rfl,by simp⟩
  rintro Y n vs _ ⟨k,hn,rfl,rfl,he⟩ hY;simp -dsimp[hlx];refine B.zm (λhc=>?_) (λhc=>?_)<;>simp -dsimp at hc ⊢
  ·obtain⟨w,hw⟩:=zgf hc
   obtain⟨u,hu⟩:=zgf (L:=M) (k:=k) (by omega);have hk:k<(L.map F.cs).length:=by simpa using hc
   have hk2:k<(M.map F.cs).length:=by simp;omega
   simp only[hx.zjp hk,hy.zjp hk2,hx.cell (get_map hw),hy.cell (get_map hu),B.ze,B.zha,F.neq];refine B.zm (λhd=>?_) (λhd=>?_)<;>simp -dsimp at hd ⊢
   ·rw[decide_eq_false λe=>by subst e;rw[hw]at hu;cases hu;exact hd rfl]at hq
    exact hq
   ·simp[zjl (n:=k) (by omega)]
    refine hY (L.length-(k+1)) _ _ (by omega) ⟨k+1,by omega,by simp,rfl,?_⟩;rw[take_succ hw,take_succ hu,he,hd]
  ·rw[take_of_length_le (by omega),take_of_length_le (by omega)]at he
   rw[decide_eq_true he]at hq;exact hq
def zjq(mk:Int->T)(n:Nat):List (List za):=(List.range n).map fun(i:Nat)=>F.cs (mk (i:Int))
@[simp] theorem cmarks_len(mk:Int->T)(n:Nat):(zjq F mk n).length=n:=by simp[zjq]
theorem cmarks_get(mk:Int->T){n k:Nat}(hk:k<n):(zjq F mk n)[k]?=some (F.cs (mk k)):=by simp[zjq,hk]
theorem cmarks_succ(mk:Int->T)(n:Nat):zjq F mk (n+1)=zjq F mk n++[F.cs (mk n)]:=by simp[zjq,range_succ]
@[simp] def zwc.k2(C:zh)(bytes f:Nat)(z:za)(m:Int)(Q:zQ)(Y1:zL)(v0 v3 v4:za)(h:zb):Prop:=B.pv (V.bin .lss v4 (.int .i64 12)) λv13=>B.cond v13 (B.call C f [(.int .i64 m),v4] h λv18 h=>B.zg1 h (zed [(0,none,v18)] (zfs 1 [z])) λi19 h=>B.zif h 1 bytes v3 (.sl i19 0 0 1 1 1) λv20 h=>B.pv (V.bin .add v4 (.int .i64 1)) λv15=>Y1 [v20,v15] h) (B.pv (V.zbi v0) λv23=>B.pv (V.zhj 1 v3 none (some v23)) λv24=>Q v24 h)
@[simp] def zwc.l4(C:zh)(bytes f:Nat)(z:za)(m:Int)(Q:zQ)(v0:za):zG|[v3,v4],h,Y1=>zwc.k2 C bytes f z m Q Y1 v0 v3 v4 h|_,_,_=>False
def zwc(C:zh)(bytes f:Nat)(z:za)(m:Int)(v0:za)(h:zb)(Q:zQ):Prop:=B.pv (V.zbi v0) λv6=>B.pv (V.bin .add v6 (.int .i64 12)) λv7=>0<1 /\ B.mks h bytes (some [z]) (.int .i64 0) v7 λv8 h=>B.zif h 1 bytes v8 v0 λv11 h=>zd (zwc.l4 C bytes f z m Q v0) [v11,(.int .i64 0)] h
theorem lentS_specL{bytes f:Nat}{z:za}{m:Int}{mk:Int->T}(s1:∀(i:Int)(h:zb)(Q:zQ),Q (F.c (mk i)) h->C f [.int .i64 m,.int .i64 i] h Q)
  {x:za} {L:List T} {R:List (List za)} {h:zb} {Q:zQ} (hx:SlX h 1 x (L.map F.cs) R) (hlen:L.length <= 4611686018427387000) (hbm:(L.length+12)*bytes <= 140737488355328)
  (hq:∀x' h',zcw h h' [.sl 1 x' (L.map F.cs) (zjq F mk 12)]->Q x' h'):zwc C bytes f z m x h Q:=by
 have hlx:=hx.zbi;rw[length_map]at hlx;have hmul:∀n:Nat,n <= L.length+12->n*bytes <= 140737488355328:=λn hn=>Nat.le_trans (Nat.mul_le_mul_right bytes hn) hbm;have e1:IntKind.i64.wrap ((L.length:Int)+12)=(L.length:Int)+12:=wrap_i64 (by omega) (by omega);simp -dsimp[zwc,hlx,e1];refine(zcw.start h).mks (es:=1) rfl (by omega) (by omega) ?_ (by omega) λy h1 ho=>?_
 ·have:=hmul (L.length+12) (by omega)
  have e:((L.length:Int)+12)*bytes=((L.length+12)*bytes:Nat):=by simp
  rw[e];omega
 refine ho.zif 0 rfl (hx.mono ho.le) Nat.one_pos (by simpa using hmul L.length (by omega)) (by simp[maxLen];omega) λy2 h2 ho2 _=>?_;refine zd.intro (λn vs hh=>∃k y,k+n=12 /\ vs=[y,.int .i64 k] /\ zcw h hh [.sl 1 y (L.map F.cs++zjq F mk k) []]) 12 ?_ ⟨0,y2,by simp,by simp,by simpa[zjq]using ho2⟩;rintro Y n vs hh ⟨k,y3,hn,rfl,ho3⟩ hY;simp -dsimp[hlx];refine B.zm (λhc=>?_) (λhc=>?_)<;>simp -dsimp at hc ⊢
 ·refine s1 _ _ _ ?_
  have hfill:zed [(0,none,F.c (mk k))] (zfs 1 [z])=some (F.cs (mk k)):=by
   simp[F.cell,zfs]
  rw[hfill];refine ho3.push 0 rfl rfl Nat.one_pos (by simp;have:=hmul (L.length+k+1) (by omega);omega) (by simp[maxLen];omega) λz' h4 ho4 _=>?_;simp[zjl (n:=k) (by omega)];refine hY (12-(k+1)) _ _ (by omega) ⟨k+1,z',by omega,by simp,?_⟩;rw[cmarks_succ,<-append_assoc];exact ho4
 ·have:k=12:=by omega
  subst this;obtain⟨x',e2,e3,e4⟩:=(ho3.zgz 0 rfl).slice Nat.one_pos (lo:=0) (hi:=L.length) (a:=none) (b:=some (.int .i64 L.length)) (.inl ⟨rfl,rfl⟩) (.inr ⟨_,rfl⟩) (by omega) (by simp);simp -dsimp[hlx,e2];refine hq _ _ (ho3.zqk 0 rfl (o':= .sl 1 x' (L.map F.cs) (zjq F mk 12)) ?_ (λid b hf hb=>ho3.zqs 0 rfl id b (by show zhy y3=some id;rw[<-e4];exact hf) hb) (λj b hb _=>hb) (.inl e4));have h1:((L.map F.cs++zjq F mk 12++[]).take L.length).drop 0=L.map F.cs:=by simp[take_append_of_le_length]
  have h2:(L.map F.cs++zjq F mk 12++[]).drop L.length=zjq F mk 12:=by simp[drop_append_of_le_length]
  rw[h1,h2]at e3;exact e3
theorem lentS_spec{bytes f:Nat}{z:za}{m:Int}{mk:Int->T}(hbm:bytes <= 1000)(s1:∀(i:Int)(h:zb)(Q:zQ),Q (F.c (mk i)) h->C f [.int .i64 m,.int .i64 i] h Q)
  {x:za} {L:List T} {R:List (List za)} {h:zb} {Q:zQ} (hx:SlX h 1 x (L.map F.cs) R) (hlen:L.length <= 100000000)
  (hq:∀x' h',zcw h h' [.sl 1 x' (L.map F.cs) (zjq F mk 12)]->Q x' h'):zwc C bytes f z m x h Q:=
 lentS_specL F s1 hx (by omega) (by have:=Nat.mul_le_mul (show L.length+12 <= 100000100 by omega) hbm;omega) hq
@[simp] def zxz.k2(C:zh)(f:Nat)(m:Int)(Q:zQ)(Y1:zL)(v1 v5 v6:za)(h:zb):Prop:=B.pv (V.zbi v5) λv19=>B.pv (V.bin .lss v6 v19) λv20=>B.cond v20 (B.pv (V.zbi v1) λv25=>B.pv (V.bin .lss v6 v25) λv26=>B.gd h v26 true (λK=>K v5 h) λv28 h=>B.gd h v26 true (λK=>K v6 h) λv29 h=>B.gd h v26 true (λK=>B.pv (V.zb3 1 v28 v29) λv=>K v h) λv30 h=>B.gd h v26 true (λK=>B.ld h v30 λv=>K v h) λv31 h=>B.gd h v26 true (λK=>K v1 h) λv32 h=>B.gd h v26 true (λK=>K v6 h) λv33 h=>B.gd h v26 true (λK=>B.pv (V.zb3 1 v32 v33) λv=>K v h) λv34 h=>B.gd h v26 true (λK=>B.ld h v34 λv=>K v h) λv35 h=>B.gd h v26 true (λK=>B.pv (V.bin .eql v31 v35) λv=>K v h) λv36 h=>B.gd h v26 true (λK=>B.pv (V.un .not v36) λv=>K v h) λv37 h=>B.pick v26 v37 (.bool false) λv38=>B.gd h v38 false (λK=>K v6 h) λv40 h=>B.gd h v38 false (λK=>K v1 h) λv41 h=>B.gd h v38 false (λK=>B.pv (V.zbi v41) λv=>K v h) λv42 h=>B.gd h v38 false (λK=>B.pv (V.bin .geq v40 v42) λv=>K v h) λv43 h=>B.gd h v38 false (λK=>K v43 h) λv44 h=>B.gd h v44 true (λK=>K v5 h) λv45 h=>B.gd h v44 true (λK=>K v6 h) λv46 h=>B.gd h v44 true (λK=>B.pv (V.zb3 1 v45 v46) λv=>K v h) λv47 h=>B.gd h v44 true (λK=>B.ld h v47 λv=>K v h) λv48 h=>B.gd h v44 true (λK=>K v6 h) λv49 h=>B.gd h v44 true (λK=>K v1 h) λv50 h=>B.gd h v44 true (λK=>B.pv (V.zbi v50) λv=>K v h) λv51 h=>B.gd h v44 true (λK=>B.pv (V.bin .sub v49 v51) λv=>K v h) λv52 h=>B.gd h v44 true (λK=>B.call C f [(.int .i64 m),v52] h (B.zpl h [(v47,none)] K)) λv53 h=>B.gd h v44 true (λK=>B.pv (V.bin .eql v48 v53) λv=>K v h) λv54 h=>B.gd h v44 true (λK=>B.pv (V.un .not v54) λv=>K v h) λv55 h=>B.gd h v38 false (λK=>B.pick v44 v55 (.bool false) λv=>K v h) λv56 h=>B.pick v38 (.bool true) v56 λv57=>B.cond v57 (Q (.bool false) h) (B.pv (V.bin .add v6 (.int .i64 1)) λv22=>Y1 [v22] h)) (Q (.bool true) h)
@[simp] def zxz.l4(C:zh)(f:Nat)(m:Int)(Q:zQ)(v1 v5:za):zG|[v6],h,Y1=>zxz.k2 C f m Q Y1 v1 v5 v6 h|_,_,_=>False
def zxz(C:zh)(f:Nat)(m:Int)(v0 v1:za)(h:zb)(Q:zQ):Prop:=B.pv (V.zbi v0) λv8=>B.pv (V.zbi v1) λv10=>B.pv (V.bin .neq v8 v10) λv11=>B.cond v11 (Q (.bool false) h) (B.pv (V.zbi v1) λv14=>B.pv (V.bin .add v14 (.int .i64 12)) λv15=>B.pv (V.zhj 1 v0 none (some v15)) λv16=>zd (zxz.l4 C f m Q v1 v16) [(.int .i64 0)] h)
theorem keptS_specL{f:Nat}{m:Int}{mk:Int->T}(s1:∀(i:Int)(h:zb)(Q:zQ),Q (F.c (mk i)) h->C f [.int .i64 m,.int .i64 i] h Q)
  {x y:za} {L M:List T} {R:List (List za)} {h:zb} {Q:zQ} (hx:SlX h 1 x (L.map F.cs) (zjq F mk 12)) (hy:SlX h 1 y (M.map F.cs) R) (hlen:L.length <= 4611686018427387000)
  (hq:Q (.bool (decide (L=M))) h):zxz C f m x y h Q:=by
 have hlx:=hx.zbi;have hly:=hy.zbi;rw[length_map]at hlx hly;simp -dsimp[zxz,hlx,hly];refine B.zm (λhb=>?_) (λhb=>?_)<;>simp -dsimp at hb ⊢
 ·rw[decide_eq_false λe=>hb (by rw[e])]at hq
  exact hq
 ·have e1:IntKind.i64.wrap ((M.length:Int)+12)=((M.length+12:Nat):Int):=by rw[wrap_i64 (by omega) (by omega)];omega
  obtain⟨z,e2,e3,e4⟩:=hx.slice Nat.one_pos (lo:=0) (hi:=M.length+12) (a:=none) (b:=some (.int .i64 ((M.length+12:Nat):Int))) (.inl ⟨rfl,rfl⟩) (.inr ⟨_,rfl⟩) (by omega) (by simp;omega);have h1:((L.map F.cs++zjq F mk 12).take (M.length+12)).drop 0=L.map F.cs++zjq F mk 12:=by rw[drop_zero,take_of_length_le];simp;omega
  rw[h1]at e3;have hlz:=e3.zbi;simp only[length_append,length_map,cmarks_len]at hlz;simp only[hly,V.zex,e1,e2,B.ze];refine zd.intro (λn vs hh=>∃k,k+n=L.length+12 /\ vs=[.int .i64 k] /\ hh=h /\ L.take k=M.take k) (L.length+12) ?_ ⟨0,by simp,by simp,rfl,by simp⟩;rintro Y n vs _ ⟨k,hn,rfl,rfl,he⟩ hY;simp -dsimp[hlz];refine B.zm (λhc=>?_) (λhc=>?_)<;>simp -dsimp at hc ⊢
  ·have hk:k<(L.map F.cs++zjq F mk 12).length:=by simp;omega
   by_cases hkL:k<L.length
   ·have ew:=zgf hkL
    have eu:=zgf (L:=M) (k:=k) (by omega);obtain⟨w,hw⟩:=ew;obtain⟨u,hu⟩:=eu;have hk2:k<(M.map F.cs).length:=by simp;omega
    have hkM:k<M.length:=by omega
    have hwz:(L.map F.cs++zjq F mk 12)[k]?=some (F.cs w):=by rw[getElem?_append_left (by simpa using hkL)];exact get_map hw
    by_cases hwu:w=u
    ·subst hwu
     simp -dsimp[hly,hkM,e3.zjp hk,hy.zjp hk2,e3.cell hwz,hy.cell (get_map hu),F.eql,show ¬ M.length <= k by omega,zjl (n:=k) (by omega)];refine hY (L.length+12-(k+1)) _ _ (by omega) ⟨k+1,by omega,by simp,rfl,?_⟩;rw[take_succ hw,take_succ hu,he]
    ·simp -dsimp[hly,hkM,e3.zjp hk,hy.zjp hk2,e3.cell hwz,hy.cell (get_map hu),F.eql,hwu]
     rw[decide_eq_false λe=>by subst e;rw[hw]at hu;cases hu;exact hwu rfl]at hq;exact hq
   ·have hkM:¬ k<M.length:=by omega
    have hmk:(L.map F.cs++zjq F mk 12)[k]?=some (F.cs (mk ((k-M.length:Nat):Int))):=by
     rw[getElem?_append_right (by simp;omega),length_map,show k-L.length=k-M.length by omega];exact cmarks_get F mk (by omega)
    have e5:IntKind.i64.wrap ((k:Int)-M.length)=((k-M.length:Nat):Int):=by rw[wrap_i64 (by omega) (by omega)];omega
    simp -dsimp[hly,hkM,e3.zjp hk,e3.cell hmk,show M.length <= k by omega,e5];refine s1 _ _ _ ⟨?_,?_⟩
    ·intro p hp
     rw[mem_singleton.1 hp];exact⟨_,e3.cell hmk,e3.cell hmk⟩
    ·simp[F.eql,zjl (n:=k) (by omega)]
     refine hY (L.length+12-(k+1)) _ _ (by omega) ⟨k+1,by omega,by simp,rfl,?_⟩;rw[take_of_length_le (by omega),take_of_length_le (by omega)]at he ⊢;exact he
  ·rw[take_of_length_le (by omega),take_of_length_le (by omega)]at he
   rw[decide_eq_true he]at hq;exact hq
theorem keptS_spec{f:Nat}{m:Int}{mk:Int->T}(s1:∀(i:Int)(h:zb)(Q:zQ),Q (F.c (mk i)) h->C f [.int .i64 m,.int .i64 i] h Q){x y:za}{L M:List T}{R:List (List za)}{h:zb}{Q:zQ}(hx:SlX h 1 x (L.map F.cs) (zjq F mk 12))(hy:SlX h 1 y (M.map F.cs) R)(hlen:L.length <= 100000000)(hq:Q (.bool (decide (L=M))) h):zxz C f m x y h Q:=keptS_specL F s1 hx hy (by omega) hq
end
@[simp] def zn0.k1(C:zh)(es f:Nat)(st:zb->za->za->(zb->Prop)->Prop)(m:Int)(Q:zQ)(Y1:zL)(v2 v3:za)(h:zb):Prop:=B.pv (V.zbi v2) λv11=>B.pv (V.bin .lss v3 v11) λv12=>B.cond v12 (B.call C f [(.int .i64 m),v3] h λv18 h=>B.pv (V.zb3 es v2 v3) λv19=>st h v19 v18 λh=>B.pv (V.bin .add v3 (.int .i64 1)) λv14=>Y1 [v14] h) (Q (.tup []) h)
@[simp] def zn0.l3(C:zh)(es f:Nat)(st:zb->za->za->(zb->Prop)->Prop)(m:Int)(Q:zQ)(v2:za):zG|[v3],h,Y1=>zn0.k1 C es f st m Q Y1 v2 v3 h|_,_,_=>False
def zn0(C:zh)(es f:Nat)(st:zb->za->za->(zb->Prop)->Prop)(m:Int)(v0:za)(h:zb)(Q:zQ):Prop:=B.pv (V.zbi v0) λv6=>B.pv (V.bin .add v6 (.int .i64 12)) λv7=>B.pv (V.zhj es v0 none (some v7)) λv8=>zd (zn0.l3 C es f st m Q v8) [(.int .i64 0)] h
theorem overG_specL{es f:Nat}{st:zb->za->za->(zb->Prop)->Prop}{m:Int}(hes:0<es){v:Int->za}(s1:∀(i:Int)(h:zb)(Q:zQ),Q (v i) h->C f [.int .i64 m,.int .i64 i] h Q)
  (s2:∀{h0 h:zb}{x:za}{L R:List (List za)}{i:Nat}{k:Int}{K:zb->Prop},zcw h0 h [.sl es x L R]->i<L.length->(∀h' L',L'.length=L.length->zcw h0 h' [.sl es x L' R]->K h')->st h (elp es x i 0) (v k) K)
  {h0 h:zb} {x:za} {L R:List (List za)} {Q:zQ} (ho:zcw h0 h [.sl es x L R]) (hR:R.length=12) (hlen:L.length <= 4611686018427387000) (hq:∀h',h0.le h'->Q (.tup []) h'):zn0 C es f st m x h Q:=by
 have hx:=ho.zgz 0 rfl;have hlx:=hx.zbi;have e1:IntKind.i64.wrap ((L.length:Int)+12)=((L.length+12:Nat):Int):=by rw[wrap_i64 (by omega) (by omega)];omega
 obtain⟨z,e2,e3,e4⟩:=hx.slice hes (lo:=0) (hi:=L.length+12) (a:=none) (b:=some (.int .i64 ((L.length+12:Nat):Int))) (.inl ⟨rfl,rfl⟩) (.inr ⟨_,rfl⟩) (by omega) (by omega);have h1:((L++R).take (L.length+12)).drop 0=L++R:=by rw[drop_zero,take_of_length_le];simp;omega
 rw[h1]at e3;simp only[zn0,hlx,V.zex,e1,e2,B.ze];have hoz:zcw h0 h [.sl es z (L++R) ((L++R).drop (L.length+12))]:=ho.zqk 0 rfl (o':= .sl es z (L++R) ((L++R).drop (L.length+12))) e3 (λid b hf hb=>ho.zqs 0 rfl id b (by show zhy x=some id;rw[<-e4];exact hf) hb) (λj b hb _=>hb) (.inl e4);refine zd.intro (λn vs hh=>∃(k:Nat)(L':List (List za)),k+n=L.length+12 /\ vs=[.int .i64 k] /\ L'.length=L.length+12 /\ zcw h0 hh [.sl es z L' ((L++R).drop (L.length+12))]) (L.length+12) ?_ ⟨0,L++R,by simp,by simp,by simp[hR],hoz⟩;rintro Y n vs hh ⟨k,L',hn,rfl,hl',ho'⟩ hY;have hlz:=(ho'.zgz 0 rfl).zbi;rw[hl']at hlz;simp -dsimp[hlz];refine B.zm (λhc=>?_) (λhc=>?_)<;>simp -dsimp at hc ⊢
 ·have hk:k<L'.length:=by omega
  refine s1 _ _ _ ?_;simp -dsimp only[(ho'.zgz 0 rfl).zjp hk,B.ze];refine s2 ho' hk λh' L2 hl2 ho2=>?_;simp -dsimp[zjl (n:=k) (by omega)];exact hY (L.length+12-(k+1)) _ _ (by omega) ⟨k+1,L2,by omega,by simp,by omega,ho2⟩
 ·exact hq _ ho'.le
theorem zrk{es f:Nat}{st:zb->za->za->(zb->Prop)->Prop}{m:Int}(hes:0<es){v:Int->za}(s1:∀(i:Int)(h:zb)(Q:zQ),Q (v i) h->C f [.int .i64 m,.int .i64 i] h Q)(s2:∀{h0 h:zb}{x:za}{L R:List (List za)}{i:Nat}{k:Int}{K:zb->Prop},zcw h0 h [.sl es x L R]->i<L.length->(∀h' L',L'.length=L.length->zcw h0 h' [.sl es x L' R]->K h')->st h (elp es x i 0) (v k) K){h0 h:zb}{x:za}{L R:List (List za)}{Q:zQ}(ho:zcw h0 h [.sl es x L R])(hR:R.length=12)(hlen:L.length <= 100000000)(hq:∀h',h0.le h'->Q (.tup []) h'):zn0 C es f st m x h Q:=overG_specL hes s1 s2 ho hR (by omega) hq
theorem over_stS{v:za}(hv:v.zbm=true){h0 h:zb}{x:za}{L R:List (List za)}{i:Nat}{K:zb->Prop}(ho:zcw h0 h [.sl 1 x L R])(hi:i<L.length)(hK:∀h' L',L'.length=L.length->zcw h0 h' [.sl 1 x L' R]->K h'):B.st h (elp 1 x i 0) v K:=by
 refine ho.st 0 rfl (c:=L[i]) (by simp[hi]) (by omega) hv λh' ho' _=>hK h' _ (by simp) ho'
theorem over_stN{es:Nat}{xs:List za}(hxs:xs.length=es){h0 h:zb}{x:za}{L R:List (List za)}{i:Nat}{K:zb->Prop}(ho:zcw h0 h [.sl es x L R])(hi:i<L.length)(hK:∀h' L',L'.length=L.length->zcw h0 h' [.sl es x L' R]->K h'):B.stn h (elp es x i 0) es (.agg xs) K:=by
 refine ho.stElem 0 rfl (c:=L[i]) (by simp[hi]) hxs λh' ho' _=>hK h' _ (by simp) ho'
def zb.zox(h:zb)(l:List Ob):zb:=⟨λi=>bif l.any (λo=>o.zhy==some i) then none else h i,by
 obtain⟨n,k⟩:=h.2
 refine⟨n,λi hi=>?_⟩
 show (bif l.any (λo=>o.zhy==some i) then none else h i)=none
 cases l.any (λo=>o.zhy==some i)
 ·exact k i hi
 ·rfl⟩
theorem zyq{h:zb}{l:List Ob}{i:Nat}{o:Ob}(hm:o∈l)(hf:o.zhy=some i):h.zox l i=none:=by
 have:(l.any λo=>o.zhy==some i)=true:=any_eq_true.2 ⟨o,hm,by simp[hf]⟩;show (bif l.any (λo=>o.zhy==some i) then none else h i)=none;rw[this];rfl
theorem zs6{h:zb}{l:List Ob}{i:Nat}(hm:∀o∈l,o.zhy≠some i):h.zox l i=h i:=by
 have:(l.any λo=>o.zhy==some i)=false:=by
  rw[<-Bool.not_eq_true,any_eq_true];rintro⟨o,h1,h2⟩;exact hm o h1 (by simpa using h2)
 show (bif l.any (λo=>o.zhy==some i) then none else h i)=_;rw[this];rfl
theorem without_le(h:zb)(l:List Ob):(h.zox l).le h:=λi b e=>by
 by_cases hm:∃o∈l,o.zhy=some i
 ·obtain⟨o,h1,h2⟩:=hm
  rw[zyq h1 h2]at e;cases e
 ·rw[zs6 λo h1 h2=>hm ⟨o,h1,h2⟩]at e;exact e
theorem zcw.out{h0 h:zb}{l1 l2:List Ob}(ho:zcw h0 h (l1++l2)):zcw h0 (h.zox l2) l1 /\ zcw (h.zox l2) h l2:=by
 obtain⟨a1,a2,a3⟩:=pairwise_append.1 ho.apart;have h1:h0.le (h.zox l2):=λi b e=>by
  rw[zs6 λo hm hf=>by rw[(ho.own o (mem_append_right _ hm) i hf).1]at e;cases e];exact ho.le i b e
 have zms:∀o∈l1,∀id,o.zhy=some id->(h.zox l2) id=h id:=λo hm id hf=>zs6 λo2 hm2 hf2=>a3 o hm o2 hm2 id hf hf2
 refine⟨⟨h1,λo hm=>(ho.is o (mem_append_left _ hm)).zms λid b hf hb=>by rw[zms o hm id hf];exact hb,λo hm id hf=>?_,a1⟩,
  ⟨without_le h l2,λo hm=>ho.is o (mem_append_right _ hm),λo hm id hf=>⟨zyq hm hf,(ho.own o (mem_append_right _ hm) id hf).2⟩,a2⟩⟩
 obtain⟨b1,b2⟩:=ho.own o (mem_append_left _ hm) id hf;exact⟨b1,λb hb=>b2 b (by rw[<-zms o hm id hf];exact hb)⟩
theorem zcw.perm{h0 h:zb}{l l':List Ob}(ho:zcw h0 h l)(hp:l.Perm l'):zcw h0 h l':=⟨ho.le,λo hm=>ho.is o (hp.mem_iff.2 hm),λo hm=>ho.own o (hp.mem_iff.2 hm),(hp.pairwise_iff λ{a b} hab id hb ha=>hab id ha hb).1 ho.apart⟩
theorem elF{T:Type}[DecidableEq T](F:Flat T){bytes f:Nat}{z:List za}{mk:Int->Int->T}(hz:z.length=F.es)(hb:bytes <= 1000)(s1:∀(k i:Int)(h:zb)(Q:zQ),Q (.agg (F.cs (mk k i))) h->C f [.int .i64 k,.int .i64 i] h Q):
  zus C (ztv F.es bytes z f F.sh) (λk i=>F.cs (mk k i)) (λk i=> .agg (F.cs (mk k i))) where
 pos:=F.pos
 small:=hb
 len _ _:=F.len _
 zlen:=hz
 new k i:=by
  have hrep:zfs 1 z=z:=by unfold zfs;split<;>simp
  have h1:=F.len (mk k i);show zed [(0,some F.es,za.agg (F.cs (mk k i)))] (zfs 1 z)=_;rw[hrep];simp[h1,hz]
 call:=s1
 ld hs hc hk:=by
  simp only[ztv,B.zn5]at hs ⊢;rw[hs.elem hc];exact hk
 kpt hs hc:=⟨_,hs.elem hc⟩
 st {h x L R i c k j K} hs hown hc hk:=by
  refine hs.stn hown hc (F.len _) (by simp[ztv]) ?_;have hcl:=hs.len c (mem_append_left _ (mem_of_getElem? hc));have e:c.take 0++F.cs (mk k j)++c.drop (0+F.es)=F.cs (mk k j):=by
   have:c.length=F.es:=hcl;simp[this]
  rw[e];exact hk
 eq hk:=by simp only[ztv,F.eql,B.ze,decide_true];exact hk
theorem elS{bytes f:Nat}{z:za}{mv:Int->Int->za}(hc:∀k i,(mv k i).zbm=true)(he:∀k i,V.bin .eql (mv k i) (mv k i)=some (.bool true))(hb:bytes <= 1000)(s1:∀(k i:Int)(h:zb)(Q:zQ),Q (mv k i) h->C f [.int .i64 k,.int .i64 i] h Q):
  zus C (zc7 bytes z f) (λk i=>[mv k i]) mv where
 pos:=Nat.one_pos
 small:=hb
 len _ _:=rfl
 zlen:=rfl
 new k i:=by simp[zc7,hc,zfs]
 call:=s1
 ld hs hc hk:=by
  simp only[zc7,B.zha]at hs ⊢;rw[hs.cell hc];exact hk
 kpt hs hc:=⟨_,hs.cell hc⟩
 st {h x L R i c k j K} hs hown hcc hk:=by
  have hs':SlX h 1 x L R:=hs;have hcl:c.length=1:=hs'.len c (mem_append_left _ (mem_of_getElem? hcc));obtain⟨u,rfl⟩:=length_eq_one_iff.1 hcl;exact hs'.st hown hcc (by omega) (hc _ _) hk
 eq hk:=by simp only[zc7,he,B.ze];exact hk
end Go.Ab
