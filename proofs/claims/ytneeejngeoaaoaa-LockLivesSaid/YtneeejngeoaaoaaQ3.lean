/- What is proved: a part of the way to the statement: AcB. No conditions. -/
import Derived.Test.YtneeejngeoaaoaaQ2
set_option linter.unusedVariables false
set_option linter.unusedSimpArgs false
namespace Go.Ab
open List
def zht:za->Option Nat | .sl id _ _ _ _ _=>some id | .ptr id _ _=>some id | .mp id=>some id|_=>none
structure SlX(h:zb)(es:Nat)(x:za)(L R:List (List za)):Prop where
 len:∀p∈L++R,p.length=es
 at_:(L=[] /\ R=[] /\ (x= .zeg \/ x= .sz)) \/ ∃id g off cp b hi,x= .sl id g off L.length es cp /\ L.length+R.length <= max L.length cp /\ h id=some b /\ b.zia.lookup g=some hi /\
  off+(L.length+R.length)*es <= hi /\ hi <= b.cells.length /\ (b.cells.drop off).take ((L.length+R.length)*es)=(L++R).flatten
abbrev SlIs(h:zb)(es:Nat)(x:za)(L:List (List za)):Prop:=SlX h es x L []
theorem SlX.zeg(h:zb)(es:Nat):SlX h es .zeg [] []:=⟨λ_ hp=>(by cases hp),.inl ⟨rfl,rfl,.inl rfl⟩⟩
theorem SlX.sz(h:zb)(es:Nat):SlX h es .sz [] []:=⟨λ_ hp=>(by cases hp),.inl ⟨rfl,rfl,.inr rfl⟩⟩
theorem flat_get{α:Type}{n:Nat}:∀{css:List (List α)},(∀cs∈css,cs.length=n)->∀(i f:Nat)(c:List α),css[i]?=some c->f<n->css.flatten[i*n+f]?=c[f]?
 | [],_,_,_,_,h,_=>by simp at h
 | c0::css,hl,0,f,c,h,hf=>by
  simp only[getElem?_cons_zero,Option.some.injEq]at h
  subst h
  have:=hl c0 (by simp)
  rw[flatten_cons,Nat.zero_mul,Nat.zero_add,getElem?_append_left (by omega)]
 | c0::css,hl,i+1,f,c,h,hf=>by
  simp only[getElem?_cons_succ]at h
  have h0:=hl c0 (by simp)
  rw[flatten_cons,getElem?_append_right (by rw[h0,Nat.add_mul];omega),<-flat_get (λcs hcs=>hl cs (by simp[hcs])) i f c h hf]
  congr 1
  rw[h0,Nat.add_mul];omega
theorem zn1{α:Type}{n:Nat}:∀{css:List (List α)},(∀cs∈css,cs.length=n)->css.flatten.length=css.length*n
 | [],_=>by simp
 | c::css,hl=>by
  have hc:c.length=n:=hl c (by simp)
  rw[flatten_cons,length_append,zn1 (λcs hcs=>hl cs (by simp[hcs])),hc,length_cons,Nat.add_mul]
  omega
section
variable{h H h0:zb}{es:Nat}{x:za}{L R:List (List za)}
theorem SlX.mono(hs:SlX h es x L R)(hle:h.le H):SlX H es x L R:=by
 refine⟨hs.len,?_⟩;rcases hs.at_ with e|⟨id,g,off,cp,b,hi,h1,h1',h2,h3,h4,hh,h5⟩
 ·exact .inl e
 ·exact .inr ⟨id,g,off,cp,b,hi,h1,h1',hle _ _ h2,h3,h4,hh,h5⟩
theorem SlX.zjx(hs:SlX h es x L R)(hk:∀id b,zht x=some id->h id=some b->H id=some b):SlX H es x L R:=by
 refine⟨hs.len,?_⟩;rcases hs.at_ with e|⟨id,g,off,cp,b,hi,h1,h1',h2,h3,h4,hh,h5⟩
 ·exact .inl e
 ·exact .inr ⟨id,g,off,cp,b,hi,h1,h1',hk _ _ (by rw[h1];rfl) h2,h3,h4,hh,h5⟩
theorem SlX.known(hs:SlX h es x L R){id:Nat}(hx:zht x=some id):∃b,h id=some b:=by
 rcases hs.at_ with⟨_,_,e|e⟩|⟨id,g,off,cp,b,hi,h1,h1',h2,_⟩
 ·subst e;cases hx
 ·subst e;cases hx
 ·subst h1;cases hx;exact⟨b,h2⟩
theorem SlX.cut(hs:SlX h es x L R):SlIs h es x L:=by
 refine⟨λp hp=>hs.len p (by simpa using .inl (by simpa using hp)),?_⟩;rcases hs.at_ with⟨e,_,e'⟩|⟨id,g,off,cp,b,hi,h1,h1',h2,h3,h4,hh,h5⟩
 ·exact .inl ⟨e,rfl,e'⟩
 ·have hl:∀p∈L,p.length=es:=λp hp=>hs.len p (mem_append_left _ hp)
  have hfl:=zn1 hl;refine .inr ⟨id,g,off,cp,b,hi,h1,by simp;omega,h2,h3,?_,hh,?_⟩
  ·simp only[length_nil,Nat.add_zero];rw[Nat.add_mul]at h4;omega
  ·simp only[length_nil,Nat.add_zero,append_nil]
   have:((b.cells.drop off).take ((L.length+R.length)*es)).take (L.length*es)=L.flatten:=by
    rw[h5,flatten_append,take_append_of_le_length (by omega),take_of_length_le (by omega)]
   rw[<-this,take_take,Nat.min_eq_left];rw[Nat.add_mul];omega
theorem SlX.zde(hs:SlX h es x L R):V.zde x=some (.int .i64 L.length):=by
 rcases hs.at_ with⟨e,_,e'|e'⟩|⟨id,g,off,cp,b,hi,h1,_⟩
 ·subst e e';rfl
 ·subst e e';rfl
 ·subst h1;rfl
theorem SlX.zec(hs:SlX h es x L R):x.zec=true:=by
 rcases hs.at_ with⟨e,_,e'|e'⟩|⟨id,g,off,cp,b,hi,h1,_⟩
 ·subst e';rfl
 ·subst e';rfl
 ·subst h1;rfl
theorem SlX.zgl(hs:SlX h es x L R):A.zgl x=some L.length:=by
 rcases hs.at_ with⟨e,_,e'|e'⟩|⟨id,g,off,cp,b,hi,h1,_⟩
 ·subst e e';rfl
 ·subst e e';rfl
 ·subst h1;rfl
def elp(es:Nat)(x:za)(i f:Nat):za:=
 match x with
 | .sl id g off _ _ _=> .ptr id g (off+i*es+f)
 | _=> .undef
theorem SlX.idx(hs:SlX h es x L R){k:IntKind}{n:Int}(h0:0 <= n)(hn:n<L.length):V.zc9 es x (.int k n)=some (elp es x n.toNat 0):=by
 rcases hs.at_ with⟨e,_⟩|⟨id,g,off,cp,b,hi,h1,_⟩
 ·subst e;simp at hn;omega
 ·subst h1
  simp[V.zc9,elp,h0,hn]
theorem SlX.znf(hs:SlX h es x L R){k:IntKind}{i:Nat}(hn:i<L.length):V.zc9 es x (.int k i)=some (elp es x i 0):=by
 have:=hs.idx (k:=k) (n:=(i:Int)) (by omega) (by omega);simpa using this
theorem SlX.fieldA(hs:SlX h es x L R){i:Nat}(hn:i<L.length)(f o:Nat):V.fieldAddr o (elp es x i f)=some (elp es x i (f+o)):=by
 rcases hs.at_ with⟨e,_⟩|⟨id,g,off,cp,b,hi,h1,_⟩
 ·subst e;simp at hn
 ·subst h1
  simp[elp,Nat.add_assoc]
theorem SlX.ldvX(hs:SlX h es x L R){i f:Nat}{c:List za}(hi:i<L.length)(hc:(L++R)[i]?=some c)(hf:f<es):A.ldv h (elp es x i f)=c[f]? :=by
 rcases hs.at_ with⟨e,e',_⟩|⟨id,g,off,cp,b,hi',h1,h1',h2,h3,h4,hh,h5⟩
 ·subst e;simp at hi
 ·have hm:i*es+f<(L.length+R.length)*es:=by
   have:(i+1)*es <= (L.length+R.length)*es:=Nat.mul_le_mul_right _ (by omega);rw[Nat.add_mul]at this;omega
  subst h1;have h6:=flat_get hs.len i f c hc hf;rw[<-h5,getElem?_take_of_lt hm,getElem?_drop]at h6;simp only[elp,A.ldv,h2,h3];rw[if_pos (by omega),Nat.add_assoc,h6]
theorem SlX.ldv(hs:SlX h es x L R){i f:Nat}{c:List za}(hc:L[i]?=some c)(hf:f<es):A.ldv h (elp es x i f)=c[f]? :=by
 have hi:=(List.getElem?_eq_some_iff.1 hc).1;exact hs.ldvX hi (by rw[getElem?_append_left hi];exact hc) hf
theorem SlX.zl2(hs:SlX h es x L R){i f n:Nat}{c:List za}(hc:L[i]?=some c)(hf:f+n <= es):A.zl2 h (elp es x i f) n=some (.agg ((c.drop f).take n)):=by
 have hi:=(List.getElem?_eq_some_iff.1 hc).1;have hcl:=hs.len c (mem_append_left _ (mem_of_getElem? hc));rcases hs.at_ with⟨e,e',_⟩|⟨id,g,off,cp,b,hi',h1,h1',h2,h3,h4,hh,h5⟩
 ·subst e;simp at hi
 ·have hm:i*es+es <= (L.length+R.length)*es:=by
   have:(i+1)*es <= (L.length+R.length)*es:=Nat.mul_le_mul_right _ (by omega);rw[Nat.add_mul]at this;omega
  subst h1;simp only[elp,A.zl2,h2,h3];rw[if_pos (by omega)];congr 2;apply ext_getElem?;intro k;by_cases hk:k<n
  ·rw[getElem?_take_of_lt hk,getElem?_take_of_lt hk,getElem?_drop,getElem?_drop]
   have h6:=flat_get hs.len i (f+k) c (by rw[getElem?_append_left hi];exact hc) (by omega);rw[<-h5,getElem?_take_of_lt (by omega),getElem?_drop]at h6;rw[<-h6];congr 1;omega
  ·rw[getElem?_take_eq_none (by omega),getElem?_take_eq_none (by omega)]
theorem SlX.elem(hs:SlX h es x L R){i:Nat}{c:List za}(hc:L[i]?=some c):A.zl2 h (elp es x i 0) es=some (.agg c):=by
 rw[hs.zl2 hc (by omega)];have:=hs.len c (mem_append_left _ (mem_of_getElem? hc));simp[<-this]
theorem SlX.rdv(hs:SlX h es x L R):A.rdv h x L.length es=some L.flatten:=by
 have hs:=hs.cut;rcases hs.at_ with⟨e,_,e'|e'⟩|⟨id,g,off,cp,b,hi,h1,h1',h2,h3,h4,hh,h5⟩
 ·subst e e';rfl
 ·subst e e';rfl
 ·subst h1
  simp only[length_nil,Nat.add_zero,append_nil]at h4 h5;simp only[A.rdv,h2,h3];rw[if_pos ⟨Nat.le_refl _,h4⟩,h5]
theorem endsC_eq{n cp lo hi:Nat}{a b:Option za}(ha:a=none /\ lo=0 \/ ∃k,a=some (.int k lo))(hb:b=none /\ hi=n \/ ∃k,b=some (.int k hi)):
  V.endsC n cp a b=if lo <= hi /\ hi <= max n cp then some (lo,hi) else none:=by
 rcases ha with⟨rfl,rfl⟩|⟨k,rfl⟩<;>rcases hb with⟨rfl,rfl⟩|⟨k',rfl⟩<;>simp[V.endsC,V.asNat]
theorem SlX.slice(hs:SlX h es x L R)(hes:0<es){lo hi:Nat}{a b:Option za}(ha:a=none /\ lo=0 \/ ∃k,a=some (.int k lo))(hb:b=none /\ hi=L.length \/ ∃k,b=some (.int k hi))(h1:lo <= hi)(h2:hi <= L.length+R.length):
  ∃x',V.zh6 es x a b=some x' /\ SlX h es x' (((L++R).take hi).drop lo) ((L++R).drop hi) /\ zht x'=zht x:=by
 rcases hs.at_ with⟨e,e',e''⟩|⟨id,g,off,cp,bk,hh,k1,k1',k2,k3,k4,k5,k6⟩
 ·subst e e'
  simp only[length_nil,Nat.add_zero,Nat.le_zero_eq]at h2;subst h2;have:lo=0:=by omega
  subst this;refine⟨x,?_,⟨by simp,.inl ⟨by simp,by simp,e''⟩⟩,rfl⟩;rcases e'' with rfl|rfl<;>simp only[V.zh6,V.ends,endsC_eq (n:=0) ha hb]<;>rfl
 ·subst k1
  have hlt:(L++R).length=L.length+R.length:=by simp
  refine⟨.sl id g (off+lo*es) (hi-lo) es (max L.length cp-lo),?_,⟨λp hp=>hs.len p ?_,.inr ⟨id,g,off+lo*es,max L.length cp-lo,bk,hh,?_,?_,k2,k3,?_,k5,?_⟩⟩,rfl⟩
  ·simp only[V.zh6,endsC_eq ha hb]
   rw[if_pos ⟨h1,by omega⟩];simp
  ·rcases mem_append.1 hp with hp|hp
   ·exact mem_of_mem_take (mem_of_mem_drop hp)
   ·exact mem_of_mem_drop hp
  ·simp only[length_drop,length_take,hlt,Nat.min_eq_left h2]
  ·simp only[length_drop,length_take,hlt,Nat.min_eq_left h2];omega
  ·simp only[length_drop,length_take,hlt,Nat.min_eq_left h2]
   have:lo*es+(hi-lo+(L.length+R.length-hi))*es=(L.length+R.length)*es:=by rw[<-Nat.add_mul];congr 1;omega
   omega
  ·simp only[length_drop,length_take,hlt,Nat.min_eq_left h2]
   have e1:((L++R).take hi).drop lo++(L++R).drop hi=(L++R).drop lo:=by
    have hg:∀M:List (List za),lo <= (M.take hi).length->(M.take hi).drop lo++M.drop hi=M.drop lo:=λM hM=>by
     rw[<-drop_append_of_le_length hM,take_append_drop]
    exact hg _ (by rw[length_take,hlt];omega)
   rw[e1];have e2:((L++R).drop lo).flatten=(L++R).flatten.drop (lo*es):=by
    have hd:∀(M:List (List za))(n:Nat),(∀p∈M,p.length=es)->(M.drop n).flatten=M.flatten.drop (n*es):=by
     intro M
     induction M with
     | nil=>intro n _;simp
     | cons c M ih=>
      intro n hM;cases n with
      | zero=>simp
      | succ n=>
       have hc:c.length=es:=hM c (by simp);rw[drop_succ_cons,ih n (λp hp=>hM p (by simp[hp])),flatten_cons,Nat.add_mul,Nat.one_mul];rw[show n*es+es=c.length+n*es by omega,drop_length_add_append]
    exact hd _ _ hs.len
   rw[e2,<-k6,drop_take,drop_drop];congr 1;rw[<-Nat.sub_mul];congr 1;omega
def But(x:za)(h h':zb):Prop:=∀j b,h j=some b->zht x≠some j->h' j=some b
theorem But.of_le(x:za)(hle:h.le H):But x h H:=λj b e _=>hle j b e
theorem zi5(g n:Nat)(l:List (Nat×Nat)):List.lookup g ((g,n)::l)=some n:=by simp[List.lookup]
theorem SlX.app{bytes:Nat}{M:List (List za)}{K:zQ}(ho:SlX h es x L R)(hown:∀id b,zht x=some id->h id=some b->b.own=true)(hes:0<es)(hM:∀p∈M,p.length=es)(hb:(L.length+M.length)*bytes <= 140737488355328)(hm:L.length+M.length <= maxLen)
  (hk:∀x' h',SlIs h' es x' (L++M)->(∀id b,zht x'=some id->h' id=some b->b.own=true)->But x h h'->(zht x'=zht x \/ ∀id,zht x'=some id->h id=none)->K x' h'):A.app h es bytes x (some M.flatten) K:=by
 have hl:=zn1 hM;have hd:M.flatten.length / es=M.length:=by rw[hl,Nat.mul_div_cancel _ hes]
 have hall:∀p∈(L++M)++[],p.length=es:=λp hp=>by
  rw[append_nil]at hp;rcases mem_append.1 hp with hp|hp
  ·exact ho.len p (mem_append_left _ hp)
  ·exact hM p hp
 have fresh:L=[]->(M≠[]->(M.flatten.length / es)*bytes <= 140737488355328 /\ M.flatten.length / es <= maxLen /\ A.new h M.flatten λid h=>K (.sl id 0 0 (M.flatten.length / es) es (M.flatten.length / es)) h):=λe hne=>by
  subst e;rw[hd];simp only[length_nil,Nat.zero_add]at hb hm;refine⟨hb,hm,λid hid=>?_⟩;refine hk _ _ ⟨hall,.inr ⟨id,0,0,_,zdo M.flatten,M.flatten.length,by simp only[nil_append];exact rfl,by simp,zbv ..,zi5 ..,by simp[hl],Nat.le_refl _,?_⟩⟩ (λj b hj hb'=>?_) (But.of_le _ (zf5 _ hid)) (.inr λj hj=>?_)
  ·simp only[nil_append,append_nil,length_nil,Nat.add_zero,<-hl,zdo,drop_zero,take_length]
  ·cases hj
   rw[zbv]at hb';cases hb';rfl
  ·cases hj;exact hid
 have hnil:M=[] \/ M.flatten.length≠0:=by
  cases M with
  | nil=>exact .inl rfl
  | cons a r=>
   refine .inr ?_;rw[hl,length_cons,Nat.add_mul];omega
 have h0:=ho.cut;rcases h0.at_ with⟨e,_,e'|e'⟩|⟨id,g,off,cp,b,hi,h1,h1',h2,h3,h4,hh,h5⟩
 ·subst e'
  simp only[A.app];split
  ·rename_i hz
   rcases hnil with hn|hn
   ·subst hn;exact hk _ _ (by simpa using h0) (λ_ _ hj=>by cases hj) (But.of_le _ (zb.le_refl h)) (.inl rfl)
   ·exact absurd hz hn
  ·rename_i hz
   exact fresh e λhn=>hz (by rw[hn];rfl)
 ·subst e'
  simp only[A.app];split
  ·rename_i hz
   rcases hnil with hn|hn
   ·subst hn;exact hk _ _ (by simpa using h0) (λ_ _ hj=>by cases hj) (But.of_le _ (zb.le_refl h)) (.inl rfl)
   ·exact absurd hz hn
  ·rename_i hz
   exact fresh e λhn=>hz (by rw[hn];rfl)
 ·have hown':=hown id b (by rw[h1];rfl) h2
  subst h1;simp only[length_nil,Nat.add_zero,append_nil]at h4 h5;simp only[A.app,h2,h3,hd,hown',cond_true];have hcl:off+L.length*es <= b.cells.length:=by omega
  have htl:(b.cells.take (off+L.length*es)).length=off+L.length*es:=by simp;omega
  refine⟨trivial,trivial,h4,hb,hm,hk _ _ ⟨hall,.inr ⟨id,b.next,off,_,_,off+L.length*es+M.flatten.length,by rw[length_append],by simp,zbv ..,zi5 ..,?_,?_,?_⟩⟩ (λj b1 hj hb1=>?_) (λj b1 e1 e2=>?_) (.inl rfl)⟩
  ·rw[length_append,length_nil,Nat.add_zero,Nat.add_mul,hl];omega
  ·simp only[zhr,length_append,htl];omega
  ·simp only[zhr,append_nil,length_nil,Nat.add_zero]
   rw[drop_append_of_le_length (by omega),length_append,Nat.add_mul,<-hl,flatten_append,<-h5];have e1:(b.cells.take (off+L.length*es)).drop off=(b.cells.drop off).take (L.length*es):=by
    rw[drop_take];congr 1;omega
   have e2:((b.cells.drop off).take (L.length*es)).length=L.length*es:=by simp;omega
   rw[e1,take_of_length_le];rw[length_append,e2];omega
  ·cases hj
   rw[zbv]at hb1;cases hb1;exact hown'
  ·rw[zt]
   ·exact e1
   ·intro e;subst e;exact e2 rfl
theorem SlX.ziz{bytes:Nat}{y:za}{M R':List (List za)}{K:zQ}(ho:SlX h es x L R)(hown:∀id b,zht x=some id->h id=some b->b.own=true)(hs:SlX h es y M R')(hes:0<es)(hb:(L.length+M.length)*bytes <= 140737488355328)(hm:L.length+M.length <= maxLen)
  (hk:∀x' h',SlIs h' es x' (L++M)->(∀id b,zht x'=some id->h' id=some b->b.own=true)->But x h h'->(zht x'=zht x \/ ∀id,zht x'=some id->h id=none)->K x' h'):A.ziz h es bytes x y K:=by
 unfold A.ziz;rw[hs.zgl];simp only;rw[hs.rdv];exact ho.app hown hes (λp hp=>hs.len p (mem_append_left _ hp)) hb hm hk
theorem zq6{α:Type}{n:Nat}:∀{L:List (List α)},(∀c∈L,c.length=n)->∀(i f:Nat)(c xs:List α),L[i]?=some c->f+xs.length <= n ->
  (L.set i (c.take f++xs++c.drop (f+xs.length))).flatten=L.flatten.take (i*n+f)++xs++L.flatten.drop (i*n+f+xs.length)
 | [],_,_,_,_,_,h,_=>by simp at h
 | c0::L,hl,0,f,c,xs,h,hf=>by
  simp only[getElem?_cons_zero,Option.some.injEq]at h
  subst h
  have:=hl c0 (by simp)
  rw[set_cons_zero,flatten_cons,flatten_cons,Nat.zero_mul,Nat.zero_add,take_append_of_le_length (by omega),drop_append_of_le_length (by omega),append_assoc]
 | c0::L,hl,i+1,f,c,xs,h,hf=>by
  simp only[getElem?_cons_succ]at h
  have h0:=hl c0 (by simp)
  rw[set_cons_succ,flatten_cons,flatten_cons,zq6 (λc hc=>hl c (by simp[hc])) i f c xs h hf]
  have e1:(i+1)*n+f=c0.length+(i*n+f):=by rw[h0,Nat.add_mul];omega
  have e2:(i+1)*n+f+xs.length=c0.length+(i*n+f+xs.length):=by rw[h0,Nat.add_mul];omega
  rw[e1,take_length_add_append,show c0.length+(i*n+f)+xs.length=c0.length+(i*n+f+xs.length) by omega,drop_length_add_append]
  simp[append_assoc]
theorem zsb{α:Type}(A xs B:List α){p:Nat}(hA:A.length=p)(k:Nat):(A++(xs++B))[k]?=if k<p then A[k]? else if k-p<xs.length then xs[k-p]? else B[k-p-xs.length]? :=by
 subst hA;split
 ·rw[getElem?_append_left (by omega)]
 ·rw[getElem?_append_right (by omega)]
  split
  ·rw[getElem?_append_left (by omega)]
  ·rw[getElem?_append_right (by omega)]
theorem zrz{α:Type}(l:List α)(p:Nat)(v:α)(hp:p<l.length):l.set p v=l.take p++[v]++l.drop (p+1):=by
 rw[set_eq_take_append_cons_drop,if_pos hp];simp
theorem splice_read{i f n off hi:Nat}{cells c xs:List za}{T:List (List za)}(hT:∀p∈T,p.length=es)(h4:off+T.length*es <= hi)(hh:hi <= cells.length)
  (h5:(cells.drop off).take (T.length*es)=T.flatten) (hc:T[i]?=some c) (hn:xs.length=n) (hf:f+n <= es):
  ((cells.take (off+i*es+f)++xs++cells.drop (off+i*es+f+n)).drop off).take (T.length*es)=(T.set i (c.take f++xs++c.drop (f+n))).flatten /\ (cells.take (off+i*es+f)++xs++cells.drop (off+i*es+f+n)).length=cells.length:=by
 subst hn;have hlt:i<T.length:=(List.getElem?_eq_some_iff.1 hc).1;have hm:i*es+es <= T.length*es:=by
  have:(i+1)*es <= T.length*es:=Nat.mul_le_mul_right _ hlt;rw[Nat.add_mul]at this;omega
 refine⟨?_,by simp;omega⟩;rw[zq6 hT i f c xs hc hf,<-h5];apply ext_getElem?;intro k;have hfl:((cells.drop off).take (T.length*es)).length=T.length*es:=by simp;omega
 by_cases hk:k<T.length*es
 ·rw[getElem?_take_of_lt hk,getElem?_drop,append_assoc,append_assoc]
  have l1:(cells.take (off+i*es+f)).length=off+i*es+f:=by simp;omega
  have l2:(((cells.drop off).take (T.length*es)).take (i*es+f)).length=i*es+f:=by simp;omega
  rw[zsb _ _ _ l1,zsb _ _ _ l2,show off+k-(off+i*es+f)=k-(i*es+f) by omega];by_cases k1:k<i*es+f
  ·rw[if_pos (by omega),if_pos k1,getElem?_take_of_lt (by omega),getElem?_take_of_lt (by omega),getElem?_take_of_lt (by omega),getElem?_drop]
  ·rw[if_neg (by omega),if_neg k1]
   split
   ·rfl
   ·rw[getElem?_drop,getElem?_drop,getElem?_take_of_lt (by omega),getElem?_drop]
    congr 1;omega
 ·rw[getElem?_take_eq_none (by omega),getElem?_eq_none]
  simp;omega
theorem SlX.stn'{i f n:Nat}{c xs:List za}{K:zb->Prop}(ho:SlX h es x L R)(hown:∀id b,zht x=some id->h id=some b->b.own=true)(hc:L[i]?=some c)(hn:xs.length=n)(hf:f+n <= es)(fn:List za->Option (List za))
  (hfn:∀(cells:List za)(p:Nat),A.zo0 (elp es x i f)=p->p+n <= cells.length->fn cells=some (cells.take p++xs++cells.drop (p+n)))
  (hk:∀h',SlX h' es x (L.set i (c.take f++xs++c.drop (f+n))) R->(∀id b,zht x=some id->h' id=some b->b.own=true)->But x h h'->K h'):A.ph (A.stv h (elp es x i f) fn n 0) K:=by
 have hi0:i<L.length:=(List.getElem?_eq_some_iff.1 hc).1;rcases ho.at_ with⟨e,_⟩|⟨id,g,off,cp,b,hi,h1,h1',h2,h3,h4,hh,h5⟩
 ·subst e;simp at hc
 ·have hm:i*es+es <= (L.length+R.length)*es:=by
   have:(i+1)*es <= (L.length+R.length)*es:=Nat.mul_le_mul_right _ (by omega);rw[Nat.add_mul]at this;omega
  have hown':=hown id b (by rw[h1];rfl) h2;have hcT:(L++R)[i]?=some c:=by rw[getElem?_append_left hi0];exact hc
  have hlen:(L++R).length=L.length+R.length:=by simp
  obtain⟨r1,r2⟩:=splice_read (off:=off) (hi:=hi) (cells:=b.cells) ho.len (by rw[hlen];exact h4) hh (by rw[hlen];exact h5) hcT hn hf;have hset:(L++R).set i (c.take f++xs++c.drop (f+n))=L.set i (c.take f++xs++c.drop (f+n))++R:=by rw[set_append_left _ _ hi0]
  rw[hset,hlen]at r1;have hcl:=ho.len c (mem_append_left _ (mem_of_getElem? hc));have hbl:Nat.ble (0+(off+i*es+f)+n) hi=true:=by rw[Nat.ble_eq];omega
  have hp:=hfn b.cells (off+i*es+f) (by rw[h1];rfl) (by omega);have hlen':∀p∈L.set i (c.take f++xs++c.drop (f+n))++R,p.length=es:=λp hp=>by
   rcases mem_append.1 hp with hp|hp
   ·rcases mem_or_eq_of_mem_set hp with hp|hp
    ·exact ho.len p (mem_append_left _ hp)
    ·subst hp;simp;omega
   ·exact ho.len p (mem_append_right _ hp)
  subst h1;simp only[elp,A.stv,h2,h3,hown',hbl,Bool.true_and,cond_true,hp,A.ph];refine hk _ ⟨hlen',.inr ⟨id,g,off,cp,_,hi,by rw[length_set],by rw[length_set];exact h1',zbv ..,zi5 ..,by rw[length_set];exact h4,by simp only;rw[r2];exact hh,by simp only;rw[length_set];exact r1⟩⟩ (λj b1 hj hb1=>?_) (λj b1 e1 e2=>?_)
  ·cases hj
   rw[zbv]at hb1;cases hb1;rfl
  ·rw[zt]
   ·exact e1
   ·intro e;subst e;exact e2 rfl
theorem SlX.st{i f:Nat}{c:List za}{v:za}{K:zb->Prop}(ho:SlX h es x L R)(hown:∀id b,zht x=some id->h id=some b->b.own=true)(hc:L[i]?=some c)(hf:f<es)(hv:v.zec=true)
  (hk:∀h',SlX h' es x (L.set i (c.set f v)) R->(∀id b,zht x=some id->h' id=some b->b.own=true)->But x h h'->K h'):A.st h (elp es x i f) v K:=by
 have hcl:=ho.len c (mem_append_left _ (mem_of_getElem? hc));refine ho.stn' hown hc (xs:=[v]) (n:=1) rfl hf _ (λcells p hp hle=>?_) ?_
 ·rw[<-hp]at hle ⊢
  simp only[V.put1,hv,cond_true];rw[if_pos (by omega),zrz _ _ _ (by omega)]
 ·rw[<-zrz c f v (by omega)];exact hk
end
inductive Ob where
 | sl (es:Nat) (x:za) (L R:List (List za))
 | box (p:za) (cs:List za)
 | blk (id:Nat) (b:Blk)
def Ob.zht:Ob->Option Nat | .sl _ x _ _=>Ab.zht x | .box p _=>Ab.zht p | .blk id _=>some id
def Ob.at(h:zb):Ob->Prop
 | .sl es x L R=>SlX h es x L R
 | .box p cs=>∃id,p= .ptr id 0 0 /\ h id=some (zdo cs)
 | .blk id b=>h id=some b
theorem Ob.at.zjx{h H:zb}{o:Ob}(hs:o.at h)(hk:∀id b,o.zht=some id->h id=some b->H id=some b):o.at H:=by
 cases o with
 | sl es x L R=>exact SlX.zjx hs hk
 | box p cs=>obtain⟨id,rfl,e⟩:=hs;exact⟨id,rfl,hk id _ rfl e⟩
 | blk id b=>exact hk id b rfl hs
theorem Ob.at.known{h:zb}{o:Ob}(hs:o.at h){id:Nat}(hf:o.zht=some id):∃b,h id=some b:=by
 cases o with
 | sl es x L R=>exact SlX.known hs hf
 | box p cs=>obtain⟨id',rfl,e⟩:=hs;cases hf;exact⟨_,e⟩
 | blk id b=>cases hf;exact⟨_,hs⟩
structure zc5(h0 h:zb)(l:List Ob):Prop where
 le:h0.le h
 is:∀o∈l,o.at h
 own:∀o∈l,∀id,o.zht=some id->h0 id=none /\ ∀b,h id=some b->b.own=true
 apart:l.Pairwise λa b=>∀id,a.zht=some id->b.zht≠some id
section
variable{h0 h h' H:zb}{l l':List Ob}
theorem zc5.nil(hle:h0.le h):zc5 h0 h []:=⟨hle,λ_ h=>(by cases h),λ_ h=>(by cases h),.nil⟩
theorem zc5.start(h:zb):zc5 h h []:=zc5.nil (zb.le_refl h)
theorem zc5.sub(ho:zc5 h0 h l)(hs:l'.Sublist l):zc5 h0 h l':=⟨ho.le,λo hm=>ho.is o (hs.subset hm),λo hm=>ho.own o (hs.subset hm),ho.apart.sublist hs⟩
theorem zc5.grow(ho:zc5 h0 h l)(hle:h.le H):zc5 h0 H l:=
 ⟨zb.le_trans ho.le hle,λo hm=>(ho.is o hm).zjx λ_ _ _ e=>hle _ _ e,λo hm id hf=>by
  obtain⟨a,b⟩:=ho.own o hm id hf
  obtain⟨b',hb'⟩:=(ho.is o hm).known hf
  exact⟨a,λc hc=>(by rw[hle _ _ hb']at hc;cases hc;exact b _ hb')⟩,ho.apart⟩
theorem zc5.back(ho:zc5 h0 h l)(hle:H.le h0):zc5 H h l:=
 ⟨zb.le_trans hle ho.le,ho.is,λo hm id hf=>⟨(by
  cases e:H id with
  | none=>rfl
  | some b=>have:=hle _ _ e;rw[(ho.own o hm id hf).1]at this;cases this),(ho.own o hm id hf).2⟩,ho.apart⟩
theorem zc5.join(ho:zc5 h0 h l)(hn:zc5 h h' l'):zc5 h0 h' (l++l'):=by
 have g:=ho.grow hn.le;have b:=hn.back ho.le;refine⟨g.le,λo hm=>?_,λo hm=>?_,pairwise_append.2 ⟨g.apart,hn.apart,λx hx y hy id hf hf'=>?_⟩⟩
 ·rcases mem_append.1 hm with hm|hm
  ·exact g.is o hm
  ·exact b.is o hm
 ·rcases mem_append.1 hm with hm|hm
  ·exact g.own o hm
  ·exact b.own o hm
 ·obtain⟨c,hc⟩:=(ho.is x hx).known hf
  have:=(hn.own y hy id hf').1;rw[hc]at this;cases this
theorem zc5.znq(ho:zc5 h0 h l){id:Nat}(hid:h id=none)(cs:List za):zc5 h0 (upd h id (zdo cs)) (l++[.box (.ptr id 0 0) cs]):=
 ho.join ⟨zf5 _ hid,λo hm=>by rw[mem_singleton.1 hm];exact⟨id,rfl,zbv ..⟩,λo hm j hj=>by rw[mem_singleton.1 hm]at hj;cases hj;exact⟨hid,λb hb=>by rw[zbv]at hb;cases hb;rfl⟩,pairwise_singleton _ _⟩
theorem SlX.lit{h:zb}{es:Nat}{id n cp:Nat}{cs:List za}{L R:List (List za)}(hb:h id=some (zdo cs))(hL:∀p∈L++R,p.length=es)(hn:n=L.length)(hcp:L.length+R.length <= cp)(hc:cs=(L++R).flatten):SlX h es (.sl id 0 0 n es cp) L R:=by
 subst hn hc;have:=zn1 hL;rw[length_append]at this;exact⟨hL,.inr ⟨id,0,0,cp,_,_,rfl,by omega,hb,zi5 ..,by rw[this];omega,Nat.le_refl _,by rw[<-this];simp only[zdo,drop_zero,take_length]⟩⟩
theorem zc5.newSl(ho:zc5 h0 h l){id n cp es:Nat}{cs:List za}{L R:List (List za)}(hid:h id=none)(hL:∀p∈L++R,p.length=es)(hn:n=L.length)(hcp:L.length+R.length <= cp)(hc:cs=(L++R).flatten):zc5 h0 (upd h id (zdo cs)) (l++[.sl es (.sl id 0 0 n es cp) L R]):=
 ho.join ⟨zf5 _ hid,λo hm=>by rw[mem_singleton.1 hm];exact SlX.lit (zbv ..) hL hn hcp hc,λo hm j hj=>by rw[mem_singleton.1 hm]at hj;cases hj;exact⟨hid,λb hb=>by rw[zbv]at hb;cases hb;rfl⟩,pairwise_singleton _ _⟩
theorem zc5.zeg(ho:zc5 h0 h l)(es:Nat):zc5 h0 h (l++[.sl es .zeg [] []]):=
 ho.join ⟨zb.le_refl h,λo hm=>by rw[mem_singleton.1 hm];exact SlX.zeg h es,λo hm j hj=>(by rw[mem_singleton.1 hm]at hj;cases hj),pairwise_singleton _ _⟩
theorem zc5.sz(ho:zc5 h0 h l)(es:Nat):zc5 h0 h (l++[.sl es .sz [] []]):=
 ho.join ⟨zb.le_refl h,λo hm=>by rw[mem_singleton.1 hm];exact SlX.sz h es,λo hm j hj=>(by rw[mem_singleton.1 hm]at hj;cases hj),pairwise_singleton _ _⟩
theorem zc5.at(ho:zc5 h0 h l)(k:Nat){o:Ob}(hk:l[k]?=some o):o.at h:=ho.is o (mem_of_getElem? hk)
theorem zc5.zkj(ho:zc5 h0 h l)(k:Nat){es:Nat}{x:za}{L R:List (List za)}(hk:l[k]?=some (.sl es x L R)):SlX h es x L R:=ho.at k hk
theorem zc5.zrs(ho:zc5 h0 h l)(k:Nat){p:za}{cs:List za}(hk:l[k]?=some (.box p cs)):∃id,p= .ptr id 0 0 /\ h id=some (zdo cs):=ho.at k hk
theorem zc5.off(ho:zc5 h0 h l){es:Nat}{x:za}{L R:List (List za)}(hs:SlX h0 es x L R){o:Ob}(hm:o∈l):∀id,Ab.zht x=some id->o.zht≠some id:=λid hf hf'=>by
 obtain⟨b,hb⟩:=hs.known hf
 rw[(ho.own o hm id hf').1]at hb;cases hb
theorem zc5.zha(ho:zc5 h0 h l)(k:Nat){o o':Ob}(hk:l[k]?=some o)(hat:o'.at h')(hown:∀id b,o'.zht=some id->h' id=some b->b.own=true)
  (hbut:∀j b,h j=some b->o.zht≠some j->h' j=some b) (hf:o'.zht=o.zht \/ ∀id,o'.zht=some id->h id=none):zc5 h0 h' (l.set k o'):=by
 have hm:o∈l:=mem_of_getElem? hk;have hlt:k<l.length:=(List.getElem?_eq_some_iff.1 hk).1;have hne:∀i a,l[i]?=some a->i≠k->∀id,a.zht=some id->o.zht≠some id:=λi a hi hik id ha hb=>by
  rcases Nat.lt_or_gt_of_ne hik with hlt|hgt
  ·have:=pairwise_iff_getElem.1 ho.apart i k (List.getElem?_eq_some_iff.1 hi).1 (List.getElem?_eq_some_iff.1 hk).1 hlt
   rw[(List.getElem?_eq_some_iff.1 hi).2,(List.getElem?_eq_some_iff.1 hk).2]at this;exact this id ha hb
  ·have:=pairwise_iff_getElem.1 ho.apart k i (List.getElem?_eq_some_iff.1 hk).1 (List.getElem?_eq_some_iff.1 hi).1 hgt
   rw[(List.getElem?_eq_some_iff.1 hi).2,(List.getElem?_eq_some_iff.1 hk).2]at this;exact this id hb ha
 have hset:∀a∈l.set k o',a=o' \/ ∃i,i≠k /\ l[i]?=some a:=λa ha=>by
  obtain⟨i,hi⟩:=getElem?_of_mem ha;by_cases e:i=k
  ·subst e;rw[getElem?_set_self hlt]at hi;cases hi;exact .inl rfl
  ·rw[getElem?_set_ne (Ne.symm e)]at hi;exact .inr ⟨i,e,hi⟩
 have hle:h0.le h':=λj b e=>hbut j b (ho.le j b e) λhj=>by rw[(ho.own o hm j hj).1]at e;cases e
 have h0n:∀id,o'.zht=some id->h0 id=none:=λid hid=>by
  rcases hf with hf|hf
  ·rw[hf]at hid;exact(ho.own o hm id hid).1
  ·cases e:h0 id with
   | none=>rfl
   | some b=>have:=ho.le _ _ e;rw[hf id hid]at this;cases this
 refine⟨hle,λa ha=>?_,λa ha id hid=>?_,?_⟩
 ·rcases hset a ha with rfl|⟨i,hi,hl⟩
  ·exact hat
  ·exact(ho.is a (mem_of_getElem? hl)).zjx λid b hf' hb=>hbut id b hb (hne i a hl hi id hf')
 ·rcases hset a ha with rfl|⟨i,hi,hl⟩
  ·exact⟨h0n id hid,λb hb=>hown id b hid hb⟩
  ·have hma:=mem_of_getElem? hl
   obtain⟨b',hb'⟩:=(ho.is a hma).known hid;refine⟨(ho.own a hma id hid).1,λb hb=>?_⟩;rw[hbut id b' hb' (hne i a hl hi id hid)]at hb;cases hb;exact(ho.own a hma id hid).2 _ hb'
 ·have sym:∀i a,l[i]?=some a->i≠k->∀id,a.zht=some id->o'.zht≠some id:=λi a hl hi id ha hb=>by
   rcases hf with hf|hf
   ·rw[hf]at hb;exact hne i a hl hi id ha hb
   ·obtain⟨b',hb'⟩:=(ho.is a (mem_of_getElem? hl)).known ha
    rw[hf id hb]at hb';cases hb'
  rw[pairwise_iff_getElem];intro i j hi hj hij id ha hb;have li:(l.set k o')[i]?=some (l.set k o')[i]:=getElem?_eq_getElem hi;have lj:(l.set k o')[j]?=some (l.set k o')[j]:=getElem?_eq_getElem hj;by_cases e1:i=k
  ·have e2:j≠k:=by omega
   rw[getElem?_set_ne (Ne.symm e2)]at lj;subst e1;rw[getElem?_set_self hlt]at li;rw[<-Option.some.inj li]at ha;exact sym j _ lj e2 id hb ha
  ·rw[getElem?_set_ne (Ne.symm e1)]at li
   by_cases e2:j=k
   ·subst e2
    rw[getElem?_set_self hlt]at lj;rw[<-Option.some.inj lj]at hb;exact sym i _ li e1 id ha hb
   ·rw[getElem?_set_ne (Ne.symm e2)]at lj
    have:=pairwise_iff_getElem.1 ho.apart i j (List.getElem?_eq_some_iff.1 li).1 (List.getElem?_eq_some_iff.1 lj).1 hij;rw[(List.getElem?_eq_some_iff.1 li).2,(List.getElem?_eq_some_iff.1 lj).2]at this;exact this id ha hb
theorem zc5.ownAt(ho:zc5 h0 h l)(k:Nat){o:Ob}(hk:l[k]?=some o):∀id b,o.zht=some id->h id=some b->b.own=true:=λid b hf hb=>(ho.own o (mem_of_getElem? hk) id hf).2 b hb
theorem zc5.ziz(ho:zc5 h0 h l)(k:Nat){es bytes:Nat}{x y:za}{L R M R':List (List za)}{K:zQ}(hk:l[k]?=some (.sl es x L R))(hs:SlX h es y M R')(hes:0<es)(hb:(L.length+M.length)*bytes <= 140737488355328)(hm:L.length+M.length <= maxLen)(hK:∀x' h',zc5 h0 h' (l.set k (.sl es x' (L++M) []))->But x h h'->K x' h'):A.ziz h es bytes x y K:=(ho.zkj k hk).ziz (ho.ownAt k hk) hs hes hb hm λx' h' h1 h2 h3 h4=>hK x' h' (ho.zha k hk h1 h2 h3 h4) h3
theorem zc5.st(ho:zc5 h0 h l)(k:Nat){es i f:Nat}{x v:za}{L R:List (List za)}{c:List za}{K:zb->Prop}(hk:l[k]?=some (.sl es x L R))(hc:L[i]?=some c)(hf:f<es)(hv:v.zec=true)(hK:∀h',zc5 h0 h' (l.set k (.sl es x (L.set i (c.set f v)) R))->But x h h'->K h'):A.st h (elp es x i f) v K:=(ho.zkj k hk).st (ho.ownAt k hk) hc hf hv λh' h1 h2 h3=>hK h' (ho.zha k hk h1 h2 h3 (.inl rfl)) h3
end
theorem zc5.push{h0 h:zb}{l:List Ob}(ho:zc5 h0 h l)(k:Nat){es bytes:Nat}{x:za}{L R:List (List za)}{cs:List za}{K:zQ}(hk:l[k]?=some (.sl es x L R))(hcs:cs.length=es)(hes:0<es)(hb:(L.length+1)*bytes <= 140737488355328)(hm:L.length+1 <= maxLen)(hK:∀x' h',zc5 h0 h' (l.set k (.sl es x' (L++[cs]) []))->But x h h'->K x' h'):A.zgn h (some cs) λi h=>A.ziz h es bytes x (.sl i 0 0 1 es 1) K:=λi hi=>(ho.grow (zf5 _ hi)).ziz k hk (M:=[cs]) (R':=[]) (SlX.lit (zbv ..) (by simpa using hcs) rfl (by simp) (by simp)) hes hb hm λx' h' h1 h2=>hK x' h' h1 λj b e1 e2=>h2 j b (zf5 _ hi j b e1) e2
section
theorem zro{α:Type}(l:List α)(i:Nat):(if i<l.length then l[i]? else none)=l[i]? :=by
 split
 ·rfl
 ·rw[getElem?_eq_none (by omega)]
theorem ldv_at{h:zb}{id:Nat}{cs:List za}(hb:h id=some (zdo cs))(off:Nat):A.ldv h (.ptr id 0 off)=cs[off]? :=by
 simp only[A.ldv,hb,zdo,List.lookup,beq_self_eq_true,zro]
theorem st_at{h:zb}{id:Nat}{cs:List za}(hb:h id=some (zdo cs)){off:Nat}{v:za}(hv:v.zec=true)(ho:off<cs.length){K:zb->Prop}:A.st h (.ptr id 0 off) v K=K (upd h id (zdo (cs.set off v))):=by
 have h1:Nat.ble (0+off+1) cs.length=true:=by rw[Nat.ble_eq];omega
 simp only[A.st,A.stv,hb,zdo,List.lookup,beq_self_eq_true,A.zo0,V.put1,hv,ho,if_true,A.ph,h1,Bool.true_and,cond_true,length_set]
variable{h0 h:zb}{l:List Ob}
theorem zc5.boxSt(ho:zc5 h0 h l)(k:Nat){id off:Nat}{cs:List za}{v:za}{K:zb->Prop}(hk:l[k]?=some (.box (.ptr id 0 0) cs))(hv:v.zec=true)(hoff:off<cs.length)
  (hK:∀h',zc5 h0 h' (l.set k (.box (.ptr id 0 0) (cs.set off v)))->But (.ptr id 0 0) h h'->K h'):A.st h (.ptr id 0 off) v K:=by
 obtain⟨id',e,hb⟩:=ho.zrs k hk;cases e;rw[st_at hb hv hoff];have hbut:But (.ptr id 0 0) h (upd h id (zdo (cs.set off v))):=λj b e1 e2=>by rw[zt];exact e1;intro e;subst e;exact e2 rfl
 exact hK _ (ho.zha k hk ⟨id,rfl,zbv ..⟩ (λj b hj hb'=>by cases hj;rw[zbv]at hb';cases hb';rfl) hbut (.inl rfl)) hbut
end
def zrq(n:Nat)(g:Nat->List za):List (List za):=(List.range n).map g
@[simp] theorem fills_len(n:Nat)(g:Nat->List za):(zrq n g).length=n:=by simp[zrq]
@[simp] theorem fills_zero(g:Nat->List za):zrq 0 g=[]:=rfl
theorem zl4(n:Nat)(z:List za):(zrq n λ_=>z).flatten=(List.replicate n z).flatten:=by
 unfold zrq;rw[map_const',length_range]
theorem repL_fills(n:Nat)(z:List za):zh2 n z=(zrq n λ_=>z).flatten:=by
 rw[zl4];unfold zh2;split
 ·rw[flatten_replicate_singleton]
 ·rfl
theorem fills_all{n:Nat}{g:Nat->List za}{es:Nat}(h:∀j,(g j).length=es):∀p∈zrq n g,p.length=es:=λp hp=>by
 obtain⟨j,_,rfl⟩:=mem_map.1 hp
 exact h j
theorem zc5.mks{h0 h:zb}{l:List Ob}(ho:zc5 h0 h l){bytes es:Nat}{n c:Int}{z:List za}{k j:IntKind}{K:zQ}(hz:z.length=es)(h1:0 <= n)(h2:n <= c)(hb:c*bytes <= 281474976710656)(hc:c <= 9223372036854775807)
  (hK:∀x' h',zc5 h0 h' (l++[.sl es x' (zrq n.toNat λ_=>z) (zrq (c.toNat-n.toNat) λ_=>z)])->K x' h'):A.mks h bytes (some z) (.int k n) (.int j c) K:=by
 refine⟨h1,h2,hb,hc,λid hid=>?_⟩;rw[hz];refine hK _ _ (ho.newSl hid ?_ (by simp) (by simp;omega) ?_)
 ·intro p hp
  rcases mem_append.1 hp with hp|hp
  ·exact fills_all (λ_=>hz) p hp
  ·exact fills_all (λ_=>hz) p hp
 ·rw[flatten_append,repL_fills,zl4,zl4,zl4,<-flatten_append,replicate_append_replicate]
  congr 2;omega
variable{C:z5}{N:zN}
theorem take_succ{α:Type}{L:List α}{i:Nat}{w:α}(h:L[i]?=some w):L.take (i+1)=L.take i++[w]:=by
 rw[take_add_one,h];rfl
theorem get_map{α β:Type}{f:α->β}{L:List α}{i:Nat}{w:α}(h:L[i]?=some w):(L.map f)[i]?=some (f w):=by simp[h]
theorem inc64{n:Nat}(h:n<4611686018427387904):IntKind.i64.wrap ((n:Int)+1)=((n+1:Nat):Int):=by rw[wrap_i64 (by omega) (by omega)];omega
theorem zf0{α:Type}{L:List α}{k:Nat}(h:k<L.length):∃w,L[k]?=some w:=⟨L[k],by simp[h]⟩
structure Flat(T:Type)[DecidableEq T] where
 cs:T->List za
 es:Nat
 sh:List Ck
 len:∀t,(cs t).length=es
 pos:0<es
 eq:∀a b,V.zfs sh (cs a) (cs b)=some (decide (a=b))
section
variable{T:Type}[DecidableEq T](F:Flat T)
end
end Go.Ab
