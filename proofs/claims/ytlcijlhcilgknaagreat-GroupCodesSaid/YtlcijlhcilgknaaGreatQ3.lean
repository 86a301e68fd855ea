/- What is proved: a part of the way to the statement: AcB. No conditions. -/
import Derived.Test.YtlcijlhcilgknaaGreatQ2
set_option linter.unusedVariables false
set_option linter.unusedSimpArgs false
namespace Go.Ab
def zhs:za->Option Nat | .sl id _ _ _ _ _=>some id | .ptr id _ _=>some id | .mp id=>some id|_=>none
structure SlX(h:zb)(es:Nat)(x:za)(L R:List (List za)):Prop where
 len:∀p∈L++R,p.length=es
 at_:(L=[] /\ R=[] /\ (x= .zbp \/ x= .sz)) \/ ∃id g off cp b hi,x= .sl id g off L.length es cp /\ L.length+R.length <= max L.length cp /\ h id=some b /\ b.zlx.lookup g=some hi /\
  off+(L.length+R.length)*es <= hi /\ hi <= b.cells.length /\ (b.cells.drop off).take ((L.length+R.length)*es)=(L++R).flatten
abbrev SlIs(h:zb)(es:Nat)(x:za)(L:List (List za)):Prop:=SlX h es x L []
theorem SlX.zbp(h:zb)(es:Nat):SlX h es .zbp [] []:=⟨λ_ hp=>(by cases hp),.inl ⟨rfl,rfl,.inl rfl⟩⟩
theorem SlX.sz(h:zb)(es:Nat):SlX h es .sz [] []:=⟨λ_ hp=>(by cases hp),.inl ⟨rfl,rfl,.inr rfl⟩⟩
theorem flat_get{α:Type}{n:Nat}:∀{css:List (List α)},(∀cs∈css,cs.length=n)->∀(i f:Nat)(c:List α),css[i]?=some c->f<n->css.flatten[i*n+f]?=c[f]?
 | [],_,_,_,_,h,_=>by simp at h
 | c0::css,hl,0,f,c,h,hf=>by
  simp only[List.getElem?_cons_zero,Option.some.injEq]at h
  subst h
  have:=hl c0 (by simp)
  rw[List.flatten_cons,Nat.zero_mul,Nat.zero_add,List.getElem?_append_left (by omega)]
 | c0::css,hl,i+1,f,c,h,hf=>by
  simp only[List.getElem?_cons_succ]at h
  have h0:=hl c0 (by simp)
  rw[List.flatten_cons,List.getElem?_append_right (by rw[h0,Nat.add_mul];omega),<-flat_get (λcs hcs=>hl cs (by simp[hcs])) i f c h hf]
  congr 1
  rw[h0,Nat.add_mul];omega
theorem zoa{α:Type}{n:Nat}:∀{css:List (List α)},(∀cs∈css,cs.length=n)->css.flatten.length=css.length*n
 | [],_=>by simp
 | c::css,hl=>by
  have hc:c.length=n:=hl c (by simp)
  rw[List.flatten_cons,List.length_append,zoa (λcs hcs=>hl cs (by simp[hcs])),hc,List.length_cons,Nat.add_mul]
  omega
section
variable{h H h0:zb}{es:Nat}{x:za}{L R:List (List za)}
theorem SlX.mono(hs:SlX h es x L R)(hle:h.le H):SlX H es x L R:=by
 refine⟨hs.len,?_⟩;rcases hs.at_ with e|⟨id,g,off,cp,b,hi,h1,h1',h2,h3,h4,hh,h5⟩
 ·exact .inl e
 ·exact .inr ⟨id,g,off,cp,b,hi,h1,h1',hle _ _ h2,h3,h4,hh,h5⟩
theorem SlX.zmf(hs:SlX h es x L R)(hk:∀id b,zhs x=some id->h id=some b->H id=some b):SlX H es x L R:=by
 refine⟨hs.len,?_⟩;rcases hs.at_ with e|⟨id,g,off,cp,b,hi,h1,h1',h2,h3,h4,hh,h5⟩
 ·exact .inl e
 ·exact .inr ⟨id,g,off,cp,b,hi,h1,h1',hk _ _ (by rw[h1];rfl) h2,h3,h4,hh,h5⟩
theorem SlX.upd(hs:SlX h es x L R){id:Nat}{b:Blk}(hid:zhs x≠some id):SlX (upd h id b) es x L R:=
 hs.zmf λj c hj hc=>by rw[zba];exact hc;intro e;subst e;exact hid hj
theorem SlX.known(hs:SlX h es x L R){id:Nat}(hx:zhs x=some id):∃b,h id=some b:=by
 rcases hs.at_ with⟨_,_,e|e⟩|⟨id,g,off,cp,b,hi,h1,h1',h2,_⟩
 ·subst e;cases hx
 ·subst e;cases hx
 ·subst h1;cases hx;exact⟨b,h2⟩
theorem SlX.cut(hs:SlX h es x L R):SlIs h es x L:=by
 refine⟨λp hp=>hs.len p (by simpa using .inl (by simpa using hp)),?_⟩;rcases hs.at_ with⟨e,_,e'⟩|⟨id,g,off,cp,b,hi,h1,h1',h2,h3,h4,hh,h5⟩
 ·exact .inl ⟨e,rfl,e'⟩
 ·have hl:∀p∈L,p.length=es:=λp hp=>hs.len p (List.mem_append_left _ hp)
  have hfl:=zoa hl;refine .inr ⟨id,g,off,cp,b,hi,h1,by simp;omega,h2,h3,?_,hh,?_⟩
  ·simp only[List.length_nil,Nat.add_zero];rw[Nat.add_mul]at h4;omega
  ·simp only[List.length_nil,Nat.add_zero,List.append_nil]
   have:((b.cells.drop off).take ((L.length+R.length)*es)).take (L.length*es)=L.flatten:=by
    rw[h5,List.flatten_append,List.take_append_of_le_length (by omega),List.take_of_length_le (by omega)]
   rw[<-this,List.take_take,Nat.min_eq_left];rw[Nat.add_mul];omega
theorem SlX.zbg(hs:SlX h es x L R):V.zbg x=some (.int .i64 L.length):=by
 rcases hs.at_ with⟨e,_,e'|e'⟩|⟨id,g,off,cp,b,hi,h1,_⟩
 ·subst e e';rfl
 ·subst e e';rfl
 ·subst h1;rfl
theorem SlX.zbl(hs:SlX h es x L R):x.zbl=true:=by
 rcases hs.at_ with⟨e,_,e'|e'⟩|⟨id,g,off,cp,b,hi,h1,_⟩
 ·subst e';rfl
 ·subst e';rfl
 ·subst h1;rfl
theorem SlX.zjo(hs:SlX h es x L R):A.zjo x=some L.length:=by
 rcases hs.at_ with⟨e,_,e'|e'⟩|⟨id,g,off,cp,b,hi,h1,_⟩
 ·subst e e';rfl
 ·subst e e';rfl
 ·subst h1;rfl
def elp(es:Nat)(x:za)(i f:Nat):za:=
 match x with
 | .sl id g off _ _ _=> .ptr id g (off+i*es+f)
 | _=> .undef
theorem SlX.idx(hs:SlX h es x L R){k:IntKind}{n:Int}(h0:0 <= n)(hn:n<L.length):V.zb4 es x (.int k n)=some (elp es x n.toNat 0):=by
 rcases hs.at_ with⟨e,_⟩|⟨id,g,off,cp,b,hi,h1,_⟩
 ·subst e;simp at hn;omega
 ·subst h1
  simp[V.zb4,elp,h0,hn]
theorem SlX.zjk(hs:SlX h es x L R){k:IntKind}{i:Nat}(hn:i<L.length):V.zb4 es x (.int k i)=some (elp es x i 0):=by
 have:=hs.idx (k:=k) (n:=(i:Int)) (by omega) (by omega);simpa using this
theorem SlX.zob(hs:SlX h es x L R){i:Nat}(hn:i<L.length)(f o:Nat):V.fieldAddr o (elp es x i f)=some (elp es x i (f+o)):=by
 rcases hs.at_ with⟨e,_⟩|⟨id,g,off,cp,b,hi,h1,_⟩
 ·subst e;simp at hn
 ·subst h1
  simp[elp,Nat.add_assoc]
theorem SlX.ldvX(hs:SlX h es x L R){i f:Nat}{c:List za}(hi:i<L.length)(hc:(L++R)[i]?=some c)(hf:f<es):A.ldv h (elp es x i f)=c[f]? :=by
 rcases hs.at_ with⟨e,e',_⟩|⟨id,g,off,cp,b,hi',h1,h1',h2,h3,h4,hh,h5⟩
 ·subst e;simp at hi
 ·have hm:i*es+f<(L.length+R.length)*es:=by
   have:(i+1)*es <= (L.length+R.length)*es:=Nat.mul_le_mul_right _ (by omega);rw[Nat.add_mul]at this;omega
  subst h1;have h6:=flat_get hs.len i f c hc hf;rw[<-h5,List.getElem?_take_of_lt hm,List.getElem?_drop]at h6;simp only[elp,A.ldv,h2,h3];rw[if_pos (by omega),Nat.add_assoc,h6]
theorem SlX.ldv(hs:SlX h es x L R){i f:Nat}{c:List za}(hc:L[i]?=some c)(hf:f<es):A.ldv h (elp es x i f)=c[f]? :=by
 have hi:=(List.getElem?_eq_some_iff.1 hc).1;exact hs.ldvX hi (by rw[List.getElem?_append_left hi];exact hc) hf
theorem SlX.zoj(hs:SlX h es x L R){i f n:Nat}{c:List za}(hc:L[i]?=some c)(hf:f+n <= es):A.zoj h (elp es x i f) n=some (.agg ((c.drop f).take n)):=by
 have hi:=(List.getElem?_eq_some_iff.1 hc).1;have hcl:=hs.len c (List.mem_append_left _ (List.mem_of_getElem? hc));rcases hs.at_ with⟨e,e',_⟩|⟨id,g,off,cp,b,hi',h1,h1',h2,h3,h4,hh,h5⟩
 ·subst e;simp at hi
 ·have hm:i*es+es <= (L.length+R.length)*es:=by
   have:(i+1)*es <= (L.length+R.length)*es:=Nat.mul_le_mul_right _ (by omega);rw[Nat.add_mul]at this;omega
  subst h1;simp only[elp,A.zoj,h2,h3];rw[if_pos (by omega)];congr 2;apply List.ext_getElem?;intro k;by_cases hk:k<n
  ·rw[List.getElem?_take_of_lt hk,List.getElem?_take_of_lt hk,List.getElem?_drop,List.getElem?_drop]
   have h6:=flat_get hs.len i (f+k) c (by rw[List.getElem?_append_left hi];exact hc) (by omega);rw[<-h5,List.getElem?_take_of_lt (by omega),List.getElem?_drop]at h6;rw[<-h6];congr 1;omega
  ·rw[List.getElem?_take_eq_none (by omega),List.getElem?_take_eq_none (by omega)]
theorem SlX.elem(hs:SlX h es x L R){i:Nat}{c:List za}(hc:L[i]?=some c):A.zoj h (elp es x i 0) es=some (.agg c):=by
 rw[hs.zoj hc (by omega)];have:=hs.len c (List.mem_append_left _ (List.mem_of_getElem? hc));simp[<-this]
theorem SlX.rdv(hs:SlX h es x L R):A.rdv h x L.length es=some L.flatten:=by
 have hs:=hs.cut;rcases hs.at_ with⟨e,_,e'|e'⟩|⟨id,g,off,cp,b,hi,h1,h1',h2,h3,h4,hh,h5⟩
 ·subst e e';rfl
 ·subst e e';rfl
 ·subst h1
  simp only[List.length_nil,Nat.add_zero,List.append_nil]at h4 h5;simp only[A.rdv,h2,h3];rw[if_pos ⟨Nat.le_refl _,h4⟩,h5]
theorem endsC_eq{n cp lo hi:Nat}{a b:Option za}(ha:a=none /\ lo=0 \/ ∃k,a=some (.int k lo))(hb:b=none /\ hi=n \/ ∃k,b=some (.int k hi)):
  V.endsC n cp a b=if lo <= hi /\ hi <= max n cp then some (lo,hi) else none:=by
 rcases ha with⟨rfl,rfl⟩|⟨k,rfl⟩<;>rcases hb with⟨rfl,rfl⟩|⟨k',rfl⟩<;>simp[V.endsC,V.asNat]
theorem SlX.slice(hs:SlX h es x L R)(hes:0<es){lo hi:Nat}{a b:Option za}(ha:a=none /\ lo=0 \/ ∃k,a=some (.int k lo))(hb:b=none /\ hi=L.length \/ ∃k,b=some (.int k hi))(h1:lo <= hi)(h2:hi <= L.length+R.length):
  ∃x',V.zhn es x a b=some x' /\ SlX h es x' (((L++R).take hi).drop lo) ((L++R).drop hi) /\ zhs x'=zhs x:=by
 rcases hs.at_ with⟨e,e',e''⟩|⟨id,g,off,cp,bk,hh,k1,k1',k2,k3,k4,k5,k6⟩
 ·subst e e'
  simp only[List.length_nil,Nat.add_zero,Nat.le_zero_eq]at h2;subst h2;have:lo=0:=by omega
  subst this;refine⟨x,?_,⟨by simp,.inl ⟨by simp,by simp,e''⟩⟩,rfl⟩;rcases e'' with rfl|rfl<;>simp only[V.zhn,V.ends,endsC_eq (n:=0) ha hb]<;>rfl
 ·subst k1
  have hlt:(L++R).length=L.length+R.length:=by simp
  refine⟨.sl id g (off+lo*es) (hi-lo) es (max L.length cp-lo),?_,⟨λp hp=>hs.len p ?_,.inr ⟨id,g,off+lo*es,max L.length cp-lo,bk,hh,?_,?_,k2,k3,?_,k5,?_⟩⟩,rfl⟩
  ·simp only[V.zhn,endsC_eq ha hb]
   rw[if_pos ⟨h1,by omega⟩];simp
  ·rcases List.mem_append.1 hp with hp|hp
   ·exact List.mem_of_mem_take (List.mem_of_mem_drop hp)
   ·exact List.mem_of_mem_drop hp
  ·simp only[List.length_drop,List.length_take,hlt,Nat.min_eq_left h2]
  ·simp only[List.length_drop,List.length_take,hlt,Nat.min_eq_left h2];omega
  ·simp only[List.length_drop,List.length_take,hlt,Nat.min_eq_left h2]
   have:lo*es+(hi-lo+(L.length+R.length-hi))*es=(L.length+R.length)*es:=by rw[<-Nat.add_mul];congr 1;omega
   omega
  ·simp only[List.length_drop,List.length_take,hlt,Nat.min_eq_left h2]
   have e1:((L++R).take hi).drop lo++(L++R).drop hi=(L++R).drop lo:=by
    have hg:∀M:List (List za),lo <= (M.take hi).length->(M.take hi).drop lo++M.drop hi=M.drop lo:=λM hM=>by
     rw[<-List.drop_append_of_le_length hM,List.take_append_drop]
    exact hg _ (by rw[List.length_take,hlt];omega)
   rw[e1];have e2:((L++R).drop lo).flatten=(L++R).flatten.drop (lo*es):=by
    have hd:∀(M:List (List za))(n:Nat),(∀p∈M,p.length=es)->(M.drop n).flatten=M.flatten.drop (n*es):=by
     intro M
     induction M with
     | nil=>intro n _;simp
     | cons c M ih=>
      intro n hM;cases n with
      | zero=>simp
      | succ n=>
       have hc:c.length=es:=hM c (by simp);rw[List.drop_succ_cons,ih n (λp hp=>hM p (by simp[hp])),List.flatten_cons,Nat.add_mul,Nat.one_mul];rw[show n*es+es=c.length+n*es by omega,List.drop_length_add_append]
    exact hd _ _ hs.len
   rw[e2,<-k6,List.drop_take,List.drop_drop];congr 1;rw[<-Nat.sub_mul];congr 1;omega
def But(x:za)(h h':zb):Prop:=∀j b,h j=some b->zhs x≠some j->h' j=some b
theorem But.of_le(x:za)(hle:h.le H):But x h H:=λj b e _=>hle j b e
theorem But.sl{h h':zb}{x y:za}(hb:But x h h'){es:Nat}{L R:List (List za)}(hs:SlX h es y L R)(hne:∀id,zhs y=some id->zhs x≠some id):SlX h' es y L R:=hs.zmf λid b hf he=>hb id b he (hne id hf)
theorem zju(g n:Nat)(l:List (Nat×Nat)):List.lookup g ((g,n)::l)=some n:=by simp[List.lookup]
theorem SlX.app{bytes:Nat}{M:List (List za)}{K:zQ}(ho:SlX h es x L R)(hown:∀id b,zhs x=some id->h id=some b->b.own=true)(hes:0<es)(hM:∀p∈M,p.length=es)(hb:(L.length+M.length)*bytes <= 140737488355328)(hm:L.length+M.length <= maxLen)
  (hk:∀x' h',SlIs h' es x' (L++M)->(∀id b,zhs x'=some id->h' id=some b->b.own=true)->But x h h'->(zhs x'=zhs x \/ ∀id,zhs x'=some id->h id=none)->K x' h'):A.app h es bytes x (some M.flatten) K:=by
 have hl:=zoa hM;have hd:M.flatten.length / es=M.length:=by rw[hl,Nat.mul_div_cancel _ hes]
 have hall:∀p∈(L++M)++[],p.length=es:=λp hp=>by
  rw[List.append_nil]at hp;rcases List.mem_append.1 hp with hp|hp
  ·exact ho.len p (List.mem_append_left _ hp)
  ·exact hM p hp
 have fresh:L=[]->(M≠[]->(M.flatten.length / es)*bytes <= 140737488355328 /\ M.flatten.length / es <= maxLen /\ A.new h M.flatten λid h=>K (.sl id 0 0 (M.flatten.length / es) es (M.flatten.length / es)) h):=λe hne=>by
  subst e;rw[hd];simp only[List.length_nil,Nat.zero_add]at hb hm;refine⟨hb,hm,λid hid=>?_⟩;refine hk _ _ ⟨hall,.inr ⟨id,0,0,_,zgh M.flatten,M.flatten.length,by simp only[List.nil_append];exact rfl,by simp,zcg ..,zju ..,by simp[hl],Nat.le_refl _,?_⟩⟩ (λj b hj hb'=>?_) (But.of_le _ (zld _ hid)) (.inr λj hj=>?_)
  ·simp only[List.nil_append,List.append_nil,List.length_nil,Nat.add_zero,<-hl,zgh,List.drop_zero,List.take_length]
  ·cases hj
   rw[zcg]at hb';cases hb';rfl
  ·cases hj;exact hid
 have hnil:M=[] \/ M.flatten.length≠0:=by
  cases M with
  | nil=>exact .inl rfl
  | cons a r=>
   refine .inr ?_;rw[hl,List.length_cons,Nat.add_mul];omega
 have h0:=ho.cut;rcases h0.at_ with⟨e,_,e'|e'⟩|⟨id,g,off,cp,b,hi,h1,h1',h2,h3,h4,hh,h5⟩
 ·subst e'
  simp only[A.app];split
  ·rename_i hz
   rcases hnil with hn|hn
   ·subst hn;exact hk _ _ (by simpa using h0) (λ_ _ hj=>by cases hj) (But.of_le _ (zb.le_refl h)) (.inl rfl)
   ·exact absurd hz hn
  ·rename_i hz
   exact fresh e λhn=>hz (by rw[hn];rfl)
 ·subst e'
  simp only[A.app];split
  ·rename_i hz
   rcases hnil with hn|hn
   ·subst hn;exact hk _ _ (by simpa using h0) (λ_ _ hj=>by cases hj) (But.of_le _ (zb.le_refl h)) (.inl rfl)
   ·exact absurd hz hn
  ·rename_i hz
   exact fresh e λhn=>hz (by rw[hn];rfl)
 ·have hown':=hown id b (by rw[h1];rfl) h2
  subst h1;simp only[List.length_nil,Nat.add_zero,List.append_nil]at h4 h5;simp only[A.app,h2,h3,hd,hown',cond_true];have hcl:off+L.length*es <= b.cells.length:=by omega
  have htl:(b.cells.take (off+L.length*es)).length=off+L.length*es:=by simp;omega
  refine⟨trivial,trivial,h4,hb,hm,hk _ _ ⟨hall,.inr ⟨id,b.next,off,_,_,off+L.length*es+M.flatten.length,by rw[List.length_append],by simp,zcg ..,zju ..,?_,?_,?_⟩⟩ (λj b1 hj hb1=>?_) (λj b1 e1 e2=>?_) (.inl rfl)⟩
  ·rw[List.length_append,List.length_nil,Nat.add_zero,Nat.add_mul,hl];omega
  ·simp only[zil,List.length_append,htl];omega
  ·simp only[zil,List.append_nil,List.length_nil,Nat.add_zero]
   rw[List.drop_append_of_le_length (by omega),List.length_append,Nat.add_mul,<-hl,List.flatten_append,<-h5];have e1:(b.cells.take (off+L.length*es)).drop off=(b.cells.drop off).take (L.length*es):=by
    rw[List.drop_take];congr 1;omega
   have e2:((b.cells.drop off).take (L.length*es)).length=L.length*es:=by simp;omega
   rw[e1,List.take_of_length_le];rw[List.length_append,e2];omega
  ·cases hj
   rw[zcg]at hb1;cases hb1;exact hown'
  ·rw[zba]
   ·exact e1
   ·intro e;subst e;exact e2 rfl
theorem SlX.ziw{bytes:Nat}{y:za}{M R':List (List za)}{K:zQ}(ho:SlX h es x L R)(hown:∀id b,zhs x=some id->h id=some b->b.own=true)(hs:SlX h es y M R')(hes:0<es)(hb:(L.length+M.length)*bytes <= 140737488355328)(hm:L.length+M.length <= maxLen)
  (hk:∀x' h',SlIs h' es x' (L++M)->(∀id b,zhs x'=some id->h' id=some b->b.own=true)->But x h h'->(zhs x'=zhs x \/ ∀id,zhs x'=some id->h id=none)->K x' h'):A.ziw h es bytes x y K:=by
 unfold A.ziw;rw[hs.zjo];simp only;rw[hs.rdv];exact ho.app hown hes (λp hp=>hs.len p (List.mem_append_left _ hp)) hb hm hk
theorem zxu{α:Type}{n:Nat}:∀{L:List (List α)},(∀c∈L,c.length=n)->∀(i f:Nat)(c xs:List α),L[i]?=some c->f+xs.length <= n ->
  (L.set i (c.take f++xs++c.drop (f+xs.length))).flatten=L.flatten.take (i*n+f)++xs++L.flatten.drop (i*n+f+xs.length)
 | [],_,_,_,_,_,h,_=>by simp at h
 | c0::L,hl,0,f,c,xs,h,hf=>by
  simp only[List.getElem?_cons_zero,Option.some.injEq]at h
  subst h
  have:=hl c0 (by simp)
  rw[List.set_cons_zero,List.flatten_cons,List.flatten_cons,Nat.zero_mul,Nat.zero_add,List.take_append_of_le_length (by omega),List.drop_append_of_le_length (by omega),List.append_assoc]
 | c0::L,hl,i+1,f,c,xs,h,hf=>by
  simp only[List.getElem?_cons_succ]at h
  have h0:=hl c0 (by simp)
  rw[List.set_cons_succ,List.flatten_cons,List.flatten_cons,zxu (λc hc=>hl c (by simp[hc])) i f c xs h hf]
  have e1:(i+1)*n+f=c0.length+(i*n+f):=by rw[h0,Nat.add_mul];omega
  have e2:(i+1)*n+f+xs.length=c0.length+(i*n+f+xs.length):=by rw[h0,Nat.add_mul];omega
  rw[e1,List.take_length_add_append,show c0.length+(i*n+f)+xs.length=c0.length+(i*n+f+xs.length) by omega,List.drop_length_add_append]
  simp[List.append_assoc]
theorem zq8{α:Type}(A xs B:List α){p:Nat}(hA:A.length=p)(k:Nat):(A++(xs++B))[k]?=if k<p then A[k]? else if k-p<xs.length then xs[k-p]? else B[k-p-xs.length]? :=by
 subst hA;split
 ·rw[List.getElem?_append_left (by omega)]
 ·rw[List.getElem?_append_right (by omega)]
  split
  ·rw[List.getElem?_append_left (by omega)]
  ·rw[List.getElem?_append_right (by omega)]
theorem zyn{α:Type}(l:List α)(p:Nat)(v:α)(hp:p<l.length):l.set p v=l.take p++[v]++l.drop (p+1):=by
 rw[List.set_eq_take_append_cons_drop,if_pos hp];simp
theorem splice_read{i f n off hi:Nat}{cells c xs:List za}{T:List (List za)}(hT:∀p∈T,p.length=es)(h4:off+T.length*es <= hi)(hh:hi <= cells.length)
  (h5:(cells.drop off).take (T.length*es)=T.flatten) (hc:T[i]?=some c) (hn:xs.length=n) (hf:f+n <= es):
  ((cells.take (off+i*es+f)++xs++cells.drop (off+i*es+f+n)).drop off).take (T.length*es)=(T.set i (c.take f++xs++c.drop (f+n))).flatten /\ (cells.take (off+i*es+f)++xs++cells.drop (off+i*es+f+n)).length=cells.length:=by
 subst hn;have hlt:i<T.length:=(List.getElem?_eq_some_iff.1 hc).1;have hm:i*es+es <= T.length*es:=by
  have:(i+1)*es <= T.length*es:=Nat.mul_le_mul_right _ hlt;rw[Nat.add_mul]at this;omega
 refine⟨?_,by simp;omega⟩;rw[zxu hT i f c xs hc hf,<-h5];apply List.ext_getElem?;intro k;have hfl:((cells.drop off).take (T.length*es)).length=T.length*es:=by simp;omega
 by_cases hk:k<T.length*es
 ·rw[List.getElem?_take_of_lt hk,List.getElem?_drop,List.append_assoc,List.append_assoc]
  have l1:(cells.take (off+i*es+f)).length=off+i*es+f:=by simp;omega
  have l2:(((cells.drop off).take (T.length*es)).take (i*es+f)).length=i*es+f:=by simp;omega
  rw[zq8 _ _ _ l1,zq8 _ _ _ l2,show off+k-(off+i*es+f)=k-(i*es+f) by omega];by_cases k1:k<i*es+f
  ·rw[if_pos (by omega),if_pos k1,List.getElem?_take_of_lt (by omega),List.getElem?_take_of_lt (by omega),List.getElem?_take_of_lt (by omega),List.getElem?_drop]
  ·rw[if_neg (by omega),if_neg k1]
   split
   ·rfl
   ·rw[List.getElem?_drop,List.getElem?_drop,List.getElem?_take_of_lt (by omega),List.getElem?_drop]
    congr 1;omega
 ·rw[List.getElem?_take_eq_none (by omega),List.getElem?_eq_none]
  simp;omega
theorem SlX.stn'{i f n:Nat}{c xs:List za}{K:zb->Prop}(ho:SlX h es x L R)(hown:∀id b,zhs x=some id->h id=some b->b.own=true)(hc:L[i]?=some c)(hn:xs.length=n)(hf:f+n <= es)(fn:List za->Option (List za))
  (hfn:∀(cells:List za)(p:Nat),A.zvo (elp es x i f)=p->p+n <= cells.length->fn cells=some (cells.take p++xs++cells.drop (p+n)))
  (hk:∀h',SlX h' es x (L.set i (c.take f++xs++c.drop (f+n))) R->(∀id b,zhs x=some id->h' id=some b->b.own=true)->But x h h'->K h'):A.ph (A.stv h (elp es x i f) fn n 0) K:=by
 have hi0:i<L.length:=(List.getElem?_eq_some_iff.1 hc).1;rcases ho.at_ with⟨e,_⟩|⟨id,g,off,cp,b,hi,h1,h1',h2,h3,h4,hh,h5⟩
 ·subst e;simp at hc
 ·have hm:i*es+es <= (L.length+R.length)*es:=by
   have:(i+1)*es <= (L.length+R.length)*es:=Nat.mul_le_mul_right _ (by omega);rw[Nat.add_mul]at this;omega
  have hown':=hown id b (by rw[h1];rfl) h2;have hcT:(L++R)[i]?=some c:=by rw[List.getElem?_append_left hi0];exact hc
  have hlen:(L++R).length=L.length+R.length:=by simp
  obtain⟨r1,r2⟩:=splice_read (off:=off) (hi:=hi) (cells:=b.cells) ho.len (by rw[hlen];exact h4) hh (by rw[hlen];exact h5) hcT hn hf;have hset:(L++R).set i (c.take f++xs++c.drop (f+n))=L.set i (c.take f++xs++c.drop (f+n))++R:=by rw[List.set_append_left _ _ hi0]
  rw[hset,hlen]at r1;have hcl:=ho.len c (List.mem_append_left _ (List.mem_of_getElem? hc));have hbl:Nat.ble (0+(off+i*es+f)+n) hi=true:=by rw[Nat.ble_eq];omega
  have hp:=hfn b.cells (off+i*es+f) (by rw[h1];rfl) (by omega);have hlen':∀p∈L.set i (c.take f++xs++c.drop (f+n))++R,p.length=es:=λp hp=>by
   rcases List.mem_append.1 hp with hp|hp
   ·rcases List.mem_or_eq_of_mem_set hp with hp|hp
    ·exact ho.len p (List.mem_append_left _ hp)
    ·subst hp;simp;omega
   ·exact ho.len p (List.mem_append_right _ hp)
  subst h1;simp only[elp,A.stv,h2,h3,hown',hbl,Bool.true_and,cond_true,hp,A.ph];refine hk _ ⟨hlen',.inr ⟨id,g,off,cp,_,hi,by rw[List.length_set],by rw[List.length_set];exact h1',zcg ..,zju ..,by rw[List.length_set];exact h4,by simp only;rw[r2];exact hh,by simp only;rw[List.length_set];exact r1⟩⟩ (λj b1 hj hb1=>?_) (λj b1 e1 e2=>?_)
  ·cases hj
   rw[zcg]at hb1;cases hb1;rfl
  ·rw[zba]
   ·exact e1
   ·intro e;subst e;exact e2 rfl
theorem SlX.st{i f:Nat}{c:List za}{v:za}{K:zb->Prop}(ho:SlX h es x L R)(hown:∀id b,zhs x=some id->h id=some b->b.own=true)(hc:L[i]?=some c)(hf:f<es)(hv:v.zbl=true)
  (hk:∀h',SlX h' es x (L.set i (c.set f v)) R->(∀id b,zhs x=some id->h' id=some b->b.own=true)->But x h h'->K h'):A.st h (elp es x i f) v K:=by
 have hcl:=ho.len c (List.mem_append_left _ (List.mem_of_getElem? hc));refine ho.stn' hown hc (xs:=[v]) (n:=1) rfl hf _ (λcells p hp hle=>?_) ?_
 ·rw[<-hp]at hle ⊢
  simp only[V.put1,hv,cond_true];rw[if_pos (by omega),zyn _ _ _ (by omega)]
 ·rw[<-zyn c f v (by omega)];exact hk
theorem SlX.stn{i f n:Nat}{c xs:List za}{K:zb->Prop}(ho:SlX h es x L R)(hown:∀id b,zhs x=some id->h id=some b->b.own=true)(hc:L[i]?=some c)(hn:xs.length=n)(hf:f+n <= es)
  (hk:∀h',SlX h' es x (L.set i (c.take f++xs++c.drop (f+n))) R->(∀id b,zhs x=some id->h' id=some b->b.own=true)->But x h h'->K h'):A.stn h (elp es x i f) n (.agg xs) K:=by
 refine ho.stn' hown hc hn hf _ (λcells p hp hle=>?_) hk;rw[<-hp]at hle ⊢;simp only[V.zys];rw[if_pos ⟨hn,hle⟩]
end
inductive Ob where
 | sl (es:Nat) (x:za) (L R:List (List za))
 | box (p:za) (cs:List za)
 | blk (id:Nat) (b:Blk)
def Ob.zhs:Ob->Option Nat | .sl _ x _ _=>Ab.zhs x | .box p _=>Ab.zhs p | .blk id _=>some id
def Ob.at(h:zb):Ob->Prop
 | .sl es x L R=>SlX h es x L R
 | .box p cs=>∃id,p= .ptr id 0 0 /\ h id=some (zgh cs)
 | .blk id b=>h id=some b
theorem Ob.at.zmf{h H:zb}{o:Ob}(hs:o.at h)(hk:∀id b,o.zhs=some id->h id=some b->H id=some b):o.at H:=by
 cases o with
 | sl es x L R=>exact SlX.zmf hs hk
 | box p cs=>obtain⟨id,rfl,e⟩:=hs;exact⟨id,rfl,hk id _ rfl e⟩
 | blk id b=>exact hk id b rfl hs
theorem Ob.at.known{h:zb}{o:Ob}(hs:o.at h){id:Nat}(hf:o.zhs=some id):∃b,h id=some b:=by
 cases o with
 | sl es x L R=>exact SlX.known hs hf
 | box p cs=>obtain⟨id',rfl,e⟩:=hs;cases hf;exact⟨_,e⟩
 | blk id b=>cases hf;exact⟨_,hs⟩
structure zcx(h0 h:zb)(l:List Ob):Prop where
 le:h0.le h
 is:∀o∈l,o.at h
 own:∀o∈l,∀id,o.zhs=some id->h0 id=none /\ ∀b,h id=some b->b.own=true
 apart:l.Pairwise λa b=>∀id,a.zhs=some id->b.zhs≠some id
section
variable{h0 h h' H:zb}{l l':List Ob}
theorem zcx.nil(hle:h0.le h):zcx h0 h []:=⟨hle,λ_ h=>(by cases h),λ_ h=>(by cases h),.nil⟩
theorem zcx.start(h:zb):zcx h h []:=zcx.nil (zb.le_refl h)
theorem zcx.sub(ho:zcx h0 h l)(hs:l'.Sublist l):zcx h0 h l':=⟨ho.le,λo hm=>ho.is o (hs.subset hm),λo hm=>ho.own o (hs.subset hm),ho.apart.sublist hs⟩
theorem zcx.grow(ho:zcx h0 h l)(hle:h.le H):zcx h0 H l:=
 ⟨zb.le_trans ho.le hle,λo hm=>(ho.is o hm).zmf λ_ _ _ e=>hle _ _ e,λo hm id hf=>by
  obtain⟨a,b⟩:=ho.own o hm id hf
  obtain⟨b',hb'⟩:=(ho.is o hm).known hf
  exact⟨a,λc hc=>(by rw[hle _ _ hb']at hc;cases hc;exact b _ hb')⟩,ho.apart⟩
theorem zcx.back(ho:zcx h0 h l)(hle:H.le h0):zcx H h l:=
 ⟨zb.le_trans hle ho.le,ho.is,λo hm id hf=>⟨(by
  cases e:H id with
  | none=>rfl
  | some b=>have:=hle _ _ e;rw[(ho.own o hm id hf).1]at this;cases this),(ho.own o hm id hf).2⟩,ho.apart⟩
theorem zcx.join(ho:zcx h0 h l)(hn:zcx h h' l'):zcx h0 h' (l++l'):=by
 have g:=ho.grow hn.le;have b:=hn.back ho.le;refine⟨g.le,λo hm=>?_,λo hm=>?_,List.pairwise_append.2 ⟨g.apart,hn.apart,λx hx y hy id hf hf'=>?_⟩⟩
 ·rcases List.mem_append.1 hm with hm|hm
  ·exact g.is o hm
  ·exact b.is o hm
 ·rcases List.mem_append.1 hm with hm|hm
  ·exact g.own o hm
  ·exact b.own o hm
 ·obtain⟨c,hc⟩:=(ho.is x hx).known hf
  have:=(hn.own y hy id hf').1;rw[hc]at this;cases this
theorem zcx.zvp(ho:zcx h0 h l){id:Nat}(hid:h id=none)(cs:List za):zcx h0 (upd h id (zgh cs)) (l++[.box (.ptr id 0 0) cs]):=
 ho.join ⟨zld _ hid,λo hm=>by rw[List.mem_singleton.1 hm];exact⟨id,rfl,zcg ..⟩,λo hm j hj=>by rw[List.mem_singleton.1 hm]at hj;cases hj;exact⟨hid,λb hb=>by rw[zcg]at hb;cases hb;rfl⟩,List.pairwise_singleton _ _⟩
theorem SlX.lit{h:zb}{es:Nat}{id n cp:Nat}{cs:List za}{L R:List (List za)}(hb:h id=some (zgh cs))(hL:∀p∈L++R,p.length=es)(hn:n=L.length)(hcp:L.length+R.length <= cp)(hc:cs=(L++R).flatten):SlX h es (.sl id 0 0 n es cp) L R:=by
 subst hn hc;have:=zoa hL;rw[List.length_append]at this;exact⟨hL,.inr ⟨id,0,0,cp,_,_,rfl,by omega,hb,zju ..,by rw[this];omega,Nat.le_refl _,by rw[<-this];simp only[zgh,List.drop_zero,List.take_length]⟩⟩
theorem zcx.zp9(ho:zcx h0 h l){id n cp es:Nat}{cs:List za}{L R:List (List za)}(hid:h id=none)(hL:∀p∈L++R,p.length=es)(hn:n=L.length)(hcp:L.length+R.length <= cp)(hc:cs=(L++R).flatten):zcx h0 (upd h id (zgh cs)) (l++[.sl es (.sl id 0 0 n es cp) L R]):=
 ho.join ⟨zld _ hid,λo hm=>by rw[List.mem_singleton.1 hm];exact SlX.lit (zcg ..) hL hn hcp hc,λo hm j hj=>by rw[List.mem_singleton.1 hm]at hj;cases hj;exact⟨hid,λb hb=>by rw[zcg]at hb;cases hb;rfl⟩,List.pairwise_singleton _ _⟩
theorem zcx.zbp(ho:zcx h0 h l)(es:Nat):zcx h0 h (l++[.sl es .zbp [] []]):=
 ho.join ⟨zb.le_refl h,λo hm=>by rw[List.mem_singleton.1 hm];exact SlX.zbp h es,λo hm j hj=>(by rw[List.mem_singleton.1 hm]at hj;cases hj),List.pairwise_singleton _ _⟩
theorem zcx.sz(ho:zcx h0 h l)(es:Nat):zcx h0 h (l++[.sl es .sz [] []]):=
 ho.join ⟨zb.le_refl h,λo hm=>by rw[List.mem_singleton.1 hm];exact SlX.sz h es,λo hm j hj=>(by rw[List.mem_singleton.1 hm]at hj;cases hj),List.pairwise_singleton _ _⟩
theorem zcx.at(ho:zcx h0 h l)(k:Nat){o:Ob}(hk:l[k]?=some o):o.at h:=ho.is o (List.mem_of_getElem? hk)
theorem zcx.zg1(ho:zcx h0 h l)(k:Nat){es:Nat}{x:za}{L R:List (List za)}(hk:l[k]?=some (.sl es x L R)):SlX h es x L R:=ho.at k hk
theorem zcx.zte(ho:zcx h0 h l)(k:Nat){p:za}{cs:List za}(hk:l[k]?=some (.box p cs)):∃id,p= .ptr id 0 0 /\ h id=some (zgh cs):=ho.at k hk
theorem zcx.off(ho:zcx h0 h l){es:Nat}{x:za}{L R:List (List za)}(hs:SlX h0 es x L R){o:Ob}(hm:o∈l):∀id,Ab.zhs x=some id->o.zhs≠some id:=λid hf hf'=>by
 obtain⟨b,hb⟩:=hs.known hf
 rw[(ho.own o hm id hf').1]at hb;cases hb
theorem zcx.zpz(ho:zcx h0 h l)(k:Nat){o o':Ob}(hk:l[k]?=some o)(hat:o'.at h')(hown:∀id b,o'.zhs=some id->h' id=some b->b.own=true)
  (hbut:∀j b,h j=some b->o.zhs≠some j->h' j=some b) (hf:o'.zhs=o.zhs \/ ∀id,o'.zhs=some id->h id=none):zcx h0 h' (l.set k o'):=by
 have hm:o∈l:=List.mem_of_getElem? hk;have hlt:k<l.length:=(List.getElem?_eq_some_iff.1 hk).1;have hne:∀i a,l[i]?=some a->i≠k->∀id,a.zhs=some id->o.zhs≠some id:=λi a hi hik id ha hb=>by
  rcases Nat.lt_or_gt_of_ne hik with hlt|hgt
  ·have:=List.pairwise_iff_getElem.1 ho.apart i k (List.getElem?_eq_some_iff.1 hi).1 (List.getElem?_eq_some_iff.1 hk).1 hlt
   rw[(List.getElem?_eq_some_iff.1 hi).2,(List.getElem?_eq_some_iff.1 hk).2]at this;exact this id ha hb
  ·have:=List.pairwise_iff_getElem.1 ho.apart k i (List.getElem?_eq_some_iff.1 hk).1 (List.getElem?_eq_some_iff.1 hi).1 hgt
   rw[(List.getElem?_eq_some_iff.1 hi).2,(List.getElem?_eq_some_iff.1 hk).2]at this;exact this id hb ha
 have hset:∀a∈l.set k o',a=o' \/ ∃i,i≠k /\ l[i]?=some a:=λa ha=>by
  obtain⟨i,hi⟩:=List.getElem?_of_mem ha;by_cases e:i=k
  ·subst e;rw[List.getElem?_set_self hlt]at hi;cases hi;exact .inl rfl
  ·rw[List.getElem?_set_ne (Ne.symm e)]at hi;exact .inr ⟨i,e,hi⟩
 have hle:h0.le h':=λj b e=>hbut j b (ho.le j b e) λhj=>by rw[(ho.own o hm j hj).1]at e;cases e
 have h0n:∀id,o'.zhs=some id->h0 id=none:=λid hid=>by
  rcases hf with hf|hf
  ·rw[hf]at hid;exact(ho.own o hm id hid).1
  ·cases e:h0 id with
   | none=>rfl
   | some b=>have:=ho.le _ _ e;rw[hf id hid]at this;cases this
 refine⟨hle,λa ha=>?_,λa ha id hid=>?_,?_⟩
 ·rcases hset a ha with rfl|⟨i,hi,hl⟩
  ·exact hat
  ·exact(ho.is a (List.mem_of_getElem? hl)).zmf λid b hf' hb=>hbut id b hb (hne i a hl hi id hf')
 ·rcases hset a ha with rfl|⟨i,hi,hl⟩
  ·exact⟨h0n id hid,λb hb=>hown id b hid hb⟩
  ·have hma:=List.mem_of_getElem? hl
   obtain⟨b',hb'⟩:=(ho.is a hma).known hid;refine⟨(ho.own a hma id hid).1,λb hb=>?_⟩;rw[hbut id b' hb' (hne i a hl hi id hid)]at hb;cases hb;exact(ho.own a hma id hid).2 _ hb'
 ·have sym:∀i a,l[i]?=some a->i≠k->∀id,a.zhs=some id->o'.zhs≠some id:=λi a hl hi id ha hb=>by
   rcases hf with hf|hf
   ·rw[hf]at hb;exact hne i a hl hi id ha hb
   ·obtain⟨b',hb'⟩:=(ho.is a (List.mem_of_getElem? hl)).known ha
    rw[hf id hb]at hb';cases hb'
  rw[List.pairwise_iff_getElem];intro i j hi hj hij id ha hb;have li:(l.set k o')[i]?=some (l.set k o')[i]:=List.getElem?_eq_getElem hi;have lj:(l.set k o')[j]?=some (l.set k o')[j]:=List.getElem?_eq_getElem hj;by_cases e1:i=k
  ·have e2:j≠k:=by omega
   rw[List.getElem?_set_ne (Ne.symm e2)]at lj;subst e1;rw[List.getElem?_set_self hlt]at li;rw[<-Option.some.inj li]at ha;exact sym j _ lj e2 id hb ha
  ·rw[List.getElem?_set_ne (Ne.symm e1)]at li
   by_cases e2:j=k
   ·subst e2
    rw[List.getElem?_set_self hlt]at lj;rw[<-Option.some.inj lj]at hb;exact sym i _ li e1 id ha hb
   ·rw[List.getElem?_set_ne (Ne.symm e2)]at lj
    have:=List.pairwise_iff_getElem.1 ho.apart i j (List.getElem?_eq_some_iff.1 li).1 (List.getElem?_eq_some_iff.1 lj).1 hij;rw[(List.getElem?_eq_some_iff.1 li).2,(List.getElem?_eq_some_iff.1 lj).2]at this;exact this id ha hb
theorem zcx.zp7(ho:zcx h0 h l)(k:Nat){o:Ob}(hk:l[k]?=some o):∀id b,o.zhs=some id->h id=some b->b.own=true:=λid b hf hb=>(ho.own o (List.mem_of_getElem? hk) id hf).2 b hb
theorem zcx.ziw(ho:zcx h0 h l)(k:Nat){es bytes:Nat}{x y:za}{L R M R':List (List za)}{K:zQ}(hk:l[k]?=some (.sl es x L R))(hs:SlX h es y M R')(hes:0<es)(hb:(L.length+M.length)*bytes <= 140737488355328)(hm:L.length+M.length <= maxLen)(hK:∀x' h',zcx h0 h' (l.set k (.sl es x' (L++M) []))->But x h h'->K x' h'):A.ziw h es bytes x y K:=(ho.zg1 k hk).ziw (ho.zp7 k hk) hs hes hb hm λx' h' h1 h2 h3 h4=>hK x' h' (ho.zpz k hk h1 h2 h3 h4) h3
theorem zcx.st(ho:zcx h0 h l)(k:Nat){es i f:Nat}{x v:za}{L R:List (List za)}{c:List za}{K:zb->Prop}(hk:l[k]?=some (.sl es x L R))(hc:L[i]?=some c)(hf:f<es)(hv:v.zbl=true)(hK:∀h',zcx h0 h' (l.set k (.sl es x (L.set i (c.set f v)) R))->But x h h'->K h'):A.st h (elp es x i f) v K:=(ho.zg1 k hk).st (ho.zp7 k hk) hc hf hv λh' h1 h2 h3=>hK h' (ho.zpz k hk h1 h2 h3 (.inl rfl)) h3
theorem zcx.stn(ho:zcx h0 h l)(k:Nat){es i f n:Nat}{x:za}{L R:List (List za)}{c xs:List za}{K:zb->Prop}(hk:l[k]?=some (.sl es x L R))(hc:L[i]?=some c)(hn:xs.length=n)(hf:f+n <= es)(hK:∀h',zcx h0 h' (l.set k (.sl es x (L.set i (c.take f++xs++c.drop (f+n))) R))->But x h h'->K h'):A.stn h (elp es x i f) n (.agg xs) K:=(ho.zg1 k hk).stn (ho.zp7 k hk) hc hn hf λh' h1 h2 h3=>hK h' (ho.zpz k hk h1 h2 h3 (.inl rfl)) h3
theorem zcx.stElem(ho:zcx h0 h l)(k:Nat){es i:Nat}{x:za}{L R:List (List za)}{c xs:List za}{K:zb->Prop}(hk:l[k]?=some (.sl es x L R))(hc:L[i]?=some c)(hn:xs.length=es)
  (hK:∀h',zcx h0 h' (l.set k (.sl es x (L.set i xs) R))->But x h h'->K h'):A.stn h (elp es x i 0) es (.agg xs) K:=by
 have hcl:=(ho.zg1 k hk).len c (List.mem_append_left _ (List.mem_of_getElem? hc));refine ho.stn k hk hc hn (by omega) λh' h1 h2=>hK h' ?_ h2;have e:c.take 0++xs++c.drop (0+es)=xs:=by simp[List.drop_of_length_le,hcl]
 rwa [e]at h1
end
theorem zcx.push{h0 h:zb}{l:List Ob}(ho:zcx h0 h l)(k:Nat){es bytes:Nat}{x:za}{L R:List (List za)}{cs:List za}{K:zQ}(hk:l[k]?=some (.sl es x L R))(hcs:cs.length=es)(hes:0<es)(hb:(L.length+1)*bytes <= 140737488355328)(hm:L.length+1 <= maxLen)(hK:∀x' h',zcx h0 h' (l.set k (.sl es x' (L++[cs]) []))->But x h h'->K x' h'):A.zhb h (some cs) λi h=>A.ziw h es bytes x (.sl i 0 0 1 es 1) K:=λi hi=>(ho.grow (zld _ hi)).ziw k hk (M:=[cs]) (R':=[]) (SlX.lit (zcg ..) (by simpa using hcs) rfl (by simp) (by simp)) hes hb hm λx' h' h1 h2=>hK x' h' h1 λj b e1 e2=>h2 j b (zld _ hi j b e1) e2
section
theorem zyg{α:Type}(l:List α)(i:Nat):(if i<l.length then l[i]? else none)=l[i]? :=by
 split
 ·rfl
 ·rw[List.getElem?_eq_none (by omega)]
theorem zot{h:zb}{id:Nat}{cs:List za}(hb:h id=some (zgh cs))(off:Nat):A.ldv h (.ptr id 0 off)=cs[off]? :=by
 simp only[A.ldv,hb,zgh,List.lookup,beq_self_eq_true,zyg]
theorem st_at{h:zb}{id:Nat}{cs:List za}(hb:h id=some (zgh cs)){off:Nat}{v:za}(hv:v.zbl=true)(ho:off<cs.length){K:zb->Prop}:A.st h (.ptr id 0 off) v K=K (upd h id (zgh (cs.set off v))):=by
 have h1:Nat.ble (0+off+1) cs.length=true:=by rw[Nat.ble_eq];omega
 simp only[A.st,A.stv,hb,zgh,List.lookup,beq_self_eq_true,A.zvo,V.put1,hv,ho,if_true,A.ph,h1,Bool.true_and,cond_true,List.length_set]
variable{h0 h:zb}{l:List Ob}
theorem zcx.zyh(ho:zcx h0 h l)(k:Nat){id off:Nat}{cs:List za}{v:za}{K:zb->Prop}(hk:l[k]?=some (.box (.ptr id 0 0) cs))(hv:v.zbl=true)(hoff:off<cs.length)
  (hK:∀h',zcx h0 h' (l.set k (.box (.ptr id 0 0) (cs.set off v)))->But (.ptr id 0 0) h h'->K h'):A.st h (.ptr id 0 off) v K:=by
 obtain⟨id',e,hb⟩:=ho.zte k hk;cases e;rw[st_at hb hv hoff];have hbut:But (.ptr id 0 0) h (upd h id (zgh (cs.set off v))):=λj b e1 e2=>by rw[zba];exact e1;intro e;subst e;exact e2 rfl
 exact hK _ (ho.zpz k hk ⟨id,rfl,zcg ..⟩ (λj b hj hb'=>by cases hj;rw[zcg]at hb';cases hb';rfl) hbut (.inl rfl)) hbut
end
def fill(n:Nat)(g:Nat->za):List za:=(List.range n).map g
@[simp] theorem fill_len(n:Nat)(g:Nat->za):(fill n g).length=n:=by simp[fill]
theorem zwk{n k:Nat}(g:Nat->za)(hk:k<n):(fill n g)[k]?=some (g k):=by simp[fill,hk]
theorem fill_set{n k:Nat}(g:Nat->za)(v:za):(fill n g).set k v=fill n λj=>if j=k then v else g j:=by
 apply List.ext_getElem?;intro j;by_cases hj:j<n
 ·rw[zwk _ hj]
  by_cases e:k=j
  ·subst e;rw[List.getElem?_set_self (by simpa using hj)];simp
  ·rw[List.getElem?_set_ne e,zwk _ hj];simp[Ne.symm e]
 ·rw[List.getElem?_eq_none (by simp;omega),List.getElem?_eq_none (by simp;omega)]
def zhr(n:Nat)(g:Nat->List za):List (List za):=(List.range n).map g
@[simp] theorem fills_len(n:Nat)(g:Nat->List za):(zhr n g).length=n:=by simp[zhr]
@[simp] theorem zy5(g:Nat->List za):zhr 0 g=[]:=rfl
theorem zo1{n k:Nat}(g:Nat->List za)(hk:k<n):(zhr n g)[k]?=some (g k):=by simp[zhr,hk]
theorem fills_set{n k:Nat}(g:Nat->List za)(v:List za):(zhr n g).set k v=zhr n λj=>if j=k then v else g j:=by
 apply List.ext_getElem?;intro j;by_cases hj:j<n
 ·rw[zo1 _ hj]
  by_cases e:k=j
  ·subst e;rw[List.getElem?_set_self (by simpa using hj)];simp
  ·rw[List.getElem?_set_ne e,zo1 _ hj];simp[Ne.symm e]
 ·rw[List.getElem?_eq_none (by simp;omega),List.getElem?_eq_none (by simp;omega)]
theorem zxw{n:Nat}{f g:Nat->List za}(e:∀j,j<n->f j=g j):zhr n f=zhr n g:=List.map_congr_left λj hj=>e j (by simpa using hj)
theorem zrb(n:Nat)(z:List za):(zhr n λ_=>z).flatten=(List.replicate n z).flatten:=by
 unfold zhr;rw[List.map_const',List.length_range]
theorem repL_fills(n:Nat)(z:List za):zgc n z=(zhr n λ_=>z).flatten:=by
 rw[zrb];unfold zgc;split
 ·rw[List.flatten_replicate_singleton]
 ·rfl
theorem fills_all{n:Nat}{g:Nat->List za}{es:Nat}(h:∀j,(g j).length=es):∀p∈zhr n g,p.length=es:=λp hp=>by
 obtain⟨j,_,rfl⟩:=List.mem_map.1 hp
 exact h j
theorem zcx.mks{h0 h:zb}{l:List Ob}(ho:zcx h0 h l){bytes es:Nat}{n c:Int}{z:List za}{k j:IntKind}{K:zQ}(hz:z.length=es)(h1:0 <= n)(h2:n <= c)(hb:c*bytes <= 281474976710656)(hc:c <= 9223372036854775807)
  (hK:∀x' h',zcx h0 h' (l++[.sl es x' (zhr n.toNat λ_=>z) (zhr (c.toNat-n.toNat) λ_=>z)])->K x' h'):A.mks h bytes (some z) (.int k n) (.int j c) K:=by
 refine⟨h1,h2,hb,hc,λid hid=>?_⟩;rw[hz];refine hK _ _ (ho.zp9 hid ?_ (by simp) (by simp;omega) ?_)
 ·intro p hp
  rcases List.mem_append.1 hp with hp|hp
  ·exact fills_all (λ_=>hz) p hp
  ·exact fills_all (λ_=>hz) p hp
 ·rw[List.flatten_append,repL_fills,zrb,zrb,zrb,<-List.flatten_append,List.replicate_append_replicate]
  congr 2;omega
variable{C:zh}{N:zN}
theorem take_succ{α:Type}{L:List α}{i:Nat}{w:α}(h:L[i]?=some w):L.take (i+1)=L.take i++[w]:=by
 rw[List.take_add_one,h];rfl
theorem get_map{α β:Type}{f:α->β}{L:List α}{i:Nat}{w:α}(h:L[i]?=some w):(L.map f)[i]?=some (f w):=by simp[h]
theorem zjf{n:Nat}(h:n<4611686018427387904):IntKind.i64.wrap ((n:Int)+1)=((n+1:Nat):Int):=by rw[wrap_i64 (by omega) (by omega)];omega
theorem zgd{α:Type}{L:List α}{k:Nat}(h:k<L.length):∃w,L[k]?=some w:=⟨L[k],by simp[h]⟩
structure Flat(T:Type)[DecidableEq T] where
 cs:T->List za
 es:Nat
 sh:List Ck
 len:∀t,(cs t).length=es
 pos:0<es
 eq:∀a b,V.zir sh (cs a) (cs b)=some (decide (a=b))
section
variable{T:Type}[DecidableEq T](F:Flat T)
theorem Flat.neq(a b:T):V.zpx .neq F.sh (.agg (F.cs a)) (.agg (F.cs b))=some (.bool (!decide (a=b))):=by simp only[V.zpx,F.eq,V.eqv]
theorem Flat.eql(a b:T):V.zpx .eql F.sh (.agg (F.cs a)) (.agg (F.cs b))=some (.bool (decide (a=b))):=by simp only[V.zpx,F.eq,V.eqv]
@[simp] def zp0.k2(es:Nat)(sh:List Ck)(Q:zQ)(Y1:zL)(v0 v1 v5:za)(h:zb):Prop:=B.pv (V.zbg v0) λv13=>B.pv (V.bin .lss v5 v13) λv14=>B.cond v14 (B.pv (V.zb4 es v0 v5) λv19=>B.ldn h v19 es λv20=>B.pv (V.zb4 es v1 v5) λv23=>B.ldn h v23 es λv24=>B.pv (V.zpx .neq sh v20 v24) λv25=>B.cond v25 (Q (.bool false) h) (B.pv (V.bin .add v5 (.int .i64 1)) λv16=>Y1 [v16] h)) (Q (.bool true) h)
@[simp] def zp0.l4(es:Nat)(sh:List Ck)(Q:zQ)(v0 v1:za):zG|[v5],h,Y1=>zp0.k2 es sh Q Y1 v0 v1 v5 h|_,_,_=>False
def zp0(es:Nat)(sh:List Ck)(v0 v1:za)(h:zb)(Q:zQ):Prop:=B.pv (V.zbg v0) λv7=>B.pv (V.zbg v1) λv9=>B.pv (V.bin .neq v7 v9) λv10=>B.cond v10 (Q (.bool false) h) (zd (zp0.l4 es sh Q v0 v1) [(.int .i64 0)] h)
theorem zuq{x y:za}{L M:List T}{R S:List (List za)}{h:zb}{Q:zQ}(hx:SlX h F.es x (L.map F.cs) R)(hy:SlX h F.es y (M.map F.cs) S)(hlen:L.length<4611686018427387904)
  (hq:Q (.bool (decide (L=M))) h):zp0 F.es F.sh x y h Q:=by
 have hlx:=hx.zbg;have hly:=hy.zbg;rw[List.length_map]at hlx hly;simp -dsimp[zp0,hlx,hly];refine B.zl (λhb=>?_) (λhb=>?_)<;>simp -dsimp at hb ⊢
 ·rw[decide_eq_false λe=>hb (by rw[e])]at hq
  exact hq
 ·refine zd.intro (λn vs hh=>∃k,k+n=L.length /\ vs=[.int .i64 k] /\ hh=h /\ L.take k=M.take k) L.length ?_ ⟨0,by simp,by simp,rfl,by simp⟩
  rintro Y n vs _ ⟨k,hn,rfl,rfl,he⟩ hY;simp -dsimp[hlx];refine B.zl (λhc=>?_) (λhc=>?_)<;>simp -dsimp at hc ⊢
  ·obtain⟨w,hw⟩:=zgd hc
   obtain⟨u,hu⟩:=zgd (L:=M) (k:=k) (by omega);have hk:k<(L.map F.cs).length:=by simpa using hc
   have hk2:k<(M.map F.cs).length:=by simp;omega
   simp only[hx.zjk hk,hy.zjk hk2,hx.elem (get_map hw),hy.elem (get_map hu),B.ze,B.zno,F.neq];refine B.zl (λhd=>?_) (λhd=>?_)<;>simp -dsimp at hd ⊢
   ·rw[decide_eq_false λe=>by subst e;rw[hw]at hu;cases hu;exact hd rfl]at hq
    exact hq
   ·simp[zjf (n:=k) (by omega)]
    refine hY (L.length-(k+1)) _ _ (by omega) ⟨k+1,by omega,by simp,rfl,?_⟩;rw[take_succ hw,take_succ hu,he,hd]
  ·rw[List.take_of_length_le (by omega),List.take_of_length_le (by omega)]at he
   rw[decide_eq_true he]at hq;exact hq
def marks(mk:Int->T)(n:Nat):List (List za):=(List.range n).map fun(i:Nat)=>F.cs (mk (i:Int))
@[simp] theorem marks_len(mk:Int->T)(n:Nat):(marks F mk n).length=n:=by simp[marks]
theorem marks_get(mk:Int->T){n k:Nat}(hk:k<n):(marks F mk n)[k]?=some (F.cs (mk k)):=by simp[marks,hk]
theorem marks_succ(mk:Int->T)(n:Nat):marks F mk (n+1)=marks F mk n++[F.cs (mk n)]:=by simp[marks,List.range_succ]
@[simp] def zoi.k2(C:zh)(es bytes f:Nat)(z:List za)(m:Int)(Q:zQ)(Y1:zL)(v0 v3 v4:za)(h:zb):Prop:=B.pv (V.bin .lss v4 (.int .i64 12)) λv13=>B.cond v13 (B.call C f [(.int .i64 m),v4] h λv18 h=>B.zhb h (zer [(0,some es,v18)] (zgc 1 z)) λi19 h=>B.ziw h es bytes v3 (.sl i19 0 0 1 es 1) λv20 h=>B.pv (V.bin .add v4 (.int .i64 1)) λv15=>Y1 [v20,v15] h) (B.pv (V.zbg v0) λv23=>B.pv (V.zhn es v3 none (some v23)) λv24=>Q v24 h)
@[simp] def zoi.l4(C:zh)(es bytes f:Nat)(z:List za)(m:Int)(Q:zQ)(v0:za):zG|[v3,v4],h,Y1=>zoi.k2 C es bytes f z m Q Y1 v0 v3 v4 h|_,_,_=>False
def zoi(C:zh)(es bytes f:Nat)(z:List za)(m:Int)(v0:za)(h:zb)(Q:zQ):Prop:=B.pv (V.zbg v0) λv6=>B.pv (V.bin .add v6 (.int .i64 12)) λv7=>0<es /\ B.mks h bytes (some z) (.int .i64 0) v7 λv8 h=>B.ziw h es bytes v8 v0 λv11 h=>zd (zoi.l4 C es bytes f z m Q v0) [v11,(.int .i64 0)] h
theorem zu6{bytes f:Nat}{z:List za}{m:Int}{mk:Int->T}(hz:z.length=F.es)(hbm:bytes <= 1000)(s1:∀(i:Int)(h:zb)(Q:zQ),Q (.agg (F.cs (mk i))) h->C f [.int .i64 m,.int .i64 i] h Q)
  {x:za} {L:List T} {R:List (List za)} {h:zb} {Q:zQ} (hx:SlX h F.es x (L.map F.cs) R) (hlen:L.length <= 100000000)
  (hq:∀x' h',zcx h h' [.sl F.es x' (L.map F.cs) (marks F mk 12)]->Q x' h'):zoi C F.es bytes f z m x h Q:=by
 have hlx:=hx.zbg;rw[List.length_map]at hlx;have hmul:∀n:Nat,n <= 100000100->n*bytes <= 140737488355328:=λn hn=>by
  have:=Nat.mul_le_mul hn hbm;omega
 have e1:IntKind.i64.wrap ((L.length:Int)+12)=(L.length:Int)+12:=wrap_i64 (by omega) (by omega);simp -dsimp[zoi,hlx,e1];refine⟨F.pos,(zcx.start h).mks (es:=F.es) hz (by omega) (by omega) ?_ (by omega) λy h1 ho=>?_⟩
 ·have:=hmul (L.length+12) (by omega)
  have e:((L.length:Int)+12)*bytes=((L.length+12)*bytes:Nat):=by simp
  rw[e];omega
 refine ho.ziw 0 rfl (hx.mono ho.le) F.pos (by simpa using hmul L.length (by omega)) (by simp[maxLen];omega) λy2 h2 ho2 _=>?_;refine zd.intro (λn vs hh=>∃k y,k+n=12 /\ vs=[y,.int .i64 k] /\ zcx h hh [.sl F.es y (L.map F.cs++marks F mk k) []]) 12 ?_ ⟨0,y2,by simp,by simp,by simpa[marks]using ho2⟩;rintro Y n vs hh ⟨k,y3,hn,rfl,ho3⟩ hY;simp -dsimp[hlx];refine B.zl (λhc=>?_) (λhc=>?_)<;>simp -dsimp at hc ⊢
 ·refine s1 _ _ _ ?_
  have hrep:zgc 1 z=z:=by unfold zgc;split<;>simp
  have hfill:zer [(0,some F.es,.agg (F.cs (mk k)))] z=some (F.cs (mk k)):=by
   have h1:=F.len (mk k);simp[h1,hz]
  rw[hrep,hfill];refine ho3.push 0 rfl (F.len _) F.pos (by simp;have:=hmul (L.length+k+1) (by omega);omega) (by simp[maxLen];omega) λz' h4 ho4 _=>?_;simp[zjf (n:=k) (by omega)];refine hY (12-(k+1)) _ _ (by omega) ⟨k+1,z',by omega,by simp,?_⟩;rw[marks_succ,<-List.append_assoc];exact ho4
 ·have:k=12:=by omega
  subst this;obtain⟨x',e2,e3,e4⟩:=(ho3.zg1 0 rfl).slice F.pos (lo:=0) (hi:=L.length) (a:=none) (b:=some (.int .i64 L.length)) (.inl ⟨rfl,rfl⟩) (.inr ⟨_,rfl⟩) (by omega) (by simp);simp -dsimp[hlx,e2];refine hq _ _ (ho3.zpz 0 rfl (o':= .sl F.es x' (L.map F.cs) (marks F mk 12)) ?_ (λid b hf hb=>ho3.zp7 0 rfl id b (by show zhs y3=some id;rw[<-e4];exact hf) hb) (λj b hb _=>hb) (.inl e4));have h1:((L.map F.cs++marks F mk 12++[]).take L.length).drop 0=L.map F.cs:=by simp[List.take_append_of_le_length]
  have h2:(L.map F.cs++marks F mk 12++[]).drop L.length=marks F mk 12:=by simp[List.drop_append_of_le_length]
  rw[h1,h2]at e3;exact e3
@[simp] def zqa.k2(C:zh)(es f:Nat)(sh:List Ck)(m:Int)(Q:zQ)(Y1:zL)(v1 v5 v6:za)(h:zb):Prop:=B.pv (V.zbg v5) λv19=>B.pv (V.bin .lss v6 v19) λv20=>B.cond v20 (B.pv (V.zbg v1) λv25=>B.pv (V.bin .lss v6 v25) λv26=>B.gd h v26 true (λK=>K v5 h) λv28 h=>B.gd h v26 true (λK=>K v6 h) λv29 h=>B.gd h v26 true (λK=>B.pv (V.zb4 es v28 v29) λv=>K v h) λv30 h=>B.gd h v26 true (λK=>B.ldn h v30 es λv=>K v h) λv31 h=>B.gd h v26 true (λK=>K v1 h) λv32 h=>B.gd h v26 true (λK=>K v6 h) λv33 h=>B.gd h v26 true (λK=>B.pv (V.zb4 es v32 v33) λv=>K v h) λv34 h=>B.gd h v26 true (λK=>B.ldn h v34 es λv=>K v h) λv35 h=>B.gd h v26 true (λK=>B.pv (V.zpx .eql sh v31 v35) λv=>K v h) λv36 h=>B.gd h v26 true (λK=>B.pv (V.un .not v36) λv=>K v h) λv37 h=>B.pick v26 v37 (.bool false) λv38=>B.gd h v38 false (λK=>K v6 h) λv40 h=>B.gd h v38 false (λK=>K v1 h) λv41 h=>B.gd h v38 false (λK=>B.pv (V.zbg v41) λv=>K v h) λv42 h=>B.gd h v38 false (λK=>B.pv (V.bin .geq v40 v42) λv=>K v h) λv43 h=>B.gd h v38 false (λK=>K v43 h) λv44 h=>B.gd h v44 true (λK=>K v5 h) λv45 h=>B.gd h v44 true (λK=>K v6 h) λv46 h=>B.gd h v44 true (λK=>B.pv (V.zb4 es v45 v46) λv=>K v h) λv47 h=>B.gd h v44 true (λK=>B.ldn h v47 es λv=>K v h) λv48 h=>B.gd h v44 true (λK=>K v6 h) λv49 h=>B.gd h v44 true (λK=>K v1 h) λv50 h=>B.gd h v44 true (λK=>B.pv (V.zbg v50) λv=>K v h) λv51 h=>B.gd h v44 true (λK=>B.pv (V.bin .sub v49 v51) λv=>K v h) λv52 h=>B.gd h v44 true (λK=>B.call C f [(.int .i64 m),v52] h (B.zoy h [(v47,some es)] K)) λv53 h=>B.gd h v44 true (λK=>B.pv (V.zpx .eql sh v48 v53) λv=>K v h) λv54 h=>B.gd h v44 true (λK=>B.pv (V.un .not v54) λv=>K v h) λv55 h=>B.gd h v38 false (λK=>B.pick v44 v55 (.bool false) λv=>K v h) λv56 h=>B.pick v38 (.bool true) v56 λv57=>B.cond v57 (Q (.bool false) h) (B.pv (V.bin .add v6 (.int .i64 1)) λv22=>Y1 [v22] h)) (Q (.bool true) h)
@[simp] def zqa.l4(C:zh)(es f:Nat)(sh:List Ck)(m:Int)(Q:zQ)(v1 v5:za):zG|[v6],h,Y1=>zqa.k2 C es f sh m Q Y1 v1 v5 v6 h|_,_,_=>False
def zqa(C:zh)(es f:Nat)(sh:List Ck)(m:Int)(v0 v1:za)(h:zb)(Q:zQ):Prop:=B.pv (V.zbg v0) λv8=>B.pv (V.zbg v1) λv10=>B.pv (V.bin .neq v8 v10) λv11=>B.cond v11 (Q (.bool false) h) (B.pv (V.zbg v1) λv14=>B.pv (V.bin .add v14 (.int .i64 12)) λv15=>B.pv (V.zhn es v0 none (some v15)) λv16=>zd (zqa.l4 C es f sh m Q v1 v16) [(.int .i64 0)] h)
theorem zu7{f:Nat}{m:Int}{mk:Int->T}(s1:∀(i:Int)(h:zb)(Q:zQ),Q (.agg (F.cs (mk i))) h->C f [.int .i64 m,.int .i64 i] h Q)
  {x y:za} {L M:List T} {R:List (List za)} {h:zb} {Q:zQ} (hx:SlX h F.es x (L.map F.cs) (marks F mk 12)) (hy:SlX h F.es y (M.map F.cs) R) (hlen:L.length <= 100000000)
  (hq:Q (.bool (decide (L=M))) h):zqa C F.es f F.sh m x y h Q:=by
 have hlx:=hx.zbg;have hly:=hy.zbg;rw[List.length_map]at hlx hly;simp -dsimp[zqa,hlx,hly];refine B.zl (λhb=>?_) (λhb=>?_)<;>simp -dsimp at hb ⊢
 ·rw[decide_eq_false λe=>hb (by rw[e])]at hq
  exact hq
 ·have e1:IntKind.i64.wrap ((M.length:Int)+12)=((M.length+12:Nat):Int):=by rw[wrap_i64 (by omega) (by omega)];omega
  obtain⟨z,e2,e3,e4⟩:=hx.slice F.pos (lo:=0) (hi:=M.length+12) (a:=none) (b:=some (.int .i64 ((M.length+12:Nat):Int))) (.inl ⟨rfl,rfl⟩) (.inr ⟨_,rfl⟩) (by omega) (by simp;omega);have h1:((L.map F.cs++marks F mk 12).take (M.length+12)).drop 0=L.map F.cs++marks F mk 12:=by rw[List.drop_zero,List.take_of_length_le];simp;omega
  rw[h1]at e3;have hlz:=e3.zbg;simp only[List.length_append,List.length_map,marks_len]at hlz;simp only[hly,V.zfe,e1,e2,B.ze];refine zd.intro (λn vs hh=>∃k,k+n=L.length+12 /\ vs=[.int .i64 k] /\ hh=h /\ L.take k=M.take k) (L.length+12) ?_ ⟨0,by simp,by simp,rfl,by simp⟩;rintro Y n vs _ ⟨k,hn,rfl,rfl,he⟩ hY;simp -dsimp[hlz];refine B.zl (λhc=>?_) (λhc=>?_)<;>simp -dsimp at hc ⊢
  ·have hk:k<(L.map F.cs++marks F mk 12).length:=by simp;omega
   by_cases hkL:k<L.length
   ·have ew:=zgd hkL
    have eu:=zgd (L:=M) (k:=k) (by omega);obtain⟨w,hw⟩:=ew;obtain⟨u,hu⟩:=eu;have hk2:k<(M.map F.cs).length:=by simp;omega
    have hkM:k<M.length:=by omega
    have hwz:(L.map F.cs++marks F mk 12)[k]?=some (F.cs w):=by rw[List.getElem?_append_left (by simpa using hkL)];exact get_map hw
    by_cases hwu:w=u
    ·subst hwu
     simp -dsimp[hly,hkM,e3.zjk hk,hy.zjk hk2,e3.elem hwz,hy.elem (get_map hu),F.eql,show ¬ M.length <= k by omega,zjf (n:=k) (by omega)];refine hY (L.length+12-(k+1)) _ _ (by omega) ⟨k+1,by omega,by simp,rfl,?_⟩;rw[take_succ hw,take_succ hu,he]
    ·simp -dsimp[hly,hkM,e3.zjk hk,hy.zjk hk2,e3.elem hwz,hy.elem (get_map hu),F.eql,hwu]
     rw[decide_eq_false λe=>by subst e;rw[hw]at hu;cases hu;exact hwu rfl]at hq;exact hq
   ·have hkM:¬ k<M.length:=by omega
    have hmk:(L.map F.cs++marks F mk 12)[k]?=some (F.cs (mk ((k-M.length:Nat):Int))):=by
     rw[List.getElem?_append_right (by simp;omega),List.length_map,show k-L.length=k-M.length by omega];exact marks_get F mk (by omega)
    have e5:IntKind.i64.wrap ((k:Int)-M.length)=((k-M.length:Nat):Int):=by rw[wrap_i64 (by omega) (by omega)];omega
    simp -dsimp[hly,hkM,e3.zjk hk,e3.elem hmk,show M.length <= k by omega,e5];refine s1 _ _ _ ⟨?_,?_⟩
    ·intro p hp
     rw[List.mem_singleton.1 hp];exact⟨_,e3.elem hmk,e3.elem hmk⟩
    ·simp[F.eql,zjf (n:=k) (by omega)]
     refine hY (L.length+12-(k+1)) _ _ (by omega) ⟨k+1,by omega,by simp,rfl,?_⟩;rw[List.take_of_length_le (by omega),List.take_of_length_le (by omega)]at he ⊢;exact he
  ·rw[List.take_of_length_le (by omega),List.take_of_length_le (by omega)]at he
   rw[decide_eq_true he]at hq;exact hq
end
end Go.Ab
