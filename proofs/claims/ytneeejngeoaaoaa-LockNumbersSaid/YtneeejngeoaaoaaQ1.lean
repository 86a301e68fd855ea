/- What is proved: a part of the way to the statement: AbA. No conditions. -/
import Derived.Calls
import Derived.Orders
import Derived.Below
import Derived.Laws.IdiomCopy
import Derived.ArgAppend
import Derived.RangeFuncRecord
import Derived.Lib.Strings
import Derived.Laws.StructEq
import Derived.Laws.Tables
import Derived.Great.BuildSlice
import Derived.Laws.IdiomStrings
import Derived.Laws.MakeOwn
import Derived.Deep.AppendSrc
import Derived.Maps.RangeRun
set_option linter.unusedVariables false
set_option linter.unusedSimpArgs false
namespace Go.Ab
open List
open Go.RowKit (Below)
inductive za where
 | undef
 | bool (b:Bool)
 | int (k:IntKind) (n:Int)
 | str (s:List UInt8)
 | zk4
 | ptr (id gen off:Nat)
 | zed
 | sz
 | sl (id gen off len es cp:Nat)
 | nilf
 | zo8
 | mp (id:Nat)
 | fn (f:Nat) (first zjf:List za)
 | yld (id:Nat)
 | agg (cs:List za)
 | tup (vs:List za)
 deriving Inhabited
structure Loc where
 blk:Nat
 base:Nat
 lo:Nat
 size:Nat
abbrev zd1:=Nat->Nat->Option Loc
mutual
def zfm(ρ:zd1):za->Value->Prop | .undef,_=>True | .bool b,v=>v= .bool b | .int k n,v=>v= .int k n | .str s,v=>∃b:ByteArray,v= .string b /\ b.data.toList=s | .zk4,v=>v= .pointer none | .ptr id g off,v=>∃L,ρ id g=some L /\ L.lo <= off /\ v= .pointer (some ⟨L.blk,L.base+(off-L.lo),none⟩) | .zed,v=>v= .slice none 0 0 | .sz,v=>∃a,v= .slice (some a) 0 0 | .sl id g off len es cp,v=>∃L,ρ id g=some L /\ L.lo <= off /\ ((∃cap,v= .slice (some ⟨L.blk,L.base+(off-L.lo),none⟩) len cap /\ len <= cap /\ L.base+(off-L.lo)+cap*es <= L.size /\ cap <= maxLen /\ cp <= cap /\ (cp=0->len=cap \/ len=0)) \/ (len=0 /\ cp=0 /\ ∃a,v= .slice (some a) 0 0)) | .nilf,v=>v= .nilFunc | .zo8,v=>v= .map none | .mp id,v=>∃L,ρ id 0=some L /\ v= .map (some L.blk) | .fn f first zjf,v=>∃l l',v= .func (.func f) (List.toArray l) (List.toArray l') /\ zd6 ρ first l /\ zd6 ρ zjf l' | .yld id,v=>∃L,ρ id 0=some L /\ v= .func (.yield L.blk) #[] #[] | .agg cs,v=>∃l:List Value,v= .agg l.toArray /\ zd6 ρ cs l /\ ∀u∈l,u.oneCell'=true | .tup vs,v=>∃l:List Value,v= .tuple l.toArray /\ zd6 ρ vs l
def zd6(ρ:zd1):List za->List Value->Prop|[],l=>l=[]|a::as,l=>∃u us,l=u::us /\ zfm ρ a u /\ zd6 ρ as us
end
def zd1.le(ρ ρ':zd1):Prop:=∀i g L,ρ i g=some L->ρ' i g=some L
theorem zd1.le_refl(ρ:zd1):ρ.le ρ:=λ_ _ _ h=>h
theorem zd1.le_trans{a b c:zd1}(h:a.le b)(k:b.le c):a.le c:=λi g L e=>k i g L (h i g L e)
mutual
theorem zfm.mono{ρ ρ':zd1}(h:ρ.le ρ'):∀(a:za)(v:Value),zfm ρ a v->zfm ρ' a v | .undef,_,_=>trivial | .bool _,_,e=>e | .int _ _,_,e=>e | .str _,_,e=>e | .zk4,_,e=>e | .ptr _ _ _,_,⟨L,h1,h2⟩=>⟨L,h _ _ _ h1,h2⟩ | .zed,_,e=>e | .sz,_,e=>e | .sl _ _ _ _ _ _,_,⟨L,h1,h2⟩=>⟨L,h _ _ _ h1,h2⟩ | .nilf,_,e=>e | .zo8,_,e=>e | .mp _,_,⟨L,h1,h2⟩=>⟨L,h _ _ _ h1,h2⟩ | .fn _ first zjf,_,⟨l,l',e,h1,h2⟩=>⟨l,l',e,zd6.mono h first l h1,zd6.mono h zjf l' h2⟩ | .yld _,_,⟨L,h1,e⟩=>⟨L,h _ _ _ h1,e⟩ | .agg cs,_,⟨l,e,h1,h2⟩=>⟨l,e,zd6.mono h cs l h1,h2⟩ | .tup vs,_,⟨l,e,h1⟩=>⟨l,e,zd6.mono h vs l h1⟩
theorem zd6.mono{ρ ρ':zd1}(h:ρ.le ρ'):∀(as:List za)(l:List Value),zd6 ρ as l->zd6 ρ' as l|[],_,e=>e|a::as,_,⟨u,us,e,h1,h2⟩=>⟨u,us,e,zfm.mono h a u h1,zd6.mono h as us h2⟩
end
theorem zd6.length{ρ:zd1}:∀{as:List za}{l:List Value},zd6 ρ as l->as.length=l.length
 | [],_,e=>by subst e;rfl
 | a::as,_,⟨u,us,e,_,h2⟩=>by subst e;simp[zd6.length h2]
theorem zd6.get{ρ:zd1}:∀{as:List za}{l:List Value},zd6 ρ as l->∀{i:Nat}{a:za},as[i]?=some a->∃u:Value,l[i]?=some u /\ zfm ρ a u
 | [],_,_,i,a,h=>by simp at h
 | x::xs,_,⟨u,us,e,h1,h2⟩,i,a,h=>by
  subst e
  cases i with
  | zero=>simp at h;subst h;exact⟨u,by simp,h1⟩
  | succ i=>simp at h;obtain⟨u',hu,hr⟩:=zd6.get h2 h;exact⟨u',by simpa using hu,hr⟩
theorem zd6.of_get{ρ:zd1}:∀{as:List za}{l:List Value},as.length=l.length ->
  (∀(i:Nat)(a:za)(u:Value),as[i]?=some a->l[i]?=some u->zfm ρ a u)->zd6 ρ as l
 | [],l,h,_=>by
  cases l with
  | nil=>rfl
  | cons _ _=>simp at h
 | x::xs,l,h,k=>by
  cases l with
  | nil=>simp at h
  | cons u us=>exact⟨u,us,rfl,k 0 x u (by simp) (by simp),zd6.of_get (by simpa using h) λi a v ha hv=>k (i+1) a v (by simpa using ha) (by simpa using hv)⟩
theorem zd6.append{ρ:zd1}:∀{as bs:List za}{l m:List Value},zd6 ρ as l->zd6 ρ bs m->zd6 ρ (as++bs) (l++m)
 | [],_,_,_,e,h=>by subst e;exact h
 | _::_,_,_,_,⟨u,us,e,h1,h2⟩,h=>by subst e;exact⟨u,us++_,rfl,h1,zd6.append h2 h⟩
inductive AObj where
 | iter (s:List UInt8) (pos:Nat)
 | map (es:List (za×za×Nat)) (clock:Nat)
 | mapIter (m:Option Nat) (since:Nat) (seen:List Nat) (last:Nat)
 | loop (sz:Nat) (s:Nat->za) (ps:Array Tmp) (assign body:Code) (st:Nat)
 | dfr (o:Bool)
 | gone
structure Blk where
 cells:List za
 zij:List (Nat×Nat)
 next:Nat
 own:Bool
 obj:Option AObj
def zb:={ f:Nat->Option Blk // ∃N,∀i,N <= i->f i=none }
abbrev zQ:=za->zb->Prop
abbrev zL:=List za->zb->Prop
abbrev zG:=List za->zb->(List za->zb->Prop)->Prop
abbrev zN:=Nat->Nat
instance:CoeFun zb (λ_=>Nat->Option Blk):=⟨Subtype.val⟩
theorem zb.ext{h H:zb}(e:∀i,h i=H i):h=H:=Subtype.ext (funext e)
def zb.empty:zb:=⟨λ_=>none,0,λ_ _=>rfl⟩
def zdn(cs:List za):Blk:={ cells:=cs,zij:=[(0,cs.length)],next:=1,own:=true,obj:=none }
def zgb(o:AObj):Blk:={ cells:=[],zij:=[],next:=1,own:=true,obj:=some o }
def upd(h:zb)(id:Nat)(b:Blk):zb:=⟨λi=>bif Nat.beq i id then some b else h i,by
 obtain⟨N,k⟩:=h.2
 refine⟨max N (id+1),λi hi=>?_⟩
 have:Nat.beq i id=false:=by rw[<-Bool.not_eq_true,Nat.beq_eq];omega
 show (bif Nat.beq i id then some b else h i)=none
 rw[this]
 exact k i (by omega)⟩
def zb.le(h H:zb):Prop:=∀i b,h i=some b->H i=some b
theorem zb4(h:zb)(id:Nat)(b:Blk):upd h id b id=some b:=by simp[upd]
theorem zy(h:zb){id i:Nat}(b:Blk)(hne:i≠id):upd h id b i=h i:=by
 have:Nat.beq i id=false:=by rw[<-Bool.not_eq_true,Nat.beq_eq];exact hne
 simp[upd,this]
theorem zb.le_refl(h:zb):h.le h:=λ_ _ e=>e
theorem zb.le_trans{a b c:zb}(h:a.le b)(k:b.le c):a.le c:=λi x e=>k i x (h i x e)
theorem zgi{h:zb}{id:Nat}(b:Blk)(hf:h id=none):h.le (upd h id b):=λi x e=>by
 have:i≠id:=λhi=>by subst hi;rw[hf]at e;cases e
 rw[zy h b this];exact e
theorem zhi{h H:zb}{id:Nat}(b:Blk)(hle:h.le H):(upd h id b).le (upd H id b):=λi x e=>by
 by_cases hi:i=id
 ·subst hi;rw[zb4]at *;exact e
 ·rw[zy _ _ hi]at *;exact hle i x e
theorem zpz(h:zb){i j:Nat}(a b:Blk)(hne:i≠j):upd (upd h i a) j b=upd (upd h j b) i a:=by
 apply zb.ext;intro k;by_cases hi:k=i
 ·subst hi;rw[zy _ _ hne,zb4,zb4]
 ·by_cases hj:k=j
  ·subst hj;rw[zb4,zy _ _ hi,zb4]
  ·rw[zy _ _ hj,zy _ _ hi,zy _ _ hi,zy _ _ hj]
theorem upd_upd(h:zb)(i:Nat)(a b:Blk):upd (upd h i a) i b=upd h i b:=by
 apply zb.ext;intro k;by_cases hi:k=i
 ·subst hi;rw[zb4,zb4]
 ·rw[zy _ _ hi,zy _ _ hi,zy _ _ hi]
def frOk(fr:Nat×Nat)(size:Nat):Prop:=fr.1=fr.2
def zei(ρ:zd1):List (za×za×Nat)->List MapEntry->Prop|[],[]=>True|e::es,m::ms=>zfm ρ e.1 m.key /\ zfm ρ e.2.1 m.val /\ e.2.2=m.born /\ zei ρ es ms|_,_=>False
theorem zei.mono{ρ ρ':zd1}(h:ρ.le ρ'):∀{es:List (za×za×Nat)}{ms:List MapEntry},zei ρ es ms->zei ρ' es ms|[],[],_=>trivial|_::_,_::_,⟨h1,h2,h3,h4⟩=>⟨h1.mono h,h2.mono h,h3,zei.mono h h4⟩
theorem zei.length{ρ:zd1}:∀{es:List (za×za×Nat)}{ms:List MapEntry},zei ρ es ms->es.length=ms.length
 | [],[],_=>rfl
 | _::_,_::_,⟨_,_,_,h⟩=>by simp[zei.length h]
theorem zei.append{ρ:zd1}:∀{es fs:List (za×za×Nat)}{ms ns:List MapEntry},zei ρ es ms->zei ρ fs ns->zei ρ (es++fs) (ms++ns)|[],_,[],_,_,h=>h|_::_,_,_::_,_,⟨h1,h2,h3,h4⟩,h=>⟨h1,h2,h3,zei.append h4 h⟩
theorem zei.get{ρ:zd1}:∀{es:List (za×za×Nat)}{ms:List MapEntry},zei ρ es ms->∀{i:Nat}{e:za×za×Nat},es[i]?=some e->∃m,ms[i]?=some m /\ zfm ρ e.1 m.key /\ zfm ρ e.2.1 m.val /\ e.2.2=m.born
 | [],[],_,_,_,h=>by simp at h
 | x::_,m::_,⟨h1,h2,h3,h4⟩,i,e,h=>by
  cases i with
  | zero=>simp at h;subst h;exact⟨m,by simp,h1,h2,h3⟩
  | succ i=>simp at h;obtain⟨n,hn,k⟩:=zei.get h4 h;exact⟨n,by simpa using hn,k⟩
theorem zei.set{ρ:zd1}:∀{es:List (za×za×Nat)}{ms:List MapEntry},zei ρ es ms->∀(i:Nat){e:za×za×Nat}{m:MapEntry},zfm ρ e.1 m.key->zfm ρ e.2.1 m.val->e.2.2=m.born->zei ρ (es.set i e) (ms.set i m)
 | [],[],_,_,_,_,_,_,_=>trivial
 | _::_,_::_,⟨h1,h2,h3,h4⟩,i,_,_,k1,k2,k3=>by
  cases i with
  | zero=>exact⟨k1,k2,k3,h4⟩
  | succ i=>exact⟨h1,h2,h3,zei.set h4 i k1 k2 k3⟩
theorem zei.eraseIdx{ρ:zd1}:∀{es:List (za×za×Nat)}{ms:List MapEntry},zei ρ es ms->∀(i:Nat),zei ρ (es.eraseIdx i) (ms.eraseIdx i)
 | [],[],_,_=>trivial
 | _::_,_::_,⟨h1,h2,h3,h4⟩,i=>by
  cases i with
  | zero=>exact h4
  | succ i=>exact⟨h1,h2,h3,zei.eraseIdx h4 i⟩
theorem zei.mem{ρ:zd1}:∀{es:List (za×za×Nat)}{ms:List MapEntry},zei ρ es ms->∀m∈ms,∃e∈es,zfm ρ e.1 m.key /\ zfm ρ e.2.1 m.val /\ e.2.2=m.born
 | [],[],_,_,hm=>by cases hm
 | x::_,_::_,⟨h1,h2,h3,h4⟩,m,hm=>by
  rcases mem_cons.1 hm with rfl|hm
  ·exact⟨x,by simp,h1,h2,h3⟩
  ·obtain⟨e,he,k⟩:=zei.mem h4 m hm;exact⟨e,by simp[he],k⟩
theorem zei.filter{ρ:zd1}(p:Nat->Bool):∀{es:List (za×za×Nat)}{ms:List MapEntry},zei ρ es ms->zei ρ (es.filter λe=>p e.2.2) (ms.filter λm=>p m.born)
 | [],[],_=>trivial
 | x::_,m::_,⟨h1,h2,h3,h4⟩=>by
  simp only[filter_cons,h3]
  cases p m.born
  ·exact zei.filter p h4
  ·exact⟨h1,h2,h3,zei.filter p h4⟩
theorem zei.find{ρ:zd1}(p:Nat->Bool):∀{es:List (za×za×Nat)}{ms:List MapEntry},zei ρ es ms->∀{e:za×za×Nat},(es.find? λe=>p e.2.2)=some e->∃m,(ms.find? λm=>p m.born)=some m /\ zfm ρ e.1 m.key /\ zfm ρ e.2.1 m.val
 | [],[],_,_,h=>by cases h
 | x::_,m::_,⟨h1,h2,h3,h4⟩,e,h=>by
  simp only[find?_cons,h3]at h ⊢
  cases hp:p m.born
  ·simp only[hp]at h;exact zei.find p h4 h
  ·simp only[hp,Option.some.injEq]at h;subst h;exact⟨m,rfl,h1,h2⟩
theorem zei.findIdx{ρ:zd1}(p:Nat->Bool):∀{es:List (za×za×Nat)}{ms:List MapEntry},zei ρ es ms->(es.findIdx? λe=>p e.2.2)=(ms.findIdx? λm=>p m.born)
 | [],[],_=>rfl
 | x::_,m::_,⟨h1,h2,h3,h4⟩=>by
  simp only[findIdx?_cons,h3,zei.findIdx p h4]
def stOf:Nat->LoopState×Option Code|0=>(.busy,none)|1=>(.ready,none)|2=>(.done,some .ret)|j+3=>(.done,some (.exit j))
def zpn(ρ:zd1):AObj->Obj->Prop | .iter s pos,o=>∃b,o= .stringIter b pos /\ b.data.toList=s | .map es clock,o=>∃ms,o= .map ms clock /\ zei ρ es ms.toList | .mapIter none since seen last,o=>o= .mapIter none since seen.toArray last | .mapIter (some id) since seen last,o=>∃L,ρ id 0=some L /\ o= .mapIter (some L.blk) since seen.toArray last | .loop sz s ps assign body st,o=>∃r:Loop,o= .loop r /\ r.params=ps /\ r.assign=assign /\ r.body=body /\ r.tmps.size=sz /\ (∀k,zfm ρ (s k) (r.tmps.getD k Go.undef)) /\ r.state=(stOf st).1 /\ r.pending=(stOf st).2 | .dfr b,o=>o= .deferred (if b then some [] else none) | .gone,o=>∀arr e fr,o≠ .cells arr e fr
structure BlkOk(B:Nat)(ρ:zd1)(w:World)(id:Nat)(b:Blk):Prop where
 nxt:∀g,b.next <= g->ρ id g=none
 gen:∀g hi,(g,hi)∈b.zij->hi <= b.cells.length /\ ∃L arr e fr,ρ id g=some L /\ w.heap[L.blk]?=some (.cells arr e fr) /\ arr.size=L.size /\
  L.base+(hi-L.lo) <= L.size /\ (b.own=true->B <= L.blk /\ frOk fr L.size) /\
  ∀j,L.lo <= j->j<hi->∀a,b.cells[j]?=some a->∃u,arr[L.base+(j-L.lo)]?=some u /\ zfm ρ a u /\ u.oneCell'=true
 align:∀g hi g' hi',(g,hi)∈b.zij->(g',hi')∈b.zij->∀L L',ρ id g=some L->ρ id g'=some L'->L.blk=L'.blk->L.base+L'.lo=L'.base+L.lo
 obj:∀o,b.obj=some o->b.zij=[] /\ ∃L ob,ρ id 0=some L /\ L.base=0 /\ L.lo=0 /\ B <= L.blk /\ w.heap[L.blk]?=some ob /\ zpn ρ o ob
structure R(w0:World)(ρ:zd1)(H:zb)(w:World):Prop where
 below:Below w0.heap.size w0 w
 fin:∃N,∀i,N <= i->H i=none /\ ∀g,ρ i g=none
 blk:∀id b,H id=some b->BlkOk w0.heap.size ρ w id b
 sep:∀i j bi bj,i≠j->H i=some bi->H j=some bj->bi.own=true->∀gi∈bi.zij,∀gj∈bj.zij,∀Li Lj,ρ i gi.1=some Li->ρ j gj.1=some Lj->Li.blk≠Lj.blk
 osep:∀i j bi bj,i≠j->H i=some bi->H j=some bj->bi.obj.isSome=true->bj.obj.isSome=true->∀Li Lj,ρ i 0=some Li->ρ j 0=some Lj->Li.blk≠Lj.blk
theorem zpn.mono{ρ ρ':zd1}(h:ρ.le ρ'):∀{o:AObj}{ob:Obj},zpn ρ o ob->zpn ρ' o ob | .iter _ _,_,e=>e | .map _ _,_,⟨ms,e,h1⟩=>⟨ms,e,h1.mono h⟩ | .mapIter none _ _ _,_,e=>e | .mapIter (some _) _ _ _,_,⟨L,h1,e⟩=>⟨L,h _ _ _ h1,e⟩ | .loop _ _ _ _ _ _,_,⟨r,h1,h2,h3,h4,h5,h6,h7⟩=>⟨r,h1,h2,h3,h4,h5,λk=>(h6 k).mono h,h7⟩ | .dfr _,_,e=>e | .gone,_,e=>e
theorem zpn.notCells{ρ:zd1}:∀{o:AObj}{ob:Obj},zpn ρ o ob->∀arr e fr,ob≠ .cells arr e fr
 | .iter _ _,_,⟨_,e,_⟩,_,_,_=>by rw[e];simp
 | .map _ _,_,⟨_,e,_⟩,_,_,_=>by rw[e];simp
 | .mapIter none _ _ _,_,e,_,_,_=>by rw[show _=_ from e];simp
 | .mapIter (some _) _ _ _,_,⟨_,_,e⟩,_,_,_=>by rw[e];simp
 | .loop _ _ _ _ _ _,_,⟨_,e,_⟩,_,_,_=>by rw[e];simp
 | .dfr _,_,e,_,_,_=>by rw[show _=_ from e];simp
 | .gone,_,e,_,_,_=>e _ _ _
theorem R.drew{w0:World}{ρ:zd1}{H:zb}{w:World}(h:R w0 ρ H w)(n:Nat):R w0 ρ H { w with drawn:=n } where
 below:=h.below.trans ⟨rfl,rfl,rfl,Nat.le_refl _,λ_ _=>rfl⟩
 fin:=h.fin
 blk:=λid b e=>let k:=h.blk id b e;⟨k.nxt,k.gen,k.align,k.obj⟩
 sep:=h.sep
 osep:=h.osep
def zd1.put(ρ:zd1)(id g:Nat)(L:Loc):zd1:=λi k=>if i=id /\ k=g then some L else ρ i k
theorem zd1.ze7(ρ:zd1)(id g:Nat)(L:Loc):ρ.put id g L id g=some L:=by simp[zd1.put]
theorem zd1.zd0(ρ:zd1){id g i k:Nat}(L:Loc)(h:¬(i=id /\ k=g)):ρ.put id g L i k=ρ i k:=by simp[zd1.put,h]
theorem zd1.zln{ρ:zd1}{id g:Nat}(L:Loc)(h:ρ id g=none):ρ.le (ρ.put id g L):=λi k X e=>by
 rw[zd1.zd0]
 ·exact e
 ·rintro⟨rfl,rfl⟩;rw[h]at e;cases e
theorem R.new{w0:World}{ρ:zd1}{H:zb}{w:World}(h:R w0 ρ H w){id:Nat}(hid:H id=none)(hρ:∀g,ρ id g=none)
  (cs:List za) (arr:Array Value) (e:TypeId) (fr:Nat×Nat) (hfr:frOk fr arr.size) (hl:cs.length <= arr.size)
  (hc:∀(j:Nat)(a:za),cs[j]?=some a->∃u,arr[j]?=some u /\ zfm ρ a u /\ u.oneCell'=true):
  R w0 (ρ.put id 0 ⟨w.heap.size,0,0,arr.size⟩) (upd H id (zdn cs)) { w with heap:=w.heap.push (.cells arr e fr) }:=by
 have hle:ρ.le (ρ.put id 0 ⟨w.heap.size,0,0,arr.size⟩):=zd1.zln _ (hρ 0);have hold:∀k o,w.heap[k]?=some o->(w.heap.push (.cells arr e fr))[k]?=some o:=λk o hk=>by
  rw[Array.getElem?_push];have:k<w.heap.size:=(Array.getElem?_eq_some_iff.1 hk).1;rw[if_neg (by omega)];exact hk
 have hsz:=h.below.size;constructor
 ·exact h.below.trans ⟨rfl,rfl,rfl,by simp,λk hk=>by
   show (w.heap.push _)[k]?=_;rw[Array.getElem?_push,if_neg (by omega)]⟩
 ·obtain⟨N,k⟩:=h.fin
  refine⟨max N (id+1),λi hi=>⟨?_,λg=>?_⟩⟩
  ·rw[zy _ _ (by omega)];exact(k i (by omega)).1
  ·rw[zd1.zd0 _ _ (by omega)];exact(k i (by omega)).2 g
 ·intro i b hb
  by_cases hi:i=id
  ·subst hi
   rw[zb4]at hb;cases hb;refine⟨λg hg=>?_,λg hi hm=>?_,λg hi g' hi' hm hm' L L' e1 e2 _=>?_,λo ho=>by simp[zdn]at ho⟩
   ·rw[zd1.zd0]
    ·exact hρ g
    ·simp only[zdn]at hg;omega
   ·simp only[zdn,mem_singleton,Prod.mk.injEq]at hm
    obtain⟨rfl,rfl⟩:=hm;refine⟨Nat.le_refl _,⟨w.heap.size,0,0,arr.size⟩,arr,e,fr,zd1.ze7 ..,?_,rfl,by simpa using hl,λ_=>⟨hsz,hfr⟩,?_⟩
    ·show (w.heap.push _)[w.heap.size]?=_
     simp
    ·intro j _ hj a ha
     obtain⟨u,h1,h2,h3⟩:=hc j a ha;exact⟨u,by simpa using h1,h2.mono hle,h3⟩
   ·simp only[zdn,mem_singleton,Prod.mk.injEq]at hm hm'
    obtain⟨rfl,rfl⟩:=hm;obtain⟨rfl,rfl⟩:=hm';rw[e1]at e2;cases e2;rfl
  ·rw[zy _ _ hi]at hb
   have ok:=h.blk i b hb;refine⟨λg hg=>?_,λg hi' hm=>?_,λg hi' g' hi'' hm hm' L L' e1 e2=>?_,λo ho=>?_⟩
   ·rw[zd1.zd0 _ _ (by omega)];exact ok.nxt g hg
   ·obtain⟨h0,L,arr',e',fr,h1,h2,h3,h4,h5,h6⟩:=ok.gen g hi' hm
    refine⟨h0,L,arr',e',fr,hle _ _ _ h1,hold _ _ h2,h3,h4,h5,λj hj1 hj2 a ha=>?_⟩;obtain⟨u,k1,k2,k3⟩:=h6 j hj1 hj2 a ha;exact⟨u,k1,k2.mono hle,k3⟩
   ·rw[zd1.zd0 _ _ (by omega)]at e1 e2
    exact ok.align g hi' g' hi'' hm hm' L L' e1 e2
   ·obtain⟨h0,L,ob,h1,h2,h3,h4,h5,h6⟩:=ok.obj o ho
    exact⟨h0,L,ob,hle _ _ _ h1,h2,h3,h4,hold _ _ h5,h6.mono hle⟩
 ·
  have lt:∀j bj,H j=some bj->∀gj∈bj.zij,∀Lj,ρ j gj.1=some Lj->Lj.blk<w.heap.size:=λj bj hj gj hg Lj hL=>by
   obtain⟨_,L,arr',e',fr,h1,h2,_⟩:=(h.blk j bj hj).gen gj.1 gj.2 hg;rw[hL]at h1;cases h1;exact(Array.getElem?_eq_some_iff.1 h2).1
  intro i j bi bj hne hi hj hown gi hgi gj hgj Li Lj e1 e2;by_cases h1:i=id
  ·subst h1
   rw[zb4]at hi;cases hi;rw[zy _ _ (Ne.symm hne)]at hj;simp only[zdn,mem_singleton]at hgi;subst hgi;rw[zd1.ze7]at e1;cases e1;rw[zd1.zd0 _ _ (by omega)]at e2;have:=lt j bj hj gj hgj Lj e2;simp only;omega
  ·rw[zy _ _ h1]at hi
   rw[zd1.zd0 _ _ (by omega)]at e1;by_cases h2:j=id
   ·subst h2
    rw[zb4]at hj;cases hj;simp only[zdn,mem_singleton]at hgj;subst hgj;rw[zd1.ze7]at e2;cases e2;have:=lt i bi hi gi hgi Li e1;simp only;omega
   ·rw[zy _ _ h2]at hj
    rw[zd1.zd0 _ _ (by omega)]at e2;exact h.sep i j bi bj hne hi hj hown gi hgi gj hgj Li Lj e1 e2
 ·intro i j bi bj hne hi hj oi oj Li Lj e1 e2
  have h1:i≠id:=λhh=>by subst hh;rw[zb4]at hi;cases hi;simp[zdn]at oi
  have h2:j≠id:=λhh=>by subst hh;rw[zb4]at hj;cases hj;simp[zdn]at oj
  rw[zy _ _ h1]at hi;rw[zy _ _ h2]at hj;rw[zd1.zd0 _ _ (by omega)]at e1 e2;exact h.osep i j bi bj hne hi hj oi oj Li Lj e1 e2
end Go.Ab
namespace Go.Ab
open List
open Go.RowKit (Below)
structure Turned(w w':World)(k:Nat)(arr:Array Value)(e:TypeId)(fr:Nat×Nat):Prop where
 os:w'.os=w.os
 tape:w'.tape=w.tape
 output:w'.output=w.output
 size:w'.heap.size=w.heap.size
 at_:w'.heap[k]?=some (.cells arr e fr)
 other:∀i,i≠k->w'.heap[i]?=w.heap[i]?
theorem Turned.below{w0 w w':World}{k:Nat}{arr:Array Value}{e:TypeId}{fr:Nat×Nat}(h:Turned w w' k arr e fr)(hb:Below w0.heap.size w0 w)(hk:w0.heap.size <= k):Below w0.heap.size w0 w':=hb.trans ⟨h.os,h.tape,h.output,Nat.le_of_eq h.size.symm,λi hi=>h.other i (by omega)⟩
theorem R.write{w0:World}{ρ:zd1}{H:zb}{w w':World}(h:R w0 ρ H w){id:Nat}{b:Blk}(hid:H id=some b)(hown:b.own=true)
  {g hi:Nat} (hg:(g,hi)∈b.zij) {L:Loc} (hL:ρ id g=some L) {arr':Array Value} {e:TypeId} {fr':Nat×Nat} (hfr:frOk fr' L.size) (ht:Turned w w' L.blk arr' e fr') (hsz:arr'.size=L.size)
  (cs':List za) (hcs:hi <= cs'.length)
  (hc:∀j,L.lo <= j->j<hi->∀a,cs'[j]?=some a->∃u,arr'[L.base+(j-L.lo)]?=some u /\ zfm ρ a u /\ u.oneCell'=true):
  R w0 ρ (upd H id { b with cells:=cs',zij:=[(g,hi)] }) w':=by
 obtain⟨h0,L',arr,e',fr,h1,h2,h3,h4,h5,h6⟩:=(h.blk id b hid).gen g hi hg;rw[hL]at h1;cases h1;have hno:b.obj=none:=by
  cases ho:b.obj with
  | none=>rfl
  | some o=>have:=((h.blk id b hid).obj o ho).1;rw[this]at hg;cases hg
 constructor
 ·exact ht.below h.below (h5 hown).1
 ·obtain⟨N,k⟩:=h.fin
  refine⟨max N (id+1),λi hi=>⟨?_,λg=>(k i (by omega)).2 g⟩⟩;rw[zy _ _ (by omega)];exact(k i (by omega)).1
 ·intro i bi hb
  by_cases hi':i=id
  ·subst hi'
   rw[zb4]at hb;cases hb;refine⟨λg hg=>(h.blk i b hid).nxt g hg,λg' hi' hm=>?_,λg1 k1 g2 k2 hm hm' L1 L2 e1 e2 _=>?_,λo ho=>by simp[hno]at ho⟩
   ·simp only[mem_singleton,Prod.mk.injEq]at hm
    obtain⟨rfl,rfl⟩:=hm;exact⟨hcs,L,arr',e,fr',hL,ht.at_,hsz,h4,λ_=>⟨(h5 hown).1,hfr⟩,hc⟩
   ·simp only[mem_singleton,Prod.mk.injEq]at hm hm'
    obtain⟨rfl,rfl⟩:=hm;obtain⟨rfl,rfl⟩:=hm';rw[e1]at e2;cases e2;rfl
  ·rw[zy _ _ hi']at hb
   have ok:=h.blk i bi hb;refine⟨ok.nxt,λg' hi'' hm=>?_,ok.align,λo ho=>?_⟩
   case refine_2=>
    obtain⟨q0,Lo,ob,q1,q2,q3,q4,q5,q6⟩:=ok.obj o ho;refine⟨q0,Lo,ob,q1,q2,q3,q4,?_,q6⟩;rw[ht.other _ (λhx=>by rw[hx,h2]at q5;exact q6.notCells _ _ _ (Option.some.inj q5).symm)];exact q5
   obtain⟨k0,L1,arr1,e1,fr1,k1,k2,k3⟩:=ok.gen g' hi'' hm;have:=h.sep id i b bi (Ne.symm hi') hid hb hown (g,hi) hg (g',hi'') hm L L1 hL k1;exact⟨k0,L1,arr1,e1,fr1,k1,by rw[ht.other _ (Ne.symm this)];exact k2,k3⟩
 ·intro i j bi bj hne hi' hj hoi gi hgi gj hgj Li Lj e1 e2
  by_cases c1:i=id
  ·subst c1
   rw[zb4]at hi';cases hi';rw[zy _ _ (Ne.symm hne)]at hj;simp only[mem_singleton]at hgi;subst hgi;exact h.sep i j b bj hne hid hj hown (g,hi) hg gj hgj Li Lj e1 e2
  ·rw[zy _ _ c1]at hi'
   by_cases c2:j=id
   ·subst c2
    rw[zb4]at hj;cases hj;simp only[mem_singleton]at hgj;subst hgj;exact h.sep i j bi b hne hi' hid hoi gi hgi (g,hi) hg Li Lj e1 e2
   ·rw[zy _ _ c2]at hj
    exact h.sep i j bi bj hne hi' hj hoi gi hgi gj hgj Li Lj e1 e2
 ·intro i j bi bj hne hi' hj oi oj Li Lj e1 e2
  have c1:i≠id:=λhh=>by subst hh;rw[zb4]at hi';cases hi';simp[hno]at oi
  have c2:j≠id:=λhh=>by subst hh;rw[zb4]at hj;cases hj;simp[hno]at oj
  rw[zy _ _ c1]at hi';rw[zy _ _ c2]at hj;exact h.osep i j bi bj hne hi' hj oi oj Li Lj e1 e2
def cutGens(zij:List (Nat×Nat))(e:Nat):List (Nat×Nat):=zij.map λp=>(p.1,min p.2 e)
theorem zm8{zij:List (Nat×Nat)}{e g k:Nat}(h:(g,k)∈cutGens zij e):∃k',(g,k')∈zij /\ k=min k' e:=by
 obtain⟨⟨g',k'⟩,h1,h2⟩:=mem_map.1 h;simp only[Prod.mk.injEq]at h2;obtain⟨rfl,rfl⟩:=h2;exact⟨k',h1,rfl⟩
def zhw(b:Blk)(e:Nat)(news:List za):Blk:={ cells:=b.cells.take e++news,zij:=(b.next,e+news.length)::cutGens b.zij e,next:=b.next+1,own:=b.own,obj:=none }
theorem R.app{w0:World}{ρ:zd1}{H:zb}{w w':World}(h:R w0 ρ H w){id:Nat}{b:Blk}(hid:H id=some b)(hown:b.own=true)
  {g hi:Nat} (hg:(g,hi)∈b.zij) {L:Loc} (hL:ρ id g=some L) {e:Nat} (he:e <= hi) (hlo:L.lo <= e) (news:List za) (L':Loc)
  (hbel:Below w0.heap.size w0 w')
  (hnew:(L'.blk=L.blk /\ L'.base=L.base /\ L'.lo=L.lo /\ L'.size=L.size) \/ (w.heap.size <= L'.blk /\ L.lo <= L'.lo /\ L'.lo <= e))
  (hb':w0.heap.size <= L'.blk)
  (hothers:∀k,k≠L.blk->k<w.heap.size->w'.heap[k]?=w.heap[k]?)
  (hold:∀arr ty fr,w.heap[L.blk]?=some (.cells arr ty fr)->∃arr',w'.heap[L.blk]?=some (.cells arr' ty fr) /\ arr'.size=arr.size /\ ∀x,x<L.base+(e-L.lo)->arr'[x]?=arr[x]?)
  {arr':Array Value} {ty:TypeId} {fr':Nat×Nat} (hfr:frOk fr' L'.size) (hat:w'.heap[L'.blk]?=some (.cells arr' ty fr')) (hsz:arr'.size=L'.size) (hroom:L'.base+(e+news.length-L'.lo) <= L'.size)
  (hc:∀j,L'.lo <= j->j<e+news.length->∀a,(b.cells.take e++news)[j]?=some a->∃u,arr'[L'.base+(j-L'.lo)]?=some u /\ zfm ρ a u /\ u.oneCell'=true):
  R w0 (ρ.put id b.next L') (upd H id (zhw b e news)) w':=by
 have okb:=h.blk id b hid;obtain⟨h0,L0,arr,e',fr,h1,h2,h3,h4,h5,h6⟩:=okb.gen g hi hg;rw[hL]at h1;cases h1;have hnx:ρ id b.next=none:=okb.nxt _ (Nat.le_refl _)
 have hle:ρ.le (ρ.put id b.next L'):=zd1.zln _ hnx;have hgn:∀g1 k1,(g1,k1)∈b.zij->g1≠b.next:=λg1 k1 hm hx=>by
  obtain⟨_,L1,_,_,_,k,_⟩:=okb.gen g1 k1 hm;rw[hx,hnx]at k;cases k
 have hltb:∀k o,w.heap[k]?=some o->k<w.heap.size:=λk o hk=>(Array.getElem?_eq_some_iff.1 hk).1;have htl:(b.cells.take e).length=e:=by rw[length_take];omega
 constructor
 ·exact hbel
 ·obtain⟨N,k⟩:=h.fin
  refine⟨max N (id+1),λi hi=>⟨?_,λg=>?_⟩⟩
  ·rw[zy _ _ (by omega)];exact(k i (by omega)).1
  ·rw[zd1.zd0 _ _ (by omega)];exact(k i (by omega)).2 g
 ·intro i bi hb
  by_cases hi':i=id
  ·subst hi'
   rw[zb4]at hb;cases hb;refine⟨λg hg=>?_,λg1 k1 hm=>?_,λg1 k1 g2 k2 hm hm' L1 L2 e1 e2 heq=>?_,λo ho=>by simp[zhw]at ho⟩
   ·simp only[zhw]at hg
    rw[zd1.zd0 _ _ (by omega)];exact okb.nxt g (by omega)
   ·simp only[zhw,mem_cons,Prod.mk.injEq]at hm
    rcases hm with⟨rfl,rfl⟩|hm
    ·refine⟨by simp only[zhw,length_append,htl];omega,L',arr',ty,fr',zd1.ze7 ..,hat,hsz,hroom,λ_=>⟨hb',hfr⟩,λj hj1 hj2 a ha=>?_⟩
     obtain⟨u,k1,k2,k3⟩:=hc j hj1 hj2 a ha;exact⟨u,k1,k2.mono hle,k3⟩
    ·obtain⟨k',hm2,rfl⟩:=zm8 hm
     obtain⟨c0,L1,arr1,e1,fr1,c1,c2,c3,c4,c5,c6⟩:=okb.gen g1 k' hm2;have hput:(ρ.put i b.next L') i g1=some L1:=hle _ _ _ c1;have hal:=okb.align g hi g1 k' hg hm2 L L1 hL c1;have hcell:∀j,j<e->(b.cells.take e++news)[j]?=b.cells[j]? :=λj hj=>by
      rw[getElem?_append_left (by omega),getElem?_take_of_lt hj]
     have key:∃arr2,w'.heap[L1.blk]?=some (.cells arr2 e1 fr1) /\ arr2.size=arr1.size /\ ∀j,L1.lo <= j->j<min k' e->arr2[L1.base+(j-L1.lo)]?=arr1[L1.base+(j-L1.lo)]? :=by
      by_cases hbk:L1.blk=L.blk
      ·rw[hbk]at c2
       obtain⟨arr2,d1,d2,d3⟩:=hold arr1 e1 fr1 c2;refine⟨arr2,by rw[hbk];exact d1,d2,λj hj1 hj2=>d3 _ ?_⟩;have:=hal hbk.symm;omega
      ·exact⟨arr1,by rw[hothers _ hbk (hltb _ _ c2)];exact c2,rfl,λ_ _ _=>rfl⟩
     obtain⟨arr2,d1,d2,d3⟩:=key;refine⟨by simp only[zhw,length_append,htl];omega,L1,arr2,e1,fr1,hput,d1,d2.trans c3,by omega,c5,λj hj1 hj2 a ha=>?_⟩;simp only[zhw]at ha;rw[hcell j (by omega)]at ha;obtain⟨u,k1,k2,k3⟩:=c6 j hj1 (by omega) a ha;exact⟨u,by rw[d3 j hj1 hj2];exact k1,k2.mono hle,k3⟩
   ·simp only[zhw,mem_cons,Prod.mk.injEq]at hm hm'
    have get:∀g1 k1,(g1,k1)∈cutGens b.zij e->∀L1,(ρ.put i b.next L') i g1=some L1->∃k2,(g1,k2)∈b.zij /\ ρ i g1=some L1:=λg1 k1 hm L1 e1=>by
     obtain⟨k2,hm,_⟩:=zm8 hm;refine⟨k2,hm,?_⟩;rw[zd1.zd0 _ _ (by rintro⟨_,hx⟩;exact hgn _ _ hm hx)]at e1;exact e1
    have one:∀g1 k1,(g1,k1)∈cutGens b.zij e->∀L1,(ρ.put i b.next L') i g1=some L1->L'.blk=L1.blk->L'.base+L1.lo=L1.base+L'.lo:=λg1 k1 hm L1 e1 heq=>by
     obtain⟨k2,hm,e1⟩:=get g1 k1 hm L1 e1;obtain⟨_,L3,_,_,_,c1,c2,_⟩:=okb.gen g1 k2 hm;rw[e1]at c1;cases c1;rcases hnew with⟨n1,n2,n3,_⟩|⟨n1,_⟩
     ·have:=okb.align g hi g1 k2 hg hm L L1 hL e1 (n1 ▸ heq)
      omega
     ·have:=hltb _ _ c2
      omega
    rcases hm with⟨rfl,rfl⟩|hm
    ·rw[zd1.ze7]at e1
     cases e1;rcases hm' with⟨rfl,rfl⟩|hm'
     ·rw[zd1.ze7]at e2
      cases e2;rfl
     ·exact one _ _ hm' _ e2 heq
    ·rcases hm' with⟨rfl,rfl⟩|hm'
     ·rw[zd1.ze7]at e2
      cases e2;exact(one _ _ hm _ e1 heq.symm).symm
     ·obtain⟨k3,m1,f1⟩:=get _ _ hm _ e1
      obtain⟨k4,m2,f2⟩:=get _ _ hm' _ e2;exact okb.align _ _ _ _ m1 m2 _ _ f1 f2 heq
  ·rw[zy _ _ hi']at hb
   have ok:=h.blk i bi hb;refine⟨λg hg=>by rw[zd1.zd0 _ _ (by omega)];exact ok.nxt g hg,λg' hi'' hm=>?_,λg1 k1 g2 k2 hm hm' L1 L2 e1 e2=>?_,λo ho=>?_⟩
   case refine_3=>
    obtain⟨q0,Lo,ob,q1,q2,q3,q4,q5,q6⟩:=ok.obj o ho;refine⟨q0,Lo,ob,hle _ _ _ q1,q2,q3,q4,?_,q6.mono hle⟩;rw[hothers _ (λhx=>by rw[hx,h2]at q5;exact q6.notCells _ _ _ (Option.some.inj q5).symm) (hltb _ _ q5)];exact q5
   ·obtain⟨k0,L1,arr1,e1,fr1,k1,k2,k3,k4,k5,k6⟩:=ok.gen g' hi'' hm
    have:=h.sep id i b bi (Ne.symm hi') hid hb hown (g,hi) hg (g',hi'') hm L L1 hL k1;refine⟨k0,L1,arr1,e1,fr1,hle _ _ _ k1,by rw[hothers _ (Ne.symm this) (hltb _ _ k2)];exact k2,k3,k4,k5,λj hj1 hj2 a ha=>?_⟩;obtain⟨u,c1,c2,c3⟩:=k6 j hj1 hj2 a ha;exact⟨u,c1,c2.mono hle,c3⟩
   ·rw[zd1.zd0 _ _ (by omega)]at e1 e2
    exact ok.align _ _ _ _ hm hm' _ _ e1 e2
 ·
  have new_ne:∀j bj,j≠id->H j=some bj->∀gj∈bj.zij,∀Lj,ρ j gj.1=some Lj->L'.blk≠Lj.blk:=λj bj hne hj gj hgj Lj hLj=>by
   rcases hnew with⟨n1,_⟩|⟨n1,_⟩
   ·rw[n1]
    exact h.sep id j b bj (Ne.symm hne) hid hj hown (g,hi) hg gj hgj L Lj hL hLj
   ·obtain⟨_,L3,_,_,_,c1,c2,_⟩:=(h.blk j bj hj).gen gj.1 gj.2 hgj
    rw[hLj]at c1;cases c1;have:=hltb _ _ c2;omega
  have locs:∀(gi:Nat×Nat),gi∈(zhw b e news).zij->∀Li,(ρ.put id b.next L') id gi.1=some Li->Li=L' \/ ∃k,(gi.1,k)∈b.zij /\ ρ id gi.1=some Li:=λgi hgi Li e1=>by
   simp only[zhw,mem_cons]at hgi;rcases hgi with rfl|hgi
   ·rw[zd1.ze7]at e1
    cases e1;exact .inl rfl
   ·obtain⟨k2,hm,_⟩:=zm8 (g:=gi.1) (k:=gi.2) hgi
    rw[zd1.zd0 _ _ (by rintro⟨_,hx⟩;exact hgn _ _ hm hx)]at e1;exact .inr ⟨k2,hm,e1⟩
  intro i j bi bj hne hi' hj hoi gi hgi gj hgj Li Lj e1 e2;by_cases c1:i=id
  ·subst c1
   rw[zb4]at hi';cases hi';rw[zy _ _ (Ne.symm hne)]at hj;rw[zd1.zd0 _ _ (by omega)]at e2;rcases locs gi hgi Li e1 with rfl|⟨k,m,f⟩
   ·exact new_ne j bj (Ne.symm hne) hj gj hgj Lj e2
   ·exact h.sep i j b bj hne hid hj hown (gi.1,k) m gj hgj Li Lj f e2
  ·rw[zy _ _ c1]at hi'
   rw[zd1.zd0 _ _ (by omega)]at e1;by_cases c2:j=id
   ·subst c2
    rw[zb4]at hj;cases hj;rcases locs gj hgj Lj e2 with rfl|⟨k,m,f⟩
    ·exact(new_ne i bi hne hi' gi hgi Li e1).symm
    ·exact h.sep i j bi b hne hi' hid hoi gi hgi (gj.1,k) m Li Lj e1 f
   ·rw[zy _ _ c2]at hj
    rw[zd1.zd0 _ _ (by omega)]at e2;exact h.sep i j bi bj hne hi' hj hoi gi hgi gj hgj Li Lj e1 e2
 ·intro i j bi bj hne hi' hj oi oj Li Lj e1 e2
  have c1:i≠id:=λhh=>by subst hh;rw[zb4]at hi';cases hi';simp[zhw]at oi
  have c2:j≠id:=λhh=>by subst hh;rw[zb4]at hj;cases hj;simp[zhw]at oj
  rw[zy _ _ c1]at hi';rw[zy _ _ c2]at hj;rw[zd1.zd0 _ _ (by omega)]at e1 e2;exact h.osep i j bi bj hne hi' hj oi oj Li Lj e1 e2
end Go.Ab
namespace Go.Ab
open List
abbrev zbr:=Nat->za
abbrev z5:=Nat->List za->zb->(zQ)->Prop
def zew(s:zbr)(d:Option Nat)(v:za):zbr:=
 match d with
 | none=>s
 | some d=>λk=>bif Nat.beq k d then v else s k
def zle:Nat:=18446744073709551557
def mkY(id:Nat):za:= .agg [.agg [.yld id]]
def isY:List za->Bool | .agg [.agg [.yld _]]::_=>true|_=>false
def za.zec:za->Bool | .undef | .agg _ | .tup _=>false|_=>true
def ofC:Value->za | .bool b=> .bool b | .int k n=> .int k n | .string s=> .str s.data.toList | .pointer none=> .zk4 | .slice none 0 0=> .zed | .nilFunc=> .nilf | .map none=> .zo8|_=> .undef
def ofV:Value->za | .agg cs=>if cs.all λc=>(ofC c).zec then .agg (cs.toList.map ofC) else .undef|v=>ofC v
def evS(s:zbr):Operand->za | .tmp t=>s t | .const v=>ofV v | .global _=> .undef | .func f=> .fn f [] []
def zdz(P:Program)(t:TypeId):Bool:=
 match P.underlying t with
 | some (.struct _)|some (.array _ _)=>true
 | _=>false
def joinL:List (Option (List za))->Option (List za)
 | []=>some []
 | some l::r=>match joinL r with|some m=>some (l++m)|none=>none
 | none::_=>none
def zeroAt(P:Program):Nat->TypeId->Option (List za)
 | 0,_=>none
 | d+1,t=>
  match P.underlying t with
  | some .bool=>some [.bool false]
  | some (.int k)=>some [.int k 0]
  | some .string=>some [.str []]
  | some (.pointer _)=>some [.zk4]
  | some (.slice _)=>some [.zed]
  | some (.func ..)=>some [.nilf]
  | some (.map _ _)=>some [.zo8]
  | some (.struct fs)=>joinL (fs.toList.map λf=>zeroAt P d f.type)
  | some (.array n e)=>match zeroAt P d e with
   | some [c]=>some (List.replicate n c)
   | some l=>some (List.replicate n l).flatten
   | none=>none
  | _=>none
def flatIs:za->Value->Bool | .bool b,.bool c=>b==c | .int k n,.int j m=>k==j&&n==m | .str s,.string b=>s==b.data.toList | .zk4,.pointer none=>true | .zed,.slice none 0 0=>true | .nilf,.nilFunc=>true | .zo8,.map none=>true|_,_=>false
def zkz:List za->List Value->Bool|[],[]=>true|a::as,v::vs=>flatIs a v&&zkz as vs|_,_=>false
def zeroOf(P:Program)(t:TypeId):Option (List za):=
 match zeroAt P 12 t,(P.info? t).bind (·.zero) with
 | some cs,some z=>bif zkz cs z.cells.toList&&Nat.beq cs.length (P.cellsOf t) then some cs else none
 | _,_=>none
def zsh(P:Program):List Field->Nat->Option Nat|[],n=>some n|f::r,n=>if f.offset=n then zsh P r (n+P.cellsOf f.type) else none
inductive Ck where
 | b
 | i (k:IntKind)
 | s
def joinC:List (Option (List Ck))->Option (List Ck)
 | []=>some []
 | some l::r=>match joinC r with|some m=>some (l++m)|none=>none
 | none::_=>none
def zm1(P:Program):Nat->TypeId->Option (List Ck)
 | 0,_=>none
 | d+1,t=>
  match P.underlying t with
  | some .bool=>bif Nat.beq (P.cellsOf t) 1 then some [.b] else none
  | some (.int k)=>bif Nat.beq (P.cellsOf t) 1 then some [.i k] else none
  | some .string=>bif Nat.beq (P.cellsOf t) 1 then some [.s] else none
  | some (.struct fs)=>bif !P.stoodInHeld t&&fs.toList.all (fun f=>f.name != "_")&&zsh P fs.toList 0==some (P.cellsOf t)
    then joinC (fs.toList.map λf=>zm1 P d f.type) else none
  | _=>none
def zeroV(P:Program)(t:TypeId):Option za:=
 match zeroOf P t,(P.info? t).bind (·.zero) with
 | some cs,some (.agg _)=>bif zdz P t then some (.agg cs) else none
 | some [c],some _=>bif zdz P t then none else some c
 | _,_=>none
inductive KD where
 | i
 | s
 | b
def zhq(P:Program)(t:TypeId):Option KD:=
 match P.underlying t with
 | some (.int _)=>some .i
 | some .string=>some .s
 | some .bool=>some .b
 | _=>none
def zqk(P:Program)(t:TypeId):Option (List Ck):=bif P.eqGuardType P.depth t then none else zm1 P 8 t
def zmp:Operand->Bool | .tmp _=>true|_=>false
namespace V
def zmt:Ck->za->za->Option Bool | .b,.bool a,.bool b=>some (a==b) | .i k,.int j a,.int l b=>if j=k /\ l=k then some (a==b) else none | .s,.str a,.str b=>some (a==b)|_,_,_=>none
def zfw:List Ck->List za->List za->Option Bool
 | [],[],[]=>some true
 | c::cs,a::as,b::bs=>match zmt c a b,zfw cs as bs with
  | some x,some y=>some (x&&y)
  | _,_=>none
 | _,_,_=>none
def arith(op:BinOp)(k:IntKind)(a b:Int):Option za:=
 match op with
 | .add=>some (.int k (k.wrap (a+b)))
 | .sub=>some (.int k (k.wrap (a-b)))
 | .mul=>some (.int k (k.wrap (a*b)))
 | .quo=>if b=0 then none else some (.int k (k.wrap (a.tdiv b)))
 | .rem=>if b=0 then none else some (.int k (a.tmod b))
 | .and=>some (.int k (k.wrap (BitVec.ofInt k.bits a &&& BitVec.ofInt k.bits b).toNat))
 | .or=>some (.int k (k.wrap (BitVec.ofInt k.bits a ||| BitVec.ofInt k.bits b).toNat))
 | .xor=>some (.int k (k.wrap (BitVec.ofInt k.bits a ^^^ BitVec.ofInt k.bits b).toNat))
 | .andNot=>some (.int k (k.wrap (BitVec.ofInt k.bits a &&& ~~~BitVec.ofInt k.bits b).toNat))
 | .eql=>some (.bool (a==b))
 | .neq=>some (.bool (a != b))
 | .lss=>some (.bool (decide (a<b)))
 | .leq=>some (.bool (decide (a <= b)))
 | .gtr=>some (.bool (decide (b<a)))
 | .geq=>some (.bool (decide (b <= a)))
 | _=>none
def shift(op:BinOp)(k:IntKind)(a b:Int):Option za:=
 if b<0 then none else
 match op with
 | .shl=>some (.int k (k.wrap (a*2 ^ (min b.toNat k.bits))))
 | .shr=>some (.int k (a.fdiv (2 ^ (min b.toNat k.bits))))
 | _=>none
def strOp(op:BinOp)(a b:List UInt8):Option za:=
 match op with
 | .add=>if ((a.length+b.length:Nat):Int)>IntKind.i64.max then none else some (.str (a++b))
 | .eql=>some (.bool (a==b))
 | .neq=>some (.bool (!(a==b)))
 | .lss=>some (.bool (Op.bytesLess a b))
 | .leq=>some (.bool (Op.bytesLess a b||a==b))
 | .gtr=>some (.bool (!(Op.bytesLess a b||a==b)))
 | .geq=>some (.bool (!Op.bytesLess a b))
 | _=>none
def eqv(op:BinOp)(e:Bool):Option za:=
 match op with
 | .eql=>some (.bool e)
 | .neq=>some (.bool (!e))
 | _=>none
def bin(op:BinOp)(x y:za):Option za:=
 match x,y with
 | .int k a,.int j b=>match op with
  | .shl | .shr=>shift op k a b
  | _=>if k=j then arith op k a b else none
 | .str a,.str b=>strOp op a b
 | _,_=>none
def zpj(op:BinOp)(x y:za):Option za:=
 match x,y with
 | .bool a,.bool b=>eqv op (a==b)
 | _,_=>none
def zgk(op:BinOp)(x y:za):Option za:=
 match x,y with
 | .zk4,.zk4=>eqv op true
 | .zk4,.ptr _ _ _ | .ptr _ _ _,.zk4=>eqv op false
 | _,_=>none
def eqSl(op:BinOp)(x y:za):Option za:=
 match x,y with
 | .zed,.zed=>eqv op true
 | .zed,.sl _ _ _ _ _ _ | .sl _ _ _ _ _ _,.zed | .zed,.sz | .sz,.zed=>eqv op false
 | _,_=>none
def eqMap(op:BinOp)(x y:za):Option za:=
 match x,y with
 | .zo8,.zo8=>eqv op true
 | .zo8,.mp _ | .mp _,.zo8=>eqv op false
 | _,_=>none
def sameK:KD->za->za->Option Bool | .i,.int k a,.int j b=>if k=j then some (a==b) else none | .s,.str a,.str b=>some (a==b) | .b,.bool a,.bool b=>some (a==b)|_,_,_=>none
def zrq(kd:KD)(k:za):List (za×za×Nat)->Nat->Option (Option (Nat×za×Nat))
 | [],_=>some none
 | e::es,i=>match sameK kd k e.1 with
  | some true=>some (some (i,e.2))
  | some false=>zrq kd k es (i+1)
  | none=>none
def eqFn(op:BinOp)(x y:za):Option za:=
 match x,y with
 | .nilf,.nilf=>eqv op true
 | .nilf,.fn _ _ _ | .fn _ _ _,.nilf=>eqv op false
 | _,_=>none
def binAgg(op:BinOp)(sh:List Ck)(x y:za):Option za:=
 match x,y with
 | .agg xs,.agg ys=>match zfw sh xs ys with
  | some e=>eqv op e
  | none=>none
 | _,_=>none
def un(op:UnOp)(x:za):Option za:=
 match op,x with
 | .neg,.int k n=>some (.int k (k.wrap (0-n)))
 | .xor,.int k n=>some (.int k (k.wrap (BitVec.ofInt k.bits (if k.signed then -1 else k.max) ^^^ BitVec.ofInt k.bits n).toNat))
 | .not,.bool b=>some (.bool !b)
 | _,_=>none
def toInt(k:IntKind)(x:za):Option za:=
 match x with
 | .int _ n=>some (.int k (k.wrap n))
 | _=>none
def strStr(x:za):Option za:=
 match x with
 | .str b=>some (.str b)
 | _=>none
def byteOf?(x:za):Option UInt8:=
 match x with
 | .int .u8 n=>some (UInt8.ofNat n.toNat)
 | _=>none
def zjt :List za->Option (List UInt8)
 | []=>some []
 | x::r=>match byteOf? x,zjt r with
  | some b,some l=>some (b::l)
  | _,_=>none
def fieldAddr(off:Nat)(x:za):Option za:=
 match x with
 | .ptr id g o=>some (.ptr id g (o+off))
 | _=>none
def zfa(off:Nat)(x:za):Option za:=
 match x with
 | .agg cs=>cs[off]?
 | _=>none
def zhu(off n:Nat)(x:za):Option za:=
 match x with
 | .agg cs=>if off+n <= cs.length then some (.agg ((cs.drop off).take n)) else none
 | _=>none
def zda(es:Nat)(x i:za):Option za:=
 match x,i with
 | .sl id g off len _ _,.int _ n=>if 0 <= n /\ n<len then some (.ptr id g (off+n.toNat*es)) else none
 | _,_=>none
def idxA(len es:Nat)(x i:za):Option za:=
 match x,i with
 | .ptr id g off,.int _ n=>if 0 <= n /\ n<len then some (.ptr id g (off+n.toNat*es)) else none
 | _,_=>none
def zii(x i:za):Option za:=
 match x,i with
 | .str s,.int _ n=>if 0 <= n then match s[n.toNat]? with|some b=>some (.int .u8 b.toNat)|none=>none else none
 | _,_=>none
def ext(i:Nat)(x:za):Option za:=
 match x with
 | .tup vs=>vs[i]?
 | _=>none
def zny(x:za):Option za:=
 match x with
 | .str s=>some (.int .i64 s.length)
 | _=>none
def zde(x:za):Option za:=
 match x with
 | .zed | .sz=>some (.int .i64 0)
 | .sl _ _ _ n _ _=>some (.int .i64 n)
 | _=>none
def capSl(x:za):Option za:=
 match x with
 | .zed | .sz=>some (.int .i64 0)
 | _=>none
def min2(x y:za):Option za:=
 match x,y with
 | .int k a,.int _ b=>some (.int k (if b<a then b else a))
 | _,_=>none
def max2(x y:za):Option za:=
 match x,y with
 | .int k a,.int _ b=>some (.int k (if b>a then b else a))
 | _,_=>none
def asNat(x:za):Option Nat:=
 match x with
 | .int _ n=>if 0 <= n then some n.toNat else none
 | _=>none
def endsC(n cp:Nat)(lo hi:Option za):Option (Nat×Nat):=
 match (match hi with|none=>some n|some v=>asNat v),(match lo with|none=>some 0|some v=>asNat v) with
 | some h,some l=>if l <= h /\ h <= max n cp then some (l,h) else none
 | _,_=>none
def ends(n:Nat)(lo hi:Option za):Option (Nat×Nat):=endsC n n lo hi
def zrf(x:za)(lo hi:Option za):Option za:=
 match x with
 | .str s=>match ends s.length lo hi with
  | some (l,h)=>some (.str ((s.take h).drop l))
  | none=>none
 | _=>none
def zh9(es:Nat)(x:za)(lo hi:Option za):Option za:=
 match x with
 | .sl id g off n es' cp=>match endsC n cp lo hi with
  | some (l,h)=>if es'=es then some (.sl id g (off+l*es) (h-l) es (max n cp-l)) else none
  | none=>none
 | .sz=>match ends 0 lo hi with
  | some _=>some .sz
  | none=>none
 | .zed=>match ends 0 lo hi with
  | some _=>some .zed
  | none=>none
 | _=>none
def cut3(es:Nat)(x lo hi mx:za):Option za:=
 match x,asNat lo,asNat hi,asNat mx with
 | .sl id g off n es' cp,some l,some h,some m=>if l <= h /\ h <= m /\ m <= max n cp /\ es'=es then some (if m=l then .sz else .sl id g (off+l*es) (h-l) es (if h=m then 0 else m-l)) else none
 | .sz,some 0,some 0,some 0=>some .sz
 | .zed,some 0,some 0,some 0=>some .zed
 | _,_,_,_=>none
def put1(off:Nat)(v:za)(cs:List za):Option (List za):=bif v.zec then (if off<cs.length then some (cs.set off v) else none) else none
def putN(off n:Nat)(v:za)(cs:List za):Option (List za):=
 match v with
 | .agg xs=>if xs.length=n /\ off+n <= cs.length then some (cs.take off++xs++cs.drop (off+n)) else none
 | _=>none
end V
def zee:List (Nat×Option Nat×za)->List za->Option (List za)
 | [],cs=>some cs
 | (off,none,v)::r,cs=>match V.put1 off v cs with|some cs=>zee r cs|none=>none
 | (off,some n,v)::r,cs=>match V.putN off n v cs with|some cs=>zee r cs|none=>none
def A.bld(ps:List (Nat×Option Nat×za))(z:List za):Option za:=
 match zee ps z with
 | some cs=>some (.agg cs)
 | none=>none
def zf7(n:Nat)(z:List za):List za:=
 match z with
 | [x]=>List.replicate n x
 | z=>(List.replicate n z).flatten
namespace A
variable(h:zb)
def ok(b:Bool)(p:Prop):Prop:=bif b then p else False
theorem zmm{b:Bool}{p:Prop}:ok b p↔b=true /\ p:=by cases b<;>simp[ok]
def pv(o:Option za)(K:za->Prop):Prop:=
 match o with
 | some v=>K v
 | none=>False
def cond(c:za)(x y:Prop):Prop:=
 match c with
 | .bool b=>(b=true->x) /\ (b=false->y)
 | _=>False
def pick(c a b:za)(K:za->Prop):Prop:=
 match c with
 | .bool c=>K (bif c then a else b)
 | _=>False
def gd(c:za)(want:Bool)(M:(zQ)->Prop)(K:zQ):Prop:=
 match c with
 | .bool b=>(b=want->M K) /\ (b≠want->K (.tup []) h)
 | .tup []=>K (.tup []) h
 | _=>False
def new(cs:List za)(K:Nat->zb->Prop):Prop:=∀id,h id=none->K id (upd h id (zdn cs))
def zf2(o:Option (List za))(K:Nat->zb->Prop):Prop:=
 match o with
 | some cs=>new h cs K
 | none=>False
def zkj(n:Nat)(v:za):Option (List za):=
 match v with
 | .agg cs=>if cs.length=n then some cs else none
 | _=>none
def zjs(v:za):Option (List za):=bif v.zec then some [v] else none
def ownG(i g:Nat):Bool:=
 match h i with
 | some b=>b.own&&(b.zij.lookup g).isSome
 | none=>false
def zgk(es:Nat)(op:BinOp)(x y:za):Option za:=
 match y with
 | .ptr j g2 b=>(match x with
  | .ptr i g1 a=>bif Nat.blt 0 es then (bif Nat.beq i j then (bif Nat.beq g1 g2 then V.eqv op (Nat.beq a b) else none) else bif A.ownG h i g1&&A.ownG h j g2 then V.eqv op false else none) else none
  | x=>V.zgk op x (.ptr j g2 b))
 | y=>V.zgk op x y
def ldv(p:za):Option za:=
 match p with
 | .ptr id g off=>match h id with
  | some b=>match b.zij.lookup g with
   | some hi=>if off<hi then b.cells[off]? else none
   | none=>none
  | none=>none
 | _=>none
def zl7(p:za)(n:Nat):Option za:=
 match p with
 | .ptr id g off=>match h id with
  | some b=>match b.zij.lookup g with
   | some hi=>if off+n <= hi then some (.agg ((b.cells.drop off).take n)) else none
   | none=>none
  | none=>none
 | _=>none
def rdv(x:za)(n es:Nat):Option (List za):=
 match x with
 | .zed | .sz=>if n=0 then some [] else none
 | .sl id g off len _ _=>match h id with
  | some b=>match b.zij.lookup g with
   | some hi=>if n <= len /\ off+n*es <= hi then some ((b.cells.drop off).take (n*es)) else none
   | none=>none
  | none=>none
 | _=>none
def stv(p:za)(f:List za->Option (List za))(n:Nat)(off:Nat):Option zb:=
 match p with
 | .ptr id g o=>match h id with
  | some b=>match b.zij.lookup g with
   | some hi=>bif b.own&&Nat.ble (off+o+n) hi then (match f b.cells with
    | some cs=>some (upd h id { b with cells:=cs,zij:=[(g,hi)] })
    | none=>none) else none
   | none=>none
  | none=>none
 | _=>none
def ld(p:za)(K:za->Prop):Prop:=pv (ldv h p) K
def ldn(p:za)(n:Nat)(K:za->Prop):Prop:=pv (zl7 h p n) K
def ph(o:Option zb)(K:zb->Prop):Prop:=
 match o with
 | some h=>K h
 | none=>False
def zo5:za->Nat | .ptr _ _ o=>o|_=>0
def st(p v:za)(K:zb->Prop):Prop:=ph (stv h p (V.put1 (zo5 p) v) 1 0) K
def stn(p:za)(n:Nat)(v:za)(K:zb->Prop):Prop:=ph (stv h p (V.putN (zo5 p) n v) n 0) K
def nilCheck(v:za)(K:za->Prop):Prop:=
 match v with
 | .ptr _ _ _=>K v
 | .fn _ _ _=>K v
 | _=>False
def app(es bytes:Nat)(x:za)(news:Option (List za))(K:zQ):Prop:=
 match news with
 | none=>False
 | some cs=>
  match x with
  | .zed=>if cs.length=0 then K .zed h else (cs.length / es)*bytes <= 140737488355328 /\ (cs.length / es) <= maxLen /\ new h cs λid h=>K (.sl id 0 0 (cs.length / es) es (cs.length / es)) h
  | .sz=>if cs.length=0 then K .sz h else (cs.length / es)*bytes <= 140737488355328 /\ (cs.length / es) <= maxLen /\ new h cs λid h=>K (.sl id 0 0 (cs.length / es) es (cs.length / es)) h
  | .sl id g off len es' cp=>match h id with
   | some b=>match b.zij.lookup g with
    | some hi=>bif b.own then (es'=es /\ b.own=true /\ off+len*es <= hi /\ (len+cs.length / es)*bytes <= 140737488355328 /\ len+cs.length / es <= maxLen /\
      K (.sl id b.next off (len+cs.length / es) es (len+cs.length / es)) (upd h id (zhw b (off+len*es) cs)))
     else ((es'=es /\ cp=0 /\ 0<len /\ 0<cs.length / es /\ off+len*es <= hi /\ hi <= b.cells.length /\ (len+cs.length / es)*bytes <= 140737488355328 /\ len+cs.length / es <= maxLen) /\
      new h ((b.cells.drop off).take (len*es)++cs) λid h=>K (.sl id 0 0 (len+cs.length / es) es (len+cs.length / es)) h)
    | none=>False
   | none=>False
  | _=>False
def zgt(x:za):Option Nat:=
 match x with
 | .zed | .sz=>some 0
 | .sl _ _ _ n _ _=>some n
 | .str s=>some s.length
 | _=>none
def zim(es bytes:Nat)(x y:za)(K:zQ):Prop:=
 match zgt y with
 | some n=>app h es bytes x (rdv h y n es) K
 | none=>False
def strCells(y:za):Option (List za):=
 match y with
 | .str s=>some (s.map λb=> .int .u8 b.toNat)
 | _=>none
def cpy(es:Nat)(x y:za)(K:zQ):Prop:=
 match zgt y with
 | none=>False
 | some m=>
  match x with
  | .zed | .sz=>K (.int .i64 0) h
  | .sl id g off len _ _=>match rdv h y (min m len) es with
   | none=>False
   | some cs=>ph (stv h (.ptr id g off) (V.putN off (min m len*es) (.agg cs)) (min m len*es) 0) λh=>K (.int .i64 (min m len:Nat)) h
  | _=>False
def mks(bytes:Nat)(z:Option (List za))(l c:za)(K:zQ):Prop:=
 match z,l,c with
 | some z,.int _ l,.int _ c=>0 <= l /\ l <= c /\ c*bytes <= 281474976710656 /\ c <= 9223372036854775807 /\
   new h (zf7 c.toNat z) λid h=>K (.sl id 0 0 l.toNat z.length c.toNat) h
 | _,_,_=>False
def ze0(x:za)(K:za->Prop):Prop:=
 match zgt x with
 | some n=>(match rdv h x n 1 with
  | some cs=>(match V.zjt cs with
   | some l=>K (.str l)
   | none=>False)
  | none=>False)
 | none=>False
def conv(x:za)(K:za->Prop):Prop:=
 match x with
 | .sl id g _ n _ _=>(match h id with
  | some b=>((b.own&&((b.zij.lookup g).isSome&&Nat.blt 0 n))&&false)=true /\ K x
  | none=>False)
 | _=>False
def noRoom:za->Bool | .zed | .sz=>true|_=>false
def appZ(es bytes:Nat)(z:Option (List za))(x y:za)(K:zQ):Prop:=
 match z,y with
 | some z,.int _ n=>(noRoom x=true /\ 0<n /\ n*(bytes:Int) <= 140737488355328 /\ n <= (maxLen:Int)) /\ new h (zf7 n.toNat z) λid h=>K (.sl id 0 0 n.toNat es n.toNat) h
 | _,_=>False
def newSl(cs:List za)(n es:Nat)(K:zQ):Prop:=new h cs λid h=>K (.sl id 0 0 n es n) h
def ziw(x:za)(K:zQ):Prop:=
 match x with
 | .str s=>(s.length <= 140737488355328 /\ False) /\ newSl h (s.map λb=> .int .u8 b.toNat) s.length 1 K
 | _=>False
def newObj(o:AObj)(K:Nat->zb->Prop):Prop:=∀id,h id=none->K id (upd h id (zgb o))
def zjn(x:za)(K:zQ):Prop:=
 match x with
 | .str s=>newObj h (.iter s 0) λid h=>K (.ptr id 0 0) h
 | _=>False
def rune(s:List UInt8)(pos:Nat):Nat×Nat:=Utf8.decode ⟨s.toArray⟩ pos
def zhn(x:za)(K:zQ):Prop:=
 match x with
 | .ptr id 0 0=>(match h id with
  | some b=>(match b.obj with
   | some (.iter s pos)=>if pos<s.length then
      K (.tup [.bool true,.int .i64 pos,.int .i32 (rune s pos).1]) (upd h id { b with obj:=some (.iter s (pos+(rune s pos).2)) })
     else K (.tup [.bool false]) h
   | _=>False)
  | none=>False)
 | _=>False
def clr(z:Option (List za))(x:za)(K:zQ):Prop:=
 match z with
 | none=>False
 | some z=>
  match x with
  | .zed | .sz=>K (.tup []) h
  | .sl id g off len es _=>if len=0 then K (.tup []) h else ph (stv h (.ptr id g off) (V.putN off (len*es) (.agg (List.replicate len z).flatten)) (len*es) 0) λh=>K (.tup []) h
  | _=>False
def zmi(x:za):Option (List (za×za×Nat)×Nat):=
 match x with
 | .mp id=>(match h id with
  | some b=>(match b.obj with
   | some (.map es c)=>some (es,c)
   | _=>none)
  | none=>none)
 | _=>none
def entries(x:za):Option (List (za×za×Nat)):=
 match x with
 | .zo8=>some []
 | x=>(match zmi h x with
  | some (es,_)=>some es
  | none=>none)
def lkp(kd:Option KD)(z:Option za)(ok:Bool)(x k:za):Option za:=
 match kd,z,entries h x with
 | some kd,some z,some es=>(match V.zrq kd k es 0 with
  | some (some (_,v,_))=>some (bif ok then .tup [v,.bool true] else v)
  | some none=>some (bif ok then .tup [z,.bool false] else z)
  | none=>none)
 | _,_,_=>none
def zlm(x:za):Option za:=
 match entries h x with
 | some es=>some (.int .i64 es.length)
 | none=>none
def zpr(x:za)(f:List (za×za×Nat)->Nat->Option (List (za×za×Nat)×Nat×za))(K:zQ):Prop:=
 match x with
 | .mp id=>(match h id with
  | some b=>(match b.obj with
   | some (.map es c)=>(match f es c with
    | some (es',c',v)=>K v (upd h id { b with obj:=some (.map es' c') })
    | none=>False)
   | _=>False)
  | none=>False)
 | _=>False
def fset(kd:Option KD)(k v:za)(es:List (za×za×Nat))(c:Nat):Option (List (za×za×Nat)×Nat×za):=
 match kd with
 | some kd=>(match V.zrq kd k es 0 with
  | some (some (i,_,n))=>some (es.set i (k,v,n),c,.undef)
  | some none=>some (es++[(k,v,c)],c+1,.undef)
  | none=>none)
 | none=>none
def fentry(kd:Option KD)(z:Option za)(k:za)(es:List (za×za×Nat))(c:Nat):Option (List (za×za×Nat)×Nat×za):=
 match kd,z with
 | some kd,some z=>(match V.zrq kd k es 0 with
  | some (some (i,v,n))=>some (es.set i (k,v,n),c,.tup [v,.int .i64 n])
  | some none=>some (es++[(k,z,c)],c+1,.tup [z,.int .i64 c])
  | none=>none)
 | _,_=>none
def fstore(n v:za)(es:List (za×za×Nat))(c:Nat):Option (List (za×za×Nat)×Nat×za):=
 match n with
 | .int _ n=>(match es.findIdx? λe=>(e.2.2:Int)==n with
  | some i=>some (es.modify i λe=>(e.1,v,e.2.2),c,.undef)
  | none=>none)
 | _=>none
def fdel(kd:Option KD)(k:za)(es:List (za×za×Nat))(c:Nat):Option (List (za×za×Nat)×Nat×za):=
 match kd with
 | some kd=>(match V.zrq kd k es 0 with
  | some (some (i,_))=>some (es.eraseIdx i,c,.tup [])
  | some none=>some (es,c,.tup [])
  | none=>none)
 | none=>none
def mset(kd:Option KD)(x k v:za)(K:zb->Prop):Prop:=zpr h x (fset kd k v) λ_ h=>K h
def mentry(kd:Option KD)(z:Option za)(x k:za)(K:zQ):Prop:=zpr h x (fentry kd z k) K
def mstore(x n v:za)(K:zb->Prop):Prop:=zpr h x (fstore n v) λ_ h=>K h
def mdel(kd:Option KD)(x k:za)(K:zQ):Prop:=
 match x with
 | .zo8=>kd.isSome=true /\ K (.tup []) h
 | x=>zpr h x (fdel kd k) K
def rangeMap(x:za)(K:zQ):Prop:=
 match x with
 | .zo8=>newObj h (.mapIter none 0 [] 0) λid h=>K (.ptr id 0 0) h
 | .mp m=>(match zmi h x with
  | some (_,c)=>newObj h (.mapIter (some m) c [] c) λid h=>K (.ptr id 0 0) h
  | none=>False)
 | _=>False
def steps (x : za) : Option (Nat × List (Blk × za)) :=
  match x with
  | .ptr id 0 0 => (match h id with
    | some b => (match b.obj with
      | some (.mapIter none _ _ _) => some (id, [(b, .tup [.bool false])])
      | some (.mapIter (some m) since seen last) => (match zmi h (.mp m) with
        | some (es, c) => bif (es.all fun e => Nat.blt e.2.2 since) && Nat.ble since last then
            some (id, match es.filter fun e => !seen.contains e.2.2 with
              | [] => [(b, .tup [.bool false])]
              | l => l.map fun e => ({ b with obj := some (.mapIter (some m) since (seen ++ [e.2.2]) c) }, .tup [.bool true, e.1, e.2.1])) else none
        | none => none)
      | _ => none)
    | none => none)
  | _ => none
def zet(x:za)(K:zQ):Prop:=
 match steps h x with
 | some (id,l)=>∀p∈l,K p.2 (upd h id p.1)
 | none=>False
def zfp(x:za):Option za:=
 match x with
 | .ptr id 0 0=>(match h id with
  | some b=>(match b.obj with
   | some (.mapIter (some m) _ seen last)=>(match zmi h (.mp m),seen.getLast? with
    | some (es,c),some n=>bif Nat.beq c last then (match es.find? λe=>Nat.beq e.2.2 n with
     | some e=>some (.tup [e.1,e.2.1])
     | none=>none) else none
    | _,_=>none)
   | _=>none)
  | none=>none)
 | _=>none
def zk0(C:z5)(f:za)(args:List za)(K:zQ):Prop:=
 match f with
 | .fn f first zjf=>C f (first++args++zjf) h K
 | .yld id=>C zle (mkY id::args) h K
 | _=>False
def zj0(ls:List (za×Option Nat))(K:zQ):zQ:=
 λv h'=>(∀p∈ls,match p.2 with|none=>ldv h' p.1=ldv h p.1|some n=>zl7 h' p.1 n=zl7 h p.1 n) /\ K v h'
end A
def partOf(P:Program)(t:TypeId):Option (Option Nat):=bif zdz P t then some (some (P.cellsOf t)) else bif Nat.beq (P.cellsOf t) 1 then some none else none
def zqm(P:Program)(fs:Array Field):List (Nat×za)->Option (List (Nat×Option Nat×za))
 | []=>some []
 | (i,v)::r=>match fs[i]?,zqm P fs r with
  | some f,some l=>(match partOf P f.type with
   | some z=>some ((f.offset,z,v)::l)
   | none=>none)
  | _,_=>none
def zqn(n:Nat)(z:Option Nat):List (Nat×za)->List (Nat×Option Nat×za)|[]=>[]|(i,v)::r=>(i*n,z,v)::zqn n z r
def placesOf(P:Program)(t:TypeId)(parts:List (Nat×za)):Option (List (Nat×Option Nat×za)):=
 match P.underlying t with
 | some (.struct fs)=>zqm P fs parts
 | some (.array _ e)=>(match partOf P e with
  | some z=>some (zqn (P.cellsOf e) z parts)
  | none=>none)
 | _=>none
def zpe(P:Program)(t:TypeId):Bool:=
 match P.underlying t with
 | some (.int .u8)=>P.cellsOf t==1
 | _=>false
def zlt(P:Program)(t:TypeId):Option TypeId:=
 match P.underlying t with
 | some (.slice e)=>some e
 | _=>none
def zlv(P:Program)(b:Builtin)(at_:List TypeId)(args:List za)(h:zb)(K:zQ):Prop:=
 match b,at_,args with
 | .len,t::_,[x]=>match P.underlying t with
  | some .string=>A.pv (V.zny x) λv=>K v h
  | some (.slice _)=>A.pv (V.zde x) λv=>K v h
  | some (.array n _)=>K (.int .i64 n) h
  | some (.map _ _)=>A.pv (A.zlm h x) λv=>K v h
  | _=>False
 | .clear,[t],[x]=>match P.underlying t with
  | some (.slice e)=>A.ok (Nat.blt 0 (P.cellsOf e)) (A.clr h (zeroOf P e) x K)
  | _=>False
 | .delete,t::_,[x,k]=>match P.underlying t with
  | some (.map kt _)=>A.mdel h (zhq P kt) x k K
  | _=>False
 | .append,[t,u],[x,y]=>match P.underlying t,P.underlying u with
  | some (.slice e),some (.slice _)=>A.ok (Nat.blt 0 (P.cellsOf e)&&(Nat.beq t u&&(zeroOf P e).isSome)) (A.zim h (P.cellsOf e) (P.bytesOf e) x y K)
  | some (.slice e),some .string=>A.ok (zpe P e&&(zeroOf P e).isSome) (A.app h 1 (P.bytesOf e) x (A.strCells y) K)
  | some (.slice e),some (.int _)=>A.ok (Nat.blt 0 (P.cellsOf e)) (A.appZ h (P.cellsOf e) (P.bytesOf e) (zeroOf P e) x y K)
  | _,_=>False
 | .copy,[t,u],[x,y]=>match P.underlying t with
  | some (.slice e)=>A.ok (Nat.beq t u&&Nat.blt 0 (P.cellsOf e)) (A.cpy h (P.cellsOf e) x y K)
  | _=>False
 | .min,_,[x,y]=>A.pv (V.min2 x y) λv=>K v h
 | .max,_,[x,y]=>A.pv (V.max2 x y) λv=>K v h
 | .cap,t::_,[x]=>match P.underlying t with
  | some (.slice _)=>A.pv (V.capSl x) λv=>K v h
  | _=>False
 | _,_,_=>False
def zi1 (P : Program) (C : z5) (op : Op) (s : zbr) (h : zb) (K : zQ) : Prop :=
  match op with
  | .move x | .assign x => K (evS s x) h
  | .pick c a b => A.pick (evS s c) (evS s a) (evS s b) fun v => K v h
  | .alloc t => A.zf2 h (zeroOf P t) fun id h => K (.ptr id 0 0) h
  | .box t x => A.zf2 h (bif zdz P t then A.zkj (P.cellsOf t) (evS s x) else A.zjs (evS s x)) fun id h => K (.ptr id 0 0) h
  | .build t parts => A.pv (match zeroOf P t, placesOf P t (parts.toList.map fun p => (p.1, evS s p.2)) with
      | some z, some ps => (match zee ps z with | some cs => some (.agg cs) | none => none)
      | _, _ => none) fun v => K v h
  | .buildSlice t len parts => match zlt P t with
    | some e => if len = 0 then (match parts.toList, partOf P e with | [], some _ => K .sz h | _, _ => False) else
        A.zf2 h (match zeroOf P e, partOf P e with
          | some z, some pz => bif Nat.ble (len * P.cellsOf e) 16777216 && Nat.ble 1 (P.cellsOf e) then zee (zqn (P.cellsOf e) pz (parts.toList.map fun p => (p.1, evS s p.2))) (zf7 len z) else none
          | _, _ => none) fun id h => K (.sl id 0 0 len (P.cellsOf e) len) h
    | none => False
  | .load t x => match P.underlying t with
    | none => False
    | some _ => bif zdz P t then A.ldn h (evS s x) (P.cellsOf t) fun v => K v h else A.ld h (evS s x) fun v => K v h
  | .store t x v => bif zdz P t then A.stn h (evS s x) (P.cellsOf t) (evS s v) fun h => K .undef h else bif Nat.beq (P.cellsOf t) 1 then A.st h (evS s x) (evS s v) fun h => K .undef h else False
  | .nilCheck x => A.nilCheck (evS s x) fun v => K v h
  | .binOp op t x y _ => match P.underlying t with
    | some (.int _) | some .string => A.pv (V.bin op (evS s x) (evS s y)) fun v => K v h
    | some .bool => A.pv (V.zpj op (evS s x) (evS s y)) fun v => K v h
    | some (.pointer e) => bif zmp y then A.pv (A.zgk h (P.cellsOf e) op (evS s x) (evS s y)) fun v => K v h else A.pv (V.zgk op (evS s x) (evS s y)) fun v => K v h
    | some (.slice _) => A.pv (V.eqSl op (evS s x) (evS s y)) fun v => K v h
    | some (.func ..) => A.pv (V.eqFn op (evS s x) (evS s y)) fun v => K v h
    | some (.map _ _) => A.pv (V.eqMap op (evS s x) (evS s y)) fun v => K v h
    | some (.struct _) => (match zqk P t with
      | some sh => A.pv (V.binAgg op sh (evS s x) (evS s y)) fun v => K v h
      | none => False)
    | _ => False
  | .unOp op _ x => A.pv (V.un op (evS s x)) fun v => K v h
  | .convert src dst x => match P.underlying src, P.underlying dst with
    | some (.int _), some (.int k) => A.pv (V.toInt k (evS s x)) fun v => K v h
    | some .string, some .string => A.pv (V.strStr (evS s x)) fun v => K v h
    | some (.slice e), some .string => bif zpe P e then A.ze0 h (evS s x) fun v => K v h else False
    | some .string, some (.slice e) => bif zpe P e then A.ziw h (evS s x) K else False
    | some (.slice e), some (.slice _) => bif Nat.beq src dst && zpe P e then A.conv h (evS s x) fun v => K v h else False
    | _, _ => False
  | .range t x => match P.underlying t with
    | some .string => A.zjn h (evS s x) K
    | some (.map _ _) => A.rangeMap h (evS s x) K
    | _ => False
  | .next x true => A.zhn h (evS s x) K
  | .next x false => A.zet h (evS s x) K
  | .entry x => A.pv (A.zfp h (evS s x)) fun v => K v h
  | .makeMap t none => match P.underlying t with
    | some (.map _ _) => A.newObj h (.map [] 0) fun id h => K (.mp id) h
    | _ => False
  | .lookup t x i ok => match P.underlying t with
    | some (.map kt e) => A.pv (A.lkp h (zhq P kt) (zeroV P e) ok (evS s x) (evS s i)) fun v => K v h
    | _ => False
  | .mapUpdate t m k v => match P.underlying t with
    | some (.map kt _) => A.mset h (zhq P kt) (evS s m) (evS s k) (evS s v) fun h => K .undef h
    | _ => False
  | .mapEntry t m k => match P.underlying t with
    | some (.map kt e) => A.mentry h (zhq P kt) (zeroV P e) (evS s m) (evS s k) K
    | _ => False
  | .entryStore t m n v => match P.underlying t with
    | some (.map _ _) => A.mstore h (evS s m) (evS s n) (evS s v) fun h => K .undef h
    | _ => False
  | .makeSlice t l c => match zlt P t with
    | some e => 0 < P.cellsOf e /\ A.mks h (P.bytesOf e) (zeroOf P e) (evS s l) (evS s c) K
    | none => False
  | .slice t x lo hi mx => match P.underlying t, mx with
    | some .string, none => A.pv (V.zrf (evS s x) (lo.map (evS s)) (hi.map (evS s))) fun v => K v h
    | some (.slice e), none => bif Nat.beq (P.cellsOf e) 0 then False else A.pv (V.zh9 (P.cellsOf e) (evS s x) (lo.map (evS s)) (hi.map (evS s))) fun v => K v h
    | some (.slice e), some mx => bif Nat.beq (P.cellsOf e) 0 then False else (match lo, hi with
      | some lo, some hi => A.pv (V.cut3 (P.cellsOf e) (evS s x) (evS s lo) (evS s hi) (evS s mx)) fun v => K v h
      | none, some hi => A.pv (V.cut3 (P.cellsOf e) (evS s x) (.int .i64 0) (evS s hi) (evS s mx)) fun v => K v h
      | _, _ => False)
    | _, _ => False
  | .fieldAddr t x f => match P.underlying t with
    | some (.struct fs) => (match fs[f]? with
      | some fd => bif Nat.beq (P.cellsOf fd.type) 0 then False else A.pv (V.fieldAddr fd.offset (evS s x)) fun v => K v h
      | none => False)
    | _ => False
  | .field t x f => match P.underlying t with
    | some (.struct fs) => (match fs[f]? with
      | some fd => (match P.underlying fd.type with
        | none => False
        | some _ => bif zdz P fd.type then A.pv (V.zhu fd.offset (P.cellsOf fd.type) (evS s x)) fun v => K v h else A.pv (V.zfa fd.offset (evS s x)) fun v => K v h)
      | none => False)
    | _ => False
  | .indexAddr t x i => match P.underlying t with
    | some (.slice e) => bif Nat.beq (P.cellsOf e) 0 then False else A.pv (V.zda (P.cellsOf e) (evS s x) (evS s i)) fun v => K v h
    | some (.array n e) => bif Nat.beq (P.cellsOf e) 0 then False else A.pv (V.idxA n (P.cellsOf e) (evS s x) (evS s i)) fun v => K v h
    | _ => False
  | .index t x i => match P.underlying t with
    | some .string => A.pv (V.zii (evS s x) (evS s i)) fun v => K v h
    | _ => False
  | .makeFunc (.func f) first zjf => K (.fn f (first.toList.map (evS s)) (zjf.toList.map (evS s))) h
  | .extract x i => A.pv (V.ext i (evS s x)) fun v => K v h
  | .call c => match c.callee with
    | .value (.func f) => C f (c.args.toList.map (evS s)) h K
    | .value x => A.zk0 h C (evS s x) (c.args.toList.map (evS s)) K
    | .builtin b => zlv P b c.argTypes.toList (c.args.toList.map (evS s)) h K
    | .invoke _ _ => False
  | _ => False
def zjy(ops:List Oper)(j:Nat):Option Nat:=(ops[j]?).bind (·.dst)
def zo2(P:Program)(C:z5)(ops:List Oper)(o:Oper)(s:zbr)(h:zb)(K:zQ):Prop:=
 match o.guard with
 | none=>zi1 P C o.op s h K
 | some (j,b)=>match zjy ops j with
  | some t=>A.gd h (s t) b (λK=>zi1 P C o.op s h K) K
  | none=>False
def opsWp(P:Program)(C:z5)(ops:List Oper):List Oper->(zbr->zb->Prop)->zbr->zb->Prop|[],Q,s,h=>Q s h|o::r,Q,s,h=>zo2 P C ops o s h λv h=>opsWp P C ops r Q (zew s o.dst v) h
inductive Ex where
 | normal
 | exit (id:Nat)
 | ret
def Ex.then(X:zbr->zb->Prop)(Q:Ex->zbr->zb->Prop):Ex->zbr->zb->Prop | .normal,s,h=>X s h|e,s,h=>Q e s h
def Ex.inBlock(id:Nat)(Q:Ex->zbr->zb->Prop):Ex->zbr->zb->Prop | .exit j,s,h=>bif Nat.beq j id then Q .normal s h else Q (.exit j) s h|e,s,h=>Q e s h
inductive Kd where
 | pure|load|alloc|effect|read|conv
def zpf(P:Program)(ts:List TypeId):Bool:=
 match ts with
 | t::_=>(match P.underlying t with
  | some (.map _ _)=>true
  | _=>false)
 | []=>false
def zj1(P:Program):Op->Kd
 | .convert s d _=>(match P.underlying s,P.underlying d with
  | some (.int _),some (.int _)|some .string,some .string=> .pure
  | some (.slice _),some .string=> .read
  | some (.slice _),some (.slice _)=> .conv
  | _,_=> .effect)
 | .load _ _=> .load
 | .alloc _ | .box _ _ | .buildSlice _ _ _ | .makeSlice _ _ _=> .alloc
 | .move _ | .assign _ | .pick _ _ _ | .build _ _ | .nilCheck _ | .unOp _ _ _ | .slice _ _ _ _ _ | .fieldAddr _ _ _ | .field _ _ _
 | .indexAddr _ _ _ | .index _ _ _ | .makeFunc _ _ _ | .extract _ _=> .pure
 | .binOp _ t _ y _=>(match P.underlying t with
  | some (.pointer _)=>bif zmp y then .read else .pure
  | _=> .pure)
 | .call { callee:= .builtin .len,argTypes:=ts, .. }=>bif zpf P ts.toList then .effect else .pure
 | .call { callee:= .builtin .min, .. } | .call { callee:= .builtin .max, .. } | .call { callee:= .builtin .cap, .. }=> .pure
 | _=> .effect
def Kd.zhr:Kd->Bool | .effect=>true|_=>false
def Kd.early:Kd->Bool | .pure | .load=>true|_=>false
def Kd.fits:Kd->Kd->Bool|_,.conv=>true | .effect,.effect | .effect,.load | .effect,.read | .alloc,.load | .alloc,.read | .alloc,.effect | .read,.effect | .conv,.effect=>false|_,_=>true
def Kd.first:Kd->Kd | .read | .conv=> .effect|k=>k
def zg8:List Oper->List Nat->List Nat|[],acc=>acc|o::r,acc=>zg8 r (acc++[o.after.toList.foldl (λm e=>bif Region.binds .any e then m ||| 2 ^ e.on ||| acc.getD e.on 0 else m) 0])
def sweep:List (Nat×Kd×Nat)->Nat->List Nat->Nat×List Nat|[],d,out=>(d,out)|(i,k,m)::r,d,out=>bif !d.testBit i&&k.early&&Nat.beq (m &&& d) m then sweep r (d ||| 2 ^ i) (i::out) else sweep r d out
def takeIn(which:Nat):List (Nat×Kd×Nat)->Nat->List Nat->Nat×List Nat|[],d,out=>(d,out)|(i,_,_)::r,d,out=>bif !d.testBit i&&which.testBit i then takeIn which r (d ||| 2 ^ i) (i::out) else takeIn which r d out
def planGo(all:List (Nat×Kd×Nat)):List (Nat×Kd×Nat)->Nat->List Nat->List Nat
 | [],d,out=>(takeIn (2 ^ all.length-1) all d out).2.reverse
 | (i,k,m)::r,d,out=>bif k.zhr then
   (match sweep all d out with
    | (d,out)=>match takeIn (m ||| 2 ^ i) all d out with
     | (d,out)=>planGo all r d out)
  else planGo all r d out
def passIn(which:Nat):List (Nat×Kd×Nat)->Nat->List Nat->Nat×List Nat|[],d,out=>(d,out)|(i,_,m)::r,d,out=>bif !d.testBit i&&(which.testBit i&&Nat.beq (m &&& d) m) then passIn which r (d ||| 2 ^ i) (i::out) else passIn which r d out
def topoIn(which:Nat)(all:List (Nat×Kd×Nat)):Nat->Nat->List Nat->Nat×List Nat
 | 0,d,out=>(d,out)
 | n+1,d,out=>match passIn which all d out with
  | (d',out')=>bif Nat.beq d' d then (d',out') else topoIn which all n d' out'
def planGo2(all:List (Nat×Kd×Nat)):List (Nat×Kd×Nat)->Nat->List Nat->List Nat
 | [],d,out=>(match sweep all d out with
   | (d,out)=>(topoIn (2 ^ all.length-1) all all.length d out).2.reverse)
 | (i,k,m)::r,d,out=>bif k.zhr then
   (match sweep all d out with
    | (d,out)=>match topoIn (m ||| 2 ^ i) all all.length d out with
     | (d,out)=>planGo2 all r d out)
  else planGo2 all r d out
structure Item where
 i:Nat
 o:Oper
 k:Kd
 m:Nat
def items(P:Program)(ops:List Oper):List Item:=((zg8 ops []).zip ops).zipIdx.map fun((m,o),i)=>⟨i,o,zj1 P o.op,m⟩
def zml(its:List Item):List Item:=
 let all:=its.map λt=>(t.i,t.k.first,t.m)
 (planGo all all 0 []).filterMap λi=>its[i]?
def zqj(its:List Item):List Item:=
 let all:=its.map λt=>(t.i,t.k,t.m)
 (planGo2 all all 0 []).filterMap λi=>its[i]?
def zh6(x:Item)(y:Item):Bool:=
 match x.o.op with
 | .load _ (.tmp t)=>(match y.o.dst with
  | some d=> !Nat.beq d t
  | none=>true)
 | _=>true
def zh8(ops:Array Oper):List Item->Bool|[]=>true|x::r=>(r.all λy=> !x.m.testBit y.i&&zh6 x y&&(y.m.testBit x.i||(x.k.fits y.k&&x.o.apart ops y.o)))&&zh6 x x&& !x.m.testBit x.i&&zh8 ops r
def distinct:List Nat->Bool|[]=>true|x::r=>r.all (λy=> !Nat.beq x y)&&distinct r
def zja:List Item->Item->List (Operand×TypeId)
 | [],_=>[]
 | x::r,y=>(match x.o.op with
   | .load t a=>bif y.m.testBit x.i then [] else [(a,t)]
   | _=>[])++zja r y
def zfd:List Item->List Item->List (Item×List (Operand×TypeId))|_,[]=>[]|seen,y::r=>(y,bif y.k.zhr then zja seen y else [])::zfd (seen++[y]) r
def plan(P:Program)(ops:Array Oper):Option (List (Item×List (Operand×TypeId))):=
 let its:=items P ops.toList
 let p:=bif zh8 ops (zml its) then zml its else zqj its
 bif zh8 ops p&&Nat.beq p.length ops.size&&distinct (p.map (·.i))&&(List.range ops.size).all (λi=>p.any λt=>Nat.beq t.i i)&&ops.toList.all (λo=>o.after.toList.all λe=>Nat.blt e.on ops.size) then some (zfd [] p) else none
def zeb(P:Program)(s:zbr)(ks:List (Operand×TypeId)):List (za×Option Nat):=ks.map λp=>(evS s p.1,bif zdz P p.2 then some (P.cellsOf p.2) else none)
def zob(P:Program)(C:z5)(ops:List Oper)(o:Oper)(ks:List (Operand×TypeId))(s:zbr)(h:zb)(K:zQ):Prop:=
 match ks with
 | []=>zo2 P C ops o s h K
 | ks=>match o.guard with
  | none=>zi1 P C o.op s h (A.zj0 h (zeb P s ks) K)
  | some (j,b)=>match zjy ops j with
   | some t=>A.gd h (s t) b (λK=>zi1 P C o.op s h (A.zj0 h (zeb P s ks) K)) K
   | none=>False
def zfo(P:Program)(C:z5)(ops:List Oper):List (Item×List (Operand×TypeId))->(zbr->zb->Prop)->zbr->zb->Prop|[],Q,s,h=>Q s h|(t,ks)::r,Q,s,h=>zob P C ops t.o ks s h λv h=>zfo P C ops r Q (zew s t.o.dst v) h
def zhd:List Nat->Nat->Bool|[],_=>false|x::r,k=>bif Nat.beq x k then true else zhd r k
def tmpsOf:List Operand->List Nat|[]=>[] | .tmp t::r=>t::tmpsOf r|_::r=>tmpsOf r
def usesO:List Oper->List Nat|[]=>[]|o::r=>tmpsOf o.op.operands.toList++usesO r
def dstsO:List Oper->List Nat|[]=>[]|o::r=>o.dst.toList++dstsO r
def usesC:Code->List Nat | .region _ ops _=>usesO ops.toList | .seq a b=>usesC a++usesC b | .cond c a b=>tmpsOf [c]++(usesC a++usesC b) | .block _ b=>usesC b | .loop b=>usesC b | .scope b=>usesC b|_=>[]
def dstsC:Code->List Nat | .region _ ops _=>dstsO ops.toList | .seq a b=>dstsC a++dstsC b | .cond _ a b=>dstsC a++dstsC b | .block _ b=>dstsC b | .loop b=>dstsC b | .scope b=>dstsC b|_=>[]
def minus(D:List Nat):List Nat->List Nat|[]=>[]|k::r=>bif zhd D k then minus D r else k::minus D r
def zpt(ps:List Nat)(a b:Code):List Nat:=minus (ps++(dstsC a++dstsC b)) (usesC a++usesC b)
def zrh(L:List Nat)(s:zbr):zbr:=λk=>bif zhd L k then s k else .undef
def zme:List Nat->List za->zbr->zbr|p::ps,a::l,s=>zme ps l (zew s (some p) a)|_,_,s=>s
def jn:Ex->Nat | .normal=>0 | .ret=>1 | .exit i=>i+2
def unj:Nat->Ex|0=> .normal|1=> .ret|i+2=> .exit i
def zi9(sz:Nat)(s:zbr)(ps:Array Tmp)(a b:Code)(j:Nat):Blk:=zgb (.loop sz s ps a b (j+1))
def endR(id:Nat)(mk:Nat->Blk)(K:zQ)(j:Nat)(h:zb):Prop:=∃h3:zb,h3.le h /\ (h3 id=none->K (.bool (Nat.beq j 0)) (upd h3 id (mk j)))
def rangeR(C:z5)(f:za)(mk:Nat->Blk)(W:List za->zb->(Nat->zb->Prop)->Prop)(h:zb)(K:Nat->zb->Prop):Prop:=
 ∀id,h id=none->(∀xs h1 Ky,h1 id=none->W xs h1 (endR id mk Ky)->C zle (mkY id::xs) (upd h1 id (mk 0)) Ky) ->
  match f with
  | .fn f first zjf=>C f (first++[.yld id]++zjf) (upd h id (mk 0)) λ_ h3=>∃j h4,h4 id=none /\ (upd h4 id (mk j)).le h3 /\ K j h4
  | _=>False
def awp(P:Program)(C:z5):Code->(Ex->zbr->zb->Prop)->zbr->zb->Prop
 | .skip,Q,s,h=>Q .normal s h
 | .region _ ops draw,Q,s,h=>
  match draw with
  | false=>opsWp P C ops.toList ops.toList (Q .normal) s h
  | true=>match plan P ops with
   | some l=>zfo P C ops.toList l (Q .normal) s h
   | none=>False
 | .seq a b,Q,s,h=>awp P C a (Ex.then (awp P C b Q) Q) s h
 | .cond c x y,Q,s,h=>A.cond (evS s c) (awp P C x Q s h) (awp P C y Q s h)
 | .block id b,Q,s,h=>awp P C b (Ex.inBlock id Q) s h
 | .loop c,Q,s,h=>∀X:zbr->zb->Prop,(∀s h,awp P C c (Ex.then X Q) s h->X s h)->X s h
 | .exit id,Q,s,h=>Q (.exit id) s h
 | .ret,Q,s,h=>Q .ret s h
 | .scope c,Q,s,h=>awp P C c Q s h
 | .label _,Q,s,h=>Q .normal s h
 | .rangeFunc g ps a b,Q,s,h=>∀sz,rangeR C (evS s g) (zi9 sz (zrh (zpt ps.toList a b) s) ps a b)
   (λxs h1 E=>xs.length=ps.size /\ awp P C a (Ex.then (awp P C b λe _ h2=>E (jn e) h2) λ_ _ _=>False) (zme ps.toList xs (zrh (zpt ps.toList a b) s)) h1) h λj h2=>Q (unj j) s h2
 | _,_,_,_=>False
def zog(P:Program)(h:zb)(p:za)(t:TypeId):Option za:=
 match P.underlying t with
 | none=>none
 | some _=>bif zdz P t then A.zl7 h p (P.cellsOf t) else A.ldv h p
def zos(o:Option za)(l:Option (List za)):Option (List za):=
 match o,l with
 | some v,some l=>some (v::l)
 | _,_=>none
def resS(P:Program)(h:zb)(s:zbr):List ResultVar->Option (List za)|[]=>some [] | .tmp t::r=>zos (some (s t)) (resS P h s r) | .cell x t::r=>zos (zog P h (s x) t) (resS P h s r)
def oneOf(o:Option (List za)):Option za:=
 match o with
 | some [v]=>some v
 | some l=>some (.tup l)
 | none=>none
def resV(P:Program)(h:zb)(s:zbr)(rs:List ResultVar):Option za:=oneOf (resS P h s rs)
def retQ(P:Program)(rs:List ResultVar)(Q:zQ):Ex->zbr->zb->Prop | .ret,s,h | .normal,s,h=>A.pv (resV P h s rs) λv=>Q v h | .exit _,_,_=>False
def zcr(args:List za):zbr:=λk=>args.getD k .undef
end Go.Ab
namespace Go.Ab
open List
open Go.RowKit (Below)
def zgx(ρ:zd1)(s:zbr)(a:Act):Prop:=∀k,zfm ρ (s k) (a.tmps.getD k Go.undef)
def Fr(h H h' H':zb):Prop:=∀id,h id=none->∀b,H id=some b->H' id=some b /\ h' id=none
theorem Fr.refl(h H:zb):Fr h H h H:=λ_ h0 _ h1=>⟨h1,h0⟩
theorem Fr.trans{h H h1 H1 h2 H2:zb}(x:Fr h H h1 H1)(y:Fr h1 H1 h2 H2):Fr h H h2 H2:=λid h0 b hb=>
 let ⟨p,q⟩:=x id h0 b hb
 y id q b p
structure znf(w0:World)(ρ:zd1)(h H:zb)(K:zQ)(v:Value)(w':World):Prop where
 intro ::
 ex:∃a ρ' h' H',ρ.le ρ' /\ zfm ρ' a v /\ K a h' /\ h'.le H' /\ Fr h H h' H' /\ R w0 ρ' H' w'
def Does(P:Program)(f:Nat)(va:Array Value)(w:World)(zri:Ending->World->Prop):Prop:=((callFunc f va).run P w= .ok (.enter f va) w /\ Calls P f va w zri) \/ ∃v w',(callFunc f va).run P w= .ok (.value v) w' /\ zri (.returned v) w' /\ ∀u∈va.toList,∀l x y,u≠ .func (.yield l) x y
theorem Does.mono{P:Program}{f:Nat}{va:Array Value}{w:World}{zri Post':Ending->World->Prop}(x:Does P f va w zri)(hp:∀e w,zri e w->Post' e w):Does P f va w Post':=x.imp (λ⟨a,b⟩=>⟨a,b.mono hp⟩) λ⟨v,w',a,b,c⟩=>⟨v,w',a,hp _ _ b,c⟩
def WF(r:Option Nat):Fence:={ Fence.wide with round:=r }
def Yields(P:Program)(va:List Value)(w:World)(zri:Ending->World->Prop):Prop:=∃l us f tmps assign body,va= .func (.yield l) #[] #[]::us /\ (Instr.yield l us.toArray).run P w= .ok (.round l f tmps assign body) w /\ RoundIn Fence.wide 0 P l f tmps assign body w zri
def DoesY(P:Program)(f:Nat)(args:List za)(va:List Value)(w:World)(zri:Ending->World->Prop):Prop:=(isY args=false->Does P f va.toArray w zri) /\ (isY args=true->f=zle->Yields P va w zri)
theorem DoesY.mono{P:Program}{f:Nat}{args:List za}{va:List Value}{w:World}{zri Post':Ending->World->Prop}(x:DoesY P f args va w zri)(hp:∀e w,zri e w->Post' e w):DoesY P f args va w Post':=
 ⟨λh=>(x.1 h).mono hp,λh h'=>let ⟨l,us,f,tmps,assign,body,h1,h2,h3⟩:=x.2 h h';⟨l,us,f,tmps,assign,body,h1,h2,h3.mono hp⟩⟩
def ARel(ρ:zd1)(args:List za)(va:List Value):Prop:=zd6 ρ args va \/ ∃id xs us L,args=mkY id::xs /\ ρ id 0=some L /\ va= .func (.yield L.blk) #[] #[]::us /\ zd6 ρ xs us
theorem zd6.noY{ρ:zd1}{args:List za}{va:List Value}(h:zd6 ρ args va):isY args=false:=by
 unfold isY;split
 ·obtain⟨u,us,rfl,⟨l,rfl,⟨v,vs,rfl,⟨l',rfl,_⟩,_⟩,h2⟩,_⟩:=h
  have:=h2 _ (mem_cons_self ..);simp[Value.oneCell']at this
 ·rfl
def AC(P:Program):z5:=λf args h Q=>∀w0 ρ H w (va:List Value),h.le H->R w0 ρ H w->ARel ρ args va->DoesY P f args va w λe w'=>∃v,e= .returned v /\ znf w0 ρ h H Q v w'
theorem znf.mono{w0:World}{ρ:zd1}{h H:zb}{K K':zQ}{v:Value}{w':World}(hk:∀a h,K a h->K' a h)(x:znf w0 ρ h H K v w'):znf w0 ρ h H K' v w':=by
 obtain⟨a,ρ',h',H',h1,h2,h3,h4⟩:=x.ex;exact⟨⟨a,ρ',h',H',h1,h2,hk _ _ h3,h4⟩⟩
theorem AC.mono{P:Program}{f:Nat}{args:List za}{h:zb}{Q Q':zQ}(hq:∀a h,Q a h->Q' a h)(x:AC P f args h Q):AC P f args h Q':=λw0 ρ H w va h1 h2 h3=>(x w0 ρ H w va h1 h2 h3).mono λ_ _ ⟨v,e1,e2⟩=>⟨v,e1,e2.mono hq⟩
theorem AC.frame{P:Program}{f:Nat}{args:List za}{h:zb}{Q:zQ}{id:Nat}{b:Blk}(x:AC P f args h Q)(hid:h id=none):
  AC P f args (upd h id b) λa h''=>∃h',Q a h' /\ h' id=none /\ h''=upd h' id b:=by
 intro w0 ρ H w va h1 h2 h3;have hH:H id=some b:=h1 id b (zb4 ..);have hle:h.le H:=zb.le_trans (zgi b hid) h1;refine(x w0 ρ H w va hle h2 h3).mono λe w' ⟨v,e1,e2⟩=>⟨v,e1,?_⟩;obtain⟨a,ρ',h',H',k1,k2,k3,k4,k5,k6⟩:=e2.ex;obtain⟨m1,m2⟩:=k5 id hid b hH;refine⟨⟨a,ρ',upd h' id b,H',k1,k2,⟨h',k3,m2,rfl⟩,?_,?_,k6⟩⟩
 ·intro i x hx
  by_cases hi:i=id
  ·subst hi;rw[zb4]at hx;cases hx;exact m1
  ·rw[zy _ _ hi]at hx;exact k4 i x hx
 ·intro i hi x hx
  by_cases hi':i=id
  ·subst hi';rw[zb4]at hi;cases hi
  ·rw[zy _ _ hi']at hi
   rw[zy _ _ hi'];exact k5 i hi x hx
theorem ofC_rel(ρ:zd1):∀v:Value,zfm ρ (ofC v) v | .bool _=>rfl | .int _ _=>rfl | .string s=>⟨s,rfl,rfl⟩ | .pointer none=>rfl | .pointer (some _)=>trivial | .slice none 0 0=>rfl | .slice none 0 (_+1)=>trivial | .slice none (_+1) _=>trivial | .slice (some _) _ _=>trivial | .nilFunc=>rfl | .float _ _=>trivial | .complex _ _ _=>trivial | .map none=>rfl | .map (some _)=>trivial | .chan _=>trivial | .func _ _ _=>trivial | .iface _ _=>trivial | .nilIface=>trivial | .agg _=>trivial | .tuple _=>trivial
theorem zgn{ρ:zd1}:∀{a:za}{v:Value},a.zec=true->zfm ρ a v->v.oneCell'=true
 | .undef,_,h,_=>by simp[za.zec]at h
 | .agg _,_,h,_=>by simp[za.zec]at h
 | .tup _,_,h,_=>by simp[za.zec]at h
 | .bool _,_,_,e=>by cases e;rfl
 | .int _ _,_,_,e=>by cases e;rfl
 | .str _,_,_,⟨_,e,_⟩=>by subst e;rfl
 | .zk4,_,_,e=>by cases e;rfl
 | .ptr _ _ _,_,_,⟨_,_,_,e⟩=>by subst e;rfl
 | .zed,_,_,e=>by cases e;rfl
 | .sz,_,_,⟨_,e⟩=>by subst e;rfl
 | .sl _ _ _ _ _ _,_,_,⟨_,_,_,.inl ⟨_,e,_⟩⟩=>by subst e;rfl
 | .sl _ _ _ _ _ _,_,_,⟨_,_,_,.inr ⟨_,_,_,e⟩⟩=>by subst e;rfl
 | .nilf,_,_,e=>by cases e;rfl
 | .zo8,_,_,e=>by cases e;rfl
 | .mp _,_,_,⟨_,_,e⟩=>by subst e;rfl
 | .fn _ _ _,_,_,⟨_,_,e,_⟩=>by subst e;rfl
 | .yld _,_,_,⟨_,_,e⟩=>by subst e;rfl
theorem zin:∀{v:Value},v.oneCell'=true->v.cells= #[v]
 | .agg _,h=>by simp[Value.oneCell']at h
 | .bool _,_ | .int _ _,_ | .float _ _,_ | .complex _ _ _,_ | .string _,_ | .pointer _,_ | .slice _ _ _,_ | .map _,_ | .chan _,_ | .func _ _ _,_ | .nilFunc,_
 | .iface _ _,_ | .nilIface,_ | .tuple _,_=>rfl
theorem ofCs_rel(ρ:zd1):∀l:List Value,zd6 ρ (l.map ofC) l|[]=>rfl|v::l=>⟨v,l,rfl,ofC_rel ρ v,ofCs_rel ρ l⟩
theorem ofV_rel(ρ:zd1):∀v:Value,zfm ρ (ofV v) v
 | .agg cs=>by
  simp only[ofV]
  by_cases h:(cs.all λc=>(ofC c).zec)=true
  ·rw[if_pos h]
   refine⟨cs.toList,by simp,ofCs_rel ρ _,λu hu=>?_⟩
   rw[Array.all_eq_true_iff_forall_mem]at h
   exact zgn (h u (by simpa using hu)) (ofC_rel ρ u)
  ·rw[if_neg h];trivial
 | .bool _ | .int _ _ | .float _ _ | .complex _ _ _ | .string _ | .pointer _ | .slice _ _ _ | .map _ | .chan _ | .func _ _ _ | .nilFunc
 | .iface _ _ | .nilIface | .tuple _=>by simp only[ofV];exact ofC_rel ρ _
theorem zcu{ρ:zd1}{s:zbr}{a:Act}(h:zgx ρ s a):∀x:Operand,zfm ρ (evS s x) (a.eval x) | .tmp t=>h t | .const v=>ofV_rel ρ v | .global _=>trivial | .func _=>⟨[],[],rfl,rfl,rfl⟩
theorem zmb{ρ:zd1}{s:zbr}{a:Act}(h:zgx ρ s a):∀xs:List Operand,zd6 ρ (xs.map (evS s)) (xs.map a.eval)|[]=>rfl|x::xs=>⟨_,_,rfl,zcu h x,zmb h xs⟩
theorem zgx.mono{ρ ρ':zd1}{s:zbr}{a:Act}(h:zgx ρ s a)(hle:ρ.le ρ'):zgx ρ' s a:=λk=>(h k).mono hle
theorem zgx.put{ρ:zd1}{s:zbr}{a:Act}(h:zgx ρ s a){d:Option Nat}{x:za}{v:Value}(hv:zfm ρ x v)(hd:∀k,d=some k->k<a.tmps.size):
  zgx ρ (zew s d x) (a.put d v):=by
 cases d with
 | none=>exact h
 | some d=>
  intro k;by_cases hk:k=d
  ·subst hk
   have hlt:=hd k rfl;simp only[zew,Act.put];rw[show Nat.beq k k=true from by simp];have hg:(a.tmps.setIfInBounds k v).getD k Go.undef=v:=by simp[hlt]
   rw[hg];exact hv
  ·have hb:Nat.beq k d=false:=by rw[<-Bool.not_eq_true,Nat.beq_eq];exact hk
   simp only[zew,Act.put,hb,cond_false];have hg:(a.tmps.setIfInBounds d v).getD k Go.undef=a.tmps.getD k Go.undef:=by
    simp[Array.getElem?_setIfInBounds_ne (Ne.symm hk)]
   rw[hg];exact h k
section
variable{P:Program}{w0:World}{ρ:zd1}{h H:zb}{w:World}{a:Act}{K:zQ}{o:Oper}{Q:Exit->Act->World->Prop}
def zgr(P:Program)(w0:World)(ρ:zd1)(h H:zb)(K:zQ)(o:Oper)(a:Act)(w:World)(Q:Exit->Act->World->Prop):Prop:=(∀c,o.op≠ .defer c)->∀r n,o.wpIn (WF r) n P a w (λa' w'=>∃v,znf w0 ρ h H K v w' /\ a'=a.put o.dst v) Q
theorem zem{v:Value}{w':World}(hr:(execOp a.eval o).run P w= .ok (.value v) w')(hA:znf w0 ρ h H K v w'):zgr P w0 ρ h H K o a w Q:=by
 intro hd r n;refine⟨λ_ _=>trivial,?_⟩;rw[Oper.semAt_eq _ _ _ hd,hr];exact⟨v,hA,rfl⟩
theorem ok_skip{w':World}(hr:(execOp a.eval o).run P w= .ok .skip w')(hA:znf w0 ρ h H K Go.undef w'):zgr P w0 ρ h H K o a w Q:=by
 intro hd r n;refine⟨λ_ _=>trivial,?_⟩;rw[Oper.semAt_eq _ _ _ hd,hr];exact⟨Go.undef,hA,rfl⟩
theorem zoz(hR:R w0 ρ H w)(hle:h.le H){x:za}{v:Value}(hv:zfm ρ x v)(hK:K x h):znf w0 ρ h H K v w:=⟨⟨x,ρ,h,H,zd1.le_refl ρ,hv,hK,hle,Fr.refl h H,hR⟩⟩
theorem zdt(hR:R w0 ρ H w)(hle:h.le H){x:za}{v:Value}(hr:(execOp a.eval o).run P w= .ok (.value v) w)(hv:zfm ρ x v)(hK:K x h):zgr P w0 ρ h H K o a w Q:=zem hr (zoz hR hle hv hK)
end
theorem zhk{P:Program}{t:TypeId}{d:TypeDesc}(h:P.underlying t=some d)(w:World):(isAgg t).run P w= .ok (zdz P t) w:=by
 unfold isAgg zdz;rw[h];cases d<;>simp[run_underlying h]
theorem ze{o:Option za}{K:za->Prop}(h:A.pv o K):∃v,o=some v /\ K v:=by
 cases o with
 | none=>exact h.elim
 | some v=>exact⟨v,rfl,h⟩
theorem run_sizeOf{P:Program}{t:TypeId}{i:TypeInfo}(h:P.info? t=some i)(w:World):(sizeOf t).run P w= .ok i.size w:=by
 simp[sizeOf,typeInfo,h]
theorem zd9{P:Program}{t:TypeId}{i:TypeInfo}(h:P.info? t=some i):P.cellsOf t=i.size:=by simp[Program.cellsOf,h]
theorem info_of_underlying{P:Program}{t:TypeId}{d:TypeDesc}(h:P.underlying t=some d):∃i,P.info? t=some i:=by
 unfold Program.underlying at h;cases hi:P.info? t with
 | none=>simp[hi]at h
 | some i=>exact⟨i,rfl⟩
end Go.Ab
namespace Go.Ab
open List
open Go.RowKit (Below)
section
variable{P:Program}{ρ:zd1}{w:World}
theorem zhx(b o n:Nat):(⟨b,o,none⟩:Addr).add n=⟨b,o+n,none⟩:=by unfold Addr.add;split<;>simp_all
theorem zd4(op:BinOp)(t:TypeId)(x y:Operand)(a b:Value)(h1:a≠ .nilIface)(h2:∀c,a≠ .agg c):(eqGuard op t x y a b).run P w= .ok () w:=by
 unfold eqGuard;cases op<;>simp<;>(split<;>simp_all)
theorem bin_run{op:BinOp}{t:TypeId}{x y r:za}{u v:Value}(hx:zfm ρ x u)(hy:zfm ρ y v)(h:V.bin op x y=some r):
  (∀a b,(eqGuard op t a b u v).run P w= .ok () w) /\ ∃z,(binOp op t u v).run P w= .ok z w /\ zfm ρ r z:=by
 unfold V.bin at h;split at h
 ·
  rename_i k a j b;cases hx;cases hy;refine⟨λ_ _=>zd4 _ _ _ _ _ _ (by simp) (by simp),?_⟩
  have ar:∀op',op'≠ .shl->op'≠ .shr->(if k=j then V.arith op' k a b else none)=some r->∃z,(binOp op' t (.int k a) (.int j b)).run P w= .ok z w /\ zfm ρ r z:=by
   intro op' n1 n2 hh;split at hh
   ·rename_i hkj
    subst hkj;cases op'
    case quo=>
     simp only[V.arith]at hh;split at hh
     ·cases hh
     ·rename_i hz
      cases hh;exact⟨_,by simp only[binOp,Op.intDiv,ne_eq,not_true,if_false,hz,Sem.run_pure],rfl⟩
    case rem=>
     simp only[V.arith]at hh;split at hh
     ·cases hh
     ·rename_i hz
      cases hh;exact⟨_,by simp only[binOp,Op.intDiv,ne_eq,not_true,if_false,hz,Sem.run_pure],rfl⟩
    case shl=>exact absurd rfl n1
    case shr=>exact absurd rfl n2
    all_goals
     simp only[V.arith,Option.some.injEq]at hh;subst hh;exact⟨_,by simp only[binOp,Op.intArith,Op.intBits,Op.intCmp,ne_eq,not_true,if_false,Sem.run_pure],rfl⟩
   ·cases hh
  have sh:∀op',(op'= .shl \/ op'= .shr)->V.shift op' k a b=some r->∃z,(binOp op' t (.int k a) (.int j b)).run P w= .ok z w /\ zfm ρ r z:=by
   intro op' ho hh;unfold V.shift at hh;split at hh
   ·cases hh
   ·rename_i hb
    rcases ho with rfl|rfl<;>simp at hh<;>subst hh<;>simp[binOp,Op.shift,hb,zfm]
  cases op<;>first|exact sh _ (by simp) h|exact ar _ (by simp) (by simp) h
 ·rename_i a b
  obtain⟨s,rfl,rfl⟩:=hx;obtain⟨s',rfl,rfl⟩:=hy;refine⟨λ_ _=>zd4 _ _ _ _ _ _ (by simp) (by simp),?_⟩;have hl:∀s:ByteArray,s.toList=s.data.toList:=λs=>by
   exact Lib.toList_data s
  cases op<;>simp only[V.strOp]at h
  case add=>
   split at h
   ·cases h
   ·rename_i hb
    simp only[Option.some.injEq]at h;subst h;refine⟨.string (s++s'),?_,_,rfl,by simp⟩;have:¬ ((s.size+s'.size:Nat):Int)>IntKind.i64.max:=hb;simp only[binOp,Op.stringOp];rw[if_neg this];rfl
  all_goals cases h
  all_goals exact⟨_,by simp only[binOp,Op.stringOp,hl,Sem.run_pure],rfl⟩
 ·cases h
theorem eqv_some{op:BinOp}{e:Bool}{r:za}(h:V.eqv op e=some r):(op= .eql /\ r= .bool e) \/ (op= .neq /\ r= .bool !e):=by
 cases op<;>simp[V.eqv]at h<;>simp[h.symm]
theorem zh2{op:BinOp}{t:TypeId}{e:Bool}{r:za}{u v:Value}(h:V.eqv op e=some r)(hne:∀op',op'= .eql \/ op'= .neq->binOp op' t u v=(match op' with
   | .neq=>(do pure (.bool (!(<- Op.equal t u v))))|_=>(do pure (.bool (<- Op.equal t u v)))))
  (he:(Op.equal t u v).run P w= .ok e w):∃z,(binOp op t u v).run P w= .ok z w /\ zfm ρ r z:=by
 rcases eqv_some h with⟨rfl,rfl⟩|⟨rfl,rfl⟩
 ·exact⟨.bool e,by rw[hne .eql (.inl rfl)];simp[he],rfl⟩
 ·exact⟨.bool (!e),by rw[hne .neq (.inr rfl)];simp[he],rfl⟩
theorem zeq{t:TypeId}{u v:Value}{e:Bool}(h:∀d,(Op.equalIn (d+1) t u v).run P w= .ok e w):(Op.equal t u v).run P w= .ok e w:=h 9999
theorem eqBool_run{op:BinOp}{t:TypeId}{x y r:za}{u v:Value}(ht:P.underlying t=some .bool)(hx:zfm ρ x u)(hy:zfm ρ y v)(h:V.zpj op x y=some r):
  (∀a b,(eqGuard op t a b u v).run P w= .ok () w) /\ ∃z,(binOp op t u v).run P w= .ok z w /\ zfm ρ r z:=by
 unfold V.zpj at h;split at h
 ·cases hx;cases hy
  refine⟨λ_ _=>zd4 _ _ _ _ _ _ (by simp) (by simp),zh2 h ?_ ?_⟩
  ·rintro _ (rfl|rfl)<;>simp[binOp]
  ·exact zeq λd=>by simp[Op.equalIn,run_underlying ht]
 ·cases h
theorem zrb{op:BinOp}{t e:TypeId}{x y r:za}{u v:Value}(ht:P.underlying t=some (.pointer e))(hx:zfm ρ x u)(hy:zfm ρ y v)(h:V.zgk op x y=some r):
  (∀a b,(eqGuard op t a b u v).run P w= .ok () w) /\ ∃z,(binOp op t u v).run P w= .ok z w /\ zfm ρ r z:=by
 unfold V.zgk at h;split at h
 ·cases hx;cases hy
  refine⟨λ_ _=>zd4 _ _ _ _ _ _ (by simp) (by simp),zh2 h ?_ ?_⟩
  ·rintro _ (rfl|rfl)<;>simp[binOp]
  ·exact zeq λd=>by simp[Op.equalIn,run_underlying ht]
 ·cases hx;obtain⟨L,_,_,rfl⟩:=hy
  refine⟨λ_ _=>zd4 _ _ _ _ _ _ (by simp) (by simp),zh2 h ?_ ?_⟩
  ·rintro _ (rfl|rfl)<;>simp[binOp]
  ·exact zeq λd=>by simp[Op.equalIn,run_underlying ht]
 ·cases hy;obtain⟨L,_,_,rfl⟩:=hx
  refine⟨λ_ _=>zd4 _ _ _ _ _ _ (by simp) (by simp),zh2 h ?_ ?_⟩
  ·rintro _ (rfl|rfl)<;>simp[binOp]
  ·exact zeq λd=>by simp[Op.equalIn,run_underlying ht]
 ·cases h
theorem zno{id g off len es cp:Nat}{v:Value}(h:zfm ρ (.sl id g off len es cp) v):∃a c,v= .slice (some a) len c:=by
 obtain⟨L,_,_,h⟩:=h;rcases h with⟨c,e,_⟩|⟨rfl,_,a,e⟩
 ·exact⟨_,_,e⟩
 ·exact⟨_,_,e⟩
theorem eqSl_run{op:BinOp}{t e:TypeId}{x y r:za}{u v:Value}(ht:P.underlying t=some (.slice e))(hx:zfm ρ x u)(hy:zfm ρ y v)(h:V.eqSl op x y=some r):
  (∀a b,(eqGuard op t a b u v).run P w= .ok () w) /\ ∃z,(binOp op t u v).run P w= .ok z w /\ zfm ρ r z:=by
 unfold V.eqSl at h;split at h
 ·cases hx;cases hy
  refine⟨λ_ _=>zd4 _ _ _ _ _ _ (by simp) (by simp),zh2 h ?_ ?_⟩
  ·rintro _ (rfl|rfl)<;>simp[binOp]
  ·exact zeq λd=>by simp[Op.equalIn,run_underlying ht]
 ·cases hx;obtain⟨_,_,rfl⟩:=zno hy
  refine⟨λ_ _=>zd4 _ _ _ _ _ _ (by simp) (by simp),zh2 h ?_ ?_⟩
  ·rintro _ (rfl|rfl)<;>simp[binOp]
  ·exact zeq λd=>by simp[Op.equalIn,run_underlying ht]
 ·cases hy;obtain⟨_,_,rfl⟩:=zno hx
  refine⟨λ_ _=>zd4 _ _ _ _ _ _ (by simp) (by simp),zh2 h ?_ ?_⟩
  ·rintro _ (rfl|rfl)<;>simp[binOp]
  ·exact zeq λd=>by simp[Op.equalIn,run_underlying ht]
 ·cases hx;obtain⟨a,rfl⟩:=hy
  refine⟨λ_ _=>zd4 _ _ _ _ _ _ (by simp) (by simp),zh2 h ?_ ?_⟩
  ·rintro _ (rfl|rfl)<;>simp[binOp]
  ·exact zeq λd=>by simp[Op.equalIn,run_underlying ht]
 ·cases hy;obtain⟨a,rfl⟩:=hx
  refine⟨λ_ _=>zd4 _ _ _ _ _ _ (by simp) (by simp),zh2 h ?_ ?_⟩
  ·rintro _ (rfl|rfl)<;>simp[binOp]
  ·exact zeq λd=>by simp[Op.equalIn,run_underlying ht]
 ·cases h
theorem eqMap_run{op:BinOp}{t e k:TypeId}{x y r:za}{u v:Value}(ht:P.underlying t=some (.map k e))(hx:zfm ρ x u)(hy:zfm ρ y v)(h:V.eqMap op x y=some r):
  (∀a b,(eqGuard op t a b u v).run P w= .ok () w) /\ ∃z,(binOp op t u v).run P w= .ok z w /\ zfm ρ r z:=by
 unfold V.eqMap at h;split at h
 ·cases hx;cases hy
  refine⟨λ_ _=>zd4 _ _ _ _ _ _ (by simp) (by simp),zh2 h ?_ ?_⟩
  ·rintro _ (rfl|rfl)<;>simp[binOp]
  ·exact zeq λd=>by simp[Op.equalIn,run_underlying ht]
 ·cases hx;obtain⟨L,_,rfl⟩:=hy
  refine⟨λ_ _=>zd4 _ _ _ _ _ _ (by simp) (by simp),zh2 h ?_ ?_⟩
  ·rintro _ (rfl|rfl)<;>simp[binOp]
  ·exact zeq λd=>by simp[Op.equalIn,run_underlying ht]
 ·cases hy;obtain⟨L,_,rfl⟩:=hx
  refine⟨λ_ _=>zd4 _ _ _ _ _ _ (by simp) (by simp),zh2 h ?_ ?_⟩
  ·rintro _ (rfl|rfl)<;>simp[binOp]
  ·exact zeq λd=>by simp[Op.equalIn,run_underlying ht]
 ·cases h
theorem eqFn_run{op:BinOp}{t:TypeId}{ps rs:Array TypeId}{vr:Bool}{x y r:za}{u v:Value}(ht:P.underlying t=some (.func ps rs vr))(hx:zfm ρ x u)(hy:zfm ρ y v)(h:V.eqFn op x y=some r):
  (∀a b,(eqGuard op t a b u v).run P w= .ok () w) /\ ∃z,(binOp op t u v).run P w= .ok z w /\ zfm ρ r z:=by
 unfold V.eqFn at h;split at h
 ·cases hx;cases hy
  refine⟨λ_ _=>zd4 _ _ _ _ _ _ (by simp) (by simp),zh2 h ?_ ?_⟩
  ·rintro _ (rfl|rfl)<;>simp[binOp]
  ·exact zeq λd=>by simp[Op.equalIn,run_underlying ht]
 ·cases hx;obtain⟨_,_,rfl,_⟩:=hy
  refine⟨λ_ _=>zd4 _ _ _ _ _ _ (by simp) (by simp),zh2 h ?_ ?_⟩
  ·rintro _ (rfl|rfl)<;>simp[binOp]
  ·exact zeq λd=>by simp[Op.equalIn,run_underlying ht]
 ·cases hy;obtain⟨_,_,rfl,_⟩:=hx
  refine⟨λ_ _=>zd4 _ _ _ _ _ _ (by simp) (by simp),zh2 h ?_ ?_⟩
  ·rintro _ (rfl|rfl)<;>simp[binOp]
  ·exact zeq λd=>by simp[Op.equalIn,run_underlying ht]
 ·cases h
end
end Go.Ab
namespace Go.Ab
open List
section
variable{P:Program}{ρ:zd1}
theorem zd6.drop:∀{as:List za}{l:List Value}(n:Nat),zd6 ρ as l->zd6 ρ (as.drop n) (l.drop n)
 | _,_,0,h=>h
 | [],_,_+1,e=>by subst e;simp[zd6]
 | _::_,_,n+1,⟨_,_,e,_,h⟩=>by subst e;exact zd6.drop n h
theorem zd6.take:∀{as:List za}{l:List Value}(n:Nat),zd6 ρ as l->zd6 ρ (as.take n) (l.take n)
 | _,_,0,_=>by simp[zd6]
 | [],_,_+1,e=>by subst e;simp[zd6]
 | _::_,_,n+1,⟨u,us,e,h1,h⟩=>by subst e;exact⟨u,us.take n,rfl,h1,zd6.take n h⟩
theorem zmr:∀{cs:List Ck}{as bs:List za}{e:Bool},V.zfw cs as bs=some e->as.length=cs.length /\ bs.length=cs.length
 | [],[],[],_,_=>⟨rfl,rfl⟩
 | [],[],_::_,_,h|[],_::_,_,_,h|_::_,[],_,_,h|_::_,_::_,[],_,h=>by simp[V.zfw]at h
 | c::cs,a::as,b::bs,e,h=>by
  simp only[V.zfw]at h
  split at h
  ·rename_i x y h1 h2
   have:=zmr h2
   simp[this]
  ·cases h
theorem zms:∀{c1 c2:List Ck}{as bs:List za}{e:Bool},V.zfw (c1++c2) as bs=some e ->
  ∃e1 e2,V.zfw c1 (as.take c1.length) (bs.take c1.length)=some e1 /\ V.zfw c2 (as.drop c1.length) (bs.drop c1.length)=some e2 /\ e=(e1&&e2)
 | [],_,as,bs,e,h=>⟨true,e,by simp[V.zfw],by simpa using h,by simp⟩
 | _::_,_,[],_,_,h|_::_,_,_::_,[],_,h=>by simp[V.zfw]at h
 | c::c1,c2,a::as,b::bs,e,h=>by
  simp only[cons_append,V.zfw]at h
  split at h
  ·rename_i x y h1 h2
   obtain⟨e1,e2,k1,k2,rfl⟩:=zms h2
   refine⟨x&&e1,e2,by simp[V.zfw,h1,k1],by simpa using k2,?_⟩
   cases h
   cases x<;>simp
  ·cases h
theorem joinC_cons{x:Option (List Ck)}{r:List (Option (List Ck))}{l:List Ck}(h:joinC (x::r)=some l):∃a b,x=some a /\ joinC r=some b /\ l=a++b:=by
 cases x with
 | none=>simp[joinC]at h
 | some a=>
  simp only[joinC]at h;split at h
  ·rename_i m hm;cases h;exact⟨a,m,rfl,hm,rfl⟩
  ·cases h
def EqAtS(P:Program)(ρ:zd1)(D:Nat)(t:TypeId)(sh:List Ck):Prop:=sh.length=P.cellsOf t /\ ∀(as bs:List za)(xs ys:List Value)(n:Nat)(e:Bool)(w:World),zd6 ρ as xs->zd6 ρ bs ys->V.zfw sh ((as.drop n).take sh.length) ((bs.drop n).take sh.length)=some e->∃a b,(part t xs.toArray n).run P w= .ok a w /\ (part t ys.toArray n).run P w= .ok b w /\ (Op.equalIn D t a b).run P w= .ok e w
theorem zpi{d:Nat}:∀(fs:List Field)(sh:List Ck)(n m:Nat),(∀ f∈fs,f.name≠ "_")→zsh P fs n=some m →
  joinC (fs.map λf=>zm1 P d f.type)=some sh->∀D,(∀f∈fs,∀s,zm1 P d f.type=some s->EqAtS P ρ D f.type s) ->
  n+sh.length=m /\ ∀(as bs:List za)(xs ys:List Value)(e:Bool)(w:World),zd6 ρ as xs->zd6 ρ bs ys ->
  V.zfw sh ((as.drop n).take sh.length) ((bs.drop n).take sh.length)=some e->(Op.eqFields D xs.toArray ys.toArray fs).run P w= .ok e w
 | [],sh,n,m,_,hc,hj,D,_=>by
  simp[zsh]at hc
  simp[joinC]at hj
  subst hj
  refine⟨by simpa using hc,λas bs xs ys e w _ _ h=>?_⟩
  simp[V.zfw]at h
  subst h
  simp[Op.eqFields]
 | f::fs,sh,n,m,hn,hc,hj,D,hall=>by
  simp only[zsh]at hc
  split at hc
  ·rename_i hoff
   obtain⟨s1,s2,h1,h2,rfl⟩:=joinC_cons hj
   obtain⟨hl,hf⟩:=hall f (by simp) s1 h1
   obtain⟨hm,ih⟩:=zpi fs s2 (n+P.cellsOf f.type) m (λg hg=>hn g (by simp[hg])) hc h2 D (λg hg=>hall g (by simp[hg]))
   refine⟨by simp only[length_append];omega,λas bs xs ys e w hx hy h=>?_⟩
   obtain⟨e1,e2,k1,k2,rfl⟩:=zms h
   rw[length_append]at k1 k2
   rw[take_take,Nat.min_eq_left (by omega),take_take,Nat.min_eq_left (by omega)]at k1
   rw[drop_take,drop_take,drop_drop,drop_drop,show s1.length+s2.length-s1.length=s2.length by omega,show n+s1.length=n+P.cellsOf f.type by omega]at k2
   obtain⟨a,b,r1,r2,r3⟩:=hf as bs xs ys n e1 w hx hy k1
   have r4:=ih as bs xs ys e2 w hx hy k2
   simp only[Op.eqFields,hn f (by simp),ne_eq,not_false_eq_true,if_true,Sem.run_bind,hoff,r1,r2,r3,Result.andThen_ok]
   cases e1
   ·simp
   ·simp[r4]
  ·cases hc
theorem zo4{t:TypeId}{d:TypeDesc}(ht:P.underlying t=some d)(hd:zdz P t=false){xs:List Value}{n:Nat}{u:Value}(h:xs[n]?=some u)(w:World):(part t xs.toArray n).run P w= .ok u w:=by
 unfold part;simp only[Sem.run_bind,zhk ht,Result.andThen_ok,hd];simp[h]
theorem shape_run:∀(d:Nat)(t:TypeId)(sh:List Ck),zm1 P d t=some sh->∀D,EqAtS P ρ (D+d) t sh
 | 0,_,_,h,_=>by simp[zm1]at h
 | d+1,t,sh,h,D=>by
  have one:∀(c:Ck)(dd:TypeDesc),P.underlying t=some dd->zdz P t=false->(bif Nat.beq (P.cellsOf t) 1 then some [c] else none)=some sh ->
    (∀a b u v e w,zfm ρ a u->zfm ρ b v->V.zmt c a b=some e->(Op.equalIn (D+(d+1)) t u v).run P w= .ok e w)->EqAtS P ρ (D+(d+1)) t sh:=by
   intro c dd ht ha hs k;cases hb:Nat.beq (P.cellsOf t) 1 with
   | false=>simp[hb]at hs
   | true=>
    simp only[hb,cond_true,Option.some.injEq]at hs;subst hs;refine⟨by have:=Nat.eq_of_beq_eq_true hb;simp[this],λas bs xs ys n e w hx hy h=>?_⟩;cases ha':as.drop n with
    | nil=>rw[ha']at h;simp[V.zfw]at h
    | cons a ra=>
     cases hb':bs.drop n with
     | nil=>rw[ha',hb']at h;simp[V.zfw]at h
     | cons b rb=>
      rw[ha',hb']at h;simp only[length_singleton,take_succ_cons,take_zero,V.zfw]at h;have ga:as[n]?=some a:=by have:=congrArg (·[0]?) ha';simpa using this
      have gb:bs[n]?=some b:=by have:=congrArg (·[0]?) hb';simpa using this
      obtain⟨u,hu,ru⟩:=hx.get ga;obtain⟨v,hv,rv⟩:=hy.get gb;refine⟨u,v,zo4 ht ha hu w,zo4 ht ha hv w,?_⟩;split at h
      ·rename_i x y h1 h2
       simp at h2 h;subst h2;rw[Bool.and_true]at h;subst h;exact k a b u v x w ru rv h1
      ·cases h
  simp only[zm1]at h;split at h
  ·rename_i ht
   refine one .b _ ht (by simp[zdz,ht]) h λa b u v e w hu hv he=>?_;unfold V.zmt at he;split at he<;>(try (cases he;done))
   ·cases hu;cases hv;cases he;exact run_equalIn_bool w (D+d) t _ _ ht
   all_goals simp_all
  ·rename_i k ht
   refine one (.i k) _ ht (by simp[zdz,ht]) h λa b u v e w hu hv he=>?_;unfold V.zmt at he;split at he<;>(try (cases he;done))
   ·simp_all
   ·rename_i k' j x l y hk
    split at he
    ·rename_i hh
     obtain⟨rfl,rfl⟩:=hh;cases hu;cases hv;cases he;exact run_equalIn_int w (D+d) t _ _ _ _ ht
    ·cases he
   ·simp_all
  ·rename_i ht
   refine one .s _ ht (by simp[zdz,ht]) h λa b u v e w hu hv he=>?_;unfold V.zmt at he;split at he<;>(try (cases he;done))
   ·simp_all
   ·simp_all
   ·obtain⟨s,rfl,rfl⟩:=hu
    obtain⟨s',rfl,rfl⟩:=hv;cases he;rw[show D+(d+1)=(D+d)+1 by omega,run_equalIn_string w (D+d) t _ _ ht,Lib.toList_data,Lib.toList_data]
  ·rename_i fs ht
   cases hb:(!P.stoodInHeld t&&fs.toList.all (fun f=>f.name != "_")&&zsh P fs.toList 0==some (P.cellsOf t)) with
   | false=>rw[hb,cond_false]at h;cases h
   | true=>
    rw[hb,cond_true]at h;simp only[Bool.and_eq_true,Bool.not_eq_true',all_eq_true,bne_iff_ne,beq_iff_eq]at hb;obtain⟨⟨hst,hnm⟩,hcg⟩:=hb;obtain⟨hm,ih⟩:=zpi (ρ:=ρ) fs.toList sh 0 _ hnm hcg h (D+d) (λf _ s hs=>shape_run d f.type s hs D);refine⟨by omega,λas bs xs ys n e w hx hy he=>?_⟩;have hft:P.underlying t=some (.struct (P.fieldsOf t)):=by simp[Program.fieldsOf,ht]
    have hfe:(P.fieldsOf t).toList=fs.toList:=by simp[Program.fieldsOf,ht]
    have hag:zdz P t=true:=by simp[zdz,ht]
    obtain⟨i,hi⟩:=info_of_underlying ht;have hsz:P.cellsOf t=i.size:=zd9 hi;have pr:∀zs:List Value,(part t zs.toArray n).run P w= .ok (.agg ((zs.drop n).take sh.length).toArray) w:=λzs=>by
     unfold part;simp only[Sem.run_bind,zhk ht,Result.andThen_ok,hag,if_true,run_sizeOf hi,Sem.run_pure];congr 2;apply Array.ext';simp only[extract_toArray,extract_eq_take_drop];rw[show n+i.size-n=sh.length by omega]
    refine⟨_,_,pr xs,pr ys,?_⟩;rw[show D+(d+1)=(D+d)+1 by omega,run_equalIn_struct w (D+d) t _ _ hft hst,hfe];exact ih _ _ _ _ e w (hx.drop n |>.take sh.length) (hy.drop n |>.take sh.length) (by simpa[take_take]using he)
  ·cases h
theorem binAgg_run{op:BinOp}{t:TypeId}{fs:Array Field}{sh:List Ck}{x y r:za}{u v:Value}{w:World}(ht:P.underlying t=some (.struct fs))(hs:zqk P t=some sh)
  (hx:zfm ρ x u) (hy:zfm ρ y v) (h:V.binAgg op sh x y=some r):
  (∀a b,(eqGuard op t a b u v).run P w= .ok () w) /\ ∃z,(binOp op t u v).run P w= .ok z w /\ zfm ρ r z:=by
 unfold V.binAgg at h;split at h
 ·rename_i as bs
  split at h
  ·rename_i e he
   unfold zqk at hs;cases hg:P.eqGuardType P.depth t with
   | true=>simp[hg]at hs
   | false=>
    simp only[hg,cond_false]at hs;obtain⟨xs,rfl,hxs,_⟩:=hx;obtain⟨ys,rfl,hys,_⟩:=hy;refine⟨λ_ _=>run_eqGuard_agg w _ _ _ _ _ _ hg,zh2 h ?_ ?_⟩
    ·rintro _ (rfl|rfl)<;>simp[binOp]
    ·obtain⟨l1,l2⟩:=zmr he
     obtain⟨hl,hh⟩:=shape_run (ρ:=ρ) 8 t sh hs 9992;obtain⟨a,b,r1,r2,r3⟩:=hh as bs xs ys 0 e w hxs hys (by simpa[take_of_length_le,l1,l2]using he);have hag:zdz P t=true:=by simp[zdz,ht]
     obtain⟨i,hi⟩:=info_of_underlying ht;have pr:∀zs:List Value,zs.length=sh.length->(part t zs.toArray 0).run P w= .ok (.agg zs.toArray) w:=λzs hz=>by
      unfold part;simp only[Sem.run_bind,zhk ht,Result.andThen_ok,hag,if_true,run_sizeOf hi,Sem.run_pure];congr 2;apply Array.ext';have:=zd9 hi;simp[take_of_length_le (show zs.length <= i.size by omega)]
     rw[pr xs (by rw[<-hxs.length];exact l1)]at r1;rw[pr ys (by rw[<-hys.length];exact l2)]at r2;cases r1;cases r2;exact r3
  ·cases h
 ·cases h
end
end Go.Ab
namespace Go.Ab
open List
open Go.RowKit (Below)
theorem zej{g hi:Nat}:∀{l:List (Nat×Nat)},l.lookup g=some hi->(g,hi)∈l
 | [],h=>by simp at h
 | (k,v)::r,h=>by
  rw[lookup_cons]at h
  by_cases hk:g=k
  ·subst hk
   simp at h
   simp[h]
  ·have:(g==k)=false:=by simpa using hk
   rw[this]at h
   exact mem_cons_of_mem _ (zej h)
section
variable{P:Program}{w0:World}{ρ:zd1}{h H:zb}{w:World}
theorem zi0(hR:R w0 ρ H w){id:Nat}{b:Blk}(hid:H id=some b){g hi:Nat}(hg:(g,hi)∈b.zij){L:Loc}(hL:ρ id g=some L){off n:Nat}(hlo:L.lo <= off)(hn:off+n <= hi):
  ∃l:List Value,l.length=n /\ zd6 ρ ((b.cells.drop off).take n) l /\ (∀u∈l,u.oneCell'=true) /\
   ∀j u,l[j]?=some u->w.cell? ⟨L.blk,L.base+(off-L.lo)+j,none⟩=some u:=by
 obtain⟨h0,L',arr,e,fr,h1,h2,h3,h4,_,h6⟩:=(hR.blk id b hid).gen g hi hg;rw[hL]at h1;cases h1;have hat:∀j,j<n->arr[L.base+(off-L.lo)+j]?=arr[L.base+(off+j-L.lo)]? :=λj hj=>by
  rw[show L.base+(off-L.lo)+j=L.base+(off+j-L.lo) by omega]
 have hlen:((arr.toList.drop (L.base+(off-L.lo))).take n).length=n:=by
  simp only[length_take,length_drop,Array.length_toList];omega
 have hget:∀j,j<n->((arr.toList.drop (L.base+(off-L.lo))).take n)[j]?=arr[L.base+(off-L.lo)+j]? :=λj hj=>by
  rw[getElem?_take_of_lt hj,getElem?_drop];simp
 refine⟨(arr.toList.drop (L.base+(off-L.lo))).take n,hlen,?_,?_,?_⟩
 ·refine zd6.of_get (by rw[hlen,length_take,length_drop];omega) λj a u ha hu=>?_
  have hj:j<n:=by
   rcases Nat.lt_or_ge j n with hj|hj
   ·exact hj
   ·rw[getElem?_eq_none (by rw[hlen];exact hj)]at hu;cases hu
  rw[getElem?_take_of_lt hj,getElem?_drop]at ha;obtain⟨u',k1,k2,_⟩:=h6 (off+j) (by omega) (by omega) a ha;rw[hget j hj,hat j hj,k1]at hu;cases hu;exact k2
 ·intro u hu
  obtain⟨j,hj,rfl⟩:=getElem_of_mem hu;rw[hlen]at hj;have ha:∃a,b.cells[off+j]?=some a:=⟨_,getElem?_eq_getElem (by omega)⟩;obtain⟨a,ha⟩:=ha;obtain⟨u',k1,_,k3⟩:=h6 (off+j) (by omega) (by omega) a ha;have:=hget j hj;rw[hat j hj,k1,getElem?_eq_getElem (by rw[hlen];exact hj)]at this;cases this;exact k3
 ·intro j u hu
  have hj:j<n:=by
   rcases Nat.lt_or_ge j n with hj|hj
   ·exact hj
   ·rw[getElem?_eq_none (by rw[hlen];exact hj)]at hu;cases hu
  rw[hget j hj]at hu;simp only[World.cell?,h2];simpa using hu
theorem ldv_sound(hR:R w0 ρ H w)(hle:h.le H){p x:za}(hx:A.ldv h p=some x){v:Value}(hp:zfm ρ p v):
  ∃ad u,v= .pointer (some ad) /\ w.cell? ad=some u /\ zfm ρ x u /\ u.oneCell'=true:=by
 unfold A.ldv at hx;split at hx<;>(try (cases hx;done));rename_i id g off;split at hx<;>(try (cases hx;done));rename_i b hb;split at hx<;>(try (cases hx;done));rename_i hi hg;split at hx<;>(try (cases hx;done));rename_i hlt;obtain⟨L,hL,hlo,rfl⟩:=hp;obtain⟨l,k1,k2,k3,k4⟩:=zi0 hR (hle id b hb) (zej hg) hL (n:=1) hlo (by omega);cases l with
 | nil=>simp at k1
 | cons u r=>
  have:((b.cells.drop off).take 1)[0]?=some x:=by rw[getElem?_take_of_lt (by omega),getElem?_drop];simpa using hx
  obtain⟨u',e1,e2⟩:=k2.get this;simp at e1;subst e1;exact⟨_,u,rfl,by simpa using k4 0 u (by simp),e2,k3 u (by simp)⟩
theorem zqg(hR:R w0 ρ H w)(hle:h.le H){x:za}{n es:Nat}{cs:List za}(hx:A.rdv h x n es=some cs){v:Value}(hv:zfm ρ x v):
  ∃l:List Value,l.length=n*es /\ zd6 ρ cs l /\ (∀u∈l,u.oneCell'=true) /\ (∀w',(∀b o u,w.cell? ⟨b,o,none⟩=some u->w'.cell? ⟨b,o,none⟩=some u)->(Builtin.firstCells es n v).run P w'= .ok l.toArray w') /\
   (n=0 \/ ∃ad m c,v= .slice (some ad) m c /\ ∀j u,l[j]?=some u->w.cell? (ad.add j)=some u):=by
 unfold A.rdv at hx;split at hx<;>(try (cases hx;done))
 ·split at hx<;>(try (cases hx;done))
  rename_i hn;cases hx;cases hv;subst hn;exact⟨[],by simp,rfl,by simp,λw' _=>by simp[Builtin.firstCells],.inl rfl⟩
 ·split at hx<;>(try (cases hx;done))
  rename_i hn;cases hx;obtain⟨a,rfl⟩:=hv;subst hn;exact⟨[],by simp,rfl,by simp,λw' _=>by simp[Builtin.firstCells,loadCells,loadCellsFrom],.inl rfl⟩
 ·rename_i id g off len es' cp'
  split at hx<;>(try (cases hx;done));rename_i b hb;split at hx<;>(try (cases hx;done));rename_i hi hg;split at hx<;>(try (cases hx;done));rename_i hlt;cases hx;obtain⟨L,hL,hlo,⟨cap,rfl,h1,h2,h3⟩|⟨rfl,_,a,rfl⟩⟩:=hv
  case inr=>
   have h0:n=0:=by omega
   subst h0;exact⟨[],by simp,by simp[zd6],by simp,λw' _=>by simp[Builtin.firstCells,loadCells,loadCellsFrom],.inl rfl⟩
  obtain⟨l,k1,k2,k3,k4⟩:=zi0 hR (hle id b hb) (zej hg) hL (n:=n*es) hlo hlt.2;refine⟨l,k1,k2,k3,λw' hw=>?_,.inr ⟨_,_,_,rfl,λj u hj=>by rw[zhx];exact k4 j u hj⟩⟩;exact run_firstCells_some w' es n _ _ _ l k1 λj u hj=>by rw[zhx];exact hw _ _ _ (k4 j u hj)
theorem zi4(b:Nat){e:TypeId}{fr:Nat×Nat}:∀(vs:List Value)(o:Nat)(w:World)(arr:Array Value),w.heap[b]?=some (.cells arr e fr)->o+vs.length <= arr.size ->
  ∃arr',Turned w (w.setCells b o vs) b arr' e fr /\ arr'.size=arr.size /\ (∀x,x<o->arr'[x]?=arr[x]?) /\ (∀j,j<vs.length->arr'[o+j]?=vs[j]?) /\ (∀x,o+vs.length <= x->arr'[x]?=arr[x]?)
 | [],o,w,arr,h,_=>⟨arr,⟨rfl,rfl,rfl,rfl,h,λ_ _=>rfl⟩,rfl,λ_ _=>rfl,λj hj=>by simp at hj,λ_ _=>rfl⟩
 | v::vs,o,w,arr,h,hl=>by
  simp only[length_cons]at hl;have h1:(w.setCell ⟨b,o,none⟩ v).heap[b]?=some (.cells (arr.setIfInBounds o v) e fr):=by
   simp[World.setCell,Array.getElem?_modify,h]
  obtain⟨arr',ht,hs,k1,k2,k3⟩:=zi4 b vs (o+1) (w.setCell ⟨b,o,none⟩ v) (arr.setIfInBounds o v) h1 (by simp;omega);refine⟨arr',⟨ht.os,ht.tape,ht.output,?_,ht.at_,λi hi=>?_⟩,by simpa using hs,λx hx=>?_,λj hj=>?_,λx hx=>?_⟩
  ·rw[show w.setCells b o (v::vs)=(w.setCell ⟨b,o,none⟩ v).setCells b (o+1) vs from rfl,ht.size];simp[World.setCell]
  ·rw[show w.setCells b o (v::vs)=(w.setCell ⟨b,o,none⟩ v).setCells b (o+1) vs from rfl,ht.other i hi]
   exact Below.heap_setCell _ _ _ _ hi
  ·rw[k1 x (by omega),Array.getElem?_setIfInBounds_ne (by omega)]
  ·cases j with
   | zero=>
    rw[Nat.add_zero,k1 o (by omega),Array.getElem?_setIfInBounds_self_of_lt (by omega)];simp
   | succ j=>
    have:=k2 j (by simpa using hj);rw[show o+(j+1)=o+1+j by omega,this];simp
  ·simp only[length_cons]at hx
   rw[k3 x (by omega),Array.getElem?_setIfInBounds_ne (by omega)]
def zjm(cs xs:List za)(o:Nat):List za:=cs.take o++xs++cs.drop (o+xs.length)
theorem splice_get{cs xs:List za}{o j:Nat}(h:o+xs.length <= cs.length):(zjm cs xs o)[j]?=if j<o then cs[j]? else if j<o+xs.length then xs[j-o]? else cs[j]? :=by
 unfold zjm;have hl:(cs.take o).length=o:=by rw[length_take];omega
 by_cases h1:j<o
 ·rw[if_pos h1,append_assoc,getElem?_append_left (by omega),getElem?_take_of_lt h1]
 ·rw[if_neg h1,append_assoc,getElem?_append_right (by omega),hl]
  by_cases h2:j<o+xs.length
  ·rw[if_pos h2,getElem?_append_left (by omega)]
  ·rw[if_neg h2,getElem?_append_right (by omega),getElem?_drop]
   congr 1;omega
theorem splice_length{cs xs:List za}{o:Nat}(h:o+xs.length <= cs.length):(zjm cs xs o).length=cs.length:=by
 simp only[zjm,length_append,length_take,length_drop];omega
theorem zkn(hR:R w0 ρ H w){id:Nat}{b:Blk}(hid:H id=some b)(hown:b.own=true){g hi:Nat}(hg:(g,hi)∈b.zij){L:Loc}(hL:ρ id g=some L){off:Nat}(hlo:L.lo <= off)
  {xs:List za} {vs:List Value} (hn:off+xs.length <= hi) (hx:zd6 ρ xs vs) (h1:∀u∈vs,u.oneCell'=true):
  (storeCells ⟨L.blk,L.base+(off-L.lo),none⟩ vs).run P w= .ok () (w.setCells L.blk (L.base+(off-L.lo)) vs) /\
  R w0 ρ (upd H id { b with cells:=zjm b.cells xs off,zij:=[(g,hi)] }) (w.setCells L.blk (L.base+(off-L.lo)) vs):=by
 obtain⟨h0,L',arr,e,fr,k1,k2,k3,k4,k5,k6⟩:=(hR.blk id b hid).gen g hi hg;rw[hL]at k1;cases k1;have hlen:=hx.length;obtain⟨arr',ht,hs,m1,m2,m3⟩:=zi4 L.blk vs (L.base+(off-L.lo)) w arr k2 (by omega);constructor
 ·refine run_storeCells_cells L.blk (L.base+(off-L.lo)) vs 0 w (λj hj=>?_) (λj hj=>?_) h1
  ·simp only[World.cell?,k2]
   simp only[Option.isSome_none,Bool.false_eq_true,if_false,Nat.add_zero];rw[Array.getElem?_eq_getElem (by omega)];rfl
  ·have hfr:=(k5 hown).2
   simp only[World.frozen?,k2,Nat.add_zero];unfold frOk at hfr;simp only[Bool.and_eq_false_iff,decide_eq_false_iff_not];omega
 ·refine hR.write hid hown hg hL (k5 hown).2 ht (by omega) _ (by rw[splice_length (by omega)];exact h0) λj hj1 hj2 a ha=>?_
  rw[splice_get (by omega)]at ha;split at ha
  ·obtain⟨u,q1,q2,q3⟩:=k6 j hj1 hj2 a ha
   exact⟨u,by rw[m1 _ (by omega)];exact q1,q2,q3⟩
  ·split at ha
   ·obtain⟨u,q1,q2⟩:=hx.get ha
    have:=m2 (j-off) (by omega);rw[show L.base+(off-L.lo)+(j-off)=L.base+(j-L.lo) by omega,q1]at this;exact⟨u,this,q2,h1 u (mem_of_getElem? q1)⟩
   ·obtain⟨u,q1,q2,q3⟩:=k6 j hj1 hj2 a ha
    exact⟨u,by rw[m3 _ (by omega)];exact q1,q2,q3⟩
theorem Fr.upd{h H:zb}{id:Nat}{b:Blk}{b':Blk}(hid:h id=some b'):Fr h H (upd h id b) (upd H id b):=λi h0 x hx=>by
 have:i≠id:=λhi=>by subst hi;rw[h0]at hid;cases hid
 rw[zy _ _ this,zy _ _ this]
 exact⟨hx,h0⟩
theorem Fr.fresh{h H:zb}{id:Nat}{b:Blk}(hid:H id=none):Fr h H (Ab.upd h id b) (Ab.upd H id b):=λi h0 x hx=>by
 have:i≠id:=λhi=>by subst hi;rw[hid]at hx;cases hx
 rw[zy _ _ this,zy _ _ this]
 exact⟨hx,h0⟩
end
end Go.Ab
namespace Go.Ab
open List
open Go.RowKit (Below)
theorem zsd(off:Nat):∀(vs:List Value)(k:Nat)(arr:Array Value),off+k+vs.length <= arr.size ->
  ((vs.zipIdx k).foldl (fun(cs:Array Value)(p:Value×Nat)=>cs.setIfInBounds (off+p.2) p.1) arr).toList=arr.toList.take (off+k)++vs++arr.toList.drop (off+k+vs.length)
 | [],k,arr,_=>by simp
 | v::vs,k,arr,h=>by
  simp only[length_cons]at h
  rw[zipIdx_cons,foldl_cons,zsd off vs (k+1) _ (by simp;omega)]
  simp only[Array.toList_setIfInBounds,length_cons]
  apply ext_getElem?
  intro x
  have hl:arr.toList.length=arr.size:=by simp
  rw[append_assoc,append_assoc]
  by_cases h1:x<off+k
  ·rw[getElem?_append_left (by rw[length_take,length_set];omega),getElem?_append_left (by rw[length_take];omega),
    getElem?_take_of_lt (by omega),getElem?_take_of_lt (by omega),getElem?_set_ne (by omega)]
  ·by_cases h2:x=off+k
   ·subst h2
    rw[getElem?_append_left (by rw[length_take,length_set];omega),getElem?_append_right (by rw[length_take];omega),
     getElem?_take_of_lt (by omega),getElem?_set_self (by omega),length_take]
    simp[show off+k-min (off+k) arr.size=0 by omega]
   ·have l1:((arr.toList.set (off+k) v).take (off+(k+1))).length=off+(k+1):=by rw[length_take,length_set];omega
    have l2:(arr.toList.take (off+k)).length=off+k:=by rw[length_take];omega
    have e1:∀B:List Value,((arr.toList.set (off+k) v).take (off+(k+1))++B)[x]?=B[x-(off+(k+1))]? :=λB=>by rw[getElem?_append_right (by omega),l1]
    have e2:∀B:List Value,(arr.toList.take (off+k)++(v::B))[x]?=B[x-(off+(k+1))]? :=λB=>by
     rw[getElem?_append_right (by omega),l2,show x-(off+k)=(x-(off+(k+1)))+1 by omega,getElem?_cons_succ]
    rw[e1,cons_append,e2]
    by_cases h3:x-(off+(k+1))<vs.length
    ·rw[getElem?_append_left h3,getElem?_append_left h3]
    ·rw[getElem?_append_right (by omega),getElem?_append_right (by omega),getElem?_drop,getElem?_drop,getElem?_set_ne (by omega)]
     congr 1
     omega
section
variable{P:Program}{ρ:zd1}
theorem fill_one(place:Nat->Option (Nat×Nat))(i off:Nat)(u:Value)(us l:List Value)(r:List (Nat×Value))(hp:place i=some (off,us.length))(hu:u.cells=us.toArray)(hl:off+us.length <= l.length):
  Instr.fill place l.toArray ((i,u)::r)=Instr.fill place (l.take off++us++l.drop (off+us.length)).toArray r:=by
 simp only[Instr.fill,hp,hu,size_toArray];rw[if_neg (by simp;omega)];congr 1;apply Array.ext';have:=zsd off us 0 l.toArray (by simpa using hl);simp only[Nat.add_zero]at this;rw[<-this];simp
def PartRel(ρ:zd1)(place:Nat->Option (Nat×Nat))(x:Nat×Option Nat×za)(y:Nat×Value):Prop:=place y.1=some (x.1,x.2.1.getD 1) /\ zfm ρ x.2.2 y.2
def zn7(ρ:zd1)(place:Nat->Option (Nat×Nat)):List (Nat×Option Nat×za)->List (Nat×Value)->Prop|[],l=>l=[]|x::xs,l=>∃y ys,l=y::ys /\ PartRel ρ place x y /\ zn7 ρ place xs ys
theorem zma(place:Nat->Option (Nat×Nat)):∀(ps:List (Nat×Option Nat×za))(qs:List (Nat×Value))(cs cs':List za)(l:List Value),zn7 ρ place ps qs->zee ps cs=some cs' ->
  zd6 ρ cs l->(∀u∈l,u.oneCell'=true)->∃l',Instr.fill place l.toArray qs=some l'.toArray /\ zd6 ρ cs' l' /\ ∀u∈l',u.oneCell'=true
 | [],_,cs,cs',l,e,h,hv,h1=>by
  subst e;cases h;exact⟨l,rfl,hv,h1⟩
 | (off,none,x)::ps,_,cs,cs',l,⟨(i,u),qs,e,⟨hp,hx⟩,hr⟩,h,hv,h1=>by
  subst e;simp only[zee,V.put1]at h;cases hc:x.zec with
  | false=>simp[hc]at h
  | true=>
   simp only[hc,cond_true]at h;split at h
   ·rename_i cs1 hcs
    split at hcs<;>(try (cases hcs;done));rename_i hlt;cases hcs;have ho:=zgn hc hx;have hl:=hv.length;obtain⟨l',k1,k2,k3⟩:=zma place ps qs (cs.set off x) cs' (l.take off++[u]++l.drop (off+1)) hr h (zd6.of_get (by
      simp only[length_set,length_append,length_take,length_drop,length_singleton];omega) λj a v ha hv'=>by
     by_cases hj:j=off
     ·subst hj
      rw[getElem?_set_self hlt]at ha;cases ha;rw[append_assoc,getElem?_append_right (by rw[length_take];omega),length_take]at hv';simp[show j-min j l.length=0 by omega]at hv';subst hv';exact hx
     ·rw[getElem?_set_ne (Ne.symm hj)]at ha
      obtain⟨u',q1,q2⟩:=hv.get ha;have:(l.take off++[u]++l.drop (off+1))[j]?=l[j]? :=by
       rcases Nat.lt_or_ge j off with h'|h'
       ·rw[append_assoc,getElem?_append_left (by rw[length_take];omega),getElem?_take_of_lt h']
       ·rw[getElem?_append_right (by simp only[length_append,length_take,length_singleton];omega),getElem?_drop]
        congr 1;simp only[length_append,length_take,length_singleton];omega
      rw[this,q1]at hv';cases hv';exact q2) (λv hv'=>by
     simp only[mem_append,mem_singleton]at hv';rcases hv' with (hv'|rfl)|hv'
     ·exact h1 v (mem_of_mem_take hv')
     ·exact ho
     ·exact h1 v (mem_of_mem_drop hv'))
    refine⟨l',?_,k2,k3⟩;rw[<-k1];exact fill_one place i off u [u] l qs hp (zin ho) (by simp;omega)
   ·cases h
 | (off,some n,x)::ps,_,cs,cs',l,⟨(i,u),qs,e,⟨hp,hx⟩,hr⟩,h,hv,h1=>by
  subst e;simp only[zee]at h;split at h<;>(try (cases h;done));rename_i cs1 hcs;unfold V.putN at hcs;split at hcs<;>(try (cases hcs;done));rename_i xs;split at hcs<;>(try (cases hcs;done));rename_i hlen;cases hcs;obtain⟨us,e,hus,ho⟩:=hx;simp only at e;subst e;have hl:=hv.length;have hul:=hus.length;obtain⟨l',k1,k2,k3⟩:=zma place ps qs _ cs' (l.take off++us++l.drop (off+us.length)) hr h (by
    have:=(hv.take off).append hus |>.append (hv.drop (off+n))
    rwa [show off+us.length=off+n by omega]) (λv hv'=>by
   simp only[mem_append]at hv';rcases hv' with (hv'|hv')|hv'
   ·exact h1 v (mem_of_mem_take hv')
   ·exact ho v hv'
   ·exact h1 v (mem_of_mem_drop hv'))
  refine⟨l',?_,k2,k3⟩;rw[<-k1];exact fill_one place i off (.agg us.toArray) us l qs (by rw[hp];simp;omega) rfl (by omega)
theorem flatIs_rel:∀{a:za}{v:Value},flatIs a v=true->zfm ρ a v /\ v.oneCell'=true:=by
 intro a v h;unfold flatIs at h;split at h
 ·simp at h;subst h;exact⟨rfl,rfl⟩
 ·simp at h;obtain⟨rfl,rfl⟩:=h;exact⟨rfl,rfl⟩
 ·simp only[beq_iff_eq]at h;exact⟨⟨_,rfl,h.symm⟩,rfl⟩
 ·exact⟨rfl,rfl⟩
 ·exact⟨rfl,rfl⟩
 ·exact⟨rfl,rfl⟩
 ·exact⟨rfl,rfl⟩
 ·cases h
theorem zph:∀{as:List za}{l:List Value},zkz as l=true->zd6 ρ as l /\ ∀u∈l,u.oneCell'=true
 | [],[],_=>⟨rfl,by simp⟩
 | [],_::_,h=>by simp[zkz]at h
 | _::_,[],h=>by simp[zkz]at h
 | a::as,v::l,h=>by
  simp only[zkz,Bool.and_eq_true]at h
  obtain⟨h1,h2⟩:=flatIs_rel (ρ:=ρ) h.1
  obtain⟨h3,h4⟩:=zph h.2
  exact⟨⟨v,l,rfl,h1,h3⟩,λu hu=>by
   rcases mem_cons.1 hu with rfl|hu
   ·exact h2
   ·exact h4 u hu⟩
theorem zf0{t:TypeId}{cs:List za}(h:zeroOf P t=some cs):
  ∃i z,P.info? t=some i /\ i.zero=some z /\ zd6 ρ cs z.cells.toList /\ (∀u∈z.cells.toList,u.oneCell'=true) /\ cs.length=P.cellsOf t /\ z.cells.size=i.size /\ (∃d,P.underlying t=some d) /\ zeroAt P 12 t=some cs:=by
 unfold zeroOf at h;split at h
 ·rename_i cs' z h1 h2
  cases hc:(zkz cs' z.cells.toList&&Nat.beq cs'.length (P.cellsOf t)) with
  | false=>simp[hc]at h
  | true=>
   simp only[hc,cond_true,Option.some.injEq]at h;subst h;simp only[Bool.and_eq_true]at hc;cases hi:P.info? t with
   | none=>simp[hi]at h2
   | some i=>
    simp only[hi,Option.bind_some]at h2;obtain⟨k1,k2⟩:=zph (ρ:=ρ) hc.1;have k3:=Nat.eq_of_beq_eq_true hc.2;have k4:=zd9 hi;refine⟨i,z,rfl,h2,k1,k2,k3,?_,?_,h1⟩
    ·have:=k1.length
     simp at this;omega
    ·simp only[zeroAt]at h1
     cases hu:P.underlying t with
     | none=>simp[hu]at h1
     | some d=>exact⟨d,rfl⟩
 ·cases h
end
end Go.Ab
namespace Go.Ab
open List
open Go.RowKit (Below)
section
variable{P:Program}{w0:World}{ρ:zd1}{h H:zb}{w:World}{s:zbr}{a:Act}{K:zQ}{o:Oper}{Q:Exit->Act->World->Prop}
theorem zmd{cs:List za}{l:List Value}(hv:zd6 ρ cs l)(h1:∀u∈l,u.oneCell'=true)(rest:List Value)(j:Nat)(x:za)(hx:cs[j]?=some x):
  ∃u,(l++rest).toArray[j]?=some u /\ zfm ρ x u /\ u.oneCell'=true:=by
 obtain⟨u,k1,k2⟩:=hv.get hx;have hj:j<l.length:=(List.getElem?_eq_some_iff.1 k1).1;refine⟨u,?_,k2,h1 u (mem_of_getElem? k1)⟩;rw[getElem?_toArray,getElem?_append_left hj];exact k1
theorem zkk(hR:R w0 ρ H w)(hle:h.le H){cs:List za}{K0:Nat->zb->Prop}(hn:A.new h cs K0)(arr:Array Value)(e:TypeId)(fr:Nat×Nat)(hfr:frOk fr arr.size)(hl:cs.length <= arr.size)
  (hc:∀(j:Nat)(x:za),cs[j]?=some x->∃u,arr[j]?=some u /\ zfm ρ x u /\ u.oneCell'=true) (n:Nat):
  ∃id ρ',K0 id (upd h id (zdn cs)) /\ ρ.le ρ' /\ ρ' id 0=some ⟨w.heap.size,0,0,arr.size⟩ /\ (upd h id (zdn cs)).le (upd H id (zdn cs)) /\ Fr h H (upd h id (zdn cs)) (upd H id (zdn cs)) /\
   R w0 ρ' (upd H id (zdn cs)) { w with heap:=w.heap.push (.cells arr e fr),drawn:=n }:=by
 obtain⟨N,hN⟩:=hR.fin;obtain⟨hHN,hρN⟩:=hN N (Nat.le_refl N);have hhN:h N=none:=by
  cases e:h N with
  | none=>rfl
  | some b=>have:=hle N b e;rw[hHN]at this;cases this
 exact⟨N,_,hn N hhN,zd1.zln _ (hρN 0),zd1.ze7 ..,zhi _ hle,Fr.fresh hHN,(hR.new hHN hρN cs arr e fr hfr hl hc).drew n⟩
theorem zqr(hR:R w0 ρ H w)(hle:h.le H){cs:List za}(hn:A.new h cs λid h=>K (.ptr id 0 0) h){l:List Value}{e:TypeId}(hv:zd6 ρ cs l)(h1:∀u∈l,u.oneCell'=true)
  (hr:(execOp a.eval o).run P w= .ok (.value (.pointer (some ⟨w.heap.size,0,none⟩))) { w with heap:=w.heap.push (.cells l.toArray e) }):zgr P w0 ρ h H K o a w Q:=by
 obtain⟨id,ρ',k1,k2,k3,k4,k5,k6⟩:=zkk hR hle hn l.toArray e (0,0) rfl (by simp[hv.length]) (by simpa using zmd hv h1 []) w.drawn;exact zem hr ⟨⟨.ptr id 0 0,ρ',_,_,k2,⟨_,k3,Nat.le_refl _,rfl⟩,k1,k4,k5,k6⟩⟩
theorem op_move{x:Operand}(ho:o.op= .move x \/ o.op= .assign x)(hR:R w0 ρ H w)(hle:h.le H)(hs:zgx ρ s a)(hop:K (evS s x) h):zgr P w0 ρ h H K o a w Q:=
 zdt hR hle (v:=a.eval x) (by rcases ho with ho|ho<;>simp[execOp,ho]) (zcu hs x) hop
theorem op_pick{c x y:Operand}(ho:o.op= .pick c x y)(hR:R w0 ρ H w)(hle:h.le H)(hs:zgx ρ s a)(hop:A.pick (evS s c) (evS s x) (evS s y) λv=>K v h):zgr P w0 ρ h H K o a w Q:=by
 have hc:=zcu hs c;unfold A.pick at hop;split at hop
 ·rename_i b hb
  rw[hb]at hc;have hc':a.eval c= .bool b:=hc;refine zdt hR hle (v:=if b then a.eval x else a.eval y) (by simp[execOp,ho,hc',asBool]) ?_ hop;cases b
  ·exact zcu hs y
  ·exact zcu hs x
 ·exact hop.elim
theorem op_alloc{t:TypeId}(ho:o.op= .alloc t)(hR:R w0 ρ H w)(hle:h.le H)(hop:A.zf2 h (zeroOf P t) λid h=>K (.ptr id 0 0) h):zgr P w0 ρ h H K o a w Q:=by
 unfold A.zf2 at hop;split at hop
 ·rename_i cs hz
  obtain⟨i,z,hi,hz0,hv,h1,_,_,_⟩:=zf0 (ρ:=ρ) hz;refine zqr hR hle hop hv h1 (e:=t) ?_;simp[execOp,ho,Instr.alloc,zeroValue,typeInfo,hi,hz0,newVar,newRow]
 ·exact hop.elim
theorem op_box{t:TypeId}{x:Operand}(ho:o.op= .box t x)(hR:R w0 ρ H w)(hle:h.le H)(hs:zgx ρ s a)
  (hop:A.zf2 h (bif zdz P t then A.zkj (P.cellsOf t) (evS s x) else A.zjs (evS s x)) λid h=>K (.ptr id 0 0) h):zgr P w0 ρ h H K o a w Q:=by
 unfold A.zf2 at hop;split at hop
 ·rename_i cs hz
  have hx:=zcu hs x
  have hr:∀l:List Value,(a.eval x).cells=l.toArray->(execOp a.eval o).run P w= .ok (.value (.pointer (some ⟨w.heap.size,0,none⟩))) { w with heap:=w.heap.push (.cells l.toArray t) }:=λl hl=>by
   simp[execOp,ho,Instr.box,newVar,newRow,hl]
  cases hb:zdz P t with
  | true=>
   simp only[hb,cond_true]at hz;unfold A.zkj at hz;split at hz<;>(try (cases hz;done));rename_i cs' he;split at hz<;>(try (cases hz;done));cases hz;rw[he]at hx;obtain⟨l,e,hv,h1⟩:=hx;exact zqr hR hle hop hv h1 (hr l (by rw[e];rfl))
  | false=>
   simp only[hb,cond_false]at hz;unfold A.zjs at hz;cases hc:(evS s x).zec with
   | false=>simp[hc]at hz
   | true=>
    simp only[hc,cond_true,Option.some.injEq]at hz;subst hz;have ho:=zgn hc hx;exact zqr hR hle hop (l:=[a.eval x]) ⟨_,_,rfl,hx,rfl⟩ (by simpa using ho) (hr _ (zin ho))
 ·exact hop.elim
theorem op_load1{t:TypeId}{x:Operand}(ho:o.op= .load t x)(ht:zdz P t=false)(hu:∃d,P.underlying t=some d)(hR:R w0 ρ H w)(hle:h.le H)(hs:zgx ρ s a)
  (hop:A.ld h (evS s x) λv=>K v h):zgr P w0 ρ h H K o a w Q:=by
 obtain⟨v,hv,hK⟩:=ze hop;obtain⟨ad,u,e1,e2,e3,_⟩:=ldv_sound hR hle hv (zcu hs x);obtain⟨d,hd⟩:=hu;refine zdt hR hle (v:=u) ?_ e3 hK;simp[execOp,ho,Instr.loadAt,e1,Instr.sureAddr,loadVar,zhk hd,ht,e2]
theorem op_loadN{t:TypeId}{x:Operand}(ho:o.op= .load t x)(ht:zdz P t=true)(hR:R w0 ρ H w)(hle:h.le H)(hs:zgx ρ s a)
  (hop:A.ldn h (evS s x) (P.cellsOf t) λv=>K v h):zgr P w0 ρ h H K o a w Q:=by
 obtain⟨v,hv,hK⟩:=ze hop;have hd:∃d,P.underlying t=some d:=by
  unfold zdz at ht;cases hu:P.underlying t with
  | none=>simp[hu]at ht
  | some d=>exact⟨d,rfl⟩
 obtain⟨d,hd⟩:=hd;obtain⟨i,hi⟩:=info_of_underlying hd;have hsz:=zd9 hi;unfold A.zl7 at hv;split at hv<;>(try (cases hv;done));rename_i id g off hp;split at hv<;>(try (cases hv;done));rename_i b hb;split at hv<;>(try (cases hv;done));rename_i hi' hg;split at hv<;>(try (cases hv;done));rename_i hlt;cases hv;have hx:=zcu hs x;rw[hp]at hx;obtain⟨L,hL,hlo,e⟩:=hx;obtain⟨l,k1,k2,k3,k4⟩:=zi0 hR (hle id b hb) (zej hg) hL (n:=P.cellsOf t) hlo hlt;refine zdt hR hle (x:= .agg ((b.cells.drop off).take (P.cellsOf t))) (v:= .agg l.toArray) ?_ ⟨l,rfl,k2,k3⟩ hK;have hc:=run_loadCells_list (P:=P) w ⟨L.blk,L.base+(off-L.lo),none⟩ l λj u hj=>by rw[zhx];exact k4 j u hj
 rw[k1,hsz]at hc;simp[execOp,ho,Instr.loadAt,e,Instr.sureAddr,loadVar,zhk hd,ht,run_sizeOf hi,hc]
theorem resCell_run{t:TypeId}{p v:za}{x:Value}(hR:R w0 ρ H w)(hle:h.le H)(hx:zfm ρ p x)(hv:zog P h p t=some v):
  ∃ad u,x= .pointer (some ad) /\ (loadVar t ad).run P w= .ok u w /\ zfm ρ v u:=by
 unfold zog at hv;split at hv
 ·cases hv
 ·rename_i d hd
  cases ht:zdz P t with
  | false=>
   rw[ht]at hv;obtain⟨ad,u,e1,e2,e3,_⟩:=ldv_sound hR hle hv hx;exact⟨ad,u,e1,by simp[loadVar,zhk hd,ht,e2],e3⟩
  | true=>
   rw[ht]at hv;obtain⟨i,hi⟩:=info_of_underlying hd;have hsz:=zd9 hi;simp only[cond_true]at hv;unfold A.zl7 at hv;split at hv<;>(try (cases hv;done));rename_i id g off;split at hv<;>(try (cases hv;done));rename_i b hb;split at hv<;>(try (cases hv;done));rename_i hi' hg;split at hv<;>(try (cases hv;done));rename_i hlt;cases hv;obtain⟨L,hL,hlo,e⟩:=hx;obtain⟨l,k1,k2,k3,k4⟩:=zi0 hR (hle id b hb) (zej hg) hL (n:=P.cellsOf t) hlo hlt;have hc:=run_loadCells_list (P:=P) w ⟨L.blk,L.base+(off-L.lo),none⟩ l λj u hj=>by rw[zhx];exact k4 j u hj
   rw[k1,hsz]at hc;exact⟨_,.agg l.toArray,e,by simp[loadVar,zhk hd,ht,run_sizeOf hi,hc],l,rfl,k2,k3⟩
theorem op_storeL{t:TypeId}{p x:Operand}(ho:o.op= .store t p x)(hR:R w0 ρ H w)(hle:h.le H){id g off:Nat}{b:Blk}{hi:Nat}(hp:zfm ρ (.ptr id g off) (a.eval p))(hb:h id=some b)(hown:b.own=true)
  (hg:b.zij.lookup g=some hi) {xs:List za} {vs:List Value} (hx:zd6 ρ xs vs) (h1:∀u∈vs,u.oneCell'=true) (hv:(a.eval x).cells=vs.toArray) (hn:off+xs.length <= hi)
  (hsz:∃i,P.info? t=some i /\ i.size=xs.length) (hK:K .undef (upd h id { b with cells:=zjm b.cells xs off,zij:=[(g,hi)] })):zgr P w0 ρ h H K o a w Q:=by
 obtain⟨L,hL,hlo,e⟩:=hp;obtain⟨k1,k2⟩:=zkn (P:=P) hR (hle id b hb) hown (zej hg) hL hlo hn hx h1;obtain⟨i,hi',hs'⟩:=hsz;have hlen:=hx.length;refine ok_skip (w':=w.setCells L.blk (L.base+(off-L.lo)) vs) ?_ ⟨⟨.undef,ρ,_,_,zd1.le_refl ρ,trivial,hK,zhi _ hle,Fr.upd hb,k2⟩⟩;have:¬ (vs.length≠i.size):=by omega
 simp[execOp,ho,Instr.storeAt,e,Instr.sureAddr,storeVar,hv,run_sizeOf hi',this,k1]
theorem zp0{p:za}{f:List za->Option (List za)}{n off:Nat}{K:zb->Prop}(h0:A.ph (A.stv h p f n off) K):
  ∃id g o b hi cs,p= .ptr id g o /\ h id=some b /\ b.zij.lookup g=some hi /\ b.own=true /\ off+o+n <= hi /\ f b.cells=some cs /\ K (upd h id { b with cells:=cs,zij:=[(g,hi)] }):=by
 unfold A.ph at h0;split at h0
 ·rename_i h' he
  unfold A.stv at he;split at he<;>(try (cases he;done));rename_i id g o;split at he<;>(try (cases he;done));rename_i b hb;split at he<;>(try (cases he;done));rename_i hi hg;cases hc:(b.own&&Nat.ble (off+o+n) hi) with
  | false=>simp[hc]at he
  | true=>
   simp only[hc,cond_true]at he;simp only[Bool.and_eq_true,Nat.ble_eq]at hc;split at he<;>(try (cases he;done));rename_i cs hf;cases he;exact⟨id,g,o,b,hi,cs,rfl,hb,hg,hc.1,hc.2,hf,h0⟩
 ·exact h0.elim
theorem op_store1{t:TypeId}{p x:Operand}(ho:o.op= .store t p x)(ht:P.cellsOf t=1)(hR:R w0 ρ H w)(hle:h.le H)(hs:zgx ρ s a)
  (hop:A.st h (evS s p) (evS s x) λh=>K .undef h):zgr P w0 ρ h H K o a w Q:=by
 obtain⟨id,g,off,b,hi,cs,e1,e2,e3,e4,e5,e6,e7⟩:=zp0 hop;have e6:V.put1 off (evS s x) b.cells=some cs:=by rw[e1]at e6;exact e6
 simp only[V.put1]at e6;cases hc:(evS s x).zec with
 | false=>simp[hc]at e6
 | true=>
  simp only[hc,cond_true]at e6;have hlt:off<b.cells.length:=by
   rcases Nat.lt_or_ge off b.cells.length with h'|h'
   ·exact h'
   ·rw[if_neg (by omega)]at e6;cases e6
  rw[if_pos hlt]at e6;cases e6;have hx:=zcu hs x;have h1:=zgn hc hx;have hp:=zcu hs p;rw[e1]at hp;have hi':∃i,P.info? t=some i:=by
   cases hh:P.info? t with
   | none=>simp[Program.cellsOf,hh]at ht
   | some i=>exact⟨i,rfl⟩
  obtain⟨i,hi'⟩:=hi';refine op_storeL ho hR hle hp e2 e4 e3 (xs:=[evS s x]) (vs:=[a.eval x]) ⟨_,_,rfl,hx,rfl⟩ (by simpa using h1) (zin h1) (by simp only[length_singleton];omega) ⟨i,hi',by rw[<-zd9 hi',ht];rfl⟩ ?_;have:zjm b.cells [evS s x] off=b.cells.set off (evS s x):=by
   unfold zjm;rw[set_eq_take_append_cons_drop,if_pos hlt,append_assoc];rfl
  rw[this];exact e7
theorem op_storeN{t:TypeId}{p x:Operand}(ho:o.op= .store t p x)(hi':∃i,P.info? t=some i)(hR:R w0 ρ H w)(hle:h.le H)(hs:zgx ρ s a)
  (hop:A.stn h (evS s p) (P.cellsOf t) (evS s x) λh=>K .undef h):zgr P w0 ρ h H K o a w Q:=by
 obtain⟨id,g,off,b,hi,cs,e1,e2,e3,e4,e5,e6,e7⟩:=zp0 hop;rw[e1]at e6;unfold V.putN at e6;split at e6<;>(try (cases e6;done));rename_i xs hxs;split at e6<;>(try (cases e6;done));rename_i hlt;cases e6;have hx:=zcu hs x;rw[hxs]at hx;obtain⟨vs,hv,h2,h1⟩:=hx;have hp:=zcu hs p;rw[e1]at hp;obtain⟨i,hi'⟩:=hi';refine op_storeL ho hR hle hp e2 e4 e3 h2 h1 (by rw[hv];rfl) (by omega) ⟨i,hi',by rw[<-zd9 hi',hlt.1]⟩ ?_;have:zjm b.cells xs off=b.cells.take off++xs++b.cells.drop (off+P.cellsOf t):=by
  unfold zjm;rw[hlt.1]
 rw[this];exact e7
theorem op_nilCheck{x:Operand}(ho:o.op= .nilCheck x)(hR:R w0 ρ H w)(hle:h.le H)(hs:zgx ρ s a)(hop:A.nilCheck (evS s x) λv=>K v h):zgr P w0 ρ h H K o a w Q:=by
 have hx:=zcu hs x;unfold A.nilCheck at hop;split at hop
 ·rename_i id g off he
  have hx':=hx;rw[he]at hx;obtain⟨L,hL,hlo,e⟩:=hx;exact zdt hR hle (x:=evS s x) (v:=a.eval x) (by simp[execOp,ho,e]) hx' hop
 ·rename_i f first zjf he
  have hx':=hx;rw[he]at hx;obtain⟨l,l',e,_⟩:=hx;exact zdt hR hle (x:=evS s x) (v:=a.eval x) (by simp[execOp,ho,e]) hx' hop
 ·exact hop.elim
theorem own_at(hR:R w0 ρ H w)(hle:h.le H){i g:Nat}{L:Loc}(ho:A.ownG h i g=true)(hL:ρ i g=some L):(∃arr e fr,w.heap[L.blk]?=some (.cells arr e fr) /\ fr.1=fr.2) /\ ∃b,h i=some b /\ b.own=true /\ ∃hi,(g,hi)∈b.zij:=by
 unfold A.ownG at ho;split at ho
 ·rename_i b hb
  rw[Bool.and_eq_true]at ho;obtain⟨hi,hg⟩:=Option.isSome_iff_exists.1 ho.2;obtain⟨_,L',arr,e,fr,c2,c3,c4,c5,c6,c7⟩:=(hR.blk i b (hle i b hb)).gen g hi (zej hg);rw[c2]at hL;cases hL;exact⟨⟨arr,e,fr,c3,(c6 ho.1).2⟩,b,hb,ho.1,hi,zej hg⟩
 ·cases ho
theorem unlike_run{a b:Addr}(hne:a.block≠b.block){arr arr':Array Value}{e e':TypeId}{fr fr':Nat×Nat}(ha:w.heap[a.block]?=some (.cells arr e fr))(hb:w.heap[b.block]?=some (.cells arr' e' fr'))(fa:fr.1=fr.2)(fb:fr'.1=fr'.2):(sameAddr a b).run P w= .ok false w:=by
 obtain⟨l,r⟩:=fr;obtain⟨l',r'⟩:=fr';simp only at fa fb;subst fa fb;have e1:∀n s,w.frozen? ⟨a.block,n,s⟩=false:=λn s=>by
  simp only[World.frozen?,ha,Bool.and_eq_false_iff,decide_eq_false_iff_not];omega
 have e2:∀n s,w.frozen? ⟨b.block,n,s⟩=false:=λn s=>by
  simp only[World.frozen?,hb,Bool.and_eq_false_iff,decide_eq_false_iff_not];omega
 have s1:w.shape? a.block=some (e,arr.size):=by unfold World.shape?;rw[ha]
 have s2:w.shape? b.block=some (e',arr'.size):=by unfold World.shape?;rw[hb]
 have f1:w.frozen? a=false:=e1 _ _;have f2:w.frozen? b=false:=e2 _ _;have hb':(a.block==b.block)=false:=by simpa using hne
 simp[sameAddr,hb',f1,f2,noView,viewAt,s1,s2,mayBeOne,stringish,e1,e2]
theorem eqPtrH_run(hR:R w0 ρ H w)(hle:h.le H){op:BinOp}{t e:TypeId}{x y r:za}{u v:Value}(ht:P.underlying t=some (.pointer e))(hx:zfm ρ x u)(hy:zfm ρ y v)(hh:A.zgk h (P.cellsOf e) op x y=some r):
  (∀a b,(eqGuard op t a b u v).run P w= .ok () w) /\ ∃z,(binOp op t u v).run P w= .ok z w /\ zfm ρ r z:=by
 unfold A.zgk at hh;split at hh
 ·rename_i j g2 b
  split at hh
  ·rename_i i g1 a
   cases hs:Nat.blt 0 (P.cellsOf e) with
   | false=>rw[hs]at hh;cases hh
   | true=>
    rw[hs]at hh;simp only[cond_true]at hh;have hs':0<P.cellsOf e:=by rw[Nat.blt_eq]at hs;exact hs
    obtain⟨it,hit⟩:∃it,P.info? e=some it:=by
     cases q:P.info? e with
     | none=>simp[Program.cellsOf,q]at hs'
     | some it=>exact⟨it,rfl⟩
    rw[zd9 hit]at hs';have hz:it.size≠0:=by omega
    obtain⟨L,hL,hlo,rfl⟩:=hx;obtain⟨L',hL',hlo',rfl⟩:=hy;refine⟨λ_ _=>zd4 _ _ _ _ _ _ (by simp) (by simp),?_⟩;cases hij:Nat.beq i j with
    | true=>
     rw[hij]at hh;simp only[cond_true]at hh;cases hgg:Nat.beq g1 g2 with
     | false=>rw[hgg]at hh;cases hh
     | true=>
      rw[hgg]at hh;simp only[cond_true]at hh;have ei:=Nat.eq_of_beq_eq_true hij;have eg:=Nat.eq_of_beq_eq_true hgg;subst ei eg;rw[hL]at hL';cases hL';refine zh2 hh ?_ ?_
      ·rintro _ (rfl|rfl)<;>simp[binOp]
      ·refine zeq λd=>?_
       have hab:((⟨L.blk,L.base+(a-L.lo),none⟩:Addr)==⟨L.blk,L.base+(b-L.lo),none⟩)=Nat.beq a b:=by
        cases q:Nat.beq a b with
        | true=>have:=Nat.eq_of_beq_eq_true q;subst this;simp
        | false=>
         have:a≠b:=Nat.ne_of_beq_eq_false q;simp only[beq_eq_false_iff_ne,ne_eq,Addr.mk.injEq,not_and];intro _ h2;omega
       simp[Op.equalIn,run_underlying ht,run_sizeOf hit,hz,sameAddr,hab]
    | false=>
     rw[hij]at hh;simp only[cond_false]at hh;have hne:i≠j:=Nat.ne_of_beq_eq_false hij;cases ho:A.ownG h i g1&&A.ownG h j g2 with
     | false=>rw[ho]at hh;cases hh
     | true=>
      rw[ho]at hh;simp only[cond_true]at hh;rw[Bool.and_eq_true]at ho;obtain⟨⟨arr,e1,fr,q1,q2⟩,b1,p1,p2,hi1,p3⟩:=own_at hR hle ho.1 hL;obtain⟨⟨arr',e2,fr',q3,q4⟩,b2,p4,p5,hi2,p6⟩:=own_at hR hle ho.2 hL';have hbl:=hR.sep i j b1 b2 hne (hle i b1 p1) (hle j b2 p4) p2 _ p3 _ p6 L L' hL hL';refine zh2 hh ?_ ?_
      ·rintro _ (rfl|rfl)<;>simp[binOp]
      ·refine zeq λd=>?_
       simp[Op.equalIn,run_underlying ht,run_sizeOf hit,hz,unlike_run (P:=P) (a:=⟨L.blk,L.base+(a-L.lo),none⟩) (b:=⟨L'.blk,L'.base+(b-L'.lo),none⟩) hbl q1 q3 q2 q4]
  ·exact zrb ht hx hy hh
 ·exact zrb ht hx hy hh
theorem op_bin{op:BinOp}{t u:TypeId}{x y:Operand}(ho:o.op= .binOp op t x y u)(hR:R w0 ρ H w)(hle:h.le H)(hs:zgx ρ s a)(hop:zi1 P (AC P) (.binOp op t x y u) s h K):zgr P w0 ρ h H K o a w Q:=by
 have hx:=zcu hs x;have hy:=zcu hs y;have fin:∀r:za,((∀a' b',(eqGuard op t a' b' (a.eval x) (a.eval y)).run P w= .ok () w) /\ ∃z,(binOp op t (a.eval x) (a.eval y)).run P w= .ok z w /\ zfm ρ r z)->K r h->zgr P w0 ρ h H K o a w Q:=by
  rintro r ⟨g,z,hz,hr⟩ hK;exact zdt hR hle (v:=z) (by simp[execOp,ho,g,hz]) hr hK
 simp only[zi1]at hop;split at hop
 ·obtain⟨r,h1,h2⟩:=ze hop;exact fin r (bin_run hx hy h1) h2
 ·obtain⟨r,h1,h2⟩:=ze hop;exact fin r (bin_run hx hy h1) h2
 ·rename_i ht;obtain⟨r,h1,h2⟩:=ze hop;exact fin r (eqBool_run ht hx hy h1) h2
 ·rename_i ht
  cases hc:zmp y with
  | true=>rw[hc]at hop;obtain⟨r,h1,h2⟩:=ze (show A.pv (A.zgk h (P.cellsOf _) op (evS s x) (evS s y)) _ from hop);exact fin r (eqPtrH_run hR hle ht hx hy h1) h2
  | false=>rw[hc]at hop;obtain⟨r,h1,h2⟩:=ze (show A.pv (V.zgk op (evS s x) (evS s y)) _ from hop);exact fin r (zrb ht hx hy h1) h2
 ·rename_i ht;obtain⟨r,h1,h2⟩:=ze hop;exact fin r (eqSl_run ht hx hy h1) h2
 ·rename_i ht;obtain⟨r,h1,h2⟩:=ze hop;exact fin r (eqFn_run ht hx hy h1) h2
 ·rename_i ht;obtain⟨r,h1,h2⟩:=ze hop;exact fin r (eqMap_run ht hx hy h1) h2
 ·rename_i ht
  split at hop
  ·rename_i sh hsh
   obtain⟨r,h1,h2⟩:=ze hop;exact fin r (binAgg_run ht hsh hx hy h1) h2
  ·exact hop.elim
 ·exact hop.elim
theorem op_un{op:UnOp}{t:TypeId}{x:Operand}(ho:o.op= .unOp op t x)(hR:R w0 ρ H w)(hle:h.le H)(hs:zgx ρ s a)(hop:A.pv (V.un op (evS s x)) λv=>K v h):zgr P w0 ρ h H K o a w Q:=by
 obtain⟨r,h1,h2⟩:=ze hop;have hx:=zcu hs x;unfold V.un at h1;split at h1<;>(try (cases h1;done))
 ·rename_i k n he
  rw[he]at hx;have e:a.eval x= .int k n:=hx;cases h1;exact zdt hR hle (x:= .int k (k.wrap (0-n))) (v:= .int k (k.wrap (0-n))) (by simp[execOp,ho,e,Op.unary,Op.intArith]) rfl h2
 ·rename_i k n he
  rw[he]at hx;have e:a.eval x= .int k n:=hx;cases h1;exact zdt hR hle (x:= .int k _) (v:= .int k _) (by simp only[execOp,ho,e,Op.unary,Op.intBits,Sem.run_bind,Sem.run_pure,Result.andThen_ok]) rfl h2
 ·rename_i b he
  rw[he]at hx;have e:a.eval x= .bool b:=hx;cases h1;exact zdt hR hle (x:= .bool !b) (v:= .bool !b) (by simp[execOp,ho,e,Op.unary]) rfl h2
end
end Go.Ab
namespace Go.Ab
open List
open Go.RowKit (Below)
section
variable{P:Program}{w0:World}{ρ:zd1}{h H:zb}{w:World}{s:zbr}{a:Act}{K:zQ}{o:Oper}{Q:Exit->Act->World->Prop}
theorem op_fieldAddr{t:TypeId}{x:Operand}{f:Nat}{fs:Array Field}{fd:Field}(ho:o.op= .fieldAddr t x f)(ht:P.underlying t=some (.struct fs))(hf:fs[f]?=some fd)(hz:Nat.beq (P.cellsOf fd.type) 0=false)
  (hR:R w0 ρ H w) (hle:h.le H) (hs:zgx ρ s a) (hop:A.pv (V.fieldAddr fd.offset (evS s x)) λv=>K v h):zgr P w0 ρ h H K o a w Q:=by
 obtain⟨r,h1,h2⟩:=ze hop;have hx:=zcu hs x;unfold V.fieldAddr at h1;split at h1<;>(try (cases h1;done));rename_i id g off he;rw[he]at hx;obtain⟨L,hL,hlo,e⟩:=hx;cases h1;have hsz:∃i,P.info? fd.type=some i /\ ¬ i.size=0:=by
  cases hh:P.info? fd.type with
  | none=>simp[Program.cellsOf,hh]at hz
  | some i=>
   refine⟨i,rfl,λhi=>?_⟩;simp[Program.cellsOf,hh,hi]at hz
 obtain⟨i,hi,hi0⟩:=hsz;refine zdt hR hle (x:= .ptr id g (off+fd.offset)) (v:= .pointer (some ⟨L.blk,L.base+(off-L.lo)+fd.offset,none⟩)) ?_ ⟨L,hL,by omega,by rw[show L.base+(off-L.lo)+fd.offset=L.base+(off+fd.offset-L.lo) by omega]⟩ h2;simp[execOp,ho,e,Instr.fieldAt,run_underlying ht,hf,Instr.sureAddr,fieldPlace,run_sizeOf hi,hi0,zhx]
theorem op_field{t:TypeId}{x:Operand}{f:Nat}{fs:Array Field}{fd:Field}{d:TypeDesc}(ho:o.op= .field t x f)(ht:P.underlying t=some (.struct fs))(hf:fs[f]?=some fd)(hd:P.underlying fd.type=some d)
  (hR:R w0 ρ H w) (hle:h.le H) (hs:zgx ρ s a)
  (hop:bif zdz P fd.type then A.pv (V.zhu fd.offset (P.cellsOf fd.type) (evS s x)) λv=>K v h else A.pv (V.zfa fd.offset (evS s x)) λv=>K v h):zgr P w0 ρ h H K o a w Q:=by
 have hx:=zcu hs x;obtain⟨i,hi⟩:=info_of_underlying hd;have hsz:=zd9 hi;cases hb:zdz P fd.type with
 | true=>
  simp only[hb,cond_true]at hop;obtain⟨r,h1,h2⟩:=ze hop;unfold V.zhu at h1;split at h1<;>(try (cases h1;done));rename_i cs he;split at h1<;>(try (cases h1;done));rename_i hlt;cases h1;rw[he]at hx;obtain⟨l,e,hv,h1⟩:=hx;refine zdt hR hle (x:= .agg ((cs.drop fd.offset).take (P.cellsOf fd.type))) (v:= .agg ((l.drop fd.offset).take (P.cellsOf fd.type)).toArray) ?_ ⟨_,rfl,(hv.drop _).take _,λu hu=>h1 u (mem_of_mem_drop (mem_of_mem_take hu))⟩ h2;simp only[execOp,ho,e,Instr.field,Sem.run_bind,run_underlying ht,Result.andThen_ok,hf,asAgg,Sem.run_pure,part,zhk hd,hb,if_true,run_sizeOf hi];congr 3;apply Array.ext';simp only[extract_toArray,extract_eq_take_drop];rw[show fd.offset+i.size-fd.offset=P.cellsOf fd.type by omega]
 | false=>
  simp only[hb,cond_false]at hop;obtain⟨r,h1,h2⟩:=ze hop;unfold V.zfa at h1;split at h1<;>(try (cases h1;done));rename_i cs he;rw[he]at hx;obtain⟨l,e,hv,_⟩:=hx;obtain⟨u,k1,k2⟩:=hv.get h1;refine zdt hR hle (x:=r) (v:=u) ?_ k2 h2;simp[execOp,ho,e,Instr.field,run_underlying ht,hf,asAgg,part,zhk hd,hb,k1]
theorem op_indexS{t e:TypeId}{x i:Operand}(ho:o.op= .indexAddr t x i)(ht:P.underlying t=some (.slice e))(hR:R w0 ρ H w)(hle:h.le H)(hs:zgx ρ s a)(hi:∃d,P.info? e=some d)
  (hop:A.pv (V.zda (P.cellsOf e) (evS s x) (evS s i)) λv=>K v h):zgr P w0 ρ h H K o a w Q:=by
 obtain⟨r,h1,h2⟩:=ze hop;have hx:=zcu hs x;have hy:=zcu hs i;obtain⟨ie,hie⟩:=hi;unfold V.zda at h1;split at h1<;>(try (cases h1;done));rename_i id g off len es cp k n he hk;split at h1<;>(try (cases h1;done));rename_i hlt;cases h1;rw[he]at hx;rw[hk]at hy;obtain⟨L,hL,hlo,⟨cap,ev,_⟩|⟨h0,_⟩⟩:=hx
 case inr=>omega
 have ei:a.eval i= .int k n:=hy;refine zdt hR hle (x:= .ptr id g (off+n.toNat*P.cellsOf e)) (v:= .pointer (some ⟨L.blk,L.base+(off-L.lo)+n.toNat*P.cellsOf e,none⟩)) ?_
  ⟨L,hL,by omega,by rw[show L.base+(off-L.lo)+n.toNat*P.cellsOf e=L.base+(off+n.toNat*P.cellsOf e-L.lo) by omega]⟩ h2
 simp[execOp,ho,ev,ei,Instr.indexAt,asIntOf,run_underlying ht,hlt,run_sizeOf hie,zd9 hie,zhx]
theorem op_indexA{t e:TypeId}{x i:Operand}{len:Nat}(ho:o.op= .indexAddr t x i)(ht:P.underlying t=some (.array len e))(hR:R w0 ρ H w)(hle:h.le H)(hs:zgx ρ s a)(hi:∃d,P.info? e=some d)
  (hop:A.pv (V.idxA len (P.cellsOf e) (evS s x) (evS s i)) λv=>K v h):zgr P w0 ρ h H K o a w Q:=by
 obtain⟨r,h1,h2⟩:=ze hop;have hx:=zcu hs x;have hy:=zcu hs i;obtain⟨ie,hie⟩:=hi;unfold V.idxA at h1;split at h1<;>(try (cases h1;done));rename_i id g off k n he hk;split at h1<;>(try (cases h1;done));rename_i hlt;cases h1;rw[he]at hx;rw[hk]at hy;obtain⟨L,hL,hlo,ev⟩:=hx;have ei:a.eval i= .int k n:=hy;refine zdt hR hle (x:= .ptr id g (off+n.toNat*P.cellsOf e)) (v:= .pointer (some ⟨L.blk,L.base+(off-L.lo)+n.toNat*P.cellsOf e,none⟩)) ?_
  ⟨L,hL,by omega,by rw[show L.base+(off-L.lo)+n.toNat*P.cellsOf e=L.base+(off+n.toNat*P.cellsOf e-L.lo) by omega]⟩ h2
 simp[execOp,ho,ev,ei,Instr.indexAt,asIntOf,run_underlying ht,hlt,run_sizeOf hie,zd9 hie,zhx,Instr.sureAddr]
theorem op_indexStr{t:TypeId}{x i:Operand}(ho:o.op= .index t x i)(ht:P.underlying t=some .string)(hR:R w0 ρ H w)(hle:h.le H)(hs:zgx ρ s a)
  (hop:A.pv (V.zii (evS s x) (evS s i)) λv=>K v h):zgr P w0 ρ h H K o a w Q:=by
 obtain⟨r,h1,h2⟩:=ze hop;have hx:=zcu hs x;have hy:=zcu hs i;unfold V.zii at h1;split at h1<;>(try (cases h1;done));rename_i l k n he hk;split at h1<;>(try (cases h1;done));rename_i hn;split at h1<;>(try (cases h1;done));rename_i b hb;cases h1;rw[he]at hx;rw[hk]at hy;obtain⟨bs,ev,rfl⟩:=hx;have ei:a.eval i= .int k n:=hy;have hget:bs[n.toNat]?=some b:=by
  have hlt:n.toNat<bs.data.toList.length:=(List.getElem?_eq_some_iff.1 hb).1;have hlt':n.toNat<bs.size:=hlt;have h3:bs.data.toList[n.toNat]=b:=by have:=getElem?_eq_getElem hlt;rw[this]at hb;exact Option.some.inj hb
  rw[getElem?_pos bs n.toNat hlt'];exact congrArg some h3
 refine zdt hR hle (x:= .int .u8 b.toNat) (v:= .int .u8 b.toNat) ?_ rfl h2;simp[execOp,ho,ev,ei,Instr.index,asIntOf,run_underlying ht,hn,hget]
theorem op_extract{x:Operand}{i:Nat}(ho:o.op= .extract x i)(hR:R w0 ρ H w)(hle:h.le H)(hs:zgx ρ s a)(hop:A.pv (V.ext i (evS s x)) λv=>K v h):zgr P w0 ρ h H K o a w Q:=by
 obtain⟨r,h1,h2⟩:=ze hop;have hx:=zcu hs x;unfold V.ext at h1;split at h1<;>(try (cases h1;done));rename_i vs he;rw[he]at hx;obtain⟨l,e,hv⟩:=hx;obtain⟨u,k1,k2⟩:=hv.get h1;exact zdt hR hle (x:=r) (v:=u) (by simp[execOp,ho,e,Instr.extract,k1]) k2 h2
theorem op_makeFunc{f:FuncId}{first zjf:Array Operand}(ho:o.op= .makeFunc (.func f) first zjf)(hR:R w0 ρ H w)(hle:h.le H)(hs:zgx ρ s a)
  (hop:K (.fn f (first.toList.map (evS s)) (zjf.toList.map (evS s))) h):zgr P w0 ρ h H K o a w Q:=by
 refine zdt hR hle (x:= .fn f (first.toList.map (evS s)) (zjf.toList.map (evS s))) (v:= .func (.func f) (first.map a.eval) (zjf.map a.eval)) (by simp[execOp,ho,Instr.makeFunc]) ⟨first.toList.map a.eval,zjf.toList.map a.eval,?_,zmb hs _,zmb hs _⟩ hop;congr 1<;>(apply Array.ext';simp)
theorem zlw{x:za}{v:Value}{n:Nat}(hx:zfm ρ x v)(h:V.asNat x=some n):∃k,v= .int k n:=by
 unfold V.asNat at h;split at h<;>(try (cases h;done));rename_i k m;split at h<;>(try (cases h;done));rename_i hm;cases h;exact⟨k,by rw[show ((m.toNat:Nat):Int)=m by omega];exact hx⟩
theorem zn4{isS:Bool}{n cp room:Nat}(hroom:max n cp <= room){lo hi:Option za}{lv hv:Option Value}(hlo:∀x,lo=some x->∃v,lv=some v /\ zfm ρ x v)(hhi:∀x,hi=some x->∃v,hv=some v /\ zfm ρ x v)
  (hlo0:lo=none->lv=none) (hhi0:hi=none->hv=none) {l m:Nat} (h:V.endsC n cp lo hi=some (l,m)):
  (Instr.sliceBounds isS n room lv hv none).run P w= .ok (l,m,room) w /\ l <= m /\ m <= max n cp:=by
 unfold V.endsC at h;split at h<;>(try (cases h;done));rename_i hn ln e1 e2;split at h<;>(try (cases h;done));rename_i hlt;cases h;refine⟨?_,hlt⟩;have H1:hv=none /\ m=n \/ ∃k,hv=some (.int k m):=by
  cases hi with
  | none=>simp at e1;exact .inl ⟨hhi0 rfl,e1.symm⟩
  | some x=>simp at e1;obtain⟨v,hv',hr⟩:=hhi x rfl;obtain⟨k,hk⟩:=zlw hr e1;exact .inr ⟨k,by rw[hv',hk]⟩
 have H2:lv=none /\ l=0 \/ ∃k,lv=some (.int k l):=by
  cases lo with
  | none=>simp at e2;exact .inl ⟨hlo0 rfl,e2.symm⟩
  | some x=>simp at e2;obtain⟨v,hv',hr⟩:=hlo x rfl;obtain⟨k,hk⟩:=zlw hr e2;exact .inr ⟨k,by rw[hv',hk]⟩
 have c1:m <= room:=by omega
 have c2:l <= m:=hlt.1;rcases H1 with⟨rfl,rfl⟩|⟨k,rfl⟩<;>rcases H2 with⟨rfl,rfl⟩|⟨k',rfl⟩<;>simp[Instr.sliceBounds,Instr.sliceBound,asIntOf,c1,c2]
theorem zhc{x:Option Operand}(hs:zgx ρ s a):(∀y,x.map (evS s)=some y->∃v,x.map a.eval=some v /\ zfm ρ y v) /\ (x.map (evS s)=none->x.map a.eval=none):=by
 cases x with
 | none=>simp
 | some x=>exact⟨λy hy=>⟨a.eval x,rfl,by cases hy;exact zcu hs x⟩,by simp⟩
theorem op_cutStr{t:TypeId}{x:Operand}{lo hi:Option Operand}(ho:o.op= .slice t x lo hi none)(ht:P.underlying t=some .string)(hR:R w0 ρ H w)(hle:h.le H)(hs:zgx ρ s a)
  (hop:A.pv (V.zrf (evS s x) (lo.map (evS s)) (hi.map (evS s))) λv=>K v h):zgr P w0 ρ h H K o a w Q:=by
 obtain⟨r,h1,h2⟩:=ze hop;have hx:=zcu hs x;unfold V.zrf at h1;split at h1<;>(try (cases h1;done));rename_i l he;split at h1<;>(try (cases h1;done));rename_i m n hen;cases h1;rw[he]at hx;obtain⟨bs,ev,rfl⟩:=hx;obtain⟨r1,_,_⟩:=zn4 (P:=P) (w:=w) (isS:=false) (n:=bs.data.toList.length) (cp:=bs.data.toList.length) (room:=bs.data.toList.length) (by omega) (zhc hs).1 (zhc hs).1 (zhc hs).2 (zhc hs).2 hen;have hsz:bs.data.toList.length=bs.size:=rfl;rw[hsz]at r1;refine zdt hR hle (x:= .str ((bs.data.toList.take n).drop m)) (v:= .string (bs.extract m n)) ?_ ⟨_,rfl,?_⟩ h2
 ·simp[execOp,ho,ev,Instr.sliceAt,Instr.slice,run_underlying ht,r1]
 ·rw[ByteArray.data_extract,Array.toList_extract,extract_eq_take_drop,drop_take]
theorem op_cutSl{t e:TypeId}{x:Operand}{lo hi:Option Operand}(ho:o.op= .slice t x lo hi none)(ht:P.underlying t=some (.slice e))(hie:∃i,P.info? e=some i)(hR:R w0 ρ H w)(hle:h.le H)(hs:zgx ρ s a)
  (hop:A.pv (V.zh9 (P.cellsOf e) (evS s x) (lo.map (evS s)) (hi.map (evS s))) λv=>K v h):zgr P w0 ρ h H K o a w Q:=by
 obtain⟨r,h1,h2⟩:=ze hop;have hx:=zcu hs x;obtain⟨ie,hie⟩:=hie;unfold V.zh9 at h1;split at h1<;>(try (cases h1;done))
 ·rename_i id g off n es cp he
  split at h1<;>(try (cases h1;done));rename_i l m hen;split at h1<;>(try (cases h1;done));rename_i hes;subst hes;cases h1;rw[he]at hx;obtain⟨L,hL,hlo,⟨cap,ev,c1,c2,c3,c4⟩|⟨rfl,rfl,ad,ev⟩⟩:=hx
  ·obtain⟨r1,b1,b2⟩:=zn4 (P:=P) (w:=w) (isS:=true) (room:=cap) (by omega) (zhc hs).1 (zhc hs).1 (zhc hs).2 (zhc hs).2 hen
   by_cases hcl:cap=l
   ·subst hcl
    refine zdt hR hle (x:= .sl id g (off+cap*P.cellsOf e) (m-cap) (P.cellsOf e) (max n cp-cap)) (v:= .slice (some ⟨L.blk,L.base+(off-L.lo),none⟩) (m-cap) (cap-cap)) ?_
     ⟨L,hL,by omega,.inr ⟨by omega,by omega,⟨L.blk,L.base+(off-L.lo),none⟩,by rw[show m-cap=0 by omega,show cap-cap=0 by omega]⟩⟩ h2
    simp[execOp,ho,ev,Instr.sliceAt,Instr.slice,run_underlying ht,r1,run_sizeOf hie]
   ·refine zdt hR hle (x:= .sl id g (off+l*P.cellsOf e) (m-l) (P.cellsOf e) (max n cp-l)) (v:= .slice (some ⟨L.blk,L.base+(off-L.lo)+l*P.cellsOf e,none⟩) (m-l) (cap-l)) ?_
     ⟨L,hL,by omega,.inl ⟨cap-l,by rw[show L.base+(off-L.lo)+l*P.cellsOf e=L.base+(off+l*P.cellsOf e-L.lo) by omega],by omega,?_,by omega,by omega,λhh=> .inr (by omega)⟩⟩ h2
    ·simp[execOp,ho,ev,Instr.sliceAt,Instr.slice,run_underlying ht,r1,run_sizeOf hie,hcl,zd9 hie,zhx]
    ·have:(cap-l)*P.cellsOf e+l*P.cellsOf e=cap*P.cellsOf e:=by rw[<-Nat.add_mul,show cap-l+l=cap by omega]
     omega
  ·obtain⟨r1,b1,b2⟩:=zn4 (P:=P) (w:=w) (isS:=true) (room:=0) (by omega) (zhc hs).1 (zhc hs).1 (zhc hs).2 (zhc hs).2 hen
   have hl:l=0:=by omega
   have hm:m=0:=by omega
   subst hl;subst hm;refine zdt hR hle (x:= .sl id g (off+0*P.cellsOf e) (0-0) (P.cellsOf e) (max 0 0-0)) (v:= .slice (some ad) 0 0) ?_ ⟨L,hL,by omega,.inr ⟨rfl,rfl,ad,rfl⟩⟩ h2;simp[execOp,ho,ev,Instr.sliceAt,Instr.slice,run_underlying ht,r1,run_sizeOf hie]
 ·rename_i he
  split at h1<;>(try (cases h1;done));rename_i lm hen;obtain⟨l,m⟩:=lm;cases h1;rw[he]at hx;obtain⟨ad,ev⟩:=hx;obtain⟨r1,b1,b2⟩:=zn4 (P:=P) (w:=w) (isS:=true) (room:=0) (by omega) (zhc hs).1 (zhc hs).1 (zhc hs).2 (zhc hs).2 hen;have hl:l=0:=by omega
  have hm:m=0:=by omega
  subst hl;subst hm;refine zdt hR hle (x:= .sz) (v:= .slice (some ad) 0 0) ?_ ⟨ad,rfl⟩ h2;simp[execOp,ho,ev,Instr.sliceAt,Instr.slice,run_underlying ht,r1,run_sizeOf hie]
 ·rename_i he
  split at h1<;>(try (cases h1;done));rename_i lm hen;obtain⟨l,m⟩:=lm;cases h1;rw[he]at hx;have ev:a.eval x= .slice none 0 0:=hx;obtain⟨r1,b1,b2⟩:=zn4 (P:=P) (w:=w) (isS:=true) (room:=0) (by omega) (zhc hs).1 (zhc hs).1 (zhc hs).2 (zhc hs).2 hen;have hl:l=0:=by omega
  have hm:m=0:=by omega
  subst hl;subst hm;refine zdt hR hle (x:= .zed) (v:= .slice none 0 0) ?_ rfl h2;simp[execOp,ho,ev,Instr.sliceAt,Instr.slice,run_underlying ht,r1,run_sizeOf hie]
end
end Go.Ab
namespace Go.Ab
open List
open Go.RowKit (Below)
theorem R.push{w0:World}{ρ:zd1}{H:zb}{w:World}(h:R w0 ρ H w)(o:Obj):R w0 ρ H { w with heap:=w.heap.push o } where
 below:=h.below.trans ⟨rfl,rfl,rfl,by simp,λk hk=>by
   have:=h.below.size
   show (w.heap.push _)[k]?=_
   rw[Array.getElem?_push,if_neg (by omega)]⟩
 fin:=h.fin
 blk:=λid b e=>by
  have hold:∀k o',w.heap[k]?=some o'->(w.heap.push o)[k]?=some o':=λk o' hk=>by
   rw[Array.getElem?_push]
   have:k<w.heap.size:=(Array.getElem?_eq_some_iff.1 hk).1
   rw[if_neg (by omega)];exact hk
  have k:=h.blk id b e
  refine⟨k.nxt,λg hi hm=>?_,k.align,λo' ho=>?_⟩
  ·obtain⟨h0,L,arr,e',fr,h1,h2,h3⟩:=k.gen g hi hm
   exact⟨h0,L,arr,e',fr,h1,hold _ _ h2,h3⟩
  ·obtain⟨h0,L,ob,h1,h2,h3,h4,h5,h6⟩:=k.obj o' ho
   exact⟨h0,L,ob,h1,h2,h3,h4,hold _ _ h5,h6⟩
 sep:=h.sep
 osep:=h.osep
section
variable{P:Program}{w0:World}{ρ:zd1}{h H:zb}{w:World}{s:zbr}{a:Act}{K:zQ}{o:Oper}{Q:Exit->Act->World->Prop}
theorem zot{t:TypeId}{z:Option Nat}(h:partOf P t=some z):z.getD 1=P.cellsOf t:=by
 unfold partOf at h;cases hb:zdz P t with
 | true=>simp[hb]at h;subst h;rfl
 | false=>
  simp only[hb,cond_false]at h;cases hc:Nat.beq (P.cellsOf t) 1 with
  | true=>simp[hc]at h;subst h;exact(Nat.eq_of_beq_eq_true hc).symm
  | false=>simp[hc]at h
theorem zql(hs:zgx ρ s a){fs:Array Field}{place:Nat->Option (Nat×Nat)}(hp:∀i f,fs[i]?=some f->place i=some (f.offset,P.cellsOf f.type)):
  ∀(parts:List (Nat×Operand))(ps:List (Nat×Option Nat×za)),zqm P fs (parts.map λp=>(p.1,evS s p.2))=some ps->zn7 ρ place ps (parts.map λp=>(p.1,a.eval p.2))
 | [],ps,h=>by simp[zqm]at h;subst h;rfl
 | (i,x)::r,ps,h=>by
  simp only[map_cons,zqm]at h
  split at h<;>(try (cases h;done))
  rename_i f l hf hl
  split at h<;>(try (cases h;done))
  rename_i z hz
  cases h
  exact⟨(i,a.eval x),_,rfl,⟨by rw[zot hz];exact hp i f hf,zcu hs x⟩,zql hs hp r l hl⟩
theorem zm4(hs:zgx ρ s a){n:Nat}{z:Option Nat}(hz:z.getD 1=n):
  ∀(parts:List (Nat×Operand)),zn7 ρ (λi=>some (i*n,n)) (zqn n z (parts.map λp=>(p.1,evS s p.2))) (parts.map λp=>(p.1,a.eval p.2))
 | []=>rfl
 | (i,x)::r=>⟨(i,a.eval x),_,rfl,⟨by simp only;rw[hz],zcu hs x⟩,zm4 hs hz r⟩
theorem joinL_mem:∀{l:List (Option (List za))}{r:List za},joinL l=some r->∀x∈l,∃y,x=some y
 | [],_,_,x,hx=>by simp at hx
 | none::_,_,h,_,_=>by simp[joinL]at h
 | some a::l,r,h,x,hx=>by
  simp only[joinL]at h
  split at h
  ·rename_i m hm
   rcases mem_cons.1 hx with rfl|hx
   ·exact⟨a,rfl⟩
   ·exact joinL_mem hm x hx
  ·cases h
theorem zp8{d:Nat}{t:TypeId}{cs:List za}(h:zeroAt P d t=some cs):∃i,P.info? t=some i:=by
 cases d with
 | zero=>simp[zeroAt]at h
 | succ d=>
  simp only[zeroAt]at h;cases hu:P.underlying t with
  | none=>simp[hu]at h
  | some dd=>exact info_of_underlying hu
theorem mapM_all{α β:Type}{f:α->Option β}{g:α->β}:∀(l:List α),(∀x∈l,f x=some (g x))->l.mapM f=some (l.map g)
 | [],_=>rfl
 | x::l,h=>by rw[mapM_cons,h x (by simp),mapM_all l (λy hy=>h y (by simp[hy]))];rfl
theorem zls:∀{ps:List (Nat×Option Nat×za)}{cs cs':List za},zee ps cs=some cs'->cs'.length=cs.length
 | [],_,_,h=>by cases h;rfl
 | (off,none,v)::r,cs,cs',h=>by
  simp only[zee]at h
  split at h<;>(try (cases h;done))
  rename_i c1 hc
  rw[zls h]
  unfold V.put1 at hc
  cases hv:v.zec with
  | false=>simp[hv]at hc
  | true=>
   simp only[hv,cond_true]at hc
   split at hc<;>(try (cases hc;done))
   cases hc;simp
 | (off,some n,v)::r,cs,cs',h=>by
  simp only[zee]at h
  split at h<;>(try (cases h;done))
  rename_i c1 hc
  rw[zls h]
  unfold V.putN at hc
  split at hc<;>(try (cases hc;done))
  split at hc<;>(try (cases hc;done))
  rename_i hh
  cases hc
  simp only[length_append,length_take,length_drop];omega
theorem zeroAt_struct{d:Nat}{t:TypeId}{fs:Array Field}(ht:P.underlying t=some (.struct fs)):zeroAt P (d+1) t=joinL (fs.toList.map λf=>zeroAt P d f.type):=by
 simp only[zeroAt,ht]
theorem zeroAt_array{d n:Nat}{t e:TypeId}{cs:List za}(ht:P.underlying t=some (.array n e))(h:zeroAt P (d+1) t=some cs):∃l,zeroAt P d e=some l:=by
 simp only[zeroAt,ht]at h;cases hh:zeroAt P d e with
 | none=>simp[hh]at h
 | some l=>exact⟨l,rfl⟩
theorem op_build{t:TypeId}{parts:Array (Nat×Operand)}(ho:o.op= .build t parts)(hR:R w0 ρ H w)(hle:h.le H)(hs:zgx ρ s a)(hop:zi1 P (AC P) (.build t parts) s h K):zgr P w0 ρ h H K o a w Q:=by
 simp only[zi1]at hop;obtain⟨r,h1,h2⟩:=ze hop;split at h1<;>(try (cases h1;done));rename_i z ps hz hps;split at h1<;>(try (cases h1;done));rename_i cs hcs;cases h1;obtain⟨it,zv,hit,hzv,hv,hone,hlen,hsz,⟨d,hd⟩,hza⟩:=zf0 (ρ:=ρ) hz;have key:∀place,zn7 ρ place ps (parts.toList.map λp=>(p.1,a.eval p.2))->P.built t (parts.toList.map λp=>(p.1,a.eval p.2))=Instr.fill place zv.cells (parts.toList.map λp=>(p.1,a.eval p.2))->zgr P w0 ρ h H K o a w Q:=by
  intro place hrel hb;obtain⟨l',k1,k2,k3⟩:=zma place ps _ z cs zv.cells.toList hrel hcs hv hone;rw[Array.toArray_toList]at k1;refine zdt hR hle (x:= .agg cs) (v:= .agg l'.toArray) ?_ ⟨l',rfl,k2,k3⟩ h2;have:P.built t (parts.map λp=>(p.1,a.eval p.2)).toList=some l'.toArray:=by rw[Array.toList_map,hb,k1]
  simp[execOp,ho,run_build w t _ _ this]
 unfold placesOf at hps;split at hps
 ·rename_i fs ht
  have hza':=hza;rw[show (12:Nat)=11+1 from rfl,zeroAt_struct ht]at hza';have hinfo:∀f∈fs.toList,∃i,P.info? f.type=some i:=λf hf=>by
   obtain⟨y,hy⟩:=joinL_mem hza' _ (mem_map.2 ⟨f,hf,rfl⟩);exact zp8 hy
  have hm:fs.toList.mapM (λf=>(P.info? f.type).map λi=>(f.offset,i.size))=some (fs.toList.map λf=>(f.offset,P.cellsOf f.type)):=
   mapM_all _ λf hf=>by obtain⟨i,hi⟩:=hinfo f hf;simp[hi,zd9 hi]
  refine key (λi=>(fs.toList.map λf=>(f.offset,P.cellsOf f.type)).toArray[i]?) (zql hs (λi f hf=>?_) _ _ hps) ?_
  ·have:fs.toList[i]?=some f:=by simpa using hf
   simp[this]
  ·simp only[Program.built,hit,ht,hzv,hm]
 ·rename_i n e ht
  split at hps<;>(try (cases hps;done));rename_i z' hz';cases hps;have:∃i,P.info? e=some i:=by
   obtain⟨l,hl⟩:=zeroAt_array (d:=11) ht hza;exact zp8 hl
  obtain⟨ie,hie⟩:=this;refine key (λi=>some (i*ie.size,ie.size)) (by rw[<-zd9 hie];exact zm4 hs (zot hz') _) ?_;simp only[Program.built,hit,ht,hzv,hie]
 ·cases hps
theorem repL_eq(n:Nat)(z:List za):zf7 n z=(List.replicate n z).flatten:=by
 have one:∀(x:za)(n:Nat),List.replicate n x=(List.replicate n [x]).flatten:=λx n=>by
  induction n with
  | zero=>rfl
  | succ n ih=>rw[replicate_succ,replicate_succ,flatten_cons,<-ih];rfl
 unfold zf7;split
 ·exact one _ n
 ·rfl
theorem info_of_part{t:TypeId}{z:Option Nat}(h:partOf P t=some z):∃i,P.info? t=some i:=by
 unfold partOf at h;cases hi:P.info? t with
 | some i=>exact⟨i,rfl⟩
 | none=>
  have h1:zdz P t=false:=by simp[zdz,Program.underlying,hi]
  have h2:P.cellsOf t=0:=by simp[Program.cellsOf,hi]
  rw[h1,h2]at h;exact absurd (show (none:Option (Option Nat))=some z from h) (by simp)
theorem zd6.rep{z:List za}{l:List Value}(hv:zd6 ρ z l):∀n,zd6 ρ (List.replicate n z).flatten (List.replicate n l).flatten
 | 0=>rfl
 | n+1=>by simp only[replicate_succ,flatten_cons];exact hv.append (zd6.rep hv n)
theorem range_mod(l:List Value)(hl:0<l.length):∀n,(List.range (n*l.length)).map (λi=>l.toArray[i % l.length]!)=(List.replicate n l).flatten
 | 0=>by simp
 | n+1=>by
  rw[replicate_succ',flatten_append,<-range_mod l hl n,Nat.succ_mul,range_add,map_append]
  congr 1
  simp only[map_map,flatten_cons,flatten_nil,append_nil]
  apply ext_getElem
  ·simp
  ·intro i h1 h2
   simp only[length_map,length_range]at h1
   simp[Nat.mod_eq_of_lt h1,h1]
theorem zpy{z:Value}{n size:Nat}(hz:z.cells.size=size)(h0:0<size):((Array.range (n*size)).map (z.cells[· % z.cells.size]!))=((List.replicate n z.cells.toList).flatten).toArray:=by
 apply Array.ext';have:=range_mod z.cells.toList (by simpa[hz]using h0) n;simp only[Array.length_toList,hz,Array.toArray_toList]at this;simp only[Array.toList_map,Array.toList_range,hz];exact this
theorem op_buildSlice{t:TypeId}{len:Nat}{parts:Array (Nat×Operand)}(ho:o.op= .buildSlice t len parts)(hR:R w0 ρ H w)(hle:h.le H)(hs:zgx ρ s a)(hop:zi1 P (AC P) (.buildSlice t len parts) s h K):zgr P w0 ρ h H K o a w Q:=by
 simp only[zi1]at hop;split at hop
 ·rename_i e he
  have ht:P.underlying t=some (.slice e):=by
   unfold zlt at he;split at he
   ·cases he;assumption
   ·cases he
  split at hop
  ·rename_i h0
   subst h0;split at hop
   ·rename_i pz hp hpz
    have hp':parts= #[]:=by apply Array.ext';simpa using hp
    obtain⟨ie,hi⟩:=info_of_part hpz
    ·refine zem (v:= .slice (some ⟨w.heap.size,0,none⟩) 0 0) (w':={ w with heap:=w.heap.push (.cells #[] e) }) ?_ ⟨⟨.sz,ρ,h,H,zd1.le_refl ρ,⟨_,rfl⟩,hop,hle,Fr.refl h H,hR.push _⟩⟩
     have h0:∀f:Nat->Value,Array.map f (Array.range 0)= #[]:=λf=>by apply Array.ext';simp
     simp[execOp,ho,Instr.buildSlice,run_underlying ht,run_sizeOf hi,hp',Instr.fill,newRow,h0]
   ·exact hop.elim
  ·rename_i hlen
   unfold A.zf2 at hop;split at hop
   ·rename_i cs hcs
    split at hcs<;>(try (cases hcs;done));rename_i z pz hz hpz;cases hsm:(Nat.ble (len*P.cellsOf e) 16777216&&Nat.ble 1 (P.cellsOf e)) with
    | false=>simp[hsm]at hcs
    | true=>
     simp only[hsm,cond_true]at hcs;simp only[Bool.and_eq_true,Nat.ble_eq]at hsm;obtain⟨it,zv,hit,hzv,hv,hone,hl,hsz,⟨d,hd⟩,hza⟩:=zf0 (ρ:=ρ) hz;have hce:=zd9 hit;have hrow:=zpy (n:=len) hsz (by omega);rw[repL_eq]at hcs;obtain⟨l',k1,k2,k3⟩:=zma (λi=>some (i*it.size,it.size)) _ (parts.toList.map λp=>(p.1,a.eval p.2)) _ cs ((List.replicate len zv.cells.toList).flatten)
      (by rw[<-hce];exact zm4 hs (zot hpz) _) hcs (zd6.rep hv len) (λu hu=>by
       simp only[mem_flatten,mem_replicate]at hu;obtain⟨l,⟨_,rfl⟩,hu⟩:=hu;exact hone u hu)
     have hlc:=k2.length;have hfl:l'.length=len*P.cellsOf e:=by
      have:=zls hcs;simp only[length_flatten,map_replicate,sum_replicate_nat]at this;rw[<-hlc,this,hl]
     obtain⟨id,ρ',m1,m2,m3,m4,m5,m6⟩:=zkk hR hle hop l'.toArray e (0,0) rfl (by simp[hlc]) (by simpa using zmd k2 k3 []) w.drawn;refine zem (v:= .slice (some ⟨w.heap.size,0,none⟩) len len) ?_ ⟨⟨.sl id 0 0 len (P.cellsOf e) len,ρ',_,_,m2,⟨_,m3,Nat.le_refl _,.inl ⟨len,rfl,Nat.le_refl _,by simp;omega,?_,Nat.le_refl _,λ_=> .inl rfl⟩⟩,m1,m4,m5,m6⟩⟩
     ·have hb:=run_buildSlice (P:=P) w t e len (parts.map λp=>(p.1,a.eval p.2)) l'.toArray it zv ht hit hzv (by rw[<-hce];have:=hsm.1;omega) (by
       have:0<len*it.size:=Nat.mul_pos (by omega) (by omega);omega) (by rw[hrow,Array.toList_map];exact k1)
      simp only[execOp,ho,Sem.run_bind,hb,Result.andThen_ok,Sem.run_pure];rfl
     ·have:=hsm.1
      have h2:len*1 <= len*P.cellsOf e:=Nat.mul_le_mul_left _ hsm.2;simp only[maxLen];omega
   ·exact hop.elim
 ·exact hop.elim
end
end Go.Ab
namespace Go.Ab
open List
open Go.RowKit (Below)
section
variable{P:Program}{w0:World}{ρ:zd1}{h H:zb}{w:World}{s:zbr}{a:Act}{K:zQ}{o:Oper}{Q:Exit->Act->World->Prop}
theorem zgy{v:Value}{m n:Nat}{code:BoundsCode}(hv:∃k,v= .int k (m:Nat))(hm:m <= n):(Instr.sliceBound v n code).run P w= .ok m w:=by
 obtain⟨k,rfl⟩:=hv;have:(0:Int) <= (m:Int) /\ (m:Int) <= (n:Int):=⟨by omega,by omega⟩;simp[Instr.sliceBound,asIntOf,hm]
theorem op_cut3{t e:TypeId}{x mx:Operand}{lo hi:Option Operand}{lv hv:za}(ho:o.op= .slice t x lo hi (some mx))(ht:P.underlying t=some (.slice e))(hie:∃i,P.info? e=some i)(hR:R w0 ρ H w)(hle:h.le H)(hs:zgx ρ s a)
  (hlo:(lo=none /\ lv= .int .i64 0) \/ ∃y,lo=some y /\ zfm ρ lv (a.eval y)) (hhi:∃y,hi=some y /\ zfm ρ hv (a.eval y))
  (hop:A.pv (V.cut3 (P.cellsOf e) (evS s x) lv hv (evS s mx)) λv=>K v h):zgr P w0 ρ h H K o a w Q:=by
 obtain⟨r,h1,h2⟩:=ze hop;have hx:=zcu hs x;obtain⟨ie,hie⟩:=hie;obtain⟨yh,rfl,rh⟩:=hhi;have hce:=zd9 hie;have main:∀(ad:Option Addr)(n c l m q:Nat)(k0:V.asNat lv=some l)(k1:V.asNat hv=some m)(k2:V.asNat (evS s mx)=some q),l <= m->m <= q->q <= c->a.eval x= .slice ad n c ->
   (execOp a.eval o).run P w= .ok (.value (.slice (if q=l then ad else ad.map (·.add (l*ie.size))) (m-l) (q-l))) w:=by
  intro ad n c l m q k0 k1 k2 b1 b2 b3 ev;have z1:=zlw rh k1;have z2:=zlw (zcu hs mx) k2;rcases hlo with⟨rfl,rfl⟩|⟨y,rfl,ry⟩
  ·have l0:l=0:=by simp[V.asNat]at k0;omega
   subst l0;simp[execOp,ho,ev,Instr.sliceAt,Instr.slice,run_underlying ht,Instr.sliceBounds,zgy z1 b2,zgy z2 b3,run_sizeOf hie]
  ·simp[execOp,ho,ev,Instr.sliceAt,Instr.slice,run_underlying ht,Instr.sliceBounds,zgy z1 b2,zgy z2 b3,zgy (zlw ry k0) b1,run_sizeOf hie]
 unfold V.cut3 at h1;split at h1<;>(try (cases h1;done))
 ·rename_i id g off n es' cp l m q he k0 k1 k2
  split at h1<;>(try (cases h1;done));rename_i hb;obtain⟨b1,b2,b3,rfl⟩:=hb;cases h1;rw[he]at hx;obtain⟨L,hL,hlo',⟨cap,ev,c1,c2,c3,c4⟩|⟨rfl,rfl,ad,ev⟩⟩:=hx
  ·have hm:=main _ _ _ l m q k0 k1 k2 b1 b2 (by omega) ev
   by_cases hql:q=l
   ·subst hql
    rw[if_pos rfl]at hm;rw[if_pos rfl]at h2;refine zdt hR hle (x:= .sz) hm ⟨⟨L.blk,L.base+(off-L.lo),none⟩,?_⟩ h2;rw[show m-q=0 by omega,show q-q=0 by omega]
   ·rw[if_neg hql]at hm h2
    refine zdt hR hle (x:= .sl id g (off+l*P.cellsOf e) (m-l) (P.cellsOf e) (if m=q then 0 else q-l)) hm ⟨L,hL,by omega,.inl ⟨q-l,?_,by omega,?_,by omega,by split<;>omega,λhh=>by split at hh<;>omega⟩⟩ h2
    ·rw[show L.base+(off+l*P.cellsOf e-L.lo)=L.base+(off-L.lo)+l*P.cellsOf e by omega,hce]
     simp[zhx]
    ·have h3:(q-l)*P.cellsOf e+l*P.cellsOf e=q*P.cellsOf e:=by rw[<-Nat.add_mul,show q-l+l=q by omega]
     have h4:q*P.cellsOf e <= cap*P.cellsOf e:=Nat.mul_le_mul (by omega) (Nat.le_refl _);omega
  ·have l0:l=0:=by omega
   have m0:m=0:=by omega
   have q0:q=0:=by omega
   subst l0;subst m0;subst q0;have hm:=main _ _ _ 0 0 0 k0 k1 k2 (by omega) (by omega) (by omega) ev;rw[if_pos rfl]at hm;exact zdt hR hle (x:= .sz) hm ⟨ad,rfl⟩ h2
 ·rename_i he k0 k1 k2
  cases h1;rw[he]at hx;obtain⟨ad,ev⟩:=hx;have hm:=main _ _ _ 0 0 0 k0 k1 k2 (by omega) (by omega) (by omega) ev;rw[if_pos rfl]at hm;exact zdt hR hle (x:= .sz) hm ⟨ad,rfl⟩ h2
 ·rename_i he k0 k1 k2
  cases h1;rw[he]at hx;have ev:a.eval x= .slice none 0 0:=hx;have hm:=main _ _ _ 0 0 0 k0 k1 k2 (by omega) (by omega) (by omega) ev;rw[if_pos rfl]at hm;exact zdt hR hle (x:= .zed) hm rfl h2
theorem zq1{e:TypeId}(h:zpe P e=true):P.underlying e=some (.int .u8) /\ P.cellsOf e=1:=by
 unfold zpe at h;split at h
 ·rename_i he;exact⟨he,by simpa using h⟩
 ·cases h
theorem zpk:∀{cs:List za}{bs:List UInt8}{l:List Value},V.zjt cs=some bs->zd6 ρ cs l->∃ns:List Int,l=ns.map (Value.int .u8) /\ bs=ns.map λn=>UInt8.ofNat n.toNat
 | [],bs,l,h,hv=>by cases h;cases hv;exact⟨[],rfl,rfl⟩
 | x::cs,bs,l,h,⟨u,us,e,hu,hv⟩=>by
  subst e
  simp only[V.zjt]at h
  split at h<;>(try (cases h;done))
  rename_i b l' hb hl
  cases h
  obtain⟨ns,rfl,rfl⟩:=zpk hl hv
  unfold V.byteOf? at hb
  split at hb<;>(try (cases hb;done))
  rename_i n
  cases hb
  cases hu
  exact⟨n::ns,rfl,rfl⟩
theorem foldl_push:∀(ns:List Int)(r:ByteArray),(ns.foldl (λr n=>r.push (UInt8.ofNat n.toNat)) r).data.toList=r.data.toList++ns.map λn=>UInt8.ofNat n.toNat
 | [],r=>by simp
 | n::ns,r=>by
  rw[foldl_cons,foldl_push ns]
  simp[ByteArray.push]
theorem op_convert{src dst:TypeId}{x:Operand}(ho:o.op= .convert src dst x)(hR:R w0 ρ H w)(hle:h.le H)(hs:zgx ρ s a)(hop:zi1 P (AC P) (.convert src dst x) s h K):zgr P w0 ρ h H K o a w Q:=by
 have hx:=zcu hs x;simp only[zi1]at hop;split at hop
 ·rename_i k1 k2 hs' hd'
  obtain⟨r,h1,h2⟩:=ze hop;unfold V.toInt at h1;split at h1<;>(try (cases h1;done));rename_i k n he;cases h1;rw[he]at hx;have ev:a.eval x= .int k n:=hx;exact zdt hR hle (x:= .int k2 (k2.wrap n)) (v:= .int k2 (k2.wrap n)) (by simp[execOp,ho,ev,convert,run_underlying hs',run_underlying hd',Conv.intToInt]) rfl h2
 ·rename_i hs' hd'
  obtain⟨r,h1,h2⟩:=ze hop;unfold V.strStr at h1;split at h1<;>(try (cases h1;done));rename_i b he;cases h1;rw[he]at hx;obtain⟨bs,ev,hb⟩:=hx;exact zdt hR hle (x:= .str b) (v:= .string bs) (by simp[execOp,ho,ev,convert,run_underlying hs',run_underlying hd']) ⟨bs,rfl,hb⟩ h2
 ·rename_i e hs' hd'
  cases hu:zpe P e with
  | false=>simp[hu]at hop
  | true=>
   simp only[hu,cond_true]at hop;obtain⟨he,_⟩:=zq1 hu;unfold A.ze0 at hop;split at hop
   ·rename_i n hn
    split at hop
    ·rename_i cs hcs
     split at hop
     ·rename_i bs hbs
      obtain⟨l,hl,hv,_,hf,hor⟩:=zqg (P:=P) hR hle hcs hx;obtain⟨ns,rfl,rfl⟩:=zpk hbs hv;have hf':=hf w (λ_ _ _ hh=>hh);simp only[Nat.mul_one,length_map]at hl;have hlen:∀ad m c,a.eval x= .slice (some ad) m c->m=n:=by
       intro ad m c ev;unfold A.zgt at hn;rw[ev]at hx;split at hn<;>(try (cases hn;done))
       ·rename_i he';rw[he']at hx;cases hx
       ·rename_i he';rw[he']at hx;cases hn;obtain⟨_,hx⟩:=hx;cases hx;rfl
       ·rename_i he';rw[he']at hx;cases hn;obtain⟨_,_,hx⟩:=zno hx;cases hx;rfl
       ·rename_i he';rw[he']at hx;obtain⟨_,hx,_⟩:=hx;cases hx
      have hnil:∀m c,a.eval x= .slice none m c->n=0:=by
       intro m c ev;unfold A.zgt at hn;rw[ev]at hx;split at hn<;>(try (cases hn;done))
       ·cases hn;rfl
       ·cases hn;rfl
       ·rename_i he';rw[he']at hx;obtain⟨_,_,hx⟩:=zno hx;cases hx
       ·rename_i he';rw[he']at hx;obtain⟨_,hx,_⟩:=hx;cases hx
      have hsl:∃ad m c,a.eval x= .slice ad m c:=by
       unfold A.zgt at hn;split at hn<;>(try (cases hn;done))
       ·rename_i he';rw[he']at hx;exact⟨_,_,_,hx⟩
       ·rename_i he';rw[he']at hx;obtain⟨_,hx⟩:=hx;exact⟨_,_,_,hx⟩
       ·rename_i he';rw[he']at hx;obtain⟨_,_,hx⟩:=zno hx;exact⟨_,_,_,hx⟩
       ·rename_i he';rw[he']at hcs;simp[A.rdv]at hcs
      obtain⟨ad,m,c,ev⟩:=hsl;cases ad with
      | none=>
       have:=hnil m c ev;have hns:ns=[]:=eq_nil_of_length_eq_zero (by omega);subst hns;refine zdt hR hle (x:= .str []) (v:= .string .empty) ?_ ⟨_,rfl,rfl⟩ hop;simp[execOp,ho,ev,run_convert_bytes_string w src dst e _ _ _ hs' he hd',Conv.bytesToString]
      | some ad=>
       have hm:=hlen ad m c ev;subst hm;rw[ev]at hf';simp only[Builtin.firstCells,Nat.mul_one]at hf';refine zdt hR hle (x:= .str (ns.map λn=>UInt8.ofNat n.toNat)) (v:= .string (ns.foldl (λr n=>r.push (UInt8.ofNat n.toNat)) ByteArray.empty)) ?_ ⟨_,rfl,by rw[foldl_push];rfl⟩ hop;simp[execOp,ho,ev,run_convert_bytes_string w src dst e _ _ _ hs' he hd',run_bytesToString w ad m c ns hf']
     ·exact hop.elim
    ·exact hop.elim
   ·exact hop.elim
 ·rename_i e hs' hd'
  cases hu:zpe P e with
  | false=>simp[hu]at hop
  | true=>
   simp only[hu,cond_true]at hop;obtain⟨he,_⟩:=zq1 hu;unfold A.ziw at hop;split at hop
   ·rename_i l hl
    exact hop.1.2.elim
   ·exact hop.elim
 ·rename_i e e2 hs' hd'
  cases hu:Nat.beq src dst&&zpe P e with
  | false=>rw[hu]at hop;exact hop.elim
  | true=>
   rw[hu]at hop;rw[Bool.and_eq_true]at hu;have hsd:src=dst:=Nat.eq_of_beq_eq_true hu.1;subst hsd;obtain⟨he,_⟩:=zq1 hu.2;have hop:A.conv h (evS s x) λv=>K v h:=hop
   unfold A.conv at hop
   split at hop
   ·rename_i id g off n es cp hx'
    split at hop
    ·rename_i b hb
     obtain⟨hc,hk⟩:=hop;rw[Bool.and_false]at hc;cases hc
    ·exact hop.elim
   ·exact hop.elim
 ·exact hop.elim
theorem op_makeSlice {t : TypeId} {l c : Operand} (ho : o.op = .makeSlice t l c) (hR : R w0 ρ H w) (hle : h.le H) (hs : zgx ρ s a) (hop : zi1 P (AC P) (.makeSlice t l c) s h K) : zgr P w0 ρ h H K o a w Q := by
  simp only [zi1] at hop
  split at hop
  · rename_i e he
    have ht : P.underlying t = some (.slice e) := by
      unfold zlt at he
      split at he
      · cases he; assumption
      · cases he
    obtain ⟨hpos, hop⟩ := hop
    unfold A.mks at hop
    split at hop
    · rename_i z kl n kc m hz hl hc
      obtain ⟨b1, b2, b3, b4, hn⟩ := hop
      have el : a.eval l = .int kl n := by have := zcu hs l; rw [hl] at this; exact this
      have ec : a.eval c = .int kc m := by have := zcu hs c; rw [hc] at this; exact this
      obtain ⟨it, zv, hit, hzv, hv, hone, hlen, hsz, _, _⟩ := zf0 (ρ := ρ) hz
      have hce := zd9 hit
      rw [repL_eq] at hn
      have hrow := zpy (n := m.toNat) hsz (by omega)
      have hzl : zv.cells.toList.length = z.length := hv.length.symm
      have hb : P.bytesOf e = it.bytes := by simp [Program.bytesOf, hit]
      obtain ⟨id, ρ', m1, m2, m3, m4, m5, m6⟩ := zkk hR hle hn ((List.replicate m.toNat zv.cells.toList).flatten).toArray e (0, 0) rfl
        (by simp only [length_flatten, map_replicate, sum_replicate_nat, size_toArray, hzl]
            exact Nat.le_refl _)
        (fun j x hx => by
          have := zmd (zd6.rep hv m.toNat) (fun u hu => by
            simp only [mem_flatten, mem_replicate] at hu
            obtain ⟨l, ⟨_, rfl⟩, hu⟩ := hu
            exact hone u hu) [] j x hx
          simpa using this) w.drawn
      have wl : IntKind.i64.wrap n = n := by rw [IntKind.wrap_i64]; omega
      have wc : IntKind.i64.wrap m = m := by rw [IntKind.wrap_i64]; omega
      refine zem (v := .slice (some ⟨w.heap.size, 0, none⟩) n.toNat m.toNat) (w' := w.alloc (.cells ((List.replicate m.toNat zv.cells.toList).flatten).toArray e)) ?_
        ⟨⟨.sl id 0 0 n.toNat z.length m.toNat, ρ', _, _, m2, ⟨_, m3, Nat.le_refl _, .inl ⟨_, rfl, by omega, ?_, by simp only [maxLen]; omega, Nat.le_refl _, fun h => .inr (by omega)⟩⟩, m1, m4, m5, m6⟩⟩
      · have hm : madeCells zv.cells (m.toNat * it.size) = ((List.replicate m.toNat zv.cells.toList).flatten).toArray := hrow
        have hr := run_make (P := P) w t e it zv ht hit hzv kl kc n m b1 b2 (by rw [<- hb, Int.mul_comm]; exact b3) b4
        rw [hm] at hr
        simp [execOp, ho, el, ec, hr]
      · simp only [length_flatten, map_replicate, sum_replicate_nat, size_toArray, hzl]
        simp
    · exact hop.elim
  · exact hop.elim
end
end Go.Ab
namespace Go.Ab
open List
open Go.RowKit (Below)
section
variable{P:Program}{w0:World}{ρ:zd1}{h H:zb}{w:World}{s:zbr}{a:Act}{K:zQ}{o:Oper}{Q:Exit->Act->World->Prop}
theorem app_room(hR:R w0 ρ H w){id:Nat}{b:Blk}(hid:H id=some b)(hown:b.own=true){g hi:Nat}(hg:(g,hi)∈b.zij){L:Loc}(hL:ρ id g=some L){e:Nat}(he:e <= hi)(hlo:L.lo <= e)
  {xs:List za} {vs:List Value} (hx:zd6 ρ xs vs) (h1:∀u∈vs,u.oneCell'=true) (hroom:L.base+(e-L.lo)+xs.length <= L.size):
  (∀j,j<vs.length->(w.cell? ⟨L.blk,L.base+(e-L.lo)+j,none⟩).isSome=true) /\ (∀j,j<vs.length->w.frozen? ⟨L.blk,L.base+(e-L.lo)+j,none⟩=false) /\
  R w0 (ρ.put id b.next L) (upd H id (zhw b e xs)) (w.setCells L.blk (L.base+(e-L.lo)) vs):=by
 obtain⟨h0,L',arr,ty,fr,k1,k2,k3,k4,k5,k6⟩:=(hR.blk id b hid).gen g hi hg;rw[hL]at k1;cases k1;have hlen:=hx.length;have hfr:=(k5 hown).2;obtain⟨arr',ht,hs,m1,m2,m3⟩:=zi4 L.blk vs (L.base+(e-L.lo)) w arr k2 (by omega);refine⟨λj hj=>?_,λj hj=>?_,?_⟩
 ·simp only[World.cell?,k2]
  simp only[Option.isSome_none,Bool.false_eq_true,if_false];rw[Array.getElem?_eq_getElem (by omega)];rfl
 ·simp only[World.frozen?,k2]
  unfold frOk at hfr;simp only[Bool.and_eq_false_iff,decide_eq_false_iff_not];omega
 ·refine hR.app hid hown hg hL he hlo xs L (ht.below hR.below (k5 hown).1) (.inl ⟨rfl,rfl,rfl,rfl⟩) (k5 hown).1 (λk hk _=>ht.other k hk) (λarr2 ty2 fr2 hh=>?_) hfr ht.at_ (by omega) (by omega) λj hj1 hj2 x hxx=>?_
  ·rw[k2]at hh
   cases hh;exact⟨arr',ht.at_,hs,λx hx=>m1 x hx⟩
  ·have htl:(b.cells.take e).length=e:=by rw[length_take];omega
   by_cases hje:j<e
   ·rw[getElem?_append_left (by omega),getElem?_take_of_lt hje]at hxx
    obtain⟨u,q1,q2,q3⟩:=k6 j hj1 (by omega) x hxx;exact⟨u,by rw[m1 _ (by omega)];exact q1,q2,q3⟩
   ·rw[getElem?_append_right (by omega),htl]at hxx
    obtain⟨u,q1,q2⟩:=hx.get hxx;have:=m2 (j-e) (by omega);rw[show L.base+(e-L.lo)+(j-e)=L.base+(j-L.lo) by omega,q1]at this;exact⟨u,this,q2,h1 u (mem_of_getElem? q1)⟩
theorem app_grow(hR:R w0 ρ H w){id:Nat}{b:Blk}(hid:H id=some b)(hown:b.own=true){g hi:Nat}(hg:(g,hi)∈b.zij){L:Loc}(hL:ρ id g=some L){off n:Nat}(he:off+n <= hi)(hlo:L.lo <= off)
  {os:List Value} (hos:zd6 ρ ((b.cells.drop off).take n) os) (ho1:∀u∈os,u.oneCell'=true) {xs:List za} {vs:List Value} (hx:zd6 ρ xs vs) (h1:∀u∈vs,u.oneCell'=true) (rest:Array Value) (ty:TypeId):
  R w0 (ρ.put id b.next ⟨w.heap.size,0,off,(os.toArray++vs.toArray++rest).size⟩) (upd H id (zhw b (off+n) xs)) (w.drew.alloc (.cells (os.toArray++vs.toArray++rest) ty)):=by
 obtain⟨h0,L',arr,ty',fr,k1,k2,k3,k4,k5,k6⟩:=(hR.blk id b hid).gen g hi hg;rw[hL]at k1;cases k1;have hlen:=hx.length;have hol:=hos.length;rw[length_take,length_drop]at hol;have hb0:=hR.below.size;have hold:∀k,k<w.heap.size->(w.heap.push (.cells (os.toArray++vs.toArray++rest) ty))[k]?=w.heap[k]? :=λk hk=>by
  rw[Array.getElem?_push,if_neg (by omega)]
 refine hR.app hid hown hg hL he (by omega) xs ⟨w.heap.size,0,off,(os.toArray++vs.toArray++rest).size⟩ ?_ (.inr ⟨Nat.le_refl _,hlo,by simp⟩) hb0 (λk _ hk=>hold k hk) (λarr2 ty2 fr2 hh=>?_) (fr':=(0,0)) rfl (arr':=os.toArray++vs.toArray++rest) (ty:=ty) ?_ rfl ?_ λj hj1 hj2 x hxx=>?_
 ·exact hR.below.trans ⟨rfl,rfl,rfl,by simp,λk hk=>hold k (by omega)⟩
 ·exact⟨arr2,by rw[show (w.drew.alloc _).heap=w.heap.push _ from rfl,hold _ (Array.getElem?_eq_some_iff.1 hh).1];exact hh,rfl,λ_ _=>rfl⟩
 ·show (w.heap.push _)[w.heap.size]?=_
  simp
 ·simp only[Array.size_append,size_toArray];omega
 ·have htl:(b.cells.take (off+n)).length=off+n:=by rw[length_take];omega
  simp only at hj1 ⊢;rw[Nat.zero_add];have hA:(os.toArray++vs.toArray++rest)=(os++vs++rest.toList).toArray:=by apply Array.ext';simp
  rw[hA,getElem?_toArray];by_cases hje:j<off+n
  ·rw[getElem?_append_left (by omega),getElem?_take_of_lt hje]at hxx
   have:((b.cells.drop off).take n)[j-off]?=some x:=by rw[getElem?_take_of_lt (by omega),getElem?_drop,show off+(j-off)=j by omega];exact hxx
   obtain⟨u,q1,q2⟩:=hos.get this;exact⟨u,by rw[append_assoc,getElem?_append_left (by omega)];exact q1,q2,ho1 u (mem_of_getElem? q1)⟩
  ·rw[getElem?_append_right (by omega),htl]at hxx
   obtain⟨u,q1,q2⟩:=hx.get hxx;refine⟨u,?_,q2,h1 u (mem_of_getElem? q1)⟩;rw[append_assoc,getElem?_append_right (by omega),getElem?_append_left (by omega),show j-off-os.length=j-(off+n) by omega];exact q1
theorem zli{y:za}{v:Value}{n:Nat}(hy:zfm ρ y v)(hns:∀l,y≠ .str l)(h:A.zgt y=some n):∃ad c,v= .slice ad n c:=by
 unfold A.zgt at h;split at h<;>(try (cases h;done))
 ·cases h;exact⟨_,_,hy⟩
 ·cases h;obtain⟨a,e⟩:=hy;exact⟨_,_,e⟩
 ·cases h;obtain⟨a,c,e⟩:=zno hy;exact⟨_,_,e⟩
 ·exact absurd rfl (hns _)
theorem zg4{t tx ty e:TypeId}{i:TypeInfo}{base:Option Addr}{n cap:Nat}{y:Value}(ht:P.underlying t=some (.slice e))(hi:P.info? e=some i)(hs:Src P i.size tx y 0 [] w)(hn:n <= cap):
  (Builtin.append_ #[t,tx] ty #[.slice base n cap,y]).run P w= .ok (.slice base n cap) w:=by
 have hc:=hs.cells;rcases hs.kind with⟨e',hk⟩|hk<;>cases base<;>simp[Builtin.append_,run_underlying ht,run_underlying hk,sizeOf,typeInfo,hi,hs.len,hn,hc,storeCells]
theorem op_appSrc{c:Call}(ho:o.op= .call c)(hc:c.callee= .builtin .append){t tx e:TypeId}{x y:Operand}(ha:c.argTypes= #[t,tx])(hargs:c.args= #[x,y])(ht:P.underlying t=some (.slice e))(hpos:0<P.cellsOf e)
  (hz:(zeroOf P e).isSome=true) (hR:R w0 ρ H w) (hle:h.le H) (hs:zgx ρ s a) {n:Nat} {cs:List za} {vs:List Value} (hsrc:∀i,P.info? e=some i->Src P i.size tx (a.eval y) n vs w) (hv:zd6 ρ cs vs)
  (hop:A.app h (P.cellsOf e) (P.bytesOf e) (evS s x) (some cs) K):zgr P w0 ρ h H K o a w Q:=by
 have hx:=zcu hs x;obtain⟨zc,hz⟩:=Option.isSome_iff_exists.1 hz;obtain⟨it,zv,hit,hzv,_,_,_,hsz,_,_⟩:=zf0 (ρ:=ρ) hz;have hce:=zd9 hit;have hbe:P.bytesOf e=it.bytes:=by simp[Program.bytesOf,hit]
 have hsrc:=hsrc it hit;have h1:=hsrc.one;have hvl:vs.length=n*P.cellsOf e:=by rw[hce];exact hsrc.newsLen
 simp only[A.app]at hop;have hcl:=hv.length;have hdiv:cs.length / P.cellsOf e=n:=by rw[hcl,hvl];exact Nat.mul_div_cancel _ hpos
 have hexec:∀r w',(Builtin.append_ #[t,tx] o.type #[a.eval x,a.eval y]).run P w= .ok r w'->(execOp a.eval o).run P w= .ok (.value r) w':=λr w' hr=>by
  simp[execOp,ho,resolve,hc,hargs,ha,invoke,builtin,hr]
 have hlz:cs.length=0↔n=0:=by
  rw[hcl,hvl];constructor
  ·intro h0
   rcases Nat.mul_eq_zero.1 h0 with h0|h0
   ·exact h0
   ·omega
  ·intro h0;rw[h0,Nat.zero_mul]
 have hzero:n=0->cs=[] /\ vs=[]:=λh0=>by
  subst h0;have:vs=[]:=eq_nil_of_length_eq_zero (by omega);exact⟨eq_nil_of_length_eq_zero (by omega),this⟩
 have fresh:∀(base:Option Addr),a.eval x= .slice base 0 0->n≠0->n*P.bytesOf e <= 140737488355328->n <= maxLen->A.new h cs (λid h=>K (.sl id 0 0 n (P.cellsOf e) n) h)->zgr P w0 ρ h H K o a w Q:=by
  intro base ex h0 hb hmax hnew;have hold:(Builtin.firstCells it.size 0 (.slice base 0 0)).run P w.drew= .ok ([]:List Value).toArray w.drew:=by
   cases base with
   | none=>simp[Builtin.firstCells]
   | some ax=>simp[Builtin.firstCells,loadCells,loadCellsFrom]
  have hr':=run_append_grow_src (P:=P) w t tx o.type e it zv ht hit hzv base 0 0 [] hold (a.eval y) n vs hsrc (by omega) (by simp only[maxLen]at hmax;omega) (growslice_fits (by omega) (by rw[<-hbe];simpa using hb));simp only[Nat.zero_add,nil_append]at hr';rw[<-ex]at hr';have hg:=grownCap_ge w n 0 e;have hA:(vs.toArray++Builtin.zeroCells zv.cells (grownCap w n 0 e-n))=(vs++(Builtin.zeroCells zv.cells (grownCap w n 0 e-n)).toList).toArray:=by apply Array.ext';simp
  have hAs:(vs.toArray++Builtin.zeroCells zv.cells (grownCap w n 0 e-n)).size=grownCap w n 0 e*P.cellsOf e:=by
   simp only[Array.size_append,size_toArray,size_zeroCells,hsz,hvl,<-hce,<-Nat.add_mul];congr 1;omega
  obtain⟨id,ρ',m1,m2,m3,m4,m5,m6⟩:=zkk hR hle hnew (vs.toArray++Builtin.zeroCells zv.cells (grownCap w n 0 e-n)) e (0,0) rfl (by
    simp only[Array.size_append,size_toArray];omega) (by rw[hA];exact zmd hv h1 _) (w.drawn+1)
  exact zem (hexec _ _ hr') ⟨⟨.sl id 0 0 n (P.cellsOf e) n,ρ',_,_,m2,⟨_,m3,Nat.le_refl _,.inl ⟨_,rfl,hg,by simp only[hAs];omega,grownCap_le_maxLen w n 0 e hmax,hg,λh=> .inr h⟩⟩,m1,m4,m5,m6⟩⟩
 split at hop
 ·
  rename_i hxe;rw[hxe]at hx;have ex:a.eval x= .slice none 0 0:=hx;split at hop
  ·rename_i h0
   obtain⟨_,hv0⟩:=hzero (hlz.1 h0);have hn0:=hlz.1 h0;rw[hn0,hv0]at hsrc;refine zem (hexec (.slice none 0 0) w ?_) (zoz hR hle (x:= .zed) rfl hop);rw[ex];exact zg4 ht hit hsrc (Nat.le_refl _)
  ·rename_i h0
   rw[hdiv]at hop;obtain⟨hb,hmax,hnew⟩:=hop;have hn0:n≠0:=λhh=>h0 (hlz.2 hh);exact fresh none ex hn0 hb hmax hnew
 ·
  rename_i hxe;rw[hxe]at hx;obtain⟨ax,ex⟩:=hx;split at hop
  ·rename_i h0
   obtain⟨_,hv0⟩:=hzero (hlz.1 h0);have hn0:=hlz.1 h0;rw[hn0,hv0]at hsrc;refine zem (hexec (.slice (some ax) 0 0) w ?_) (zoz hR hle (x:= .sz) ⟨ax,rfl⟩ hop);rw[ex];exact zg4 ht hit hsrc (Nat.le_refl _)
  ·rename_i h0
   rw[hdiv]at hop;obtain⟨hb,hmax,hnew⟩:=hop;have hn0:n≠0:=λhh=>h0 (hlz.2 hh);exact fresh (some ax) ex hn0 hb hmax hnew
 ·
  rename_i id g off len es cp' hxe;split at hop
  case h_2=>exact hop.elim
  rename_i b hb;split at hop
  case h_2=>exact hop.elim
  rename_i hi hg;rw[hdiv]at hop;rw[hxe]at hx;cases hown0:b.own
  ·rw[hown0]at hop
   obtain⟨⟨rfl,hcp,hlen0,hn0,hend,hhi,hbytes,hmax⟩,hnew⟩:=hop;obtain⟨L,hL,hlo,⟨cap,ex,c1,c2,c3,c4,c5⟩|⟨h0,_⟩⟩:=hx
   ·have hcap:cap=len:=by rcases c5 hcp with h|h<;>omega
    subst hcap;obtain⟨os,q1,q2,q3,q4⟩:=zi0 hR (hle id b hb) (zej hg) hL (n:=cap*P.cellsOf e) hlo hend;have hrun:=run_append_grow_src (P:=P) w t tx o.type e it zv ht hit hzv (some ⟨L.blk,L.base+(off-L.lo),none⟩) cap cap os (run_firstCells_some w.drew it.size cap ⟨L.blk,L.base+(off-L.lo),none⟩ cap cap os (by rw[q1,hce]) (λj u hj=>by rw[zhx];exact q4 j u hj)) (a.eval y) n vs hsrc (by omega) (by simp only[maxLen]at hmax;omega) (growslice_fits (by omega) (by rw[<-hbe];exact hbytes));rw[<-ex]at hrun;have hge:=grownCap_ge w (cap+n) cap e;have eA:(os++vs).toArray=os.toArray++vs.toArray:=by simp
    have hA:((os++vs).toArray++Builtin.zeroCells zv.cells (grownCap w (cap+n) cap e-(cap+n)))=((os++vs)++(Builtin.zeroCells zv.cells (grownCap w (cap+n) cap e-(cap+n))).toList).toArray:=by apply Array.ext';simp
    have hAs:((os++vs).toArray++Builtin.zeroCells zv.cells (grownCap w (cap+n) cap e-(cap+n))).size=grownCap w (cap+n) cap e*P.cellsOf e:=by
     simp only[Array.size_append,size_toArray,length_append,size_zeroCells,hsz,hvl,q1,<-hce,<-Nat.add_mul];congr 1;omega
    obtain⟨id',ρ',m1,m2,m3,m4,m5,m6⟩:=zkk hR hle hnew ((os++vs).toArray++Builtin.zeroCells zv.cells (grownCap w (cap+n) cap e-(cap+n))) e (0,0) rfl (by
      simp only[Array.size_append,size_toArray,length_append,length_take,length_drop];omega) (by rw[hA];exact zmd (q2.append hv) (λu hu=>by rcases mem_append.1 hu with hu|hu;exact q3 u hu;exact h1 u hu) _) (w.drawn+1)
    exact zem (hexec _ _ hrun) ⟨⟨.sl id' 0 0 (cap+n) (P.cellsOf e) (cap+n),ρ',_,_,m2,⟨_,m3,Nat.le_refl _,.inl ⟨_,rfl,hge,by simp only[hAs];omega,grownCap_le_maxLen w (cap+n) cap e hmax,hge,λh=>by omega⟩⟩,m1,m4,m5,m6⟩⟩
   ·omega
  rw[hown0]at hop;obtain⟨rfl,_,hend,hbytes,hmax,hK⟩:=hop;have hown:=hown0;have hm:=zej hg;have hH:=hle id b hb;have hnx:ρ id b.next=none:=(hR.blk id b hH).nxt _ (Nat.le_refl _)
  have hfin:∀(r:Value)(w':World)(L':Loc),(Builtin.append_ #[t,tx] o.type #[a.eval x,a.eval y]).run P w= .ok r w'->R w0 (ρ.put id b.next L') (upd H id (zhw b (off+len*P.cellsOf e) cs)) w' ->
    zfm (ρ.put id b.next L') (.sl id b.next off (len+n) (P.cellsOf e) (len+n)) r->zgr P w0 ρ h H K o a w Q:=λr w' L' hr hRr hv'=>
   zem (hexec r w' hr) ⟨⟨_,_,_,_,zd1.zln L' hnx,hv',hK,zhi _ hle,Fr.upd hb,hRr⟩⟩
  have hgrow:∀(ax:Addr)(L:Loc)(cap:Nat),a.eval x= .slice (some ax) len cap->ρ id g=some L->L.lo <= off->cap<len+n->(∃os:List Value,os.length=len*P.cellsOf e /\ zd6 ρ ((b.cells.drop off).take (len*P.cellsOf e)) os /\ (∀u∈os,u.oneCell'=true) /\
    ∀j u,os[j]?=some u->w.cell? (ax.add j)=some u)->len <= cap->zgr P w0 ρ h H K o a w Q:=by
   rintro ax L cap ex hL hlo hgt ⟨os,ho1,ho2,ho3,ho4⟩ hlc;have hrun:=run_append_grow_src (P:=P) w t tx o.type e it zv ht hit hzv (some ax) len cap os (run_firstCells_some w.drew it.size len ax len cap os (by rw[ho1,hce]) (by simpa using ho4)) (a.eval y) n vs hsrc hgt (by simp only[maxLen]at hmax;omega) (growslice_fits hgt (by rw[<-hbe];exact hbytes));have eA:(os++vs).toArray=os.toArray++vs.toArray:=by simp
   rw[eA]at hrun;have hge:=grownCap_ge w (len+n) cap e;have hRr:=app_grow hR hH hown hm hL hend hlo ho2 ho3 hv h1 (Builtin.zeroCells zv.cells (grownCap w (len+n) cap e-(len+n))) e;refine hfin _ _ _ (by rw[ex];exact hrun) hRr ⟨_,zd1.ze7 ..,Nat.le_refl _,.inl ⟨grownCap w (len+n) cap e,by simp,hge,?_,grownCap_le_maxLen w (len+n) cap e hmax,hge,λh=> .inr h⟩⟩;simp only[Array.size_append,size_toArray,size_zeroCells,hsz,ho1,hvl,<-hce,<-Nat.add_mul,Nat.sub_self,Nat.zero_add];exact Nat.mul_le_mul_right _ (by omega)
  obtain⟨L,hL,hlo,⟨cap,ex,c1,c2,c3⟩|⟨rfl,_,ax,ex⟩⟩:=hx
  ·by_cases hroom:len+n <= cap
   ·have hmul:(len+n)*P.cellsOf e <= cap*P.cellsOf e:=Nat.mul_le_mul_right _ hroom
    rw[Nat.add_mul]at hmul;obtain⟨r1,r2,r3⟩:=app_room hR hH hown hm hL hend (by omega) hv h1 (by rw[hcl,hvl];omega);have hst:L.base+(off+len*P.cellsOf e-L.lo)=L.base+(off-L.lo)+len*P.cellsOf e:=by omega
    rw[hst]at r1 r2 r3;refine hfin (.slice (some ⟨L.blk,L.base+(off-L.lo),none⟩) (len+n) cap) _ L ?_ r3 ⟨L,zd1.ze7 ..,hlo,.inl ⟨cap,rfl,hroom,c2,c3.1,hroom,λh=> .inr h⟩⟩;rw[ex];have:=run_append_room_src (P:=P) w t tx o.type e it ht hit L.blk (L.base+(off-L.lo)) len cap (a.eval y) n vs hsrc hroom (by rw[<-hce];exact r1) (by rw[<-hce];exact r2);rw[<-hce]at this;exact this
   ·refine hgrow _ L cap ex hL hlo (by omega) ?_ c1
    obtain⟨os,q1,q2,q3,q4⟩:=zi0 hR hH hm hL (n:=len*P.cellsOf e) hlo hend;exact⟨os,q1,q2,q3,λj u hj=>by rw[zhx];exact q4 j u hj⟩
  ·by_cases h0:n=0
   ·obtain⟨rfl,rfl⟩:=hzero h0
    obtain⟨_,_,r3⟩:=app_room hR hH hown hm hL hend (by omega) (xs:=[]) (vs:=[]) rfl (by simp) (by
     obtain⟨_,L',_,_,_,k1,_,_,k4,_⟩:=(hR.blk id b hH).gen g hi hm;rw[hL]at k1;cases k1;simp only[length_nil];omega)
    refine hfin (.slice (some ax) 0 0) w L ?_ r3 ⟨L,zd1.ze7 ..,hlo,.inr ⟨by omega,by omega,ax,rfl⟩⟩;subst h0;rw[ex];exact zg4 ht hit hsrc (Nat.le_refl _)
   ·exact hgrow ax L 0 ex hL hlo (by omega) ⟨[],by simp,by simp[zd6],by simp,by simp⟩ (Nat.le_refl _)
 ·exact hop.elim
theorem op_append{c:Call}(ho:o.op= .call c)(hc:c.callee= .builtin .append){t e:TypeId}{x y:Operand}(ha:c.argTypes= #[t,t])(hargs:c.args= #[x,y])(ht:P.underlying t=some (.slice e))(hpos:0<P.cellsOf e)
  (hz:(zeroOf P e).isSome=true) (hR:R w0 ρ H w) (hle:h.le H) (hs:zgx ρ s a) (hop:A.zim h (P.cellsOf e) (P.bytesOf e) (evS s x) (evS s y) K):zgr P w0 ρ h H K o a w Q:=by
 have hy:=zcu hs y;unfold A.zim at hop;split at hop
 case h_2=>exact hop.elim
 rename_i n hn;cases hcs:A.rdv h (evS s y) n (P.cellsOf e) with
 | none=>rw[hcs]at hop;exact hop.elim
 | some cs=>
  rw[hcs]at hop;have hns:∀l,evS s y≠ .str l:=λl hl=>by rw[hl]at hcs;simp[A.rdv]at hcs
  obtain⟨ad,cap',ey⟩:=zli hy hns hn;obtain⟨vs,hvl,hv,h1,_,hor⟩:=zqg (P:=P) hR hle hcs hy;refine op_appSrc ho hc ha hargs ht hpos hz hR hle hs (n:=n) (cs:=cs) (vs:=vs) (λi hi=>?_) hv hop;have hce:=zd9 hi;rw[hce]at hvl;rcases hor with h0|⟨ad',m,c',e',hr⟩
  ·subst h0
   have hv0:vs=[]:=eq_nil_of_length_eq_zero (by omega);subst hv0;rw[ey];cases ad with
   | none=>exact Src.ofNil w ht cap'
   | some a'=>exact Src.ofSlice w ht a' 0 cap' [] (by simp) (by simp) (by simp)
  ·rw[ey]at e' ⊢
   cases e';exact Src.ofSlice w ht ad' n cap' vs hvl hr h1
theorem op_appendStr{c:Call}(ho:o.op= .call c)(hc:c.callee= .builtin .append){t tx e:TypeId}{x y:Operand}(ha:c.argTypes= #[t,tx])(hargs:c.args= #[x,y])(ht:P.underlying t=some (.slice e))(htx:P.underlying tx=some .string)(h8:zpe P e=true)
  (hz:(zeroOf P e).isSome=true) (hR:R w0 ρ H w) (hle:h.le H) (hs:zgx ρ s a) (hop:A.app h 1 (P.bytesOf e) (evS s x) (A.strCells (evS s y)) K):zgr P w0 ρ h H K o a w Q:=by
 have hy:=zcu hs y;have hc1:P.cellsOf e=1:=by
  unfold zpe at h8;split at h8
  ·simpa using h8
  ·cases h8
 cases hv:evS s y with
 | str l=>
  rw[hv]at hop hy;obtain⟨b,eb,hb⟩:=hy;rw[<-hc1]at hop;refine op_appSrc ho hc ha hargs ht (by omega) hz hR hle hs (n:=b.size) (vs:=byteCells b) (λi hi=>?_) ?_ hop
  ·have hce:=zd9 hi
   rw[eb,<-hce,hc1];exact Src.ofString w htx b
  ·unfold byteCells
   rw[hb];clear hop hb eb hv
   induction l with
   | nil=>rfl
   | cons u r ih=>exact⟨_,_,rfl,rfl,ih⟩
 | _=>rw[hv]at hop;exact hop.elim
theorem zeroCells_rep{z:Value}{n size:Nat}(hz:z.cells.size=size)(h0:0<size):Builtin.zeroCells z.cells n=((List.replicate n z.cells.toList).flatten).toArray:=by
 rw[<-zpy hz h0];unfold Builtin.zeroCells;rw[hz]
theorem zpp{t tx ty e:TypeId}{k ki:IntKind}{i:TypeInfo}{z:Value}(ht:P.underlying t=some (.slice e))(hk:P.underlying tx=some (.int k))(hi:P.info? e=some i)(hz:i.zero=some z)(base:Option Addr){n:Nat}(hn0:0<n)(hs0:0<i.size)(h63:(n:Int) <= 9223372036854775807)(hb:n*i.bytes <= 140737488355328)
  (hfit:Builtin.nextslicecap n 0*i.bytes <= 281474976710656):
  (Builtin.append_ #[t,tx] ty #[.slice base 0 0,.int ki (n:Int)]).run P w= .ok (.slice (some ⟨w.heap.size,0,none⟩) n (grownCap w n 0 e)) (w.drew.alloc (.cells (Builtin.zeroCells z.cells n++Builtin.zeroCells z.cells (grownCap w n 0 e-n)) e)):=by
 have hw:IntKind.i64.wrap (n:Int)=n:=by rw[IntKind.wrap_i64];omega
 have h1:¬ ((n:Int)<0):=by omega
 have h2:¬ (281474976710656<(n:Int)*(i.bytes:Int)):=by
  rw[<-Int.natCast_mul];omega
 have h4:¬ (9223372036854775807<(n:Int)):=by omega
 have h5:¬ (281474976710656<Builtin.nextslicecap n 0*i.bytes):=by omega
 have h7:n≠0:=by omega
 have h9:n*i.size≠0:=Nat.mul_ne_zero h7 (by omega);cases base<;>simp[Builtin.append_,run_underlying ht,run_underlying hk,sizeOf,typeInfo,zeroValue,hi,hz,asInt,asIntOf,hw,h1,h2,h7,h4,h5,h9,Question.forced,Builtin.firstCells,loadCells,loadCellsFrom,newRow,grownCap]
theorem op_appendZ{c:Call}(ho:o.op= .call c)(hc:c.callee= .builtin .append){t tx e:TypeId}{k:IntKind}{x y:Operand}(ha:c.argTypes= #[t,tx])(hargs:c.args= #[x,y])(ht:P.underlying t=some (.slice e))(htx:P.underlying tx=some (.int k))(hpos:0<P.cellsOf e)
  (hR:R w0 ρ H w) (hle:h.le H) (hs:zgx ρ s a) (hop:A.appZ h (P.cellsOf e) (P.bytesOf e) (zeroOf P e) (evS s x) (evS s y) K):zgr P w0 ρ h H K o a w Q:=by
 have hx:=zcu hs x;have hy:=zcu hs y;unfold A.appZ at hop;split at hop
 case h_2=>exact hop.elim
 rename_i zc ki n hz hye;obtain⟨⟨hr,hn0,hb,hm⟩,hnew⟩:=hop;obtain⟨it,zv,hit,hzv,hv,hone,hlen,hsz,_,_⟩:=zf0 (ρ:=ρ) hz;have hce:=zd9 hit;have hbe:P.bytesOf e=it.bytes:=by simp[Program.bytesOf,hit]
 rw[hye]at hy;have hy:a.eval y= .int ki n:=hy;obtain⟨m,rfl⟩:∃m:Nat,n=(m:Int):=⟨n.toNat,by omega⟩;simp only[Int.toNat_natCast]at hnew;have hb':m*it.bytes <= 140737488355328:=by rw[<-hbe];have:=hb;rw[<-Int.natCast_mul]at this;omega
 have ex:∃base,a.eval x= .slice base 0 0:=by
  unfold A.noRoom at hr;split at hr
  ·rename_i he;rw[he]at hx;exact⟨none,hx⟩
  ·rename_i he;rw[he]at hx;obtain⟨ad,e1⟩:=hx;exact⟨some ad,e1⟩
  ·cases hr
 obtain⟨base,ex⟩:=ex;have hrun:=zpp (P:=P) (w:=w) (ty:=o.type) (ki:=ki) ht htx hit hzv base (n:=m) (by omega) (by omega) (by simp only[maxLen]at hm;omega) hb' (growslice_fits (by omega) hb');rw[<-ex,<-hy]at hrun;have hexec:(execOp a.eval o).run P w= .ok (.value (.slice (some ⟨w.heap.size,0,none⟩) m (grownCap w m 0 e))) (w.drew.alloc (.cells (Builtin.zeroCells zv.cells m++Builtin.zeroCells zv.cells (grownCap w m 0 e-m)) e)):=by
  simp[execOp,ho,resolve,hc,hargs,ha,invoke,builtin,hrun]
 have hge:=grownCap_ge w m 0 e;rw[repL_eq]at hnew;have hzl:zv.cells.toList.length=zc.length:=hv.length.symm;have eA:Builtin.zeroCells zv.cells m++Builtin.zeroCells zv.cells (grownCap w m 0 e-m)=((List.replicate m zv.cells.toList).flatten++(Builtin.zeroCells zv.cells (grownCap w m 0 e-m)).toList).toArray:=by
  rw[zeroCells_rep (n:=m) hsz (by omega)];apply Array.ext';simp
 have hAs:(Builtin.zeroCells zv.cells m++Builtin.zeroCells zv.cells (grownCap w m 0 e-m)).size=grownCap w m 0 e*P.cellsOf e:=by
  simp only[Array.size_append,size_zeroCells,hsz,<-hce,<-Nat.add_mul];congr 1;omega
 have hml:m*P.cellsOf e <= grownCap w m 0 e*P.cellsOf e:=Nat.mul_le_mul_right _ hge;obtain⟨id,ρ',m1,m2,m3,m4,m5,m6⟩:=zkk hR hle hnew (Builtin.zeroCells zv.cells m++Builtin.zeroCells zv.cells (grownCap w m 0 e-m)) e (0,0) rfl (by
   simp only[length_flatten,map_replicate,sum_replicate_nat,hAs,<-hzl,Array.length_toList,hsz,<-hce];exact hml) (λj x hx=>by
   rw[eA];exact zmd (zd6.rep hv m) (λu hu=>by
    simp only[mem_flatten,mem_replicate]at hu;obtain⟨l,⟨_,rfl⟩,hu⟩:=hu;exact hone u hu) _ j x hx) (w.drawn+1)
 exact zem hexec ⟨⟨.sl id 0 0 m (P.cellsOf e) m,ρ',_,_,m2,⟨_,m3,Nat.le_refl _,.inl ⟨_,rfl,hge,by simp only[hAs];omega,grownCap_le_maxLen w m 0 e (by omega),hge,λh=> .inr h⟩⟩,m1,m4,m5,m6⟩⟩
end
end Go.Ab
namespace Go.Ab
open List
open Go.RowKit (Below)
section
variable{P:Program}{w0:World}{ρ:zd1}{h H:zb}{w:World}{s:zbr}{a:Act}{K:zQ}{o:Oper}{Q:Exit->Act->World->Prop}
theorem zfy{c:Call}{b:Builtin}{l:List Operand}(ho:o.op= .call c)(hc:c.callee= .builtin b)(hl:c.args.toList=l):
  ∃consts,(execOp a.eval o).run P w=(builtin b c.argTypes o.type consts (l.map a.eval).toArray).run P w:=by
 have:c.args.map a.eval=(l.map a.eval).toArray:=by apply Array.ext';simp[<-hl]
 refine⟨c.args.map λx=>match x with | .const _=>true|_=>false,?_⟩;simp only[execOp,ho,resolve,hc,Sem.run_bind,Sem.run_pure,Result.andThen_ok,invoke,this];rfl
theorem zi3{c:Call}{t:TypeId}{r:List TypeId}(ha:c.argTypes.toList=t::r):c.argTypes[0]?=some t:=by
 have:c.argTypes.toList[0]?=some t:=by rw[ha];rfl
 simpa using this
theorem op_len{c:Call}{t:TypeId}{r:List TypeId}{x:Operand}(ho:o.op= .call c)(hc:c.callee= .builtin .len)(ha:c.argTypes.toList=t::r)(hargs:c.args.toList=[x])
  (hR:R w0 ρ H w) (hle:h.le H) (hs:zgx ρ s a)
  (hop:match P.underlying t with
   | some .string=>A.pv (V.zny (evS s x)) λv=>K v h
   | some (.slice _)=>A.pv (V.zde (evS s x)) λv=>K v h
   | some (.array n _)=>K (.int .i64 n) h
   | _=>False):zgr P w0 ρ h H K o a w Q:=by
 have hx:=zcu hs x;have hat:=zi3 ha;have main:∀n,(Builtin.len_ c.argTypes o.type #[a.eval x]).run P w= .ok (.int .i64 n) w->(execOp a.eval o).run P w= .ok (.value (.int .i64 n)) w:=λn hh=>by
  obtain⟨_,hex⟩:=zfy (P:=P) (w:=w) (a:=a) ho hc hargs;rw[hex];simp[builtin,hh]
 split at hop
 ·rename_i ht
  obtain⟨r,h1,h2⟩:=ze hop;unfold V.zny at h1;split at h1<;>(try (cases h1;done));rename_i l he;cases h1;rw[he]at hx;obtain⟨bs,ev,hl⟩:=hx;have hsz:l.length=bs.size:=by rw[<-hl];rfl
  refine zdt hR hle (x:= .int .i64 l.length) (v:= .int .i64 l.length) (main _ ?_) rfl h2;rw[ev,hsz];simp[Builtin.len_,hat,run_underlying ht,goInt]
 ·rename_i e ht
  obtain⟨r,h1,h2⟩:=ze hop;have fin:∀(n:Nat),r= .int .i64 n->(∃ad cp,a.eval x= .slice ad n cp)->zgr P w0 ρ h H K o a w Q:=by
   rintro n rfl ⟨ad,cp,ev⟩;refine zdt hR hle (x:= .int .i64 n) (v:= .int .i64 n) (main _ ?_) rfl h2;rw[ev];simp[Builtin.len_,hat,run_underlying ht,goInt]
  unfold V.zde at h1;split at h1<;>(try (cases h1;done))
  ·rename_i he;cases h1;rw[he]at hx;exact fin 0 rfl ⟨_,_,hx⟩
  ·rename_i he;cases h1;rw[he]at hx;obtain⟨_,hx⟩:=hx;exact fin 0 rfl ⟨_,_,hx⟩
  ·rename_i he;cases h1;rw[he]at hx;obtain⟨_,_,hx⟩:=zno hx;exact fin _ rfl ⟨_,_,hx⟩
 ·rename_i n e ht
  exact zdt hR hle (x:= .int .i64 n) (v:= .int .i64 n) (main _ (by simp[Builtin.len_,hat,run_underlying ht,goInt])) rfl hop
 ·exact hop.elim
theorem op_cap{c:Call}{t e:TypeId}{r:List TypeId}{x:Operand}(ho:o.op= .call c)(hc:c.callee= .builtin .cap)(ha:c.argTypes.toList=t::r)(hargs:c.args.toList=[x])(ht:P.underlying t=some (.slice e))
  (hR:R w0 ρ H w) (hle:h.le H) (hs:zgx ρ s a) (hop:A.pv (V.capSl (evS s x)) λv=>K v h):zgr P w0 ρ h H K o a w Q:=by
 have hx:=zcu hs x;have hat:=zi3 ha;obtain⟨r,h1,h2⟩:=ze hop;have main:(Builtin.cap_ c.argTypes o.type #[a.eval x]).run P w= .ok (.int .i64 0) w->(execOp a.eval o).run P w= .ok (.value (.int .i64 0)) w:=λhh=>by
  obtain⟨_,hex⟩:=zfy (P:=P) (w:=w) (a:=a) ho hc hargs;rw[hex];simp[builtin,hh]
 have fin:r= .int .i64 0->(∃ad,a.eval x= .slice ad 0 0)->zgr P w0 ρ h H K o a w Q:=by
  rintro rfl ⟨ad,ev⟩;refine zdt hR hle (x:= .int .i64 0) (v:= .int .i64 0) (main ?_) rfl h2;rw[ev];simp[Builtin.cap_,hat,run_underlying ht,goInt]
 unfold V.capSl at h1;split at h1<;>(try (cases h1;done))
 ·rename_i he;cases h1;rw[he]at hx;exact fin rfl ⟨_,hx⟩
 ·rename_i he;cases h1;rw[he]at hx;obtain⟨_,hx⟩:=hx;exact fin rfl ⟨_,hx⟩
theorem op_minmax{c:Call}{x y:Operand}{b:Builtin}{f:za->za->Option za}(hb:(b= .min /\ f=V.min2) \/ (b= .max /\ f=V.max2))(ho:o.op= .call c)(hc:c.callee= .builtin b)(hargs:c.args.toList=[x,y])
  (hR:R w0 ρ H w) (hle:h.le H) (hs:zgx ρ s a) (hop:A.pv (f (evS s x) (evS s y)) λv=>K v h):zgr P w0 ρ h H K o a w Q:=by
 have hx:=zcu hs x;have hy:=zcu hs y;obtain⟨r,h1,h2⟩:=ze hop;rcases hb with⟨rfl,rfl⟩|⟨rfl,rfl⟩
 ·unfold V.min2 at h1
  split at h1<;>(try (cases h1;done));rename_i k m k' n e1 e2;cases h1;rw[e1]at hx;rw[e2]at hy;have ex:a.eval x= .int k m:=hx;have ey:a.eval y= .int k' n:=hy;refine zdt hR hle (x:= .int k (if n<m then n else m)) (v:= .int k (if n<m then n else m)) ?_ rfl h2;obtain⟨_,hex⟩:=zfy (P:=P) (w:=w) (a:=a) ho hc hargs;rw[hex];simp[builtin,Builtin.min_,Builtin.min2,ex,ey]
 ·unfold V.max2 at h1
  split at h1<;>(try (cases h1;done));rename_i k m k' n e1 e2;cases h1;rw[e1]at hx;rw[e2]at hy;have ex:a.eval x= .int k m:=hx;have ey:a.eval y= .int k' n:=hy;refine zdt hR hle (x:= .int k (if n>m then n else m)) (v:= .int k (if n>m then n else m)) ?_ rfl h2;obtain⟨_,hex⟩:=zfy (P:=P) (w:=w) (a:=a) ho hc hargs;rw[hex];simp[builtin,Builtin.max_,Builtin.max2,ex,ey]
theorem op_copy{c:Call}{t u e:TypeId}{x y:Operand}(ho:o.op= .call c)(hc:c.callee= .builtin .copy)(ha:c.argTypes.toList=[t,u])(hargs:c.args.toList=[x,y])(ht:P.underlying t=some (.slice e))(hpos:0<P.cellsOf e)
  (hR:R w0 ρ H w) (hle:h.le H) (hs:zgx ρ s a) (hop:A.cpy h (P.cellsOf e) (evS s x) (evS s y) K):zgr P w0 ρ h H K o a w Q:=by
 have hx:=zcu hs x;have hy:=zcu hs y;have hat:=zi3 ha;obtain⟨i,hi⟩:∃i,P.info? e=some i:=by
  cases hh:P.info? e with
  | none=>simp[Program.cellsOf,hh]at hpos
  | some i=>exact⟨i,rfl⟩
 have hce:=zd9 hi;have main:∀r w',(Builtin.copy_ c.argTypes o.type #[a.eval x,a.eval y]).run P w= .ok r w'->(execOp a.eval o).run P w= .ok (.value r) w':=λr w' hh=>by
  obtain⟨_,hex⟩:=zfy (P:=P) (w:=w) (a:=a) ho hc hargs;rw[hex];simp[builtin,hh]
 unfold A.cpy at hop;split at hop
 ·exact hop.elim
 ·rename_i m hm
  have hnone:∀(base:Option Addr)(cp n:Nat),(n=m \/ ∃l,evS s y= .str l)->a.eval x= .slice base 0 cp->∀K',K'=K->K' (.int .i64 0) h->zgr P w0 ρ h H K o a w Q:=by
   rintro base cp n _ ex _ rfl hK;have hlen:∃q,(Builtin.lenOf (a.eval y)).run P w= .ok q w /\ (Builtin.firstCells i.size 0 (a.eval y)).run P w= .ok #[] w:=by
    unfold A.zgt at hm;split at hm<;>(try (cases hm;done))
    ·rename_i he;rw[he]at hy;have ey:a.eval y= .slice none 0 0:=hy;exact⟨0,by simp[ey,Builtin.lenOf],by simp[ey,Builtin.firstCells]⟩
    ·rename_i he;rw[he]at hy;obtain⟨ad,ey⟩:=hy;exact⟨0,by simp[ey,Builtin.lenOf],by simp[ey,Builtin.firstCells,loadCells,loadCellsFrom]⟩
    ·rename_i he;rw[he]at hy;obtain⟨ad,_,ey⟩:=zno hy;exact⟨_,by simp[ey,Builtin.lenOf];rfl,by simp[ey,Builtin.firstCells,loadCells,loadCellsFrom]⟩
    ·rename_i he;rw[he]at hy;obtain⟨bs,ey,_⟩:=hy;refine⟨_,by simp[ey,Builtin.lenOf];rfl,?_⟩
     simp only[ey,Builtin.firstCells,Sem.run_pure];congr 1;apply Array.ext';simp
   obtain⟨q,q1,q2⟩:=hlen;refine zdt hR hle (x:= .int .i64 0) (v:= .int .i64 0) (main _ _ ?_) rfl hK;have h01:(ht':(c.argTypes[0]?=some t))->True:=λ_=>trivial;cases base with
   | none=>simp[Builtin.copy_,hat,run_underlying ht,ex,q1,q2,sizeOf,typeInfo,hi,goInt]
   | some ad=>simp[Builtin.copy_,hat,run_underlying ht,ex,q1,q2,sizeOf,typeInfo,hi,goInt,storeCells]
  split at hop
  ·rename_i he;rw[he]at hx;exact hnone _ _ m (.inl rfl) hx K rfl hop
  ·rename_i he;rw[he]at hx;obtain⟨_,hx⟩:=hx;exact hnone _ _ m (.inl rfl) hx K rfl hop
  ·rename_i id g off len es cp' he
   rw[he]at hx;split at hop
   ·exact hop.elim
   ·rename_i cs hcs
    have hns:∀l,evS s y≠ .str l:=λl hl=>by rw[hl]at hcs;simp[A.rdv]at hcs
    obtain⟨ad,cp,ey⟩:=zli hy hns hm;obtain⟨vs,hvl,hv,h1,hf,_⟩:=zqg (P:=P) hR hle hcs hy;obtain⟨id',g',off',b,hi',cs',e1,e2,e3,e4,e5,e6,e7⟩:=zp0 hop;cases e1;have hcl:=hv.length;simp only[V.putN]at e6;split at e6<;>(try (cases e6;done));rename_i hlt;cases e6;have hsp:zjm b.cells cs off=b.cells.take off++cs++b.cells.drop (off+min m len*P.cellsOf e):=by unfold zjm;rw[hlt.1]
    rw[<-hsp]at e7;have hff:=hf w (λ_ _ _ hh=>hh);rw[hce]at hff;obtain⟨L,hL,hlo,⟨cap,ex,_⟩|⟨rfl,_,ax,ex⟩⟩:=hx
    ·obtain⟨k1,k2⟩:=zkn (P:=P) hR (hle id b e2) e4 (zej e3) hL hlo (by omega) hv h1
     refine zem (v:= .int .i64 (min m len:Nat)) (main _ _ ?_) ⟨⟨.int .i64 (min m len:Nat),ρ,_,_,zd1.le_refl ρ,rfl,e7,zhi _ hle,Fr.upd e2,k2⟩⟩;rw[ey]at hff;simp only[Builtin.copy_,hat];simp[run_underlying ht,ex,ey,Builtin.lenOf,sizeOf,typeInfo,hi,goInt,hff,k1]
    ·have h0:min m 0=0:=by omega
     have hvs:vs=[]:=eq_nil_of_length_eq_zero (by rw[hvl,h0,Nat.zero_mul]);subst hvs;have hcs0:cs=[]:=eq_nil_of_length_eq_zero (by simpa using hcl);subst hcs0;obtain⟨k1,k2⟩:=zkn (P:=P) hR (hle id b e2) e4 (zej e3) hL hlo (xs:=[]) (vs:=[]) (by simp only[length_nil];omega) rfl (by simp);refine zem (v:= .int .i64 (min m 0:Nat)) (main _ _ ?_) ⟨⟨.int .i64 (min m 0:Nat),ρ,_,_,zd1.le_refl ρ,rfl,e7,zhi _ hle,Fr.upd e2,k2⟩⟩;rw[ey]at hff;simp only[Builtin.copy_,hat];simp only[h0]at hff;simp[run_underlying ht,ex,ey,Builtin.lenOf,sizeOf,typeInfo,hi,goInt,hff,storeCells];rfl
  ·exact hop.elim
theorem zsi{r:Option Nat}{n:Nat}{f:FuncId}{args:Array Value}{w:World}{R:Ending->World->Prop}(h:Calls P f args w R):CallsIn (WF r) n P f args w R:=by
 have h':=(callsIn_wide (n:=n)).2 h;exact⟨trivial,λcs hr=>h'.2 cs (room_wide _)⟩
theorem ok_enter{f:FuncId}{va:List Value}{args:List za}(hr:(execOp a.eval o).run P w=(callFunc f va.toArray).run P w)(hv:zd6 ρ args va)(hR:R w0 ρ H w)(hle:h.le H)(hop:AC P f args h K):
  zgr P w0 ρ h H K o a w Q:=by
 rcases (hop w0 ρ H w va hle hR (.inl hv)).1 hv.noY with⟨h1,h2⟩|⟨v,w',h1,⟨v',h2,hA⟩,_⟩
 ·intro hd r n
  refine⟨λ_ _=>trivial,?_⟩;rw[Oper.semAt_eq _ _ _ hd,hr,h1];refine⟨λh=>(by cases h),zsi (h2.mono ?_)⟩;rintro e w' ⟨v,rfl,hA⟩;exact⟨v,hA,rfl⟩
 ·cases h2
  exact zem (hr.trans h1) hA
theorem op_call{c:Call}{f:FuncId}(ho:o.op= .call c)(hc:c.callee= .value (.func f))(hR:R w0 ρ H w)(hle:h.le H)(hs:zgx ρ s a)(hop:AC P f (c.args.toList.map (evS s)) h K):zgr P w0 ρ h H K o a w Q:=by
 refine ok_enter (va:=c.args.toList.map a.eval) ?_ (zmb hs _) hR hle hop;simp only[execOp,ho,resolve,hc,Act.eval,Deferred.ofValue,Sem.run_bind,Sem.run_pure,Result.andThen_ok,invoke];congr 2;apply Array.ext';simp
theorem op_callv{c:Call}{x:Operand}(ho:o.op= .call c)(hc:c.callee= .value x)(hR:R w0 ρ H w)(hle:h.le H)(hs:zgx ρ s a)(hop:A.zk0 h (AC P) (evS s x) (c.args.toList.map (evS s)) K):zgr P w0 ρ h H K o a w Q:=by
 have hx:=zcu hs x;unfold A.zk0 at hop;split at hop
 ·rename_i f first zjf he
  rw[he]at hx;obtain⟨l,l',ev,h1,h2⟩:=hx;refine ok_enter (va:=l++c.args.toList.map a.eval++l') ?_ ((h1.append (zmb hs _)).append h2) hR hle hop;simp only[execOp,ho,resolve,hc,ev,Deferred.ofValue,Sem.run_bind,Sem.run_pure,Result.andThen_ok,invoke];congr 2;apply Array.ext';simp
 ·rename_i id he
  rw[he]at hx;obtain⟨L,hL,ev⟩:=hx;obtain⟨l,us,f,tmps,assign,body,h1,h2,h3⟩:=(hop w0 ρ H w (.func (.yield L.blk) #[] #[]::c.args.toList.map a.eval) hle hR (.inr ⟨id,_,_,L,rfl,hL,rfl,zmb hs _⟩)).2 rfl rfl;cases h1;intro hd r n;refine⟨λ_ _=>trivial,?_⟩;rw[Oper.semAt_eq _ _ _ hd];have hr:(execOp a.eval o).run P w= .ok (.round L.blk f tmps assign body) w:=by
   simp only[execOp,ho,resolve,hc,ev,Deferred.ofValue,Sem.run_bind,Sem.run_pure,Result.andThen_ok,invoke];rw[<-h2];congr 2;apply Array.ext';simp
  rw[hr];refine⟨λh=>(by cases h),h3.1,λc cs _=>?_⟩;obtain⟨e,w',⟨v,rfl,hA⟩,hs⟩:=h3.2 c cs (room_wide _);exact⟨.returned v,w',⟨v,hA,rfl⟩,hs⟩
 ·exact hop.elim
end
end Go.Ab
namespace Go.Ab
open List
open Go.RowKit (Below)
theorem R.newObj{w0:World}{ρ:zd1}{H:zb}{w:World}(h:R w0 ρ H w){id:Nat}(hid:H id=none)(hρ:∀g,ρ id g=none){o:AObj}{ob:Obj}(hob:zpn ρ o ob):
  R w0 (ρ.put id 0 ⟨w.heap.size,0,0,0⟩) (upd H id (zgb o)) { w with heap:=w.heap.push ob }:=by
 have hle:ρ.le (ρ.put id 0 ⟨w.heap.size,0,0,0⟩):=zd1.zln _ (hρ 0);have hold:∀k o,w.heap[k]?=some o->(w.heap.push ob)[k]?=some o:=λk o hk=>by
  rw[Array.getElem?_push];have:k<w.heap.size:=(Array.getElem?_eq_some_iff.1 hk).1;rw[if_neg (by omega)];exact hk
 have hsz:=h.below.size;constructor
 ·exact h.below.trans ⟨rfl,rfl,rfl,by simp,λk hk=>by
   show (w.heap.push _)[k]?=_;rw[Array.getElem?_push,if_neg (by omega)]⟩
 ·obtain⟨N,k⟩:=h.fin
  refine⟨max N (id+1),λi hi=>⟨?_,λg=>?_⟩⟩
  ·rw[zy _ _ (by omega)];exact(k i (by omega)).1
  ·rw[zd1.zd0 _ _ (by omega)];exact(k i (by omega)).2 g
 ·intro i b hb
  by_cases hi:i=id
  ·subst hi
   rw[zb4]at hb;cases hb;refine⟨λg hg=>?_,λg hi hm=>by simp[zgb]at hm,λg hi g' hi' hm=>by simp[zgb]at hm,λo' ho=>?_⟩
   ·rw[zd1.zd0]
    ·exact hρ g
    ·simp only[zgb]at hg;omega
   ·simp only[zgb,Option.some.injEq]at ho
    subst ho;exact⟨rfl,_,ob,zd1.ze7 ..,rfl,rfl,hsz,by show (w.heap.push _)[w.heap.size]?=_;simp,hob.mono hle⟩
  ·rw[zy _ _ hi]at hb
   have ok:=h.blk i b hb;refine⟨λg hg=>?_,λg hi' hm=>?_,λg hi' g' hi'' hm hm' L L' e1 e2=>?_,λo ho=>?_⟩
   ·rw[zd1.zd0 _ _ (by omega)];exact ok.nxt g hg
   ·obtain⟨h0,L,arr',e',fr,h1,h2,h3,h4,h5,h6⟩:=ok.gen g hi' hm
    refine⟨h0,L,arr',e',fr,hle _ _ _ h1,hold _ _ h2,h3,h4,h5,λj hj1 hj2 a ha=>?_⟩;obtain⟨u,k1,k2,k3⟩:=h6 j hj1 hj2 a ha;exact⟨u,k1,k2.mono hle,k3⟩
   ·rw[zd1.zd0 _ _ (by omega)]at e1 e2
    exact ok.align g hi' g' hi'' hm hm' L L' e1 e2
   ·obtain⟨h0,L,ob,h1,h2,h3,h4,h5,h6⟩:=ok.obj o ho
    exact⟨h0,L,ob,hle _ _ _ h1,h2,h3,h4,hold _ _ h5,h6.mono hle⟩
 ·intro i j bi bj hne hi hj hown gi hgi gj hgj Li Lj e1 e2
  have c1:i≠id:=λhh=>by subst hh;rw[zb4]at hi;cases hi;simp[zgb]at hgi
  have c2:j≠id:=λhh=>by subst hh;rw[zb4]at hj;cases hj;simp[zgb]at hgj
  rw[zy _ _ c1]at hi;rw[zy _ _ c2]at hj;rw[zd1.zd0 _ _ (by omega)]at e1 e2;exact h.sep i j bi bj hne hi hj hown gi hgi gj hgj Li Lj e1 e2
 ·have lt:∀j bj,H j=some bj->bj.obj.isSome=true->∀Lj,ρ j 0=some Lj->Lj.blk<w.heap.size:=λj bj hj ho Lj hL=>by
   obtain⟨o',ho'⟩:=Option.isSome_iff_exists.1 ho;obtain⟨_,L,ob',h1,_,_,_,h2,_⟩:=(h.blk j bj hj).obj o' ho';rw[hL]at h1;cases h1;exact(Array.getElem?_eq_some_iff.1 h2).1
  intro i j bi bj hne hi hj oi oj Li Lj e1 e2;by_cases c1:i=id
  ·subst c1
   rw[zy _ _ (Ne.symm hne)]at hj;rw[zd1.ze7]at e1;cases e1;rw[zd1.zd0 _ _ (by omega)]at e2;have:=lt j bj hj oj Lj e2;simp only;omega
  ·rw[zy _ _ c1]at hi
   rw[zd1.zd0 _ _ (by omega)]at e1;by_cases c2:j=id
   ·subst c2
    rw[zd1.ze7]at e2;cases e2;have:=lt i bi hi oi Li e1;simp only;omega
   ·rw[zy _ _ c2]at hj
    rw[zd1.zd0 _ _ (by omega)]at e2;exact h.osep i j bi bj hne hi hj oi oj Li Lj e1 e2
theorem R.setObj{w0:World}{ρ:zd1}{H:zb}{w:World}(h:R w0 ρ H w){id:Nat}{b:Blk}(hid:H id=some b){o o':AObj}(ho:b.obj=some o){L:Loc}(hL:ρ id 0=some L){ob':Obj}(hob:zpn ρ o' ob'):
  R w0 ρ (upd H id { b with obj:=some o' }) { w with heap:=w.heap.setIfInBounds L.blk ob' }:=by
 obtain⟨hg0,L0,ob,q1,q2,q3,q4,q5,q6⟩:=(h.blk id b hid).obj o ho;rw[hL]at q1;cases q1;have hlt:L.blk<w.heap.size:=(Array.getElem?_eq_some_iff.1 q5).1;have hat:(w.heap.setIfInBounds L.blk ob')[L.blk]?=some ob':=by rw[Array.getElem?_setIfInBounds_self_of_lt hlt]
 have hoth:∀k,k≠L.blk->(w.heap.setIfInBounds L.blk ob')[k]?=w.heap[k]? :=λk hk=>by rw[Array.getElem?_setIfInBounds_ne (Ne.symm hk)]
 have hge:∀p,p∈({ b with obj:=some o' }:Blk).zij->False:=λp hm=>by
  have hm':p∈b.zij:=hm;rw[hg0]at hm';cases hm'
 constructor
 ·exact h.below.trans ⟨rfl,rfl,rfl,by simp,λk hk=>hoth k (by omega)⟩
 ·obtain⟨N,k⟩:=h.fin
  refine⟨max N (id+1),λi hi=>⟨?_,λg=>(k i (by omega)).2 g⟩⟩;rw[zy _ _ (by omega)];exact(k i (by omega)).1
 ·intro i bi hb
  by_cases hi:i=id
  ·subst hi
   rw[zb4]at hb;cases hb;refine⟨λg hg=>(h.blk i b hid).nxt g hg,λg hi hm=>(hge _ hm).elim,λg hi g' hi' hm=>(hge _ hm).elim,λo'' ho'=>?_⟩;simp only[Option.some.injEq]at ho';subst ho';exact⟨hg0,L,ob',hL,q2,q3,q4,hat,hob⟩
  ·rw[zy _ _ hi]at hb
   have ok:=h.blk i bi hb;refine⟨ok.nxt,λg hi' hm=>?_,ok.align,λo1 ho1=>?_⟩
   ·obtain⟨h0,L1,arr',e',fr,h1,h2,h3⟩:=ok.gen g hi' hm
    exact⟨h0,L1,arr',e',fr,h1,by rw[hoth _ (λhx=>by rw[hx,q5]at h2;exact q6.notCells _ _ _ (Option.some.inj h2))];exact h2,h3⟩
   ·obtain⟨h0,L1,ob1,h1,h2,h3,h4,h5,h6⟩:=ok.obj o1 ho1
    have:=h.osep id i b bi (Ne.symm hi) hid hb (by rw[ho];rfl) (by rw[ho1];rfl) L L1 hL h1;exact⟨h0,L1,ob1,h1,h2,h3,h4,by rw[hoth _ (Ne.symm this)];exact h5,h6⟩
 ·intro i j bi bj hne hi hj hown gi hgi gj hgj Li Lj e1 e2
  have c1:i≠id:=λhh=>by subst hh;rw[zb4]at hi;cases hi;exact hge _ hgi
  have c2:j≠id:=λhh=>by subst hh;rw[zb4]at hj;cases hj;exact hge _ hgj
  rw[zy _ _ c1]at hi;rw[zy _ _ c2]at hj;exact h.sep i j bi bj hne hi hj hown gi hgi gj hgj Li Lj e1 e2
 ·intro i j bi bj hne hi hj oi oj Li Lj e1 e2
  by_cases c1:i=id
  ·subst c1
   rw[zy _ _ (Ne.symm hne)]at hj;exact h.osep i j b bj hne hid hj (by rw[ho];rfl) oj Li Lj e1 e2
  ·rw[zy _ _ c1]at hi
   by_cases c2:j=id
   ·subst c2
    exact h.osep i j bi b hne hi hid oi (by rw[ho];rfl) Li Lj e1 e2
   ·rw[zy _ _ c2]at hj
    exact h.osep i j bi bj hne hi hj oi oj Li Lj e1 e2
section
variable{P:Program}{w0:World}{ρ:zd1}{h H:zb}{w:World}{s:zbr}{a:Act}{K:zQ}{o:Oper}{Q:Exit->Act->World->Prop}
theorem op_range{t:TypeId}{x:Operand}(ho:o.op= .range t x)(ht:P.underlying t=some .string)(hR:R w0 ρ H w)(hle:h.le H)(hs:zgx ρ s a)(hop:A.zjn h (evS s x) K):zgr P w0 ρ h H K o a w Q:=by
 have hx:=zcu hs x;unfold A.zjn at hop;split at hop
 ·rename_i l he
  rw[he]at hx;obtain⟨bs,ev,hl⟩:=hx;obtain⟨N,hN⟩:=hR.fin;obtain⟨hHN,hρN⟩:=hN N (Nat.le_refl N);have hhN:h N=none:=by
   cases e:h N with
   | none=>rfl
   | some b=>have:=hle N b e;rw[hHN]at this;cases this
  have hRr:=hR.newObj hHN hρN (o:= .iter l 0) (ob:= .stringIter bs 0) ⟨bs,rfl,hl⟩
  refine zem (v:= .pointer (some ⟨w.heap.size,0,none⟩)) (w':={ w with heap:=w.heap.push (.stringIter bs 0) }) ?_
   ⟨⟨.ptr N 0 0,_,_,_,zd1.zln _ (hρN 0),⟨_,zd1.ze7 ..,Nat.le_refl _,rfl⟩,hop N hhN,zhi _ hle,Fr.fresh hHN,hRr⟩⟩
  simp[execOp,ho,ev,Instr.range,run_underlying ht]
 ·exact hop.elim
theorem op_next{x:Operand}(ho:o.op= .next x true)(hR:R w0 ρ H w)(hle:h.le H)(hs:zgx ρ s a)(hop:A.zhn h (evS s x) K):zgr P w0 ρ h H K o a w Q:=by
 have hx:=zcu hs x;unfold A.zhn at hop;split at hop
 ·rename_i id he
  rw[he]at hx;split at hop
  ·rename_i b hb
   split at hop
   ·rename_i l pos hobj
    obtain⟨L,hL,hlo,ev⟩:=hx;obtain⟨hg0,L0,ob,q1,q2,q3,q4,q5,q6⟩:=(hR.blk id b (hle id b hb)).obj _ hobj;rw[hL]at q1;cases q1;obtain⟨bs,rfl,hl⟩:=q6;rw[q2,q3]at ev;have hsz:l.length=bs.size:=by rw[<-hl];rfl
    have hrune:A.rune l pos=Utf8.decode bs pos:=by unfold A.rune;rw[<-hl,Array.toArray_toList]
    split at hop
    ·rename_i hpos
     have hRr:=hR.setObj (hle id b hb) hobj hL (o':= .iter l (pos+(A.rune l pos).2)) (ob':= .stringIter bs (pos+(A.rune l pos).2)) ⟨bs,rfl,hl⟩;have hpos':pos<bs.size:=by omega
     refine zem (v:= .tuple #[.bool true,.int .i64 pos,.int .i32 (A.rune l pos).1]) (w':={ w with heap:=w.heap.setIfInBounds L.blk (.stringIter bs (pos+(A.rune l pos).2)) }) ?_
      ⟨⟨.tup [.bool true,.int .i64 pos,.int .i32 (A.rune l pos).1],ρ,_,_,zd1.le_refl ρ,⟨_,rfl,⟨_,_,rfl,rfl,_,_,rfl,rfl,_,_,rfl,rfl,rfl⟩⟩,hop,zhi _ hle,Fr.upd hb,hRr⟩⟩
     have hget:(getObj L.blk).run P w= .ok (.stringIter bs pos) w:=by simp[getObj,Sem.run,q5]
     have hset:∀ob',(setObj L.blk ob').run P w= .ok () { w with heap:=w.heap.setIfInBounds L.blk ob' }:=λob'=>by simp[setObj,Sem.run,q5]
     simp[execOp,ho,ev,Instr.next,hget,hpos',hset,<-hrune,goInt]
    ·rename_i hpos
     have hpos':¬ pos<bs.size:=by omega
     have hget:(getObj L.blk).run P w= .ok (.stringIter bs pos) w:=by simp[getObj,Sem.run,q5]
     refine zdt hR hle (x:= .tup [.bool false]) (v:= .tuple #[.bool false]) ?_ ⟨_,rfl,⟨_,_,rfl,rfl,rfl⟩⟩ hop;simp[execOp,ho,ev,Instr.next,hget,hpos']
   ·exact hop.elim
  ·exact hop.elim
 ·exact hop.elim
end
end Go.Ab
namespace Go.Ab
open List
open Go.RowKit (Below)
section
variable{P:Program}{w0:World}{ρ:zd1}{h H:zb}{w:World}{s:zbr}{a:Act}{K:zQ}{o:Oper}{Q:Exit->Act->World->Prop}
theorem zeroCells_eq{z:Value}{n size:Nat}(hz:z.cells.size=size)(h0:0<size):(Builtin.zeroCells z.cells n).toList=(List.replicate n z.cells.toList).flatten:=by
 have:=zpy (z:=z) (n:=n) hz h0;unfold Builtin.zeroCells;rw[hz]at this ⊢;rw[this]
theorem op_clear{c:Call}{t e:TypeId}{x:Operand}(ho:o.op= .call c)(hc:c.callee= .builtin .clear)(ha:c.argTypes.toList=[t])(hargs:c.args.toList=[x])(ht:P.underlying t=some (.slice e))(hpos:0<P.cellsOf e)
  (hR:R w0 ρ H w) (hle:h.le H) (hs:zgx ρ s a) (hop:A.clr h (zeroOf P e) (evS s x) K):zgr P w0 ρ h H K o a w Q:=by
 have hx:=zcu hs x;have hat:=zi3 ha;have main:∀r w',(Builtin.clear_ c.argTypes o.type #[a.eval x]).run P w= .ok r w'->(execOp a.eval o).run P w= .ok (.value r) w':=λr w' hh=>by
  obtain⟨_,hex⟩:=zfy (P:=P) (w:=w) (a:=a) ho hc hargs;rw[hex];simp[builtin,hh]
 have nothing:∀(base:Option Addr)(n cp:Nat),(base=none \/ n=0)->a.eval x= .slice base n cp->K (.tup []) h->zgr P w0 ρ h H K o a w Q:=λbase n cp hb ev hK=>by
  refine zdt hR hle (x:= .tup []) (v:= .tuple #[]) (main _ _ ?_) ⟨[],rfl,rfl⟩ hK;rcases hb with rfl|rfl
  ·simp[Builtin.clear_,hat,run_underlying ht,ev]
  ·cases base<;>simp[Builtin.clear_,hat,run_underlying ht,ev]
 unfold A.clr at hop;split at hop
 ·exact hop.elim
 ·rename_i z hz
  obtain⟨it,zv,hit,hzv,hv,hone,hlen,hsz,_,_⟩:=zf0 (ρ:=ρ) hz;have hce:=zd9 hit;split at hop
  ·rename_i he;rw[he]at hx;exact nothing none 0 0 (.inl rfl) hx hop
  ·rename_i he;rw[he]at hx;obtain⟨ad,hx⟩:=hx;exact nothing (some ad) 0 0 (.inr rfl) hx hop
  ·rename_i id g off len es cp he
   rw[he]at hx;split at hop
   ·rename_i h0
    subst h0;obtain⟨ad,c,ev⟩:=zno hx;exact nothing (some ad) 0 c (.inr rfl) ev hop
   ·rename_i h0
    obtain⟨id',g',off',b,hi',cs',e1,e2,e3,e4,e5,e6,e7⟩:=zp0 hop;cases e1;simp only[V.putN]at e6;split at e6<;>(try (cases e6;done));rename_i hlt;cases e6;have hsp:zjm b.cells (List.replicate len z).flatten off=b.cells.take off++(List.replicate len z).flatten++b.cells.drop (off+len*es):=by unfold zjm;rw[hlt.1]
    rw[<-hsp]at e7;obtain⟨L,hL,hlo,⟨cap,ev,_⟩|⟨rfl,_⟩⟩:=hx
    ·obtain⟨k1,k2⟩:=zkn (P:=P) hR (hle id b e2) e4 (zej e3) hL hlo (xs:=(List.replicate len z).flatten) (vs:=(List.replicate len zv.cells.toList).flatten) (by omega) (zd6.rep hv len) (λu hu=>by
      simp only[mem_flatten,mem_replicate]at hu;obtain⟨l,⟨_,rfl⟩,hu⟩:=hu;exact hone u hu)
     refine zem (v:= .tuple #[]) (main _ _ ?_) ⟨⟨.tup [],ρ,_,_,zd1.le_refl ρ,⟨[],rfl,rfl⟩,e7,zhi _ hle,Fr.upd e2,k2⟩⟩;have hzr:(zeroValue e).run P w= .ok zv w:=by simp[zeroValue,typeInfo,hit,hzv]
     cases len with
     | zero=>exact absurd rfl h0
     | succ n=>simp[Builtin.clear_,hat,run_underlying ht,ev,hzr,zeroCells_eq hsz (by omega),k1]
    ·exact absurd rfl h0
  ·exact hop.elim
theorem getMap{id:Nat}{b:Blk}{es:List (za×za×Nat)}{c:Nat}(hR:R w0 ρ H w)(hb:H id=some b)(ho:b.obj=some (.map es c)){L:Loc}(hL:ρ id 0=some L):
  ∃ms,w.heap[L.blk]?=some (.map ms c) /\ zei ρ es ms.toList:=by
 obtain⟨_,L0,ob,q1,q2,q3,q4,q5,q6⟩:=(hR.blk id b hb).obj _ ho;rw[hL]at q1;cases q1;obtain⟨ms,rfl,hm⟩:=q6;exact⟨ms,q5,hm⟩
theorem zl6{x:za}{es:List (za×za×Nat)}{c:Nat}(hm:A.zmi h x=some (es,c)):∃id b,x= .mp id /\ h id=some b /\ b.obj=some (.map es c):=by
 unfold A.zmi at hm;split at hm<;>(try (cases hm;done));rename_i id;split at hm<;>(try (cases hm;done));rename_i b hb;split at hm<;>(try (cases hm;done));rename_i es' c' ho;cases hm;exact⟨id,b,rfl,hb,ho⟩
theorem bytes_ext{x y:ByteArray}(e:x.data.toList=y.data.toList):x=y:=by
 cases x;cases y;simp only[ByteArray.mk.injEq];exact Array.ext' e
def KD.fits(kd:KD)(d:TypeDesc):Prop:=match kd with | .i=>∃k,d= .int k | .s=>d= .string | .b=>d= .bool
theorem zih{t:TypeId}{kd:KD}(hk:zhq P t=some kd):∃d,P.underlying t=some d /\ kd.fits d:=by
 unfold zhq at hk;split at hk<;>(try (cases hk;done))<;>cases hk
 ·rename_i k e;exact⟨_,e,k,rfl⟩
 ·rename_i e;exact⟨_,e,rfl⟩
 ·rename_i e;exact⟨_,e,rfl⟩
theorem sameK_run{kd:KD}{d:TypeDesc}(hd:kd.fits d){x y:za}{u v:Value}(hx:zfm ρ x u)(hy:zfm ρ y v){r:Bool}(e:V.sameK kd x y=some r):
  Instr.sameNow d u v=some r /\ (r=true->u=v /\ Instr.sameBits 10000 v u=true):=by
 unfold V.sameK at e;split at e<;>(try (cases e;done))
 ·split at e<;>(try (cases e;done))
  rename_i hkj;subst hkj;cases e;obtain⟨k,rfl⟩:=hd;cases hx;cases hy;exact⟨by simp[Instr.sameNow],λhr=>by rw[beq_iff_eq]at hr;subst hr;exact⟨rfl,by simp[Instr.sameBits]⟩⟩
 ·cases e
  have hd:d= .string:=hd;subst hd;obtain⟨b,rfl,hb⟩:=hx;obtain⟨b',rfl,hb'⟩:=hy;subst hb;subst hb';have he:(b==b')=(b.data.toList==b'.data.toList):=by
   rw[show (b==b')=(b.data==b'.data) from rfl,Bool.eq_iff_iff,beq_iff_eq,beq_iff_eq];exact⟨λh=>by rw[h],λh=>Array.ext' h⟩
  refine⟨by simp only[Instr.sameNow];rw[he],λhr=>?_⟩;have hr':=hr;rw[beq_iff_eq]at hr';have:=bytes_ext hr';subst this;exact⟨rfl,by simp only[Instr.sameBits];rw[he];exact hr⟩
 ·cases e
  have hd:d= .bool:=hd;subst hd;cases hx;cases hy;exact⟨by simp[Instr.sameNow],λhr=>by rw[beq_iff_eq]at hr;subst hr;exact⟨rfl,by simp[Instr.sameBits]⟩⟩
theorem zht{kd:KD}{d:TypeDesc}(hd:kd.fits d){k:za}{kv:Value}(hk:zfm ρ k kv):
  ∀{es:List (za×za×Nat)}{ms:List MapEntry},zei ρ es ms->∀{i:Nat}{r:Option (Nat×za×Nat)},V.zrq kd k es i=some r ->
   match r with
   | none=>Instr.findNow d kv ms i=some none
   | some (j,v,n)=>∃m e,i <= j /\ ms[j-i]?=some m /\ es[j-i]?=some e /\ e.2=(v,n) /\ Instr.findNow d kv ms i=some (some (j,m.val)) /\ zfm ρ v m.val /\ n=m.born /\ kv=m.key /\ Instr.sameBits 10000 m.key kv=true
 | [],[],_,i,r,e=>by cases e;rfl
 | x::es,m::ms,⟨h1,h2,h3,h4⟩,i,r,e=>by
  simp only[V.zrq]at e
  split at e<;>(try (cases e;done))
  ·rename_i hs
   cases e
   obtain⟨k1,k2⟩:=sameK_run hd hk h1 hs
   obtain⟨k3,k4⟩:=k2 rfl
   exact⟨m,x,Nat.le_refl _,by simp,by simp,rfl,by simp[Instr.findNow,k1],h2,h3,k3,k4⟩
  ·rename_i hs
   obtain⟨k1,_⟩:=sameK_run hd hk h1 hs
   have ih:=zht hd hk h4 e
   cases r with
   | none=>simpa[Instr.findNow,k1]using ih
   | some q=>
    obtain⟨j,v,n⟩:=q
    obtain⟨m',e',a1,a2,a3,a4,a5,a6⟩:=ih
    refine⟨m',e',by omega,?_,?_,a4,by simpa[Instr.findNow,k1]using a5,a6⟩
    ·rw[show j-i=(j-(i+1))+1 by omega];simpa using a2
    ·rw[show j-i=(j-(i+1))+1 by omega];simpa using a3
theorem zfi{t:TypeId}{d:TypeDesc}(ht:P.underlying t=some d){kd:KD}(hd:kd.fits d)(e:Bool)(v:Value):(Instr.checkKey e 10000 t v).run P w= .ok () w:=by
 have main:∀n,(Instr.checkKey e (n+1) t v).run P w= .ok () w:=λn=>by
  cases kd with
  | i=>obtain⟨k,rfl⟩:=hd;simp[Instr.checkKey,run_underlying ht]
  | s=>have hd:d= .string:=hd;subst hd;simp[Instr.checkKey,run_underlying ht]
  | b=>have hd:d= .bool:=hd;subst hd;simp[Instr.checkKey,run_underlying ht]
 exact main 9999
theorem zgj{t:TypeId}{d:TypeDesc}(ht:P.underlying t=some d){k:Value}{es:List MapEntry}{r:Option (Nat×Value)}(hf:Instr.findNow d k es 0=some r):(Instr.findKey t k es).run P w= .ok r w:=by
 simp[Instr.findKey,run_underlying ht,hf]
theorem zeroV_run{t:TypeId}{z:za}(hz:zeroV P t=some z):∃zv,(zeroValue t).run P w= .ok zv w /\ zfm ρ z zv:=by
 unfold zeroV at hz;split at hz
 ·rename_i cs ar h1 h2
  obtain⟨it,zv,hit,hzv,hv,hone,hlen,hsz,_,_⟩:=zf0 (ρ:=ρ) h1;rw[hit]at h2;simp only[Option.bind_some,hzv,Option.some.injEq]at h2;subst h2;cases hb:zdz P t with
  | false=>simp[hb]at hz
  | true=>
   simp only[hb,cond_true,Option.some.injEq]at hz;subst hz;exact⟨.agg ar,by simp[zeroValue,typeInfo,hit,hzv],⟨ar.toList,by simp,hv,hone⟩⟩
 ·rename_i c zc hna h1 h2
  obtain⟨it,zv,hit,hzv,hv,hone,hlen,hsz,_,_⟩:=zf0 (ρ:=ρ) h1;cases hb:zdz P t with
  | true=>simp[hb]at hz
  | false=>
   simp only[hb,cond_false,Option.some.injEq]at hz;subst hz;rw[hit]at h2;simp only[Option.bind_some,hzv,Option.some.injEq]at h2;subst h2;refine⟨zv,by simp[zeroValue,typeInfo,hit,hzv],?_⟩;have hc:zv.cells= #[zv]:=by
    cases zv with
    | agg ar=>exact absurd rfl (hna ar)
    | _=>rfl
   rw[hc]at hv;obtain⟨u,us,e,h1,_⟩:=hv;cases e;exact h1
 ·cases hz
theorem zfs{r:Nat}{ms:Array MapEntry}{c:Nat}(hr:w.heap[r]?=some (.map ms c)):(getObj r).run P w= .ok (.map ms c) w:=by simp[getObj,Sem.run,hr]
theorem zh5{r:Nat}{ms:Array MapEntry}{c:Nat}{ob':Obj}(hr:w.heap[r]?=some (.map ms c)):(setObj r ob').run P w= .ok () { w with heap:=w.heap.setIfInBounds r ob' }:=by simp[setObj,Sem.run,hr]
theorem zrc{x:za}{v:Value}{es:List (za×za×Nat)}(hR:R w0 ρ H w)(hle:h.le H)(hx:zfm ρ x v)(he:A.entries h x=some es):
  (v= .map none /\ es=[]) \/ ∃r ms c,v= .map (some r) /\ w.heap[r]?=some (.map ms c) /\ zei ρ es ms.toList:=by
 unfold A.entries at he;split at he
 ·cases he;exact .inl ⟨hx,rfl⟩
 ·split at he<;>(try (cases he;done))
  rename_i es' c hm;cases he;obtain⟨id,b,rfl,hb,ho⟩:=zl6 hm;obtain⟨L,hL,rfl⟩:=hx;obtain⟨ms,h1,h2⟩:=getMap hR (hle id b hb) ho hL;exact .inr ⟨L.blk,ms,c,rfl,h1,h2⟩
theorem op_lookup{t kt et:TypeId}{x i:Operand}{ok:Bool}(ho:o.op= .lookup t x i ok)(ht:P.underlying t=some (.map kt et))(hR:R w0 ρ H w)(hle:h.le H)(hs:zgx ρ s a)
  (hop:A.pv (A.lkp h (zhq P kt) (zeroV P et) ok (evS s x) (evS s i)) λv=>K v h):zgr P w0 ρ h H K o a w Q:=by
 obtain⟨r,h1,h2⟩:=ze hop;have hx:=zcu hs x;have hi:=zcu hs i;unfold A.lkp at h1;split at h1<;>(try (cases h1;done));rename_i kd z es hkd hz hes;obtain⟨d,hd1,hd2⟩:=zih hkd;obtain⟨zv,z1,z2⟩:=zeroV_run (w:=w) (ρ:=ρ) hz;have fin:∀(ms:Array MapEntry)(q:Option (Nat×Value))(u:za)(uv:Value)(b:Bool),zei ρ es ms.toList->Instr.findNow d (a.eval i) ms.toList 0=some q->(match q with|some (_,v)=>(v,true)|none=>(zv,false))=(uv,b)->zfm ρ u uv ->
   r=(bif ok then .tup [u,.bool b] else u)->((execOp a.eval o).run P w= .ok (.value (if ok then .tuple #[uv,.bool b] else uv)) w)->zgr P w0 ρ h H K o a w Q:=λms q u uv b _ _ _ hu hr he=>by
  subst hr;cases ok with
  | true=>exact zdt hR hle (x:= .tup [u,.bool b]) (v:= .tuple #[uv,.bool b]) (by simpa using he) ⟨[uv,.bool b],rfl,⟨_,_,rfl,hu,_,_,rfl,rfl,rfl⟩⟩ h2
  | false=>exact zdt hR hle (x:=u) (v:=uv) (by simpa using he) hu h2
 have found:∀(ms:Array MapEntry),zei ρ es ms.toList->(∀(q:Option (Nat×Value))(uv:Value)(b:Bool),Instr.findNow d (a.eval i) ms.toList 0=some q->(match q with|some (_,v)=>(v,true)|none=>(zv,false))=(uv,b) ->
   (execOp a.eval o).run P w= .ok (.value (if ok then .tuple #[uv,.bool b] else uv)) w)->zgr P w0 ρ h H K o a w Q:=λms hER he=>by
  split at h1<;>(try (cases h1;done))
  ·rename_i j v n hf
   cases h1;obtain⟨m,e,_,_,_,_,f1,f2,_⟩:=zht hd2 hi hER hf;exact fin ms _ v m.val true hER f1 rfl f2 rfl (he _ _ _ f1 rfl)
  ·rename_i hf
   cases h1;have f1:=zht hd2 hi hER hf;exact fin ms _ z zv false hER f1 rfl z2 rfl (he _ _ _ f1 rfl)
 rcases zrc hR hle hx hes with⟨ev,rfl⟩|⟨r',ms,c,ev,h3,h4⟩
 ·refine found #[] trivial λq uv b hq hub=>?_
  have hk:=zgj (P:=P) (w:=w) hd1 hq;have hq':q=none:=by simpa[Instr.findNow]using hq.symm
  subst hq';cases hub;simp[execOp,ho,Instr.lookup,run_underlying ht,ev,zfi hd1 hd2,hk,z1]
 ·refine found ms h4 λq uv b hq hub=>?_
  have hk:=zgj (P:=P) (w:=w) hd1 hq;cases q with
  | none=>
   cases hub;simp[execOp,ho,Instr.lookup,run_underlying ht,ev,zfs h3,zfi hd1 hd2,hk,z1]
  | some q=>
   obtain⟨j,v⟩:=q;cases hub;simp[execOp,ho,Instr.lookup,run_underlying ht,ev,zfs h3,zfi hd1 hd2,hk]
theorem objT_ok{x:za}{f:List (za×za×Nat)->Nat->Option (List (za×za×Nat)×Nat×za)}{K':zQ}{v:Value}(hR:R w0 ρ H w)(hle:h.le H)(hx:zfm ρ x v)(hop:A.zpr h x f K')
  (hrun:∀(r:Nat)(es es':List (za×za×Nat))(c c':Nat)(y:za)(ms:Array MapEntry),v= .map (some r)->w.heap[r]?=some (.map ms c)->zei ρ es ms.toList->f es c=some (es',c',y) ->
   ∃ms':Array MapEntry,zei ρ es' ms'.toList /\ ∀hA:(∀{u:Value},zfm ρ y u->znf w0 ρ h H K' u { w with heap:=w.heap.setIfInBounds r (.map ms' c') }),zgr P w0 ρ h H K o a w Q):zgr P w0 ρ h H K o a w Q:=by
 unfold A.zpr at hop;split at hop
 ·rename_i id
  split at hop
  ·rename_i b hb
   split at hop
   ·rename_i es c hobj
    split at hop
    ·rename_i es' c' y hf
     obtain⟨L,hL,ev⟩:=hx;obtain⟨ms,h1,h2⟩:=getMap hR (hle id b hb) hobj hL;obtain⟨ms',k1,k2⟩:=hrun L.blk es es' c c' y ms ev h1 h2 hf;refine k2 λ{u} hu=>?_;have hRr:=hR.setObj (hle id b hb) hobj hL (o':= .map es' c') (ob':= .map ms' c') ⟨ms',rfl,k1⟩;exact⟨⟨y,ρ,_,_,zd1.le_refl ρ,hu,hop,zhi _ hle,Fr.upd hb,hRr⟩⟩
    ·exact hop.elim
   ·exact hop.elim
  ·exact hop.elim
 ·exact hop.elim
theorem znf.undef{v:Value}{w':World}(hA:znf w0 ρ h H (λ_ h=>K .undef h) v w'):znf w0 ρ h H K v w':=by
 obtain⟨x,ρ',h',H',k1,k2,k3,k4⟩:=hA.ex;exact⟨⟨.undef,ρ',h',H',k1,trivial,k3,k4⟩⟩
theorem zkh{u v:Value}(h:Instr.sameBits 10000 u v=true):(Instr.keyThatStays u v).run P w= .ok v w:=by
 simp[Instr.keyThatStays,h]
theorem zmo{α:Type}{l:List α}{j:Nat}{m:α}(hj:l[j]?=some m)(f:α->α):l.modify j f=l.set j (f m):=by
 apply ext_getElem?;intro i;rw[getElem?_modify,getElem?_set];by_cases h:j=i
 ·subst h
  have:=(List.getElem?_eq_some_iff.1 hj).1;rw[getElem?_eq_getElem this]at hj;simp only[Option.some.injEq]at hj;simp[this,hj]
 ·simp[h]
theorem modify_eq{ms:Array MapEntry}{j:Nat}{m:MapEntry}(hj:ms.toList[j]?=some m)(f:MapEntry->MapEntry):(ms.modify j f).toList=ms.toList.set j (f m):=by
 rw[Array.toList_modify,zmo hj]
theorem op_mapUpdate{t kt et:TypeId}{x k v:Operand}(ho:o.op= .mapUpdate t x k v)(ht:P.underlying t=some (.map kt et))(hR:R w0 ρ H w)(hle:h.le H)(hs:zgx ρ s a)
  (hop:A.mset h (zhq P kt) (evS s x) (evS s k) (evS s v) λh=>K .undef h):zgr P w0 ρ h H K o a w Q:=by
 have hx:=zcu hs x;have hk:=zcu hs k;have hv:=zcu hs v;refine objT_ok hR hle hx hop λr es es' c c' y ms ev h3 hER hf=>?_;unfold A.fset at hf;split at hf<;>(try (cases hf;done));rename_i kd hkd;obtain⟨d,hd1,hd2⟩:=zih hkd;split at hf<;>(try (cases hf;done))
 ·rename_i i v' n hfk
  cases hf;obtain⟨m,e,_,f1,f2,f3,f4,f5,f6,f7,f8⟩:=zht hd2 hk hER hfk;rw[Nat.sub_zero]at f1 f2;refine⟨ms.modify i λe=>{ e with key:=a.eval k,val:=a.eval v },?_,λhA=>?_⟩
  ·rw[modify_eq f1];exact hER.set i hk hv (by rw[f6])
  ·refine ok_skip (w':={ w with heap:=w.heap.setIfInBounds r (.map (ms.modify i λe=>{ e with key:=a.eval k,val:=a.eval v }) c) }) ?_ (hA (u:=Go.undef) trivial).undef
   have f1':ms[i]?=some m:=by simpa using f1
   simp[execOp,ho,Instr.mapUpdate,run_underlying ht,ev,zfs h3,zfi hd1 hd2,zgj hd1 f4,f1',zkh f8,zh5 h3]
 ·rename_i hfk
  cases hf;have f4:=zht hd2 hk hER hfk;refine⟨ms.push { key:=a.eval k,val:=a.eval v,born:=c },?_,λhA=>?_⟩
  ·rw[Array.toList_push];exact hER.append ⟨hk,hv,rfl,trivial⟩
  ·refine ok_skip (w':={ w with heap:=w.heap.setIfInBounds r (.map (ms.push { key:=a.eval k,val:=a.eval v,born:=c }) (c+1)) }) ?_ (hA (u:=Go.undef) trivial).undef
   simp[execOp,ho,Instr.mapUpdate,run_underlying ht,ev,zfs h3,zfi hd1 hd2,zgj hd1 f4,zh5 h3]
theorem op_mapEntry{t kt et:TypeId}{x k:Operand}(ho:o.op= .mapEntry t x k)(ht:P.underlying t=some (.map kt et))(hR:R w0 ρ H w)(hle:h.le H)(hs:zgx ρ s a)
  (hop:A.mentry h (zhq P kt) (zeroV P et) (evS s x) (evS s k) K):zgr P w0 ρ h H K o a w Q:=by
 have hx:=zcu hs x;have hk:=zcu hs k;refine objT_ok hR hle hx hop λr es es' c c' y ms ev h3 hER hf=>?_;unfold A.fentry at hf;split at hf<;>(try (cases hf;done));rename_i kd z hkd hz;obtain⟨d,hd1,hd2⟩:=zih hkd;obtain⟨zv,z1,z2⟩:=zeroV_run (w:=w) (ρ:=ρ) hz;split at hf<;>(try (cases hf;done))
 ·rename_i i v' n hfk
  cases hf;obtain⟨m,e,_,f1,f2,f3,f4,f5,f6,f7,f8⟩:=zht hd2 hk hER hfk;rw[Nat.sub_zero]at f1 f2;refine⟨ms.modify i λe=>{ e with key:=a.eval k },?_,λhA=>?_⟩
  ·rw[modify_eq f1];exact hER.set i hk f5 (by rw[f6])
  ·refine zem (v:= .tuple #[m.val,.int .i64 m.born]) (w':={ w with heap:=w.heap.setIfInBounds r (.map (ms.modify i λe=>{ e with key:=a.eval k }) c) }) ?_ (hA ⟨_,rfl,⟨_,_,rfl,f5,_,_,rfl,by rw[f6];rfl,rfl⟩⟩)
   have f1':ms[i]?=some m:=by simpa using f1
   simp[execOp,ho,Instr.mapEntry,run_underlying ht,ev,zfs h3,zfi hd1 hd2,zgj hd1 f4,f1',zkh f8,zh5 h3,goInt]
 ·rename_i hfk
  cases hf;have f4:=zht hd2 hk hER hfk;refine⟨ms.push { key:=a.eval k,val:=zv,born:=c },?_,λhA=>?_⟩
  ·rw[Array.toList_push];exact hER.append ⟨hk,z2,rfl,trivial⟩
  ·refine zem (v:= .tuple #[zv,.int .i64 c]) (w':={ w with heap:=w.heap.setIfInBounds r (.map (ms.push { key:=a.eval k,val:=zv,born:=c }) (c+1)) }) ?_ (hA ⟨_,rfl,⟨_,_,rfl,z2,_,_,rfl,rfl,rfl⟩⟩)
   simp[execOp,ho,Instr.mapEntry,run_underlying ht,ev,zfs h3,zfi hd1 hd2,zgj hd1 f4,z1,zh5 h3,goInt]
theorem op_entryStore{t kt et:TypeId}{x n v:Operand}(ho:o.op= .entryStore t x n v)(ht:P.underlying t=some (.map kt et))(hR:R w0 ρ H w)(hle:h.le H)(hs:zgx ρ s a)
  (hop:A.mstore h (evS s x) (evS s n) (evS s v) λh=>K .undef h):zgr P w0 ρ h H K o a w Q:=by
 have hx:=zcu hs x;have hn:=zcu hs n;have hv:=zcu hs v;refine objT_ok hR hle hx hop λr es es' c c' y ms ev h3 hER hf=>?_;unfold A.fstore at hf;split at hf<;>(try (cases hf;done));rename_i kn n' he;rw[he]at hn;have en:a.eval n= .int kn n':=hn;split at hf<;>(try (cases hf;done));rename_i i hi;cases hf;have hi':ms.findIdx? (λe=>(e.born:Int)==n')=some i:=by
  rw[<-hi,show ms=ms.toList.toArray from (Array.toArray_toList).symm,findIdx?_toArray];exact(hER.findIdx λb=>(b:Int)==n').symm
 have hlt:i<ms.toList.length:=by
  obtain⟨h4,_⟩:=findIdx?_eq_some_iff_getElem.1 hi;rw[<-hER.length];exact h4
 obtain⟨m,f1⟩:∃m,ms.toList[i]?=some m:=⟨_,getElem?_eq_getElem hlt⟩;have hlt':i<es.length:=by rw[hER.length];exact hlt
 obtain⟨m',f2,f3,f4,f5⟩:=hER.get (getElem?_eq_getElem hlt');rw[f1]at f2;cases f2;refine⟨ms.modify i λe=>{ e with val:=a.eval v },?_,λhA=>?_⟩
 ·rw[modify_eq f1,zmo (getElem?_eq_getElem hlt')]
  exact hER.set i f3 hv f5
 ·refine ok_skip (w':={ w with heap:=w.heap.setIfInBounds r (.map (ms.modify i λe=>{ e with val:=a.eval v }) c) }) ?_ (hA (u:=Go.undef) trivial).undef
  simp[execOp,ho,Instr.entryStore,ev,en,zfs h3,asInt,asIntOf,hi',zh5 h3]
theorem op_delete{c:Call}{t kt et:TypeId}{r:List TypeId}{x k:Operand}(ho:o.op= .call c)(hc:c.callee= .builtin .delete)(ha:c.argTypes.toList=t::r)(hargs:c.args.toList=[x,k])(ht:P.underlying t=some (.map kt et))
  (hR:R w0 ρ H w) (hle:h.le H) (hs:zgx ρ s a) (hop:A.mdel h (zhq P kt) (evS s x) (evS s k) K):zgr P w0 ρ h H K o a w Q:=by
 have hx:=zcu hs x;have hk:=zcu hs k;have hat:=zi3 ha;have main:∀r w',(Builtin.delete_ c.argTypes o.type #[a.eval x,a.eval k]).run P w= .ok r w'->(execOp a.eval o).run P w= .ok (.value r) w':=λr w' hh=>by
  obtain⟨_,hex⟩:=zfy (P:=P) (w:=w) (a:=a) ho hc hargs;rw[hex];simp[builtin,hh]
 unfold A.mdel at hop;split at hop
 ·rename_i he
  rw[he]at hx;have ev:a.eval x= .map none:=hx;refine zdt hR hle (x:= .tup []) (v:= .tuple #[]) (main _ _ ?_) ⟨[],rfl,rfl⟩ hop.2;obtain⟨kd,hkd⟩:=Option.isSome_iff_exists.1 hop.1;obtain⟨d,hd1,hd2⟩:=zih hkd;simp[Builtin.delete_,hat,run_underlying ht,ev,zfi hd1 hd2]
 ·refine objT_ok hR hle hx hop λr es es' c' c2 y ms ev h3 hER hf=>?_
  unfold A.fdel at hf;split at hf<;>(try (cases hf;done));rename_i kd hkd;obtain⟨d,hd1,hd2⟩:=zih hkd;split at hf<;>(try (cases hf;done))
  ·rename_i i q hfk
   cases hf;obtain⟨v',n⟩:=q;obtain⟨m,e,_,f1,f2,f3,f4,f5,f6,f7,f8⟩:=zht hd2 hk hER hfk;refine⟨ms.eraseIdxIfInBounds i,?_,λhA=>?_⟩
   ·rw[Array.toList_eraseIdxIfInBounds];exact hER.eraseIdx i
   ·refine zem (v:= .tuple #[]) (w':={ w with heap:=w.heap.setIfInBounds r (.map (ms.eraseIdxIfInBounds i) c') }) (main _ _ ?_) (hA ⟨[],rfl,rfl⟩)
    simp[Builtin.delete_,hat,run_underlying ht,ev,zfs h3,zfi hd1 hd2,zgj hd1 f4,zh5 h3]
  ·rename_i hfk
   cases hf;have f4:=zht hd2 hk hER hfk;refine⟨ms,hER,λhA=>?_⟩;refine zem (v:= .tuple #[]) (w':={ w with heap:=w.heap.setIfInBounds r (.map ms c') }) (main _ _ ?_) (hA ⟨[],rfl,rfl⟩);simp[Builtin.delete_,hat,run_underlying ht,ev,zfs h3,zfi hd1 hd2,zgj hd1 f4,zh5 h3]
theorem op_lenMap{c:Call}{t kt et:TypeId}{r:List TypeId}{x:Operand}(ho:o.op= .call c)(hc:c.callee= .builtin .len)(ha:c.argTypes.toList=t::r)(hargs:c.args.toList=[x])(ht:P.underlying t=some (.map kt et))
  (hR:R w0 ρ H w) (hle:h.le H) (hs:zgx ρ s a) (hop:A.pv (A.zlm h (evS s x)) λv=>K v h):zgr P w0 ρ h H K o a w Q:=by
 have hx:=zcu hs x;have hat:=zi3 ha;have main:∀n,(Builtin.len_ c.argTypes o.type #[a.eval x]).run P w= .ok (.int .i64 n) w->(execOp a.eval o).run P w= .ok (.value (.int .i64 n)) w:=λn hh=>by
  obtain⟨_,hex⟩:=zfy (P:=P) (w:=w) (a:=a) ho hc hargs;rw[hex];simp[builtin,hh]
 obtain⟨v,h1,h2⟩:=ze hop;unfold A.zlm at h1;split at h1<;>(try (cases h1;done));rename_i es hes;cases h1;refine zdt hR hle (x:= .int .i64 es.length) (v:= .int .i64 es.length) (main _ ?_) rfl h2;rcases zrc hR hle hx hes with⟨ev,rfl⟩|⟨r',ms,c',ev,h3,h4⟩
 ·simp[Builtin.len_,hat,run_underlying ht,ev,goInt]
 ·have:=h4.length
  simp[Builtin.len_,hat,run_underlying ht,ev,goInt,zfs h3];simp only[Array.length_toList]at this;omega
theorem op_makeMap{t kt et:TypeId}(ho:o.op= .makeMap t none)(ht:P.underlying t=some (.map kt et))(hR:R w0 ρ H w)(hle:h.le H)(hop:A.newObj h (.map [] 0) λid h=>K (.mp id) h):zgr P w0 ρ h H K o a w Q:=by
 obtain⟨N,hN⟩:=hR.fin;obtain⟨hHN,hρN⟩:=hN N (Nat.le_refl N);have hhN:h N=none:=by
  cases e:h N with
  | none=>rfl
  | some b=>have:=hle N b e;rw[hHN]at this;cases this
 have hRr:=hR.newObj hHN hρN (o:= .map [] 0) (ob:= .map #[] 0) ⟨#[],rfl,trivial⟩
 refine zem (v:= .map (some w.heap.size)) (w':={ w with heap:=w.heap.push (.map #[] 0) }) ?_
  ⟨⟨.mp N,_,_,_,zd1.zln _ (hρN 0),⟨_,zd1.ze7 ..,rfl⟩,hop N hhN,zhi _ hle,Fr.fresh hHN,hRr⟩⟩
 simp[execOp,ho,Instr.makeMap]
theorem op_rangeMap{t kt et:TypeId}{x:Operand}(ho:o.op= .range t x)(ht:P.underlying t=some (.map kt et))(hR:R w0 ρ H w)(hle:h.le H)(hs:zgx ρ s a)(hop:A.rangeMap h (evS s x) K):zgr P w0 ρ h H K o a w Q:=by
 have hx:=zcu hs x;obtain⟨N,hN⟩:=hR.fin;obtain⟨hHN,hρN⟩:=hN N (Nat.le_refl N);have hhN:h N=none:=by
  cases e:h N with
  | none=>rfl
  | some b=>have:=hle N b e;rw[hHN]at this;cases this
 unfold A.rangeMap at hop;split at hop
 ·rename_i he
  rw[he]at hx;have ev:a.eval x= .map none:=hx;have hRr:=hR.newObj hHN hρN (o:= .mapIter none 0 [] 0) (ob:= .mapIter none 0 #[] 0) rfl
  refine zem (v:= .pointer (some ⟨w.heap.size,0,none⟩)) (w':={ w with heap:=w.heap.push (.mapIter none 0 #[] 0) }) ?_
   ⟨⟨.ptr N 0 0,_,_,_,zd1.zln _ (hρN 0),⟨_,zd1.ze7 ..,Nat.le_refl _,rfl⟩,hop N hhN,zhi _ hle,Fr.fresh hHN,hRr⟩⟩
  simp[execOp,ho,ev,Instr.range,run_underlying ht]
 ·rename_i m he
  split at hop
  ·rename_i es c hm
   obtain⟨id,b,e1,hb,hobj⟩:=zl6 hm;rw[he]at e1 hx;cases e1;obtain⟨L,hL,ev⟩:=hx;obtain⟨ms,h3,h4⟩:=getMap hR (hle m b hb) hobj hL;have hRr:=hR.newObj hHN hρN (o:= .mapIter (some m) c [] c) (ob:= .mapIter (some L.blk) c #[] c) ⟨L,hL,rfl⟩
   refine zem (v:= .pointer (some ⟨w.heap.size,0,none⟩)) (w':={ w with heap:=w.heap.push (.mapIter (some L.blk) c #[] c) }) ?_
    ⟨⟨.ptr N 0 0,_,_,_,zd1.zln _ (hρN 0),⟨_,zd1.ze7 ..,Nat.le_refl _,rfl⟩,hop N hhN,zhi _ hle,Fr.fresh hHN,hRr⟩⟩
   simp[execOp,ho,ev,Instr.range,run_underlying ht,zfs h3]
  ·exact hop.elim
 ·exact hop.elim
theorem upd_self{h:zb}{id:Nat}{b:Blk}(hb:h id=some b):Ab.upd h id b=h:=zb.ext λi=>by
 by_cases hi:i=id
 ·subst hi;rw[zb4,hb]
 ·rw[zy _ _ hi]
theorem op_nextMap{x:Operand}(ho:o.op= .next x false)(hR:R w0 ρ H w)(hle:h.le H)(hs:zgx ρ s a)(hop:A.zet h (evS s x) K):zgr P w0 ρ h H K o a w Q:=by
 have hx:=zcu hs x;unfold A.zet at hop;split at hop
 ·rename_i id l hst
  unfold A.steps at hst;split at hst<;>(try (cases hst;done));rename_i id' he;rw[he]at hx;split at hst<;>(try (cases hst;done));rename_i b hb;obtain⟨L,hL,hlo,ev⟩:=hx;split at hst<;>(try (cases hst;done))
  ·rename_i since seen last hobj
   cases hst;obtain⟨hg0,L0,ob,q1,q2,q3,q4,q5,q6⟩:=(hR.blk _ b (hle _ b hb)).obj _ hobj;rw[hL]at q1;cases q1;have q6:ob= .mapIter none since seen.toArray last:=q6;subst q6;rw[q2,q3]at ev;have hh:=hop (b,.tup [.bool false]) (by simp);rw[upd_self hb]at hh;refine zdt hR hle (x:= .tup [.bool false]) (v:= .tuple #[.bool false]) ?_ ⟨_,rfl,⟨_,_,rfl,rfl,rfl⟩⟩ hh;have hget:(getObj L.blk).run P w= .ok (.mapIter none since seen.toArray last) w:=by simp[getObj,Sem.run,q5]
   simp[execOp,ho,ev,Instr.next,hget]
  ·rename_i m since seen last hobj
   obtain⟨hg0,L0,ob,q1,q2,q3,q4,q5,q6⟩:=(hR.blk _ b (hle _ b hb)).obj _ hobj;rw[hL]at q1;cases q1;obtain⟨Lm,hLm,q6⟩:=q6;subst q6;rw[q2,q3]at ev;split at hst<;>(try (cases hst;done));rename_i es c hm;obtain⟨idm,bm,e1,hbm,hobjm⟩:=zl6 hm;cases e1;obtain⟨ms,h3,h4⟩:=getMap hR (hle _ bm hbm) hobjm hLm;cases hck:(es.all λe=>Nat.blt e.2.2 since)&&Nat.ble since last with
   | false=>rw[hck]at hst;cases hst
   | true=>
    rw[hck]at hst;simp only[cond_true,Option.some.injEq,Prod.mk.injEq]at hst;obtain⟨rfl,rfl⟩:=hst;rw[Bool.and_eq_true,all_eq_true,Nat.ble_eq]at hck;have hold:∀y∈ms.toList,y.born<since:=λy hy=>by
     obtain⟨e,he1,_,_,he2⟩:=h4.mem y hy;have:=hck.1 e he1;rw[Nat.blt_eq]at this;omega
    have hfl:=h4.filter λn=> !seen.contains n
    have hle':(leftOf ms seen.toArray).toList=ms.toList.filter λm=> !seen.contains m.born:=by
     simp[leftOf]
    rw[<-hle']at hfl;rcases run_next_at (P:=P) w o.type L.blk Lm.blk since last seen.toArray ms c q5 h3 hold hck.2 with⟨n0,hrun⟩|⟨y,hy,w1,hw1,hrun⟩
    ·have hn:es.filter (λe=> !seen.contains e.2.2)=[]:=by
      have:=hfl.length;apply eq_nil_of_length_eq_zero;rw[this];simpa using n0
     rw[hn]at hop;have hh:=hop (b,.tup [.bool false]) (by simp);rw[upd_self hb]at hh;refine zdt hR hle (x:= .tup [.bool false]) (v:= .tuple #[.bool false]) ?_ ⟨_,rfl,⟨_,_,rfl,rfl,rfl⟩⟩ hh;simp[execOp,ho,ev,hrun]
    ·obtain⟨e,he1,he2,he3,he4⟩:=hfl.mem y hy
     have hR1:R w0 ρ H w1:=by
      rcases hw1 with rfl|rfl
      ·exact hR
      ·exact hR.drew _
     have q51:w1.heap[L.blk]?=some (.mapIter (some Lm.blk) since seen.toArray last):=by rcases hw1 with rfl|rfl<;>exact q5
     have hRr:=hR1.setObj (hle _ b hb) hobj hL (o':= .mapIter (some m) since (seen++[e.2.2]) c) (ob':= .mapIter (some Lm.blk) since (seen.toArray.push y.born) c) ⟨Lm,hLm,by rw[he4];simp⟩
     have hh:K (.tup [.bool true,e.1,e.2.1]) (Ab.upd h id' { b with obj:=some (.mapIter (some m) since (seen++[e.2.2]) c) }):=by
      refine hop ({ b with obj:=some (.mapIter (some m) since (seen++[e.2.2]) c) },.tup [.bool true,e.1,e.2.1]) ?_;split
      ·rename_i hn;rw[hn]at he1;cases he1
      ·rename_i l' hl'
       rw[mem_map];exact⟨e,he1,rfl⟩
     refine zem (v:= .tuple #[.bool true,y.key,y.val]) (w':=ChangeMaps.setBlock w1 L.blk (.mapIter (some Lm.blk) since (seen.toArray.push y.born) c)) ?_
      ⟨⟨.tup [.bool true,e.1,e.2.1],ρ,_,_,zd1.le_refl ρ,⟨_,rfl,⟨_,_,rfl,rfl,_,_,rfl,he2,_,_,rfl,he3,rfl⟩⟩,hh,zhi _ hle,Fr.upd hb,hRr⟩⟩
     simp[execOp,ho,ev,hrun]
 ·exact hop.elim
theorem op_entry{x:Operand}(ho:o.op= .entry x)(hR:R w0 ρ H w)(hle:h.le H)(hs:zgx ρ s a)(hop:A.pv (A.zfp h (evS s x)) λv=>K v h):zgr P w0 ρ h H K o a w Q:=by
 have hx:=zcu hs x;obtain⟨v,h1,h2⟩:=ze hop;unfold A.zfp at h1;split at h1<;>(try (cases h1;done));rename_i id he;rw[he]at hx;split at h1<;>(try (cases h1;done));rename_i b hb;obtain⟨L,hL,hlo,ev⟩:=hx;split at h1<;>(try (cases h1;done));rename_i m since seen last hobj;obtain⟨hg0,L0,ob,q1,q2,q3,q4,q5,q6⟩:=(hR.blk _ b (hle _ b hb)).obj _ hobj;rw[hL]at q1;cases q1;obtain⟨Lm,hLm,q6⟩:=q6;subst q6;rw[q2,q3]at ev;split at h1<;>(try (cases h1;done));rename_i es c n hm hn;obtain⟨idm,bm,e1,hbm,hobjm⟩:=zl6 hm;cases e1;obtain⟨ms,h3,h4⟩:=getMap hR (hle _ bm hbm) hobjm hLm;cases hck:Nat.beq c last with
 | false=>rw[hck]at h1;cases h1
 | true=>
  rw[hck]at h1;simp only[cond_true]at h1;have hcl:=Nat.eq_of_beq_eq_true hck;subst hcl;split at h1<;>(try (cases h1;done));rename_i e hf;cases h1;obtain⟨y,hy,k1,k2⟩:=h4.find (λk=>Nat.beq k n) hf;have hy':ms.find? (λe=>e.born==n)=some y:=by
   rw[<-Array.find?_toList];rw[<-hy];congr 1;funext m;rw[Bool.eq_iff_iff,beq_iff_eq,Nat.beq_eq]
  have hget:(getObj L.blk).run P w= .ok (.mapIter (some Lm.blk) since seen.toArray c) w:=by simp[getObj,Sem.run,q5]
  refine zdt hR hle (x:= .tup [e.1,e.2.1]) (v:= .tuple #[y.key,y.val]) ?_ ⟨_,rfl,⟨_,_,rfl,k1,_,_,rfl,k2,rfl⟩⟩ h2;have hb:seen.toArray.back?=some n:=by simpa[Array.back?_eq_getElem?,getLast?_eq_getElem?]using hn
  simp[execOp,ho,ev,Instr.entry,hget,hb,zfs h3,hy']
end
end Go.Ab
