/- What is proved: a part of the way to the statement: AbA. No conditions. -/
import Derived.Calls
import Derived.Orders
import Derived.Below
import Derived.Laws.IdiomCopy
import Derived.ArgAppend
import Derived.RangeFuncRecord
import Derived.Lib.Strings
import Derived.Laws.StructEq
import Derived.Laws.Tables
import Derived.Great.BuildSlice
import Derived.Laws.IdiomStrings
import Derived.Laws.MakeOwn
import Derived.Deep.AppendSrc
import Derived.Maps.RangeRun
set_option linter.unusedVariables false
set_option linter.unusedSimpArgs false
namespace Go.Ab
open List
open Go.RowKit (Below)
inductive a7 where
 | undef
 | bool (b:Bool)
 | int (k:IntKind) (n:Int)
 | str (s:List UInt8)
 | sP
 | ptr (id gen off:Nat)
 | aA
 | sz
 | sl (id gen off len es cp:Nat)
 | sQ
 | nV
 | mp (id:Nat)
 | fn (f:Nat) (first gX:List a7)
 | qb (id:Nat)
 | agg (cs:List a7)
 | bI (vs:List a7)
 deriving Inhabited
structure Loc where
 bT:Nat
 base:Nat
 lo:Nat
 size:Nat
abbrev bP:=Nat->Nat->Option Loc
mutual
def dB(ρ:bP):a7->Value->Prop | .undef,_=>True | .bool b,v=>v= .bool b | .int k n,v=>v= .int k n | .str s,v=>∃b:ByteArray,v= .string b /\ b.data.toList=s | .sP,v=>v= .pointer none | .ptr id g off,v=>∃L,ρ id g=some L /\ L.lo <= off /\ v= .pointer (some ⟨L.bT,L.base+(off-L.lo),none⟩) | .aA,v=>v= .slice none 0 0 | .sz,v=>∃a,v= .slice (some a) 0 0 | .sl id g off len es cp,v=>∃L,ρ id g=some L /\ L.lo <= off /\ ((∃cap,v= .slice (some ⟨L.bT,L.base+(off-L.lo),none⟩) len cap /\ len <= cap /\ L.base+(off-L.lo)+cap*es <= L.size /\ cap <= maxLen /\ cp <= cap /\ (cp=0->len=cap \/ len=0)) \/ (len=0 /\ cp=0 /\ ∃a,v= .slice (some a) 0 0)) | .sQ,v=>v= .nilFunc | .nV,v=>v= .map none | .mp id,v=>∃L,ρ id 0=some L /\ v= .map (some L.bT) | .fn f first gX,v=>∃l l',v= .func (.func f) (List.toArray l) (List.toArray l') /\ dJ ρ first l /\ dJ ρ gX l' | .qb id,v=>∃L,ρ id 0=some L /\ v= .func (.yield L.bT) #[] #[] | .agg cs,v=>∃l:List Value,v= .agg l.toArray /\ dJ ρ cs l /\ ∀u∈l,u.oneCell'=true | .bI vs,v=>∃l:List Value,v= .tuple l.toArray /\ dJ ρ vs l
def dJ(ρ:bP):List a7->List Value->Prop|[],l=>l=[]|a::as,l=>∃u us,l=u::us /\ dB ρ a u /\ dJ ρ as us
end
def bP.le(ρ ρ':bP):Prop:=∀i g L,ρ i g=some L->ρ' i g=some L
theorem bP.le_refl(ρ:bP):ρ.le ρ:=λ_ _ _ h=>h
theorem bP.le_trans{a b c:bP}(h:a.le b)(k:b.le c):a.le c:=λi g L e=>k i g L (h i g L e)
mutual
theorem dB.mono{ρ ρ':bP}(h:ρ.le ρ'):∀(a:a7)(v:Value),dB ρ a v->dB ρ' a v | .undef,_,_=>trivial | .bool _,_,e=>e | .int _ _,_,e=>e | .str _,_,e=>e | .sP,_,e=>e | .ptr _ _ _,_,⟨L,h1,b⟩=>⟨L,h _ _ _ h1,b⟩ | .aA,_,e=>e | .sz,_,e=>e | .sl _ _ _ _ _ _,_,⟨L,h1,b⟩=>⟨L,h _ _ _ h1,b⟩ | .sQ,_,e=>e | .nV,_,e=>e | .mp _,_,⟨L,h1,b⟩=>⟨L,h _ _ _ h1,b⟩ | .fn _ first gX,_,⟨l,l',e,h1,b⟩=>⟨l,l',e,dJ.mono h first l h1,dJ.mono h gX l' b⟩ | .qb _,_,⟨L,h1,e⟩=>⟨L,h _ _ _ h1,e⟩ | .agg cs,_,⟨l,e,h1,b⟩=>⟨l,e,dJ.mono h cs l h1,b⟩ | .bI vs,_,⟨l,e,h1⟩=>⟨l,e,dJ.mono h vs l h1⟩
theorem dJ.mono{ρ ρ':bP}(h:ρ.le ρ'):∀(as:List a7)(l:List Value),dJ ρ as l->dJ ρ' as l|[],_,e=>e|a::as,_,⟨u,us,e,h1,b⟩=>⟨u,us,e,dB.mono h a u h1,dJ.mono h as us b⟩
end
theorem dJ.length{ρ:bP}:∀{as:List a7}{l:List Value},dJ ρ as l->as.length=l.length
 | [],_,e=>by subst e;rfl
 | a::as,_,⟨u,us,e,_,b⟩=>by subst e;simp[dJ.length b]
theorem dJ.get{ρ:bP}:∀{as:List a7}{l:List Value},dJ ρ as l->∀{i:Nat}{a:a7},as[i]?=some a->∃u:Value,l[i]?=some u /\ dB ρ a u
 | [],_,_,i,a,h=>by simp at h
 | x::xs,_,⟨u,us,e,h1,d⟩,i,a,h=>by
  subst e
  cases i with
  | zero=>simp at h;subst h;exact⟨u,by simp,h1⟩
  | succ i=>simp at h;obtain⟨b,hu,c⟩:=dJ.get d h;exact⟨b,by simpa using hu,c⟩
theorem dJ.AZ{ρ:bP}:∀{as:List a7}{l:List Value},as.length=l.length ->
  (∀(i:Nat)(a:a7)(u:Value),as[i]?=some a->l[i]?=some u->dB ρ a u)->dJ ρ as l
 | [],l,h,_=>by
  cases l with
  | nil=>rfl
  | cons _ _=>simp at h
 | x::xs,l,h,k=>by
  cases l with
  | nil=>simp at h
  | cons u us=>exact⟨u,us,rfl,k 0 x u (by simp) (by simp),dJ.AZ (by simpa using h) λi a v c b=>k (i+1) a v (by simpa using c) (by simpa using b)⟩
theorem dJ.append{ρ:bP}:∀{as bs:List a7}{l m:List Value},dJ ρ as l->dJ ρ bs m->dJ ρ (as++bs) (l++m)
 | [],_,_,_,e,h=>by subst e;exact h
 | _::_,_,_,_,⟨u,us,e,h1,a⟩,h=>by subst e;exact⟨u,us++_,rfl,h1,dJ.append a h⟩
inductive vM where
 | iter (s:List UInt8) (pos:Nat)
 | map (es:List (a7×a7×Nat)) (clock:Nat)
 | mapIter (m:Option Nat) (since:Nat) (seen:List Nat) (last:Nat)
 | loop (sz:Nat) (s:Nat->a7) (ps:Array Tmp) (assign body:Code) (st:Nat)
 | sf (o:Bool)
 | gone
structure fB where
 cells:List a7
 eE:List (Nat×Nat)
 next:Nat
 own:Bool
 obj:Option vM
def a9:={ f:Nat->Option fB // ∃N,∀i,N <= i->f i=none }
abbrev zQ:=a7->a9->Prop
abbrev zL:=List a7->a9->Prop
abbrev zG:=List a7->a9->(List a7->a9->Prop)->Prop
abbrev zN:=Nat->Nat
instance:CoeFun a9 (λ_=>Nat->Option fB):=⟨Subtype.val⟩
theorem a9.ext{h H:a9}(e:∀i,h i=H i):h=H:=Subtype.ext (funext e)
def a9.empty:a9:=⟨λ_=>none,0,λ_ _=>rfl⟩
def cG(cs:List a7):fB:={ cells:=cs,eE:=[(0,cs.length)],next:=1,own:=true,obj:=none }
def jI(o:vM):fB:={ cells:=[],eE:=[],next:=1,own:=true,obj:=some o }
def bQ(h:a9)(id:Nat)(b:fB):a9:=⟨λi=>bif Nat.beq i id then some b else h i,by
 obtain⟨N,k⟩:=h.2
 refine⟨max N (id+1),λi hi=>?_⟩
 have:Nat.beq i id=false:=by rw[<-Bool.not_eq_true,Nat.beq_eq];omega
 show (bif Nat.beq i id then some b else h i)=none
 rw[this]
 exact k i (by omega)⟩
def a9.le(h H:a9):Prop:=∀i b,h i=some b->H i=some b
theorem dR(h:a9)(id:Nat)(b:fB):bQ h id b id=some b:=by simp[bQ]
theorem cQ(h:a9){id i:Nat}(b:fB)(a:i≠id):bQ h id b i=h i:=by
 have:Nat.beq i id=false:=by rw[<-Bool.not_eq_true,Nat.beq_eq];exact a
 simp[bQ,this]
theorem a9.le_refl(h:a9):h.le h:=λ_ _ e=>e
theorem a9.le_trans{a b c:a9}(h:a.le b)(k:b.le c):a.le c:=λi x e=>k i x (h i x e)
theorem hU{h:a9}{id:Nat}(b:fB)(a:h id=none):h.le (bQ h id b):=λi x e=>by
 have:i≠id:=λhi=>by subst hi;rw[a]at e;cases e
 rw[cQ h b this];exact e
theorem mc{h H:a9}{id:Nat}(b:fB)(hle:h.le H):(bQ h id b).le (bQ H id b):=λi x e=>by
 by_cases hi:i=id
 ·subst hi;rw[dR]at *;exact e
 ·rw[cQ _ _ hi]at *;exact hle i x e
theorem Ar(h:a9){i j:Nat}(a b:fB)(c:i≠j):bQ (bQ h i a) j b=bQ (bQ h j b) i a:=by
 apply a9.ext;intro k;by_cases hi:k=i
 ·subst hi;rw[cQ _ _ c,dR,dR]
 ·by_cases d:k=j
  ·subst d;rw[dR,cQ _ _ hi,dR]
  ·rw[cQ _ _ d,cQ _ _ hi,cQ _ _ hi,cQ _ _ d]
theorem Ho(h:a9)(i:Nat)(a b:fB):bQ (bQ h i a) i b=bQ h i b:=by
 apply a9.ext;intro k;by_cases hi:k=i
 ·subst hi;rw[dR,dR]
 ·rw[cQ _ _ hi,cQ _ _ hi,cQ _ _ hi]
def tU(fr:Nat×Nat)(size:Nat):Prop:=fr.1=fr.2 \/ size <= fr.1
theorem LV{lo hi n:Nat}(h:tU (lo,hi) n):tU (if lo==hi then (n,n+1) else (min lo n,max hi (n+1))) n:=by
 unfold tU at *;by_cases e:lo=hi
 ·simp[e]
 ·rcases h with h|h
  ·exact absurd h e
  ·have h':n <= lo:=h
   right;simp only[beq_iff_eq,e,if_false];exact Nat.le_min.2 ⟨h',Nat.le_refl _⟩
def fZ(ρ:bP):List (a7×a7×Nat)->List MapEntry->Prop|[],[]=>True|e::es,m::ms=>dB ρ e.1 m.key /\ dB ρ e.2.1 m.val /\ e.2.2=m.born /\ fZ ρ es ms|_,_=>False
theorem fZ.mono{ρ ρ':bP}(h:ρ.le ρ'):∀{es:List (a7×a7×Nat)}{ms:List MapEntry},fZ ρ es ms->fZ ρ' es ms|[],[],_=>trivial|_::_,_::_,⟨h1,c,b,a⟩=>⟨h1.mono h,c.mono h,b,fZ.mono h a⟩
theorem fZ.length{ρ:bP}:∀{es:List (a7×a7×Nat)}{ms:List MapEntry},fZ ρ es ms->es.length=ms.length
 | [],[],_=>rfl
 | _::_,_::_,⟨_,_,_,h⟩=>by simp[fZ.length h]
theorem fZ.append{ρ:bP}:∀{es fs:List (a7×a7×Nat)}{ms a:List MapEntry},fZ ρ es ms->fZ ρ fs a->fZ ρ (es++fs) (ms++a)|[],_,[],_,_,h=>h|_::_,_,_::_,_,⟨h1,d,c,b⟩,h=>⟨h1,d,c,fZ.append b h⟩
theorem fZ.get{ρ:bP}:∀{es:List (a7×a7×Nat)}{ms:List MapEntry},fZ ρ es ms->∀{i:Nat}{e:a7×a7×Nat},es[i]?=some e->∃m,ms[i]?=some m /\ dB ρ e.1 m.key /\ dB ρ e.2.1 m.val /\ e.2.2=m.born
 | [],[],_,_,_,h=>by simp at h
 | x::_,m::_,⟨h1,d,c,b⟩,i,e,h=>by
  cases i with
  | zero=>simp at h;subst h;exact⟨m,by simp,h1,d,c⟩
  | succ i=>simp at h;obtain⟨n,a,k⟩:=fZ.get b h;exact⟨n,by simpa using a,k⟩
theorem fZ.set{ρ:bP}:∀{es:List (a7×a7×Nat)}{ms:List MapEntry},fZ ρ es ms->∀(i:Nat){e:a7×a7×Nat}{m:MapEntry},dB ρ e.1 m.key->dB ρ e.2.1 m.val->e.2.2=m.born->fZ ρ (es.set i e) (ms.set i m)
 | [],[],_,_,_,_,_,_,_=>trivial
 | _::_,_::_,⟨h1,c,b,a⟩,i,_,_,k1,k2,k3=>by
  cases i with
  | zero=>exact⟨k1,k2,k3,a⟩
  | succ i=>exact⟨h1,c,b,fZ.set a i k1 k2 k3⟩
theorem fZ.eraseIdx{ρ:bP}:∀{es:List (a7×a7×Nat)}{ms:List MapEntry},fZ ρ es ms->∀(i:Nat),fZ ρ (es.eraseIdx i) (ms.eraseIdx i)
 | [],[],_,_=>trivial
 | _::_,_::_,⟨h1,c,b,a⟩,i=>by
  cases i with
  | zero=>exact a
  | succ i=>exact⟨h1,c,b,fZ.eraseIdx a i⟩
theorem fZ.mem{ρ:bP}:∀{es:List (a7×a7×Nat)}{ms:List MapEntry},fZ ρ es ms->∀m∈ms,∃e∈es,dB ρ e.1 m.key /\ dB ρ e.2.1 m.val /\ e.2.2=m.born
 | [],[],_,_,hm=>by cases hm
 | x::_,_::_,⟨h1,c,b,a⟩,m,hm=>by
  rcases mem_cons.1 hm with rfl|hm
  ·exact⟨x,by simp,h1,c,b⟩
  ·obtain⟨e,he,k⟩:=fZ.mem a m hm;exact⟨e,by simp[he],k⟩
theorem fZ.filter{ρ:bP}(p:Nat->Bool):∀{es:List (a7×a7×Nat)}{ms:List MapEntry},fZ ρ es ms->fZ ρ (es.filter λe=>p e.2.2) (ms.filter λm=>p m.born)
 | [],[],_=>trivial
 | x::_,m::_,⟨h1,c,b,a⟩=>by
  simp only[filter_cons,b]
  cases p m.born
  ·exact fZ.filter p a
  ·exact⟨h1,c,b,fZ.filter p a⟩
theorem fZ.find{ρ:bP}(p:Nat->Bool):∀{es:List (a7×a7×Nat)}{ms:List MapEntry},fZ ρ es ms->∀{e:a7×a7×Nat},(es.find? λe=>p e.2.2)=some e->∃m,(ms.find? λm=>p m.born)=some m /\ dB ρ e.1 m.key /\ dB ρ e.2.1 m.val
 | [],[],_,_,h=>by cases h
 | x::_,m::_,⟨h1,d,c,b⟩,e,h=>by
  simp only[find?_cons,c]at h ⊢
  cases a:p m.born
  ·simp only[a]at h;exact fZ.find p b h
  ·simp only[a,Option.some.injEq]at h;subst h;exact⟨m,rfl,h1,d⟩
theorem fZ.findIdx{ρ:bP}(p:Nat->Bool):∀{es:List (a7×a7×Nat)}{ms:List MapEntry},fZ ρ es ms->(es.findIdx? λe=>p e.2.2)=(ms.findIdx? λm=>p m.born)
 | [],[],_=>rfl
 | x::_,m::_,⟨h1,c,b,a⟩=>by
  simp only[findIdx?_cons,b,fZ.findIdx p a]
def xC:Nat->LoopState×Option Code|0=>(.busy,none)|1=>(.ready,none)|2=>(.done,some .ret)|j+3=>(.done,some (.exit j))
def vF(ρ:bP):vM->Obj->Prop | .iter s pos,o=>∃b,o= .stringIter b pos /\ b.data.toList=s | .map es clock,o=>∃ms,o= .map ms clock /\ fZ ρ es ms.toList | .mapIter none since seen last,o=>o= .mapIter none since seen.toArray last | .mapIter (some id) since seen last,o=>∃L,ρ id 0=some L /\ o= .mapIter (some L.bT) since seen.toArray last | .loop sz s ps assign body st,o=>∃r:Loop,o= .loop r /\ r.params=ps /\ r.assign=assign /\ r.body=body /\ r.tmps.size=sz /\ (∀k,dB ρ (s k) (r.tmps.getD k Go.undef)) /\ r.state=(xC st).1 /\ r.pending=(xC st).2 | .sf b,o=>o= .deferred (if b then some [] else none) | .gone,o=>∀arr e fr,o≠ .cells arr e fr
structure Qa(B:Nat)(ρ:bP)(w:World)(id:Nat)(b:fB):Prop where
 qc:∀g,b.next <= g->ρ id g=none
 gen:∀g hi,(g,hi)∈b.eE->hi <= b.cells.length /\ ∃L arr e fr,ρ id g=some L /\ w.heap[L.bT]?=some (.cells arr e fr) /\ arr.size=L.size /\
  L.base+(hi-L.lo) <= L.size /\ (b.own=true->B <= L.bT /\ tU fr L.size) /\
  ∀j,L.lo <= j->j<hi->∀a,b.cells[j]?=some a->∃u,arr[L.base+(j-L.lo)]?=some u /\ dB ρ a u /\ u.oneCell'=true
 align:∀g hi g' dZ,(g,hi)∈b.eE->(g',dZ)∈b.eE->∀L L',ρ id g=some L->ρ id g'=some L'->L.bT=L'.bT->L.base+L'.lo=L'.base+L.lo
 obj:∀o,b.obj=some o->b.eE=[] /\ ∃L ob,ρ id 0=some L /\ L.base=0 /\ L.lo=0 /\ B <= L.bT /\ w.heap[L.bT]?=some ob /\ vF ρ o ob
structure R(w0:World)(ρ:bP)(H:a9)(w:World):Prop where
 below:Below w0.heap.size w0 w
 fin:∃N,∀i,N <= i->H i=none /\ ∀g,ρ i g=none
 bT:∀id b,H id=some b->Qa w0.heap.size ρ w id b
 sep:∀i j bi bj,i≠j->H i=some bi->H j=some bj->bi.own=true->∀gi∈bi.eE,∀gj∈bj.eE,∀Li Lj,ρ i gi.1=some Li->ρ j gj.1=some Lj->Li.bT≠Lj.bT
 nT:∀i j bi bj,i≠j->H i=some bi->H j=some bj->bi.obj.isSome=true->bj.obj.isSome=true->∀Li Lj,ρ i 0=some Li->ρ j 0=some Lj->Li.bT≠Lj.bT
theorem vF.mono{ρ ρ':bP}(h:ρ.le ρ'):∀{o:vM}{ob:Obj},vF ρ o ob->vF ρ' o ob | .iter _ _,_,e=>e | .map _ _,_,⟨ms,e,h1⟩=>⟨ms,e,h1.mono h⟩ | .mapIter none _ _ _,_,e=>e | .mapIter (some _) _ _ _,_,⟨L,h1,e⟩=>⟨L,h _ _ _ h1,e⟩ | .loop _ _ _ _ _ _,_,⟨r,h1,g,f,d,c,b,a⟩=>⟨r,h1,g,f,d,c,λk=>(b k).mono h,a⟩ | .sf _,_,e=>e | .gone,_,e=>e
theorem vF.A3{ρ:bP}:∀{o:vM}{ob:Obj},vF ρ o ob->∀arr e fr,ob≠ .cells arr e fr
 | .iter _ _,_,⟨_,e,_⟩,_,_,_=>by rw[e];simp
 | .map _ _,_,⟨_,e,_⟩,_,_,_=>by rw[e];simp
 | .mapIter none _ _ _,_,e,_,_,_=>by rw[show _=_ from e];simp
 | .mapIter (some _) _ _ _,_,⟨_,_,e⟩,_,_,_=>by rw[e];simp
 | .loop _ _ _ _ _ _,_,⟨_,e,_⟩,_,_,_=>by rw[e];simp
 | .sf _,_,e,_,_,_=>by rw[show _=_ from e];simp
 | .gone,_,e,_,_,_=>e _ _ _
theorem R.freeze{w0:World}{ρ:bP}{H:a9}{w:World}(h:R w0 ρ H w){k:Nat}(hb:w0.heap.size <= k){arr:Array Value}{e:TypeId}{fr:Nat×Nat}(d:w.heap[k]?=some (.cells arr e fr)):R w0 ρ H (w.freeze ⟨k,arr.size,none⟩ 1):=by
 have hw:(w.freeze ⟨k,arr.size,none⟩ 1).heap=w.heap.modify k fun
   | .cells c elem (lo,hi)=> .cells c elem (if lo==hi then (arr.size,arr.size+1) else (min lo arr.size,max hi (arr.size+1)))
   | o=>o:=rfl
 have a:∀i,i≠k->(w.freeze ⟨k,arr.size,none⟩ 1).heap[i]?=w.heap[i]? :=λi hi=>by
  rw[hw,Array.getElem?_modify,if_neg (Ne.symm hi)]
 obtain⟨lo,hi⟩:=fr
 have u:(w.freeze ⟨k,arr.size,none⟩ 1).heap[k]?=some (.cells arr e (if lo==hi then (arr.size,arr.size+1) else (min lo arr.size,max hi (arr.size+1)))):=by
  rw[hw,Array.getElem?_modify,if_pos rfl,d];rfl
 constructor
 ·refine h.below.trans ⟨rfl,rfl,rfl,?_,λi hi=>a i (by omega)⟩
  rw[hw,Array.size_modify];exact Nat.le_refl _
 ·exact h.fin
 ·intro id b v
  have p:=h.bT id b v;refine⟨p.qc,λg x hm=>?_,p.align,λo q=>?_⟩
  ·obtain⟨t,L,arr',y,fr',s,n,m,r,f,l⟩:=p.gen g x hm
   by_cases j:L.bT=k
   ·rw[j,d]at n
    cases n;refine⟨t,L,arr,e,_,s,by rw[j];exact u,m,r,λq=>⟨(f q).1,?_⟩,l⟩;have:=(f q).2;rw[<-m]at this ⊢;exact LV this
   ·exact⟨t,L,arr',y,fr',s,by rw[a _ j];exact n,m,r,f,l⟩
  ·obtain⟨t,L,ob,s,n,m,r,f,l⟩:=p.obj o q
   refine⟨t,L,ob,s,n,m,r,?_,l⟩;by_cases j:L.bT=k
   ·rw[j,d]at f
    cases f;exact absurd rfl (l.A3 _ _ _)
   ·rw[a _ j];exact f
 ·exact h.sep
 ·exact h.nT
theorem R.drew{w0:World}{ρ:bP}{H:a9}{w:World}(h:R w0 ρ H w)(n:Nat):R w0 ρ H { w with drawn:=n } where
 below:=h.below.trans ⟨rfl,rfl,rfl,Nat.le_refl _,λ_ _=>rfl⟩
 fin:=h.fin
 bT:=λid b e=>let k:=h.bT id b e;⟨k.qc,k.gen,k.align,k.obj⟩
 sep:=h.sep
 nT:=h.nT
def bP.put(ρ:bP)(id g:Nat)(L:Loc):bP:=λi k=>if i=id /\ k=g then some L else ρ i k
theorem bP.kX(ρ:bP)(id g:Nat)(L:Loc):ρ.put id g L id g=some L:=by simp[bP.put]
theorem bP.iJ(ρ:bP){id g i k:Nat}(L:Loc)(h:¬(i=id /\ k=g)):ρ.put id g L i k=ρ i k:=by simp[bP.put,h]
theorem bP.sB{ρ:bP}{id g:Nat}(L:Loc)(h:ρ id g=none):ρ.le (ρ.put id g L):=λi k X e=>by
 rw[bP.iJ]
 ·exact e
 ·rintro⟨rfl,rfl⟩;rw[h]at e;cases e
theorem R.new{w0:World}{ρ:bP}{H:a9}{w:World}(h:R w0 ρ H w){id:Nat}(M:H id=none)(hρ:∀g,ρ id g=none)
  (cs:List a7) (arr:Array Value) (e:TypeId) (fr:Nat×Nat) (B:tU fr arr.size) (K:cs.length <= arr.size)
  (O:∀(j:Nat)(a:a7),cs[j]?=some a->∃u,arr[j]?=some u /\ dB ρ a u /\ u.oneCell'=true):
  R w0 (ρ.put id 0 ⟨w.heap.size,0,0,arr.size⟩) (bQ H id (cG cs)) { w with heap:=w.heap.push (.cells arr e fr) }:=by
 have hle:ρ.le (ρ.put id 0 ⟨w.heap.size,0,0,arr.size⟩):=bP.sB _ (hρ 0);have hold:∀k o,w.heap[k]?=some o->(w.heap.push (.cells arr e fr))[k]?=some o:=λk o hk=>by
  rw[Array.getElem?_push];have:k<w.heap.size:=(Array.getElem?_eq_some_iff.1 hk).1;rw[if_neg (by omega)];exact hk
 have v:=h.below.size;constructor
 ·exact h.below.trans ⟨rfl,rfl,rfl,by simp,λk hk=>by
   show (w.heap.push _)[k]?=_;rw[Array.getElem?_push,if_neg (by omega)]⟩
 ·obtain⟨N,k⟩:=h.fin
  refine⟨max N (id+1),λi hi=>⟨?_,λg=>?_⟩⟩
  ·rw[cQ _ _ (by omega)];exact(k i (by omega)).1
  ·rw[bP.iJ _ _ (by omega)];exact(k i (by omega)).2 g
 ·intro i b hb
  by_cases hi:i=id
  ·subst hi
   rw[dR]at hb;cases hb;refine⟨λg s=>?_,λg hi hm=>?_,λg hi g' dZ hm m L L' e1 c _=>?_,λo x=>by simp[cG]at x⟩
   ·rw[bP.iJ]
    ·exact hρ g
    ·simp only[cG]at s;omega
   ·simp only[cG,mem_singleton,Prod.mk.injEq]at hm
    obtain⟨rfl,rfl⟩:=hm;refine⟨Nat.le_refl _,⟨w.heap.size,0,0,arr.size⟩,arr,e,fr,bP.kX ..,?_,rfl,by simpa using K,λ_=>⟨v,B⟩,?_⟩
    ·show (w.heap.push _)[w.heap.size]?=_
     simp
    ·intro j _ d a C
     obtain⟨u,h1,f,t⟩:=O j a C;exact⟨u,by simpa using h1,f.mono hle,t⟩
   ·simp only[cG,mem_singleton,Prod.mk.injEq]at hm m
    obtain⟨rfl,rfl⟩:=hm;obtain⟨rfl,rfl⟩:=m;rw[e1]at c;cases c;rfl
  ·rw[cQ _ _ hi]at hb
   have ok:=h.bT i b hb;refine⟨λg s=>?_,λg dZ hm=>?_,λg dZ g' r hm m L L' e1 c=>?_,λo x=>?_⟩
   ·rw[bP.iJ _ _ (by omega)];exact ok.qc g s
   ·obtain⟨h0,L,arr',J,fr,h1,f,t,F,E,D⟩:=ok.gen g dZ hm
    refine⟨h0,L,arr',J,fr,hle _ _ _ h1,hold _ _ f,t,F,E,λj z y a C=>?_⟩;obtain⟨u,k1,k2,k3⟩:=D j z y a C;exact⟨u,k1,k2.mono hle,k3⟩
   ·rw[bP.iJ _ _ (by omega)]at e1 c
    exact ok.align g dZ g' r hm m L L' e1 c
   ·obtain⟨h0,L,ob,h1,f,t,F,E,D⟩:=ok.obj o x
    exact⟨h0,L,ob,hle _ _ _ h1,f,t,F,hold _ _ E,D.mono hle⟩
 ·
  have lt:∀j bj,H j=some bj->∀gj∈bj.eE,∀Lj,ρ j gj.1=some Lj->Lj.bT<w.heap.size:=λj bj d gj s Lj P=>by
   obtain⟨_,L,arr',J,fr,h1,f,_⟩:=(h.bT j bj d).gen gj.1 gj.2 s;rw[P]at h1;cases h1;exact(Array.getElem?_eq_some_iff.1 f).1
  intro i j bi bj l hi d q gi p gj n Li Lj e1 c;by_cases h1:i=id
  ·subst h1
   rw[dR]at hi;cases hi;rw[cQ _ _ (Ne.symm l)]at d;simp only[cG,mem_singleton]at p;subst p;rw[bP.kX]at e1;cases e1;rw[bP.iJ _ _ (by omega)]at c;have:=lt j bj d gj n Lj c;simp only;omega
  ·rw[cQ _ _ h1]at hi
   rw[bP.iJ _ _ (by omega)]at e1;by_cases f:j=id
   ·subst f
    rw[dR]at d;cases d;simp only[cG,mem_singleton]at n;subst n;rw[bP.kX]at c;cases c;have:=lt i bi hi gi p Li e1;simp only;omega
   ·rw[cQ _ _ f]at d
    rw[bP.iJ _ _ (by omega)]at c;exact h.sep i j bi bj l hi d q gi p gj n Li Lj e1 c
 ·intro i j bi bj l hi d I G Li Lj e1 c
  have h1:i≠id:=λA=>by subst A;rw[dR]at hi;cases hi;simp[cG]at I
  have f:j≠id:=λA=>by subst A;rw[dR]at d;cases d;simp[cG]at G
  rw[cQ _ _ h1]at hi;rw[cQ _ _ f]at d;rw[bP.iJ _ _ (by omega)]at e1 c;exact h.nT i j bi bj l hi d I G Li Lj e1 c
end Go.Ab
namespace Go.Ab
open List
open Go.RowKit (Below)
structure Bi(w w':World)(k:Nat)(arr:Array Value)(e:TypeId)(fr:Nat×Nat):Prop where
 os:w'.os=w.os
 tape:w'.tape=w.tape
 output:w'.output=w.output
 size:w'.heap.size=w.heap.size
 at_:w'.heap[k]?=some (.cells arr e fr)
 other:∀i,i≠k->w'.heap[i]?=w.heap[i]?
theorem Bi.below{w0 w w':World}{k:Nat}{arr:Array Value}{e:TypeId}{fr:Nat×Nat}(h:Bi w w' k arr e fr)(hb:Below w0.heap.size w0 w)(hk:w0.heap.size <= k):Below w0.heap.size w0 w':=hb.trans ⟨h.os,h.tape,h.output,Nat.le_of_eq h.size.symm,λi hi=>h.other i (by omega)⟩
theorem R.write{w0:World}{ρ:bP}{H:a9}{w w':World}(h:R w0 ρ H w){id:Nat}{b:fB}(f:H id=some b)(c:b.own=true)
  {g hi:Nat} (q:(g,hi)∈b.eE) {L:Loc} (G:ρ id g=some L) {arr':Array Value} {e:TypeId} {fr':Nat×Nat} (E:tU fr' L.size) (y:Bi w w' L.bT arr' e fr') (C:arr'.size=L.size)
  (fq:List a7) (F:hi <= fq.length)
  (X:∀j,L.lo <= j->j<hi->∀a,fq[j]?=some a->∃u,arr'[L.base+(j-L.lo)]?=some u /\ dB ρ a u /\ u.oneCell'=true):
  R w0 ρ (bQ H id { b with cells:=fq,eE:=[(g,hi)] }) w':=by
 obtain⟨h0,L',arr,e',fr,h1,Z,h3,Y,P,h6⟩:=(h.bT id b f).gen g hi q;rw[G]at h1;cases h1;have s:b.obj=none:=by
  cases v:b.obj with
  | none=>rfl
  | some o=>have:=((h.bT id b f).obj o v).1;rw[this]at q;cases q
 constructor
 ·exact y.below h.below (P c).1
 ·obtain⟨N,k⟩:=h.fin
  refine⟨max N (id+1),λi hi=>⟨?_,λg=>(k i (by omega)).2 g⟩⟩;rw[cQ _ _ (by omega)];exact(k i (by omega)).1
 ·intro i bi hb
  by_cases dZ:i=id
  ·subst dZ
   rw[dR]at hb;cases hb;refine⟨λg q=>(h.bT i b f).qc g q,λg' dZ hm=>?_,λg1 k1 g2 k2 hm x J L2 e1 r _=>?_,λo v=>by simp[s]at v⟩
   ·simp only[mem_singleton,Prod.mk.injEq]at hm
    obtain⟨rfl,rfl⟩:=hm;exact⟨F,L,arr',e,fr',G,y.at_,C,Y,λ_=>⟨(P c).1,E⟩,X⟩
   ·simp only[mem_singleton,Prod.mk.injEq]at hm x
    obtain⟨rfl,rfl⟩:=hm;obtain⟨rfl,rfl⟩:=x;rw[e1]at r;cases r;rfl
  ·rw[cQ _ _ dZ]at hb
   have ok:=h.bT i bi hb;refine⟨ok.qc,λg' p hm=>?_,ok.align,λo v=>?_⟩
   case refine_2=>
    obtain⟨V,Lo,ob,U,T,S,Q,B,K⟩:=ok.obj o v;refine⟨V,Lo,ob,U,T,S,Q,?_,K⟩;rw[y.other _ (λhx=>by rw[hx,Z]at B;exact K.A3 _ _ _ (Option.some.inj B).symm)];exact B
   obtain⟨W,J,arr1,e1,I,k1,k2,k3⟩:=ok.gen g' p hm;have:=h.sep id i b bi (Ne.symm dZ) f hb c (g,hi) q (g',p) hm L J G k1;exact⟨W,J,arr1,e1,I,k1,by rw[y.other _ (Ne.symm this)];exact k2,k3⟩
 ·intro i j bi bj d dZ l t gi n gj m Li Lj e1 r
  by_cases A:i=id
  ·subst A
   rw[dR]at dZ;cases dZ;rw[cQ _ _ (Ne.symm d)]at l;simp only[mem_singleton]at n;subst n;exact h.sep i j b bj d f l c (g,hi) q gj m Li Lj e1 r
  ·rw[cQ _ _ A]at dZ
   by_cases z:j=id
   ·subst z
    rw[dR]at l;cases l;simp only[mem_singleton]at m;subst m;exact h.sep i j bi b d dZ f t gi n (g,hi) q Li Lj e1 r
   ·rw[cQ _ _ z]at l
    exact h.sep i j bi bj d dZ l t gi n gj m Li Lj e1 r
 ·intro i j bi bj d dZ l O M Li Lj e1 r
  have A:i≠id:=λD=>by subst D;rw[dR]at dZ;cases dZ;simp[s]at O
  have z:j≠id:=λD=>by subst D;rw[dR]at l;cases l;simp[s]at M
  rw[cQ _ _ A]at dZ;rw[cQ _ _ z]at l;exact h.nT i j bi bj d dZ l O M Li Lj e1 r
def xv(eE:List (Nat×Nat))(e:Nat):List (Nat×Nat):=eE.map λp=>(p.1,min p.2 e)
theorem C7{eE:List (Nat×Nat)}{e g k:Nat}(h:(g,k)∈xv eE e):∃a,(g,a)∈eE /\ k=min a e:=by
 obtain⟨⟨g',a⟩,h1,b⟩:=mem_map.1 h;simp only[Prod.mk.injEq]at b;obtain⟨rfl,rfl⟩:=b;exact⟨a,h1,rfl⟩
def jd(b:fB)(e:Nat)(news:List a7):fB:={ cells:=b.cells.take e++news,eE:=(b.next,e+news.length)::xv b.eE e,next:=b.next+1,own:=b.own,obj:=none }
theorem R.app{w0:World}{ρ:bP}{H:a9}{w w':World}(h:R w0 ρ H w){id:Nat}{b:fB}(B:H id=some b)(A:b.own=true)
  {g hi:Nat} (D:(g,hi)∈b.eE) {L:Loc} (W:ρ id g=some L) {e:Nat} (he:e <= hi) (hlo:L.lo <= e) (news:List a7) (L':Loc)
  (U:Below w0.heap.size w0 w')
  (F:(L'.bT=L.bT /\ L'.base=L.base /\ L'.lo=L.lo /\ L'.size=L.size) \/ (w.heap.size <= L'.bT /\ L.lo <= L'.lo /\ L'.lo <= e))
  (hb':w0.heap.size <= L'.bT)
  (hothers:∀k,k≠L.bT->k<w.heap.size->w'.heap[k]?=w.heap[k]?)
  (hold:∀arr ty fr,w.heap[L.bT]?=some (.cells arr ty fr)->∃arr',w'.heap[L.bT]?=some (.cells arr' ty fr) /\ arr'.size=arr.size /\ ∀x,x<L.base+(e-L.lo)->arr'[x]?=arr[x]?)
  {arr':Array Value} {ty:TypeId} {fr':Nat×Nat} (hfr:tU fr' L'.size) (hat:w'.heap[L'.bT]?=some (.cells arr' ty fr')) (Z:arr'.size=L'.size) (I:L'.base+(e+news.length-L'.lo) <= L'.size)
  (hc:∀j,L'.lo <= j->j<e+news.length->∀a,(b.cells.take e++news)[j]?=some a->∃u,arr'[L'.base+(j-L'.lo)]?=some u /\ dB ρ a u /\ u.oneCell'=true):
  R w0 (ρ.put id b.next L') (bQ H id (jd b e news)) w':=by
 have okb:=h.bT id b B;obtain⟨h0,L0,arr,e',fr,h1,h2,h3,h4,h5,h6⟩:=okb.gen g hi D;rw[W]at h1;cases h1;have Q:ρ id b.next=none:=okb.qc _ (Nat.le_refl _)
 have hle:ρ.le (ρ.put id b.next L'):=bP.sB _ Q;have T:∀g1 k1,(g1,k1)∈b.eE->g1≠b.next:=λg1 k1 hm hx=>by
  obtain⟨_,c,_,_,_,k,_⟩:=okb.gen g1 k1 hm;rw[hx,Q]at k;cases k
 have q:∀k o,w.heap[k]?=some o->k<w.heap.size:=λk o hk=>(Array.getElem?_eq_some_iff.1 hk).1;have M:(b.cells.take e).length=e:=by rw[length_take];omega
 constructor
 ·exact U
 ·obtain⟨N,k⟩:=h.fin
  refine⟨max N (id+1),λi hi=>⟨?_,λg=>?_⟩⟩
  ·rw[cQ _ _ (by omega)];exact(k i (by omega)).1
  ·rw[bP.iJ _ _ (by omega)];exact(k i (by omega)).2 g
 ·intro i bi hb
  by_cases dZ:i=id
  ·subst dZ
   rw[dR]at hb;cases hb;refine⟨λg D=>?_,λg1 k1 hm=>?_,λg1 k1 g2 k2 hm l c L2 e1 p heq=>?_,λo ho=>by simp[jd]at ho⟩
   ·simp only[jd]at D
    rw[bP.iJ _ _ (by omega)];exact okb.qc g (by omega)
   ·simp only[jd,mem_cons,Prod.mk.injEq]at hm
    rcases hm with⟨rfl,rfl⟩|hm
    ·refine⟨by simp only[jd,length_append,M];omega,L',arr',ty,fr',bP.kX ..,hat,Z,I,λ_=>⟨hb',hfr⟩,λj s z a K=>?_⟩
     obtain⟨u,k1,k2,k3⟩:=hc j s z a K;exact⟨u,k1,k2.mono hle,k3⟩
    ·obtain⟨Y,S,rfl⟩:=C7 hm
     obtain⟨c0,c,arr1,e1,C,y,v,c3,c4,c5,c6⟩:=okb.gen g1 Y S;have O:(ρ.put i b.next L') i g1=some c:=hle _ _ _ y;have hal:=okb.align g hi g1 Y D S L c W y;have J:∀j,j<e->(b.cells.take e++news)[j]?=b.cells[j]? :=λj r=>by
      rw[getElem?_append_left (by omega),getElem?_take_of_lt r]
     have key:∃arr2,w'.heap[c.bT]?=some (.cells arr2 e1 C) /\ arr2.size=arr1.size /\ ∀j,c.lo <= j->j<min Y e->arr2[c.base+(j-c.lo)]?=arr1[c.base+(j-c.lo)]? :=by
      by_cases E:c.bT=L.bT
      ·rw[E]at v
       obtain⟨arr2,d1,d2,d3⟩:=hold arr1 e1 C v;refine⟨arr2,by rw[E];exact d1,d2,λj s z=>d3 _ ?_⟩;have:=hal E.symm;omega
      ·exact⟨arr1,by rw[hothers _ E (q _ _ v)];exact v,rfl,λ_ _ _=>rfl⟩
     obtain⟨arr2,d1,d2,d3⟩:=key;refine⟨by simp only[jd,length_append,M];omega,c,arr2,e1,C,O,d1,d2.trans c3,by omega,c5,λj s z a K=>?_⟩;simp only[jd]at K;rw[J j (by omega)]at K;obtain⟨u,k1,k2,k3⟩:=c6 j s (by omega) a K;exact⟨u,by rw[d3 j s z];exact k1,k2.mono hle,k3⟩
   ·simp only[jd,mem_cons,Prod.mk.injEq]at hm l
    have get:∀g1 k1,(g1,k1)∈xv b.eE e->∀c,(ρ.put i b.next L') i g1=some c->∃k2,(g1,k2)∈b.eE /\ ρ i g1=some c:=λg1 k1 hm c e1=>by
     obtain⟨k2,hm,_⟩:=C7 hm;refine⟨k2,hm,?_⟩;rw[bP.iJ _ _ (by rintro⟨_,hx⟩;exact T _ _ hm hx)]at e1;exact e1
    have one:∀g1 k1,(g1,k1)∈xv b.eE e->∀c,(ρ.put i b.next L') i g1=some c->L'.bT=c.bT->L'.base+c.lo=c.base+L'.lo:=λg1 k1 hm c e1 heq=>by
     obtain⟨k2,hm,e1⟩:=get g1 k1 hm c e1;obtain⟨_,L3,_,_,_,y,v,_⟩:=okb.gen g1 k2 hm;rw[e1]at y;cases y;rcases F with⟨n1,n2,n3,_⟩|⟨n1,_⟩
     ·have:=okb.align g hi g1 k2 D hm L c W e1 (n1 ▸ heq)
      omega
     ·have:=q _ _ v
      omega
    rcases hm with⟨rfl,rfl⟩|hm
    ·rw[bP.kX]at e1
     cases e1;rcases l with⟨rfl,rfl⟩|l
     ·rw[bP.kX]at p
      cases p;rfl
     ·exact one _ _ l _ p heq
    ·rcases l with⟨rfl,rfl⟩|l
     ·rw[bP.kX]at p
      cases p;exact(one _ _ hm _ e1 heq.symm).symm
     ·obtain⟨k3,m1,f1⟩:=get _ _ hm _ e1
      obtain⟨k4,m2,f2⟩:=get _ _ l _ p;exact okb.align _ _ _ _ m1 m2 _ _ f1 f2 heq
  ·rw[cQ _ _ dZ]at hb
   have ok:=h.bT i bi hb;refine⟨λg D=>by rw[bP.iJ _ _ (by omega)];exact ok.qc g D,λg' G hm=>?_,λg1 k1 g2 k2 hm l c L2 e1 p=>?_,λo ho=>?_⟩
   case refine_3=>
    obtain⟨q0,Lo,ob,q1,q2,q3,q4,X,q6⟩:=ok.obj o ho;refine⟨q0,Lo,ob,hle _ _ _ q1,q2,q3,q4,?_,q6.mono hle⟩;rw[hothers _ (λhx=>by rw[hx,h2]at X;exact q6.A3 _ _ _ (Option.some.inj X).symm) (q _ _ X)];exact X
   ·obtain⟨k0,c,arr1,e1,C,k1,k2,k3,k4,k5,k6⟩:=ok.gen g' G hm
    have:=h.sep id i b bi (Ne.symm dZ) B hb A (g,hi) D (g',G) hm L c W k1;refine⟨k0,c,arr1,e1,C,hle _ _ _ k1,by rw[hothers _ (Ne.symm this) (q _ _ k2)];exact k2,k3,k4,k5,λj s z a K=>?_⟩;obtain⟨u,y,v,c3⟩:=k6 j s z a K;exact⟨u,y,v.mono hle,c3⟩
   ·rw[bP.iJ _ _ (by omega)]at e1 p
    exact ok.align _ _ _ _ hm l _ _ e1 p
 ·
  have new_ne:∀j bj,j≠id->H j=some bj->∀gj∈bj.eE,∀Lj,ρ j gj.1=some Lj->L'.bT≠Lj.bT:=λj bj d r gj t Lj V=>by
   rcases F with⟨n1,_⟩|⟨n1,_⟩
   ·rw[n1]
    exact h.sep id j b bj (Ne.symm d) B r A (g,hi) D gj t L Lj W V
   ·obtain⟨_,L3,_,_,_,y,v,_⟩:=(h.bT j bj r).gen gj.1 gj.2 t
    rw[V]at y;cases y;have:=q _ _ v;omega
  have locs:∀(gi:Nat×Nat),gi∈(jd b e news).eE->∀Li,(ρ.put id b.next L') id gi.1=some Li->Li=L' \/ ∃k,(gi.1,k)∈b.eE /\ ρ id gi.1=some Li:=λgi n Li e1=>by
   simp only[jd,mem_cons]at n;rcases n with rfl|n
   ·rw[bP.kX]at e1
    cases e1;exact .inl rfl
   ·obtain⟨k2,hm,_⟩:=C7 (g:=gi.1) (k:=gi.2) n
    rw[bP.iJ _ _ (by rintro⟨_,hx⟩;exact T _ _ hm hx)]at e1;exact .inr ⟨k2,hm,e1⟩
  intro i j bi bj d dZ r P gi n gj t Li Lj e1 p;by_cases y:i=id
  ·subst y
   rw[dR]at dZ;cases dZ;rw[cQ _ _ (Ne.symm d)]at r;rw[bP.iJ _ _ (by omega)]at p;rcases locs gi n Li e1 with rfl|⟨k,m,f⟩
   ·exact new_ne j bj (Ne.symm d) r gj t Lj p
   ·exact h.sep i j b bj d B r A (gi.1,k) m gj t Li Lj f p
  ·rw[cQ _ _ y]at dZ
   rw[bP.iJ _ _ (by omega)]at e1;by_cases v:j=id
   ·subst v
    rw[dR]at r;cases r;rcases locs gj t Lj p with rfl|⟨k,m,f⟩
    ·exact(new_ne i bi d dZ gi n Li e1).symm
    ·exact h.sep i j bi b d dZ B P gi n (gj.1,k) m Li Lj e1 f
   ·rw[cQ _ _ v]at r
    rw[bP.iJ _ _ (by omega)]at p;exact h.sep i j bi bj d dZ r P gi n gj t Li Lj e1 p
 ·intro i j bi bj d dZ r oi oj Li Lj e1 p
  have y:i≠id:=λhh=>by subst hh;rw[dR]at dZ;cases dZ;simp[jd]at oi
  have v:j≠id:=λhh=>by subst hh;rw[dR]at r;cases r;simp[jd]at oj
  rw[cQ _ _ y]at dZ;rw[cQ _ _ v]at r;rw[bP.iJ _ _ (by omega)]at e1 p;exact h.nT i j bi bj d dZ r oi oj Li Lj e1 p
end Go.Ab
namespace Go.Ab
open List
abbrev bB:=Nat->a7
abbrev aC:=Nat->List a7->a9->(zQ)->Prop
def bW(s:bB)(d:Option Nat)(v:a7):bB:=
 match d with
 | none=>s
 | some d=>λk=>bif Nat.beq k d then v else s k
def sy:Nat:=18446744073709551557
def vO(id:Nat):a7:= .agg [.agg [.qb id]]
def zi:List a7->Bool | .agg [.agg [.qb _]]::_=>true|_=>false
def a7.aI:a7->Bool | .undef | .agg _ | .bI _=>false|_=>true
def xJ:Value->a7 | .bool b=> .bool b | .int k n=> .int k n | .string s=> .str s.data.toList | .pointer none=> .sP | .slice none 0 0=> .aA | .nilFunc=> .sQ | .map none=> .nV|_=> .undef
def B9:Value->a7 | .agg cs=>if cs.all λc=>(xJ c).aI then .agg (cs.toList.map xJ) else .undef|v=>xJ v
def aO(s:bB):Operand->a7 | .tmp t=>s t | .const v=>B9 v | .global _=> .undef | .func f=> .fn f [] []
def e8(P:Program)(t:TypeId):Bool:=
 match P.underlying t with
 | some (.struct _)|some (.array _ _)=>true
 | _=>false
def xA:List (Option (List a7))->Option (List a7)
 | []=>some []
 | some l::r=>match xA r with|some m=>some (l++m)|none=>none
 | none::_=>none
def zeroAt(P:Program):Nat->TypeId->Option (List a7)
 | 0,_=>none
 | d+1,t=>
  match P.underlying t with
  | some .bool=>some [.bool false]
  | some (.int k)=>some [.int k 0]
  | some .string=>some [.str []]
  | some (.pointer _)=>some [.sP]
  | some (.slice _)=>some [.aA]
  | some (.func ..)=>some [.sQ]
  | some (.map _ _)=>some [.nV]
  | some (.struct fs)=>xA (fs.toList.map λf=>zeroAt P d f.type)
  | some (.array n e)=>match zeroAt P d e with
   | some [c]=>some (List.replicate n c)
   | some l=>some (List.replicate n l).flatten
   | none=>none
  | _=>none
def DJ:a7->Value->Bool | .bool b,.bool c=>b==c | .int k n,.int j m=>k==j&&n==m | .str s,.string b=>s==b.data.toList | .sP,.pointer none=>true | .aA,.slice none 0 0=>true | .sQ,.nilFunc=>true | .nV,.map none=>true|_,_=>false
def wj:List a7->List Value->Bool|[],[]=>true|a::as,v::vs=>DJ a v&&wj as vs|_,_=>false
def zeroOf(P:Program)(t:TypeId):Option (List a7):=
 match zeroAt P 12 t,(P.info? t).bind (·.zero) with
 | some cs,some z=>bif wj cs z.cells.toList&&Nat.beq cs.length (P.cellsOf t) then some cs else none
 | _,_=>none
def x2(P:Program):List Field->Nat->Option Nat|[],n=>some n|f::r,n=>if f.offset=n then x2 P r (n+P.cellsOf f.type) else none
inductive Ck where
 | b
 | i (k:IntKind)
 | s
def vH:List (Option (List Ck))->Option (List Ck)
 | []=>some []
 | some l::r=>match vH r with|some m=>some (l++m)|none=>none
 | none::_=>none
def wu(P:Program):Nat->TypeId->Option (List Ck)
 | 0,_=>none
 | d+1,t=>
  match P.underlying t with
  | some .bool=>bif Nat.beq (P.cellsOf t) 1 then some [.b] else none
  | some (.int k)=>bif Nat.beq (P.cellsOf t) 1 then some [.i k] else none
  | some .string=>bif Nat.beq (P.cellsOf t) 1 then some [.s] else none
  | some (.struct fs)=>bif !P.stoodInHeld t&&fs.toList.all (fun f=>f.name != "_")&&x2 P fs.toList 0==some (P.cellsOf t)
    then vH (fs.toList.map λf=>wu P d f.type) else none
  | _=>none
def zeroV(P:Program)(t:TypeId):Option a7:=
 match zeroOf P t,(P.info? t).bind (·.zero) with
 | some cs,some (.agg _)=>bif e8 P t then some (.agg cs) else none
 | some [c],some _=>bif e8 P t then none else some c
 | _,_=>none
inductive KD where
 | i
 | s
 | b
def pP(P:Program)(t:TypeId):Option KD:=
 match P.underlying t with
 | some (.int _)=>some .i
 | some .string=>some .s
 | some .bool=>some .b
 | _=>none
def yr(P:Program)(t:TypeId):Option (List Ck):=bif P.eqGuardType P.depth t then none else wu P 8 t
namespace V
def tL:Ck->a7->a7->Option Bool | .b,.bool a,.bool b=>some (a==b) | .i k,.int j a,.int l b=>if j=k /\ l=k then some (a==b) else none | .s,.str a,.str b=>some (a==b)|_,_,_=>none
def lN:List Ck->List a7->List a7->Option Bool
 | [],[],[]=>some true
 | c::cs,a::as,b::bs=>match tL c a b,lN cs as bs with
  | some x,some y=>some (x&&y)
  | _,_=>none
 | _,_,_=>none
def arith(op:BinOp)(k:IntKind)(a b:Int):Option a7:=
 match op with
 | .add=>some (.int k (k.wrap (a+b)))
 | .sub=>some (.int k (k.wrap (a-b)))
 | .mul=>some (.int k (k.wrap (a*b)))
 | .quo=>if b=0 then none else some (.int k (k.wrap (a.tdiv b)))
 | .rem=>if b=0 then none else some (.int k (a.tmod b))
 | .and=>some (.int k (k.wrap (BitVec.ofInt k.bits a &&& BitVec.ofInt k.bits b).toNat))
 | .or=>some (.int k (k.wrap (BitVec.ofInt k.bits a ||| BitVec.ofInt k.bits b).toNat))
 | .xor=>some (.int k (k.wrap (BitVec.ofInt k.bits a ^^^ BitVec.ofInt k.bits b).toNat))
 | .andNot=>some (.int k (k.wrap (BitVec.ofInt k.bits a &&& ~~~BitVec.ofInt k.bits b).toNat))
 | .eql=>some (.bool (a==b))
 | .neq=>some (.bool (a != b))
 | .lss=>some (.bool (decide (a<b)))
 | .leq=>some (.bool (decide (a <= b)))
 | .gtr=>some (.bool (decide (b<a)))
 | .geq=>some (.bool (decide (b <= a)))
 | _=>none
def shift(op:BinOp)(k:IntKind)(a b:Int):Option a7:=
 if b<0 then none else
 match op with
 | .shl=>some (.int k (k.wrap (a*2 ^ (min b.toNat k.bits))))
 | .shr=>some (.int k (a.fdiv (2 ^ (min b.toNat k.bits))))
 | _=>none
def yG(op:BinOp)(a b:List UInt8):Option a7:=
 match op with
 | .add=>if ((a.length+b.length:Nat):Int)>IntKind.i64.max then none else some (.str (a++b))
 | .eql=>some (.bool (a==b))
 | .neq=>some (.bool (!(a==b)))
 | .lss=>some (.bool (Op.bytesLess a b))
 | .leq=>some (.bool (Op.bytesLess a b||a==b))
 | .gtr=>some (.bool (!(Op.bytesLess a b||a==b)))
 | .geq=>some (.bool (!Op.bytesLess a b))
 | _=>none
def eqv(op:BinOp)(e:Bool):Option a7:=
 match op with
 | .eql=>some (.bool e)
 | .neq=>some (.bool (!e))
 | _=>none
def bin(op:BinOp)(x y:a7):Option a7:=
 match x,y with
 | .int k a,.int j b=>match op with
  | .shl | .shr=>shift op k a b
  | _=>if k=j then arith op k a b else none
 | .str a,.str b=>yG op a b
 | _,_=>none
def vC(op:BinOp)(x y:a7):Option a7:=
 match x,y with
 | .bool a,.bool b=>eqv op (a==b)
 | _,_=>none
def Bo(op:BinOp)(x y:a7):Option a7:=
 match x,y with
 | .sP,.sP=>eqv op true
 | .sP,.ptr _ _ _ | .ptr _ _ _,.sP=>eqv op false
 | _,_=>none
def ry(op:BinOp)(x y:a7):Option a7:=
 match x,y with
 | .aA,.aA=>eqv op true
 | .aA,.sl _ _ _ _ _ _ | .sl _ _ _ _ _ _,.aA | .aA,.sz | .sz,.aA=>eqv op false
 | _,_=>none
def Bp(op:BinOp)(x y:a7):Option a7:=
 match x,y with
 | .nV,.nV=>eqv op true
 | .nV,.mp _ | .mp _,.nV=>eqv op false
 | _,_=>none
def DR:KD->a7->a7->Option Bool | .i,.int k a,.int j b=>if k=j then some (a==b) else none | .s,.str a,.str b=>some (a==b) | .b,.bool a,.bool b=>some (a==b)|_,_,_=>none
def wD(kd:KD)(k:a7):List (a7×a7×Nat)->Nat->Option (Option (Nat×a7×Nat))
 | [],_=>some none
 | e::es,i=>match DR kd k e.1 with
  | some true=>some (some (i,e.2))
  | some false=>wD kd k es (i+1)
  | none=>none
def B0(op:BinOp)(x y:a7):Option a7:=
 match x,y with
 | .sQ,.sQ=>eqv op true
 | .sQ,.fn _ _ _ | .fn _ _ _,.sQ=>eqv op false
 | _,_=>none
def rN(op:BinOp)(sh:List Ck)(x y:a7):Option a7:=
 match x,y with
 | .agg xs,.agg ys=>match lN sh xs ys with
  | some e=>eqv op e
  | none=>none
 | _,_=>none
def un(op:UnOp)(x:a7):Option a7:=
 match op,x with
 | .neg,.int k n=>some (.int k (k.wrap (0-n)))
 | .xor,.int k n=>some (.int k (k.wrap (BitVec.ofInt k.bits (if k.signed then -1 else k.max) ^^^ BitVec.ofInt k.bits n).toNat))
 | .not,.bool b=>some (.bool !b)
 | _,_=>none
def toInt(k:IntKind)(x:a7):Option a7:=
 match x with
 | .int _ n=>some (.int k (k.wrap n))
 | _=>none
def AW(x:a7):Option a7:=
 match x with
 | .str b=>some (.str b)
 | _=>none
def D4(x:a7):Option UInt8:=
 match x with
 | .int .u8 n=>some (UInt8.ofNat n.toNat)
 | _=>none
def vg :List a7->Option (List UInt8)
 | []=>some []
 | x::r=>match D4 x,vg r with
  | some b,some l=>some (b::l)
  | _,_=>none
def fieldAddr(off:Nat)(x:a7):Option a7:=
 match x with
 | .ptr id g o=>some (.ptr id g (o+off))
 | _=>none
def aF(off:Nat)(x:a7):Option a7:=
 match x with
 | .agg cs=>cs[off]?
 | _=>none
def bM(off n:Nat)(x:a7):Option a7:=
 match x with
 | .agg cs=>if off+n <= cs.length then some (.agg ((cs.drop off).take n)) else none
 | _=>none
def aM(es:Nat)(x i:a7):Option a7:=
 match x,i with
 | .sl id g off len _ _,.int _ n=>if 0 <= n /\ n<len then some (.ptr id g (off+n.toNat*es)) else none
 | _,_=>none
def Bz(len es:Nat)(x i:a7):Option a7:=
 match x,i with
 | .ptr id g off,.int _ n=>if 0 <= n /\ n<len then some (.ptr id g (off+n.toNat*es)) else none
 | _,_=>none
def lS(x i:a7):Option a7:=
 match x,i with
 | .str s,.int _ n=>if 0 <= n then match s[n.toNat]? with|some b=>some (.int .u8 b.toNat)|none=>none else none
 | _,_=>none
def ext(i:Nat)(x:a7):Option a7:=
 match x with
 | .bI vs=>vs[i]?
 | _=>none
def lR(x:a7):Option a7:=
 match x with
 | .str s=>some (.int .i64 s.length)
 | _=>none
def aE(x:a7):Option a7:=
 match x with
 | .aA | .sz=>some (.int .i64 0)
 | .sl _ _ _ n _ _=>some (.int .i64 n)
 | _=>none
def vI(x:a7):Option a7:=
 match x with
 | .aA | .sz=>some (.int .i64 0)
 | _=>none
def min2(x y:a7):Option a7:=
 match x,y with
 | .int k a,.int _ b=>some (.int k (if b<a then b else a))
 | _,_=>none
def max2(x y:a7):Option a7:=
 match x,y with
 | .int k a,.int _ b=>some (.int k (if b>a then b else a))
 | _,_=>none
def asNat(x:a7):Option Nat:=
 match x with
 | .int _ n=>if 0 <= n then some n.toNat else none
 | _=>none
def wF(n cp:Nat)(lo hi:Option a7):Option (Nat×Nat):=
 match (match hi with|none=>some n|some v=>asNat v),(match lo with|none=>some 0|some v=>asNat v) with
 | some h,some l=>if l <= h /\ h <= max n cp then some (l,h) else none
 | _,_=>none
def ends(n:Nat)(lo hi:Option a7):Option (Nat×Nat):=wF n n lo hi
def uD(x:a7)(lo hi:Option a7):Option a7:=
 match x with
 | .str s=>match ends s.length lo hi with
  | some (l,h)=>some (.str ((s.take h).drop l))
  | none=>none
 | _=>none
def dS(es:Nat)(x:a7)(lo hi:Option a7):Option a7:=
 match x with
 | .sl id g off n a cp=>match wF n cp lo hi with
  | some (l,h)=>if a=es then some (.sl id g (off+l*es) (h-l) es (max n cp-l)) else none
  | none=>none
 | .sz=>match ends 0 lo hi with
  | some _=>some .sz
  | none=>none
 | .aA=>match ends 0 lo hi with
  | some _=>some .aA
  | none=>none
 | _=>none
def nX(es:Nat)(x lo hi b:a7):Option a7:=
 match x,asNat lo,asNat hi,asNat b with
 | .sl id g off n a cp,some l,some h,some m=>if l <= h /\ h <= m /\ m <= max n cp /\ a=es then some (if m=l then .sz else .sl id g (off+l*es) (h-l) es (if h=m then 0 else m-l)) else none
 | .sz,some 0,some 0,some 0=>some .sz
 | .aA,some 0,some 0,some 0=>some .aA
 | _,_,_,_=>none
def pY(off:Nat)(v:a7)(cs:List a7):Option (List a7):=bif v.aI then (if off<cs.length then some (cs.set off v) else none) else none
def mf(off n:Nat)(v:a7)(cs:List a7):Option (List a7):=
 match v with
 | .agg xs=>if xs.length=n /\ off+n <= cs.length then some (cs.take off++xs++cs.drop (off+n)) else none
 | _=>none
end V
def bN:List (Nat×Option Nat×a7)->List a7->Option (List a7)
 | [],cs=>some cs
 | (off,none,v)::r,cs=>match V.pY off v cs with|some cs=>bN r cs|none=>none
 | (off,some n,v)::r,cs=>match V.mf off n v cs with|some cs=>bN r cs|none=>none
def A.cD(ps:List (Nat×Option Nat×a7))(z:List a7):Option a7:=
 match bN ps z with
 | some cs=>some (.agg cs)
 | none=>none
def bG(n:Nat)(z:List a7):List a7:=
 match z with
 | [x]=>List.replicate n x
 | z=>(List.replicate n z).flatten
namespace A
variable(h:a9)
def ok(b:Bool)(p:Prop):Prop:=bif b then p else False
theorem tJ{b:Bool}{p:Prop}:ok b p↔b=true /\ p:=by cases b<;>simp[ok]
def pv(o:Option a7)(K:a7->Prop):Prop:=
 match o with
 | some v=>K v
 | none=>False
def cond(c:a7)(x y:Prop):Prop:=
 match c with
 | .bool b=>(b=true->x) /\ (b=false->y)
 | _=>False
def pick(c a b:a7)(K:a7->Prop):Prop:=
 match c with
 | .bool c=>K (bif c then a else b)
 | _=>False
def gd(c:a7)(want:Bool)(M:(zQ)->Prop)(K:zQ):Prop:=
 match c with
 | .bool b=>(b=want->M K) /\ (b≠want->K (.bI []) h)
 | .bI []=>K (.bI []) h
 | _=>False
def new(cs:List a7)(K:Nat->a9->Prop):Prop:=∀id,h id=none->K id (bQ h id (cG cs))
def bL(o:Option (List a7))(K:Nat->a9->Prop):Prop:=
 match o with
 | some cs=>new h cs K
 | none=>False
def kZ(n:Nat)(v:a7):Option (List a7):=
 match v with
 | .agg cs=>if cs.length=n then some cs else none
 | _=>none
def sD(v:a7):Option (List a7):=bif v.aI then some [v] else none
def bX(p:a7):Option a7:=
 match p with
 | .ptr id g off=>match h id with
  | some b=>match b.eE.lookup g with
   | some hi=>if off<hi then b.cells[off]? else none
   | none=>none
  | none=>none
 | _=>none
def fF(p:a7)(n:Nat):Option a7:=
 match p with
 | .ptr id g off=>match h id with
  | some b=>match b.eE.lookup g with
   | some hi=>if off+n <= hi then some (.agg ((b.cells.drop off).take n)) else none
   | none=>none
  | none=>none
 | _=>none
def rdv(x:a7)(n es:Nat):Option (List a7):=
 match x with
 | .aA | .sz=>if n=0 then some [] else none
 | .sl id g off len _ _=>match h id with
  | some b=>match b.eE.lookup g with
   | some hi=>if n <= len /\ off+n*es <= hi then some ((b.cells.drop off).take (n*es)) else none
   | none=>none
  | none=>none
 | _=>none
def sb(p:a7)(f:List a7->Option (List a7))(n:Nat)(off:Nat):Option a9:=
 match p with
 | .ptr id g o=>match h id with
  | some b=>match b.eE.lookup g with
   | some hi=>bif b.own&&Nat.ble (off+o+n) hi then (match f b.cells with
    | some cs=>some (bQ h id { b with cells:=cs,eE:=[(g,hi)] })
    | none=>none) else none
   | none=>none
  | none=>none
 | _=>none
def ld(p:a7)(K:a7->Prop):Prop:=pv (bX h p) K
def cR(p:a7)(n:Nat)(K:a7->Prop):Prop:=pv (fF h p n) K
def ph(o:Option a9)(K:a9->Prop):Prop:=
 match o with
 | some h=>K h
 | none=>False
def uB:a7->Nat | .ptr _ _ o=>o|_=>0
def st(p v:a7)(K:a9->Prop):Prop:=ph (sb h p (V.pY (uB p) v) 1 0) K
def gp(p:a7)(n:Nat)(v:a7)(K:a9->Prop):Prop:=ph (sb h p (V.mf (uB p) n v) n 0) K
def nilCheck(v:a7)(K:a7->Prop):Prop:=
 match v with
 | .ptr _ _ _=>K v
 | .fn _ _ _=>K v
 | _=>False
def app(es bytes:Nat)(x:a7)(news:Option (List a7))(K:zQ):Prop:=
 match news with
 | none=>False
 | some cs=>
  match x with
  | .aA=>if cs.length=0 then K .aA h else (cs.length / es)*bytes <= 140737488355328 /\ (cs.length / es) <= maxLen /\ new h cs λid h=>K (.sl id 0 0 (cs.length / es) es (cs.length / es)) h
  | .sz=>if cs.length=0 then K .sz h else (cs.length / es)*bytes <= 140737488355328 /\ (cs.length / es) <= maxLen /\ new h cs λid h=>K (.sl id 0 0 (cs.length / es) es (cs.length / es)) h
  | .sl id g off len a cp=>match h id with
   | some b=>match b.eE.lookup g with
    | some hi=>bif b.own then (a=es /\ b.own=true /\ off+len*es <= hi /\ (len+cs.length / es)*bytes <= 140737488355328 /\ len+cs.length / es <= maxLen /\
      K (.sl id b.next off (len+cs.length / es) es (len+cs.length / es)) (bQ h id (jd b (off+len*es) cs)))
     else ((a=es /\ cp=0 /\ 0<len /\ 0<cs.length / es /\ off+len*es <= hi /\ hi <= b.cells.length /\ (len+cs.length / es)*bytes <= 140737488355328 /\ len+cs.length / es <= maxLen) /\
      new h ((b.cells.drop off).take (len*es)++cs) λid h=>K (.sl id 0 0 (len+cs.length / es) es (len+cs.length / es)) h)
    | none=>False
   | none=>False
  | _=>False
def jR(x:a7):Option Nat:=
 match x with
 | .aA | .sz=>some 0
 | .sl _ _ _ n _ _=>some n
 | .str s=>some s.length
 | _=>none
def bO(es bytes:Nat)(x y:a7)(K:zQ):Prop:=
 match jR y with
 | some n=>app h es bytes x (rdv h y n es) K
 | none=>False
def Ax(y:a7):Option (List a7):=
 match y with
 | .str s=>some (s.map λb=> .int .u8 b.toNat)
 | _=>none
def pf(es:Nat)(x y:a7)(K:zQ):Prop:=
 match jR y with
 | none=>False
 | some m=>
  match x with
  | .aA | .sz=>K (.int .i64 0) h
  | .sl id g off len _ _=>match rdv h y (min m len) es with
   | none=>False
   | some cs=>ph (sb h (.ptr id g off) (V.mf off (min m len*es) (.agg cs)) (min m len*es) 0) λh=>K (.int .i64 (min m len:Nat)) h
  | _=>False
def eO(bytes:Nat)(z:Option (List a7))(l c:a7)(K:zQ):Prop:=
 match z,l,c with
 | some z,.int _ l,.int _ c=>0 <= l /\ l <= c /\ c*bytes <= 281474976710656 /\ c <= 9223372036854775807 /\
   new h (bG c.toNat z) λid h=>K (.sl id 0 0 l.toNat z.length c.toNat) h
 | _,_,_=>False
def gk(x:a7)(K:a7->Prop):Prop:=
 match jR x with
 | some n=>(match rdv h x n 1 with
  | some cs=>(match V.vg cs with
   | some l=>K (.str l)
   | none=>False)
  | none=>False)
 | none=>False
def conv(x:a7)(K:a7->Prop):Prop:=
 match x with
 | .sl id g _ n _ _=>(match h id with
  | some b=>(b.own&&((b.eE.lookup g).isSome&&Nat.blt 0 n))=true /\ K x
  | none=>False)
 | _=>False
def noRoom:a7->Bool | .aA | .sz=>true|_=>false
def rz(es bytes:Nat)(z:Option (List a7))(x y:a7)(K:zQ):Prop:=
 match z,y with
 | some z,.int _ n=>(noRoom x=true /\ 0<n /\ n*(bytes:Int) <= 140737488355328 /\ n <= (maxLen:Int)) /\ new h (bG n.toNat z) λid h=>K (.sl id 0 0 n.toNat es n.toNat) h
 | _,_=>False
def gU(cs:List a7)(n es:Nat)(K:zQ):Prop:=new h cs λid h=>K (.sl id 0 0 n es n) h
def oE(x:a7)(K:zQ):Prop:=
 match x with
 | .str s=>s.length <= 140737488355328 /\ gU h (s.map λb=> .int .u8 b.toNat) s.length 1 K
 | _=>False
def newObj(o:vM)(K:Nat->a9->Prop):Prop:=∀id,h id=none->K id (bQ h id (jI o))
def r9(x:a7)(K:zQ):Prop:=
 match x with
 | .str s=>newObj h (.iter s 0) λid h=>K (.ptr id 0 0) h
 | _=>False
def rune(s:List UInt8)(pos:Nat):Nat×Nat:=Utf8.decode ⟨s.toArray⟩ pos
def lM(x:a7)(K:zQ):Prop:=
 match x with
 | .ptr id 0 0=>(match h id with
  | some b=>(match b.obj with
   | some (.iter s pos)=>if pos<s.length then
      K (.bI [.bool true,.int .i64 pos,.int .i32 (rune s pos).1]) (bQ h id { b with obj:=some (.iter s (pos+(rune s pos).2)) })
     else K (.bI [.bool false]) h
   | _=>False)
  | none=>False)
 | _=>False
def pg(z:Option (List a7))(x:a7)(K:zQ):Prop:=
 match z with
 | none=>False
 | some z=>
  match x with
  | .aA | .sz=>K (.bI []) h
  | .sl id g off len es _=>if len=0 then K (.bI []) h else ph (sb h (.ptr id g off) (V.mf off (len*es) (.agg (List.replicate len z).flatten)) (len*es) 0) λh=>K (.bI []) h
  | _=>False
def pV(x:a7):Option (List (a7×a7×Nat)×Nat):=
 match x with
 | .mp id=>(match h id with
  | some b=>(match b.obj with
   | some (.map es c)=>some (es,c)
   | _=>none)
  | none=>none)
 | _=>none
def entries(x:a7):Option (List (a7×a7×Nat)):=
 match x with
 | .nV=>some []
 | x=>(match pV h x with
  | some (es,_)=>some es
  | none=>none)
def wO(kd:Option KD)(z:Option a7)(ok:Bool)(x k:a7):Option a7:=
 match kd,z,entries h x with
 | some kd,some z,some es=>(match V.wD kd k es 0 with
  | some (some (_,v,_))=>some (bif ok then .bI [v,.bool true] else v)
  | some none=>some (bif ok then .bI [z,.bool false] else z)
  | none=>none)
 | _,_,_=>none
def w8(x:a7):Option a7:=
 match entries h x with
 | some es=>some (.int .i64 es.length)
 | none=>none
def kA(x:a7)(f:List (a7×a7×Nat)->Nat->Option (List (a7×a7×Nat)×Nat×a7))(K:zQ):Prop:=
 match x with
 | .mp id=>(match h id with
  | some b=>(match b.obj with
   | some (.map es c)=>(match f es c with
    | some (a,c',v)=>K v (bQ h id { b with obj:=some (.map a c') })
    | none=>False)
   | _=>False)
  | none=>False)
 | _=>False
def Ea(kd:Option KD)(k v:a7)(es:List (a7×a7×Nat))(c:Nat):Option (List (a7×a7×Nat)×Nat×a7):=
 match kd with
 | some kd=>(match V.wD kd k es 0 with
  | some (some (i,_,n))=>some (es.set i (k,v,n),c,.undef)
  | some none=>some (es++[(k,v,c)],c+1,.undef)
  | none=>none)
 | none=>none
def DL(kd:Option KD)(z:Option a7)(k:a7)(es:List (a7×a7×Nat))(c:Nat):Option (List (a7×a7×Nat)×Nat×a7):=
 match kd,z with
 | some kd,some z=>(match V.wD kd k es 0 with
  | some (some (i,v,n))=>some (es.set i (k,v,n),c,.bI [v,.int .i64 n])
  | some none=>some (es++[(k,z,c)],c+1,.bI [z,.int .i64 c])
  | none=>none)
 | _,_=>none
def DI(n v:a7)(es:List (a7×a7×Nat))(c:Nat):Option (List (a7×a7×Nat)×Nat×a7):=
 match n with
 | .int _ n=>(match es.findIdx? λe=>(e.2.2:Int)==n with
  | some i=>some (es.modify i λe=>(e.1,v,e.2.2),c,.undef)
  | none=>none)
 | _=>none
def yT(kd:Option KD)(k:a7)(es:List (a7×a7×Nat))(c:Nat):Option (List (a7×a7×Nat)×Nat×a7):=
 match kd with
 | some kd=>(match V.wD kd k es 0 with
  | some (some (i,_))=>some (es.eraseIdx i,c,.bI [])
  | some none=>some (es,c,.bI [])
  | none=>none)
 | none=>none
def Ib(kd:Option KD)(x k v:a7)(K:a9->Prop):Prop:=kA h x (Ea kd k v) λ_ h=>K h
def HN(kd:Option KD)(z:Option a7)(x k:a7)(K:zQ):Prop:=kA h x (DL kd z k) K
def HM(x n v:a7)(K:a9->Prop):Prop:=kA h x (DI n v) λ_ h=>K h
def ru(kd:Option KD)(x k:a7)(K:zQ):Prop:=
 match x with
 | .nV=>kd.isSome=true /\ K (.bI []) h
 | x=>kA h x (yT kd k) K
def rangeMap(x:a7)(K:zQ):Prop:=
 match x with
 | .nV=>newObj h (.mapIter none 0 [] 0) λid h=>K (.ptr id 0 0) h
 | .mp m=>(match pV h x with
  | some (_,c)=>newObj h (.mapIter (some m) c [] c) λid h=>K (.ptr id 0 0) h
  | none=>False)
 | _=>False
def steps (x : a7) : Option (Nat × List (fB × a7)) :=
  match x with
  | .ptr id 0 0 => (match h id with
    | some b => (match b.obj with
      | some (.mapIter none _ _ _) => some (id, [(b, .bI [.bool false])])
      | some (.mapIter (some m) since seen last) => (match pV h (.mp m) with
        | some (es, c) => bif (es.all fun e => Nat.blt e.2.2 since) && Nat.ble since last then
            some (id, match es.filter fun e => !seen.contains e.2.2 with
              | [] => [(b, .bI [.bool false])]
              | l => l.map fun e => ({ b with obj := some (.mapIter (some m) since (seen ++ [e.2.2]) c) }, .bI [.bool true, e.1, e.2.1])) else none
        | none => none)
      | _ => none)
    | none => none)
  | _ => none
def oI(x:a7)(K:zQ):Prop:=
 match steps h x with
 | some (id,l)=>∀p∈l,K p.2 (bQ h id p.1)
 | none=>False
def wv(x:a7):Option a7:=
 match x with
 | .ptr id 0 0=>(match h id with
  | some b=>(match b.obj with
   | some (.mapIter (some m) _ seen last)=>(match pV h (.mp m),seen.getLast? with
    | some (es,c),some n=>bif Nat.beq c last then (match es.find? λe=>Nat.beq e.2.2 n with
     | some e=>some (.bI [e.1,e.2.1])
     | none=>none) else none
    | _,_=>none)
   | _=>none)
  | none=>none)
 | _=>none
def ks(C:aC)(f:a7)(args:List a7)(K:zQ):Prop:=
 match f with
 | .fn f first gX=>C f (first++args++gX) h K
 | .qb id=>C sy (vO id::args) h K
 | _=>False
def dQ(ls:List (a7×Option Nat))(K:zQ):zQ:=
 λv h'=>(∀p∈ls,match p.2 with|none=>bX h' p.1=bX h p.1|some n=>fF h' p.1 n=fF h p.1 n) /\ K v h'
end A
def partOf(P:Program)(t:TypeId):Option (Option Nat):=bif e8 P t then some (some (P.cellsOf t)) else bif Nat.beq (P.cellsOf t) 1 then some none else none
def yt(P:Program)(fs:Array Field):List (Nat×a7)->Option (List (Nat×Option Nat×a7))
 | []=>some []
 | (i,v)::r=>match fs[i]?,yt P fs r with
  | some f,some l=>(match partOf P f.type with
   | some z=>some ((f.offset,z,v)::l)
   | none=>none)
  | _,_=>none
def yu(n:Nat)(z:Option Nat):List (Nat×a7)->List (Nat×Option Nat×a7)|[]=>[]|(i,v)::r=>(i*n,z,v)::yu n z r
def placesOf(P:Program)(t:TypeId)(parts:List (Nat×a7)):Option (List (Nat×Option Nat×a7)):=
 match P.underlying t with
 | some (.struct fs)=>yt P fs parts
 | some (.array _ e)=>(match partOf P e with
  | some z=>some (yu (P.cellsOf e) z parts)
  | none=>none)
 | _=>none
def jC(P:Program)(t:TypeId):Bool:=
 match P.underlying t with
 | some (.int .u8)=>P.cellsOf t==1
 | _=>false
def vv(P:Program)(t:TypeId):Option TypeId:=
 match P.underlying t with
 | some (.slice e)=>some e
 | _=>none
def yf(P:Program)(b:Builtin)(at_:List TypeId)(args:List a7)(h:a9)(K:zQ):Prop:=
 match b,at_,args with
 | .len,t::_,[x]=>match P.underlying t with
  | some .string=>A.pv (V.lR x) λv=>K v h
  | some (.slice _)=>A.pv (V.aE x) λv=>K v h
  | some (.array n _)=>K (.int .i64 n) h
  | some (.map _ _)=>A.pv (A.w8 h x) λv=>K v h
  | _=>False
 | .clear,[t],[x]=>match P.underlying t with
  | some (.slice e)=>A.ok (Nat.blt 0 (P.cellsOf e)) (A.pg h (zeroOf P e) x K)
  | _=>False
 | .delete,t::_,[x,k]=>match P.underlying t with
  | some (.map a _)=>A.ru h (pP P a) x k K
  | _=>False
 | .append,[t,u],[x,y]=>match P.underlying t,P.underlying u with
  | some (.slice e),some (.slice _)=>A.ok (Nat.blt 0 (P.cellsOf e)&&(Nat.beq t u&&(zeroOf P e).isSome)) (A.bO h (P.cellsOf e) (P.bytesOf e) x y K)
  | some (.slice e),some .string=>A.ok (jC P e&&(zeroOf P e).isSome) (A.app h 1 (P.bytesOf e) x (A.Ax y) K)
  | some (.slice e),some (.int _)=>A.ok (Nat.blt 0 (P.cellsOf e)) (A.rz h (P.cellsOf e) (P.bytesOf e) (zeroOf P e) x y K)
  | _,_=>False
 | .copy,[t,u],[x,y]=>match P.underlying t with
  | some (.slice e)=>A.ok (Nat.beq t u&&Nat.blt 0 (P.cellsOf e)) (A.pf h (P.cellsOf e) x y K)
  | _=>False
 | .min,_,[x,y]=>A.pv (V.min2 x y) λv=>K v h
 | .max,_,[x,y]=>A.pv (V.max2 x y) λv=>K v h
 | .cap,t::_,[x]=>match P.underlying t with
  | some (.slice _)=>A.pv (V.vI x) λv=>K v h
  | _=>False
 | _,_,_=>False
def fJ (P : Program) (C : aC) (op : Op) (s : bB) (h : a9) (K : zQ) : Prop :=
  match op with
  | .move x | .assign x => K (aO s x) h
  | .pick c a b => A.pick (aO s c) (aO s a) (aO s b) fun v => K v h
  | .alloc t => A.bL h (zeroOf P t) fun id h => K (.ptr id 0 0) h
  | .box t x => A.bL h (bif e8 P t then A.kZ (P.cellsOf t) (aO s x) else A.sD (aO s x)) fun id h => K (.ptr id 0 0) h
  | .build t parts => A.pv (match zeroOf P t, placesOf P t (parts.toList.map fun p => (p.1, aO s p.2)) with
      | some z, some ps => (match bN ps z with | some cs => some (.agg cs) | none => none)
      | _, _ => none) fun v => K v h
  | .buildSlice t len parts => match vv P t with
    | some e => if len = 0 then (match parts.toList, partOf P e with | [], some _ => K .sz h | _, _ => False) else
        A.bL h (match zeroOf P e, partOf P e with
          | some z, some pz => bif Nat.ble (len * P.cellsOf e) 16777216 && Nat.ble 1 (P.cellsOf e) then bN (yu (P.cellsOf e) pz (parts.toList.map fun p => (p.1, aO s p.2))) (bG len z) else none
          | _, _ => none) fun id h => K (.sl id 0 0 len (P.cellsOf e) len) h
    | none => False
  | .load t x => match P.underlying t with
    | none => False
    | some _ => bif e8 P t then A.cR h (aO s x) (P.cellsOf t) fun v => K v h else A.ld h (aO s x) fun v => K v h
  | .store t x v => bif e8 P t then A.gp h (aO s x) (P.cellsOf t) (aO s v) fun h => K .undef h else bif Nat.beq (P.cellsOf t) 1 then A.st h (aO s x) (aO s v) fun h => K .undef h else False
  | .nilCheck x => A.nilCheck (aO s x) fun v => K v h
  | .binOp op t x y _ => match P.underlying t with
    | some (.int _) | some .string => A.pv (V.bin op (aO s x) (aO s y)) fun v => K v h
    | some .bool => A.pv (V.vC op (aO s x) (aO s y)) fun v => K v h
    | some (.pointer _) => A.pv (V.Bo op (aO s x) (aO s y)) fun v => K v h
    | some (.slice _) => A.pv (V.ry op (aO s x) (aO s y)) fun v => K v h
    | some (.func ..) => A.pv (V.B0 op (aO s x) (aO s y)) fun v => K v h
    | some (.map _ _) => A.pv (V.Bp op (aO s x) (aO s y)) fun v => K v h
    | some (.struct _) => (match yr P t with
      | some sh => A.pv (V.rN op sh (aO s x) (aO s y)) fun v => K v h
      | none => False)
    | _ => False
  | .unOp op _ x => A.pv (V.un op (aO s x)) fun v => K v h
  | .convert src dst x => match P.underlying src, P.underlying dst with
    | some (.int _), some (.int k) => A.pv (V.toInt k (aO s x)) fun v => K v h
    | some .string, some .string => A.pv (V.AW (aO s x)) fun v => K v h
    | some (.slice e), some .string => bif jC P e then A.gk h (aO s x) fun v => K v h else False
    | some .string, some (.slice e) => bif jC P e then A.oE h (aO s x) K else False
    | some (.slice e), some (.slice _) => bif Nat.beq src dst && jC P e then A.conv h (aO s x) fun v => K v h else False
    | _, _ => False
  | .range t x => match P.underlying t with
    | some .string => A.r9 h (aO s x) K
    | some (.map _ _) => A.rangeMap h (aO s x) K
    | _ => False
  | .next x true => A.lM h (aO s x) K
  | .next x false => A.oI h (aO s x) K
  | .entry x => A.pv (A.wv h (aO s x)) fun v => K v h
  | .makeMap t none => match P.underlying t with
    | some (.map _ _) => A.newObj h (.map [] 0) fun id h => K (.mp id) h
    | _ => False
  | .lookup t x i ok => match P.underlying t with
    | some (.map d e) => A.pv (A.wO h (pP P d) (zeroV P e) ok (aO s x) (aO s i)) fun v => K v h
    | _ => False
  | .mapUpdate t m k v => match P.underlying t with
    | some (.map d _) => A.Ib h (pP P d) (aO s m) (aO s k) (aO s v) fun h => K .undef h
    | _ => False
  | .mapEntry t m k => match P.underlying t with
    | some (.map d e) => A.HN h (pP P d) (zeroV P e) (aO s m) (aO s k) K
    | _ => False
  | .entryStore t m n v => match P.underlying t with
    | some (.map _ _) => A.HM h (aO s m) (aO s n) (aO s v) fun h => K .undef h
    | _ => False
  | .makeSlice t l c => match vv P t with
    | some e => 0 < P.cellsOf e /\ A.eO h (P.bytesOf e) (zeroOf P e) (aO s l) (aO s c) K
    | none => False
  | .slice t x lo hi g => match P.underlying t, g with
    | some .string, none => A.pv (V.uD (aO s x) (lo.map (aO s)) (hi.map (aO s))) fun v => K v h
    | some (.slice e), none => bif Nat.beq (P.cellsOf e) 0 then False else A.pv (V.dS (P.cellsOf e) (aO s x) (lo.map (aO s)) (hi.map (aO s))) fun v => K v h
    | some (.slice e), some g => bif Nat.beq (P.cellsOf e) 0 then False else (match lo, hi with
      | some lo, some hi => A.pv (V.nX (P.cellsOf e) (aO s x) (aO s lo) (aO s hi) (aO s g)) fun v => K v h
      | none, some hi => A.pv (V.nX (P.cellsOf e) (aO s x) (.int .i64 0) (aO s hi) (aO s g)) fun v => K v h
      | _, _ => False)
    | _, _ => False
  | .fieldAddr t x f => match P.underlying t with
    | some (.struct fs) => (match fs[f]? with
      | some fd => bif Nat.beq (P.cellsOf fd.type) 0 then False else A.pv (V.fieldAddr fd.offset (aO s x)) fun v => K v h
      | none => False)
    | _ => False
  | .field t x f => match P.underlying t with
    | some (.struct fs) => (match fs[f]? with
      | some fd => (match P.underlying fd.type with
        | none => False
        | some _ => bif e8 P fd.type then A.pv (V.bM fd.offset (P.cellsOf fd.type) (aO s x)) fun v => K v h else A.pv (V.aF fd.offset (aO s x)) fun v => K v h)
      | none => False)
    | _ => False
  | .indexAddr t x i => match P.underlying t with
    | some (.slice e) => bif Nat.beq (P.cellsOf e) 0 then False else A.pv (V.aM (P.cellsOf e) (aO s x) (aO s i)) fun v => K v h
    | some (.array n e) => bif Nat.beq (P.cellsOf e) 0 then False else A.pv (V.Bz n (P.cellsOf e) (aO s x) (aO s i)) fun v => K v h
    | _ => False
  | .index t x i => match P.underlying t with
    | some .string => A.pv (V.lS (aO s x) (aO s i)) fun v => K v h
    | _ => False
  | .makeFunc (.func f) first gX => K (.fn f (first.toList.map (aO s)) (gX.toList.map (aO s))) h
  | .extract x i => A.pv (V.ext i (aO s x)) fun v => K v h
  | .call c => match c.callee with
    | .value (.func f) => C f (c.args.toList.map (aO s)) h K
    | .value x => A.ks h C (aO s x) (c.args.toList.map (aO s)) K
    | .builtin b => yf P b c.argTypes.toList (c.args.toList.map (aO s)) h K
    | .invoke _ _ => False
  | _ => False
def lj(ops:List Oper)(j:Nat):Option Nat:=(ops[j]?).bind (·.dst)
def vy(P:Program)(C:aC)(ops:List Oper)(o:Oper)(s:bB)(h:a9)(K:zQ):Prop:=
 match o.guard with
 | none=>fJ P C o.op s h K
 | some (j,b)=>match lj ops j with
  | some t=>A.gd h (s t) b (λK=>fJ P C o.op s h K) K
  | none=>False
def wB(P:Program)(C:aC)(ops:List Oper):List Oper->(bB->a9->Prop)->bB->a9->Prop|[],Q,s,h=>Q s h|o::r,Q,s,h=>vy P C ops o s h λv h=>wB P C ops r Q (bW s o.dst v) h
inductive Ex where
 | normal
 | exit (id:Nat)
 | ret
def Ex.then(X:bB->a9->Prop)(Q:Ex->bB->a9->Prop):Ex->bB->a9->Prop | .normal,s,h=>X s h|e,s,h=>Q e s h
def Ex.inBlock(id:Nat)(Q:Ex->bB->a9->Prop):Ex->bB->a9->Prop | .exit j,s,h=>bif Nat.beq j id then Q .normal s h else Q (.exit j) s h|e,s,h=>Q e s h
inductive Kd where
 | pure|load|alloc|effect|read|conv
def vB(P:Program)(a:List TypeId):Bool:=
 match a with
 | t::_=>(match P.underlying t with
  | some (.map _ _)=>true
  | _=>false)
 | []=>false
def gO(P:Program):Op->Kd
 | .convert s d _=>(match P.underlying s,P.underlying d with
  | some (.int _),some (.int _)|some .string,some .string=> .pure
  | some (.slice _),some .string=> .read
  | some (.slice _),some (.slice _)=> .conv
  | _,_=> .effect)
 | .load _ _=> .load
 | .alloc _ | .box _ _ | .buildSlice _ _ _ | .makeSlice _ _ _=> .alloc
 | .move _ | .assign _ | .pick _ _ _ | .build _ _ | .nilCheck _ | .binOp _ _ _ _ _ | .unOp _ _ _ | .slice _ _ _ _ _ | .fieldAddr _ _ _ | .field _ _ _
 | .indexAddr _ _ _ | .index _ _ _ | .makeFunc _ _ _ | .extract _ _=> .pure
 | .call { callee:= .builtin .len,argTypes:=a, .. }=>bif vB P a.toList then .effect else .pure
 | .call { callee:= .builtin .min, .. } | .call { callee:= .builtin .max, .. } | .call { callee:= .builtin .cap, .. }=> .pure
 | _=> .effect
def Kd.sq:Kd->Bool | .effect=>true|_=>false
def Kd.early:Kd->Bool | .pure | .load=>true|_=>false
def Kd.fits:Kd->Kd->Bool|_,.conv=>true | .effect,.effect | .effect,.load | .effect,.read | .alloc,.load | .alloc,.read | .alloc,.effect | .read,.effect | .conv,.effect=>false|_,_=>true
def Kd.first:Kd->Kd | .read | .conv=> .effect|k=>k
def oJ:List Oper->List Nat->List Nat|[],acc=>acc|o::r,acc=>oJ r (acc++[o.after.toList.foldl (λm e=>bif Region.binds .any e then m ||| 2 ^ e.on ||| acc.getD e.on 0 else m) 0])
def yF:List (Nat×Kd×Nat)->Nat->List Nat->Nat×List Nat|[],d,out=>(d,out)|(i,k,m)::r,d,out=>bif !d.testBit i&&k.early&&Nat.beq (m &&& d) m then yF r (d ||| 2 ^ i) (i::out) else yF r d out
def AV(which:Nat):List (Nat×Kd×Nat)->Nat->List Nat->Nat×List Nat|[],d,out=>(d,out)|(i,_,_)::r,d,out=>bif !d.testBit i&&which.testBit i then AV which r (d ||| 2 ^ i) (i::out) else AV which r d out
def DC(all:List (Nat×Kd×Nat)):List (Nat×Kd×Nat)->Nat->List Nat->List Nat
 | [],d,out=>(AV (2 ^ all.length-1) all d out).2.reverse
 | (i,k,m)::r,d,out=>bif k.sq then
   (match yF all d out with
    | (d,out)=>match AV (m ||| 2 ^ i) all d out with
     | (d,out)=>DC all r d out)
  else DC all r d out
def DD(which:Nat):List (Nat×Kd×Nat)->Nat->List Nat->Nat×List Nat|[],d,out=>(d,out)|(i,_,m)::r,d,out=>bif !d.testBit i&&(which.testBit i&&Nat.beq (m &&& d) m) then DD which r (d ||| 2 ^ i) (i::out) else DD which r d out
def D9(which:Nat)(all:List (Nat×Kd×Nat)):Nat->Nat->List Nat->Nat×List Nat
 | 0,d,out=>(d,out)
 | n+1,d,out=>match DD which all d out with
  | (a,out')=>bif Nat.beq a d then (a,out') else D9 which all n a out'
def Dz(all:List (Nat×Kd×Nat)):List (Nat×Kd×Nat)->Nat->List Nat->List Nat
 | [],d,out=>(match yF all d out with
   | (d,out)=>(D9 (2 ^ all.length-1) all all.length d out).2.reverse)
 | (i,k,m)::r,d,out=>bif k.sq then
   (match yF all d out with
    | (d,out)=>match D9 (m ||| 2 ^ i) all all.length d out with
     | (d,out)=>Dz all r d out)
  else Dz all r d out
structure Item where
 i:Nat
 o:Oper
 k:Kd
 m:Nat
def items(P:Program)(ops:List Oper):List Item:=((oJ ops []).zip ops).zipIdx.map fun((m,o),i)=>⟨i,o,gO P o.op,m⟩
def tI(its:List Item):List Item:=
 let all:=its.map λt=>(t.i,t.k.first,t.m)
 (DC all all 0 []).filterMap λi=>its[i]?
def yq(its:List Item):List Item:=
 let all:=its.map λt=>(t.i,t.k,t.m)
 (Dz all all 0 []).filterMap λi=>its[i]?
def vV(x:Item)(y:Item):Bool:=
 match x.o.op with
 | .load _ (.tmp t)=>(match y.o.dst with
  | some d=> !Nat.beq d t
  | none=>true)
 | _=>true
def rj(ops:Array Oper):List Item->Bool|[]=>true|x::r=>(r.all λy=> !x.m.testBit y.i&&vV x y&&(y.m.testBit x.i||(x.k.fits y.k&&x.o.apart ops y.o)))&&vV x x&& !x.m.testBit x.i&&rj ops r
def distinct:List Nat->Bool|[]=>true|x::r=>r.all (λy=> !Nat.beq x y)&&distinct r
def ss:List Item->Item->List (Operand×TypeId)
 | [],_=>[]
 | x::r,y=>(match x.o.op with
   | .load t a=>bif y.m.testBit x.i then [] else [(a,t)]
   | _=>[])++ss r y
def nD:List Item->List Item->List (Item×List (Operand×TypeId))|_,[]=>[]|seen,y::r=>(y,bif y.k.sq then ss seen y else [])::nD (seen++[y]) r
def wK(P:Program)(ops:Array Oper):Option (List (Item×List (Operand×TypeId))):=
 let its:=items P ops.toList
 let p:=bif rj ops (tI its) then tI its else yq its
 bif rj ops p&&Nat.beq p.length ops.size&&distinct (p.map (·.i))&&(List.range ops.size).all (λi=>p.any λt=>Nat.beq t.i i)&&ops.toList.all (λo=>o.after.toList.all λe=>Nat.blt e.on ops.size) then some (nD [] p) else none
def gK(P:Program)(s:bB)(a:List (Operand×TypeId)):List (a7×Option Nat):=a.map λp=>(aO s p.1,bif e8 P p.2 then some (P.cellsOf p.2) else none)
def xo(P:Program)(C:aC)(ops:List Oper)(o:Oper)(a:List (Operand×TypeId))(s:bB)(h:a9)(K:zQ):Prop:=
 match a with
 | []=>vy P C ops o s h K
 | a=>match o.guard with
  | none=>fJ P C o.op s h (A.dQ h (gK P s a) K)
  | some (j,b)=>match lj ops j with
   | some t=>A.gd h (s t) b (λK=>fJ P C o.op s h (A.dQ h (gK P s a) K)) K
   | none=>False
def iB(P:Program)(C:aC)(ops:List Oper):List (Item×List (Operand×TypeId))->(bB->a9->Prop)->bB->a9->Prop|[],Q,s,h=>Q s h|(t,a)::r,Q,s,h=>xo P C ops t.o a s h λv h=>iB P C ops r Q (bW s t.o.dst v) h
def dK:List Nat->Nat->Bool|[],_=>false|x::r,k=>bif Nat.beq x k then true else dK r k
def tmpsOf:List Operand->List Nat|[]=>[] | .tmp t::r=>t::tmpsOf r|_::r=>tmpsOf r
def HW:List Oper->List Nat|[]=>[]|o::r=>tmpsOf o.op.operands.toList++HW r
def HZ:List Oper->List Nat|[]=>[]|o::r=>o.dst.toList++HZ r
def uF:Code->List Nat | .region _ ops _=>HW ops.toList | .seq a b=>uF a++uF b | .cond c a b=>tmpsOf [c]++(uF a++uF b) | .block _ b=>uF b | .loop b=>uF b | .scope b=>uF b|_=>[]
def uI:Code->List Nat | .region _ ops _=>HZ ops.toList | .seq a b=>uI a++uI b | .cond _ a b=>uI a++uI b | .block _ b=>uI b | .loop b=>uI b | .scope b=>uI b|_=>[]
def minus(D:List Nat):List Nat->List Nat|[]=>[]|k::r=>bif dK D k then minus D r else k::minus D r
def jr(ps:List Nat)(a b:Code):List Nat:=minus (ps++(uI a++uI b)) (uF a++uF b)
def jX(L:List Nat)(s:bB):bB:=λk=>bif dK L k then s k else .undef
def lV:List Nat->List a7->bB->bB|p::ps,a::l,s=>lV ps l (bW s (some p) a)|_,_,s=>s
def jn:Ex->Nat | .normal=>0 | .ret=>1 | .exit i=>i+2
def uM:Nat->Ex|0=> .normal|1=> .ret|i+2=> .exit i
def sr(sz:Nat)(s:bB)(ps:Array Tmp)(a b:Code)(j:Nat):fB:=jI (.loop sz s ps a b (j+1))
def Ig(id:Nat)(mk:Nat->fB)(K:zQ)(j:Nat)(h:a9):Prop:=∃a:a9,a.le h /\ (a id=none->K (.bool (Nat.beq j 0)) (bQ a id (mk j)))
def y9(C:aC)(f:a7)(mk:Nat->fB)(W:List a7->a9->(Nat->a9->Prop)->Prop)(h:a9)(K:Nat->a9->Prop):Prop:=
 ∀id,h id=none->(∀xs h1 b,h1 id=none->W xs h1 (Ig id mk b)->C sy (vO id::xs) (bQ h1 id (mk 0)) b) ->
  match f with
  | .fn f first gX=>C f (first++[.qb id]++gX) (bQ h id (mk 0)) λ_ c=>∃j a,a id=none /\ (bQ a id (mk j)).le c /\ K j a
  | _=>False
def jt(P:Program)(C:aC):Code->(Ex->bB->a9->Prop)->bB->a9->Prop
 | .skip,Q,s,h=>Q .normal s h
 | .region _ ops draw,Q,s,h=>
  match draw with
  | false=>wB P C ops.toList ops.toList (Q .normal) s h
  | true=>match wK P ops with
   | some l=>iB P C ops.toList l (Q .normal) s h
   | none=>False
 | .seq a b,Q,s,h=>jt P C a (Ex.then (jt P C b Q) Q) s h
 | .cond c x y,Q,s,h=>A.cond (aO s c) (jt P C x Q s h) (jt P C y Q s h)
 | .block id b,Q,s,h=>jt P C b (Ex.inBlock id Q) s h
 | .loop c,Q,s,h=>∀X:bB->a9->Prop,(∀s h,jt P C c (Ex.then X Q) s h->X s h)->X s h
 | .exit id,Q,s,h=>Q (.exit id) s h
 | .ret,Q,s,h=>Q .ret s h
 | .scope c,Q,s,h=>jt P C c Q s h
 | .label _,Q,s,h=>Q .normal s h
 | .rangeFunc g ps a b,Q,s,h=>∀sz,y9 C (aO s g) (sr sz (jX (jr ps.toList a b) s) ps a b)
   (λxs h1 E=>xs.length=ps.size /\ jt P C a (Ex.then (jt P C b λe _ d=>E (jn e) d) λ_ _ _=>False) (lV ps.toList xs (jX (jr ps.toList a b) s)) h1) h λj d=>Q (uM j) s d
 | _,_,_,_=>False
def xp(P:Program)(h:a9)(p:a7)(t:TypeId):Option a7:=
 match P.underlying t with
 | none=>none
 | some _=>bif e8 P t then A.fF h p (P.cellsOf t) else A.bX h p
def cJ(o:Option a7)(l:Option (List a7)):Option (List a7):=
 match o,l with
 | some v,some l=>some (v::l)
 | _,_=>none
def sL(P:Program)(h:a9)(s:bB):List ResultVar->Option (List a7)|[]=>some [] | .tmp t::r=>cJ (some (s t)) (sL P h s r) | .cell x t::r=>cJ (xp P h (s x) t) (sL P h s r)
def oneOf(o:Option (List a7)):Option a7:=
 match o with
 | some [v]=>some v
 | some l=>some (.bI l)
 | none=>none
def xD(P:Program)(h:a9)(s:bB)(rs:List ResultVar):Option a7:=oneOf (sL P h s rs)
def Qf(P:Program)(rs:List ResultVar)(Q:zQ):Ex->bB->a9->Prop | .ret,s,h | .normal,s,h=>A.pv (xD P h s rs) λv=>Q v h | .exit _,_,_=>False
def fv(args:List a7):bB:=λk=>args.getD k .undef
end Go.Ab
namespace Go.Ab
open List
open Go.RowKit (Below)
def eo(ρ:bP)(s:bB)(a:Act):Prop:=∀k,dB ρ (s k) (a.tmps.getD k Go.undef)
def Fr(h H h' H':a9):Prop:=∀id,h id=none->∀b,H id=some b->H' id=some b /\ h' id=none
theorem Fr.refl(h H:a9):Fr h H h H:=λ_ h0 _ h1=>⟨h1,h0⟩
theorem Fr.trans{h H h1 H1 a c:a9}(x:Fr h H h1 H1)(y:Fr h1 H1 a c):Fr h H a c:=λid h0 b hb=>
 let ⟨p,q⟩:=x id h0 b hb
 y id q b p
structure pa(w0:World)(ρ:bP)(h H:a9)(K:zQ)(v:Value)(w':World):Prop where
 intro ::
 ex:∃a ρ' h' H',ρ.le ρ' /\ dB ρ' a v /\ K a h' /\ h'.le H' /\ Fr h H h' H' /\ R w0 ρ' H' w'
def B5(P:Program)(f:Nat)(va:Array Value)(w:World)(kT:Ending->World->Prop):Prop:=((callFunc f va).run P w= .ok (.enter f va) w /\ Calls P f va w kT) \/ ∃v w',(callFunc f va).run P w= .ok (.value v) w' /\ kT (.returned v) w' /\ ∀u∈va.toList,∀l x y,u≠ .func (.yield l) x y
theorem B5.mono{P:Program}{f:Nat}{va:Array Value}{w:World}{kT Post':Ending->World->Prop}(x:B5 P f va w kT)(d:∀e w,kT e w->Post' e w):B5 P f va w Post':=x.imp (λ⟨a,b⟩=>⟨a,b.mono d⟩) λ⟨v,w',a,b,c⟩=>⟨v,w',a,d _ _ b,c⟩
def WF(r:Option Nat):Fence:={ Fence.wide with round:=r }
def Yields(P:Program)(va:List Value)(w:World)(kT:Ending->World->Prop):Prop:=∃l us f tmps assign body,va= .func (.yield l) #[] #[]::us /\ (Instr.yield l us.toArray).run P w= .ok (.round l f tmps assign body) w /\ RoundIn Fence.wide 0 P l f tmps assign body w kT
def Br(P:Program)(f:Nat)(args:List a7)(va:List Value)(w:World)(kT:Ending->World->Prop):Prop:=(zi args=false->B5 P f va.toArray w kT) /\ (zi args=true->f=sy->Yields P va w kT)
theorem Br.mono{P:Program}{f:Nat}{args:List a7}{va:List Value}{w:World}{kT Post':Ending->World->Prop}(x:Br P f args va w kT)(a:∀e w,kT e w->Post' e w):Br P f args va w Post':=
 ⟨λh=>(x.1 h).mono a,λh h'=>let ⟨l,us,f,tmps,assign,body,h1,c,b⟩:=x.2 h h';⟨l,us,f,tmps,assign,body,h1,c,b.mono a⟩⟩
def Qo(ρ:bP)(args:List a7)(va:List Value):Prop:=dJ ρ args va \/ ∃id xs us L,args=vO id::xs /\ ρ id 0=some L /\ va= .func (.yield L.bT) #[] #[]::us /\ dJ ρ xs us
theorem dJ.BA{ρ:bP}{args:List a7}{va:List Value}(h:dJ ρ args va):zi args=false:=by
 unfold zi;split
 ·obtain⟨u,us,rfl,⟨l,rfl,⟨v,vs,rfl,⟨l',rfl,_⟩,_⟩,a⟩,_⟩:=h
  have:=a _ (mem_cons_self ..);simp[Value.oneCell']at this
 ·rfl
def AC(P:Program):aC:=λf args h Q=>∀w0 ρ H w (va:List Value),h.le H->R w0 ρ H w->Qo ρ args va->Br P f args va w λe w'=>∃v,e= .returned v /\ pa w0 ρ h H Q v w'
theorem pa.mono{w0:World}{ρ:bP}{h H:a9}{K b:zQ}{v:Value}{w':World}(hk:∀a h,K a h->b a h)(x:pa w0 ρ h H K v w'):pa w0 ρ h H b v w':=by
 obtain⟨a,ρ',h',H',h1,e,d,c⟩:=x.ex;exact⟨⟨a,ρ',h',H',h1,e,hk _ _ d,c⟩⟩
theorem AC.mono{P:Program}{f:Nat}{args:List a7}{h:a9}{Q Q':zQ}(b:∀a h,Q a h->Q' a h)(x:AC P f args h Q):AC P f args h Q':=λw0 ρ H w va h1 d c=>(x w0 ρ H w va h1 d c).mono λ_ _ ⟨v,e1,e⟩=>⟨v,e1,e.mono b⟩
theorem AC.frame{P:Program}{f:Nat}{args:List a7}{h:a9}{Q:zQ}{id:Nat}{b:fB}(x:AC P f args h Q)(c:h id=none):
  AC P f args (bQ h id b) λa d=>∃h',Q a h' /\ h' id=none /\ d=bQ h' id b:=by
 intro w0 ρ H w va h1 k j;have g:H id=some b:=h1 id b (dR ..);have hle:h.le H:=a9.le_trans (hU b c) h1;refine(x w0 ρ H w va hle k j).mono λe w' ⟨v,e1,l⟩=>⟨v,e1,?_⟩;obtain⟨a,ρ',h',H',k1,k2,k3,k4,k5,k6⟩:=l.ex;obtain⟨m1,m2⟩:=k5 id c b g;refine⟨⟨a,ρ',bQ h' id b,H',k1,k2,⟨h',k3,m2,rfl⟩,?_,?_,k6⟩⟩
 ·intro i x hx
  by_cases hi:i=id
  ·subst hi;rw[dR]at hx;cases hx;exact m1
  ·rw[cQ _ _ hi]at hx;exact k4 i x hx
 ·intro i hi x hx
  by_cases dZ:i=id
  ·subst dZ;rw[dR]at hi;cases hi
  ·rw[cQ _ _ dZ]at hi
   rw[cQ _ _ dZ];exact k5 i hi x hx
theorem D0(ρ:bP):∀v:Value,dB ρ (xJ v) v | .bool _=>rfl | .int _ _=>rfl | .string s=>⟨s,rfl,rfl⟩ | .pointer none=>rfl | .pointer (some _)=>trivial | .slice none 0 0=>rfl | .slice none 0 (_+1)=>trivial | .slice none (_+1) _=>trivial | .slice (some _) _ _=>trivial | .nilFunc=>rfl | .float _ _=>trivial | .complex _ _ _=>trivial | .map none=>rfl | .map (some _)=>trivial | .chan _=>trivial | .func _ _ _=>trivial | .iface _ _=>trivial | .nilIface=>trivial | .agg _=>trivial | .tuple _=>trivial
theorem z9{ρ:bP}:∀{a:a7}{v:Value},a.aI=true->dB ρ a v->v.oneCell'=true
 | .undef,_,h,_=>by simp[a7.aI]at h
 | .agg _,_,h,_=>by simp[a7.aI]at h
 | .bI _,_,h,_=>by simp[a7.aI]at h
 | .bool _,_,_,e=>by cases e;rfl
 | .int _ _,_,_,e=>by cases e;rfl
 | .str _,_,_,⟨_,e,_⟩=>by subst e;rfl
 | .sP,_,_,e=>by cases e;rfl
 | .ptr _ _ _,_,_,⟨_,_,_,e⟩=>by subst e;rfl
 | .aA,_,_,e=>by cases e;rfl
 | .sz,_,_,⟨_,e⟩=>by subst e;rfl
 | .sl _ _ _ _ _ _,_,_,⟨_,_,_,.inl ⟨_,e,_⟩⟩=>by subst e;rfl
 | .sl _ _ _ _ _ _,_,_,⟨_,_,_,.inr ⟨_,_,_,e⟩⟩=>by subst e;rfl
 | .sQ,_,_,e=>by cases e;rfl
 | .nV,_,_,e=>by cases e;rfl
 | .mp _,_,_,⟨_,_,e⟩=>by subst e;rfl
 | .fn _ _ _,_,_,⟨_,_,e,_⟩=>by subst e;rfl
 | .qb _,_,_,⟨_,_,e⟩=>by subst e;rfl
theorem Ch:∀{v:Value},v.oneCell'=true->v.cells= #[v]
 | .agg _,h=>by simp[Value.oneCell']at h
 | .bool _,_ | .int _ _,_ | .float _ _,_ | .complex _ _ _,_ | .string _,_ | .pointer _,_ | .slice _ _ _,_ | .map _,_ | .chan _,_ | .func _ _ _,_ | .nilFunc,_
 | .iface _ _,_ | .nilIface,_ | .tuple _,_=>rfl
theorem GX(ρ:bP):∀l:List Value,dJ ρ (l.map xJ) l|[]=>rfl|v::l=>⟨v,l,rfl,D0 ρ v,GX ρ l⟩
theorem OE(ρ:bP):∀v:Value,dB ρ (B9 v) v
 | .agg cs=>by
  simp only[B9]
  by_cases h:(cs.all λc=>(xJ c).aI)=true
  ·rw[if_pos h]
   refine⟨cs.toList,by simp,GX ρ _,λu hu=>?_⟩
   rw[Array.all_eq_true_iff_forall_mem]at h
   exact z9 (h u (by simpa using hu)) (D0 ρ u)
  ·rw[if_neg h];trivial
 | .bool _ | .int _ _ | .float _ _ | .complex _ _ _ | .string _ | .pointer _ | .slice _ _ _ | .map _ | .chan _ | .func _ _ _ | .nilFunc
 | .iface _ _ | .nilIface | .tuple _=>by simp only[B9];exact D0 ρ _
theorem dX{ρ:bP}{s:bB}{a:Act}(h:eo ρ s a):∀x:Operand,dB ρ (aO s x) (a.eval x) | .tmp t=>h t | .const v=>OE ρ v | .global _=>trivial | .func _=>⟨[],[],rfl,rfl,rfl⟩
theorem xl{ρ:bP}{s:bB}{a:Act}(h:eo ρ s a):∀xs:List Operand,dJ ρ (xs.map (aO s)) (xs.map a.eval)|[]=>rfl|x::xs=>⟨_,_,rfl,dX h x,xl h xs⟩
theorem eo.mono{ρ ρ':bP}{s:bB}{a:Act}(h:eo ρ s a)(hle:ρ.le ρ'):eo ρ' s a:=λk=>(h k).mono hle
theorem eo.put{ρ:bP}{s:bB}{a:Act}(h:eo ρ s a){d:Option Nat}{x:a7}{v:Value}(e:dB ρ x v)(f:∀k,d=some k->k<a.tmps.size):
  eo ρ (bW s d x) (a.put d v):=by
 cases d with
 | none=>exact h
 | some d=>
  intro k;by_cases hk:k=d
  ·subst hk
   have b:=f k rfl;simp only[bW,Act.put];rw[show Nat.beq k k=true from by simp];have c:(a.tmps.setIfInBounds k v).getD k Go.undef=v:=by simp[b]
   rw[c];exact e
  ·have hb:Nat.beq k d=false:=by rw[<-Bool.not_eq_true,Nat.beq_eq];exact hk
   simp only[bW,Act.put,hb,cond_false];have c:(a.tmps.setIfInBounds d v).getD k Go.undef=a.tmps.getD k Go.undef:=by
    simp[Array.getElem?_setIfInBounds_ne (Ne.symm hk)]
   rw[c];exact h k
section
variable{P:Program}{w0:World}{ρ:bP}{h H:a9}{w:World}{a:Act}{K:zQ}{o:Oper}{Q:Exit->Act->World->Prop}
def eh(P:Program)(w0:World)(ρ:bP)(h H:a9)(K:zQ)(o:Oper)(a:Act)(w:World)(Q:Exit->Act->World->Prop):Prop:=(∀c,o.op≠ .defer c)->∀r n,o.wpIn (WF r) n P a w (λb w'=>∃v,pa w0 ρ h H K v w' /\ b=a.put o.dst v) Q
theorem ja{v:Value}{w':World}(b:(execOp a.eval o).run P w= .ok (.value v) w')(d:pa w0 ρ h H K v w'):eh P w0 ρ h H K o a w Q:=by
 intro c r n;refine⟨λ_ _=>trivial,?_⟩;rw[Oper.semAt_eq _ _ _ c,b];exact⟨v,d,rfl⟩
theorem AH{w':World}(b:(execOp a.eval o).run P w= .ok .skip w')(d:pa w0 ρ h H K Go.undef w'):eh P w0 ρ h H K o a w Q:=by
 intro c r n;refine⟨λ_ _=>trivial,?_⟩;rw[Oper.semAt_eq _ _ _ c,b];exact⟨Go.undef,d,rfl⟩
theorem CP(b:R w0 ρ H w)(hle:h.le H){x:a7}{v:Value}(a:dB ρ x v)(c:K x h):pa w0 ρ h H K v w:=⟨⟨x,ρ,h,H,bP.le_refl ρ,a,c,hle,Fr.refl h H,b⟩⟩
theorem fG(d:R w0 ρ H w)(hle:h.le H){x:a7}{v:Value}(c:(execOp a.eval o).run P w= .ok (.value v) w)(b:dB ρ x v)(e:K x h):eh P w0 ρ h H K o a w Q:=ja c (CP d hle b e)
end
theorem uk{P:Program}{t:TypeId}{d:TypeDesc}(h:P.underlying t=some d)(w:World):(isAgg t).run P w= .ok (e8 P t) w:=by
 unfold isAgg e8;rw[h];cases d<;>simp[run_underlying h]
theorem aK{o:Option a7}{K:a7->Prop}(h:A.pv o K):∃v,o=some v /\ K v:=by
 cases o with
 | none=>exact h.elim
 | some v=>exact⟨v,rfl,h⟩
theorem run_sizeOf{P:Program}{t:TypeId}{i:TypeInfo}(h:P.info? t=some i)(w:World):(sizeOf t).run P w= .ok i.size w:=by
 simp[sizeOf,typeInfo,h]
theorem kI{P:Program}{t:TypeId}{i:TypeInfo}(h:P.info? t=some i):P.cellsOf t=i.size:=by simp[Program.cellsOf,h]
theorem info_of_underlying{P:Program}{t:TypeId}{d:TypeDesc}(h:P.underlying t=some d):∃i,P.info? t=some i:=by
 unfold Program.underlying at h;cases hi:P.info? t with
 | none=>simp[hi]at h
 | some i=>exact⟨i,rfl⟩
end Go.Ab
namespace Go.Ab
open List
open Go.RowKit (Below)
section
variable{P:Program}{ρ:bP}{w:World}
theorem rC(b o n:Nat):(⟨b,o,none⟩:Addr).add n=⟨b,o+n,none⟩:=by unfold Addr.add;split<;>simp_all
theorem xU(a:Addr)(n:Nat)(h:a.spot=none):a.add n=⟨a.block,a.off+n,none⟩:=by
 obtain⟨b,o,s⟩:=a;simp at h;subst h;exact rC b o n
theorem nc(op:BinOp)(t:TypeId)(x y:Operand)(a b:Value)(h1:a≠ .nilIface)(d:∀c,a≠ .agg c):(eqGuard op t x y a b).run P w= .ok () w:=by
 unfold eqGuard;cases op<;>simp<;>(split<;>simp_all)
theorem H9{op:BinOp}{t:TypeId}{x y r:a7}{u v:Value}(hx:dB ρ x u)(g:dB ρ y v)(h:V.bin op x y=some r):
  (∀a b,(eqGuard op t a b u v).run P w= .ok () w) /\ ∃z,(binOp op t u v).run P w= .ok z w /\ dB ρ r z:=by
 unfold V.bin at h;split at h
 ·
  rename_i k a j b;cases hx;cases g;refine⟨λ_ _=>nc _ _ _ _ _ _ (by simp) (by simp),?_⟩
  have m:∀c,c≠ .shl->c≠ .shr->(if k=j then V.arith c k a b else none)=some r->∃z,(binOp c t (.int k a) (.int j b)).run P w= .ok z w /\ dB ρ r z:=by
   intro c n1 n2 d;split at d
   ·rename_i f
    subst f;cases c
    case quo=>
     simp only[V.arith]at d;split at d
     ·cases d
     ·rename_i e
      cases d;exact⟨_,by simp only[binOp,Op.intDiv,ne_eq,not_true,if_false,e,Sem.run_pure],rfl⟩
    case rem=>
     simp only[V.arith]at d;split at d
     ·cases d
     ·rename_i e
      cases d;exact⟨_,by simp only[binOp,Op.intDiv,ne_eq,not_true,if_false,e,Sem.run_pure],rfl⟩
    case shl=>exact absurd rfl n1
    case shr=>exact absurd rfl n2
    all_goals
     simp only[V.arith,Option.some.injEq]at d;subst d;exact⟨_,by simp only[binOp,Op.intArith,Op.intBits,Op.intCmp,ne_eq,not_true,if_false,Sem.run_pure],rfl⟩
   ·cases d
  have sh:∀c,(c= .shl \/ c= .shr)->V.shift c k a b=some r->∃z,(binOp c t (.int k a) (.int j b)).run P w= .ok z w /\ dB ρ r z:=by
   intro c i d;unfold V.shift at d;split at d
   ·cases d
   ·rename_i hb
    rcases i with rfl|rfl<;>simp at d<;>subst d<;>simp[binOp,Op.shift,hb,dB]
  cases op<;>first|exact sh _ (by simp) h|exact m _ (by simp) (by simp) h
 ·rename_i a b
  obtain⟨s,rfl,rfl⟩:=hx;obtain⟨s',rfl,rfl⟩:=g;refine⟨λ_ _=>nc _ _ _ _ _ _ (by simp) (by simp),?_⟩;have l:∀s:ByteArray,s.toList=s.data.toList:=λs=>by
   exact Lib.toList_data s
  cases op<;>simp only[V.yG]at h
  case add=>
   split at h
   ·cases h
   ·rename_i hb
    simp only[Option.some.injEq]at h;subst h;refine⟨.string (s++s'),?_,_,rfl,by simp⟩;have:¬ ((s.size+s'.size:Nat):Int)>IntKind.i64.max:=hb;simp only[binOp,Op.stringOp];rw[if_neg this];rfl
  all_goals cases h
  all_goals exact⟨_,by simp only[binOp,Op.stringOp,l,Sem.run_pure],rfl⟩
 ·cases h
theorem Oj{op:BinOp}{e:Bool}{r:a7}(h:V.eqv op e=some r):(op= .eql /\ r= .bool e) \/ (op= .neq /\ r= .bool !e):=by
 cases op<;>simp[V.eqv]at h<;>simp[h.symm]
theorem nN{op:BinOp}{t:TypeId}{e:Bool}{r:a7}{u v:Value}(h:V.eqv op e=some r)(b:∀a,a= .eql \/ a= .neq->binOp a t u v=(match a with
   | .neq=>(do pure (.bool (!(<- Op.equal t u v))))|_=>(do pure (.bool (<- Op.equal t u v)))))
  (he:(Op.equal t u v).run P w= .ok e w):∃z,(binOp op t u v).run P w= .ok z w /\ dB ρ r z:=by
 rcases Oj h with⟨rfl,rfl⟩|⟨rfl,rfl⟩
 ·exact⟨.bool e,by rw[b .eql (.inl rfl)];simp[he],rfl⟩
 ·exact⟨.bool (!e),by rw[b .neq (.inr rfl)];simp[he],rfl⟩
theorem oz{t:TypeId}{u v:Value}{e:Bool}(h:∀d,(Op.equalIn (d+1) t u v).run P w= .ok e w):(Op.equal t u v).run P w= .ok e w:=h 9999
theorem MG{op:BinOp}{t:TypeId}{x y r:a7}{u v:Value}(e:P.underlying t=some .bool)(hx:dB ρ x u)(c:dB ρ y v)(h:V.vC op x y=some r):
  (∀a b,(eqGuard op t a b u v).run P w= .ok () w) /\ ∃z,(binOp op t u v).run P w= .ok z w /\ dB ρ r z:=by
 unfold V.vC at h;split at h
 ·cases hx;cases c
  refine⟨λ_ _=>nc _ _ _ _ _ _ (by simp) (by simp),nN h ?_ ?_⟩
  ·rintro _ (rfl|rfl)<;>simp[binOp]
  ·exact oz λd=>by simp[Op.equalIn,run_underlying e]
 ·cases h
theorem Nz{op:BinOp}{t e:TypeId}{x y r:a7}{u v:Value}(f:P.underlying t=some (.pointer e))(hx:dB ρ x u)(c:dB ρ y v)(h:V.Bo op x y=some r):
  (∀a b,(eqGuard op t a b u v).run P w= .ok () w) /\ ∃z,(binOp op t u v).run P w= .ok z w /\ dB ρ r z:=by
 unfold V.Bo at h;split at h
 ·cases hx;cases c
  refine⟨λ_ _=>nc _ _ _ _ _ _ (by simp) (by simp),nN h ?_ ?_⟩
  ·rintro _ (rfl|rfl)<;>simp[binOp]
  ·exact oz λd=>by simp[Op.equalIn,run_underlying f]
 ·cases hx;obtain⟨L,_,_,rfl⟩:=c
  refine⟨λ_ _=>nc _ _ _ _ _ _ (by simp) (by simp),nN h ?_ ?_⟩
  ·rintro _ (rfl|rfl)<;>simp[binOp]
  ·exact oz λd=>by simp[Op.equalIn,run_underlying f]
 ·cases c;obtain⟨L,_,_,rfl⟩:=hx
  refine⟨λ_ _=>nc _ _ _ _ _ _ (by simp) (by simp),nN h ?_ ?_⟩
  ·rintro _ (rfl|rfl)<;>simp[binOp]
  ·exact oz λd=>by simp[Op.equalIn,run_underlying f]
 ·cases h
theorem tH{id g off len es cp:Nat}{v:Value}(h:dB ρ (.sl id g off len es cp) v):∃a c,v= .slice (some a) len c:=by
 obtain⟨L,_,_,h⟩:=h;rcases h with⟨c,e,_⟩|⟨rfl,_,a,e⟩
 ·exact⟨_,_,e⟩
 ·exact⟨_,_,e⟩
theorem Ok{op:BinOp}{t e:TypeId}{x y r:a7}{u v:Value}(f:P.underlying t=some (.slice e))(hx:dB ρ x u)(c:dB ρ y v)(h:V.ry op x y=some r):
  (∀a b,(eqGuard op t a b u v).run P w= .ok () w) /\ ∃z,(binOp op t u v).run P w= .ok z w /\ dB ρ r z:=by
 unfold V.ry at h;split at h
 ·cases hx;cases c
  refine⟨λ_ _=>nc _ _ _ _ _ _ (by simp) (by simp),nN h ?_ ?_⟩
  ·rintro _ (rfl|rfl)<;>simp[binOp]
  ·exact oz λd=>by simp[Op.equalIn,run_underlying f]
 ·cases hx;obtain⟨_,_,rfl⟩:=tH c
  refine⟨λ_ _=>nc _ _ _ _ _ _ (by simp) (by simp),nN h ?_ ?_⟩
  ·rintro _ (rfl|rfl)<;>simp[binOp]
  ·exact oz λd=>by simp[Op.equalIn,run_underlying f]
 ·cases c;obtain⟨_,_,rfl⟩:=tH hx
  refine⟨λ_ _=>nc _ _ _ _ _ _ (by simp) (by simp),nN h ?_ ?_⟩
  ·rintro _ (rfl|rfl)<;>simp[binOp]
  ·exact oz λd=>by simp[Op.equalIn,run_underlying f]
 ·cases hx;obtain⟨a,rfl⟩:=c
  refine⟨λ_ _=>nc _ _ _ _ _ _ (by simp) (by simp),nN h ?_ ?_⟩
  ·rintro _ (rfl|rfl)<;>simp[binOp]
  ·exact oz λd=>by simp[Op.equalIn,run_underlying f]
 ·cases c;obtain⟨a,rfl⟩:=hx
  refine⟨λ_ _=>nc _ _ _ _ _ _ (by simp) (by simp),nN h ?_ ?_⟩
  ·rintro _ (rfl|rfl)<;>simp[binOp]
  ·exact oz λd=>by simp[Op.equalIn,run_underlying f]
 ·cases h
theorem N0{op:BinOp}{t e k:TypeId}{x y r:a7}{u v:Value}(f:P.underlying t=some (.map k e))(hx:dB ρ x u)(c:dB ρ y v)(h:V.Bp op x y=some r):
  (∀a b,(eqGuard op t a b u v).run P w= .ok () w) /\ ∃z,(binOp op t u v).run P w= .ok z w /\ dB ρ r z:=by
 unfold V.Bp at h;split at h
 ·cases hx;cases c
  refine⟨λ_ _=>nc _ _ _ _ _ _ (by simp) (by simp),nN h ?_ ?_⟩
  ·rintro _ (rfl|rfl)<;>simp[binOp]
  ·exact oz λd=>by simp[Op.equalIn,run_underlying f]
 ·cases hx;obtain⟨L,_,rfl⟩:=c
  refine⟨λ_ _=>nc _ _ _ _ _ _ (by simp) (by simp),nN h ?_ ?_⟩
  ·rintro _ (rfl|rfl)<;>simp[binOp]
  ·exact oz λd=>by simp[Op.equalIn,run_underlying f]
 ·cases c;obtain⟨L,_,rfl⟩:=hx
  refine⟨λ_ _=>nc _ _ _ _ _ _ (by simp) (by simp),nN h ?_ ?_⟩
  ·rintro _ (rfl|rfl)<;>simp[binOp]
  ·exact oz λd=>by simp[Op.equalIn,run_underlying f]
 ·cases h
theorem Ol{op:BinOp}{t:TypeId}{ps rs:Array TypeId}{f:Bool}{x y r:a7}{u v:Value}(e:P.underlying t=some (.func ps rs f))(hx:dB ρ x u)(c:dB ρ y v)(h:V.B0 op x y=some r):
  (∀a b,(eqGuard op t a b u v).run P w= .ok () w) /\ ∃z,(binOp op t u v).run P w= .ok z w /\ dB ρ r z:=by
 unfold V.B0 at h;split at h
 ·cases hx;cases c
  refine⟨λ_ _=>nc _ _ _ _ _ _ (by simp) (by simp),nN h ?_ ?_⟩
  ·rintro _ (rfl|rfl)<;>simp[binOp]
  ·exact oz λd=>by simp[Op.equalIn,run_underlying e]
 ·cases hx;obtain⟨_,_,rfl,_⟩:=c
  refine⟨λ_ _=>nc _ _ _ _ _ _ (by simp) (by simp),nN h ?_ ?_⟩
  ·rintro _ (rfl|rfl)<;>simp[binOp]
  ·exact oz λd=>by simp[Op.equalIn,run_underlying e]
 ·cases c;obtain⟨_,_,rfl,_⟩:=hx
  refine⟨λ_ _=>nc _ _ _ _ _ _ (by simp) (by simp),nN h ?_ ?_⟩
  ·rintro _ (rfl|rfl)<;>simp[binOp]
  ·exact oz λd=>by simp[Op.equalIn,run_underlying e]
 ·cases h
end
end Go.Ab
namespace Go.Ab
open List
section
variable{P:Program}{ρ:bP}
theorem dJ.drop:∀{as:List a7}{l:List Value}(n:Nat),dJ ρ as l->dJ ρ (as.drop n) (l.drop n)
 | _,_,0,h=>h
 | [],_,_+1,e=>by subst e;simp[dJ]
 | _::_,_,n+1,⟨_,_,e,_,h⟩=>by subst e;exact dJ.drop n h
theorem dJ.take:∀{as:List a7}{l:List Value}(n:Nat),dJ ρ as l->dJ ρ (as.take n) (l.take n)
 | _,_,0,_=>by simp[dJ]
 | [],_,_+1,e=>by subst e;simp[dJ]
 | _::_,_,n+1,⟨u,us,e,h1,h⟩=>by subst e;exact⟨u,us.take n,rfl,h1,dJ.take n h⟩
theorem ET:∀{cs:List Ck}{as bs:List a7}{e:Bool},V.lN cs as bs=some e->as.length=cs.length /\ bs.length=cs.length
 | [],[],[],_,_=>⟨rfl,rfl⟩
 | [],[],_::_,_,h|[],_::_,_,_,h|_::_,[],_,_,h|_::_,_::_,[],_,h=>by simp[V.lN]at h
 | c::cs,a::as,b::bs,e,h=>by
  simp only[V.lN]at h
  split at h
  ·rename_i x y h1 d
   have:=ET d
   simp[this]
  ·cases h
theorem EU:∀{d g:List Ck}{as bs:List a7}{e:Bool},V.lN (d++g) as bs=some e ->
  ∃e1 f,V.lN d (as.take d.length) (bs.take d.length)=some e1 /\ V.lN g (as.drop d.length) (bs.drop d.length)=some f /\ e=(e1&&f)
 | [],_,as,bs,e,h=>⟨true,e,by simp[V.lN],by simpa using h,by simp⟩
 | _::_,_,[],_,_,h|_::_,_,_::_,[],_,h=>by simp[V.lN]at h
 | c::d,g,a::as,b::bs,e,h=>by
  simp only[cons_append,V.lN]at h
  split at h
  ·rename_i x y h1 i
   obtain⟨e1,f,k1,k2,rfl⟩:=EU i
   refine⟨x&&e1,f,by simp[V.lN,h1,k1],by simpa using k2,?_⟩
   cases h
   cases x<;>simp
  ·cases h
theorem MC{x:Option (List Ck)}{r:List (Option (List Ck))}{l:List Ck}(h:vH (x::r)=some l):∃a b,x=some a /\ vH r=some b /\ l=a++b:=by
 cases x with
 | none=>simp[vH]at h
 | some a=>
  simp only[vH]at h;split at h
  ·rename_i m hm;cases h;exact⟨a,m,rfl,hm,rfl⟩
  ·cases h
def DV(P:Program)(ρ:bP)(D:Nat)(t:TypeId)(sh:List Ck):Prop:=sh.length=P.cellsOf t /\ ∀(as bs:List a7)(xs ys:List Value)(n:Nat)(e:Bool)(w:World),dJ ρ as xs->dJ ρ bs ys->V.lN sh ((as.drop n).take sh.length) ((bs.drop n).take sh.length)=some e->∃a b,(part t xs.toArray n).run P w= .ok a w /\ (part t ys.toArray n).run P w= .ok b w /\ (Op.equalIn D t a b).run P w= .ok e w
theorem Fk{d:Nat}:∀(fs:List Field)(sh:List Ck)(n m:Nat),(∀ f∈fs,f.name≠ "_")→x2 P fs n=some m →
  vH (fs.map λf=>wu P d f.type)=some sh->∀D,(∀f∈fs,∀s,wu P d f.type=some s->DV P ρ D f.type s) ->
  n+sh.length=m /\ ∀(as bs:List a7)(xs ys:List Value)(e:Bool)(w:World),dJ ρ as xs->dJ ρ bs ys ->
  V.lN sh ((as.drop n).take sh.length) ((bs.drop n).take sh.length)=some e->(Op.eqFields D xs.toArray ys.toArray fs).run P w= .ok e w
 | [],sh,n,m,_,i,k,D,_=>by
  simp[x2]at i
  simp[vH]at k
  subst k
  refine⟨by simpa using i,λas bs xs ys e w _ _ h=>?_⟩
  simp[V.lN]at h
  subst h
  simp[Op.eqFields]
 | f::fs,sh,n,m,p,i,k,D,c=>by
  simp only[x2]at i
  split at i
  ·rename_i j
   obtain⟨s1,s2,h1,x,rfl⟩:=MC k
   obtain⟨z,v⟩:=c f (by simp) s1 h1
   obtain⟨hm,u⟩:=Fk fs s2 (n+P.cellsOf f.type) m (λg l=>p g (by simp[l])) i x D (λg l=>c g (by simp[l]))
   refine⟨by simp only[length_append];omega,λas bs xs ys e w hx o h=>?_⟩
   obtain⟨e1,y,k1,k2,rfl⟩:=EU h
   rw[length_append]at k1 k2
   rw[take_take,Nat.min_eq_left (by omega),take_take,Nat.min_eq_left (by omega)]at k1
   rw[drop_take,drop_take,drop_drop,drop_drop,show s1.length+s2.length-s1.length=s2.length by omega,show n+s1.length=n+P.cellsOf f.type by omega]at k2
   obtain⟨a,b,t,r2,r⟩:=v as bs xs ys n e1 w hx o k1
   have q:=u as bs xs ys y w hx o k2
   simp only[Op.eqFields,p f (by simp),ne_eq,not_false_eq_true,if_true,Sem.run_bind,j,t,r2,r,Result.andThen_ok]
   cases e1
   ·simp
   ·simp[q]
  ·cases i
theorem Ff{t:TypeId}{d:TypeDesc}(a:P.underlying t=some d)(b:e8 P t=false){xs:List Value}{n:Nat}{u:Value}(h:xs[n]?=some u)(w:World):(part t xs.toArray n).run P w= .ok u w:=by
 unfold part;simp only[Sem.run_bind,uk a,Result.andThen_ok,b];simp[h]
theorem Gq:∀(d:Nat)(t:TypeId)(sh:List Ck),wu P d t=some sh->∀D,DV P ρ (D+d) t sh
 | 0,_,_,h,_=>by simp[wu]at h
 | d+1,t,sh,h,D=>by
  have one:∀(c:Ck)(K:TypeDesc),P.underlying t=some K->e8 P t=false->(bif Nat.beq (P.cellsOf t) 1 then some [c] else none)=some sh ->
    (∀a b u v e w,dB ρ a u->dB ρ b v->V.tL c a b=some e->(Op.equalIn (D+(d+1)) t u v).run P w= .ok e w)->DV P ρ (D+(d+1)) t sh:=by
   intro c K g I q k;cases hb:Nat.beq (P.cellsOf t) 1 with
   | false=>simp[hb]at q
   | true=>
    simp only[hb,cond_true,Option.some.injEq]at q;subst q;refine⟨by have:=Nat.eq_of_beq_eq_true hb;simp[this],λas bs xs ys n e w hx z h=>?_⟩;cases m:as.drop n with
    | nil=>rw[m]at h;simp[V.lN]at h
    | cons a U=>
     cases p:bs.drop n with
     | nil=>rw[m,p]at h;simp[V.lN]at h
     | cons b T=>
      rw[m,p]at h;simp only[length_singleton,take_succ_cons,take_zero,V.lN]at h;have S:as[n]?=some a:=by have:=congrArg (·[0]?) m;simpa using this
      have R:bs[n]?=some b:=by have:=congrArg (·[0]?) p;simpa using this
      obtain⟨u,hu,M⟩:=hx.get S;obtain⟨v,o,L⟩:=z.get R;refine⟨u,v,Ff g I hu w,Ff g I o w,?_⟩;split at h
      ·rename_i x y h1 J
       simp at J h;subst J;rw[Bool.and_true]at h;subst h;exact k a b u v x w M L h1
      ·cases h
  simp only[wu]at h;split at h
  ·rename_i g
   refine one .b _ g (by simp[e8,g]) h λa b u v e w hu o he=>?_;unfold V.tL at he;split at he<;>(try (cases he;done))
   ·cases hu;cases o;cases he;exact run_equalIn_bool w (D+d) t _ _ g
   all_goals simp_all
  ·rename_i k g
   refine one (.i k) _ g (by simp[e8,g]) h λa b u v e w hu o he=>?_;unfold V.tL at he;split at he<;>(try (cases he;done))
   ·simp_all
   ·rename_i W j x l y hk
    split at he
    ·rename_i Q
     obtain⟨rfl,rfl⟩:=Q;cases hu;cases o;cases he;exact run_equalIn_int w (D+d) t _ _ _ _ g
    ·cases he
   ·simp_all
  ·rename_i g
   refine one .s _ g (by simp[e8,g]) h λa b u v e w hu o he=>?_;unfold V.tL at he;split at he<;>(try (cases he;done))
   ·simp_all
   ·simp_all
   ·obtain⟨s,rfl,rfl⟩:=hu
    obtain⟨s',rfl,rfl⟩:=o;cases he;rw[show D+(d+1)=(D+d)+1 by omega,run_equalIn_string w (D+d) t _ _ g,Lib.toList_data,Lib.toList_data]
  ·rename_i fs g
   cases hb:(!P.stoodInHeld t&&fs.toList.all (fun f=>f.name != "_")&&x2 P fs.toList 0==some (P.cellsOf t)) with
   | false=>rw[hb,cond_false]at h;cases h
   | true=>
    rw[hb,cond_true]at h;simp only[Bool.and_eq_true,Bool.not_eq_true',all_eq_true,bne_iff_ne,beq_iff_eq]at hb;obtain⟨⟨A,B⟩,F⟩:=hb;obtain⟨hm,N⟩:=Fk (ρ:=ρ) fs.toList sh 0 _ B F h (D+d) (λf _ s q=>Gq d f.type s q D);refine⟨by omega,λas bs xs ys n e w hx z he=>?_⟩;have C:P.underlying t=some (.struct (P.fieldsOf t)):=by simp[Program.fieldsOf,g]
    have E:(P.fieldsOf t).toList=fs.toList:=by simp[Program.fieldsOf,g]
    have G:e8 P t=true:=by simp[e8,g]
    obtain⟨i,hi⟩:=info_of_underlying g;have O:P.cellsOf t=i.size:=kI hi;have H:∀r:List Value,(part t r.toArray n).run P w= .ok (.agg ((r.drop n).take sh.length).toArray) w:=λr=>by
     unfold part;simp only[Sem.run_bind,uk g,Result.andThen_ok,G,if_true,run_sizeOf hi,Sem.run_pure];congr 2;apply Array.ext';simp only[extract_toArray,extract_eq_take_drop];rw[show n+i.size-n=sh.length by omega]
    refine⟨_,_,H xs,H ys,?_⟩;rw[show D+(d+1)=(D+d)+1 by omega,run_equalIn_struct w (D+d) t _ _ C A,E];exact N _ _ _ _ e w (hx.drop n |>.take sh.length) (z.drop n |>.take sh.length) (by simpa[take_take]using he)
  ·cases h
theorem MK{op:BinOp}{t:TypeId}{fs:Array Field}{sh:List Ck}{x y r:a7}{u v:Value}{w:World}(j:P.underlying t=some (.struct fs))(g:yr P t=some sh)
  (hx:dB ρ x u) (p:dB ρ y v) (h:V.rN op sh x y=some r):
  (∀a b,(eqGuard op t a b u v).run P w= .ok () w) /\ ∃z,(binOp op t u v).run P w= .ok z w /\ dB ρ r z:=by
 unfold V.rN at h;split at h
 ·rename_i as bs
  split at h
  ·rename_i e he
   unfold yr at g;cases k:P.eqGuardType P.depth t with
   | true=>simp[k]at g
   | false=>
    simp only[k,cond_false]at g;obtain⟨xs,rfl,f,_⟩:=hx;obtain⟨ys,rfl,d,_⟩:=p;refine⟨λ_ _=>run_eqGuard_agg w _ _ _ _ _ _ k,nN h ?_ ?_⟩
    ·rintro _ (rfl|rfl)<;>simp[binOp]
    ·obtain⟨l1,l2⟩:=ET he
     obtain⟨A,q⟩:=Gq (ρ:=ρ) 8 t sh g 9992;obtain⟨a,b,m,r2,o⟩:=q as bs xs ys 0 e w f d (by simpa[take_of_length_le,l1,l2]using he);have l:e8 P t=true:=by simp[e8,j]
     obtain⟨i,hi⟩:=info_of_underlying j;have n:∀c:List Value,c.length=sh.length->(part t c.toArray 0).run P w= .ok (.agg c.toArray) w:=λc s=>by
      unfold part;simp only[Sem.run_bind,uk j,Result.andThen_ok,l,if_true,run_sizeOf hi,Sem.run_pure];congr 2;apply Array.ext';have:=kI hi;simp[take_of_length_le (show c.length <= i.size by omega)]
     rw[n xs (by rw[<-f.length];exact l1)]at m;rw[n ys (by rw[<-d.length];exact l2)]at r2;cases m;cases r2;exact o
  ·cases h
 ·cases h
end
end Go.Ab
namespace Go.Ab
open List
open Go.RowKit (Below)
theorem qn{g hi:Nat}:∀{l:List (Nat×Nat)},l.lookup g=some hi->(g,hi)∈l
 | [],h=>by simp at h
 | (k,v)::r,h=>by
  rw[lookup_cons]at h
  by_cases hk:g=k
  ·subst hk
   simp at h
   simp[h]
  ·have:(g==k)=false:=by simpa using hk
   rw[this]at h
   exact mem_cons_of_mem _ (qn h)
section
variable{P:Program}{w0:World}{ρ:bP}{h H:a9}{w:World}
theorem wX(q:R w0 ρ H w){id:Nat}{b:fB}(i:H id=some b){g hi:Nat}(p:(g,hi)∈b.eE){L:Loc}(r:ρ id g=some L){off n:Nat}(o:L.lo <= off)(t:off+n <= hi):
  ∃l:List Value,l.length=n /\ dJ ρ ((b.cells.drop off).take n) l /\ (∀u∈l,u.oneCell'=true) /\
   ∀j u,l[j]?=some u->w.cell? ⟨L.bT,L.base+(off-L.lo)+j,none⟩=some u:=by
 obtain⟨h0,L',arr,e,fr,h1,s,x,v,_,k⟩:=(q.bT id b i).gen g hi p;rw[r]at h1;cases h1;have h:∀j,j<n->arr[L.base+(off-L.lo)+j]?=arr[L.base+(off+j-L.lo)]? :=λj c=>by
  rw[show L.base+(off-L.lo)+j=L.base+(off+j-L.lo) by omega]
 have hlen:((arr.toList.drop (L.base+(off-L.lo))).take n).length=n:=by
  simp only[length_take,length_drop,Array.length_toList];omega
 have d:∀j,j<n->((arr.toList.drop (L.base+(off-L.lo))).take n)[j]?=arr[L.base+(off-L.lo)+j]? :=λj c=>by
  rw[getElem?_take_of_lt c,getElem?_drop];simp
 refine⟨(arr.toList.drop (L.base+(off-L.lo))).take n,hlen,?_,?_,?_⟩
 ·refine dJ.AZ (by rw[hlen,length_take,length_drop];omega) λj a u f hu=>?_
  have c:j<n:=by
   rcases Nat.lt_or_ge j n with c|c
   ·exact c
   ·rw[getElem?_eq_none (by rw[hlen];exact c)]at hu;cases hu
  rw[getElem?_take_of_lt c,getElem?_drop]at f;obtain⟨m,k1,k2,_⟩:=k (off+j) (by omega) (by omega) a f;rw[d j c,h j c,k1]at hu;cases hu;exact k2
 ·intro u hu
  obtain⟨j,c,rfl⟩:=getElem_of_mem hu;rw[hlen]at c;have f:∃a,b.cells[off+j]?=some a:=⟨_,getElem?_eq_getElem (by omega)⟩;obtain⟨a,f⟩:=f;obtain⟨m,k1,_,k3⟩:=k (off+j) (by omega) (by omega) a f;have:=d j c;rw[h j c,k1,getElem?_eq_getElem (by rw[hlen];exact c)]at this;cases this;exact k3
 ·intro j u hu
  have c:j<n:=by
   rcases Nat.lt_or_ge j n with c|c
   ·exact c
   ·rw[getElem?_eq_none (by rw[hlen];exact c)]at hu;cases hu
  rw[d j c]at hu;simp only[World.cell?,s];simpa using hu
theorem GF(f:R w0 ρ H w)(hle:h.le H){p x:a7}(hx:A.bX h p=some x){v:Value}(c:dB ρ p v):
  ∃ad u,v= .pointer (some ad) /\ w.cell? ad=some u /\ dB ρ x u /\ u.oneCell'=true:=by
 unfold A.bX at hx;split at hx<;>(try (cases hx;done));rename_i id g off;split at hx<;>(try (cases hx;done));rename_i b hb;split at hx<;>(try (cases hx;done));rename_i hi e;split at hx<;>(try (cases hx;done));rename_i d;obtain⟨L,i,a,rfl⟩:=c;obtain⟨l,k1,k2,k3,k4⟩:=wX f (hle id b hb) (qn e) i (n:=1) a (by omega);cases l with
 | nil=>simp at k1
 | cons u r=>
  have:((b.cells.drop off).take 1)[0]?=some x:=by rw[getElem?_take_of_lt (by omega),getElem?_drop];simpa using hx
  obtain⟨k,e1,j⟩:=k2.get this;simp at e1;subst e1;exact⟨_,u,rfl,by simpa using k4 0 u (by simp),j,k3 u (by simp)⟩
theorem Af(q:R w0 ρ H w)(hle:h.le H){x:a7}{n es:Nat}{cs:List a7}(hx:A.rdv h x n es=some cs){v:Value}(d:dB ρ x v):
  ∃l:List Value,l.length=n*es /\ dJ ρ cs l /\ (∀u∈l,u.oneCell'=true) /\ (∀w',(∀b o u,w.cell? ⟨b,o,none⟩=some u->w'.cell? ⟨b,o,none⟩=some u)->(Builtin.firstCells es n v).run P w'= .ok l.toArray w') /\
   (n=0 \/ ∃ad m c,v= .slice (some ad) m c /\ ∀j u,l[j]?=some u->w.cell? (ad.add j)=some u):=by
 unfold A.rdv at hx;split at hx<;>(try (cases hx;done))
 ·split at hx<;>(try (cases hx;done))
  rename_i e;cases hx;cases d;subst e;exact⟨[],by simp,rfl,by simp,λw' _=>by simp[Builtin.firstCells],.inl rfl⟩
 ·split at hx<;>(try (cases hx;done))
  rename_i e;cases hx;obtain⟨a,rfl⟩:=d;subst e;exact⟨[],by simp,rfl,by simp,λw' _=>by simp[Builtin.firstCells,loadCells,loadCellsFrom],.inl rfl⟩
 ·rename_i id g off len s t
  split at hx<;>(try (cases hx;done));rename_i b hb;split at hx<;>(try (cases hx;done));rename_i hi p;split at hx<;>(try (cases hx;done));rename_i f;cases hx;obtain⟨L,r,i,⟨cap,rfl,h1,z,y⟩|⟨rfl,_,a,rfl⟩⟩:=d
  case inr=>
   have h0:n=0:=by omega
   subst h0;exact⟨[],by simp,by simp[dJ],by simp,λw' _=>by simp[Builtin.firstCells,loadCells,loadCellsFrom],.inl rfl⟩
  obtain⟨l,k1,k2,k3,k4⟩:=wX q (hle id b hb) (qn p) r (n:=n*es) i f.2;refine⟨l,k1,k2,k3,λw' hw=>?_,.inr ⟨_,_,_,rfl,λj u k=>by rw[rC];exact k4 j u k⟩⟩;exact run_firstCells_some w' es n _ _ _ l k1 λj u k=>by rw[rC];exact hw _ _ _ (k4 j u k)
theorem Ci(b:Nat){e:TypeId}{fr:Nat×Nat}:∀(vs:List Value)(o:Nat)(w:World)(arr:Array Value),w.heap[b]?=some (.cells arr e fr)->o+vs.length <= arr.size ->
  ∃arr',Bi w (w.setCells b o vs) b arr' e fr /\ arr'.size=arr.size /\ (∀x,x<o->arr'[x]?=arr[x]?) /\ (∀j,j<vs.length->arr'[o+j]?=vs[j]?) /\ (∀x,o+vs.length <= x->arr'[x]?=arr[x]?)
 | [],o,w,arr,h,_=>⟨arr,⟨rfl,rfl,rfl,rfl,h,λ_ _=>rfl⟩,rfl,λ_ _=>rfl,λj c=>by simp at c,λ_ _=>rfl⟩
 | v::vs,o,w,arr,h,f=>by
  simp only[length_cons]at f;have h1:(w.setCell ⟨b,o,none⟩ v).heap[b]?=some (.cells (arr.setIfInBounds o v) e fr):=by
   simp[World.setCell,Array.getElem?_modify,h]
  obtain⟨arr',a,d,k1,k2,k3⟩:=Ci b vs (o+1) (w.setCell ⟨b,o,none⟩ v) (arr.setIfInBounds o v) h1 (by simp;omega);refine⟨arr',⟨a.os,a.tape,a.output,?_,a.at_,λi hi=>?_⟩,by simpa using d,λx hx=>?_,λj c=>?_,λx hx=>?_⟩
  ·rw[show w.setCells b o (v::vs)=(w.setCell ⟨b,o,none⟩ v).setCells b (o+1) vs from rfl,a.size];simp[World.setCell]
  ·rw[show w.setCells b o (v::vs)=(w.setCell ⟨b,o,none⟩ v).setCells b (o+1) vs from rfl,a.other i hi]
   exact Below.heap_setCell _ _ _ _ hi
  ·rw[k1 x (by omega),Array.getElem?_setIfInBounds_ne (by omega)]
  ·cases j with
   | zero=>
    rw[Nat.add_zero,k1 o (by omega),Array.getElem?_setIfInBounds_self_of_lt (by omega)];simp
   | succ j=>
    have:=k2 j (by simpa using c);rw[show o+(j+1)=o+1+j by omega,this];simp
  ·simp only[length_cons]at hx
   rw[k3 x (by omega),Array.getElem?_setIfInBounds_ne (by omega)]
def pQ(cs xs:List a7)(o:Nat):List a7:=cs.take o++xs++cs.drop (o+xs.length)
theorem Mi{cs xs:List a7}{o j:Nat}(h:o+xs.length <= cs.length):(pQ cs xs o)[j]?=if j<o then cs[j]? else if j<o+xs.length then xs[j-o]? else cs[j]? :=by
 unfold pQ;have b:(cs.take o).length=o:=by rw[length_take];omega
 by_cases h1:j<o
 ·rw[if_pos h1,append_assoc,getElem?_append_left (by omega),getElem?_take_of_lt h1]
 ·rw[if_neg h1,append_assoc,getElem?_append_right (by omega),b]
  by_cases a:j<o+xs.length
  ·rw[if_pos a,getElem?_append_left (by omega)]
  ·rw[if_neg a,getElem?_append_right (by omega),getElem?_drop]
   congr 1;omega
theorem KR{cs xs:List a7}{o:Nat}(h:o+xs.length <= cs.length):(pQ cs xs o).length=cs.length:=by
 simp only[pQ,length_append,length_take,length_drop];omega
theorem zH(p:R w0 ρ H w){id:Nat}{b:fB}(l:H id=some b)(c:b.own=true){g hi:Nat}(o:(g,hi)∈b.eE){L:Loc}(q:ρ id g=some L){off:Nat}(s:L.lo <= off)
  {xs:List a7} {vs:List Value} (x:off+xs.length <= hi) (hx:dJ ρ xs vs) (h1:∀u∈vs,u.oneCell'=true):
  (storeCells ⟨L.bT,L.base+(off-L.lo),none⟩ vs).run P w= .ok () (w.setCells L.bT (L.base+(off-L.lo)) vs) /\
  R w0 ρ (bQ H id { b with cells:=pQ b.cells xs off,eE:=[(g,hi)] }) (w.setCells L.bT (L.base+(off-L.lo)) vs):=by
 obtain⟨h0,L',arr,e,fr,k1,k2,k3,k4,k5,k6⟩:=(p.bT id b l).gen g hi o;rw[q]at k1;cases k1;have hlen:=hx.length;obtain⟨arr',r,v,m1,m2,m3⟩:=Ci L.bT vs (L.base+(off-L.lo)) w arr k2 (by omega);constructor
 ·refine run_storeCells_cells L.bT (L.base+(off-L.lo)) vs 0 w (λj t=>?_) (λj t=>?_) h1
  ·simp only[World.cell?,k2]
   simp only[Option.isSome_none,Bool.false_eq_true,if_false,Nat.add_zero];rw[Array.getElem?_eq_getElem (by omega)];rfl
  ·have n:=(k5 c).2
   simp only[World.frozen?,k2,Nat.add_zero];unfold tU at n;simp only[Bool.and_eq_false_iff,decide_eq_false_iff_not];omega
 ·refine p.write l c o q (k5 c).2 r (by omega) _ (by rw[KR (by omega)];exact h0) λj k i a f=>?_
  rw[Mi (by omega)]at f;split at f
  ·obtain⟨u,d,h,m⟩:=k6 j k i a f
   exact⟨u,by rw[m1 _ (by omega)];exact d,h,m⟩
  ·split at f
   ·obtain⟨u,d,h⟩:=hx.get f
    have:=m2 (j-off) (by omega);rw[show L.base+(off-L.lo)+(j-off)=L.base+(j-L.lo) by omega,d]at this;exact⟨u,this,h,h1 u (mem_of_getElem? d)⟩
   ·obtain⟨u,d,h,m⟩:=k6 j k i a f
    exact⟨u,by rw[m3 _ (by omega)];exact d,h,m⟩
theorem Fr.bQ{h H:a9}{id:Nat}{b:fB}{c:fB}(a:h id=some c):Fr h H (bQ h id b) (bQ H id b):=λi h0 x hx=>by
 have:i≠id:=λhi=>by subst hi;rw[h0]at a;cases a
 rw[cQ _ _ this,cQ _ _ this]
 exact⟨hx,h0⟩
theorem Fr.fresh{h H:a9}{id:Nat}{b:fB}(a:H id=none):Fr h H (Ab.bQ h id b) (Ab.bQ H id b):=λi h0 x hx=>by
 have:i≠id:=λhi=>by subst hi;rw[a]at hx;cases hx
 rw[cQ _ _ this,cQ _ _ this]
 exact⟨hx,h0⟩
end
end Go.Ab
namespace Go.Ab
open List
open Go.RowKit (Below)
theorem Ga(off:Nat):∀(vs:List Value)(k:Nat)(arr:Array Value),off+k+vs.length <= arr.size ->
  ((vs.zipIdx k).foldl (fun(cs:Array Value)(p:Value×Nat)=>cs.setIfInBounds (off+p.2) p.1) arr).toList=arr.toList.take (off+k)++vs++arr.toList.drop (off+k+vs.length)
 | [],k,arr,_=>by simp
 | v::vs,k,arr,h=>by
  simp only[length_cons]at h
  rw[zipIdx_cons,foldl_cons,Ga off vs (k+1) _ (by simp;omega)]
  simp only[Array.toList_setIfInBounds,length_cons]
  apply ext_getElem?
  intro x
  have d:arr.toList.length=arr.size:=by simp
  rw[append_assoc,append_assoc]
  by_cases h1:x<off+k
  ·rw[getElem?_append_left (by rw[length_take,length_set];omega),getElem?_append_left (by rw[length_take];omega),
    getElem?_take_of_lt (by omega),getElem?_take_of_lt (by omega),getElem?_set_ne (by omega)]
  ·by_cases b:x=off+k
   ·subst b
    rw[getElem?_append_left (by rw[length_take,length_set];omega),getElem?_append_right (by rw[length_take];omega),
     getElem?_take_of_lt (by omega),getElem?_set_self (by omega),length_take]
    simp[show off+k-min (off+k) arr.size=0 by omega]
   ·have l1:((arr.toList.set (off+k) v).take (off+(k+1))).length=off+(k+1):=by rw[length_take,length_set];omega
    have l2:(arr.toList.take (off+k)).length=off+k:=by rw[length_take];omega
    have e1:∀B:List Value,((arr.toList.set (off+k) v).take (off+(k+1))++B)[x]?=B[x-(off+(k+1))]? :=λB=>by rw[getElem?_append_right (by omega),l1]
    have c:∀B:List Value,(arr.toList.take (off+k)++(v::B))[x]?=B[x-(off+(k+1))]? :=λB=>by
     rw[getElem?_append_right (by omega),l2,show x-(off+k)=(x-(off+(k+1)))+1 by omega,getElem?_cons_succ]
    rw[e1,cons_append,c]
    by_cases a:x-(off+(k+1))<vs.length
    ·rw[getElem?_append_left a,getElem?_append_left a]
    ·rw[getElem?_append_right (by omega),getElem?_append_right (by omega),getElem?_drop,getElem?_drop,getElem?_set_ne (by omega)]
     congr 1
     omega
section
variable{P:Program}{ρ:bP}
theorem Hh(place:Nat->Option (Nat×Nat))(i off:Nat)(u:Value)(us l:List Value)(r:List (Nat×Value))(a:place i=some (off,us.length))(hu:u.cells=us.toArray)(b:off+us.length <= l.length):
  Instr.fill place l.toArray ((i,u)::r)=Instr.fill place (l.take off++us++l.drop (off+us.length)).toArray r:=by
 simp only[Instr.fill,a,hu,size_toArray];rw[if_neg (by simp;omega)];congr 1;apply Array.ext';have:=Ga off us 0 l.toArray (by simpa using b);simp only[Nat.add_zero]at this;rw[<-this];simp
def OX(ρ:bP)(place:Nat->Option (Nat×Nat))(x:Nat×Option Nat×a7)(y:Nat×Value):Prop:=place y.1=some (x.1,x.2.1.getD 1) /\ dB ρ x.2.2 y.2
def yn(ρ:bP)(place:Nat->Option (Nat×Nat)):List (Nat×Option Nat×a7)->List (Nat×Value)->Prop|[],l=>l=[]|x::xs,l=>∃y ys,l=y::ys /\ OX ρ place x y /\ yn ρ place xs ys
theorem zX(place:Nat->Option (Nat×Nat)):∀(ps:List (Nat×Option Nat×a7))(d:List (Nat×Value))(cs fq:List a7)(l:List Value),yn ρ place ps d->bN ps cs=some fq ->
  dJ ρ cs l->(∀u∈l,u.oneCell'=true)->∃l',Instr.fill place l.toArray d=some l'.toArray /\ dJ ρ fq l' /\ ∀u∈l',u.oneCell'=true
 | [],_,cs,fq,l,e,h,f,h1=>by
  subst e;cases h;exact⟨l,rfl,f,h1⟩
 | (off,none,x)::ps,_,cs,fq,l,⟨(i,u),d,e,⟨p,hx⟩,o⟩,h,f,h1=>by
  subst e;simp only[bN,V.pY]at h;cases r:x.aI with
  | false=>simp[r]at h
  | true=>
   simp only[r,cond_true]at h;split at h
   ·rename_i s c
    split at c<;>(try (cases c;done));rename_i q;cases c;have k:=z9 r hx;have A:=f.length;obtain⟨l',k1,k2,k3⟩:=zX place ps d (cs.set off x) fq (l.take off++[u]++l.drop (off+1)) o h (dJ.AZ (by
      simp only[length_set,length_append,length_take,length_drop,length_singleton];omega) λj a v m b=>by
     by_cases t:j=off
     ·subst t
      rw[getElem?_set_self q]at m;cases m;rw[append_assoc,getElem?_append_right (by rw[length_take];omega),length_take]at b;simp[show j-min j l.length=0 by omega]at b;subst b;exact hx
     ·rw[getElem?_set_ne (Ne.symm t)]at m
      obtain⟨B,y,w⟩:=f.get m;have:(l.take off++[u]++l.drop (off+1))[j]?=l[j]? :=by
       rcases Nat.lt_or_ge j off with h'|h'
       ·rw[append_assoc,getElem?_append_left (by rw[length_take];omega),getElem?_take_of_lt h']
       ·rw[getElem?_append_right (by simp only[length_append,length_take,length_singleton];omega),getElem?_drop]
        congr 1;simp only[length_append,length_take,length_singleton];omega
      rw[this,y]at b;cases b;exact w) (λv b=>by
     simp only[mem_append,mem_singleton]at b;rcases b with (b|rfl)|b
     ·exact h1 v (mem_of_mem_take b)
     ·exact k
     ·exact h1 v (mem_of_mem_drop b))
    refine⟨l',?_,k2,k3⟩;rw[<-k1];exact Hh place i off u [u] l d p (Ch k) (by simp;omega)
   ·cases h
 | (off,some n,x)::ps,_,cs,fq,l,⟨(i,u),d,e,⟨p,hx⟩,o⟩,h,f,h1=>by
  subst e;simp only[bN]at h;split at h<;>(try (cases h;done));rename_i s c;unfold V.mf at c;split at c<;>(try (cases c;done));rename_i xs;split at c<;>(try (cases c;done));rename_i hlen;cases c;obtain⟨us,e,g,k⟩:=hx;simp only at e;subst e;have A:=f.length;have z:=g.length;obtain⟨l',k1,k2,k3⟩:=zX place ps d _ fq (l.take off++us++l.drop (off+us.length)) o h (by
    have:=(f.take off).append g |>.append (f.drop (off+n))
    rwa [show off+us.length=off+n by omega]) (λv b=>by
   simp only[mem_append]at b;rcases b with (b|b)|b
   ·exact h1 v (mem_of_mem_take b)
   ·exact k v b
   ·exact h1 v (mem_of_mem_drop b))
  refine⟨l',?_,k2,k3⟩;rw[<-k1];exact Hh place i off (.agg us.toArray) us l d (by rw[p];simp;omega) rfl (by omega)
theorem ME:∀{a:a7}{v:Value},DJ a v=true->dB ρ a v /\ v.oneCell'=true:=by
 intro a v h;unfold DJ at h;split at h
 ·simp at h;subst h;exact⟨rfl,rfl⟩
 ·simp at h;obtain⟨rfl,rfl⟩:=h;exact⟨rfl,rfl⟩
 ·simp only[beq_iff_eq]at h;exact⟨⟨_,rfl,h.symm⟩,rfl⟩
 ·exact⟨rfl,rfl⟩
 ·exact⟨rfl,rfl⟩
 ·exact⟨rfl,rfl⟩
 ·exact⟨rfl,rfl⟩
 ·cases h
theorem Fj:∀{as:List a7}{l:List Value},wj as l=true->dJ ρ as l /\ ∀u∈l,u.oneCell'=true
 | [],[],_=>⟨rfl,by simp⟩
 | [],_::_,h=>by simp[wj]at h
 | _::_,[],h=>by simp[wj]at h
 | a::as,v::l,h=>by
  simp only[wj,Bool.and_eq_true]at h
  obtain⟨h1,d⟩:=ME (ρ:=ρ) h.1
  obtain⟨c,b⟩:=Fj h.2
  exact⟨⟨v,l,rfl,h1,c⟩,λu hu=>by
   rcases mem_cons.1 hu with rfl|hu
   ·exact d
   ·exact b u hu⟩
theorem uh{t:TypeId}{cs:List a7}(h:zeroOf P t=some cs):
  ∃i z,P.info? t=some i /\ i.zero=some z /\ dJ ρ cs z.cells.toList /\ (∀u∈z.cells.toList,u.oneCell'=true) /\ cs.length=P.cellsOf t /\ z.cells.size=i.size /\ (∃d,P.underlying t=some d) /\ zeroAt P 12 t=some cs:=by
 unfold zeroOf at h;split at h
 ·rename_i fq z h1 b
  cases a:(wj fq z.cells.toList&&Nat.beq fq.length (P.cellsOf t)) with
  | false=>simp[a]at h
  | true=>
   simp only[a,cond_true,Option.some.injEq]at h;subst h;simp only[Bool.and_eq_true]at a;cases hi:P.info? t with
   | none=>simp[hi]at b
   | some i=>
    simp only[hi,Option.bind_some]at b;obtain⟨k1,k2⟩:=Fj (ρ:=ρ) a.1;have k3:=Nat.eq_of_beq_eq_true a.2;have k4:=kI hi;refine⟨i,z,rfl,b,k1,k2,k3,?_,?_,h1⟩
    ·have:=k1.length
     simp at this;omega
    ·simp only[zeroAt]at h1
     cases hu:P.underlying t with
     | none=>simp[hu]at h1
     | some d=>exact⟨d,rfl⟩
 ·cases h
end
end Go.Ab
namespace Go.Ab
open List
open Go.RowKit (Below)
section
variable{P:Program}{w0:World}{ρ:bP}{h H:a9}{w:World}{s:bB}{a:Act}{K:zQ}{o:Oper}{Q:Exit->Act->World->Prop}
theorem wk{cs:List a7}{l:List Value}(a:dJ ρ cs l)(h1:∀u∈l,u.oneCell'=true)(rest:List Value)(j:Nat)(x:a7)(hx:cs[j]?=some x):
  ∃u,(l++rest).toArray[j]?=some u /\ dB ρ x u /\ u.oneCell'=true:=by
 obtain⟨u,k1,k2⟩:=a.get hx;have b:j<l.length:=(List.getElem?_eq_some_iff.1 k1).1;refine⟨u,?_,k2,h1 u (mem_of_getElem? k1)⟩;rw[getElem?_toArray,getElem?_append_left b];exact k1
theorem wc(f:R w0 ρ H w)(hle:h.le H){cs:List a7}{g:Nat->a9->Prop}(i:A.new h cs g)(arr:Array Value)(e:TypeId)(fr:Nat×Nat)(d:tU fr arr.size)(k:cs.length <= arr.size)
  (l:∀(j:Nat)(x:a7),cs[j]?=some x->∃u,arr[j]?=some u /\ dB ρ x u /\ u.oneCell'=true) (n:Nat):
  ∃id ρ',g id (bQ h id (cG cs)) /\ ρ.le ρ' /\ ρ' id 0=some ⟨w.heap.size,0,0,arr.size⟩ /\ (bQ h id (cG cs)).le (bQ H id (cG cs)) /\ Fr h H (bQ h id (cG cs)) (bQ H id (cG cs)) /\
   R w0 ρ' (bQ H id (cG cs)) { w with heap:=w.heap.push (.cells arr e fr),drawn:=n }:=by
 obtain⟨N,m⟩:=f.fin;obtain⟨a,hρN⟩:=m N (Nat.le_refl N);have c:h N=none:=by
  cases e:h N with
  | none=>rfl
  | some b=>have:=hle N b e;rw[a]at this;cases this
 exact⟨N,_,i N c,bP.sB _ (hρN 0),bP.kX ..,mc _ hle,Fr.fresh a,(f.new a hρN cs arr e fr d k l).drew n⟩
theorem CX(f:R w0 ρ H w)(hle:h.le H){cs:List a7}(d:A.new h cs λid h=>K (.ptr id 0 0) h){l:List Value}{e:TypeId}(b:dJ ρ cs l)(h1:∀u∈l,u.oneCell'=true)
  (c:(execOp a.eval o).run P w= .ok (.value (.pointer (some ⟨w.heap.size,0,none⟩))) { w with heap:=w.heap.push (.cells l.toArray e) }):eh P w0 ρ h H K o a w Q:=by
 obtain⟨id,ρ',k1,k2,k3,k4,k5,k6⟩:=wc f hle d l.toArray e (0,0) (.inl rfl) (by simp[b.length]) (by simpa using wk b h1 []) w.drawn;exact ja c ⟨⟨.ptr id 0 0,ρ',_,_,k2,⟨_,k3,Nat.le_refl _,rfl⟩,k1,k4,k5,k6⟩⟩
theorem Hv{x:Operand}(b:o.op= .move x \/ o.op= .assign x)(e:R w0 ρ H w)(hle:h.le H)(d:eo ρ s a)(c:K (aO s x) h):eh P w0 ρ h H K o a w Q:=
 fG e hle (v:=a.eval x) (by rcases b with b|b<;>simp[execOp,b]) (dX d x) c
theorem OA{c x y:Operand}(i:o.op= .pick c x y)(j:R w0 ρ H w)(hle:h.le H)(e:eo ρ s a)(d:A.pick (aO s c) (aO s x) (aO s y) λv=>K v h):eh P w0 ρ h H K o a w Q:=by
 have g:=dX e c;unfold A.pick at d;split at d
 ·rename_i b hb
  rw[hb]at g;have f:a.eval c= .bool b:=g;refine fG j hle (v:=if b then a.eval x else a.eval y) (by simp[execOp,i,f,asBool]) ?_ d;cases b
  ·exact dX e y
  ·exact dX e x
 ·exact d.elim
theorem NY{t:TypeId}(g:o.op= .alloc t)(j:R w0 ρ H w)(hle:h.le H)(b:A.bL h (zeroOf P t) λid h=>K (.ptr id 0 0) h):eh P w0 ρ h H K o a w Q:=by
 unfold A.bL at b;split at b
 ·rename_i cs d
  obtain⟨i,z,hi,c,f,h1,_,_,_⟩:=uh (ρ:=ρ) d;refine CX j hle b f h1 (e:=t) ?_;simp[execOp,g,Instr.alloc,zeroValue,typeInfo,hi,c,newVar,newRow]
 ·exact b.elim
theorem Pj{t:TypeId}{x:Operand}(d:o.op= .box t x)(i:R w0 ρ H w)(hle:h.le H)(k:eo ρ s a)
  (c:A.bL h (bif e8 P t then A.kZ (P.cellsOf t) (aO s x) else A.sD (aO s x)) λid h=>K (.ptr id 0 0) h):eh P w0 ρ h H K o a w Q:=by
 unfold A.bL at c;split at c
 ·rename_i cs b
  have hx:=dX k x
  have g:∀l:List Value,(a.eval x).cells=l.toArray->(execOp a.eval o).run P w= .ok (.value (.pointer (some ⟨w.heap.size,0,none⟩))) { w with heap:=w.heap.push (.cells l.toArray t) }:=λl m=>by
   simp[execOp,d,Instr.box,newVar,newRow,m]
  cases hb:e8 P t with
  | true=>
   simp only[hb,cond_true]at b;unfold A.kZ at b;split at b<;>(try (cases b;done));rename_i fq he;split at b<;>(try (cases b;done));cases b;rw[he]at hx;obtain⟨l,e,j,h1⟩:=hx;exact CX i hle c j h1 (g l (by rw[e];rfl))
  | false=>
   simp only[hb,cond_false]at b;unfold A.sD at b;cases f:(aO s x).aI with
   | false=>simp[f]at b
   | true=>
    simp only[f,cond_true,Option.some.injEq]at b;subst b;have d:=z9 f hx;exact CX i hle c (l:=[a.eval x]) ⟨_,_,rfl,hx,rfl⟩ (by simpa using d) (g _ (Ch d))
 ·exact c.elim
theorem NR{t:TypeId}{x:Operand}(i:o.op= .load t x)(f:e8 P t=false)(hu:∃d,P.underlying t=some d)(c:R w0 ρ H w)(hle:h.le H)(g:eo ρ s a)
  (b:A.ld h (aO s x) λv=>K v h):eh P w0 ρ h H K o a w Q:=by
 obtain⟨v,e,k⟩:=aK b;obtain⟨ad,u,e1,l,e3,_⟩:=GF c hle e (dX g x);obtain⟨d,j⟩:=hu;refine fG c hle (v:=u) ?_ e3 k;simp[execOp,i,Instr.loadAt,e1,Instr.sureAddr,loadVar,uk j,f,l]
theorem NQ{t:TypeId}{x:Operand}(D:o.op= .load t x)(k:e8 P t=true)(z:R w0 ρ H w)(hle:h.le H)(B:eo ρ s a)
  (p:A.cR h (aO s x) (P.cellsOf t) λv=>K v h):eh P w0 ρ h H K o a w Q:=by
 obtain⟨v,c,I⟩:=aK p;have f:∃d,P.underlying t=some d:=by
  unfold e8 at k;cases hu:P.underlying t with
  | none=>simp[hu]at k
  | some d=>exact⟨d,rfl⟩
 obtain⟨d,f⟩:=f;obtain⟨i,hi⟩:=info_of_underlying f;have m:=kI hi;unfold A.fF at c;split at c<;>(try (cases c;done));rename_i id g off C;split at c<;>(try (cases c;done));rename_i b hb;split at c<;>(try (cases c;done));rename_i dZ F;split at c<;>(try (cases c;done));rename_i q;cases c;have hx:=dX B x;rw[C]at hx;obtain⟨L,G,r,e⟩:=hx;obtain⟨l,k1,k2,k3,k4⟩:=wX z (hle id b hb) (qn F) G (n:=P.cellsOf t) r q;refine fG z hle (x:= .agg ((b.cells.drop off).take (P.cellsOf t))) (v:= .agg l.toArray) ?_ ⟨l,rfl,k2,k3⟩ I;have y:=run_loadCells_list (P:=P) w ⟨L.bT,L.base+(off-L.lo),none⟩ l λj u E=>by rw[rC];exact k4 j u E
 rw[k1,m]at y;simp[execOp,D,Instr.loadAt,e,Instr.sureAddr,loadVar,uk f,k,run_sizeOf hi,y]
theorem LJ{t:TypeId}{p v:a7}{x:Value}(r:R w0 ρ H w)(hle:h.le H)(hx:dB ρ p x)(a:xp P h p t=some v):
  ∃ad u,x= .pointer (some ad) /\ (loadVar t ad).run P w= .ok u w /\ dB ρ v u:=by
 unfold xp at a;split at a
 ·cases a
 ·rename_i d o
  cases c:e8 P t with
  | false=>
   rw[c]at a;obtain⟨ad,u,e1,B,e3,_⟩:=GF r hle a hx;exact⟨ad,u,e1,by simp[loadVar,uk o,c,B],e3⟩
  | true=>
   rw[c]at a;obtain⟨i,hi⟩:=info_of_underlying o;have f:=kI hi;simp only[cond_true]at a;unfold A.fF at a;split at a<;>(try (cases a;done));rename_i id g off;split at a<;>(try (cases a;done));rename_i b hb;split at a<;>(try (cases a;done));rename_i dZ y;split at a<;>(try (cases a;done));rename_i k;cases a;obtain⟨L,z,m,e⟩:=hx;obtain⟨l,k1,k2,k3,k4⟩:=wX r (hle id b hb) (qn y) z (n:=P.cellsOf t) m k;have q:=run_loadCells_list (P:=P) w ⟨L.bT,L.base+(off-L.lo),none⟩ l λj u s=>by rw[rC];exact k4 j u s
   rw[k1,f]at q;exact⟨_,.agg l.toArray,e,by simp[loadVar,uk o,c,run_sizeOf hi,q],l,rfl,k2,k3⟩
theorem G4{t:TypeId}{p x:Operand}(m:o.op= .store t p x)(r:R w0 ρ H w)(hle:h.le H){id g off:Nat}{b:fB}{hi:Nat}(l:dB ρ (.ptr id g off) (a.eval p))(hb:h id=some b)(c:b.own=true)
  (q:b.eE.lookup g=some hi) {xs:List a7} {vs:List Value} (hx:dJ ρ xs vs) (h1:∀u∈vs,u.oneCell'=true) (j:(a.eval x).cells=vs.toArray) (n:off+xs.length <= hi)
  (d:∃i,P.info? t=some i /\ i.size=xs.length) (v:K .undef (bQ h id { b with cells:=pQ b.cells xs off,eE:=[(g,hi)] })):eh P w0 ρ h H K o a w Q:=by
 obtain⟨L,s,f,e⟩:=l;obtain⟨k1,k2⟩:=zH (P:=P) r (hle id b hb) c (qn q) s f n hx h1;obtain⟨i,dZ,k⟩:=d;have hlen:=hx.length;refine AH (w':=w.setCells L.bT (L.base+(off-L.lo)) vs) ?_ ⟨⟨.undef,ρ,_,_,bP.le_refl ρ,trivial,v,mc _ hle,Fr.bQ hb,k2⟩⟩;have:¬ (vs.length≠i.size):=by omega
 simp[execOp,m,Instr.storeAt,e,Instr.sureAddr,storeVar,j,run_sizeOf dZ,this,k1]
theorem Aw{p:a7}{f:List a7->Option (List a7)}{n off:Nat}{K:a9->Prop}(h0:A.ph (A.sb h p f n off) K):
  ∃id g o b hi cs,p= .ptr id g o /\ h id=some b /\ b.eE.lookup g=some hi /\ b.own=true /\ off+o+n <= hi /\ f b.cells=some cs /\ K (bQ h id { b with cells:=cs,eE:=[(g,hi)] }):=by
 unfold A.ph at h0;split at h0
 ·rename_i h' he
  unfold A.sb at he;split at he<;>(try (cases he;done));rename_i id g o;split at he<;>(try (cases he;done));rename_i b hb;split at he<;>(try (cases he;done));rename_i hi c;cases a:(b.own&&Nat.ble (off+o+n) hi) with
  | false=>simp[a]at he
  | true=>
   simp only[a,cond_true]at he;simp only[Bool.and_eq_true,Nat.ble_eq]at a;split at he<;>(try (cases he;done));rename_i cs d;cases he;exact⟨id,g,o,b,hi,cs,rfl,hb,c,a.1,a.2,d,h0⟩
 ·exact h0.elim
theorem Nc{t:TypeId}{p x:Operand}(m:o.op= .store t p x)(j:P.cellsOf t=1)(q:R w0 ρ H w)(hle:h.le H)(k:eo ρ s a)
  (e:A.st h (aO s p) (aO s x) λh=>K .undef h):eh P w0 ρ h H K o a w Q:=by
 obtain⟨id,g,off,b,hi,cs,e1,u,e3,e4,v,c,r⟩:=Aw e;have c:V.pY off (aO s x) b.cells=some cs:=by rw[e1]at c;exact c
 simp only[V.pY]at c;cases f:(aO s x).aI with
 | false=>simp[f]at c
 | true=>
  simp only[f,cond_true]at c;have d:off<b.cells.length:=by
   rcases Nat.lt_or_ge off b.cells.length with h'|h'
   ·exact h'
   ·rw[if_neg (by omega)]at c;cases c
  rw[if_pos d]at c;cases c;have hx:=dX k x;have h1:=z9 f hx;have l:=dX k p;rw[e1]at l;have dZ:∃i,P.info? t=some i:=by
   cases n:P.info? t with
   | none=>simp[Program.cellsOf,n]at j
   | some i=>exact⟨i,rfl⟩
  obtain⟨i,dZ⟩:=dZ;refine G4 m q hle l u e4 e3 (xs:=[aO s x]) (vs:=[a.eval x]) ⟨_,_,rfl,hx,rfl⟩ (by simpa using h1) (Ch h1) (by simp only[length_singleton];omega) ⟨i,dZ,by rw[<-kI dZ,j];rfl⟩ ?_;have:pQ b.cells [aO s x] off=b.cells.set off (aO s x):=by
   unfold pQ;rw[set_eq_take_append_cons_drop,if_pos d,append_assoc];rfl
  rw[this];exact r
theorem Nb{t:TypeId}{p x:Operand}(m:o.op= .store t p x)(dZ:∃i,P.info? t=some i)(n:R w0 ρ H w)(hle:h.le H)(j:eo ρ s a)
  (f:A.gp h (aO s p) (P.cellsOf t) (aO s x) λh=>K .undef h):eh P w0 ρ h H K o a w Q:=by
 obtain⟨id,g,off,b,hi,cs,e1,u,e3,e4,v,c,r⟩:=Aw f;rw[e1]at c;unfold V.mf at c;split at c<;>(try (cases c;done));rename_i xs e;split at c<;>(try (cases c;done));rename_i d;cases c;have hx:=dX j x;rw[e]at hx;obtain⟨vs,l,q,h1⟩:=hx;have k:=dX j p;rw[e1]at k;obtain⟨i,dZ⟩:=dZ;refine G4 m n hle k u e4 e3 q h1 (by rw[l];rfl) (by omega) ⟨i,dZ,by rw[<-kI dZ,d.1]⟩ ?_;have:pQ b.cells xs off=b.cells.take off++xs++b.cells.drop (off+P.cellsOf t):=by
  unfold pQ;rw[d.1]
 rw[this];exact r
theorem LP{x:Operand}(d:o.op= .nilCheck x)(i:R w0 ρ H w)(hle:h.le H)(j:eo ρ s a)(b:A.nilCheck (aO s x) λv=>K v h):eh P w0 ρ h H K o a w Q:=by
 have hx:=dX j x;unfold A.nilCheck at b;split at b
 ·rename_i id g off he
  have c:=hx;rw[he]at hx;obtain⟨L,m,k,e⟩:=hx;exact fG i hle (x:=aO s x) (v:=a.eval x) (by simp[execOp,d,e]) c b
 ·rename_i f first gX he
  have c:=hx;rw[he]at hx;obtain⟨l,l',e,_⟩:=hx;exact fG i hle (x:=aO s x) (v:=a.eval x) (by simp[execOp,d,e]) c b
 ·exact b.elim
theorem Pk{op:BinOp}{t u:TypeId}{x y:Operand}(l:o.op= .binOp op t x y u)(m:R w0 ρ H w)(hle:h.le H)(i:eo ρ s a)(b:fJ P (AC P) (.binOp op t x y u) s h K):eh P w0 ρ h H K o a w Q:=by
 have hx:=dX i x;have e:=dX i y;have fin:∀r:a7,((∀q p,(eqGuard op t q p (a.eval x) (a.eval y)).run P w= .ok () w) /\ ∃z,(binOp op t (a.eval x) (a.eval y)).run P w= .ok z w /\ dB ρ r z)->K r h->eh P w0 ρ h H K o a w Q:=by
  rintro r ⟨g,z,j,k⟩ n;exact fG m hle (v:=z) (by simp[execOp,l,g,j]) k n
 simp only[fJ]at b;split at b
 ·obtain⟨r,h1,c⟩:=aK b;exact fin r (H9 hx e h1) c
 ·obtain⟨r,h1,c⟩:=aK b;exact fin r (H9 hx e h1) c
 ·rename_i d;obtain⟨r,h1,c⟩:=aK b;exact fin r (MG d hx e h1) c
 ·rename_i d;obtain⟨r,h1,c⟩:=aK b;exact fin r (Nz d hx e h1) c
 ·rename_i d;obtain⟨r,h1,c⟩:=aK b;exact fin r (Ok d hx e h1) c
 ·rename_i d;obtain⟨r,h1,c⟩:=aK b;exact fin r (Ol d hx e h1) c
 ·rename_i d;obtain⟨r,h1,c⟩:=aK b;exact fin r (N0 d hx e h1) c
 ·rename_i d
  split at b
  ·rename_i sh f
   obtain⟨r,h1,c⟩:=aK b;exact fin r (MK d f hx e h1) c
  ·exact b.elim
 ·exact b.elim
theorem PB{op:UnOp}{t:TypeId}{x:Operand}(d:o.op= .unOp op t x)(f:R w0 ρ H w)(hle:h.le H)(i:eo ρ s a)(c:A.pv (V.un op (aO s x)) λv=>K v h):eh P w0 ρ h H K o a w Q:=by
 obtain⟨r,h1,g⟩:=aK c;have hx:=dX i x;unfold V.un at h1;split at h1<;>(try (cases h1;done))
 ·rename_i k n he
  rw[he]at hx;have e:a.eval x= .int k n:=hx;cases h1;exact fG f hle (x:= .int k (k.wrap (0-n))) (v:= .int k (k.wrap (0-n))) (by simp[execOp,d,e,Op.unary,Op.intArith]) rfl g
 ·rename_i k n he
  rw[he]at hx;have e:a.eval x= .int k n:=hx;cases h1;exact fG f hle (x:= .int k _) (v:= .int k _) (by simp only[execOp,d,e,Op.unary,Op.intBits,Sem.run_bind,Sem.run_pure,Result.andThen_ok]) rfl g
 ·rename_i b he
  rw[he]at hx;have e:a.eval x= .bool b:=hx;cases h1;exact fG f hle (x:= .bool !b) (v:= .bool !b) (by simp[execOp,d,e,Op.unary]) rfl g
end
end Go.Ab
namespace Go.Ab
open List
open Go.RowKit (Below)
section
variable{P:Program}{w0:World}{ρ:bP}{h H:a9}{w:World}{s:bB}{a:Act}{K:zQ}{o:Oper}{Q:Exit->Act->World->Prop}
theorem Ll{t:TypeId}{x:Operand}{f:Nat}{fs:Array Field}{fd:Field}(n:o.op= .fieldAddr t x f)(l:P.underlying t=some (.struct fs))(q:fs[f]?=some fd)(j:Nat.beq (P.cellsOf fd.type) 0=false)
  (u:R w0 ρ H w) (hle:h.le H) (m:eo ρ s a) (c:A.pv (V.fieldAddr fd.offset (aO s x)) λv=>K v h):eh P w0 ρ h H K o a w Q:=by
 obtain⟨r,h1,z⟩:=aK c;have hx:=dX m x;unfold V.fieldAddr at h1;split at h1<;>(try (cases h1;done));rename_i id g off he;rw[he]at hx;obtain⟨L,y,p,e⟩:=hx;cases h1;have b:∃i,P.info? fd.type=some i /\ ¬ i.size=0:=by
  cases k:P.info? fd.type with
  | none=>simp[Program.cellsOf,k]at j
  | some i=>
   refine⟨i,rfl,λhi=>?_⟩;simp[Program.cellsOf,k,hi]at j
 obtain⟨i,hi,d⟩:=b;refine fG u hle (x:= .ptr id g (off+fd.offset)) (v:= .pointer (some ⟨L.bT,L.base+(off-L.lo)+fd.offset,none⟩)) ?_ ⟨L,y,by omega,by rw[show L.base+(off-L.lo)+fd.offset=L.base+(off+fd.offset-L.lo) by omega]⟩ z;simp[execOp,n,e,Instr.fieldAt,run_underlying l,q,Instr.sureAddr,fieldPlace,run_sizeOf hi,d,rC]
theorem NS{t:TypeId}{x:Operand}{f:Nat}{fs:Array Field}{fd:Field}{d:TypeDesc}(m:o.op= .field t x f)(k:P.underlying t=some (.struct fs))(n:fs[f]?=some fd)(g:P.underlying fd.type=some d)
  (p:R w0 ρ H w) (hle:h.le H) (y:eo ρ s a)
  (b:bif e8 P fd.type then A.pv (V.bM fd.offset (P.cellsOf fd.type) (aO s x)) λv=>K v h else A.pv (V.aF fd.offset (aO s x)) λv=>K v h):eh P w0 ρ h H K o a w Q:=by
 have hx:=dX y x;obtain⟨i,hi⟩:=info_of_underlying g;have q:=kI hi;cases hb:e8 P fd.type with
 | true=>
  simp only[hb,cond_true]at b;obtain⟨r,h1,j⟩:=aK b;unfold V.bM at h1;split at h1<;>(try (cases h1;done));rename_i cs he;split at h1<;>(try (cases h1;done));rename_i z;cases h1;rw[he]at hx;obtain⟨l,e,c,h1⟩:=hx;refine fG p hle (x:= .agg ((cs.drop fd.offset).take (P.cellsOf fd.type))) (v:= .agg ((l.drop fd.offset).take (P.cellsOf fd.type)).toArray) ?_ ⟨_,rfl,(c.drop _).take _,λu hu=>h1 u (mem_of_mem_drop (mem_of_mem_take hu))⟩ j;simp only[execOp,m,e,Instr.field,Sem.run_bind,run_underlying k,Result.andThen_ok,n,asAgg,Sem.run_pure,part,uk g,hb,if_true,run_sizeOf hi];congr 3;apply Array.ext';simp only[extract_toArray,extract_eq_take_drop];rw[show fd.offset+i.size-fd.offset=P.cellsOf fd.type by omega]
 | false=>
  simp only[hb,cond_false]at b;obtain⟨r,h1,j⟩:=aK b;unfold V.aF at h1;split at h1<;>(try (cases h1;done));rename_i cs he;rw[he]at hx;obtain⟨l,e,c,_⟩:=hx;obtain⟨u,k1,k2⟩:=c.get h1;refine fG p hle (x:=r) (v:=u) ?_ k2 j;simp[execOp,m,e,Instr.field,run_underlying k,n,asAgg,part,uk g,hb,k1]
theorem Ng{t e:TypeId}{x i:Operand}(p:o.op= .indexAddr t x i)(m:P.underlying t=some (.slice e))(u:R w0 ρ H w)(hle:h.le H)(l:eo ρ s a)(hi:∃d,P.info? e=some d)
  (c:A.pv (V.aM (P.cellsOf e) (aO s x) (aO s i)) λv=>K v h):eh P w0 ρ h H K o a w Q:=by
 obtain⟨r,h1,z⟩:=aK c;have hx:=dX l x;have j:=dX l i;obtain⟨D,b⟩:=hi;unfold V.aM at h1;split at h1<;>(try (cases h1;done));rename_i id g off len es cp k n he hk;split at h1<;>(try (cases h1;done));rename_i f;cases h1;rw[he]at hx;rw[hk]at j;obtain⟨L,y,q,⟨cap,B,_⟩|⟨h0,_⟩⟩:=hx
 case inr=>omega
 have C:a.eval i= .int k n:=j;refine fG u hle (x:= .ptr id g (off+n.toNat*P.cellsOf e)) (v:= .pointer (some ⟨L.bT,L.base+(off-L.lo)+n.toNat*P.cellsOf e,none⟩)) ?_
  ⟨L,y,by omega,by rw[show L.base+(off-L.lo)+n.toNat*P.cellsOf e=L.base+(off+n.toNat*P.cellsOf e-L.lo) by omega]⟩ z
 simp[execOp,p,B,C,Instr.indexAt,asIntOf,run_underlying m,f,run_sizeOf b,kI b,rC]
theorem Nh{t e:TypeId}{x i:Operand}{len:Nat}(p:o.op= .indexAddr t x i)(m:P.underlying t=some (.array len e))(u:R w0 ρ H w)(hle:h.le H)(l:eo ρ s a)(hi:∃d,P.info? e=some d)
  (c:A.pv (V.Bz len (P.cellsOf e) (aO s x) (aO s i)) λv=>K v h):eh P w0 ρ h H K o a w Q:=by
 obtain⟨r,h1,z⟩:=aK c;have hx:=dX l x;have j:=dX l i;obtain⟨D,b⟩:=hi;unfold V.Bz at h1;split at h1<;>(try (cases h1;done));rename_i id g off k n he hk;split at h1<;>(try (cases h1;done));rename_i f;cases h1;rw[he]at hx;rw[hk]at j;obtain⟨L,y,q,B⟩:=hx;have C:a.eval i= .int k n:=j;refine fG u hle (x:= .ptr id g (off+n.toNat*P.cellsOf e)) (v:= .pointer (some ⟨L.bT,L.base+(off-L.lo)+n.toNat*P.cellsOf e,none⟩)) ?_
  ⟨L,y,by omega,by rw[show L.base+(off-L.lo)+n.toNat*P.cellsOf e=L.base+(off+n.toNat*P.cellsOf e-L.lo) by omega]⟩ z
 simp[execOp,p,B,C,Instr.indexAt,asIntOf,run_underlying m,f,run_sizeOf b,kI b,rC,Instr.sureAddr]
theorem LS{t:TypeId}{x i:Operand}(p:o.op= .index t x i)(m:P.underlying t=some .string)(u:R w0 ρ H w)(hle:h.le H)(j:eo ρ s a)
  (f:A.pv (V.lS (aO s x) (aO s i)) λv=>K v h):eh P w0 ρ h H K o a w Q:=by
 obtain⟨r,h1,z⟩:=aK f;have hx:=dX j x;have g:=dX j i;unfold V.lS at h1;split at h1<;>(try (cases h1;done));rename_i l k n he hk;split at h1<;>(try (cases h1;done));rename_i q;split at h1<;>(try (cases h1;done));rename_i b hb;cases h1;rw[he]at hx;rw[hk]at g;obtain⟨bs,B,rfl⟩:=hx;have C:a.eval i= .int k n:=g;have e:bs[n.toNat]?=some b:=by
  have d:n.toNat<bs.data.toList.length:=(List.getElem?_eq_some_iff.1 hb).1;have c:n.toNat<bs.size:=d;have y:bs.data.toList[n.toNat]=b:=by have:=getElem?_eq_getElem d;rw[this]at hb;exact Option.some.inj hb
  rw[getElem?_pos bs n.toNat c];exact congrArg some y
 refine fG u hle (x:= .int .u8 b.toNat) (v:= .int .u8 b.toNat) ?_ rfl z;simp[execOp,p,B,C,Instr.index,asIntOf,run_underlying m,q,e]
theorem Mx{x:Operand}{i:Nat}(f:o.op= .extract x i)(g:R w0 ρ H w)(hle:h.le H)(d:eo ρ s a)(b:A.pv (V.ext i (aO s x)) λv=>K v h):eh P w0 ρ h H K o a w Q:=by
 obtain⟨r,h1,j⟩:=aK b;have hx:=dX d x;unfold V.ext at h1;split at h1<;>(try (cases h1;done));rename_i vs he;rw[he]at hx;obtain⟨l,e,c⟩:=hx;obtain⟨u,k1,k2⟩:=c.get h1;exact fG g hle (x:=r) (v:=u) (by simp[execOp,f,e,Instr.extract,k1]) k2 j
theorem LR{f:FuncId}{first gX:Array Operand}(d:o.op= .makeFunc (.func f) first gX)(e:R w0 ρ H w)(hle:h.le H)(c:eo ρ s a)
  (b:K (.fn f (first.toList.map (aO s)) (gX.toList.map (aO s))) h):eh P w0 ρ h H K o a w Q:=by
 refine fG e hle (x:= .fn f (first.toList.map (aO s)) (gX.toList.map (aO s))) (v:= .func (.func f) (first.map a.eval) (gX.map a.eval)) (by simp[execOp,d,Instr.makeFunc]) ⟨first.toList.map a.eval,gX.toList.map a.eval,?_,xl c _,xl c _⟩ b;congr 1<;>(apply Array.ext';simp)
theorem yg{x:a7}{v:Value}{n:Nat}(hx:dB ρ x v)(h:V.asNat x=some n):∃k,v= .int k n:=by
 unfold V.asNat at h;split at h<;>(try (cases h;done));rename_i k m;split at h<;>(try (cases h;done));rename_i hm;cases h;exact⟨k,by rw[show ((m.toNat:Nat):Int)=m by omega];exact hx⟩
theorem yl{lA:Bool}{n cp room:Nat}(i:max n cp <= room){lo hi:Option a7}{b c:Option Value}(o:∀x,lo=some x->∃v,b=some v /\ dB ρ x v)(p:∀x,hi=some x->∃v,c=some v /\ dB ρ x v)
  (e:lo=none->b=none) (f:hi=none->c=none) {l m:Nat} (h:V.wF n cp lo hi=some (l,m)):
  (Instr.sliceBounds lA n room b c none).run P w= .ok (l,m,room) w /\ l <= m /\ m <= max n cp:=by
 unfold V.wF at h;split at h<;>(try (cases h;done));rename_i y t e1 g;split at h<;>(try (cases h;done));rename_i d;cases h;refine⟨?_,d⟩;have H1:c=none /\ m=n \/ ∃k,c=some (.int k m):=by
  cases hi with
  | none=>simp at e1;exact .inl ⟨f rfl,e1.symm⟩
  | some x=>simp at e1;obtain⟨v,a,j⟩:=p x rfl;obtain⟨k,hk⟩:=yg j e1;exact .inr ⟨k,by rw[a,hk]⟩
 have s:b=none /\ l=0 \/ ∃k,b=some (.int k l):=by
  cases lo with
  | none=>simp at g;exact .inl ⟨e rfl,g.symm⟩
  | some x=>simp at g;obtain⟨v,a,j⟩:=o x rfl;obtain⟨k,hk⟩:=yg j g;exact .inr ⟨k,by rw[a,hk]⟩
 have r:m <= room:=by omega
 have q:l <= m:=d.1;rcases H1 with⟨rfl,rfl⟩|⟨k,rfl⟩<;>rcases s with⟨rfl,rfl⟩|⟨u,rfl⟩<;>simp[Instr.sliceBounds,Instr.sliceBound,asIntOf,r,q]
theorem lQ{x:Option Operand}(c:eo ρ s a):(∀y,x.map (aO s)=some y->∃v,x.map a.eval=some v /\ dB ρ y v) /\ (x.map (aO s)=none->x.map a.eval=none):=by
 cases x with
 | none=>simp
 | some x=>exact⟨λy b=>⟨a.eval x,rfl,by cases b;exact dX c x⟩,by simp⟩
theorem Nj{t:TypeId}{x:Operand}{lo hi:Option Operand}(i:o.op= .slice t x lo hi none)(g:P.underlying t=some .string)(j:R w0 ρ H w)(hle:h.le H)(b:eo ρ s a)
  (d:A.pv (V.uD (aO s x) (lo.map (aO s)) (hi.map (aO s))) λv=>K v h):eh P w0 ρ h H K o a w Q:=by
 obtain⟨r,h1,k⟩:=aK d;have hx:=dX b x;unfold V.uD at h1;split at h1<;>(try (cases h1;done));rename_i l he;split at h1<;>(try (cases h1;done));rename_i m n e;cases h1;rw[he]at hx;obtain⟨bs,p,rfl⟩:=hx;obtain⟨f,_,_⟩:=yl (P:=P) (w:=w) (lA:=false) (n:=bs.data.toList.length) (cp:=bs.data.toList.length) (room:=bs.data.toList.length) (by omega) (lQ b).1 (lQ b).1 (lQ b).2 (lQ b).2 e;have c:bs.data.toList.length=bs.size:=rfl;rw[c]at f;refine fG j hle (x:= .str ((bs.data.toList.take n).drop m)) (v:= .string (bs.extract m n)) ?_ ⟨_,rfl,?_⟩ k
 ·simp[execOp,i,p,Instr.sliceAt,Instr.slice,run_underlying g,f]
 ·rw[ByteArray.data_extract,Array.toList_extract,extract_eq_take_drop,drop_take]
theorem NU{t e:TypeId}{x:Operand}{lo hi:Option Operand}(p:o.op= .slice t x lo hi none)(k:P.underlying t=some (.slice e))(c:∃i,P.info? e=some i)(y:R w0 ρ H w)(hle:h.le H)(b:eo ρ s a)
  (B:A.pv (V.dS (P.cellsOf e) (aO s x) (lo.map (aO s)) (hi.map (aO s))) λv=>K v h):eh P w0 ρ h H K o a w Q:=by
 obtain⟨r,h1,z⟩:=aK B;have hx:=dX b x;obtain⟨I,c⟩:=c;unfold V.dS at h1;split at h1<;>(try (cases h1;done))
 ·rename_i id g off n es cp he
  split at h1<;>(try (cases h1;done));rename_i l m d;split at h1<;>(try (cases h1;done));rename_i C;subst C;cases h1;rw[he]at hx;obtain⟨L,D,G,⟨cap,j,S,O,N,M⟩|⟨rfl,rfl,ad,j⟩⟩:=hx
  ·obtain⟨f,F,E⟩:=yl (P:=P) (w:=w) (lA:=true) (room:=cap) (by omega) (lQ b).1 (lQ b).1 (lQ b).2 (lQ b).2 d
   by_cases u:cap=l
   ·subst u
    refine fG y hle (x:= .sl id g (off+cap*P.cellsOf e) (m-cap) (P.cellsOf e) (max n cp-cap)) (v:= .slice (some ⟨L.bT,L.base+(off-L.lo),none⟩) (m-cap) (cap-cap)) ?_
     ⟨L,D,by omega,.inr ⟨by omega,by omega,⟨L.bT,L.base+(off-L.lo),none⟩,by rw[show m-cap=0 by omega,show cap-cap=0 by omega]⟩⟩ z
    simp[execOp,p,j,Instr.sliceAt,Instr.slice,run_underlying k,f,run_sizeOf c]
   ·refine fG y hle (x:= .sl id g (off+l*P.cellsOf e) (m-l) (P.cellsOf e) (max n cp-l)) (v:= .slice (some ⟨L.bT,L.base+(off-L.lo)+l*P.cellsOf e,none⟩) (m-l) (cap-l)) ?_
     ⟨L,D,by omega,.inl ⟨cap-l,by rw[show L.base+(off-L.lo)+l*P.cellsOf e=L.base+(off+l*P.cellsOf e-L.lo) by omega],by omega,?_,by omega,by omega,λJ=> .inr (by omega)⟩⟩ z
    ·simp[execOp,p,j,Instr.sliceAt,Instr.slice,run_underlying k,f,run_sizeOf c,u,kI c,rC]
    ·have:(cap-l)*P.cellsOf e+l*P.cellsOf e=cap*P.cellsOf e:=by rw[<-Nat.add_mul,show cap-l+l=cap by omega]
     omega
  ·obtain⟨f,F,E⟩:=yl (P:=P) (w:=w) (lA:=true) (room:=0) (by omega) (lQ b).1 (lQ b).1 (lQ b).2 (lQ b).2 d
   have q:l=0:=by omega
   have hm:m=0:=by omega
   subst q;subst hm;refine fG y hle (x:= .sl id g (off+0*P.cellsOf e) (0-0) (P.cellsOf e) (max 0 0-0)) (v:= .slice (some ad) 0 0) ?_ ⟨L,D,by omega,.inr ⟨rfl,rfl,ad,rfl⟩⟩ z;simp[execOp,p,j,Instr.sliceAt,Instr.slice,run_underlying k,f,run_sizeOf c]
 ·rename_i he
  split at h1<;>(try (cases h1;done));rename_i lm d;obtain⟨l,m⟩:=lm;cases h1;rw[he]at hx;obtain⟨ad,j⟩:=hx;obtain⟨f,F,E⟩:=yl (P:=P) (w:=w) (lA:=true) (room:=0) (by omega) (lQ b).1 (lQ b).1 (lQ b).2 (lQ b).2 d;have q:l=0:=by omega
  have hm:m=0:=by omega
  subst q;subst hm;refine fG y hle (x:= .sz) (v:= .slice (some ad) 0 0) ?_ ⟨ad,rfl⟩ z;simp[execOp,p,j,Instr.sliceAt,Instr.slice,run_underlying k,f,run_sizeOf c]
 ·rename_i he
  split at h1<;>(try (cases h1;done));rename_i lm d;obtain⟨l,m⟩:=lm;cases h1;rw[he]at hx;have j:a.eval x= .slice none 0 0:=hx;obtain⟨f,F,E⟩:=yl (P:=P) (w:=w) (lA:=true) (room:=0) (by omega) (lQ b).1 (lQ b).1 (lQ b).2 (lQ b).2 d;have q:l=0:=by omega
  have hm:m=0:=by omega
  subst q;subst hm;refine fG y hle (x:= .aA) (v:= .slice none 0 0) ?_ rfl z;simp[execOp,p,j,Instr.sliceAt,Instr.slice,run_underlying k,f,run_sizeOf c]
end
end Go.Ab
namespace Go.Ab
open List
open Go.RowKit (Below)
theorem R.push{w0:World}{ρ:bP}{H:a9}{w:World}(h:R w0 ρ H w)(o:Obj):R w0 ρ H { w with heap:=w.heap.push o } where
 below:=h.below.trans ⟨rfl,rfl,rfl,by simp,λk hk=>by
   have:=h.below.size
   show (w.heap.push _)[k]?=_
   rw[Array.getElem?_push,if_neg (by omega)]⟩
 fin:=h.fin
 bT:=λid b e=>by
  have hold:∀k o',w.heap[k]?=some o'->(w.heap.push o)[k]?=some o':=λk o' hk=>by
   rw[Array.getElem?_push]
   have:k<w.heap.size:=(Array.getElem?_eq_some_iff.1 hk).1
   rw[if_neg (by omega)];exact hk
  have k:=h.bT id b e
  refine⟨k.qc,λg hi hm=>?_,k.align,λo' d=>?_⟩
  ·obtain⟨h0,L,arr,l,fr,h1,c,a⟩:=k.gen g hi hm
   exact⟨h0,L,arr,l,fr,h1,hold _ _ c,a⟩
  ·obtain⟨h0,L,ob,h1,c,a,j,i,f⟩:=k.obj o' d
   exact⟨h0,L,ob,h1,c,a,j,hold _ _ i,f⟩
 sep:=h.sep
 nT:=h.nT
section
variable{P:Program}{w0:World}{ρ:bP}{h H:a9}{w:World}{s:bB}{a:Act}{K:zQ}{o:Oper}{Q:Exit->Act->World->Prop}
theorem CK{t:TypeId}{z:Option Nat}(h:partOf P t=some z):z.getD 1=P.cellsOf t:=by
 unfold partOf at h;cases hb:e8 P t with
 | true=>simp[hb]at h;subst h;rfl
 | false=>
  simp only[hb,cond_false]at h;cases a:Nat.beq (P.cellsOf t) 1 with
  | true=>simp[a]at h;subst h;exact(Nat.eq_of_beq_eq_true a).symm
  | false=>simp[a]at h
theorem Fw(b:eo ρ s a){fs:Array Field}{place:Nat->Option (Nat×Nat)}(c:∀i f,fs[i]?=some f->place i=some (f.offset,P.cellsOf f.type)):
  ∀(parts:List (Nat×Operand))(ps:List (Nat×Option Nat×a7)),yt P fs (parts.map λp=>(p.1,aO s p.2))=some ps->yn ρ place ps (parts.map λp=>(p.1,a.eval p.2))
 | [],ps,h=>by simp[yt]at h;subst h;rfl
 | (i,x)::r,ps,h=>by
  simp only[map_cons,yt]at h
  split at h<;>(try (cases h;done))
  rename_i f l g e
  split at h<;>(try (cases h;done))
  rename_i z d
  cases h
  exact⟨(i,a.eval x),_,rfl,⟨by rw[CK d];exact c i f g,dX b x⟩,Fw b c r l e⟩
theorem C4(c:eo ρ s a){n:Nat}{z:Option Nat}(b:z.getD 1=n):
  ∀(parts:List (Nat×Operand)),yn ρ (λi=>some (i*n,n)) (yu n z (parts.map λp=>(p.1,aO s p.2))) (parts.map λp=>(p.1,a.eval p.2))
 | []=>rfl
 | (i,x)::r=>⟨(i,a.eval x),_,rfl,⟨by simp only;rw[b],dX c x⟩,C4 c b r⟩
theorem GH:∀{l:List (Option (List a7))}{r:List a7},xA l=some r->∀x∈l,∃y,x=some y
 | [],_,_,x,hx=>by simp at hx
 | none::_,_,h,_,_=>by simp[xA]at h
 | some a::l,r,h,x,hx=>by
  simp only[xA]at h
  split at h
  ·rename_i m hm
   rcases mem_cons.1 hx with rfl|hx
   ·exact⟨a,rfl⟩
   ·exact GH hm x hx
  ·cases h
theorem Fo{d:Nat}{t:TypeId}{cs:List a7}(h:zeroAt P d t=some cs):∃i,P.info? t=some i:=by
 cases d with
 | zero=>simp[zeroAt]at h
 | succ d=>
  simp only[zeroAt]at h;cases hu:P.underlying t with
  | none=>simp[hu]at h
  | some a=>exact info_of_underlying hu
theorem Ha{α β:Type}{f:α->Option β}{g:α->β}:∀(l:List α),(∀x∈l,f x=some (g x))->l.mapM f=some (l.map g)
 | [],_=>rfl
 | x::l,h=>by rw[mapM_cons,h x (by simp),Ha l (λy a=>h y (by simp[a]))];rfl
theorem Ct:∀{ps:List (Nat×Option Nat×a7)}{cs fq:List a7},bN ps cs=some fq->fq.length=cs.length
 | [],_,_,h=>by cases h;rfl
 | (off,none,v)::r,cs,fq,h=>by
  simp only[bN]at h
  split at h<;>(try (cases h;done))
  rename_i c a
  rw[Ct h]
  unfold V.pY at a
  cases b:v.aI with
  | false=>simp[b]at a
  | true=>
   simp only[b,cond_true]at a
   split at a<;>(try (cases a;done))
   cases a;simp
 | (off,some n,v)::r,cs,fq,h=>by
  simp only[bN]at h
  split at h<;>(try (cases h;done))
  rename_i c a
  rw[Ct h]
  unfold V.mf at a
  split at a<;>(try (cases a;done))
  split at a<;>(try (cases a;done))
  rename_i d
  cases a
  simp only[length_append,length_take,length_drop];omega
theorem KQ{d:Nat}{t:TypeId}{fs:Array Field}(a:P.underlying t=some (.struct fs)):zeroAt P (d+1) t=xA (fs.toList.map λf=>zeroAt P d f.type):=by
 simp only[zeroAt,a]
theorem La{d n:Nat}{t e:TypeId}{cs:List a7}(a:P.underlying t=some (.array n e))(h:zeroAt P (d+1) t=some cs):∃l,zeroAt P d e=some l:=by
 simp only[zeroAt,a]at h;cases b:zeroAt P d e with
 | none=>simp[b]at h
 | some l=>exact⟨l,rfl⟩
theorem NX{t:TypeId}{parts:Array (Nat×Operand)}(S:o.op= .build t parts)(U:R w0 ρ H w)(hle:h.le H)(J:eo ρ s a)(u:fJ P (AC P) (.build t parts) s h K):eh P w0 ρ h H K o a w Q:=by
 simp only[fJ]at u;obtain⟨r,h1,V⟩:=aK u;split at h1<;>(try (cases h1;done));rename_i z ps L b;split at h1<;>(try (cases h1;done));rename_i cs F;cases h1;obtain⟨it,G,B,j,N,A,hlen,O,⟨d,X⟩,k⟩:=uh (ρ:=ρ) L;have key:∀place,yn ρ place ps (parts.toList.map λp=>(p.1,a.eval p.2))->P.built t (parts.toList.map λp=>(p.1,a.eval p.2))=Instr.fill place G.cells (parts.toList.map λp=>(p.1,a.eval p.2))->eh P w0 ρ h H K o a w Q:=by
  intro place q hb;obtain⟨l',k1,k2,k3⟩:=zX place ps _ z cs G.cells.toList q F N A;rw[Array.toArray_toList]at k1;refine fG U hle (x:= .agg cs) (v:= .agg l'.toArray) ?_ ⟨l',rfl,k2,k3⟩ V;have:P.built t (parts.map λp=>(p.1,a.eval p.2)).toList=some l'.toArray:=by rw[Array.toList_map,hb,k1]
  simp[execOp,S,run_build w t _ _ this]
 unfold placesOf at b;split at b
 ·rename_i fs m
  have c:=k;rw[show (12:Nat)=11+1 from rfl,KQ m]at c;have g:∀f∈fs.toList,∃i,P.info? f.type=some i:=λf D=>by
   obtain⟨y,M⟩:=GH c _ (mem_map.2 ⟨f,D,rfl⟩);exact Fo M
  have hm:fs.toList.mapM (λf=>(P.info? f.type).map λi=>(f.offset,i.size))=some (fs.toList.map λf=>(f.offset,P.cellsOf f.type)):=
   Ha _ λf D=>by obtain⟨i,hi⟩:=g f D;simp[hi,kI hi]
  refine key (λi=>(fs.toList.map λf=>(f.offset,P.cellsOf f.type)).toArray[i]?) (Fw J (λi f D=>?_) _ _ b) ?_
  ·have:fs.toList[i]?=some f:=by simpa using D
   simp[this]
  ·simp only[Program.built,B,m,j,hm]
 ·rename_i n e m
  split at b<;>(try (cases b;done));rename_i W E;cases b;have:∃i,P.info? e=some i:=by
   obtain⟨l,T⟩:=La (d:=11) m k;exact Fo T
  obtain⟨I,C⟩:=this;refine key (λi=>some (i*I.size,I.size)) (by rw[<-kI C];exact C4 J (CK E) _) ?_;simp only[Program.built,B,m,j,C]
 ·cases b
theorem Dw(n:Nat)(z:List a7):bG n z=(List.replicate n z).flatten:=by
 have one:∀(x:a7)(n:Nat),List.replicate n x=(List.replicate n [x]).flatten:=λx n=>by
  induction n with
  | zero=>rfl
  | succ n a=>rw[replicate_succ,replicate_succ,flatten_cons,<-a];rfl
 unfold bG;split
 ·exact one _ n
 ·rfl
theorem Lr{t:TypeId}{z:Option Nat}(h:partOf P t=some z):∃i,P.info? t=some i:=by
 unfold partOf at h;cases hi:P.info? t with
 | some i=>exact⟨i,rfl⟩
 | none=>
  have h1:e8 P t=false:=by simp[e8,Program.underlying,hi]
  have a:P.cellsOf t=0:=by simp[Program.cellsOf,hi]
  rw[h1,a]at h;exact absurd (show (none:Option (Option Nat))=some z from h) (by simp)
theorem dJ.rep{z:List a7}{l:List Value}(a:dJ ρ z l):∀n,dJ ρ (List.replicate n z).flatten (List.replicate n l).flatten
 | 0=>rfl
 | n+1=>by simp only[replicate_succ,flatten_cons];exact a.append (dJ.rep a n)
theorem Gv(l:List Value)(a:0<l.length):∀n,(List.range (n*l.length)).map (λi=>l.toArray[i % l.length]!)=(List.replicate n l).flatten
 | 0=>by simp
 | n+1=>by
  rw[replicate_succ',flatten_append,<-Gv l a n,Nat.succ_mul,range_add,map_append]
  congr 1
  simp only[map_map,flatten_cons,flatten_nil,append_nil]
  apply ext_getElem
  ·simp
  ·intro i h1 b
   simp only[length_map,length_range]at h1
   simp[Nat.mod_eq_of_lt h1,h1]
theorem Aq{z:Value}{n size:Nat}(a:z.cells.size=size)(h0:0<size):((Array.range (n*size)).map (z.cells[· % z.cells.size]!))=((List.replicate n z.cells.toList).flatten).toArray:=by
 apply Array.ext';have:=Gv z.cells.toList (by simpa[a]using h0) n;simp only[Array.length_toList,a,Array.toArray_toList]at this;simp only[Array.toList_map,Array.toList_range,a];exact this
theorem KU{t:TypeId}{len:Nat}{parts:Array (Nat×Operand)}(F:o.op= .buildSlice t len parts)(G:R w0 ρ H w)(hle:h.le H)(M:eo ρ s a)(b:fJ P (AC P) (.buildSlice t len parts) s h K):eh P w0 ρ h H K o a w Q:=by
 simp only[fJ]at b;split at b
 ·rename_i e he
  have E:P.underlying t=some (.slice e):=by
   unfold vv at he;split at he
   ·cases he;assumption
   ·cases he
  split at b
  ·rename_i h0
   subst h0;split at b
   ·rename_i pz N j
    have C:parts= #[]:=by apply Array.ext';simpa using N
    obtain⟨T,hi⟩:=Lr j
    ·refine ja (v:= .slice (some ⟨w.heap.size,0,none⟩) 0 0) (w':={ w with heap:=w.heap.push (.cells #[] e) }) ?_ ⟨⟨.sz,ρ,h,H,bP.le_refl ρ,⟨_,rfl⟩,b,hle,Fr.refl h H,G.push _⟩⟩
     have h0:∀f:Nat->Value,Array.map f (Array.range 0)= #[]:=λf=>by apply Array.ext';simp
     simp[execOp,F,Instr.buildSlice,run_underlying E,run_sizeOf hi,C,Instr.fill,newRow,h0]
   ·exact b.elim
  ·rename_i hlen
   unfold A.bL at b;split at b
   ·rename_i cs c
    split at c<;>(try (cases c;done));rename_i z pz J j;cases g:(Nat.ble (len*P.cellsOf e) 16777216&&Nat.ble 1 (P.cellsOf e)) with
    | false=>simp[g]at c
    | true=>
     simp only[g,cond_true]at c;simp only[Bool.and_eq_true,Nat.ble_eq]at g;obtain⟨it,D,r,y,L,m,O,B,⟨d,U⟩,I⟩:=uh (ρ:=ρ) J;have x:=kI r;have k:=Aq (n:=len) B (by omega);rw[Dw]at c;obtain⟨l',k1,k2,k3⟩:=zX (λi=>some (i*it.size,it.size)) _ (parts.toList.map λp=>(p.1,a.eval p.2)) _ cs ((List.replicate len D.cells.toList).flatten)
      (by rw[<-x];exact C4 M (CK j) _) c (dJ.rep L len) (λu hu=>by
       simp only[mem_flatten,mem_replicate]at hu;obtain⟨l,⟨_,rfl⟩,hu⟩:=hu;exact m u hu)
     have q:=k2.length;have S:l'.length=len*P.cellsOf e:=by
      have:=Ct c;simp only[length_flatten,map_replicate,sum_replicate_nat]at this;rw[<-q,this,O]
     obtain⟨id,ρ',m1,m2,m3,m4,m5,m6⟩:=wc G hle b l'.toArray e (0,0) (.inl rfl) (by simp[q]) (by simpa using wk k2 k3 []) w.drawn;refine ja (v:= .slice (some ⟨w.heap.size,0,none⟩) len len) ?_ ⟨⟨.sl id 0 0 len (P.cellsOf e) len,ρ',_,_,m2,⟨_,m3,Nat.le_refl _,.inl ⟨len,rfl,Nat.le_refl _,by simp;omega,?_,Nat.le_refl _,λ_=> .inl rfl⟩⟩,m1,m4,m5,m6⟩⟩
     ·have hb:=run_buildSlice (P:=P) w t e len (parts.map λp=>(p.1,a.eval p.2)) l'.toArray it D E r y (by rw[<-x];have:=g.1;omega) (by
       have:0<len*it.size:=Nat.mul_pos (by omega) (by omega);omega) (by rw[k,Array.toList_map];exact k1)
      simp only[execOp,F,Sem.run_bind,hb,Result.andThen_ok,Sem.run_pure];rfl
     ·have:=g.1
      have V:len*1 <= len*P.cellsOf e:=Nat.mul_le_mul_left _ g.2;simp only[maxLen];omega
   ·exact b.elim
 ·exact b.elim
end
end Go.Ab
namespace Go.Ab
open List
open Go.RowKit (Below)
section
variable{P:Program}{w0:World}{ρ:bP}{h H:a9}{w:World}{s:bB}{a:Act}{K:zQ}{o:Oper}{Q:Exit->Act->World->Prop}
theorem xR{v:Value}{m n:Nat}{code:BoundsCode}(a:∃k,v= .int k (m:Nat))(hm:m <= n):(Instr.sliceBound v n code).run P w= .ok m w:=by
 obtain⟨k,rfl⟩:=a;have:(0:Int) <= (m:Int) /\ (m:Int) <= (n:Int):=⟨by omega,by omega⟩;simp[Instr.sliceBound,asIntOf,hm]
theorem Hw{t e:TypeId}{x u:Operand}{lo hi:Option Operand}{z C:a7}(O:o.op= .slice t x lo hi (some u))(M:P.underlying t=some (.slice e))(b:∃i,P.info? e=some i)(p:R w0 ρ H w)(hle:h.le H)(N:eo ρ s a)
  (E:(lo=none /\ z= .int .i64 0) \/ ∃y,lo=some y /\ dB ρ z (a.eval y)) (F:∃y,hi=some y /\ dB ρ C (a.eval y))
  (D:A.pv (V.nX (P.cellsOf e) (aO s x) z C (aO s u)) λv=>K v h):eh P w0 ρ h H K o a w Q:=by
 obtain⟨r,h1,j⟩:=aK D;have hx:=dX N x;obtain⟨Y,b⟩:=b;obtain⟨yh,rfl,U⟩:=F;have G:=kI b;have main:∀(ad:Option Addr)(n c l m q:Nat)(d:V.asNat z=some l)(k1:V.asNat C=some m)(k2:V.asNat (aO s u)=some q),l <= m->m <= q->q <= c->a.eval x= .slice ad n c ->
   (execOp a.eval o).run P w= .ok (.value (.slice (if q=l then ad else ad.map (·.add (l*Y.size))) (m-l) (q-l))) w:=by
  intro ad n c l m q d k1 k2 J B I f;have z1:=yg U k1;have z2:=yg (dX N u) k2;rcases E with⟨rfl,rfl⟩|⟨y,rfl,T⟩
  ·have l0:l=0:=by simp[V.asNat]at d;omega
   subst l0;simp[execOp,O,f,Instr.sliceAt,Instr.slice,run_underlying M,Instr.sliceBounds,xR z1 B,xR z2 I,run_sizeOf b]
  ·simp[execOp,O,f,Instr.sliceAt,Instr.slice,run_underlying M,Instr.sliceBounds,xR z1 B,xR z2 I,xR (yg T d) J,run_sizeOf b]
 unfold V.nX at h1;split at h1<;>(try (cases h1;done))
 ·rename_i id g off n es' cp l m q he d k1 k2
  split at h1<;>(try (cases h1;done));rename_i hb;obtain⟨J,B,I,rfl⟩:=hb;cases h1;rw[he]at hx;obtain⟨L,hL,S,⟨cap,f,c1,c2,c3,c4⟩|⟨rfl,rfl,ad,f⟩⟩:=hx
  ·have hm:=main _ _ _ l m q d k1 k2 J B (by omega) f
   by_cases k:q=l
   ·subst k
    rw[if_pos rfl]at hm;rw[if_pos rfl]at j;refine fG p hle (x:= .sz) hm ⟨⟨L.bT,L.base+(off-L.lo),none⟩,?_⟩ j;rw[show m-q=0 by omega,show q-q=0 by omega]
   ·rw[if_neg k]at hm j
    refine fG p hle (x:= .sl id g (off+l*P.cellsOf e) (m-l) (P.cellsOf e) (if m=q then 0 else q-l)) hm ⟨L,hL,by omega,.inl ⟨q-l,?_,by omega,?_,by omega,by split<;>omega,λZ=>by split at Z<;>omega⟩⟩ j
    ·rw[show L.base+(off+l*P.cellsOf e-L.lo)=L.base+(off-L.lo)+l*P.cellsOf e by omega,G]
     simp[rC]
    ·have h3:(q-l)*P.cellsOf e+l*P.cellsOf e=q*P.cellsOf e:=by rw[<-Nat.add_mul,show q-l+l=q by omega]
     have h4:q*P.cellsOf e <= cap*P.cellsOf e:=Nat.mul_le_mul (by omega) (Nat.le_refl _);omega
  ·have l0:l=0:=by omega
   have X:m=0:=by omega
   have W:q=0:=by omega
   subst l0;subst X;subst W;have hm:=main _ _ _ 0 0 0 d k1 k2 (by omega) (by omega) (by omega) f;rw[if_pos rfl]at hm;exact fG p hle (x:= .sz) hm ⟨ad,rfl⟩ j
 ·rename_i he d k1 k2
  cases h1;rw[he]at hx;obtain⟨ad,f⟩:=hx;have hm:=main _ _ _ 0 0 0 d k1 k2 (by omega) (by omega) (by omega) f;rw[if_pos rfl]at hm;exact fG p hle (x:= .sz) hm ⟨ad,rfl⟩ j
 ·rename_i he d k1 k2
  cases h1;rw[he]at hx;have f:a.eval x= .slice none 0 0:=hx;have hm:=main _ _ _ 0 0 0 d k1 k2 (by omega) (by omega) (by omega) f;rw[if_pos rfl]at hm;exact fG p hle (x:= .aA) hm rfl j
theorem Ah{e:TypeId}(h:jC P e=true):P.underlying e=some (.int .u8) /\ P.cellsOf e=1:=by
 unfold jC at h;split at h
 ·rename_i he;exact⟨he,by simpa using h⟩
 ·cases h
theorem Fl:∀{cs:List a7}{bs:List UInt8}{l:List Value},V.vg cs=some bs->dJ ρ cs l->∃a:List Int,l=a.map (Value.int .u8) /\ bs=a.map λn=>UInt8.ofNat n.toNat
 | [],bs,l,h,c=>by cases h;cases c;exact⟨[],rfl,rfl⟩
 | x::cs,bs,l,h,⟨u,us,e,hu,c⟩=>by
  subst e
  simp only[V.vg]at h
  split at h<;>(try (cases h;done))
  rename_i b l' hb d
  cases h
  obtain⟨a,rfl,rfl⟩:=Fl d c
  unfold V.D4 at hb
  split at hb<;>(try (cases hb;done))
  rename_i n
  cases hb
  cases hu
  exact⟨n::a,rfl,rfl⟩
theorem foldl_push:∀(a:List Int)(r:ByteArray),(a.foldl (λr n=>r.push (UInt8.ofNat n.toNat)) r).data.toList=r.data.toList++a.map λn=>UInt8.ofNat n.toNat
 | [],r=>by simp
 | n::a,r=>by
  rw[foldl_cons,foldl_push a]
  simp[ByteArray.push]
theorem Mz {src dst : TypeId} {x : Operand} (G : o.op = .convert src dst x) (D : R w0 ρ H w) (hle : h.le H) (hs : eo ρ s a) (d : fJ P (AC P) (.convert src dst x) s h K) : eh P w0 ρ h H K o a w Q := by
  have hx := dX hs x
  simp only [fJ] at d
  split at d
  · rename_i k1 k2 p t
    obtain ⟨r, h1, h2⟩ := aK d
    unfold V.toInt at h1
    split at h1 <;> (try (cases h1; done))
    rename_i k n he
    cases h1
    rw [he] at hx
    have y : a.eval x = .int k n := hx
    exact fG D hle (x := .int k2 (k2.wrap n)) (v := .int k2 (k2.wrap n)) (by simp [execOp, G, y, convert, run_underlying p, run_underlying t, Conv.intToInt]) rfl h2
  · rename_i p t
    obtain ⟨r, h1, h2⟩ := aK d
    unfold V.AW at h1
    split at h1 <;> (try (cases h1; done))
    rename_i b he
    cases h1
    rw [he] at hx
    obtain ⟨bs, y, hb⟩ := hx
    exact fG D hle (x := .str b) (v := .string bs) (by simp [execOp, G, y, convert, run_underlying p, run_underlying t]) ⟨bs, rfl, hb⟩ h2
  · rename_i e p t
    cases hu : jC P e with
    | false => simp [hu] at d
    | true =>
      simp only [hu, cond_true] at d
      obtain ⟨he, _⟩ := Ah hu
      unfold A.gk at d
      split at d
      · rename_i n z
        split at d
        · rename_i cs F
          split at d
          · rename_i bs hbs
            obtain ⟨l, hl, hv, _, hf, O⟩ := Af (P := P) D hle F hx
            obtain ⟨W, rfl, rfl⟩ := Fl hbs hv
            have E := hf w (fun _ _ _ hh => hh)
            simp only [Nat.mul_one, length_map] at hl
            have hlen : ∀ ad m c, a.eval x = .slice (some ad) m c -> m = n := by
              intro ad m c y
              unfold A.jR at z
              rw [y] at hx
              split at z <;> (try (cases z; done))
              · rename_i f; rw [f] at hx; cases hx
              · rename_i f; rw [f] at hx; cases z; obtain ⟨_, hx⟩ := hx; cases hx; rfl
              · rename_i f; rw [f] at hx; cases z; obtain ⟨_, _, hx⟩ := tH hx; cases hx; rfl
              · rename_i f; rw [f] at hx; obtain ⟨_, hx, _⟩ := hx; cases hx
            have S : ∀ m c, a.eval x = .slice none m c -> n = 0 := by
              intro m c y
              unfold A.jR at z
              rw [y] at hx
              split at z <;> (try (cases z; done))
              · cases z; rfl
              · cases z; rfl
              · rename_i f; rw [f] at hx; obtain ⟨_, _, hx⟩ := tH hx; cases hx
              · rename_i f; rw [f] at hx; obtain ⟨_, hx, _⟩ := hx; cases hx
            have X : ∃ ad m c, a.eval x = .slice ad m c := by
              unfold A.jR at z
              split at z <;> (try (cases z; done))
              · rename_i f; rw [f] at hx; exact ⟨_, _, _, hx⟩
              · rename_i f; rw [f] at hx; obtain ⟨_, hx⟩ := hx; exact ⟨_, _, _, hx⟩
              · rename_i f; rw [f] at hx; obtain ⟨_, _, hx⟩ := tH hx; exact ⟨_, _, _, hx⟩
              · rename_i f; rw [f] at F; simp [A.rdv] at F
            obtain ⟨ad, m, c, y⟩ := X
            cases ad with
            | none =>
              have := S m c y
              have hns : W = [] := eq_nil_of_length_eq_zero (by omega)
              subst hns
              refine fG D hle (x := .str []) (v := .string .empty) ?_ ⟨_, rfl, rfl⟩ d
              simp [execOp, G, y, run_convert_bytes_string w src dst e _ _ _ p he t, Conv.bytesToString]
            | some ad =>
              have hm := hlen ad m c y
              subst hm
              rw [y] at E
              simp only [Builtin.firstCells, Nat.mul_one] at E
              refine fG D hle (x := .str (W.map fun n => UInt8.ofNat n.toNat)) (v := .string (W.foldl (fun r n => r.push (UInt8.ofNat n.toNat)) ByteArray.empty)) ?_ ⟨_, rfl, by rw [foldl_push]; rfl⟩ d
              simp [execOp, G, y, run_convert_bytes_string w src dst e _ _ _ p he t, run_bytesToString w ad m c W E]
          · exact d.elim
        · exact d.elim
      · exact d.elim
  · rename_i e p t
    cases hu : jC P e with
    | false => simp [hu] at d
    | true =>
      simp only [hu, cond_true] at d
      obtain ⟨he, _⟩ := Ah hu
      unfold A.oE at d
      split at d
      · rename_i l hl
        rw [hl] at hx
        obtain ⟨bs, y, rfl⟩ := hx
        obtain ⟨hsm, z⟩ := d
        have I := grownCap_ge w bs.size 0 e
        have hgm : grownCap w bs.size 0 e <= maxLen := grownCap_le_maxLen w bs.size 0 e (by
          have : bs.data.toList.length = bs.size := rfl
          simp only [maxLen]; omega)
        have M : (bytesRow bs (grownCap w bs.size 0 e)) = List.toArray ((bs.data.toList.map fun (b : UInt8) => Value.int .u8 b.toNat) ++ List.replicate (grownCap w bs.size 0 e - bs.size) (Value.int .u8 0)) := by
          apply Array.ext'; simp [bytesRow]
        have B : (bytesRow bs (grownCap w bs.size 0 e)).size = grownCap w bs.size 0 e := by
          have : bs.data.size = bs.size := rfl
          simp [bytesRow]; omega
        obtain ⟨id, ρ', m1, m2, m3, m4, m5, m6⟩ := wc D hle z (bytesRow bs (grownCap w bs.size 0 e)) e (grownCap w bs.size 0 e, grownCap w bs.size 0 e + 1) (.inr (by rw [B]; exact Nat.le_refl _))
          (by have : bs.data.toList.length = bs.size := rfl
              simp only [length_map, B]; omega) (fun j x hx => by
            rw [M]
            refine wk (l := bs.data.toList.map fun b => Value.int .u8 b.toNat) ?_ (by intro u hu; simp only [mem_map] at hu; obtain ⟨b, _, rfl⟩ := hu; rfl) _ j x hx
            refine dJ.AZ (by simp) fun i a u T hu => ?_
            simp only [getElem?_map] at T hu
            cases hb : bs.data.toList[i]? with
            | none => rw [hb] at T; cases T
            | some b => rw [hb] at T hu; cases T; cases hu; rfl) (w.drawn + 1)
        have C := run_bytes_of_string w src dst e bs p t he
        rw [B] at C
        refine ja (v := .slice (some ⟨w.heap.size, 0, none⟩) bs.size (grownCap w bs.size 0 e)) (w' := w.drew.alloc (.cells (bytesRow bs (grownCap w bs.size 0 e)) e (grownCap w bs.size 0 e, grownCap w bs.size 0 e + 1)))
          (by simp [execOp, G, y, C]) ⟨⟨.sl id 0 0 bs.data.toList.length 1 bs.data.toList.length, ρ', _, _, m2, ⟨_, m3, Nat.le_refl _, .inl ⟨_, rfl, I, by simp [B], hgm, I, fun h => .inr h⟩⟩, m1, m4, m5, m6⟩⟩
      · exact d.elim
  · rename_i e e2 p t
    cases hu : Nat.beq src dst && jC P e with
    | false => rw [hu] at d; exact d.elim
    | true =>
      rw [hu] at d
      rw [Bool.and_eq_true] at hu
      have Z : src = dst := Nat.eq_of_beq_eq_true hu.1
      subst Z
      obtain ⟨he, _⟩ := Ah hu.2
      have d : A.conv h (aO s x) fun v => K v h := d
      unfold A.conv at d
      split at d
      · rename_i id g off n es cp J
        split at d
        · rename_i b hb
          obtain ⟨hc, hk⟩ := d
          rw [Bool.and_eq_true, Bool.and_eq_true, Nat.blt_eq] at hc
          obtain ⟨N, I, z⟩ := hc
          obtain ⟨hi, I⟩ := Option.isSome_iff_exists.1 I
          obtain ⟨_, L, arr, e', fr, c2, c3, c4, c5, c6, c7⟩ := (D.bT id b (hle id b hb)).gen g hi (qn I)
          rw [J] at hx
          obtain ⟨L', U, hlo, O⟩ := hx
          rw [c2] at U
          cases U
          rcases O with ⟨cap, y, q1, q2, q3, q4, q5⟩ | ⟨q, _⟩
          · have Y : w.shape? L.bT = some (e', arr.size) := by unfold World.shape?; rw [c3]
            refine ja (v := .slice (some ⟨L.bT, L.base + (off - L.lo), none⟩) n cap) (w' := w.freeze ⟨L.bT, arr.size, none⟩ 1) ?_ ⟨⟨.sl id g off n es cp, ρ, h, H, bP.le_refl ρ, ⟨L, c2, hlo, .inl ⟨cap, rfl, q1, q2, q3, q4, q5⟩⟩, (by rw [<- J]; exact hk), hle, Fr.refl h H, D.freeze (c6 N).1 c3⟩⟩
            simp [execOp, G, y, convert, run_underlying p, run_underlying he, markStringish, Y]
          · omega
        · exact d.elim
      · exact d.elim
  · exact d.elim
theorem Lk {t : TypeId} {l c : Operand} (J : o.op = .makeSlice t l c) (O : R w0 ρ H w) (hle : h.le H) (C : eo ρ s a) (b : fJ P (AC P) (.makeSlice t l c) s h K) : eh P w0 ρ h H K o a w Q := by
  simp only [fJ] at b
  split at b
  · rename_i e he
    have I : P.underlying t = some (.slice e) := by
      unfold vv at he
      split at he
      · cases he; assumption
      · cases he
    obtain ⟨E, b⟩ := b
    unfold A.eO at b
    split at b
    · rename_i z r n y m G L N
      obtain ⟨W, V, U, T, F⟩ := b
      have el : a.eval l = .int r n := by have := dX C l; rw [L] at this; exact this
      have S : a.eval c = .int y m := by have := dX C c; rw [N] at this; exact this
      obtain ⟨it, f, d, p, B, k, hlen, q, _, _⟩ := uh (ρ := ρ) G
      have M := kI d
      rw [Dw] at F
      have i := Aq (n := m.toNat) q (by omega)
      have g : f.cells.toList.length = z.length := B.length.symm
      have hb : P.bytesOf e = it.bytes := by simp [Program.bytesOf, d]
      obtain ⟨id, ρ', m1, m2, m3, m4, m5, m6⟩ := wc O hle F ((List.replicate m.toNat f.cells.toList).flatten).toArray e (0, 0) (.inl rfl)
        (by simp only [length_flatten, map_replicate, sum_replicate_nat, size_toArray, g]
            exact Nat.le_refl _)
        (fun j x hx => by
          have := wk (dJ.rep B m.toNat) (fun u hu => by
            simp only [mem_flatten, mem_replicate] at hu
            obtain ⟨l, ⟨_, rfl⟩, hu⟩ := hu
            exact k u hu) [] j x hx
          simpa using this) w.drawn
      have wl : IntKind.i64.wrap n = n := by rw [IntKind.wrap_i64]; omega
      have X : IntKind.i64.wrap m = m := by rw [IntKind.wrap_i64]; omega
      refine ja (v := .slice (some ⟨w.heap.size, 0, none⟩) n.toNat m.toNat) (w' := w.alloc (.cells ((List.replicate m.toNat f.cells.toList).flatten).toArray e)) ?_
        ⟨⟨.sl id 0 0 n.toNat z.length m.toNat, ρ', _, _, m2, ⟨_, m3, Nat.le_refl _, .inl ⟨_, rfl, by omega, ?_, by simp only [maxLen]; omega, Nat.le_refl _, fun h => .inr (by omega)⟩⟩, m1, m4, m5, m6⟩⟩
      · have hm : madeCells f.cells (m.toNat * it.size) = ((List.replicate m.toNat f.cells.toList).flatten).toArray := i
        have D := run_make (P := P) w t e it f I d p r y n m W V (by rw [<- hb, Int.mul_comm]; exact U) T
        rw [hm] at D
        simp [execOp, J, el, S, D]
      · simp only [length_flatten, map_replicate, sum_replicate_nat, size_toArray, g]
        simp
    · exact b.elim
  · exact b.elim
end
end Go.Ab
namespace Go.Ab
open List
open Go.RowKit (Below)
section
variable{P:Program}{w0:World}{ρ:bP}{h H:a9}{w:World}{s:bB}{a:Act}{K:zQ}{o:Oper}{Q:Exit->Act->World->Prop}
theorem Hm(r:R w0 ρ H w){id:Nat}{b:fB}(d:H id=some b)(a:b.own=true){g hi:Nat}(t:(g,hi)∈b.eE){L:Loc}(v:ρ id g=some L){e:Nat}(he:e <= hi)(o:L.lo <= e)
  {xs:List a7} {vs:List Value} (hx:dJ ρ xs vs) (h1:∀u∈vs,u.oneCell'=true) (n:L.base+(e-L.lo)+xs.length <= L.size):
  (∀j,j<vs.length->(w.cell? ⟨L.bT,L.base+(e-L.lo)+j,none⟩).isSome=true) /\ (∀j,j<vs.length->w.frozen? ⟨L.bT,L.base+(e-L.lo)+j,none⟩=false) /\
  R w0 (ρ.put id b.next L) (bQ H id (jd b e xs)) (w.setCells L.bT (L.base+(e-L.lo)) vs):=by
 obtain⟨h0,L',arr,ty,fr,k1,k2,k3,k4,k5,k6⟩:=(r.bT id b d).gen g hi t;rw[v]at k1;cases k1;have hlen:=hx.length;have f:=(k5 a).2;obtain⟨arr',i,A,m1,m2,m3⟩:=Ci L.bT vs (L.base+(e-L.lo)) w arr k2 (by omega);refine⟨λj C=>?_,λj C=>?_,?_⟩
 ·simp only[World.cell?,k2]
  simp only[Option.isSome_none,Bool.false_eq_true,if_false];rw[Array.getElem?_eq_getElem (by omega)];rfl
 ·simp only[World.frozen?,k2]
  unfold tU at f;simp only[Bool.and_eq_false_iff,decide_eq_false_iff_not];omega
 ·refine r.app d a t v he o xs L (i.below r.below (k5 a).1) (.inl ⟨rfl,rfl,rfl,rfl⟩) (k5 a).1 (λk hk _=>i.other k hk) (λarr2 y D s=>?_) f i.at_ (by omega) (by omega) λj q B x c=>?_
  ·rw[k2]at s
   cases s;exact⟨arr',i.at_,A,λx hx=>m1 x hx⟩
  ·have m:(b.cells.take e).length=e:=by rw[length_take];omega
   by_cases p:j<e
   ·rw[getElem?_append_left (by omega),getElem?_take_of_lt p]at c
    obtain⟨u,h,l,z⟩:=k6 j q (by omega) x c;exact⟨u,by rw[m1 _ (by omega)];exact h,l,z⟩
   ·rw[getElem?_append_right (by omega),m]at c
    obtain⟨u,h,l⟩:=hx.get c;have:=m2 (j-e) (by omega);rw[show L.base+(e-L.lo)+(j-e)=L.base+(j-L.lo) by omega,h]at this;exact⟨u,this,l,h1 u (mem_of_getElem? h)⟩
theorem Ov(h:R w0 ρ H w){id:Nat}{b:fB}(f:H id=some b)(d:b.own=true){g hi:Nat}(v:(g,hi)∈b.eE){L:Loc}(y:ρ id g=some L){off n:Nat}(he:off+n <= hi)(p:L.lo <= off)
  {os:List Value} (e:dJ ρ ((b.cells.drop off).take n) os) (o:∀u∈os,u.oneCell'=true) {xs:List a7} {vs:List Value} (hx:dJ ρ xs vs) (h1:∀u∈vs,u.oneCell'=true) (rest:Array Value) (ty:TypeId):
  R w0 (ρ.put id b.next ⟨w.heap.size,0,off,(os.toArray++vs.toArray++rest).size⟩) (bQ H id (jd b (off+n) xs)) (w.drew.alloc (.cells (os.toArray++vs.toArray++rest) ty)):=by
 obtain⟨h0,L',arr,A,fr,k1,k2,k3,k4,k5,k6⟩:=(h.bT id b f).gen g hi v;rw[y]at k1;cases k1;have hlen:=hx.length;have m:=e.length;rw[length_take,length_drop]at m;have s:=h.below.size;have hold:∀k,k<w.heap.size->(w.heap.push (.cells (os.toArray++vs.toArray++rest) ty))[k]?=w.heap[k]? :=λk hk=>by
  rw[Array.getElem?_push,if_neg (by omega)]
 refine h.app f d v y he (by omega) xs ⟨w.heap.size,0,off,(os.toArray++vs.toArray++rest).size⟩ ?_ (.inr ⟨Nat.le_refl _,p,by simp⟩) s (λk _ hk=>hold k hk) (λarr2 z D t=>?_) (fr':=(0,0)) (.inl rfl) (arr':=os.toArray++vs.toArray++rest) (ty:=ty) ?_ rfl ?_ λj r B x a=>?_
 ·exact h.below.trans ⟨rfl,rfl,rfl,by simp,λk hk=>hold k (by omega)⟩
 ·exact⟨arr2,by rw[show (w.drew.alloc _).heap=w.heap.push _ from rfl,hold _ (Array.getElem?_eq_some_iff.1 t).1];exact t,rfl,λ_ _=>rfl⟩
 ·show (w.heap.push _)[w.heap.size]?=_
  simp
 ·simp only[Array.size_append,size_toArray];omega
 ·have l:(b.cells.take (off+n)).length=off+n:=by rw[length_take];omega
  simp only at r ⊢;rw[Nat.zero_add];have C:(os.toArray++vs.toArray++rest)=(os++vs++rest.toList).toArray:=by apply Array.ext';simp
  rw[C,getElem?_toArray];by_cases q:j<off+n
  ·rw[getElem?_append_left (by omega),getElem?_take_of_lt q]at a
   have:((b.cells.drop off).take n)[j-off]?=some x:=by rw[getElem?_take_of_lt (by omega),getElem?_drop,show off+(j-off)=j by omega];exact a
   obtain⟨u,c,i⟩:=e.get this;exact⟨u,by rw[append_assoc,getElem?_append_left (by omega)];exact c,i,o u (mem_of_getElem? c)⟩
  ·rw[getElem?_append_right (by omega),l]at a
   obtain⟨u,c,i⟩:=hx.get a;refine⟨u,?_,i,h1 u (mem_of_getElem? c)⟩;rw[append_assoc,getElem?_append_right (by omega),getElem?_append_left (by omega),show j-off-os.length=j-(off+n) by omega];exact c
theorem EN{y:a7}{v:Value}{n:Nat}(b:dB ρ y v)(d:∀l,y≠ .str l)(h:A.jR y=some n):∃ad c,v= .slice ad n c:=by
 unfold A.jR at h;split at h<;>(try (cases h;done))
 ·cases h;exact⟨_,_,b⟩
 ·cases h;obtain⟨a,e⟩:=b;exact⟨_,_,e⟩
 ·cases h;obtain⟨a,c,e⟩:=tH b;exact⟨_,_,e⟩
 ·exact absurd rfl (d _)
theorem BW{t b ty e:TypeId}{i:TypeInfo}{base:Option Addr}{n cap:Nat}{y:Value}(c:P.underlying t=some (.slice e))(hi:P.info? e=some i)(a:Src P i.size b y 0 [] w)(d:n <= cap):
  (Builtin.append_ #[t,b] ty #[.slice base n cap,y]).run P w= .ok (.slice base n cap) w:=by
 have f:=a.cells;rcases a.kind with⟨g,hk⟩|hk<;>cases base<;>simp[Builtin.append_,run_underlying c,run_underlying hk,sizeOf,typeInfo,hi,a.len,d,f,storeCells]
theorem G6{c:Call}(ho:o.op= .call c)(hc:c.callee= .builtin .append){t W e:TypeId}{x y:Operand}(ha:c.argTypes= #[t,W])(hargs:c.args= #[x,y])(Z:P.underlying t=some (.slice e))(hpos:0<P.cellsOf e)
  (hz:(zeroOf P e).isSome=true) (U:R w0 ρ H w) (hle:h.le H) (hs:eo ρ s a) {n:Nat} {cs:List a7} {vs:List Value} (d:∀i,P.info? e=some i->Src P i.size W (a.eval y) n vs w) (hv:dJ ρ cs vs)
  (f:A.app h (P.cellsOf e) (P.bytesOf e) (aO s x) (some cs) K):eh P w0 ρ h H K o a w Q:=by
 have hx:=dX hs x;obtain⟨zc,hz⟩:=Option.isSome_iff_exists.1 hz;obtain⟨it,J,p,X,_,_,_,hsz,_,_⟩:=uh (ρ:=ρ) hz;have B:=kI p;have hbe:P.bytesOf e=it.bytes:=by simp[Program.bytesOf,p]
 have d:=d it p;have h1:=d.one;have G:vs.length=n*P.cellsOf e:=by rw[B];exact d.newsLen
 simp only[A.app]at f;have hcl:=hv.length;have hdiv:cs.length / P.cellsOf e=n:=by rw[hcl,G];exact Nat.mul_div_cancel _ hpos
 have m:∀r w',(Builtin.append_ #[t,W] o.type #[a.eval x,a.eval y]).run P w= .ok r w'->(execOp a.eval o).run P w= .ok (.value r) w':=λr w' hr=>by
  simp[execOp,ho,resolve,hc,hargs,ha,invoke,builtin,hr]
 have I:cs.length=0↔n=0:=by
  rw[hcl,G];constructor
  ·intro h0
   rcases Nat.mul_eq_zero.1 h0 with h0|h0
   ·exact h0
   ·omega
  ·intro h0;rw[h0,Nat.zero_mul]
 have hzero:n=0->cs=[] /\ vs=[]:=λh0=>by
  subst h0;have:vs=[]:=eq_nil_of_length_eq_zero (by omega);exact⟨eq_nil_of_length_eq_zero (by omega),this⟩
 have fresh:∀(base:Option Addr),a.eval x= .slice base 0 0->n≠0->n*P.bytesOf e <= 140737488355328->n <= maxLen->A.new h cs (λid h=>K (.sl id 0 0 n (P.cellsOf e) n) h)->eh P w0 ρ h H K o a w Q:=by
  intro base ex h0 hb k l;have hold:(Builtin.firstCells it.size 0 (.slice base 0 0)).run P w.drew= .ok ([]:List Value).toArray w.drew:=by
   cases base with
   | none=>simp[Builtin.firstCells]
   | some F=>simp[Builtin.firstCells,loadCells,loadCellsFrom]
  have hr':=run_append_grow_src (P:=P) w t W o.type e it J Z p X base 0 0 [] hold (a.eval y) n vs d (by omega) (by simp only[maxLen]at k;omega) (growslice_fits (by omega) (by rw[<-hbe];simpa using hb));simp only[Nat.zero_add,nil_append]at hr';rw[<-ex]at hr';have hg:=grownCap_ge w n 0 e;have hA:(vs.toArray++Builtin.zeroCells J.cells (grownCap w n 0 e-n))=(vs++(Builtin.zeroCells J.cells (grownCap w n 0 e-n)).toList).toArray:=by apply Array.ext';simp
  have hAs:(vs.toArray++Builtin.zeroCells J.cells (grownCap w n 0 e-n)).size=grownCap w n 0 e*P.cellsOf e:=by
   simp only[Array.size_append,size_toArray,size_zeroCells,hsz,G,<-B,<-Nat.add_mul];congr 1;omega
  obtain⟨id,ρ',m1,m2,m3,m4,m5,m6⟩:=wc U hle l (vs.toArray++Builtin.zeroCells J.cells (grownCap w n 0 e-n)) e (0,0) (.inl rfl) (by
    simp only[Array.size_append,size_toArray];omega) (by rw[hA];exact wk hv h1 _) (w.drawn+1)
  exact ja (m _ _ hr') ⟨⟨.sl id 0 0 n (P.cellsOf e) n,ρ',_,_,m2,⟨_,m3,Nat.le_refl _,.inl ⟨_,rfl,hg,by simp only[hAs];omega,grownCap_le_maxLen w n 0 e k,hg,λh=> .inr h⟩⟩,m1,m4,m5,m6⟩⟩
 split at f
 ·
  rename_i M;rw[M]at hx;have ex:a.eval x= .slice none 0 0:=hx;split at f
  ·rename_i h0
   obtain⟨_,Y⟩:=hzero (I.1 h0);have D:=I.1 h0;rw[D,Y]at d;refine ja (m (.slice none 0 0) w ?_) (CP U hle (x:= .aA) rfl f);rw[ex];exact BW Z p d (Nat.le_refl _)
  ·rename_i h0
   rw[hdiv]at f;obtain⟨hb,k,l⟩:=f;have D:n≠0:=λhh=>h0 (I.2 hh);exact fresh none ex D hb k l
 ·
  rename_i M;rw[M]at hx;obtain⟨F,ex⟩:=hx;split at f
  ·rename_i h0
   obtain⟨_,Y⟩:=hzero (I.1 h0);have D:=I.1 h0;rw[D,Y]at d;refine ja (m (.slice (some F) 0 0) w ?_) (CP U hle (x:= .sz) ⟨F,rfl⟩ f);rw[ex];exact BW Z p d (Nat.le_refl _)
  ·rename_i h0
   rw[hdiv]at f;obtain⟨hb,k,l⟩:=f;have D:n≠0:=λhh=>h0 (I.2 hh);exact fresh (some F) ex D hb k l
 ·
  rename_i id g off len es cp' M;split at f
  case h_2=>exact f.elim
  rename_i b hb;split at f
  case h_2=>exact f.elim
  rename_i hi hg;rw[hdiv]at f;rw[M]at hx;cases E:b.own
  ·rw[E]at f
   obtain⟨⟨rfl,hcp,hlen0,D,q,hhi,hbytes,k⟩,l⟩:=f;obtain⟨L,V,z,⟨cap,ex,c1,c2,c3,c4,c5⟩|⟨h0,_⟩⟩:=hx
   ·have hcap:cap=len:=by rcases c5 hcp with h|h<;>omega
    subst hcap;obtain⟨os,q1,q2,q3,q4⟩:=wX U (hle id b hb) (qn hg) V (n:=cap*P.cellsOf e) z q;have C:=run_append_grow_src (P:=P) w t W o.type e it J Z p X (some ⟨L.bT,L.base+(off-L.lo),none⟩) cap cap os (run_firstCells_some w.drew it.size cap ⟨L.bT,L.base+(off-L.lo),none⟩ cap cap os (by rw[q1,B]) (λj u hj=>by rw[rC];exact q4 j u hj)) (a.eval y) n vs d (by omega) (by simp only[maxLen]at k;omega) (growslice_fits (by omega) (by rw[<-hbe];exact hbytes));rw[<-ex]at C;have S:=grownCap_ge w (cap+n) cap e;have eA:(os++vs).toArray=os.toArray++vs.toArray:=by simp
    have hA:((os++vs).toArray++Builtin.zeroCells J.cells (grownCap w (cap+n) cap e-(cap+n)))=((os++vs)++(Builtin.zeroCells J.cells (grownCap w (cap+n) cap e-(cap+n))).toList).toArray:=by apply Array.ext';simp
    have hAs:((os++vs).toArray++Builtin.zeroCells J.cells (grownCap w (cap+n) cap e-(cap+n))).size=grownCap w (cap+n) cap e*P.cellsOf e:=by
     simp only[Array.size_append,size_toArray,length_append,size_zeroCells,hsz,G,q1,<-B,<-Nat.add_mul];congr 1;omega
    obtain⟨id',ρ',m1,m2,m3,m4,m5,m6⟩:=wc U hle l ((os++vs).toArray++Builtin.zeroCells J.cells (grownCap w (cap+n) cap e-(cap+n))) e (0,0) (.inl rfl) (by
      simp only[Array.size_append,size_toArray,length_append,length_take,length_drop];omega) (by rw[hA];exact wk (q2.append hv) (λu hu=>by rcases mem_append.1 hu with hu|hu;exact q3 u hu;exact h1 u hu) _) (w.drawn+1)
    exact ja (m _ _ C) ⟨⟨.sl id' 0 0 (cap+n) (P.cellsOf e) (cap+n),ρ',_,_,m2,⟨_,m3,Nat.le_refl _,.inl ⟨_,rfl,S,by simp only[hAs];omega,grownCap_le_maxLen w (cap+n) cap e k,S,λh=>by omega⟩⟩,m1,m4,m5,m6⟩⟩
   ·omega
  rw[E]at f;obtain⟨rfl,_,q,hbytes,k,hK⟩:=f;have N:=E;have hm:=qn hg;have hH:=hle id b hb;have hnx:ρ id b.next=none:=(U.bT id b hH).qc _ (Nat.le_refl _)
  have T:∀(r:Value)(w':World)(L':Loc),(Builtin.append_ #[t,W] o.type #[a.eval x,a.eval y]).run P w= .ok r w'->R w0 (ρ.put id b.next L') (bQ H id (jd b (off+len*P.cellsOf e) cs)) w' ->
    dB (ρ.put id b.next L') (.sl id b.next off (len+n) (P.cellsOf e) (len+n)) r->eh P w0 ρ h H K o a w Q:=λr w' L' hr hRr hv'=>
   ja (m r w' hr) ⟨⟨_,_,_,_,bP.sB L' hnx,hv',hK,mc _ hle,Fr.bQ hb,hRr⟩⟩
  have O:∀(F:Addr)(L:Loc)(cap:Nat),a.eval x= .slice (some F) len cap->ρ id g=some L->L.lo <= off->cap<len+n->(∃os:List Value,os.length=len*P.cellsOf e /\ dJ ρ ((b.cells.drop off).take (len*P.cellsOf e)) os /\ (∀u∈os,u.oneCell'=true) /\
    ∀j u,os[j]?=some u->w.cell? (F.add j)=some u)->len <= cap->eh P w0 ρ h H K o a w Q:=by
   rintro F L cap ex V z hgt ⟨os,ho1,ho2,ho3,ho4⟩ hlc;have C:=run_append_grow_src (P:=P) w t W o.type e it J Z p X (some F) len cap os (run_firstCells_some w.drew it.size len F len cap os (by rw[ho1,B]) (by simpa using ho4)) (a.eval y) n vs d hgt (by simp only[maxLen]at k;omega) (growslice_fits hgt (by rw[<-hbe];exact hbytes));have eA:(os++vs).toArray=os.toArray++vs.toArray:=by simp
   rw[eA]at C;have S:=grownCap_ge w (len+n) cap e;have hRr:=Ov U hH N hm V q z ho2 ho3 hv h1 (Builtin.zeroCells J.cells (grownCap w (len+n) cap e-(len+n))) e;refine T _ _ _ (by rw[ex];exact C) hRr ⟨_,bP.kX ..,Nat.le_refl _,.inl ⟨grownCap w (len+n) cap e,by simp,S,?_,grownCap_le_maxLen w (len+n) cap e k,S,λh=> .inr h⟩⟩;simp only[Array.size_append,size_toArray,size_zeroCells,hsz,ho1,G,<-B,<-Nat.add_mul,Nat.sub_self,Nat.zero_add];exact Nat.mul_le_mul_right _ (by omega)
  obtain⟨L,V,z,⟨cap,ex,c1,c2,c3⟩|⟨rfl,_,F,ex⟩⟩:=hx
  ·by_cases v:len+n <= cap
   ·have hmul:(len+n)*P.cellsOf e <= cap*P.cellsOf e:=Nat.mul_le_mul_right _ v
    rw[Nat.add_mul]at hmul;obtain⟨r1,r2,r3⟩:=Hm U hH N hm V q (by omega) hv h1 (by rw[hcl,G];omega);have hst:L.base+(off+len*P.cellsOf e-L.lo)=L.base+(off-L.lo)+len*P.cellsOf e:=by omega
    rw[hst]at r1 r2 r3;refine T (.slice (some ⟨L.bT,L.base+(off-L.lo),none⟩) (len+n) cap) _ L ?_ r3 ⟨L,bP.kX ..,z,.inl ⟨cap,rfl,v,c2,c3.1,v,λh=> .inr h⟩⟩;rw[ex];have:=run_append_room_src (P:=P) w t W o.type e it Z p L.bT (L.base+(off-L.lo)) len cap (a.eval y) n vs d v (by rw[<-B];exact r1) (by rw[<-B];exact r2);rw[<-B]at this;exact this
   ·refine O _ L cap ex V z (by omega) ?_ c1
    obtain⟨os,q1,q2,q3,q4⟩:=wX U hH hm V (n:=len*P.cellsOf e) z q;exact⟨os,q1,q2,q3,λj u hj=>by rw[rC];exact q4 j u hj⟩
  ·by_cases h0:n=0
   ·obtain⟨rfl,rfl⟩:=hzero h0
    obtain⟨_,_,r3⟩:=Hm U hH N hm V q (by omega) (xs:=[]) (vs:=[]) rfl (by simp) (by
     obtain⟨_,L',_,_,_,k1,_,_,k4,_⟩:=(U.bT id b hH).gen g hi hm;rw[V]at k1;cases k1;simp only[length_nil];omega)
    refine T (.slice (some F) 0 0) w L ?_ r3 ⟨L,bP.kX ..,z,.inr ⟨by omega,by omega,F,rfl⟩⟩;subst h0;rw[ex];exact BW Z p d (Nat.le_refl _)
   ·exact O F L 0 ex V z (by omega) ⟨[],by simp,by simp[dJ],by simp,by simp⟩ (Nat.le_refl _)
 ·exact f.elim
theorem Nk{c:Call}(J:o.op= .call c)(N:c.callee= .builtin .append){t e:TypeId}{x y:Operand}(O:c.argTypes= #[t,t])(f:c.args= #[x,y])(k:P.underlying t=some (.slice e))(j:0<P.cellsOf e)
  (F:(zeroOf P e).isSome=true) (C:R w0 ρ H w) (hle:h.le H) (B:eo ρ s a) (b:A.bO h (P.cellsOf e) (P.bytesOf e) (aO s x) (aO s y) K):eh P w0 ρ h H K o a w Q:=by
 have z:=dX B y;unfold A.bO at b;split at b
 case h_2=>exact b.elim
 rename_i n L;cases d:A.rdv h (aO s y) n (P.cellsOf e) with
 | none=>rw[d]at b;exact b.elim
 | some cs=>
  rw[d]at b;have r:∀l,aO s y≠ .str l:=λl M=>by rw[M]at d;simp[A.rdv]at d
  obtain⟨ad,cap',D⟩:=EN z r L;obtain⟨vs,g,G,h1,_,q⟩:=Af (P:=P) C hle d z;refine G6 J N O f k j F C hle B (n:=n) (cs:=cs) (vs:=vs) (λi hi=>?_) G b;have u:=kI hi;rw[u]at g;rcases q with h0|⟨v,m,c',E,I⟩
  ·subst h0
   have p:vs=[]:=eq_nil_of_length_eq_zero (by omega);subst p;rw[D];cases ad with
   | none=>exact Src.ofNil w k cap'
   | some S=>exact Src.ofSlice w k S 0 cap' [] (by simp) (by simp) (by simp)
  ·rw[D]at E ⊢
   cases E;exact Src.ofSlice w k v n cap' vs g I h1
theorem Lm{c:Call}(F:o.op= .call c)(G:c.callee= .builtin .append){t q e:TypeId}{x y:Operand}(I:c.argTypes= #[t,q])(f:c.args= #[x,y])(E:P.underlying t=some (.slice e))(m:P.underlying q=some .string)(j:jC P e=true)
  (D:(zeroOf P e).isSome=true) (J:R w0 ρ H w) (hle:h.le H) (z:eo ρ s a) (d:A.app h 1 (P.bytesOf e) (aO s x) (A.Ax (aO s y)) K):eh P w0 ρ h H K o a w Q:=by
 have v:=dX z y;have g:P.cellsOf e=1:=by
  unfold jC at j;split at j
  ·simpa using j
  ·cases j
 cases k:aO s y with
 | str l=>
  rw[k]at d v;obtain⟨b,B,hb⟩:=v;rw[<-g]at d;refine G6 F G I f E (by omega) D J hle z (n:=b.size) (vs:=byteCells b) (λi hi=>?_) ?_ d
  ·have p:=kI hi
   rw[B,<-p,g];exact Src.ofString w m b
  ·unfold byteCells
   rw[hb];clear d hb B k
   induction l with
   | nil=>rfl
   | cons u r C=>exact⟨_,_,rfl,rfl,C⟩
 | _=>rw[k]at d;exact d.elim
theorem KP{z:Value}{n size:Nat}(a:z.cells.size=size)(h0:0<size):Builtin.zeroCells z.cells n=((List.replicate n z.cells.toList).flatten).toArray:=by
 rw[<-Aq a h0];unfold Builtin.zeroCells;rw[a]
theorem K4{t a ty e:TypeId}{k ki:IntKind}{i:TypeInfo}{z:Value}(f:P.underlying t=some (.slice e))(hk:P.underlying a=some (.int k))(hi:P.info? e=some i)(d:i.zero=some z)(base:Option Addr){n:Nat}(h:0<n)(g:0<i.size)(l:(n:Int) <= 9223372036854775807)(hb:n*i.bytes <= 140737488355328)
  (b:Builtin.nextslicecap n 0*i.bytes <= 281474976710656):
  (Builtin.append_ #[t,a] ty #[.slice base 0 0,.int ki (n:Int)]).run P w= .ok (.slice (some ⟨w.heap.size,0,none⟩) n (grownCap w n 0 e)) (w.drew.alloc (.cells (Builtin.zeroCells z.cells n++Builtin.zeroCells z.cells (grownCap w n 0 e-n)) e)):=by
 have hw:IntKind.i64.wrap (n:Int)=n:=by rw[IntKind.wrap_i64];omega
 have h1:¬ ((n:Int)<0):=by omega
 have p:¬ (281474976710656<(n:Int)*(i.bytes:Int)):=by
  rw[<-Int.natCast_mul];omega
 have o:¬ (9223372036854775807<(n:Int)):=by omega
 have m:¬ (281474976710656<Builtin.nextslicecap n 0*i.bytes):=by omega
 have c:n≠0:=by omega
 have j:n*i.size≠0:=Nat.mul_ne_zero c (by omega);cases base<;>simp[Builtin.append_,run_underlying f,run_underlying hk,sizeOf,typeInfo,zeroValue,hi,d,asInt,asIntOf,hw,h1,p,c,o,m,j,Question.forced,Builtin.firstCells,loadCells,loadCellsFrom,newRow,grownCap]
theorem M0{c:Call}(Y:o.op= .call c)(hc:c.callee= .builtin .append){t O e:TypeId}{k:IntKind}{x y:Operand}(ha:c.argTypes= #[t,O])(v:c.args= #[x,y])(X:P.underlying t=some (.slice e))(J:P.underlying O=some (.int k))(U:0<P.cellsOf e)
  (hR:R w0 ρ H w) (hle:h.le H) (T:eo ρ s a) (f:A.rz h (P.cellsOf e) (P.bytesOf e) (zeroOf P e) (aO s x) (aO s y) K):eh P w0 ρ h H K o a w Q:=by
 have hx:=dX T x;have E:=dX T y;unfold A.rz at f;split at f
 case h_2=>exact f.elim
 rename_i V ki n W I;obtain⟨⟨L,Z,hb,hm⟩,d⟩:=f;obtain⟨it,b,p,F,S,z,hlen,i,_,_⟩:=uh (ρ:=ρ) W;have B:=kI p;have N:P.bytesOf e=it.bytes:=by simp[Program.bytesOf,p]
 rw[I]at E;have E:a.eval y= .int ki n:=E;obtain⟨m,rfl⟩:∃m:Nat,n=(m:Int):=⟨n.toNat,by omega⟩;simp only[Int.toNat_natCast]at d;have C:m*it.bytes <= 140737488355328:=by rw[<-N];have:=hb;rw[<-Int.natCast_mul]at this;omega
 have ex:∃base,a.eval x= .slice base 0 0:=by
  unfold A.noRoom at L;split at L
  ·rename_i he;rw[he]at hx;exact⟨none,hx⟩
  ·rename_i he;rw[he]at hx;obtain⟨ad,e1⟩:=hx;exact⟨some ad,e1⟩
  ·cases L
 obtain⟨base,ex⟩:=ex;have g:=K4 (P:=P) (w:=w) (ty:=o.type) (ki:=ki) X J p F base (n:=m) (by omega) (by omega) (by simp only[maxLen]at hm;omega) C (growslice_fits (by omega) C);rw[<-ex,<-E]at g;have r:(execOp a.eval o).run P w= .ok (.value (.slice (some ⟨w.heap.size,0,none⟩) m (grownCap w m 0 e))) (w.drew.alloc (.cells (Builtin.zeroCells b.cells m++Builtin.zeroCells b.cells (grownCap w m 0 e-m)) e)):=by
  simp[execOp,Y,resolve,hc,v,ha,invoke,builtin,g]
 have q:=grownCap_ge w m 0 e;rw[Dw]at d;have G:b.cells.toList.length=V.length:=S.length.symm;have eA:Builtin.zeroCells b.cells m++Builtin.zeroCells b.cells (grownCap w m 0 e-m)=((List.replicate m b.cells.toList).flatten++(Builtin.zeroCells b.cells (grownCap w m 0 e-m)).toList).toArray:=by
  rw[KP (n:=m) i (by omega)];apply Array.ext';simp
 have D:(Builtin.zeroCells b.cells m++Builtin.zeroCells b.cells (grownCap w m 0 e-m)).size=grownCap w m 0 e*P.cellsOf e:=by
  simp only[Array.size_append,size_zeroCells,i,<-B,<-Nat.add_mul];congr 1;omega
 have M:m*P.cellsOf e <= grownCap w m 0 e*P.cellsOf e:=Nat.mul_le_mul_right _ q;obtain⟨id,ρ',m1,m2,m3,m4,m5,m6⟩:=wc hR hle d (Builtin.zeroCells b.cells m++Builtin.zeroCells b.cells (grownCap w m 0 e-m)) e (0,0) (.inl rfl) (by
   simp only[length_flatten,map_replicate,sum_replicate_nat,D,<-G,Array.length_toList,i,<-B];exact M) (λj x hx=>by
   rw[eA];exact wk (dJ.rep S m) (λu hu=>by
    simp only[mem_flatten,mem_replicate]at hu;obtain⟨l,⟨_,rfl⟩,hu⟩:=hu;exact z u hu) _ j x hx) (w.drawn+1)
 exact ja r ⟨⟨.sl id 0 0 m (P.cellsOf e) m,ρ',_,_,m2,⟨_,m3,Nat.le_refl _,.inl ⟨_,rfl,q,by simp only[D];omega,grownCap_le_maxLen w m 0 e (by omega),q,λh=> .inr h⟩⟩,m1,m4,m5,m6⟩⟩
end
end Go.Ab
namespace Go.Ab
open List
open Go.RowKit (Below)
section
variable{P:Program}{w0:World}{ρ:bP}{h H:a9}{w:World}{s:bB}{a:Act}{K:zQ}{o:Oper}{Q:Exit->Act->World->Prop}
theorem uT{c:Call}{b:Builtin}{l:List Operand}(d:o.op= .call c)(f:c.callee= .builtin b)(e:c.args.toList=l):
  ∃consts,(execOp a.eval o).run P w=(builtin b c.argTypes o.type consts (l.map a.eval).toArray).run P w:=by
 have:c.args.map a.eval=(l.map a.eval).toArray:=by apply Array.ext';simp[<-e]
 refine⟨c.args.map λx=>match x with | .const _=>true|_=>false,?_⟩;simp only[execOp,d,resolve,f,Sem.run_bind,Sem.run_pure,Result.andThen_ok,invoke,this];rfl
theorem wZ{c:Call}{t:TypeId}{r:List TypeId}(a:c.argTypes.toList=t::r):c.argTypes[0]?=some t:=by
 have:c.argTypes.toList[0]?=some t:=by rw[a];rfl
 simpa using this
theorem DE{c:Call}{t:TypeId}{r:List TypeId}{x:Operand}(q:o.op= .call c)(z:c.callee= .builtin .len)(B:c.argTypes.toList=t::r)(f:c.args.toList=[x])
  (j:R w0 ρ H w) (hle:h.le H) (p:eo ρ s a)
  (b:match P.underlying t with
   | some .string=>A.pv (V.lR (aO s x)) λv=>K v h
   | some (.slice _)=>A.pv (V.aE (aO s x)) λv=>K v h
   | some (.array n _)=>K (.int .i64 n) h
   | _=>False):eh P w0 ρ h H K o a w Q:=by
 have hx:=dX p x;have d:=wZ B;have main:∀n,(Builtin.len_ c.argTypes o.type #[a.eval x]).run P w= .ok (.int .i64 n) w->(execOp a.eval o).run P w= .ok (.value (.int .i64 n)) w:=λn y=>by
  obtain⟨_,hex⟩:=uT (P:=P) (w:=w) (a:=a) q z f;rw[hex];simp[builtin,y]
 split at b
 ·rename_i g
  obtain⟨r,h1,k⟩:=aK b;unfold V.lR at h1;split at h1<;>(try (cases h1;done));rename_i l he;cases h1;rw[he]at hx;obtain⟨bs,m,u⟩:=hx;have i:l.length=bs.size:=by rw[<-u];rfl
  refine fG j hle (x:= .int .i64 l.length) (v:= .int .i64 l.length) (main _ ?_) rfl k;rw[m,i];simp[Builtin.len_,d,run_underlying g,goInt]
 ·rename_i e g
  obtain⟨r,h1,k⟩:=aK b;have fin:∀(n:Nat),r= .int .i64 n->(∃ad cp,a.eval x= .slice ad n cp)->eh P w0 ρ h H K o a w Q:=by
   rintro n rfl ⟨ad,cp,m⟩;refine fG j hle (x:= .int .i64 n) (v:= .int .i64 n) (main _ ?_) rfl k;rw[m];simp[Builtin.len_,d,run_underlying g,goInt]
  unfold V.aE at h1;split at h1<;>(try (cases h1;done))
  ·rename_i he;cases h1;rw[he]at hx;exact fin 0 rfl ⟨_,_,hx⟩
  ·rename_i he;cases h1;rw[he]at hx;obtain⟨_,hx⟩:=hx;exact fin 0 rfl ⟨_,_,hx⟩
  ·rename_i he;cases h1;rw[he]at hx;obtain⟨_,_,hx⟩:=tH hx;exact fin _ rfl ⟨_,_,hx⟩
 ·rename_i n e g
  exact fG j hle (x:= .int .i64 n) (v:= .int .i64 n) (main _ (by simp[Builtin.len_,d,run_underlying g,goInt])) rfl b
 ·exact b.elim
theorem Ph{c:Call}{t e:TypeId}{r:List TypeId}{x:Operand}(j:o.op= .call c)(l:c.callee= .builtin .cap)(m:c.argTypes.toList=t::r)(b:c.args.toList=[x])(g:P.underlying t=some (.slice e))
  (n:R w0 ρ H w) (hle:h.le H) (i:eo ρ s a) (d:A.pv (V.vI (aO s x)) λv=>K v h):eh P w0 ρ h H K o a w Q:=by
 have hx:=dX i x;have f:=wZ m;obtain⟨r,h1,p⟩:=aK d;have main:(Builtin.cap_ c.argTypes o.type #[a.eval x]).run P w= .ok (.int .i64 0) w->(execOp a.eval o).run P w= .ok (.value (.int .i64 0)) w:=λk=>by
  obtain⟨_,hex⟩:=uT (P:=P) (w:=w) (a:=a) j l b;rw[hex];simp[builtin,k]
 have fin:r= .int .i64 0->(∃ad,a.eval x= .slice ad 0 0)->eh P w0 ρ h H K o a w Q:=by
  rintro rfl ⟨ad,q⟩;refine fG n hle (x:= .int .i64 0) (v:= .int .i64 0) (main ?_) rfl p;rw[q];simp[Builtin.cap_,f,run_underlying g,goInt]
 unfold V.vI at h1;split at h1<;>(try (cases h1;done))
 ·rename_i he;cases h1;rw[he]at hx;exact fin rfl ⟨_,hx⟩
 ·rename_i he;cases h1;rw[he]at hx;obtain⟨_,hx⟩:=hx;exact fin rfl ⟨_,hx⟩
theorem G5{c:Call}{x y:Operand}{b:Builtin}{f:a7->a7->Option a7}(hb:(b= .min /\ f=V.min2) \/ (b= .max /\ f=V.max2))(q:o.op= .call c)(t:c.callee= .builtin b)(d:c.args.toList=[x,y])
  (u:R w0 ρ H w) (hle:h.le H) (p:eo ρ s a) (i:A.pv (f (aO s x) (aO s y)) λv=>K v h):eh P w0 ρ h H K o a w Q:=by
 have hx:=dX p x;have e:=dX p y;obtain⟨r,h1,z⟩:=aK i;rcases hb with⟨rfl,rfl⟩|⟨rfl,rfl⟩
 ·unfold V.min2 at h1
  split at h1<;>(try (cases h1;done));rename_i k m g n e1 l;cases h1;rw[e1]at hx;rw[l]at e;have ex:a.eval x= .int k m:=hx;have j:a.eval y= .int g n:=e;refine fG u hle (x:= .int k (if n<m then n else m)) (v:= .int k (if n<m then n else m)) ?_ rfl z;obtain⟨_,hex⟩:=uT (P:=P) (w:=w) (a:=a) q t d;rw[hex];simp[builtin,Builtin.min_,Builtin.min2,ex,j]
 ·unfold V.max2 at h1
  split at h1<;>(try (cases h1;done));rename_i k m g n e1 l;cases h1;rw[e1]at hx;rw[l]at e;have ex:a.eval x= .int k m:=hx;have j:a.eval y= .int g n:=e;refine fG u hle (x:= .int k (if n>m then n else m)) (v:= .int k (if n>m then n else m)) ?_ rfl z;obtain⟨_,hex⟩:=uT (P:=P) (w:=w) (a:=a) q t d;rw[hex];simp[builtin,Builtin.max_,Builtin.max2,ex,j]
theorem OC{c:Call}{t u e:TypeId}{x y:Operand}(ho:o.op= .call c)(hc:c.callee= .builtin .copy)(ha:c.argTypes.toList=[t,u])(C:c.args.toList=[x,y])(I:P.underlying t=some (.slice e))(D:0<P.cellsOf e)
  (J:R w0 ρ H w) (hle:h.le H) (hs:eo ρ s a) (d:A.pf h (P.cellsOf e) (aO s x) (aO s y) K):eh P w0 ρ h H K o a w Q:=by
 have hx:=dX hs x;have p:=dX hs y;have z:=wZ ha;obtain⟨i,hi⟩:∃i,P.info? e=some i:=by
  cases F:P.info? e with
  | none=>simp[Program.cellsOf,F]at D
  | some i=>exact⟨i,rfl⟩
 have Y:=kI hi;have main:∀r w',(Builtin.copy_ c.argTypes o.type #[a.eval x,a.eval y]).run P w= .ok r w'->(execOp a.eval o).run P w= .ok (.value r) w':=λr w' F=>by
  obtain⟨_,hex⟩:=uT (P:=P) (w:=w) (a:=a) ho hc C;rw[hex];simp[builtin,F]
 unfold A.pf at d;split at d
 ·exact d.elim
 ·rename_i m hm
  have k:∀(base:Option Addr)(cp n:Nat),(n=m \/ ∃l,aO s y= .str l)->a.eval x= .slice base 0 cp->∀K',K'=K->K' (.int .i64 0) h->eh P w0 ρ h H K o a w Q:=by
   rintro base cp n _ ex _ rfl hK;have hlen:∃q,(Builtin.lenOf (a.eval y)).run P w= .ok q w /\ (Builtin.firstCells i.size 0 (a.eval y)).run P w= .ok #[] w:=by
    unfold A.jR at hm;split at hm<;>(try (cases hm;done))
    ·rename_i he;rw[he]at p;have f:a.eval y= .slice none 0 0:=p;exact⟨0,by simp[f,Builtin.lenOf],by simp[f,Builtin.firstCells]⟩
    ·rename_i he;rw[he]at p;obtain⟨ad,f⟩:=p;exact⟨0,by simp[f,Builtin.lenOf],by simp[f,Builtin.firstCells,loadCells,loadCellsFrom]⟩
    ·rename_i he;rw[he]at p;obtain⟨ad,_,f⟩:=tH p;exact⟨_,by simp[f,Builtin.lenOf];rfl,by simp[f,Builtin.firstCells,loadCells,loadCellsFrom]⟩
    ·rename_i he;rw[he]at p;obtain⟨bs,f,_⟩:=p;refine⟨_,by simp[f,Builtin.lenOf];rfl,?_⟩
     simp only[f,Builtin.firstCells,Sem.run_pure];congr 1;apply Array.ext';simp
   obtain⟨q,q1,q2⟩:=hlen;refine fG J hle (x:= .int .i64 0) (v:= .int .i64 0) (main _ _ ?_) rfl hK;have h01:(ht':(c.argTypes[0]?=some t))->True:=λ_=>trivial;cases base with
   | none=>simp[Builtin.copy_,z,run_underlying I,ex,q1,q2,sizeOf,typeInfo,hi,goInt]
   | some ad=>simp[Builtin.copy_,z,run_underlying I,ex,q1,q2,sizeOf,typeInfo,hi,goInt,storeCells]
  split at d
  ·rename_i he;rw[he]at hx;exact k _ _ m (.inl rfl) hx K rfl d
  ·rename_i he;rw[he]at hx;obtain⟨_,hx⟩:=hx;exact k _ _ m (.inl rfl) hx K rfl d
  ·rename_i id g off len es cp' he
   rw[he]at hx;split at d
   ·exact d.elim
   ·rename_i cs B
    have U:∀l,aO s y≠ .str l:=λl hl=>by rw[hl]at B;simp[A.rdv]at B
    obtain⟨ad,cp,f⟩:=EN p U hm;obtain⟨vs,S,hv,h1,hf,_⟩:=Af (P:=P) J hle B p;obtain⟨id',g',off',b,dZ,fq,e1,N,e3,e4,e5,M,Z⟩:=Aw d;cases e1;have X:=hv.length;simp only[V.mf]at M;split at M<;>(try (cases M;done));rename_i W;cases M;have T:pQ b.cells cs off=b.cells.take off++cs++b.cells.drop (off+min m len*P.cellsOf e):=by unfold pQ;rw[W.1]
    rw[<-T]at Z;have j:=hf w (λ_ _ _ F=>F);rw[Y]at j;obtain⟨L,hL,E,⟨cap,ex,_⟩|⟨rfl,_,ax,ex⟩⟩:=hx
    ·obtain⟨k1,k2⟩:=zH (P:=P) J (hle id b N) e4 (qn e3) hL E (by omega) hv h1
     refine ja (v:= .int .i64 (min m len:Nat)) (main _ _ ?_) ⟨⟨.int .i64 (min m len:Nat),ρ,_,_,bP.le_refl ρ,rfl,Z,mc _ hle,Fr.bQ N,k2⟩⟩;rw[f]at j;simp only[Builtin.copy_,z];simp[run_underlying I,ex,f,Builtin.lenOf,sizeOf,typeInfo,hi,goInt,j,k1]
    ·have h0:min m 0=0:=by omega
     have O:vs=[]:=eq_nil_of_length_eq_zero (by rw[S,h0,Nat.zero_mul]);subst O;have G:cs=[]:=eq_nil_of_length_eq_zero (by simpa using X);subst G;obtain⟨k1,k2⟩:=zH (P:=P) J (hle id b N) e4 (qn e3) hL E (xs:=[]) (vs:=[]) (by simp only[length_nil];omega) rfl (by simp);refine ja (v:= .int .i64 (min m 0:Nat)) (main _ _ ?_) ⟨⟨.int .i64 (min m 0:Nat),ρ,_,_,bP.le_refl ρ,rfl,Z,mc _ hle,Fr.bQ N,k2⟩⟩;rw[f]at j;simp only[Builtin.copy_,z];simp only[h0]at j;simp[run_underlying I,ex,f,Builtin.lenOf,sizeOf,typeInfo,hi,goInt,j,storeCells];rfl
  ·exact d.elim
theorem Gj{r:Option Nat}{n:Nat}{f:FuncId}{args:Array Value}{w:World}{R:Ending->World->Prop}(h:Calls P f args w R):CallsIn (WF r) n P f args w R:=by
 have h':=(callsIn_wide (n:=n)).2 h;exact⟨trivial,λcs a=>h'.2 cs (room_wide _)⟩
theorem GW{f:FuncId}{va:List Value}{args:List a7}(i:(execOp a.eval o).run P w=(callFunc f va.toArray).run P w)(g:dJ ρ args va)(k:R w0 ρ H w)(hle:h.le H)(b:AC P f args h K):
  eh P w0 ρ h H K o a w Q:=by
 rcases (b w0 ρ H w va hle k (.inl g)).1 g.BA with⟨h1,d⟩|⟨v,w',h1,⟨l,d,c⟩,_⟩
 ·intro j r n
  refine⟨λ_ _=>trivial,?_⟩;rw[Oper.semAt_eq _ _ _ j,i,h1];refine⟨λh=>(by cases h),Gj (d.mono ?_)⟩;rintro e w' ⟨v,rfl,c⟩;exact⟨v,c,rfl⟩
 ·cases d
  exact ja (i.trans h1) c
theorem OD{c:Call}{f:FuncId}(e:o.op= .call c)(g:c.callee= .value (.func f))(i:R w0 ρ H w)(hle:h.le H)(d:eo ρ s a)(b:AC P f (c.args.toList.map (aO s)) h K):eh P w0 ρ h H K o a w Q:=by
 refine GW (va:=c.args.toList.map a.eval) ?_ (xl d _) i hle b;simp only[execOp,e,resolve,g,Act.eval,Deferred.ofValue,Sem.run_bind,Sem.run_pure,Result.andThen_ok,invoke];congr 2;apply Array.ext';simp
theorem NW{c:Call}{x:Operand}(j:o.op= .call c)(k:c.callee= .value x)(m:R w0 ρ H w)(hle:h.le H)(d:eo ρ s a)(b:A.ks h (AC P) (aO s x) (c.args.toList.map (aO s)) K):eh P w0 ρ h H K o a w Q:=by
 have hx:=dX d x;unfold A.ks at b;split at b
 ·rename_i f first gX he
  rw[he]at hx;obtain⟨l,l',i,h1,g⟩:=hx;refine GW (va:=l++c.args.toList.map a.eval++l') ?_ ((h1.append (xl d _)).append g) m hle b;simp only[execOp,j,resolve,k,i,Deferred.ofValue,Sem.run_bind,Sem.run_pure,Result.andThen_ok,invoke];congr 2;apply Array.ext';simp
 ·rename_i id he
  rw[he]at hx;obtain⟨L,u,i⟩:=hx;obtain⟨l,us,f,tmps,assign,body,h1,g,p⟩:=(b w0 ρ H w (.func (.yield L.bT) #[] #[]::c.args.toList.map a.eval) hle m (.inr ⟨id,_,_,L,rfl,u,rfl,xl d _⟩)).2 rfl rfl;cases h1;intro t r n;refine⟨λ_ _=>trivial,?_⟩;rw[Oper.semAt_eq _ _ _ t];have q:(execOp a.eval o).run P w= .ok (.round L.bT f tmps assign body) w:=by
   simp only[execOp,j,resolve,k,i,Deferred.ofValue,Sem.run_bind,Sem.run_pure,Result.andThen_ok,invoke];rw[<-g];congr 2;apply Array.ext';simp
  rw[q];refine⟨λh=>(by cases h),p.1,λc cs _=>?_⟩;obtain⟨e,w',⟨v,rfl,y⟩,d⟩:=p.2 c cs (room_wide _);exact⟨.returned v,w',⟨v,y,rfl⟩,d⟩
 ·exact b.elim
end
end Go.Ab
namespace Go.Ab
open List
open Go.RowKit (Below)
theorem R.newObj{w0:World}{ρ:bP}{H:a9}{w:World}(h:R w0 ρ H w){id:Nat}(K:H id=none)(hρ:∀g,ρ id g=none){o:vM}{ob:Obj}(v:vF ρ o ob):
  R w0 (ρ.put id 0 ⟨w.heap.size,0,0,0⟩) (bQ H id (jI o)) { w with heap:=w.heap.push ob }:=by
 have hle:ρ.le (ρ.put id 0 ⟨w.heap.size,0,0,0⟩):=bP.sB _ (hρ 0);have hold:∀k o,w.heap[k]?=some o->(w.heap.push ob)[k]?=some o:=λk o hk=>by
  rw[Array.getElem?_push];have:k<w.heap.size:=(Array.getElem?_eq_some_iff.1 hk).1;rw[if_neg (by omega)];exact hk
 have t:=h.below.size;constructor
 ·exact h.below.trans ⟨rfl,rfl,rfl,by simp,λk hk=>by
   show (w.heap.push _)[k]?=_;rw[Array.getElem?_push,if_neg (by omega)]⟩
 ·obtain⟨N,k⟩:=h.fin
  refine⟨max N (id+1),λi hi=>⟨?_,λg=>?_⟩⟩
  ·rw[cQ _ _ (by omega)];exact(k i (by omega)).1
  ·rw[bP.iJ _ _ (by omega)];exact(k i (by omega)).2 g
 ·intro i b hb
  by_cases hi:i=id
  ·subst hi
   rw[dR]at hb;cases hb;refine⟨λg C=>?_,λg hi hm=>by simp[jI]at hm,λg hi g' dZ hm=>by simp[jI]at hm,λo' f=>?_⟩
   ·rw[bP.iJ]
    ·exact hρ g
    ·simp only[jI]at C;omega
   ·simp only[jI,Option.some.injEq]at f
    subst f;exact⟨rfl,_,ob,bP.kX ..,rfl,rfl,t,by show (w.heap.push _)[w.heap.size]?=_;simp,v.mono hle⟩
  ·rw[cQ _ _ hi]at hb
   have ok:=h.bT i b hb;refine⟨λg C=>?_,λg dZ hm=>?_,λg dZ g' m hm y L L' e1 c=>?_,λo f=>?_⟩
   ·rw[bP.iJ _ _ (by omega)];exact ok.qc g C
   ·obtain⟨h0,L,arr',P,fr,h1,q,G,F,E,D⟩:=ok.gen g dZ hm
    refine⟨h0,L,arr',P,fr,hle _ _ _ h1,hold _ _ q,G,F,E,λj A z a M=>?_⟩;obtain⟨u,k1,k2,k3⟩:=D j A z a M;exact⟨u,k1,k2.mono hle,k3⟩
   ·rw[bP.iJ _ _ (by omega)]at e1 c
    exact ok.align g dZ g' m hm y L L' e1 c
   ·obtain⟨h0,L,ob,h1,q,G,F,E,D⟩:=ok.obj o f
    exact⟨h0,L,ob,hle _ _ _ h1,q,G,F,hold _ _ E,D.mono hle⟩
 ·intro i j bi bj e hi d l gi p gj n Li Lj e1 c
  have s:i≠id:=λB=>by subst B;rw[dR]at hi;cases hi;simp[jI]at p
  have r:j≠id:=λB=>by subst B;rw[dR]at d;cases d;simp[jI]at n
  rw[cQ _ _ s]at hi;rw[cQ _ _ r]at d;rw[bP.iJ _ _ (by omega)]at e1 c;exact h.sep i j bi bj e hi d l gi p gj n Li Lj e1 c
 ·have lt:∀j bj,H j=some bj->bj.obj.isSome=true->∀Lj,ρ j 0=some Lj->Lj.bT<w.heap.size:=λj bj d f Lj O=>by
   obtain⟨o',x⟩:=Option.isSome_iff_exists.1 f;obtain⟨_,L,ob',h1,_,_,_,q,_⟩:=(h.bT j bj d).obj o' x;rw[O]at h1;cases h1;exact(Array.getElem?_eq_some_iff.1 q).1
  intro i j bi bj e hi d J I Li Lj e1 c;by_cases s:i=id
  ·subst s
   rw[cQ _ _ (Ne.symm e)]at d;rw[bP.kX]at e1;cases e1;rw[bP.iJ _ _ (by omega)]at c;have:=lt j bj d I Lj c;simp only;omega
  ·rw[cQ _ _ s]at hi
   rw[bP.iJ _ _ (by omega)]at e1;by_cases r:j=id
   ·subst r
    rw[bP.kX]at c;cases c;have:=lt i bi hi J Li e1;simp only;omega
   ·rw[cQ _ _ r]at d
    rw[bP.iJ _ _ (by omega)]at c;exact h.nT i j bi bj e hi d J I Li Lj e1 c
theorem R.setObj{w0:World}{ρ:bP}{H:a9}{w:World}(h:R w0 ρ H w){id:Nat}{b:fB}(d:H id=some b){o o':vM}(x:b.obj=some o){L:Loc}(G:ρ id 0=some L){ob':Obj}(C:vF ρ o' ob'):
  R w0 ρ (bQ H id { b with obj:=some o' }) { w with heap:=w.heap.setIfInBounds L.bT ob' }:=by
 obtain⟨t,L0,ob,K,T,S,Q,J,P⟩:=(h.bT id b d).obj o x;rw[G]at K;cases K;have D:L.bT<w.heap.size:=(Array.getElem?_eq_some_iff.1 J).1;have F:(w.heap.setIfInBounds L.bT ob')[L.bT]?=some ob':=by rw[Array.getElem?_setIfInBounds_self_of_lt D]
 have c:∀k,k≠L.bT->(w.heap.setIfInBounds L.bT ob')[k]?=w.heap[k]? :=λk hk=>by rw[Array.getElem?_setIfInBounds_ne (Ne.symm hk)]
 have f:∀p,p∈({ b with obj:=some o' }:fB).eE->False:=λp hm=>by
  have q:p∈b.eE:=hm;rw[t]at q;cases q
 constructor
 ·exact h.below.trans ⟨rfl,rfl,rfl,by simp,λk hk=>c k (by omega)⟩
 ·obtain⟨N,k⟩:=h.fin
  refine⟨max N (id+1),λi hi=>⟨?_,λg=>(k i (by omega)).2 g⟩⟩;rw[cQ _ _ (by omega)];exact(k i (by omega)).1
 ·intro i bi hb
  by_cases hi:i=id
  ·subst hi
   rw[dR]at hb;cases hb;refine⟨λg W=>(h.bT i b d).qc g W,λg hi hm=>(f _ hm).elim,λg hi g' dZ hm=>(f _ hm).elim,λV n=>?_⟩;simp only[Option.some.injEq]at n;subst n;exact⟨t,L,ob',G,T,S,Q,F,C⟩
  ·rw[cQ _ _ hi]at hb
   have ok:=h.bT i bi hb;refine⟨ok.qc,λg dZ hm=>?_,ok.align,λU m=>?_⟩
   ·obtain⟨h0,A,arr',e',fr,h1,u,I⟩:=ok.gen g dZ hm
    exact⟨h0,A,arr',e',fr,h1,by rw[c _ (λhx=>by rw[hx,J]at u;exact P.A3 _ _ _ (Option.some.inj u))];exact u,I⟩
   ·obtain⟨h0,A,B,h1,u,I,Z,Y,X⟩:=ok.obj U m
    have:=h.nT id i b bi (Ne.symm hi) d hb (by rw[x];rfl) (by rw[m];rfl) L A G h1;exact⟨h0,A,B,h1,u,I,Z,by rw[c _ (Ne.symm this)];exact Y,X⟩
 ·intro i j bi bj a hi e l gi s gj r Li Lj e1 v
  have z:i≠id:=λE=>by subst E;rw[dR]at hi;cases hi;exact f _ s
  have y:j≠id:=λE=>by subst E;rw[dR]at e;cases e;exact f _ r
  rw[cQ _ _ z]at hi;rw[cQ _ _ y]at e;exact h.sep i j bi bj a hi e l gi s gj r Li Lj e1 v
 ·intro i j bi bj a hi e O M Li Lj e1 v
  by_cases z:i=id
  ·subst z
   rw[cQ _ _ (Ne.symm a)]at e;exact h.nT i j b bj a d e (by rw[x];rfl) M Li Lj e1 v
  ·rw[cQ _ _ z]at hi
   by_cases y:j=id
   ·subst y
    exact h.nT i j bi b a hi d O (by rw[x];rfl) Li Lj e1 v
   ·rw[cQ _ _ y]at e
    exact h.nT i j bi bj a hi e O M Li Lj e1 v
section
variable{P:Program}{w0:World}{ρ:bP}{h H:a9}{w:World}{s:bB}{a:Act}{K:zQ}{o:Oper}{Q:Exit->Act->World->Prop}
theorem NP{t:TypeId}{x:Operand}(m:o.op= .range t x)(j:P.underlying t=some .string)(i:R w0 ρ H w)(hle:h.le H)(k:eo ρ s a)(c:A.r9 h (aO s x) K):eh P w0 ρ h H K o a w Q:=by
 have hx:=dX k x;unfold A.r9 at c;split at c
 ·rename_i l he
  rw[he]at hx;obtain⟨bs,q,n⟩:=hx;obtain⟨N,p⟩:=i.fin;obtain⟨d,hρN⟩:=p N (Nat.le_refl N);have f:h N=none:=by
   cases e:h N with
   | none=>rfl
   | some b=>have:=hle N b e;rw[d]at this;cases this
  have g:=i.newObj d hρN (o:= .iter l 0) (ob:= .stringIter bs 0) ⟨bs,rfl,n⟩
  refine ja (v:= .pointer (some ⟨w.heap.size,0,none⟩)) (w':={ w with heap:=w.heap.push (.stringIter bs 0) }) ?_
   ⟨⟨.ptr N 0 0,_,_,_,bP.sB _ (hρN 0),⟨_,bP.kX ..,Nat.le_refl _,rfl⟩,c N f,mc _ hle,Fr.fresh d,g⟩⟩
  simp[execOp,m,q,Instr.range,run_underlying j]
 ·exact c.elim
theorem OB{x:Operand}(t:o.op= .next x true)(p:R w0 ρ H w)(hle:h.le H)(D:eo ρ s a)(c:A.lM h (aO s x) K):eh P w0 ρ h H K o a w Q:=by
 have hx:=dX D x;unfold A.lM at c;split at c
 ·rename_i id he
  rw[he]at hx;split at c
  ·rename_i b hb
   split at c
   ·rename_i l pos f
    obtain⟨L,u,E,q⟩:=hx;obtain⟨F,L0,ob,r,B,z,G,k,y⟩:=(p.bT id b (hle id b hb)).obj _ f;rw[u]at r;cases r;obtain⟨bs,rfl,m⟩:=y;rw[B,z]at q;have C:l.length=bs.size:=by rw[<-m];rfl
    have g:A.rune l pos=Utf8.decode bs pos:=by unfold A.rune;rw[<-m,Array.toArray_toList]
    split at c
    ·rename_i j
     have n:=p.setObj (hle id b hb) f u (o':= .iter l (pos+(A.rune l pos).2)) (ob':= .stringIter bs (pos+(A.rune l pos).2)) ⟨bs,rfl,m⟩;have d:pos<bs.size:=by omega
     refine ja (v:= .tuple #[.bool true,.int .i64 pos,.int .i32 (A.rune l pos).1]) (w':={ w with heap:=w.heap.setIfInBounds L.bT (.stringIter bs (pos+(A.rune l pos).2)) }) ?_
      ⟨⟨.bI [.bool true,.int .i64 pos,.int .i32 (A.rune l pos).1],ρ,_,_,bP.le_refl ρ,⟨_,rfl,⟨_,_,rfl,rfl,_,_,rfl,rfl,_,_,rfl,rfl,rfl⟩⟩,c,mc _ hle,Fr.bQ hb,n⟩⟩
     have e:(getObj L.bT).run P w= .ok (.stringIter bs pos) w:=by simp[getObj,Sem.run,k]
     have i:∀ob',(setObj L.bT ob').run P w= .ok () { w with heap:=w.heap.setIfInBounds L.bT ob' }:=λob'=>by simp[setObj,Sem.run,k]
     simp[execOp,t,q,Instr.next,e,d,i,<-g,goInt]
    ·rename_i j
     have d:¬ pos<bs.size:=by omega
     have e:(getObj L.bT).run P w= .ok (.stringIter bs pos) w:=by simp[getObj,Sem.run,k]
     refine fG p hle (x:= .bI [.bool false]) (v:= .tuple #[.bool false]) ?_ ⟨_,rfl,⟨_,_,rfl,rfl,rfl⟩⟩ c;simp[execOp,t,q,Instr.next,e,d]
   ·exact c.elim
  ·exact c.elim
 ·exact c.elim
end
end Go.Ab
namespace Go.Ab
open List
open Go.RowKit (Below)
section
variable{P:Program}{w0:World}{ρ:bP}{h H:a9}{w:World}{s:bB}{a:Act}{K:zQ}{o:Oper}{Q:Exit->Act->World->Prop}
theorem KZ{z:Value}{n size:Nat}(a:z.cells.size=size)(h0:0<size):(Builtin.zeroCells z.cells n).toList=(List.replicate n z.cells.toList).flatten:=by
 have:=Aq (z:=z) (n:=n) a h0;unfold Builtin.zeroCells;rw[a]at this ⊢;rw[this]
theorem NV{c:Call}{t e:TypeId}{x:Operand}(W:o.op= .call c)(Z:c.callee= .builtin .clear)(ha:c.argTypes.toList=[t])(i:c.args.toList=[x])(B:P.underlying t=some (.slice e))(I:0<P.cellsOf e)
  (J:R w0 ρ H w) (hle:h.le H) (U:eo ρ s a) (d:A.pg h (zeroOf P e) (aO s x) K):eh P w0 ρ h H K o a w Q:=by
 have hx:=dX U x;have f:=wZ ha;have main:∀r w',(Builtin.clear_ c.argTypes o.type #[a.eval x]).run P w= .ok r w'->(execOp a.eval o).run P w= .ok (.value r) w':=λr w' X=>by
  obtain⟨_,hex⟩:=uT (P:=P) (w:=w) (a:=a) W Z i;rw[hex];simp[builtin,X]
 have nothing:∀(base:Option Addr)(n cp:Nat),(base=none \/ n=0)->a.eval x= .slice base n cp->K (.bI []) h->eh P w0 ρ h H K o a w Q:=λbase n cp hb j hK=>by
  refine fG J hle (x:= .bI []) (v:= .tuple #[]) (main _ _ ?_) ⟨[],rfl,rfl⟩ hK;rcases hb with rfl|rfl
  ·simp[Builtin.clear_,f,run_underlying B,j]
  ·cases base<;>simp[Builtin.clear_,f,run_underlying B,j]
 unfold A.pg at d;split at d
 ·exact d.elim
 ·rename_i z S
  obtain⟨it,G,m,q,T,k,hlen,C,_,_⟩:=uh (ρ:=ρ) S;have Y:=kI m;split at d
  ·rename_i he;rw[he]at hx;exact nothing none 0 0 (.inl rfl) hx d
  ·rename_i he;rw[he]at hx;obtain⟨ad,hx⟩:=hx;exact nothing (some ad) 0 0 (.inr rfl) hx d
  ·rename_i id g off len es cp he
   rw[he]at hx;split at d
   ·rename_i h0
    subst h0;obtain⟨ad,c,j⟩:=tH hx;exact nothing (some ad) 0 c (.inr rfl) j d
   ·rename_i h0
    obtain⟨O,g',off',b,dZ,fq,e1,N,e3,e4,e5,p,M⟩:=Aw d;cases e1;simp only[V.mf]at p;split at p<;>(try (cases p;done));rename_i E;cases p;have D:pQ b.cells (List.replicate len z).flatten off=b.cells.take off++(List.replicate len z).flatten++b.cells.drop (off+len*es):=by unfold pQ;rw[E.1]
    rw[<-D]at M;obtain⟨L,hL,F,⟨cap,j,_⟩|⟨rfl,_⟩⟩:=hx
    ·obtain⟨k1,k2⟩:=zH (P:=P) J (hle id b N) e4 (qn e3) hL F (xs:=(List.replicate len z).flatten) (vs:=(List.replicate len G.cells.toList).flatten) (by omega) (dJ.rep T len) (λu hu=>by
      simp only[mem_flatten,mem_replicate]at hu;obtain⟨l,⟨_,rfl⟩,hu⟩:=hu;exact k u hu)
     refine ja (v:= .tuple #[]) (main _ _ ?_) ⟨⟨.bI [],ρ,_,_,bP.le_refl ρ,⟨[],rfl,rfl⟩,M,mc _ hle,Fr.bQ N,k2⟩⟩;have y:(zeroValue e).run P w= .ok G w:=by simp[zeroValue,typeInfo,m,q]
     cases len with
     | zero=>exact absurd rfl h0
     | succ n=>simp[Builtin.clear_,f,run_underlying B,j,y,KZ C (by omega),k1]
    ·exact absurd rfl h0
  ·exact d.elim
theorem yC{id:Nat}{b:fB}{es:List (a7×a7×Nat)}{c:Nat}(g:R w0 ρ H w)(hb:H id=some b)(f:b.obj=some (.map es c)){L:Loc}(h:ρ id 0=some L):
  ∃ms,w.heap[L.bT]?=some (.map ms c) /\ fZ ρ es ms.toList:=by
 obtain⟨_,L0,ob,a,k,j,i,e,d⟩:=(g.bT id b hb).obj _ f;rw[h]at a;cases a;obtain⟨ms,rfl,hm⟩:=d;exact⟨ms,e,hm⟩
theorem zS{x:a7}{es:List (a7×a7×Nat)}{c:Nat}(hm:A.pV h x=some (es,c)):∃id b,x= .mp id /\ h id=some b /\ b.obj=some (.map es c):=by
 unfold A.pV at hm;split at hm<;>(try (cases hm;done));rename_i id;split at hm<;>(try (cases hm;done));rename_i b hb;split at hm<;>(try (cases hm;done));rename_i d c' a;cases hm;exact⟨id,b,rfl,hb,a⟩
theorem N6{x y:ByteArray}(e:x.data.toList=y.data.toList):x=y:=by
 cases x;cases y;simp only[ByteArray.mk.injEq];exact Array.ext' e
def KD.fits(kd:KD)(d:TypeDesc):Prop:=match kd with | .i=>∃k,d= .int k | .s=>d= .string | .b=>d= .bool
theorem xV{t:TypeId}{kd:KD}(hk:pP P t=some kd):∃d,P.underlying t=some d /\ kd.fits d:=by
 unfold pP at hk;split at hk<;>(try (cases hk;done))<;>cases hk
 ·rename_i k e;exact⟨_,e,k,rfl⟩
 ·rename_i e;exact⟨_,e,rfl⟩
 ·rename_i e;exact⟨_,e,rfl⟩
theorem Gt{kd:KD}{d:TypeDesc}(c:kd.fits d){x y:a7}{u v:Value}(hx:dB ρ x u)(i:dB ρ y v){r:Bool}(e:V.DR kd x y=some r):
  Instr.sameNow d u v=some r /\ (r=true->u=v /\ Instr.sameBits 10000 v u=true):=by
 unfold V.DR at e;split at e<;>(try (cases e;done))
 ·split at e<;>(try (cases e;done))
  rename_i j;subst j;cases e;obtain⟨k,rfl⟩:=c;cases hx;cases i;exact⟨by simp[Instr.sameNow],λa=>by rw[beq_iff_eq]at a;subst a;exact⟨rfl,by simp[Instr.sameBits]⟩⟩
 ·cases e
  have c:d= .string:=c;subst c;obtain⟨b,rfl,hb⟩:=hx;obtain⟨g,rfl,l⟩:=i;subst hb;subst l;have he:(b==g)=(b.data.toList==g.data.toList):=by
   rw[show (b==g)=(b.data==g.data) from rfl,Bool.eq_iff_iff,beq_iff_eq,beq_iff_eq];exact⟨λh=>by rw[h],λh=>Array.ext' h⟩
  refine⟨by simp only[Instr.sameNow];rw[he],λa=>?_⟩;have f:=a;rw[beq_iff_eq]at f;have:=N6 f;subst this;exact⟨rfl,by simp only[Instr.sameBits];rw[he];exact a⟩
 ·cases e
  have c:d= .bool:=c;subst c;cases hx;cases i;exact⟨by simp[Instr.sameNow],λa=>by rw[beq_iff_eq]at a;subst a;exact⟨rfl,by simp[Instr.sameBits]⟩⟩
theorem uo{kd:KD}{d:TypeDesc}(c:kd.fits d){k:a7}{a:Value}(hk:dB ρ k a):
  ∀{es:List (a7×a7×Nat)}{ms:List MapEntry},fZ ρ es ms->∀{i:Nat}{r:Option (Nat×a7×Nat)},V.wD kd k es i=some r ->
   match r with
   | none=>Instr.findNow d a ms i=some none
   | some (j,v,n)=>∃m e,i <= j /\ ms[j-i]?=some m /\ es[j-i]?=some e /\ e.2=(v,n) /\ Instr.findNow d a ms i=some (some (j,m.val)) /\ dB ρ v m.val /\ n=m.born /\ a=m.key /\ Instr.sameBits 10000 m.key a=true
 | [],[],_,i,r,e=>by cases e;rfl
 | x::es,m::ms,⟨h1,o,l,h⟩,i,r,e=>by
  simp only[V.wD]at e
  split at e<;>(try (cases e;done))
  ·rename_i b
   cases e
   obtain⟨k1,k2⟩:=Gt c hk h1 b
   obtain⟨k3,k4⟩:=k2 rfl
   exact⟨m,x,Nat.le_refl _,by simp,by simp,rfl,by simp[Instr.findNow,k1],o,l,k3,k4⟩
  ·rename_i b
   obtain⟨k1,_⟩:=Gt c hk h1 b
   have f:=uo c hk h e
   cases r with
   | none=>simpa[Instr.findNow,k1]using f
   | some q=>
    obtain⟨j,v,n⟩:=q
    obtain⟨g,p,z,y,w,u,t,s⟩:=f
    refine⟨g,p,by omega,?_,?_,u,by simpa[Instr.findNow,k1]using t,s⟩
    ·rw[show j-i=(j-(i+1))+1 by omega];simpa using y
    ·rw[show j-i=(j-(i+1))+1 by omega];simpa using w
theorem ts{t:TypeId}{d:TypeDesc}(c:P.underlying t=some d){kd:KD}(a:kd.fits d)(e:Bool)(v:Value):(Instr.checkKey e 10000 t v).run P w= .ok () w:=by
 have main:∀n,(Instr.checkKey e (n+1) t v).run P w= .ok () w:=λn=>by
  cases kd with
  | i=>obtain⟨k,rfl⟩:=a;simp[Instr.checkKey,run_underlying c]
  | s=>have a:d= .string:=a;subst a;simp[Instr.checkKey,run_underlying c]
  | b=>have a:d= .bool:=a;subst a;simp[Instr.checkKey,run_underlying c]
 exact main 9999
theorem uU{t:TypeId}{d:TypeDesc}(a:P.underlying t=some d){k:Value}{es:List MapEntry}{r:Option (Nat×Value)}(b:Instr.findNow d k es 0=some r):(Instr.findKey t k es).run P w= .ok r w:=by
 simp[Instr.findKey,run_underlying a,b]
theorem Gp{t:TypeId}{z:a7}(d:zeroV P t=some z):∃f,(zeroValue t).run P w= .ok f w /\ dB ρ z f:=by
 unfold zeroV at d;split at d
 ·rename_i cs j h1 h
  obtain⟨it,f,b,a,i,g,hlen,k,_,_⟩:=uh (ρ:=ρ) h1;rw[b]at h;simp only[Option.bind_some,a,Option.some.injEq]at h;subst h;cases hb:e8 P t with
  | false=>simp[hb]at d
  | true=>
   simp only[hb,cond_true,Option.some.injEq]at d;subst d;exact⟨.agg j,by simp[zeroValue,typeInfo,b,a],⟨j.toList,by simp,i,g⟩⟩
 ·rename_i c n l h1 h
  obtain⟨it,f,b,a,i,g,hlen,k,_,_⟩:=uh (ρ:=ρ) h1;cases hb:e8 P t with
  | true=>simp[hb]at d
  | false=>
   simp only[hb,cond_false,Option.some.injEq]at d;subst d;rw[b]at h;simp only[Option.bind_some,a,Option.some.injEq]at h;subst h;refine⟨f,by simp[zeroValue,typeInfo,b,a],?_⟩;have m:f.cells= #[f]:=by
    cases f with
    | agg j=>exact absurd rfl (l j)
    | _=>rfl
   rw[m]at i;obtain⟨u,us,e,h1,_⟩:=i;cases e;exact h1
 ·cases d
theorem r7{r:Nat}{ms:Array MapEntry}{c:Nat}(a:w.heap[r]?=some (.map ms c)):(getObj r).run P w= .ok (.map ms c) w:=by simp[getObj,Sem.run,a]
theorem vU{r:Nat}{ms:Array MapEntry}{c:Nat}{ob':Obj}(a:w.heap[r]?=some (.map ms c)):(setObj r ob').run P w= .ok () { w with heap:=w.heap.setIfInBounds r ob' }:=by simp[setObj,Sem.run,a]
theorem F7{x:a7}{v:Value}{es:List (a7×a7×Nat)}(d:R w0 ρ H w)(hle:h.le H)(hx:dB ρ x v)(he:A.entries h x=some es):
  (v= .map none /\ es=[]) \/ ∃r ms c,v= .map (some r) /\ w.heap[r]?=some (.map ms c) /\ fZ ρ es ms.toList:=by
 unfold A.entries at he;split at he
 ·cases he;exact .inl ⟨hx,rfl⟩
 ·split at he<;>(try (cases he;done))
  rename_i g c hm;cases he;obtain⟨id,b,rfl,hb,a⟩:=zS hm;obtain⟨L,e,rfl⟩:=hx;obtain⟨ms,h1,f⟩:=yC d (hle id b hb) a e;exact .inr ⟨L.bT,ms,c,rfl,h1,f⟩
theorem Nd{t N U:TypeId}{x i:Operand}{ok:Bool}(G:o.op= .lookup t x i ok)(D:P.underlying t=some (.map N U))(M:R w0 ρ H w)(hle:h.le H)(O:eo ρ s a)
  (F:A.pv (A.wO h (pP P N) (zeroV P U) ok (aO s x) (aO s i)) λv=>K v h):eh P w0 ρ h H K o a w Q:=by
 obtain⟨r,h1,T⟩:=aK F;have hx:=dX O x;have hi:=dX O i;unfold A.wO at h1;split at h1<;>(try (cases h1;done));rename_i kd z es I V L;obtain⟨d,k,g⟩:=xV I;obtain⟨C,z1,z2⟩:=Gp (w:=w) (ρ:=ρ) V;have fin:∀(ms:Array MapEntry)(q:Option (Nat×Value))(u:a7)(f:Value)(b:Bool),fZ ρ es ms.toList->Instr.findNow d (a.eval i) ms.toList 0=some q->(match q with|some (_,v)=>(v,true)|none=>(C,false))=(f,b)->dB ρ u f ->
   r=(bif ok then .bI [u,.bool b] else u)->((execOp a.eval o).run P w= .ok (.value (if ok then .tuple #[f,.bool b] else f)) w)->eh P w0 ρ h H K o a w Q:=λms q u f b _ _ _ hu W he=>by
  subst W;cases ok with
  | true=>exact fG M hle (x:= .bI [u,.bool b]) (v:= .tuple #[f,.bool b]) (by simpa using he) ⟨[f,.bool b],rfl,⟨_,_,rfl,hu,_,_,rfl,rfl,rfl⟩⟩ T
  | false=>exact fG M hle (x:=u) (v:=f) (by simpa using he) hu T
 have found:∀(ms:Array MapEntry),fZ ρ es ms.toList->(∀(q:Option (Nat×Value))(f:Value)(b:Bool),Instr.findNow d (a.eval i) ms.toList 0=some q->(match q with|some (_,v)=>(v,true)|none=>(C,false))=(f,b) ->
   (execOp a.eval o).run P w= .ok (.value (if ok then .tuple #[f,.bool b] else f)) w)->eh P w0 ρ h H K o a w Q:=λms p he=>by
  split at h1<;>(try (cases h1;done))
  ·rename_i j v n J
   cases h1;obtain⟨m,e,_,_,_,_,f1,f2,_⟩:=uo g hi p J;exact fin ms _ v m.val true p f1 rfl f2 rfl (he _ _ _ f1 rfl)
  ·rename_i J
   cases h1;have f1:=uo g hi p J;exact fin ms _ z C false p f1 rfl z2 rfl (he _ _ _ f1 rfl)
 rcases F7 M hle hx L with⟨B,rfl⟩|⟨r',ms,c,B,S,X⟩
 ·refine found #[] trivial λq f b y l=>?_
  have hk:=uU (P:=P) (w:=w) k y;have E:q=none:=by simpa[Instr.findNow]using y.symm
  subst E;cases l;simp[execOp,G,Instr.lookup,run_underlying D,B,ts k g,hk,z1]
 ·refine found ms X λq f b y l=>?_
  have hk:=uU (P:=P) (w:=w) k y;cases q with
  | none=>
   cases l;simp[execOp,G,Instr.lookup,run_underlying D,B,r7 S,ts k g,hk,z1]
  | some q=>
   obtain⟨j,v⟩:=q;cases l;simp[execOp,G,Instr.lookup,run_underlying D,B,r7 S,ts k g,hk]
theorem AI{x:a7}{f:List (a7×a7×Nat)->Nat->Option (List (a7×a7×Nat)×Nat×a7)}{n:zQ}{v:Value}(l:R w0 ρ H w)(hle:h.le H)(hx:dB ρ x v)(d:A.kA h x f n)
  (j:∀(r:Nat)(es g:List (a7×a7×Nat))(c c':Nat)(y:a7)(ms:Array MapEntry),v= .map (some r)->w.heap[r]?=some (.map ms c)->fZ ρ es ms.toList->f es c=some (g,c',y) ->
   ∃e:Array MapEntry,fZ ρ g e.toList /\ ∀t:(∀{u:Value},dB ρ y u->pa w0 ρ h H n u { w with heap:=w.heap.setIfInBounds r (.map e c') }),eh P w0 ρ h H K o a w Q):eh P w0 ρ h H K o a w Q:=by
 unfold A.kA at d;split at d
 ·rename_i id
  split at d
  ·rename_i b hb
   split at d
   ·rename_i es c i
    split at d
    ·rename_i g c' y p
     obtain⟨L,m,s⟩:=hx;obtain⟨ms,h1,q⟩:=yC l (hle id b hb) i m;obtain⟨e,k1,k2⟩:=j L.bT es g c c' y ms s h1 q p;refine k2 λ{u} hu=>?_;have k:=l.setObj (hle id b hb) i m (o':= .map g c') (ob':= .map e c') ⟨e,rfl,k1⟩;exact⟨⟨y,ρ,_,_,bP.le_refl ρ,hu,d,mc _ hle,Fr.bQ hb,k⟩⟩
    ·exact d.elim
   ·exact d.elim
  ·exact d.elim
 ·exact d.elim
theorem pa.undef{v:Value}{w':World}(a:pa w0 ρ h H (λ_ h=>K .undef h) v w'):pa w0 ρ h H K v w':=by
 obtain⟨x,ρ',h',H',k1,k2,k3,k4⟩:=a.ex;exact⟨⟨.undef,ρ',h',H',k1,trivial,k3,k4⟩⟩
theorem EI{u v:Value}(h:Instr.sameBits 10000 u v=true):(Instr.keyThatStays u v).run P w= .ok v w:=by
 simp[Instr.keyThatStays,h]
theorem ES{α:Type}{l:List α}{j:Nat}{m:α}(a:l[j]?=some m)(f:α->α):l.modify j f=l.set j (f m):=by
 apply ext_getElem?;intro i;rw[getElem?_modify,getElem?_set];by_cases h:j=i
 ·subst h
  have:=(List.getElem?_eq_some_iff.1 a).1;rw[getElem?_eq_getElem this]at a;simp only[Option.some.injEq]at a;simp[this,a]
 ·simp[h]
theorem modify_eq{ms:Array MapEntry}{j:Nat}{m:MapEntry}(a:ms.toList[j]?=some m)(f:MapEntry->MapEntry):(ms.modify j f).toList=ms.toList.set j (f m):=by
 rw[Array.toList_modify,ES a]
theorem Lh{t E M:TypeId}{x k v:Operand}(I:o.op= .mapUpdate t x k v)(G:P.underlying t=some (.map E M))(L:R w0 ρ H w)(hle:h.le H)(q:eo ρ s a)
  (z:A.Ib h (pP P E) (aO s x) (aO s k) (aO s v) λh=>K .undef h):eh P w0 ρ h H K o a w Q:=by
 have hx:=dX q x;have hk:=dX q k;have F:=dX q v;refine AI L hle hx z λr es N c c' y ms J p g l=>?_;unfold A.Ea at l;split at l<;>(try (cases l;done));rename_i kd B;obtain⟨d,f,b⟩:=xV B;split at l<;>(try (cases l;done))
 ·rename_i i O n j
  cases l;obtain⟨m,e,_,f1,f2,f3,f4,f5,f6,f7,f8⟩:=uo b hk g j;rw[Nat.sub_zero]at f1 f2;refine⟨ms.modify i λe=>{ e with key:=a.eval k,val:=a.eval v },?_,λC=>?_⟩
  ·rw[modify_eq f1];exact g.set i hk F (by rw[f6])
  ·refine AH (w':={ w with heap:=w.heap.setIfInBounds r (.map (ms.modify i λe=>{ e with key:=a.eval k,val:=a.eval v }) c) }) ?_ (C (u:=Go.undef) trivial).undef
   have D:ms[i]?=some m:=by simpa using f1
   simp[execOp,I,Instr.mapUpdate,run_underlying G,J,r7 p,ts f b,uU f f4,D,EI f8,vU p]
 ·rename_i j
  cases l;have f4:=uo b hk g j;refine⟨ms.push { key:=a.eval k,val:=a.eval v,born:=c },?_,λC=>?_⟩
  ·rw[Array.toList_push];exact g.append ⟨hk,F,rfl,trivial⟩
  ·refine AH (w':={ w with heap:=w.heap.setIfInBounds r (.map (ms.push { key:=a.eval k,val:=a.eval v,born:=c }) (c+1)) }) ?_ (C (u:=Go.undef) trivial).undef
   simp[execOp,I,Instr.mapUpdate,run_underlying G,J,r7 p,ts f b,uU f f4,vU p]
theorem LQ{t E L:TypeId}{x k:Operand}(I:o.op= .mapEntry t x k)(F:P.underlying t=some (.map E L))(N:R w0 ρ H w)(hle:h.le H)(G:eo ρ s a)
  (u:A.HN h (pP P E) (zeroV P L) (aO s x) (aO s k) K):eh P w0 ρ h H K o a w Q:=by
 have hx:=dX G x;have hk:=dX G k;refine AI N hle hx u λr es O c c' y ms J p g l=>?_;unfold A.DL at l;split at l<;>(try (cases l;done));rename_i kd z B M;obtain⟨d,f,b⟩:=xV B;obtain⟨q,z1,z2⟩:=Gp (w:=w) (ρ:=ρ) M;split at l<;>(try (cases l;done))
 ·rename_i i S n j
  cases l;obtain⟨m,e,_,f1,f2,f3,f4,f5,f6,f7,f8⟩:=uo b hk g j;rw[Nat.sub_zero]at f1 f2;refine⟨ms.modify i λe=>{ e with key:=a.eval k },?_,λC=>?_⟩
  ·rw[modify_eq f1];exact g.set i hk f5 (by rw[f6])
  ·refine ja (v:= .tuple #[m.val,.int .i64 m.born]) (w':={ w with heap:=w.heap.setIfInBounds r (.map (ms.modify i λe=>{ e with key:=a.eval k }) c) }) ?_ (C ⟨_,rfl,⟨_,_,rfl,f5,_,_,rfl,by rw[f6];rfl,rfl⟩⟩)
   have D:ms[i]?=some m:=by simpa using f1
   simp[execOp,I,Instr.mapEntry,run_underlying F,J,r7 p,ts f b,uU f f4,D,EI f8,vU p,goInt]
 ·rename_i j
  cases l;have f4:=uo b hk g j;refine⟨ms.push { key:=a.eval k,val:=q,born:=c },?_,λC=>?_⟩
  ·rw[Array.toList_push];exact g.append ⟨hk,z2,rfl,trivial⟩
  ·refine ja (v:= .tuple #[q,.int .i64 c]) (w':={ w with heap:=w.heap.setIfInBounds r (.map (ms.push { key:=a.eval k,val:=q,born:=c }) (c+1)) }) ?_ (C ⟨_,rfl,⟨_,_,rfl,z2,_,_,rfl,rfl,rfl⟩⟩)
   simp[execOp,I,Instr.mapEntry,run_underlying F,J,r7 p,ts f b,uU f f4,z1,vU p,goInt]
theorem KT{t B L:TypeId}{x n v:Operand}(E:o.op= .entryStore t x n v)(S:P.underlying t=some (.map B L))(F:R w0 ρ H w)(hle:h.le H)(l:eo ρ s a)
  (p:A.HM h (aO s x) (aO s n) (aO s v) λh=>K .undef h):eh P w0 ρ h H K o a w Q:=by
 have hx:=dX l x;have q:=dX l n;have D:=dX l v;refine AI F hle hx p λr es M c c' y ms J z d g=>?_;unfold A.DI at g;split at g<;>(try (cases g;done));rename_i C k he;rw[he]at q;have N:a.eval n= .int C k:=q;split at g<;>(try (cases g;done));rename_i i hi;cases g;have dZ:ms.findIdx? (λe=>(e.born:Int)==k)=some i:=by
  rw[<-hi,show ms=ms.toList.toArray from (Array.toArray_toList).symm,findIdx?_toArray];exact(d.findIdx λb=>(b:Int)==k).symm
 have j:i<ms.toList.length:=by
  obtain⟨I,_⟩:=findIdx?_eq_some_iff_getElem.1 hi;rw[<-d.length];exact I
 obtain⟨m,f1⟩:∃m,ms.toList[i]?=some m:=⟨_,getElem?_eq_getElem j⟩;have f:i<es.length:=by rw[d.length];exact j
 obtain⟨O,f2,f3,f4,f5⟩:=d.get (getElem?_eq_getElem f);rw[f1]at f2;cases f2;refine⟨ms.modify i λe=>{ e with val:=a.eval v },?_,λG=>?_⟩
 ·rw[modify_eq f1,ES (getElem?_eq_getElem f)]
  exact d.set i f3 D f5
 ·refine AH (w':={ w with heap:=w.heap.setIfInBounds r (.map (ms.modify i λe=>{ e with val:=a.eval v }) c) }) ?_ (G (u:=Go.undef) trivial).undef
  simp[execOp,E,Instr.entryStore,J,N,r7 z,asInt,asIntOf,dZ,vU z]
theorem Ni{c:Call}{t G S:TypeId}{r:List TypeId}{x k:Operand}(L:o.op= .call c)(N:c.callee= .builtin .delete)(O:c.argTypes.toList=t::r)(B:c.args.toList=[x,k])(E:P.underlying t=some (.map G S))
  (J:R w0 ρ H w) (hle:h.le H) (I:eo ρ s a) (g:A.ru h (pP P G) (aO s x) (aO s k) K):eh P w0 ρ h H K o a w Q:=by
 have hx:=dX I x;have hk:=dX I k;have z:=wZ O;have main:∀r w',(Builtin.delete_ c.argTypes o.type #[a.eval x,a.eval k]).run P w= .ok r w'->(execOp a.eval o).run P w= .ok (.value r) w':=λr w' M=>by
  obtain⟨_,hex⟩:=uT (P:=P) (w:=w) (a:=a) L N B;rw[hex];simp[builtin,M]
 unfold A.ru at g;split at g
 ·rename_i he
  rw[he]at hx;have D:a.eval x= .map none:=hx;refine fG J hle (x:= .bI []) (v:= .tuple #[]) (main _ _ ?_) ⟨[],rfl,rfl⟩ g.2;obtain⟨kd,l⟩:=Option.isSome_iff_exists.1 g.1;obtain⟨d,f,b⟩:=xV l;simp[Builtin.delete_,z,run_underlying E,D,ts f b]
 ·refine AI J hle hx g λr es T c' V y ms D C j u=>?_
  unfold A.yT at u;split at u<;>(try (cases u;done));rename_i kd l;obtain⟨d,f,b⟩:=xV l;split at u<;>(try (cases u;done))
  ·rename_i i q p
   cases u;obtain⟨U,n⟩:=q;obtain⟨m,e,_,f1,f2,f3,f4,f5,f6,f7,f8⟩:=uo b hk j p;refine⟨ms.eraseIdxIfInBounds i,?_,λF=>?_⟩
   ·rw[Array.toList_eraseIdxIfInBounds];exact j.eraseIdx i
   ·refine ja (v:= .tuple #[]) (w':={ w with heap:=w.heap.setIfInBounds r (.map (ms.eraseIdxIfInBounds i) c') }) (main _ _ ?_) (F ⟨[],rfl,rfl⟩)
    simp[Builtin.delete_,z,run_underlying E,D,r7 C,ts f b,uU f f4,vU C]
  ·rename_i p
   cases u;have f4:=uo b hk j p;refine⟨ms,j,λF=>?_⟩;refine ja (v:= .tuple #[]) (w':={ w with heap:=w.heap.setIfInBounds r (.map ms c') }) (main _ _ ?_) (F ⟨[],rfl,rfl⟩);simp[Builtin.delete_,z,run_underlying E,D,r7 C,ts f b,uU f f4,vU C]
theorem Nf{c:Call}{t k C:TypeId}{r:List TypeId}{x:Operand}(m:o.op= .call c)(q:c.callee= .builtin .len)(u:c.argTypes.toList=t::r)(b:c.args.toList=[x])(i:P.underlying t=some (.map k C))
  (j:R w0 ρ H w) (hle:h.le H) (l:eo ρ s a) (e:A.pv (A.w8 h (aO s x)) λv=>K v h):eh P w0 ρ h H K o a w Q:=by
 have hx:=dX l x;have d:=wZ u;have main:∀n,(Builtin.len_ c.argTypes o.type #[a.eval x]).run P w= .ok (.int .i64 n) w->(execOp a.eval o).run P w= .ok (.value (.int .i64 n)) w:=λn p=>by
  obtain⟨_,hex⟩:=uT (P:=P) (w:=w) (a:=a) m q b;rw[hex];simp[builtin,p]
 obtain⟨v,h1,B⟩:=aK e;unfold A.w8 at h1;split at h1<;>(try (cases h1;done));rename_i es f;cases h1;refine fG j hle (x:= .int .i64 es.length) (v:= .int .i64 es.length) (main _ ?_) rfl B;rcases F7 j hle hx f with⟨g,rfl⟩|⟨r',ms,c',g,z,y⟩
 ·simp[Builtin.len_,d,run_underlying i,g,goInt]
 ·have:=y.length
  simp[Builtin.len_,d,run_underlying i,g,goInt,r7 z];simp only[Array.length_toList]at this;omega
theorem Mw{t j m:TypeId}(k:o.op= .makeMap t none)(n:P.underlying t=some (.map j m))(i:R w0 ρ H w)(hle:h.le H)(d:A.newObj h (.map [] 0) λid h=>K (.mp id) h):eh P w0 ρ h H K o a w Q:=by
 obtain⟨N,l⟩:=i.fin;obtain⟨c,hρN⟩:=l N (Nat.le_refl N);have f:h N=none:=by
  cases e:h N with
  | none=>rfl
  | some b=>have:=hle N b e;rw[c]at this;cases this
 have g:=i.newObj c hρN (o:= .map [] 0) (ob:= .map #[] 0) ⟨#[],rfl,trivial⟩
 refine ja (v:= .map (some w.heap.size)) (w':={ w with heap:=w.heap.push (.map #[] 0) }) ?_
  ⟨⟨.mp N,_,_,_,bP.sB _ (hρN 0),⟨_,bP.kX ..,rfl⟩,d N f,mc _ hle,Fr.fresh c,g⟩⟩
 simp[execOp,k,Instr.makeMap]
theorem LO{t r B:TypeId}{x:Operand}(p:o.op= .range t x)(n:P.underlying t=some (.map r B))(k:R w0 ρ H w)(hle:h.le H)(u:eo ρ s a)(d:A.rangeMap h (aO s x) K):eh P w0 ρ h H K o a w Q:=by
 have hx:=dX u x;obtain⟨N,y⟩:=k.fin;obtain⟨f,hρN⟩:=y N (Nat.le_refl N);have j:h N=none:=by
  cases e:h N with
  | none=>rfl
  | some b=>have:=hle N b e;rw[f]at this;cases this
 unfold A.rangeMap at d;split at d
 ·rename_i he
  rw[he]at hx;have l:a.eval x= .map none:=hx;have g:=k.newObj f hρN (o:= .mapIter none 0 [] 0) (ob:= .mapIter none 0 #[] 0) rfl
  refine ja (v:= .pointer (some ⟨w.heap.size,0,none⟩)) (w':={ w with heap:=w.heap.push (.mapIter none 0 #[] 0) }) ?_
   ⟨⟨.ptr N 0 0,_,_,_,bP.sB _ (hρN 0),⟨_,bP.kX ..,Nat.le_refl _,rfl⟩,d N j,mc _ hle,Fr.fresh f,g⟩⟩
  simp[execOp,p,l,Instr.range,run_underlying n]
 ·rename_i m he
  split at d
  ·rename_i es c hm
   obtain⟨id,b,e1,hb,i⟩:=zS hm;rw[he]at e1 hx;cases e1;obtain⟨L,q,l⟩:=hx;obtain⟨ms,z,C⟩:=yC k (hle m b hb) i q;have g:=k.newObj f hρN (o:= .mapIter (some m) c [] c) (ob:= .mapIter (some L.bT) c #[] c) ⟨L,q,rfl⟩
   refine ja (v:= .pointer (some ⟨w.heap.size,0,none⟩)) (w':={ w with heap:=w.heap.push (.mapIter (some L.bT) c #[] c) }) ?_
    ⟨⟨.ptr N 0 0,_,_,_,bP.sB _ (hρN 0),⟨_,bP.kX ..,Nat.le_refl _,rfl⟩,d N j,mc _ hle,Fr.fresh f,g⟩⟩
   simp[execOp,p,l,Instr.range,run_underlying n,r7 z]
  ·exact d.elim
 ·exact d.elim
theorem GQ{h:a9}{id:Nat}{b:fB}(hb:h id=some b):Ab.bQ h id b=h:=a9.ext λi=>by
 by_cases hi:i=id
 ·subst hi;rw[dR,hb]
 ·rw[cQ _ _ hi]
theorem Mv{x:Operand}(U:o.op= .next x false)(u:R w0 ρ H w)(hle:h.le H)(hs:eo ρ s a)(f:A.oI h (aO s x) K):eh P w0 ρ h H K o a w Q:=by
 have hx:=dX hs x;unfold A.oI at f;split at f
 ·rename_i id l d
  unfold A.steps at d;split at d<;>(try (cases d;done));rename_i S he;rw[he]at hx;split at d<;>(try (cases d;done));rename_i b hb;obtain⟨L,hL,hlo,G⟩:=hx;split at d<;>(try (cases d;done))
  ·rename_i since seen last g
   cases d;obtain⟨W,L0,ob,z,O,N,q4,J,p⟩:=(u.bT _ b (hle _ b hb)).obj _ g;rw[hL]at z;cases z;have p:ob= .mapIter none since seen.toArray last:=p;subst p;rw[O,N]at G;have r:=f (b,.bI [.bool false]) (by simp);rw[GQ hb]at r;refine fG u hle (x:= .bI [.bool false]) (v:= .tuple #[.bool false]) ?_ ⟨_,rfl,⟨_,_,rfl,rfl,rfl⟩⟩ r;have D:(getObj L.bT).run P w= .ok (.mapIter none since seen.toArray last) w:=by simp[getObj,Sem.run,J]
   simp[execOp,U,G,Instr.next,D]
  ·rename_i m since seen last g
   obtain⟨W,L0,ob,z,O,N,q4,J,p⟩:=(u.bT _ b (hle _ b hb)).obj _ g;rw[hL]at z;cases z;obtain⟨I,F,p⟩:=p;subst p;rw[O,N]at G;split at d<;>(try (cases d;done));rename_i es c hm;obtain⟨idm,bm,e1,Z,q⟩:=zS hm;cases e1;obtain⟨ms,h3,h4⟩:=yC u (hle _ bm Z) q F;cases k:(es.all λe=>Nat.blt e.2.2 since)&&Nat.ble since last with
   | false=>rw[k]at d;cases d
   | true=>
    rw[k]at d;simp only[cond_true,Option.some.injEq,Prod.mk.injEq]at d;obtain⟨rfl,rfl⟩:=d;rw[Bool.and_eq_true,all_eq_true,Nat.ble_eq]at k;have hold:∀y∈ms.toList,y.born<since:=λy T=>by
     obtain⟨e,j,_,_,E⟩:=h4.mem y T;have:=k.1 e j;rw[Nat.blt_eq]at this;omega
    have t:=h4.filter λn=> !seen.contains n
    have C:(leftOf ms seen.toArray).toList=ms.toList.filter λm=> !seen.contains m.born:=by
     simp[leftOf]
    rw[<-C]at t;rcases run_next_at (P:=P) w o.type L.bT I.bT since last seen.toArray ms c J h3 hold k.2 with⟨n0,i⟩|⟨y,T,M,B,i⟩
    ·have V:es.filter (λe=> !seen.contains e.2.2)=[]:=by
      have:=t.length;apply eq_nil_of_length_eq_zero;rw[this];simpa using n0
     rw[V]at f;have r:=f (b,.bI [.bool false]) (by simp);rw[GQ hb]at r;refine fG u hle (x:= .bI [.bool false]) (v:= .tuple #[.bool false]) ?_ ⟨_,rfl,⟨_,_,rfl,rfl,rfl⟩⟩ r;simp[execOp,U,G,i]
    ·obtain⟨e,j,E,Y,X⟩:=t.mem y T
     have hR1:R w0 ρ H M:=by
      rcases B with rfl|rfl
      ·exact u
      ·exact u.drew _
     have q51:M.heap[L.bT]?=some (.mapIter (some I.bT) since seen.toArray last):=by rcases B with rfl|rfl<;>exact J
     have hRr:=hR1.setObj (hle _ b hb) g hL (o':= .mapIter (some m) since (seen++[e.2.2]) c) (ob':= .mapIter (some I.bT) since (seen.toArray.push y.born) c) ⟨I,F,by rw[X];simp⟩
     have r:K (.bI [.bool true,e.1,e.2.1]) (Ab.bQ h S { b with obj:=some (.mapIter (some m) since (seen++[e.2.2]) c) }):=by
      refine f ({ b with obj:=some (.mapIter (some m) since (seen++[e.2.2]) c) },.bI [.bool true,e.1,e.2.1]) ?_;split
      ·rename_i V;rw[V]at j;cases j
      ·rename_i l' hl'
       rw[mem_map];exact⟨e,j,rfl⟩
     refine ja (v:= .tuple #[.bool true,y.key,y.val]) (w':=ChangeMaps.setBlock M L.bT (.mapIter (some I.bT) since (seen.toArray.push y.born) c)) ?_
      ⟨⟨.bI [.bool true,e.1,e.2.1],ρ,_,_,bP.le_refl ρ,⟨_,rfl,⟨_,_,rfl,rfl,_,_,rfl,E,_,_,rfl,Y,rfl⟩⟩,r,mc _ hle,Fr.bQ hb,hRr⟩⟩
     simp[execOp,U,G,i]
 ·exact f.elim
theorem NT{x:Operand}(I:o.op= .entry x)(t:R w0 ρ H w)(hle:h.le H)(G:eo ρ s a)(p:A.pv (A.wv h (aO s x)) λv=>K v h):eh P w0 ρ h H K o a w Q:=by
 have hx:=dX G x;obtain⟨v,h1,V⟩:=aK p;unfold A.wv at h1;split at h1<;>(try (cases h1;done));rename_i id he;rw[he]at hx;split at h1<;>(try (cases h1;done));rename_i b hb;obtain⟨L,S,M,B⟩:=hx;split at h1<;>(try (cases h1;done));rename_i m since seen last g;obtain⟨N,L0,ob,z,E,D,Y,C,j⟩:=(t.bT _ b (hle _ b hb)).obj _ g;rw[S]at z;cases z;obtain⟨X,u,j⟩:=j;subst j;rw[E,D]at B;split at h1<;>(try (cases h1;done));rename_i es c n hm J;obtain⟨idm,W,e1,r,d⟩:=zS hm;cases e1;obtain⟨ms,U,T⟩:=yC t (hle _ W r) d u;cases f:Nat.beq c last with
 | false=>rw[f]at h1;cases h1
 | true=>
  rw[f]at h1;simp only[cond_true]at h1;have q:=Nat.eq_of_beq_eq_true f;subst q;split at h1<;>(try (cases h1;done));rename_i e O;cases h1;obtain⟨y,F,k1,k2⟩:=T.find (λk=>Nat.beq k n) O;have l:ms.find? (λe=>e.born==n)=some y:=by
   rw[<-Array.find?_toList];rw[<-F];congr 1;funext m;rw[Bool.eq_iff_iff,beq_iff_eq,Nat.beq_eq]
  have i:(getObj L.bT).run P w= .ok (.mapIter (some X.bT) since seen.toArray c) w:=by simp[getObj,Sem.run,C]
  refine fG t hle (x:= .bI [e.1,e.2.1]) (v:= .tuple #[y.key,y.val]) ?_ ⟨_,rfl,⟨_,_,rfl,k1,_,_,rfl,k2,rfl⟩⟩ V;have hb:seen.toArray.back?=some n:=by simpa[Array.back?_eq_getElem?,getLast?_eq_getElem?]using J
  simp[execOp,I,B,Instr.entry,i,hb,r7 U,l]
end
end Go.Ab
namespace Go.Ab
open List
open Go.RowKit (Below)
theorem uY{p q:Prop}{b:Bool}(h:bif b then p else q):(b=true /\ p) \/ (b=false /\ q):=by
 cases b
 ·exact .inr ⟨rfl,h⟩
 ·exact .inl ⟨rfl,h⟩
section
variable{P:Program}{w0:World}{ρ:bP}{h H:a9}{w:World}{s:bB}{a:Act}{K:zQ}{o:Oper}{Q:Exit->Act->World->Prop}
theorem xT{t:TypeId}(h:Nat.beq (P.cellsOf t) 0=false):∃i,P.info? t=some i:=by
 cases a:P.info? t with
 | none=>simp[Program.cellsOf,a]at h
 | some i=>exact⟨i,rfl⟩
theorem KW{c:Call}{b:Builtin}(B:o.op= .call c)(C:c.callee= .builtin b)(D:R w0 ρ H w)(hle:h.le H)(z:eo ρ s a)
  (f:yf P b c.argTypes.toList (c.args.toList.map (aO s)) h K):eh P w0 ρ h H K o a w Q:=by
 unfold yf at f;split at f
 ·
  rename_i t r x e1 d;obtain⟨g,n,F⟩:∃g,c.args.toList=[g] /\ aO s g=x:=by
   cases l:c.args.toList with
   | nil=>rw[l]at d;cases d
   | cons y r=>rw[l]at d;simp at d;exact⟨y,by rw[d.2],d.1⟩
  subst F;split at f
  ·rename_i m;exact DE B C e1 n D hle z (by rw[m];exact f)
  ·rename_i m;exact DE B C e1 n D hle z (by rw[m];exact f)
  ·rename_i m;exact DE B C e1 n D hle z (by rw[m];exact f)
  ·rename_i m;exact Nf B C e1 n m D hle z f
  ·exact f.elim
 ·
  rename_i t x e1 d;obtain⟨g,n,rfl⟩:∃g,c.args.toList=[g] /\ aO s g=x:=by
   cases l:c.args.toList with
   | nil=>rw[l]at d;cases d
   | cons y r=>rw[l]at d;simp at d;exact⟨y,by rw[d.2],d.1⟩
  split at f
  ·rename_i e m
   obtain⟨i,j⟩:=A.tJ.1 f;rw[Nat.blt_eq]at i;exact NV B C e1 n m i D hle z j
  ·exact f.elim
 ·
  rename_i t r x k e1 d;obtain⟨g,v,n,rfl,rfl⟩:∃g v,c.args.toList=[g,v] /\ aO s g=x /\ aO s v=k:=by
   cases l:c.args.toList with
   | nil=>rw[l]at d;cases d
   | cons p r=>
    cases r with
    | nil=>rw[l]at d;simp at d
    | cons q r=>rw[l]at d;simp at d;exact⟨p,q,by rw[d.2.2],d.1,d.2.1⟩
  split at f
  ·rename_i m;exact Ni B C e1 n m D hle z f
  ·exact f.elim
 ·
  rename_i t u x y e1 d;obtain⟨g,v,n,rfl,rfl⟩:∃g v,c.args.toList=[g,v] /\ aO s g=x /\ aO s v=y:=by
   cases l:c.args.toList with
   | nil=>rw[l]at d;cases d
   | cons p r=>
    cases r with
    | nil=>rw[l]at d;simp at d
    | cons q r=>rw[l]at d;simp at d;exact⟨p,q,by rw[d.2.2],d.1,d.2.1⟩
  split at f
  ·rename_i e I m hu
   obtain⟨i,j⟩:=A.tJ.1 f;rw[Bool.and_eq_true,Bool.and_eq_true,Nat.blt_eq,Nat.beq_eq]at i;obtain⟨E,rfl,G⟩:=i;exact Nk B C (by apply Array.ext';simpa using e1) (by apply Array.ext';simpa using n) m E G D hle z j
  ·rename_i e m hu
   obtain⟨i,j⟩:=A.tJ.1 f;rw[Bool.and_eq_true]at i;exact Lm B C (by apply Array.ext';simpa using e1) (by apply Array.ext';simpa using n) m hu i.1 i.2 D hle z j
  ·rename_i e k m hu
   obtain⟨i,j⟩:=A.tJ.1 f;rw[Nat.blt_eq]at i;exact M0 B C (by apply Array.ext';simpa using e1) (by apply Array.ext';simpa using n) m hu i D hle z j
  ·exact f.elim
 ·
  rename_i t u x y e1 d;obtain⟨g,v,n,rfl,rfl⟩:∃g v,c.args.toList=[g,v] /\ aO s g=x /\ aO s v=y:=by
   cases l:c.args.toList with
   | nil=>rw[l]at d;cases d
   | cons p r=>
    cases r with
    | nil=>rw[l]at d;simp at d
    | cons q r=>rw[l]at d;simp at d;exact⟨p,q,by rw[d.2.2],d.1,d.2.1⟩
  split at f
  ·rename_i e m
   obtain⟨i,j⟩:=A.tJ.1 f;rw[Bool.and_eq_true,Nat.blt_eq,Nat.beq_eq]at i;obtain⟨_,E⟩:=i;exact OC B C e1 n m E D hle z j
  ·exact f.elim
 ·rename_i x y d
  obtain⟨g,v,n,rfl,rfl⟩:∃g v,c.args.toList=[g,v] /\ aO s g=x /\ aO s v=y:=by
   cases l:c.args.toList with
   | nil=>rw[l]at d;cases d
   | cons p r=>
    cases r with
    | nil=>rw[l]at d;simp at d
    | cons q r=>rw[l]at d;simp at d;exact⟨p,q,by rw[d.2.2],d.1,d.2.1⟩
  exact G5 (.inl ⟨rfl,rfl⟩) B C n D hle z f
 ·rename_i x y d
  obtain⟨g,v,n,rfl,rfl⟩:∃g v,c.args.toList=[g,v] /\ aO s g=x /\ aO s v=y:=by
   cases l:c.args.toList with
   | nil=>rw[l]at d;cases d
   | cons p r=>
    cases r with
    | nil=>rw[l]at d;simp at d
    | cons q r=>rw[l]at d;simp at d;exact⟨p,q,by rw[d.2.2],d.1,d.2.1⟩
  exact G5 (.inr ⟨rfl,rfl⟩) B C n D hle z f
 ·
  rename_i t r x e1 d;obtain⟨g,n,F⟩:∃g,c.args.toList=[g] /\ aO s g=x:=by
   cases l:c.args.toList with
   | nil=>rw[l]at d;cases d
   | cons y r=>rw[l]at d;simp at d;exact⟨y,by rw[d.2],d.1⟩
  subst F;split at f
  ·rename_i m;exact Ph B C e1 n m D hle z f
  ·exact f.elim
 ·exact f.elim
theorem NN(q:R w0 ρ H w)(hle:h.le H)(p:eo ρ s a)(g:fJ P (AC P) o.op s h K):eh P w0 ρ h H K o a w Q:=by
 cases j:o.op with
 | move x=>rw[j]at g;exact Hv (.inl j) q hle p g
 | assign x=>rw[j]at g;exact Hv (.inr j) q hle p g
 | pick c x y=>rw[j]at g;exact OA j q hle p g
 | alloc t=>rw[j]at g;exact NY j q hle g
 | box t x=>rw[j]at g;exact Pj j q hle p g
 | build t ps=>rw[j]at g;exact NX j q hle p g
 | buildSlice t n ps=>rw[j]at g;exact KU j q hle p g
 | load t x=>
  rw[j]at g;simp only[fJ]at g;split at g
  ·exact g.elim
  ·rename_i d B
   rcases uY g with⟨hb,g⟩|⟨hb,g⟩
   ·exact NQ j hb q hle p g
   ·exact NR j hb ⟨d,B⟩ q hle p g
 | store t x v=>
  rw[j]at g;simp only[fJ]at g;rcases uY g with⟨hb,g⟩|⟨hb,g⟩
  ·have B:∃i,P.info? t=some i:=by
    unfold e8 at hb;cases hu:P.underlying t with
    | none=>simp[hu]at hb
    | some d=>exact info_of_underlying hu
   exact Nb j B q hle p g
  ·rcases uY g with⟨A,g⟩|⟨_,g⟩
   ·exact Nc j (Nat.eq_of_beq_eq_true A) q hle p g
   ·exact g.elim
 | nilCheck x=>rw[j]at g;exact LP j q hle p g
 | binOp op t x y u=>rw[j]at g;exact Pk j q hle p g
 | unOp op t x=>rw[j]at g;exact PB j q hle p g
 | convert src dst x=>rw[j]at g;exact Mz j q hle p g
 | makeSlice t l c=>rw[j]at g;exact Lk j q hle p g
 | slice t x lo hi D=>
  rw[j]at g;simp only[fJ]at g;split at g
  ·rename_i z;exact Nj j z q hle p g
  ·rename_i e z
   rcases uY g with⟨_,g⟩|⟨hb,g⟩
   ·exact g.elim
   ·exact NU j z (xT hb) q hle p g
  ·rename_i e D z
   rcases uY g with⟨_,g⟩|⟨hb,g⟩
   ·exact g.elim
   ·split at g
    ·rename_i lo hi _
     exact Hw j z (xT hb) q hle p (.inr ⟨lo,rfl,dX p lo⟩) ⟨hi,rfl,dX p hi⟩ g
    ·rename_i hi _
     exact Hw j z (xT hb) q hle p (.inl ⟨rfl,rfl⟩) ⟨hi,rfl,dX p hi⟩ g
    ·exact g.elim
  ·exact g.elim
 | fieldAddr t x f=>
  rw[j]at g;simp only[fJ]at g;split at g
  ·rename_i fs z
   split at g
   ·rename_i fd C
    rcases uY g with⟨_,g⟩|⟨hb,g⟩
    ·exact g.elim
    ·exact Ll j z C hb q hle p g
   ·exact g.elim
  ·exact g.elim
 | field t x f=>
  rw[j]at g;simp only[fJ]at g;split at g
  ·rename_i fs z
   split at g
   ·rename_i fd C
    split at g
    ·exact g.elim
    ·rename_i d B
     exact NS j z C B q hle p g
   ·exact g.elim
  ·exact g.elim
 | indexAddr t x i=>
  rw[j]at g;simp only[fJ]at g;split at g
  ·rename_i e z
   rcases uY g with⟨_,g⟩|⟨hb,g⟩
   ·exact g.elim
   ·exact Ng j z q hle p (xT hb) g
  ·rename_i n e z
   rcases uY g with⟨_,g⟩|⟨hb,g⟩
   ·exact g.elim
   ·exact Nh j z q hle p (xT hb) g
  ·exact g.elim
 | index t x i=>
  rw[j]at g;simp only[fJ]at g;split at g
  ·rename_i z;exact LS j z q hle p g
  ·exact g.elim
 | makeFunc fn first gX=>
  rw[j]at g;cases fn with
  | func f=>exact LR j q hle p g
  | method _|methodOf _ _|via _ _ _ _|yield _=>exact g.elim
 | extract x i=>rw[j]at g;exact Mx j q hle p g
 | range t x=>
  rw[j]at g;simp only[fJ]at g;split at g
  ·rename_i z;exact NP j z q hle p g
  ·rename_i z;exact LO j z q hle p g
  ·exact g.elim
 | next x b=>
  rw[j]at g;cases b with
  | true=>exact OB j q hle p g
  | false=>exact Mv j q hle p g
 | entry x=>rw[j]at g;exact NT j q hle p g
 | makeMap t r=>
  rw[j]at g;cases r with
  | none=>
   simp only[fJ]at g;split at g
   ·rename_i z;exact Mw j z q hle g
   ·exact g.elim
  | some _=>exact g.elim
 | lookup t x i ok=>
  rw[j]at g;simp only[fJ]at g;split at g
  ·rename_i z;exact Nd j z q hle p g
  ·exact g.elim
 | mapUpdate t m k v=>
  rw[j]at g;simp only[fJ]at g;split at g
  ·rename_i z;exact Lh j z q hle p g
  ·exact g.elim
 | mapEntry t m k=>
  rw[j]at g;simp only[fJ]at g;split at g
  ·rename_i z;exact LQ j z q hle p g
  ·exact g.elim
 | entryStore t m n v=>
  rw[j]at g;simp only[fJ]at g;split at g
  ·rename_i z;exact KT j z q hle p g
  ·exact g.elim
 | call c=>
  rw[j]at g;simp only[fJ]at g;split at g
  ·rename_i f A;exact OD j A q hle p g
  ·rename_i x _ A;exact NW j A q hle p g
  ·rename_i b A;exact KW j A q hle p g
  ·exact g.elim
 | insert _ _ _ _|ready _|waits _|sliceToArrayPointer _ _|makeInterface _ _|makeChan _ _|typeAssert _ _ _ _|go _|defer _|panic _|send _ _|recv _ _ _|select _ _=>rw[j]at g;exact g.elim
end
end Go.Ab
