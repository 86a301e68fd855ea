/- What is proved: a part of the way to the statement: AbX. No conditions. -/
import Derived.Test.YtneeejngeoaaoaaQ2
import Derived.Carry
import Derived.SizedLaws
import Derived.JoinedOf
import Derived.ProofKit
import Derived.Test.YtneeejngeoaaoaaQ3
set_option linter.unusedVariables false
set_option linter.unusedSimpArgs false
namespace Go.Ab
open List
open Go.RowKit (Below)
inductive Ty where
 | b
 | i (k:IntKind)
 | s
 | sl (bytes es:Nat) (e:Ty)
 | st (fs:List Ty)
def joinT:List (Option Ty)->Option (List Ty)
 | []=>some []
 | some l::r=>match joinT r with|some m=>some (l::m)|none=>none
 | none::_=>none
def tyOf(P:Program):Nat->TypeId->Option Ty
 | 0,_=>none
 | d+1,t=>
  match P.underlying t with
  | some .bool=>bif Nat.beq (P.cellsOf t) 1 then some .b else none
  | some (.int k)=>bif Nat.beq (P.cellsOf t) 1 then some (.i k) else none
  | some .string=>bif Nat.beq (P.cellsOf t) 1 then some .s else none
  | some (.slice e)=>bif Nat.beq (P.cellsOf t) 1&&Nat.ble 1 (P.cellsOf e) then (match tyOf P d e with|some y=>some (.sl (P.bytesOf e) (P.cellsOf e) y)|none=>none) else none
  | some (.struct fs)=>bif zke P fs.toList 0==some (P.cellsOf t) then (match joinT (fs.toList.map λf=>tyOf P d f.type) with|some l=>some (.st l)|none=>none) else none
  | _=>none
def reach:Nat:=140737488351232
def roOf(cs:List za):Blk:={ cells:=cs,zia:=[(0,cs.length)],next:=1,own:=false,obj:=none }
mutual
def zii(H:zb):Ty->List za->Prop | .b,cs=>∃x,cs=[.bool x] | .i k,cs=>∃n,cs=[.int k n] /\ k.min <= n /\ n <= k.max | .s,cs=>∃l,cs=[.str l] /\ l.length <= reach | .sl bytes es e,cs=>cs=[.zeg] \/ cs=[.sz] \/ ∃id parts,cs=[.sl id 0 0 (List.length parts) es (List.length parts)] /\ H id=some (roOf (List.flatten parts)) /\ (List.length parts)*bytes <= reach /\ (∀p∈parts,zii H e p /\ p.length=es) | .st fs,cs=>zmr H fs cs
def zmr(H:zb):List Ty->List za->Prop|[],cs=>cs=[]|t::ts,cs=>∃a r,cs=a++r /\ zii H t a /\ zmr H ts r
end
mutual
theorem zii.mono{H H':zb}(hle:H.le H'):∀(t:Ty)(cs:List za),zii H t cs->zii H' t cs | .b,_,h=>h | .i _,_,h=>h | .s,_,h=>h | .sl _ _ _,_,.inl h=> .inl h | .sl _ _ _,_,.inr (.inl h)=> .inr (.inl h) | .sl _ _ e,_,.inr (.inr ⟨id,parts,h1,h2,h3,h4⟩)=> .inr (.inr ⟨id,parts,h1,hle _ _ h2,h3,λp hp=>⟨zii.mono hle e p (h4 p hp).1,(h4 p hp).2⟩⟩) | .st fs,cs,h=>zmr.mono hle fs cs h
theorem zmr.mono{H H':zb}(hle:H.le H'):∀(ts:List Ty)(cs:List za),zmr H ts cs->zmr H' ts cs|[],_,h=>h|t::ts,_,⟨a,r,e,h1,h2⟩=>⟨a,r,e,zii.mono hle t a h1,zmr.mono hle ts r h2⟩
end
structure RO(W:World)(ρ:zdr)(H:zb):Prop where
 rel:R W ρ H W
 ro:∀id b,H id=some b->b.own=false /\ b.obj=none
theorem RO.start(W:World):RO W (λ_ _=>none) zb.empty where
 rel:={ below:=Below.refl _ _,fin:=⟨0,λ_ _=>⟨rfl,λ_=>rfl⟩⟩,blk:=λ_ _ h=>(by cases h),sep:=λ_ _ _ _ _ h=>(by cases h),osep:=λ_ _ _ _ _ h=>(by cases h) }
 ro:=λ_ _ h=>(by cases h)
theorem RO.add{W:World}{ρ:zdr}{H:zb}(h:RO W ρ H){blk base:Nat}{arr:Array Value}{ty:TypeId}{fr:Nat×Nat}(hat:W.heap[blk]?=some (.cells arr ty fr)){cs:List za}{l:List Value}(hv:zd0 ρ cs l)
  (hl:base+l.length <= arr.size) (hc:∀j u,l[j]?=some u->arr[base+j]?=some u) (h1:∀u∈l,u.oneCell'=true):
  ∃id ρ',H id=none /\ ρ.le ρ' /\ ρ' id 0=some ⟨blk,base,0,arr.size⟩ /\ RO W ρ' (upd H id (roOf cs)):=by
 obtain⟨N,hN⟩:=h.rel.fin;obtain⟨hH,hρ⟩:=hN N (Nat.le_refl N);have hle:ρ.le (ρ.put N 0 ⟨blk,base,0,arr.size⟩):=zdr.zk0 _ (hρ 0);have hlen:=hv.length;refine⟨N,ρ.put N 0 ⟨blk,base,0,arr.size⟩,hH,hle,zdr.zep ..,?_,?_⟩
 ·constructor
  ·exact h.rel.below
  ·refine⟨N+1,λi hi=>⟨?_,λg=>?_⟩⟩
   ·rw[zt _ _ (by omega)];exact(hN i (by omega)).1
   ·rw[zdr.zds _ _ (by omega)];exact(hN i (by omega)).2 g
  ·intro i b hb
   by_cases hi:i=N
   ·subst hi
    rw[zbv]at hb;cases hb;refine⟨λg hg=>?_,λg hi' hm=>?_,λg hi g' hi' hm hm' L L' e1 e2 _=>?_,λo ho=>by simp[roOf]at ho⟩
    ·simp only[roOf]at hg
     rw[zdr.zds _ _ (by omega)];exact hρ g
    ·simp only[roOf,mem_singleton,Prod.mk.injEq]at hm
     obtain⟨rfl,rfl⟩:=hm;refine⟨Nat.le_refl _,⟨blk,base,0,arr.size⟩,arr,ty,fr,zdr.zep ..,hat,rfl,by simp only;omega,λhown=>by simp[roOf]at hown,λj _ hj a ha=>?_⟩;obtain⟨u,k1,k2⟩:=hv.get ha;exact⟨u,by simpa using hc j u k1,k2.mono hle,h1 u (mem_of_getElem? k1)⟩
    ·simp only[roOf,mem_singleton,Prod.mk.injEq]at hm hm'
     obtain⟨rfl,rfl⟩:=hm;obtain⟨rfl,rfl⟩:=hm';rw[e1]at e2;cases e2;rfl
   ·rw[zt _ _ hi]at hb
    have ok:=h.rel.blk i b hb;refine⟨λg hg=>?_,λg hi' hm=>?_,λg hi' g' hi'' hm hm' L L' e1 e2=>?_,λo ho=>?_⟩
    ·rw[zdr.zds _ _ (by omega)];exact ok.nxt g hg
    ·obtain⟨h0,L,arr',e',fr',k1,k2,k3,k4,k5,k6⟩:=ok.gen g hi' hm
     refine⟨h0,L,arr',e',fr',hle _ _ _ k1,k2,k3,k4,k5,λj hj1 hj2 a ha=>?_⟩;obtain⟨u,q1,q2,q3⟩:=k6 j hj1 hj2 a ha;exact⟨u,q1,q2.mono hle,q3⟩
    ·rw[zdr.zds _ _ (by omega)]at e1 e2
     exact ok.align g hi' g' hi'' hm hm' L L' e1 e2
    ·rw[(h.ro i b hb).2]at ho;cases ho
  ·intro i j bi bj hne hi hj hown
   by_cases c:i=N
   ·subst c;rw[zbv]at hi;cases hi;simp[roOf]at hown
   ·rw[zt _ _ c]at hi;rw[(h.ro i bi hi).1]at hown;cases hown
  ·intro i j bi bj hne hi hj hob
   by_cases c:i=N
   ·subst c;rw[zbv]at hi;cases hi;simp[roOf]at hob
   ·rw[zt _ _ c]at hi;rw[(h.ro i bi hi).2]at hob;cases hob
 ·intro i b hb
  by_cases c:i=N
  ·subst c;rw[zbv]at hb;cases hb;exact⟨rfl,rfl⟩
  ·rw[zt _ _ c]at hb;exact h.ro i b hb
def Rd(W:World)(ty:Ty)(cs:List Value):Prop:=∀ρ H,RO W ρ H->∃ρ' H' acs,RO W ρ' H' /\ ρ.le ρ' /\ H.le H' /\ zd0 ρ' acs cs /\ zii H' ty acs
def Rds(W:World)(ts:List Ty)(cs:List Value):Prop:=∀ρ H,RO W ρ H->∃ρ' H' acs,RO W ρ' H' /\ ρ.le ρ' /\ H.le H' /\ zd0 ρ' acs cs /\ zmr H' ts acs
theorem Rds.nil(W:World):Rds W [] []:=λρ H h=>⟨ρ,H,[],h,zdr.le_refl ρ,zb.le_refl H,rfl,rfl⟩
theorem Rds.cons{W:World}{t:Ty}{ts:List Ty}{a r:List Value}(h1:Rd W t a)(h2:Rds W ts r):Rds W (t::ts) (a++r):=λρ H h=>by
 obtain⟨ρ1,H1,acs1,k1,k2,k3,k4,k5⟩:=h1 ρ H h
 obtain⟨ρ2,H2,acs2,m1,m2,m3,m4,m5⟩:=h2 ρ1 H1 k1
 exact⟨ρ2,H2,acs1++acs2,m1,zdr.le_trans k2 m2,zb.le_trans k3 m3,(zd0.mono m2 _ _ k4).append m4,acs1,acs2,rfl,k5.mono m3,m5⟩
theorem Rd.list{W:World}{t:Ty}:∀(css:List (List Value)),(∀cs∈css,Rd W t cs)->∀(ρ:zdr)(H:zb),RO W ρ H->∃(ρ':zdr)(H':zb)(parts:List (List za)),RO W ρ' H' /\ ρ.le ρ' /\ H.le H' /\ List.length parts=css.length /\ zd0 ρ' (List.flatten parts) css.flatten /\
  ∀(i:Nat)(p:List za)(cs:List Value),parts[i]?=some p->css[i]?=some cs->zii H' t p /\ p.length=cs.length
 | [],_,ρ,H,h=>⟨ρ,H,[],h,zdr.le_refl ρ,zb.le_refl H,rfl,rfl,λi p cs hp=>by simp at hp⟩
 | c::css,hc,ρ,H,h=>by
  obtain⟨ρ1,H1,acs1,k1,k2,k3,k4,k5⟩:=hc c (by simp) ρ H h
  obtain⟨ρ2,H2,parts,m1,m2,m3,m4,m5,m6⟩:=Rd.list css (λcs hcs=>hc cs (by simp[hcs])) ρ1 H1 k1
  refine⟨ρ2,H2,acs1::parts,m1,zdr.le_trans k2 m2,zb.le_trans k3 m3,by simp[m4],(zd0.mono m2 _ _ k4).append m5,λi p cs hp hcs=>?_⟩
  cases i with
  | zero=>simp at hp hcs;subst hp;subst hcs;exact⟨k5.mono m3,k4.length⟩
  | succ i=>simp at hp hcs;exact m6 i p cs hp hcs
section
variable{HT:Type}{enc:TypeId×Value->HT}{P:Program}{W:World}
theorem zpz{α β:Type}{f:α->Option β}:∀{l:List α}{r:List β},l.mapM f=some r->r.length=l.length /\ ∀(i:Nat)(x:α),l[i]?=some x->∃y,r[i]?=some y /\ f x=some y
 | [],r,h=>by simp at h;subst h;exact⟨rfl,λi x hx=>by simp at hx⟩
 | x::l,r,h=>by
  rw[mapM_cons]at h
  cases hf:f x with
  | none=>rw[hf]at h;cases h
  | some y=>
   cases hr:l.mapM f with
   | none=>rw[hf,hr]at h;cases h
   | some ys=>
    rw[hf,hr]at h
    cases h
    obtain⟨k1,k2⟩:=zpz hr
    refine⟨by simp[k1],λi z hz=>?_⟩
    cases i with
    | zero=>simp at hz;subst hz;exact⟨y,by simp,hf⟩
    | succ i=>simp at hz;obtain⟨w,q1,q2⟩:=k2 i z hz;exact⟨w,by simpa using q1,q2⟩
theorem zsg{a:Addr}{n:Nat}{l:List Value}(h:W.cells? 0 a n=some l):l.length=n /\ ∀j,j<n->∃u,l[j]?=some u /\ W.cell? (a.add j)=some u:=by
 unfold World.cells? at h;rw[if_pos (Nat.zero_le _)]at h;obtain⟨k1,k2⟩:=zpz h;refine⟨by simpa using k1,λj hj=>?_⟩;obtain⟨u,q1,q2⟩:=k2 j j (by simp[hj]);exact⟨u,q1,q2⟩
theorem add_add(a:Addr)(m n:Nat):(a.add m).add n=a.add (m+n):=by
 unfold Addr.add;by_cases h1:m=0
 ·subst h1;simp
 ·by_cases h2:n=0
  ·subst h2;simp[h1]
  ·rw[if_neg h2,if_neg h1,if_neg (by omega)]
   simp[Nat.add_assoc]
theorem cells_int{k:IntKind}{n:Int}(h:(Lit.int k n).wf=true):k.min <= n /\ n <= k.max:=by
 simp only[Lit.wf,Bool.and_eq_true,decide_eq_true_eq]at h;exact h
theorem zsh{a:Addr}{u:Value}(h:W.cell? a=some u):a.spot=none /\ ∃arr ty fr,W.heap[a.block]?=some (.cells arr ty fr) /\ arr[a.off]?=some u:=by
 unfold World.cell? at h;split at h
 ·rename_i c ty fr hb
  split at h
  ·cases h
  ·rename_i hs
   exact⟨by simpa using hs,c,ty,fr,hb,h⟩
 ·cases h
theorem zp5{HT:Type}{P:Program}{e:TypeId}:∀{l:List (DataW HT)}{d:DataW HT},d∈l->∀m∈d.weights P e,m∈DataW.weightsAll P e l
 | [],_,h,_,_=>by simp at h
 | x::l,d,h,m,hm=>by
  simp only[DataW.weightsAll,mem_append]
  rcases mem_cons.1 h with rfl|h
  ·exact .inl hm
  ·exact .inr (zp5 h m hm)
theorem zm7{α:Type}{n:Nat}:∀{css:List (List α)},(∀cs∈css,cs.length=n)->∀(j:Nat)(u:α),css.flatten[j]?=some u->∃i k cs,k<n /\ j=i*n+k /\ css[i]?=some cs /\ cs[k]?=some u
 | [],_,j,u,h=>by simp at h
 | c::css,hl,j,u,h=>by
  have hc:c.length=n:=hl c (by simp)
  rw[flatten_cons]at h
  by_cases hj:j<n
  ·rw[getElem?_append_left (by omega)]at h
   exact⟨0,j,c,hj,by simp,by simp,h⟩
  ·rw[getElem?_append_right (by omega)]at h
   obtain⟨i,k,cs,h1,h2,h3,h4⟩:=zm7 (λcs hcs=>hl cs (by simp[hcs])) _ u h
   refine⟨i+1,k,cs,h1,?_,by simpa using h3,h4⟩
   rw[Nat.add_mul];omega
theorem zmm{α:Type}{n:Nat}:∀{css:List (List α)},(∀cs∈css,cs.length=n)->css.flatten.length=css.length*n
 | [],_=>by simp
 | c::css,hl=>by
  have hc:c.length=n:=hl c (by simp)
  rw[flatten_cons,length_append,zmm (λcs hcs=>hl cs (by simp[hcs])),hc,length_cons,Nat.add_mul]
  omega
theorem zrb{n:Nat}(ih:∀(t:TypeId)(ty:Ty),tyOf P n t=some ty->∀(fuel:Nat)(cs:List Value)(d:DataW HT)(ps:List MemPlace),DataW.trod enc P W 0 (λ_=>true) true fuel t cs=some (d,ps) ->
  (∀m∈d.weights P t,m <= reachBytes)->Rd W ty cs /\ cs.length=P.cellsOf t /\ ∀u∈cs,u.oneCell'=true)(fuel:Nat)(cs:List Value)(e:Nat)(he:cs.length=e):
  ∀(fs:List Field)(k:Nat)(tys:List Ty)(xs:List (DataW HT×List MemPlace)),zke P fs k=some e->joinT (fs.map λf=>tyOf P n f.type)=some tys ->
   fs.mapM (λf=>DataW.trod enc P W 0 (λ_=>true) true fuel f.type ((cs.drop f.offset).take (P.cellsOf f.type)))=some xs ->
   (∀m∈DataW.weightsEach P (fs.map (·.type)) (xs.map (·.1)),m <= reachBytes)->Rds W tys (cs.drop k) /\ ∀u∈cs.drop k,u.oneCell'=true
 | [],k,tys,xs,hc,hj,hm,_=>by
  simp only[zke,Option.some.injEq]at hc;simp only[map_nil,joinT,Option.some.injEq]at hj;subst hj;rw[drop_of_length_le (by omega)];exact⟨Rds.nil W,λu hu=>by simp at hu⟩
 | f::fs,k,tys,xs,hc,hj,hm,hw=>by
  simp only[zke]at hc;split at hc
  ·rename_i hk
   subst hk;simp only[map_cons]at hj;cases ht:tyOf P n f.type with
   | none=>rw[ht]at hj;simp[joinT]at hj
   | some ty=>
    rw[ht]at hj;simp only[joinT]at hj;cases hj':joinT (fs.map λf=>tyOf P n f.type) with
    | none=>rw[hj']at hj;cases hj
    | some tys'=>
     rw[hj']at hj;cases hj;rw[mapM_cons]at hm;cases hf:DataW.trod enc P W 0 (λ_=>true) true fuel f.type ((cs.drop f.offset).take (P.cellsOf f.type)) with
     | none=>rw[hf]at hm;cases hm
     | some y=>
      rw[hf]at hm;cases hr:fs.mapM (λf=>DataW.trod enc P W 0 (λ_=>true) true fuel f.type ((cs.drop f.offset).take (P.cellsOf f.type))) with
      | none=>rw[hr]at hm;cases hm
      | some ys=>
       rw[hr]at hm;cases hm;simp only[map_cons,DataW.weightsEach,mem_append]at hw;obtain⟨d,ps⟩:=y;obtain⟨k1,k2,k3⟩:=ih f.type ty ht fuel _ d ps hf λm hm=>hw m (.inl hm);obtain⟨m1,m2⟩:=zrb ih fuel cs e he fs _ tys' ys hc hj' hr λm hm=>hw m (.inr hm);have hd:cs.drop f.offset=(cs.drop f.offset).take (P.cellsOf f.type)++cs.drop (f.offset+P.cellsOf f.type):=by
        rw[<-drop_drop,take_append_drop]
       rw[hd];refine⟨Rds.cons k1 m1,λu hu=>?_⟩;rcases mem_append.1 hu with hu|hu
       ·exact k3 u hu
       ·exact m2 u hu
  ·cases hc
 termination_by fs=>fs.length
theorem slice_read{e:TypeId}{y:Ty}{fuel:Nat}(hes:1 <= P.cellsOf e)
  (ih:∀(cs:List Value)(d:DataW HT)(ps:List MemPlace),DataW.trod enc P W 0 (λ_=>true) true fuel e cs=some (d,ps) ->
   (∀m∈d.weights P e,m <= reachBytes)->Rd W y cs /\ cs.length=P.cellsOf e /\ ∀u∈cs,u.oneCell'=true)
  {a:Addr} {len cap:Nat} (hcl:len <= cap) (hcm:cap <= maxLen) {xs ys:List (DataW HT×List MemPlace)}
  (hx:(List.range len).mapM (λi=>(W.cells? 0 (a.add (i*P.cellsOf e)) (P.cellsOf e)).bind (DataW.trod enc P W 0 (λ_=>true) true fuel e))=some xs)
  (hy:(List.range (cap-len)).mapM (λj=>(W.cells? 0 (a.add ((len+j)*P.cellsOf e)) (P.cellsOf e)).bind (DataW.trod enc P W 0 (λ_=>true) true fuel e))=some ys)
  (hw:∀m,m=(xs.length+ys.length)*P.bytesOf e \/ m∈DataW.weightsAll P e (xs.map (·.1))->m <= reachBytes):
  Rd W (.sl (P.bytesOf e) (P.cellsOf e) y) [.slice (some a) len cap]:=by
 obtain⟨x1,x2⟩:=zpz hx;obtain⟨y1,y2⟩:=zpz hy;rw[length_range]at x1 y1;have el:∀i,i<len->∃cs,Rd W y cs /\ cs.length=P.cellsOf e /\ (∀u∈cs,u.oneCell'=true) /\ ∀j,j<P.cellsOf e->∃u,cs[j]?=some u /\ W.cell? (a.add (i*P.cellsOf e+j))=some u:=λi hi=>by
  obtain⟨r,q1,q2⟩:=x2 i i (by simp[hi]);cases hc:W.cells? 0 (a.add (i*P.cellsOf e)) (P.cellsOf e) with
  | none=>rw[hc]at q2;cases q2
  | some cs=>
   rw[hc,Option.bind_some]at q2;obtain⟨k1,k2⟩:=zsg hc;obtain⟨m1,m2,m3⟩:=ih cs r.1 r.2 q2 λm hm=>hw m (.inr (zp5 (mem_map_of_mem (mem_of_getElem? q1)) m hm));refine⟨cs,m1,m2,m3,λj hj=>?_⟩;obtain⟨u,p1,p2⟩:=k2 j hj;exact⟨u,p1,by rw[<-add_add];exact p2⟩
 have cel:∀i j,i<cap->j<P.cellsOf e->∃u,W.cell? (a.add (i*P.cellsOf e+j))=some u:=λi j hi hj=>by
  by_cases hl:i<len
  ·obtain⟨cs,_,_,_,k⟩:=el i hl
   obtain⟨u,_,h⟩:=k j hj;exact⟨u,h⟩
  ·obtain⟨r,q1,q2⟩:=y2 (i-len) (i-len) (getElem?_range (by omega))
   rw[show len+(i-len)=i from by omega]at q2;cases hc:W.cells? 0 (a.add (i*P.cellsOf e)) (P.cellsOf e) with
   | none=>rw[hc]at q2;cases q2
   | some cs=>
    obtain⟨_,k2⟩:=zsg hc;obtain⟨u,p1,p2⟩:=k2 j hj;exact⟨u,by rw[<-add_add];exact p2⟩
 intro ρ H hR;by_cases hcap:cap=0
 ·subst hcap
  have:len=0:=by omega
  subst this;exact⟨ρ,H,[.sz],hR,zdr.le_refl ρ,zb.le_refl H,⟨_,_,rfl,⟨a,rfl⟩,rfl⟩,.inr (.inl rfl)⟩
 ·obtain⟨u0,hu0⟩:=cel 0 0 (by omega) (by omega)
  have ha:a.add (0*P.cellsOf e+0)=a:=by simp[Addr.add]
  rw[ha]at hu0;obtain⟨hsp,arr,ty,fr,hb,_⟩:=zsh hu0;have ad:∀n,(a.add n).block=a.block /\ (a.add n).off=a.off+n:=λn=>by unfold Addr.add;split<;>simp_all
  have inArr:∀n u,W.cell? (a.add n)=some u->arr[a.off+n]?=some u:=λn u h=>by
   obtain⟨_,arr',ty',fr',h1,h2⟩:=zsh h;rw[(ad n).1,hb]at h1;cases h1;rw[(ad n).2]at h2;exact h2
  have hend:a.off+cap*P.cellsOf e <= arr.size:=by
   obtain⟨u,hu⟩:=cel (cap-1) (P.cellsOf e-1) (by omega) (by omega);have h1:=inArr _ _ hu;have h2:=(Array.getElem?_eq_some_iff.1 h1).1;have h3:(cap-1)*P.cellsOf e+P.cellsOf e=cap*P.cellsOf e:=by rw[<-Nat.succ_mul];congr 1;omega
   omega
  have:∃css:List (List Value),css.length=len /\ ∀i cs,css[i]?=some cs->Rd W y cs /\ cs.length=P.cellsOf e /\ (∀u∈cs,u.oneCell'=true) /\ ∀j,j<P.cellsOf e->∃u,cs[j]?=some u /\ W.cell? (a.add (i*P.cellsOf e+j))=some u:=by
   have:∀m,m <= len->∃css:List (List Value),css.length=m /\ ∀i cs,css[i]?=some cs->Rd W y cs /\ cs.length=P.cellsOf e /\ (∀u∈cs,u.oneCell'=true) /\ ∀j,j<P.cellsOf e->∃u,cs[j]?=some u /\ W.cell? (a.add (i*P.cellsOf e+j))=some u:=by
    intro m
    induction m with
    | zero=>exact λ_=>⟨[],rfl,λi cs h=>by simp at h⟩
    | succ m ihm=>
     intro hm;obtain⟨css,h1,h2⟩:=ihm (by omega);obtain⟨c,hc⟩:=el m (by omega);refine⟨css++[c],by simp[h1],λi cs hi=>?_⟩;by_cases hlt:i<m
     ·rw[getElem?_append_left (by omega)]at hi;exact h2 i cs hi
     ·rw[getElem?_append_right (by omega)]at hi
      have:i=m:=by
       by_cases hh:i-css.length=0
       ·omega
       ·rw[getElem?_cons]at hi;simp[hh]at hi
      subst this;rw[h1,Nat.sub_self]at hi;simp at hi;subst hi;exact hc
   exact this len (Nat.le_refl _)
  obtain⟨css,hcl',hcs⟩:=this;have hmem:∀cs∈css,∃i:Nat,css[i]?=some cs:=λcs h=>getElem?_of_mem h;have hl1:∀cs∈css,cs.length=P.cellsOf e:=λcs h=>by obtain⟨i,hi⟩:=hmem cs h;exact(hcs i cs hi).2.1
  obtain⟨ρ1,H1,parts,k1,k2,k3,k4,k5,k6⟩:=Rd.list css (λcs h=>by obtain⟨i,hi⟩:=hmem cs h;exact(hcs i cs hi).1) ρ H hR;have hfl:=zmm hl1;obtain⟨id,ρ2,m1,m2,m3,m4⟩:=k1.add hb (base:=a.off) k5 (by
    rw[hfl,hcl'];have:=Nat.mul_le_mul_right (P.cellsOf e) hcl;omega) (λj u hj=>by
    obtain⟨i,k,cs,q1,q2,q3,q4⟩:=zm7 hl1 j u hj;obtain⟨u',p1,p2⟩:=(hcs i cs q3).2.2.2 k q1;rw[q4]at p1;cases p1;rw[q2];exact inArr _ _ p2) (λu hu=>by
    obtain⟨j,hj⟩:=getElem?_of_mem hu;obtain⟨i,k,cs,q1,q2,q3,q4⟩:=zm7 hl1 j u hj;exact(hcs i cs q3).2.2.1 u (mem_of_getElem? q4))
  refine⟨ρ2,_,[.sl id 0 0 parts.length (P.cellsOf e) parts.length],m4,zdr.le_trans k2 m2,zb.le_trans k3 (zf5 _ m1),⟨_,_,rfl,⟨_,m3,Nat.le_refl _,.inl ⟨cap,?_,by rw[k4];omega,by simpa using hend,hcm,by rw[k4];omega⟩⟩,rfl⟩,.inr (.inr ⟨id,parts,rfl,zbv ..,?_,λp hp=>?_⟩)⟩
  ·rw[k4,hcl']
   obtain⟨ab,ao,as⟩:=a;simp only at hsp;subst hsp;simp
  ·refine Nat.le_trans (Nat.mul_le_mul_right _ ?_) (hw _ (.inl rfl))
   rw[k4,hcl',x1];omega
  ·obtain⟨i,hi⟩:=getElem?_of_mem hp
   have hlt:i<css.length:=by rw[<-k4];exact(List.getElem?_eq_some_iff.1 hi).1
   obtain⟨q1,q2⟩:=k6 i p (css[i]) hi (by simp[hlt]);exact⟨q1.mono (zf5 _ m1),by rw[q2];exact hl1 _ (getElem_mem hlt)⟩
theorem zp6:∀(n:Nat)(t:TypeId)(ty:Ty),tyOf P n t=some ty->∀(fuel:Nat)(cs:List Value)(d:DataW HT)(ps:List MemPlace),DataW.trod enc P W 0 (λ_=>true) true fuel t cs=some (d,ps) ->
  (∀m∈d.weights P t,m <= reachBytes)->Rd W ty cs /\ cs.length=P.cellsOf t /\ ∀u∈cs,u.oneCell'=true
 | 0,_,_,h,_,_,_,_,_,_=>by simp[tyOf]at h
 | n+1,t,ty,h,0,_,_,_,hx,_=>by simp[DataW.trod]at hx
 | n+1,t,ty,h,fuel+1,cs,d,ps,hx,hwt=>by
  simp only[tyOf]at h
  split at h<;>(try (cases h;done))
  ·rename_i ht
   cases hc:Nat.beq (P.cellsOf t) 1 with
   | false=>rw[hc]at h;cases h
   | true=>
    rw[hc]at h
    cases h
    have hc:=Nat.eq_of_beq_eq_true hc
    unfold DataW.trod at hx
    rw[ht]at hx
    split at hx<;>simp_all
    rename_i b
    refine⟨λρ H h=>⟨ρ,H,[.bool b],h,zdr.le_refl ρ,zb.le_refl H,⟨_,_,rfl,rfl,rfl⟩,b,rfl⟩,rfl⟩
  ·rename_i k ht
   cases hc:Nat.beq (P.cellsOf t) 1 with
   | false=>rw[hc]at h;cases h
   | true=>
    rw[hc]at h
    cases h
    have hc:=Nat.eq_of_beq_eq_true hc
    unfold DataW.trod at hx
    rw[ht]at hx
    split at hx<;>simp_all
    rename_i k0 _ q _
    obtain⟨⟨rfl,hw⟩,_⟩:=hx
    refine⟨λρ H h=>⟨ρ,H,[.int _ q],h,zdr.le_refl ρ,zb.le_refl H,⟨_,_,rfl,rfl,rfl⟩,q,rfl,cells_int hw⟩,rfl⟩
  ·rename_i ht
   cases hc:Nat.beq (P.cellsOf t) 1 with
   | false=>rw[hc]at h;cases h
   | true=>
    rw[hc]at h
    cases h
    have hc:=Nat.eq_of_beq_eq_true hc
    unfold DataW.trod at hx
    rw[ht]at hx
    split at hx<;>simp_all
    rename_i s
    obtain⟨_,rfl,_⟩:=hx
    refine⟨λρ H h=>⟨ρ,H,[.str s.data.toList],h,zdr.le_refl ρ,zb.le_refl H,⟨_,_,rfl,⟨s,rfl,rfl⟩,rfl⟩,_,rfl,?_⟩,rfl⟩
    have:=hwt s.data.toList.length (by simp[DataW.weights])
    simpa[reach,reachBytes]using this
  ·rename_i e ht
   cases hc:(Nat.beq (P.cellsOf t) 1&&Nat.ble 1 (P.cellsOf e)) with
   | false=>rw[hc]at h;cases h
   | true=>
    rw[hc]at h
    cases hy:tyOf P n e with
    | none=>rw[hy]at h;cases h
    | some y=>
     rw[hy]at h
     cases h
     rw[Bool.and_eq_true]at hc
     have hc1:=Nat.eq_of_beq_eq_true hc.1
     have hc2:=Nat.le_of_ble_eq_true hc.2
     unfold DataW.trod at hx
     rw[ht]at hx
     split at hx<;>(try (cases hx;done))<;>(try (rename_i h1 _ _;cases h1;done))<;>(try (rename_i h1 _;cases h1;done))<;>(try (rename_i h1;cases h1;done))
     ·refine⟨λρ H h=>⟨ρ,H,[.zeg],h,zdr.le_refl ρ,zb.le_refl H,⟨_,_,rfl,rfl,rfl⟩,.inl rfl⟩,hc1.symm,λu hu=>?_⟩
      simp only[mem_singleton]at hu;subst hu;rfl
     ·rename_i he
      cases he
      refine⟨?_,hc1.symm,λu hu=>by simp only[mem_singleton]at hu;subst hu;rfl⟩
      simp only[Nat.zero_le,true_and,if_true]at hx
      split at hx
      ·rename_i hcc
       rw[Option.bind_eq_some_iff]at hx
       obtain⟨xs,hxs,hx⟩:=hx
       rw[Option.map_eq_some_iff]at hx
       obtain⟨ys,hys,hx⟩:=hx
       cases hx
       refine slice_read hc2 (λcs d ps h1 h2=>zp6 n e y hy fuel cs d ps h1 h2) hcc.1 hcc.2 hxs hys λm hm=>hwt m ?_
       simp only[DataW.weights,ht,mem_cons,mem_append,length_map]
       rcases hm with hm|hm
       ·exact .inl hm
       ·exact .inr (.inl hm)
      ·cases hx
  ·rename_i fs ht
   cases hc:(zke P fs.toList 0==some (P.cellsOf t)) with
   | false=>rw[hc]at h;cases h
   | true=>
    rw[hc]at h
    have hc:zke P fs.toList 0=some (P.cellsOf t):=by simpa using hc
    cases hj:joinT (fs.toList.map λf=>tyOf P n f.type) with
    | none=>rw[hj]at h;cases h
    | some tys=>
     rw[hj]at h
     cases h
     unfold DataW.trod at hx
     rw[ht]at hx
     change (if cs.length=P.cellsOf t then (fs.toList.mapM λf=>DataW.trod enc P W 0 (λ_=>true) true fuel f.type ((cs.drop f.offset).take (P.cellsOf f.type))).map λxs=>(DataW.agg (xs.map (·.1)),xs.flatMap (·.2)) else none)=some (d,ps) at hx
     split at hx
     ·rename_i hl
      rw[Option.map_eq_some_iff]at hx
      obtain⟨xs,hxs,hx⟩:=hx
      cases hx
      obtain⟨k1,k2⟩:=zrb (λt ty ht fuel cs d ps h1 h2=>zp6 n t ty ht fuel cs d ps h1 h2) fuel _ _ hl fs.toList 0 tys xs hc hj hxs (by simpa[DataW.weights,ht]using hwt)
      rw[drop_zero]at k1 k2
      exact⟨k1,hl,k2⟩
     ·cases hx
end
end Go.Ab
