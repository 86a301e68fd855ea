/- What is proved: a part of the way to the statement: AcJ. No conditions. -/
import Derived.Test.YtneeejngeoaaoaaQ3
import Derived.Test.YtneeejngeoaaoaaQ5
import Derived.KernelRfl
import Derived.Test.YtneeejngeoaaoaaQ2
import Derived.Test.YtneeejngeoaaoaaRows
set_option linter.unusedVariables false
set_option linter.unusedSimpArgs false
set_option maxRecDepth 100000
namespace Go.Ab
open List
theorem arg_slice{T:Type}{H:zb}{bytes es:Nat}{e:Ty}{v:za}(cs:T->List za)(hd:∀p,zhe H e p->∃t,p=cs t)(h:zhe H (.sl bytes es e) [v]):
  ∃L:List T,SlIs H es v (L.map cs) /\ L.length*bytes <= reach:=by
 rcases h with h|h|⟨id,parts,h1,h2,h3,h4⟩
 ·cases h;exact⟨[],SlX.zfa H es,by simp⟩
 ·cases h;exact⟨[],SlX.sz H es,by simp⟩
 ·cases h1
  have:∃L:List T,parts=L.map cs:=by
   clear h2 h3
   induction parts with
   | nil=>exact⟨[],rfl⟩
   | cons p r ih=>
    obtain⟨L,rfl⟩:=ih λq hq=>h4 q (by simp[hq]);obtain⟨t,rfl⟩:=hd p (h4 p (by simp)).1;exact⟨t::L,rfl⟩
  obtain⟨L,rfl⟩:=this;have hl:∀p∈L.map cs++[],p.length=es:=λp hp=>(h4 p (by simpa using hp)).2;have hfl:(L.map cs).flatten.length=L.length*es:=by
   have:=zml (css:=L.map cs) (n:=es) λp hp=>(h4 p hp).2;simpa using this
  refine⟨L,⟨hl,.inr ⟨id,0,0,(L.map cs).length,roOf (L.map cs).flatten,(L.map cs).flatten.length,rfl,by simp,h2,zh0 ..,?_,Nat.le_refl _,?_⟩⟩,by simpa using h3⟩
  ·rw[hfl];simp
  ·simp only[roOf,drop_zero,append_nil,length_nil,Nat.add_zero,length_map]
   rw[<-hfl,take_length]
variable{C:z3}{N:zN}
structure z8 where
 es:Nat
 bytes:Nat
 z:List za
 f:Nat
 kp:Option Nat
 ld:zb->za->(za->Prop)->Prop
 st:zb->za->za->(zb->Prop)->Prop
 eq:zb->za->za->(zQ)->Prop
section
variable(E:z8)
def zc3(bytes:Nat)(z:za)(f:Nat):z8 where
 es:=1;bytes:=bytes;z:=[z];f:=f;kp:=none
 ld:=λh p K=>B.ld h p K
 st:=λh p v K=>B.st h p v K
 eq:=λh a b K=>B.pv (V.bin .eql a b) λv=>K v h
end
variable{C:z3}{N:zN}
def aoff:za->Nat | .sl _ _ off _ _ _=>off|_=>0
structure Old(h:zb)(es:Nat)(x:za)(L:List (List za))(y:za)(M:List (List za)):Prop where
 at_:SlX h es x L []
 ft:zg6 x=none \/ (zg6 x=zg6 y /\ aoff x=aoff y)
 len:L.length <= M.length
section
variable{h H h0:zb}{es:Nat}{x:za}{L R:List (List za)}
end
section
variable{h0 h h':zb}{l:List Ob}
end
def Kp(h:zb)(p:za)(o:Option Nat):Prop:=match o with|none=>∃x,A.ldv h p=some x|some n=>∃x,A.zls h p n=some x
section
variable{es n k:Nat}{xs:Nat->za}{D R:Nat->List (List za)}
end
variable{C:z3}{N:zN}
section
variable{m:Int->Int->List za}{k n i:Nat}
end
section
variable{h:zb}{x:za}{n k:Nat}{xs:Nat->za}{W:List (List za)}(hx:SlX h 1 x (fills n λj=>[xs j]) W)
include hx
end
section
variable{E:z8}{m:Int->Int->List za}{v:Int->Int->za}{h0 h h':zb}{x v5:za}{n k:Nat}{xs ys gs:Nat->za}{len:Nat->Nat}{F:Nat->List (List za)}{W:List (List za)}{Q:zQ}
end
variable{C:z3}{N:zN}
structure Scal(T:Type)[DecidableEq T] where
 c:T->za
 cell:∀t,(c t).zd2=true
 eql:∀a b,V.bin .eql (c a) (c b)=some (.bool (decide (a=b)))
 neq:∀a b,V.bin .neq (c a) (c b)=some (.bool (!decide (a=b)))
theorem SlX.cell{h:zb}{x c:za}{L R:List (List za)}{i:Nat}(hs:SlX h 1 x L R)(hc:L[i]?=some [c]):A.ldv h (elp 1 x i 0)=some c:=by
 rw[hs.ldv hc (by omega)];rfl
section
variable{T:Type}[DecidableEq T](F:Scal T)
abbrev Scal.cs(t:T):List za:=[F.c t]
@[simp] def zl6.k2(Q:zQ)(Y1:zL)(v0 v1 v5:za)(h:zb):Prop:=B.pv (V.zd3 v0) λv13=>B.pv (V.bin .lss v5 v13) λv14=>B.cond v14 (B.pv (V.zde 1 v0 v5) λv19=>B.ld h v19 λv20=>B.pv (V.zde 1 v1 v5) λv23=>B.ld h v23 λv24=>B.pv (V.bin .neq v20 v24) λv25=>B.cond v25 (Q (.bool false) h) (B.pv (V.bin .add v5 (.int .i64 1)) λv16=>Y1 [v16] h)) (Q (.bool true) h)
@[simp] def zl6.l4(Q:zQ)(v0 v1:za):zG|[v5],h,Y1=>zl6.k2 Q Y1 v0 v1 v5 h|_,_,_=>False
def zl6(v0 v1:za)(h:zb)(Q:zQ):Prop:=B.pv (V.zd3 v0) λv7=>B.pv (V.zd3 v1) λv9=>B.pv (V.bin .neq v7 v9) λv10=>B.cond v10 (Q (.bool false) h) (zbg (zl6.l4 Q v0 v1) [(.int .i64 0)] h)
theorem zp8{x y:za}{L M:List T}{R S:List (List za)}{h:zb}{Q:zQ}(hx:SlX h 1 x (L.map F.cs) R)(hy:SlX h 1 y (M.map F.cs) S)(hlen:L.length<4611686018427387904)
  (hq:Q (.bool (decide (L=M))) h):zl6 x y h Q:=by
 have hlx:=hx.zd3;have hly:=hy.zd3;rw[length_map]at hlx hly;simp -dsimp[zl6,hlx,hly];refine B.zbx (λhb=>?_) (λhb=>?_)<;>simp -dsimp at hb ⊢
 ·rw[decide_eq_false λe=>hb (by rw[e])]at hq
  exact hq
 ·refine zbg.intro (λn vs hh=>∃k,k+n=L.length /\ vs=[.int .i64 k] /\ hh=h /\ L.take k=M.take k) L.length ?_ ⟨0,by simp,by simp,rfl,by simp⟩
  rintro Y n vs _ ⟨k,hn,rfl,rfl,he⟩ hY;simp -dsimp[hlx];refine B.zbx (λhc=>?_) (λhc=>?_)<;>simp -dsimp at hc ⊢
  ·obtain⟨w,hw⟩:=get_lt hc
   obtain⟨u,hu⟩:=get_lt (L:=M) (k:=k) (by omega);have hk:k<(L.map F.cs).length:=by simpa using hc
   have hk2:k<(M.map F.cs).length:=by simp;omega
   simp only[hx.idxN hk,hy.idxN hk2,hx.cell (get_map hw),hy.cell (get_map hu),B.zh,B.ze7,F.neq];refine B.zbx (λhd=>?_) (λhd=>?_)<;>simp -dsimp at hd ⊢
   ·rw[decide_eq_false λe=>by subst e;rw[hw]at hu;cases hu;exact hd rfl]at hq
    exact hq
   ·simp[inc64 (n:=k) (by omega)]
    refine hY (L.length-(k+1)) _ _ (by omega) ⟨k+1,by omega,by simp,rfl,?_⟩;rw[take_succ hw,take_succ hu,he,hd]
  ·rw[take_of_length_le (by omega),take_of_length_le (by omega)]at he
   rw[decide_eq_true he]at hq;exact hq
def cmarks(mk:Int->T)(n:Nat):List (List za):=(List.range n).map fun(i:Nat)=>F.cs (mk (i:Int))
@[simp] theorem cmarks_len(mk:Int->T)(n:Nat):(cmarks F mk n).length=n:=by simp[cmarks]
end
def zb.zjw(h:zb)(l:List Ob):zb:=⟨λi=>bif l.any (λo=>o.zg6==some i) then none else h i,by
 obtain⟨n,k⟩:=h.2
 refine⟨n,λi hi=>?_⟩
 show (bif l.any (λo=>o.zg6==some i) then none else h i)=none
 cases l.any (λo=>o.zg6==some i)
 ·exact k i hi
 ·rfl⟩
theorem zp1{h:zb}{l:List Ob}{i:Nat}{o:Ob}(hm:o∈l)(hf:o.zg6=some i):h.zjw l i=none:=by
 have:(l.any λo=>o.zg6==some i)=true:=any_eq_true.2 ⟨o,hm,by simp[hf]⟩;show (bif l.any (λo=>o.zg6==some i) then none else h i)=none;rw[this];rfl
theorem zlf{h:zb}{l:List Ob}{i:Nat}(hm:∀o∈l,o.zg6≠some i):h.zjw l i=h i:=by
 have:(l.any λo=>o.zg6==some i)=false:=by
  rw[<-Bool.not_eq_true,any_eq_true];rintro⟨o,h1,h2⟩;exact hm o h1 (by simpa using h2)
 show (bif l.any (λo=>o.zg6==some i) then none else h i)=_;rw[this];rfl
theorem without_le(h:zb)(l:List Ob):(h.zjw l).le h:=λi b e=>by
 by_cases hm:∃o∈l,o.zg6=some i
 ·obtain⟨o,h1,h2⟩:=hm
  rw[zp1 h1 h2]at e;cases e
 ·rw[zlf λo h1 h2=>hm ⟨o,h1,h2⟩]at e;exact e
theorem zc5.out{h0 h:zb}{l1 l2:List Ob}(ho:zc5 h0 h (l1++l2)):zc5 h0 (h.zjw l2) l1 /\ zc5 (h.zjw l2) h l2:=by
 obtain⟨a1,a2,a3⟩:=pairwise_append.1 ho.apart;have h1:h0.le (h.zjw l2):=λi b e=>by
  rw[zlf λo hm hf=>by rw[(ho.own o (mem_append_right _ hm) i hf).1]at e;cases e];exact ho.le i b e
 have ziq:∀o∈l1,∀id,o.zg6=some id->(h.zjw l2) id=h id:=λo hm id hf=>zlf λo2 hm2 hf2=>a3 o hm o2 hm2 id hf hf2
 refine⟨⟨h1,λo hm=>(ho.is o (mem_append_left _ hm)).ziq λid b hf hb=>by rw[ziq o hm id hf];exact hb,λo hm id hf=>?_,a1⟩,
  ⟨without_le h l2,λo hm=>ho.is o (mem_append_right _ hm),λo hm id hf=>⟨zp1 hm hf,(ho.own o (mem_append_right _ hm) id hf).2⟩,a2⟩⟩
 obtain⟨b1,b2⟩:=ho.own o (mem_append_left _ hm) id hf;exact⟨b1,λb hb=>b2 b (by rw[<-ziq o hm id hf];exact hb)⟩
theorem zc5.perm{h0 h:zb}{l l':List Ob}(ho:zc5 h0 h l)(hp:l.Perm l'):zc5 h0 h l':=⟨ho.le,λo hm=>ho.is o (hp.mem_iff.2 hm),λo hm=>ho.own o (hp.mem_iff.2 hm),(hp.pairwise_iff λ{a b} hab id hb ha=>hab id ha hb).1 ho.apart⟩
structure Part where
 Item:List UInt8
 Qty:Int
 deriving DecidableEq
theorem u8_eq(a b:UInt8):decide ((a.toNat:Int)=b.toNat)=decide (a=b):=by
 rw[decide_eq_decide];constructor
 ·intro h;exact UInt8.toNat_inj.1 (by omega)
 ·intro h;rw[h]
def bS:Scal UInt8 where
 c b:= .int .u8 b.toNat
 cell _:=rfl
 eql a b:=by rw[V.zin,u8_eq]
 neq a b:=by rw[V.bin_neq,u8_eq]
abbrev bc:UInt8->List za:=bS.cs
def tS:Scal (List UInt8) where
 c b:= .str b
 cell _:=rfl
 eql a b:=by rw[V.bin_seql]
 neq a b:=by rw[V.bin_sneq]
abbrev tc:List UInt8->List za:=tS.cs
def iS:Scal Int where
 c b:= .int .i64 b
 cell _:=rfl
 eql a b:=by rw[V.zin]
 neq a b:=by rw[V.bin_neq]
theorem wrap_u8(n:Int):IntKind.u8.wrap n=n % 256:=by
 simp[IntKind.wrap,IntKind.bits,IntKind.signed]
def byt(m:Int):UInt8:=UInt8.ofNat (m % 256).toNat
theorem bin_shr{k j:IntKind}{a b:Int}(h0:0 <= b)(h1:b<k.bits):V.bin .shr (.int k a) (.int j b)=some (.int k (a.fdiv (2 ^ b.toNat))):=by
 simp only[V.bin,V.shift];rw[if_neg (by omega),Nat.min_eq_left (by omega)]
theorem wrap_u64(n:Int):IntKind.u64.wrap n=n % 18446744073709551616:=by
 simp[IntKind.wrap,IntKind.bits,IntKind.signed]
theorem arg_sliceP{T:Type}{H:zb}{bytes es:Nat}{e:Ty}{v:za}(cs:T->List za)(P:T->Prop)(hd:∀p,zhe H e p->∃t,p=cs t /\ P t)(h:zhe H (.sl bytes es e) [v]):
  ∃L:List T,SlIs H es v (L.map cs) /\ L.length*bytes <= reach /\ ∀t∈L,P t:=by
 obtain⟨L,h1,h2⟩:=arg_slice (T:={ t:T // P t }) (λt=>cs t.1) (λp hp=>by obtain⟨t,e,k⟩:=hd p hp;exact⟨⟨t,k⟩,e⟩) h;refine⟨L.map (·.1),?_,by simpa using h2,λt ht=>?_⟩
 ·rw[map_map];exact h1
 ·obtain⟨u,_,rfl⟩:=mem_map.1 ht;exact u.2
def cA:Code->Code | .seq a _=>a | .cond _ a _=>a | .block _ b=>b | .loop b=>b | .scope b=>b|_=> .skip
def cB:Code->Code | .seq _ b=>b | .cond _ _ b=>b|_=> .skip
def cI:Code->Nat | .block i _=>i|_=>0
def isS:Code->Bool | .seq _ _=>true|_=>false
def isC(t:Nat):Code->Bool | .cond (.tmp k) _ _=>Nat.beq k t|_=>false
def isK:Code->Bool | .block _ _=>true|_=>false
def rA:Code->Code | .rangeFunc _ _ a b=> .seq a b|_=> .skip
def isR(t:Nat)(ps ziq:List Nat):Code->Bool | .rangeFunc (.tmp k) qs a b=>Nat.beq k t&&(znh qs.toList ps&&(zi7 a&&ziq.all λk=>zga (znw qs.toList a b) k&& !zga ps k))|_=>false
def isL:Code->Bool | .loop _=>true|_=>false
section
variable{P:Program}{C:z3}{I:Bx}
theorem eS(hC:zjm C){c:Code}{Q:Ex->zbk->zb->Prop}{s:zbk}{h:zb}(X:zbk->zb->Prop)(ha:bwp P C I (cA c) (Ex.then X Q) s h)(hb:∀s h,X s h->bwp P C I (cB c) Q s h)(hk:isS c=true:=by kernel_rfl):bwp P C I c Q s h:=by
 cases c<;>first|exact seqB hC rfl hb ha|cases hk
theorem eC{c:Code}{Q:Ex->zbk->zb->Prop}{p q:Prop}{s:zbk}{h:zb}(t:Nat)(hr:A.cond (s t) p q)(hx:p->bwp P C I (cA c) Q s h)(hy:q->bwp P C I (cB c) Q s h)(hk:isC t c=true:=by kernel_rfl):bwp P C I c Q s h:=by
 cases c with
 | cond o x y=>
  cases o with
  | tmp k=>
   have e:k=t:=Nat.eq_of_beq_eq_true hk;subst e;exact condB rfl hx hy hr
  | _=>cases hk
 | _=>cases hk
theorem eK{c:Code}{Q:Ex->zbk->zb->Prop}{s:zbk}{h:zb}(hb:bwp P C I (cA c) (Ex.inBlock (cI c) Q) s h)(hk:isK c=true:=by kernel_rfl):bwp P C I c Q s h:=by
 cases c<;>first|exact hb|cases hk
theorem eL(hC:zjm C){c:Code}{Q:Ex->zbk->zb->Prop}{s:zbk}{h:zb}(ziq live:List Nat)(G:List za->zG)
  (hr:zbg (G (ziq.map s)) (live.map s) h)
  (hG:∀(Y:zL)(s:zbk)(h:zb),G (ziq.map s) (live.map s) h Y->bwp P C I (cA c) (Ex.then (λs h=>Y (live.map s) h) Q) s h)
  (hk:isL c=true:=by kernel_rfl) (hw:(ziq.all λk=> !zga (zgd P I (cA c)) k)=true:=by kernel_rfl):bwp P C I c Q s h:=by
 cases c<;>first|exact loopB hC ziq live rfl hw hG hr|cases hk
theorem rk_nil{Q:Ex->zbk->zb->Prop}{s:zbk}:∀j h,RK [] j h->Q (unj j) s h:=λ_ _ x=>x.elim
theorem rk_cons{Q:Ex->zbk->zb->Prop}{s:zbk}{k:Nat}{p:zb->Prop}{r:List (Nat×(zb->Prop))}(h1:∀h,p h->Q (unj k) s h)(h2:∀j h,RK r j h->Q (unj j) s h):∀j h,RK ((k,p)::r) j h->Q (unj j) s h:=by
 rintro j h (⟨rfl,x⟩|x)
 ·exact h1 h x
 ·exact h2 j h x
theorem e0{q p:Prop}(hR:p)(e:q=p:=by kernel_rfl):q:=e.mpr hR
theorem natsEq_eq:∀{a b:List Nat},znh a b=true->a=b
 | [],[],_=>rfl
 | x::a,y::b,h=>by
  simp only[znh,Bool.and_eq_true]at h
  rw[Nat.eq_of_beq_eq_true h.1,natsEq_eq h.2]
theorem isR_spec{t:Nat}{ps ziq:List Nat}{c:Code}(h:isR t ps ziq c=true):∃qs a b,c= .rangeFunc (.tmp t) qs a b /\ qs.toList=ps /\ zi7 a=true /\ ∀k∈ziq,zga (znw ps a b) k=true /\ zga ps k=false:=by
 cases c<;>(try cases h);rename_i g qs a b;cases g<;>(try cases h);rename_i k;simp only[isR,Bool.and_eq_true,all_eq_true,Bool.not_eq_true']at h;obtain⟨h1,h2,h3,h4⟩:=h;have e1:=Nat.eq_of_beq_eq_true h1;have e2:=natsEq_eq h2;subst e1 e2;exact⟨qs,a,b,rfl,rfl,h3,h4⟩
theorem mem_memB:∀{l:List Nat}{k:Nat},k∈l->zga l k=true
 | x::r,k,h=>by
  simp only[zga]
  rcases mem_cons.1 h with rfl|h
  ·rw[Nat.beq_refl];rfl
  ·rw[mem_memB h];cases Nat.beq x k<;>rfl
theorem keep_setPs{ps ziq:List Nat}{a b:Code}{s:zbk}(xs:List za)(hk:∀k∈ziq,zga (znw ps a b) k=true /\ zga ps k=false):ziq.map (zkt ps xs (zpn (znw ps a b) s))=ziq.map s:=by
 refine map_congr_left λk hk'=>?_;obtain⟨h1,h2⟩:=hk k hk';rw[zlj λp hp e=>by subst e;rw[mem_memB hp]at h2;cases h2];simp only[zpn,h1,cond_true]
theorem eR1(hC:zjm C){c:Code}{Q:Ex->zbk->zb->Prop}{s:zbk}{h:zb}(t p:Nat)(ziq:List Nat)(G:List za->za->zb->(Nat->zb->Prop)->Prop){K:Nat->zb->Prop}
  (hr:znr C (s t) (W1 (G (ziq.map s))) h K) (hK:∀j h,K j h->Q (unj j) s h)
  (hW:∀(E:Nat->zb->Prop)(s:zbk)(h:zb),G (ziq.map s) (s p) h E->bwp P C I (rA c) (λe _ h2=>E (jn e) h2) s h)
  (hk:isR t [p] ziq c=true:=by kernel_rfl):bwp P C I c Q s h:=by
 obtain⟨qs,a,b,rfl,hq,h1,h2⟩:=isR_spec hk;refine rangeB hC rfl h1 hr hK λxs h E w=>?_
 match xs,w with
 | [x],w=>
  refine⟨by rw[<-Array.length_toList,hq];rfl,?_⟩;rw[hq];refine hW E _ h ?_;rw[keep_setPs [x] h2];have:zkt [p] [x] (zpn (znw [p] a b) s) p=x:=by simp only[zkt,zd9,Nat.beq_refl,cond_true]
  rw[this];exact w
theorem e1{c:Code}{Q:Ex->zbk->zb->Prop}{s:zbk}{h:zb}{p:Prop}(hR:p)(e:bwp P C I c Q s h=p:=by kernel_rfl):bwp P C I c Q s h:=e.mpr hR
theorem eF(hm:P.follows .mixedOrders=true){f:FuncId}{fn:Func}{c:Code}{I:Bx}{args:List za}{h:zb}{Q:zQ}
  (hx:zjm (AC P)→bwp P (AC P) I c (retB P I fn.results.toList (dn Q)) (zc2 args) h) (hf:P.funcs[f]? =some fn:=by kernel_rfl) (hb:fn.body=some c:=by kernel_rfl) (h1:(fn.name== "runtime.NumGoroutine")=false:=by kernel_rfl)
  (hc:zhk fn.ntmps c=true:=by kernel_rfl) (hne:Nat.beq f zjv=false:=by kernel_rfl) (hl:Nat.ble args.length fn.ntmps=true:=by kernel_rfl) (hB:Nat.ble args.length I.B=true:=by kernel_rfl) (hk:chkC P I c=true:=by kernel_rfl):AC P f args h Q:=
 AC_drop (AC_introB hm hf hb (zla hf (by rw[hb];rfl) h1) hc hne (Nat.le_of_ble_eq_true hl) (Nat.le_of_ble_eq_true hB) hk (hx (AC_cmono P)))
end
variable(C:z3)(N:Nat→Nat)
@[simp] def zcz.k1(Q:zQ)(c d:za)(h:zb):Prop:=B.call C (N 389) [c] h λb h=>B.gd h b true (λK=>K d h) λk h=>B.gd h b true (λK=>B.call C (N 389) [k] h K) λl h=>B.gd h b true (λK=>B.pv (V.un .not l) λv=>K v h) λe h=>B.pick b e (.bool false) λa=>B.gd h a false (λK=>K c h) λf h=>B.gd h a false (λK=>K d h) λg h=>B.gd h a false (λK=>B.pv (V.bin .lss f g) λv=>K v h) λi h=>B.pick a (.bool true) i λj=>Q j h
@[simp] def zcz.cps(a b:za)(h:zb)(Q:zQ):Prop:=zcz.k1 C N Q a b h
def zcz.Imp:Prop:=im2 C (N 377) (zcz.cps C N)
@[simp] def zc1.cps(C:z3)(N:zN)(a:za)(h:zb)(Q:zQ):Prop:=B.pv (V.bin .neq a a) λb=>Q b h
def zc1.Imp:Prop:=im1 C (N 389) (zc1.cps C N)
@[simp] def zc7.k1(Q:zQ)(c d:za)(h:zb):Prop:=B.call C (N 546) [c] h λb h=>B.gd h b true (λK=>K d h) λk h=>B.gd h b true (λK=>B.call C (N 546) [k] h K) λl h=>B.gd h b true (λK=>B.pv (V.un .not l) λv=>K v h) λe h=>B.pick b e (.bool false) λa=>B.gd h a false (λK=>K c h) λf h=>B.gd h a false (λK=>K d h) λg h=>B.gd h a false (λK=>B.pv (V.bin .lss f g) λv=>K v h) λi h=>B.pick a (.bool true) i λj=>Q j h
@[simp] def zc7.cps(a b:za)(h:zb)(Q:zQ):Prop:=zc7.k1 C N Q a b h
def zc7.Imp:Prop:=im2 C (N 534) (zc7.cps C N)
@[simp] def zc9.cps(C:z3)(N:zN)(a:za)(h:zb)(Q:zQ):Prop:=B.pv (V.bin .neq a a) λb=>Q b h
def zc9.Imp:Prop:=im1 C (N 546) (zc9.cps C N)
@[simp] def zdb.k3(C:z3)(N:zN)(Q:zQ)(a b:za)(h:zb):Prop:=B.pv (V.zd3 a) λd=>B.pv (V.zd3 b) λe=>B.pv (V.bin .neq d e) λc=>B.cond c (Q (.bool false) h) (zbg (zl6.l4  Q a b) [(.int .i64 0)] h)
variable(C:z3)(N:Nat→Nat)
def zdb.cps(a b:za)(h:zb)(Q:zQ):Prop:=zdb.k3 C N Q a b h
def zdb.Imp:Prop:=im2 C (N 133) (zdb.cps C N)
@[simp] def zej.k1(C:z3)(N:zN)(Q:zQ)(e a:za)(h:zb):Prop:=B.pv (V.bin .lss a (.int .i64 1)) λf=>B.cond f (Q (.int .i64 0) h) (B.pv (V.bin .rem e a) λb=>B.pv (V.bin .lss b (.int .i64 0)) λc=>B.cond c (B.pv (V.bin .add b a) λd=>Q d h) (Q b h))
@[simp] def zej.cps(a b:za)(h:zb)(Q:zQ):Prop:=zej.k1 C N Q a b h
def zej.Imp:Prop:=im2 C (N 155) (zej.cps C N)
@[simp] def zdc.k3(C:z3)(N:zN)(Q:zQ)(a b:za)(h:zb):Prop:=B.pv (V.zd3 a) λd=>B.pv (V.zd3 b) λe=>B.pv (V.bin .neq d e) λc=>B.cond c (Q (.bool false) h) (zbg (zl6.l4  Q a b) [(.int .i64 0)] h)
def zdc.cps(a b:za)(h:zb)(Q:zQ):Prop:=zdc.k3 C N Q a b h
def zdc.Imp:Prop:=im2 C (N 499) (zdc.cps C N)
variable(C:z3)(N:Nat→Nat)
@[simp] def zdo.k1(Q:zQ)(h:zb):Prop:=B.call C (N 485) [] h λc h=>B.pv (V.zfy .eql c .zj5) λo=>B.gd h o false (λK=>K c h) λv8 h=>B.gd h o false (λK=>B.zgc h (zew [(0,none,(.str [65]))] (zi9 1 [.str []])) λi h=>K (.sl i 0 0 1 1 1) h) λv9 h=>B.gd h o false (λK=>B.call C (N 489) [v8,(.int .i64 1),v9] h K) λr h=>B.gd h o false (λK=>B.pv (V.un .not r) λv=>K v h) λs h=>B.pick o (.bool true) s λl=>B.gd h l false (λK=>K c h) λt h=>B.gd h l false (λK=>B.zgc h (zew [(0,none,(.str [65])),(1,none,(.str [66]))] (zi9 2 [.str []])) λi h=>K (.sl i 0 0 2 1 2) h) λu h=>B.gd h l false (λK=>B.call C (N 489) [t,(.int .i64 2),u] h K) λw h=>B.pick l (.bool true) w λm=>B.gd h m false (λK=>K c h) λx h=>B.gd h m false (λK=>B.zgc h (zew [(0,none,(.str [66]))] (zi9 1 [.str []])) λi h=>K (.sl i 0 0 1 1 1) h) λy h=>B.gd h m false (λK=>B.call C (N 489) [x,(.int .i64 3),y] h K) λz h=>B.pick m (.bool true) z λb=>B.gd h b false (λK=>K c h) λaa h=>B.gd h b false (λK=>B.call C (N 491) [aa,(.int .i64 3)] h K) λab h=>B.gd h b false (λK=>B.zgc h (zew [(0,none,(.int .i64 2))] (zi9 1 [.int .i64 0])) λi h=>K (.sl i 0 0 1 1 1) h) λac h=>B.gd h b false (λK=>B.call C (N 499) [ab,ac] h K) λad h=>B.gd h b false (λK=>B.pv (V.un .not ad) λv=>K v h) λae h=>B.pick b (.bool true) ae λaf=>B.cond af (Q (.bool false) h) (B.call C (N 488) [c,(.int .i64 1)] h λbt h=>B.call C (N 485) [] h λa h=>B.zgc h (zew [(0,none,(.str [65]))] (zi9 1 [.str []])) λag h=>B.call C (N 489) [a,(.int .i64 1),(.sl ag 0 0 1 1 1)] h λn h=>B.gd h n true (λK=>K a h) λah h=>B.gd h n true (λK=>B.zgc h (zew [(0,none,(.str [66]))] (zi9 1 [.str []])) λi h=>K (.sl i 0 0 1 1 1) h) λai h=>B.gd h n true (λK=>B.call C (N 489) [ah,(.int .i64 2),ai] h K) λaj h=>B.pick n aj (.bool false) λd=>B.gd h d true (λK=>K a h) λak h=>B.gd h d true (λK=>B.zgc h (zew [(0,none,(.str [66]))] (zi9 1 [.str []])) λi h=>K (.sl i 0 0 1 1 1) h) λal h=>B.gd h d true (λK=>B.call C (N 489) [ak,(.int .i64 1),al] h K) λam h=>B.gd h d true (λK=>B.pv (V.un .not am) λv=>K v h) λan h=>B.pick d an (.bool false) λe=>B.gd h e true (λK=>K a h) λao h=>B.gd h e true (λK=>B.zgc h (zew [(0,none,(.str [65]))] (zi9 1 [.str []])) λi h=>K (.sl i 0 0 1 1 1) h) λap h=>B.gd h e true (λK=>B.call C (N 489) [ao,(.int .i64 2),ap] h K) λaq h=>B.gd h e true (λK=>B.pv (V.un .not aq) λv=>K v h) λar h=>B.pick e ar (.bool false) λau=>B.zgc h (zew [(0,none,(.str [66]))] (zi9 1 [.str []])) λav h=>B.call C (N 489) [c,(.int .i64 3),(.sl av 0 0 1 1 1)] h λaw h=>B.pv (V.un .not aw) λp=>B.gd h p true (λK=>K c h) λax h=>B.gd h p true (λK=>B.call C (N 489) [ax,(.int .i64 2),.zfa] h K) λay h=>B.pick p ay (.bool false) λf=>B.gd h f true (λK=>K c h) λaz h=>B.gd h f true (λK=>B.call C (N 490) [az,(.int .i64 2)] h K) λba h=>B.gd h f true (λK=>B.zgc h (zew [(0,none,(.str [65])),(1,none,(.str [66]))] (zi9 2 [.str []])) λi h=>K (.sl i 0 0 2 1 2) h) λbb h=>B.gd h f true (λK=>B.call C (N 133) [ba,bb] h K) λbc h=>B.pick f bc (.bool false) λq=>B.gd h q true (λK=>K au h) λbd h=>B.pick q bd (.bool false) λg=>B.gd h g true (λK=>K a h) λbe h=>B.gd h g true (λK=>B.call C (N 492) [be] h K) λbf h=>B.gd h g true (λK=>B.zgc h (zew [(0,none,(.int .i64 1)),(1,none,(.int .i64 2))] (zi9 2 [.int .i64 0])) λi h=>K (.sl i 0 0 2 1 2) h) λbg h=>B.gd h g true (λK=>B.call C (N 499) [bf,bg] h K) λbh h=>B.pick g bh (.bool false) λj=>B.gd h j true (λK=>K a h) λbi h=>B.gd h j true (λK=>B.zgc h (zew [(0,none,(.str [42]))] (zi9 1 [.str []])) λi h=>K (.sl i 0 0 1 1 1) h) λbj h=>B.gd h j true (λK=>B.call C (N 489) [bi,(.int .i64 4),bj] h K) λbk h=>B.gd h j true (λK=>B.pv (V.un .not bk) λv=>K v h) λbl h=>B.pick j bl (.bool false) λk=>B.gd h k true (λK=>K a h) λbm h=>B.gd h k true (λK=>B.call C (N 491) [bm,(.int .i64 4)] h K) λbn h=>B.gd h k true (λK=>B.zgc h (zew [(0,none,(.int .i64 1)),(1,none,(.int .i64 2))] (zi9 2 [.int .i64 0])) λi h=>K (.sl i 0 0 2 1 2) h) λbo h=>B.gd h k true (λK=>B.call C (N 499) [bn,bo] h K) λbp h=>B.pick k bp (.bool false) λbq=>Q bq h)
@[simp] def zdo.cps(h:zb)(Q:zQ):Prop:=zdo.k1 C N Q h
def zdo.Imp:Prop:=im0 C (N 482) (zdo.cps C N)
@[simp] def zcb.k1(C:z3)(N:zN)(Q:zQ)(Y1:zL)(Y2:zL)(e b c d:za)(h:zb):Prop:=B.pv (V.zde 3 e c) λf=>B.pv (V.fieldAddr 2 f) λg=>B.ld h g λi=>B.pv (V.zd3 i) λj=>B.pv (V.bin .lss d j) λa=>B.gd h a true (λK=>K b h) λk h=>B.gd h a true (λK=>B.pv (V.bin .leq k (.int .i64 2000)) λv=>K v h) λl h=>B.pick a l (.bool false) λm=>B.cond m (B.pv (V.bin .add b (.int .i64 1)) λn=>B.pv (V.zde 3 e c) λo=>B.pv (V.fieldAddr 2 o) λp=>B.ld h p λq=>B.pv (V.zde 1 q d) λr=>B.ld h r λs=>B.pv (V.zo7 s) λt=>B.pv (V.bin .quo t (.int .i64 20)) λu=>B.pv (V.bin .add n u) λw=>B.pv (V.bin .add d (.int .i64 1)) λx=>Y2 [w,x] h) (B.pv (V.bin .add c (.int .i64 1)) λy=>Y1 [b,y] h)
@[simp] def zcb.l2(Q:zQ)(Y1:zL)(a b:za):zG|[c,d],h,Y2=>zcb.k1 C N Q Y1 Y2 a c b d h|_,_,_=>False
@[simp] def zcb.k3(Q:zQ)(Y1:zL)(c a d:za)(h:zb):Prop:=B.pv (V.zd3 c) λj=>B.pv (V.bin .lss d j) λb=>B.gd h b true (λK=>K a h) λe h=>B.gd h b true (λK=>B.pv (V.bin .leq e (.int .i64 2000)) λv=>K v h) λf h=>B.pick b f (.bool false) λg=>B.cond g (zbg (zcb.l2 C N Q Y1 c d) [a,(.int .i64 0)] h) (B.pv (V.bin .gtr a (.int .i64 2000)) λi=>Q i h)
@[simp] def zcb.l4(Q:zQ)(a:za):zG|[b,c],h,Y1=>zcb.k3 C N Q Y1 a b c h|_,_,_=>False
@[simp] def zcb.cps(a:za)(h:zb)(Q:zQ):Prop:=zbg (zcb.l4 C N Q a) [(.int .i64 0),(.int .i64 0)] h
def zcb.Imp:Prop:=im1 C (N 486) (zcb.cps C N)
@[simp] def zi.k1(Q:zQ)(g i:za)(h:zb):Prop:=B.pv (V.bin .eql i (.int .i64 0)) λa=>B.gd h a true (λK=>K g h) λb h=>B.gd h a true (λK=>B.call C (N 492) [b] h K) λc h=>B.gd h a true (λK=>B.pv (V.zd3 c) λv=>K v h) λd h=>B.gd h a true (λK=>B.pv (V.bin .eql d (.int .i64 0)) λv=>K v h) λe h=>B.pick a e (.bool false) λf=>Q f h
@[simp] def zi.k2(Q:zQ)(Y1:zL)(b l a:za)(h:zb):Prop:=B.pv (V.bin .lss a (.int .i64 6)) λc=>B.cond c (B.call C (N 490) [b,a] h λd h=>B.pv (V.zd3 d) λe=>B.call C (N 491) [b,a] h λf h=>B.pv (V.zd3 f) λg=>B.pv (V.bin .add e g) λi=>B.pv (V.bin .gtr i (.int .i64 0)) λj=>B.cond j (Q (.bool false) h) (B.pv (V.bin .add a (.int .i64 1)) λk=>Y1 [k] h)) (zi.k1 C N Q b l h)
@[simp] def zi.l3(Q:zQ)(b c:za):zG|[a],h,Y1=>zi.k2 C N Q Y1 b c a h|_,_,_=>False
@[simp] def zi.k4(Q:zQ)(Y2:zL)(Y3:zL)(f r g v9 c a:za)(h:zb):Prop:=B.pv (V.bin .lss a (.int .i64 6)) λd=>B.gd h d true (λK=>K c h) λs h=>B.gd h d true (λK=>B.pv (V.un .not s) λv=>K v h) λt h=>B.pick d t (.bool false) λu=>B.cond u (B.pv (V.idxA 6 1 r a) λw=>B.ld h w λb=>B.gd h b true (λK=>K f h) λx h=>B.gd h b true (λK=>K a h) λy h=>B.gd h b true (λK=>B.call C (N 491) [x,y] h K) λi h=>B.gd h b true (λK=>B.pv (V.zd3 i) λv=>K v h) λj h=>B.gd h b true (λK=>B.pv (V.bin .eql j (.int .i64 0)) λv=>K v h) λk h=>B.pick b k (.bool false) λl=>B.cond l (B.call C (N 489) [f,a,.zfa] h λm h=>B.pv (V.un .not m) λn=>B.cond n (Q (.bool false) h) (B.call C (N 488) [f,a] h λab h=>B.pv (V.idxA 6 1 r a) λo=>B.st h o (.bool false) λh=>B.pv (V.bin .sub g (.int .i64 1)) λp=>B.pv (V.bin .add a (.int .i64 1)) λe=>Y3 [p,(.bool true),e] h)) (B.pv (V.bin .add a (.int .i64 1)) λe=>Y3 [g,c,e] h)) (B.pv (V.un .not c) λq=>B.cond q (Q (.bool false) h) (B.pv (V.bin .add v9 (.int .i64 1)) λz=>Y2 [g,z] h))
@[simp] def zi.l5(Q:zQ)(Y2:zL)(c d e:za):zG|[f,a,b],h,Y3=>zi.k4 C N Q Y2 Y3 c d f e a b h|_,_,_=>False
@[simp] def zi.k6(Q:zQ)(Y2:zL)(c d e f a:za)(h:zb):Prop:=B.pv (V.zd3 a) λg=>B.pv (V.bin .gtr g (.int .i64 0)) λi=>B.cond i (B.pv (V.zd3 a) λj=>B.pv (V.bin .lss j (.int .i64 2)) λk=>B.cond k (Q (.bool false) h) (B.pv (V.zd3 a) λl=>B.pv (V.bin .sub l (.int .i64 1)) λm=>B.pv (V.zde 1 a m) λn=>B.ld h n λb=>B.call C (N 488) [c,b] h λr h=>B.pv (V.idxA 6 1 d b) λo=>B.st h o (.bool false) λh=>B.pv (V.bin .sub e (.int .i64 1)) λp=>B.pv (V.bin .add f (.int .i64 1)) λq=>Y2 [p,q] h)) (zbg (zi.l5 C N Q Y2 c d f) [e,(.bool false),(.int .i64 0)] h)
@[simp] def zi.k7(Q:zQ)(Y2:zL)(b j c d:za)(h:zb):Prop:=B.pv (V.bin .lss d (.int .i64 40)) λa=>B.gd h a true (λK=>K c h) λe h=>B.gd h a true (λK=>B.pv (V.bin .gtr e (.int .i64 0)) λv=>K v h) λf h=>B.pick a f (.bool false) λg=>B.cond g (B.call C (N 492) [b] h λi h=>zi.k6 C N Q Y2 b j c d i h) (zbg (zi.l3 C N Q b c) [(.int .i64 0)] h)
@[simp] def zi.l8(Q:zQ)(a b:za):zG|[c,d],h,Y2=>zi.k7 C N Q Y2 a b c d h|_,_,_=>False
@[simp] def zi.k9(Q:zQ)(Y4:zL)(j d c b:za)(h:zb):Prop:=B.pv (V.bin .lss b (.int .i64 6)) λe=>B.cond e (B.pv (V.idxA 6 1 d b) λf=>B.ld h f λg=>B.cond g (B.pv (V.bin .add c (.int .i64 1)) λi=>B.pv (V.bin .add b (.int .i64 1)) λa=>Y4 [i,a] h) (B.pv (V.bin .add b (.int .i64 1)) λa=>Y4 [c,a] h)) (zbg (zi.l8 C N Q j d) [c,(.int .i64 0)] h)
@[simp] def zi.l10(Q:zQ)(a b:za):zG|[c,d],h,Y4=>zi.k9 C N Q Y4 a b c d h|_,_,_=>False
@[simp] def zi.k11(Q:zQ)(Y5:zL)(c d e a:za)(h:zb):Prop:=B.pv (V.zd3 c) λf=>B.pv (V.bin .lss a f) λg=>B.cond g (B.pv (V.zde 3 c a) λi=>B.pv (V.fieldAddr 1 i) λj=>B.ld h j λk=>B.pv (V.bin .rem k (.int .i64 7)) λl=>B.call C (N 155) [l,(.int .i64 6)] h λb h=>B.pv (V.zde 3 c a) λm=>B.pv (V.fieldAddr 2 m) λn=>B.ld h n λo=>B.call C (N 489) [d,b,o] h λr h=>B.pv (V.idxA 6 1 e b) λp=>B.st h p (.bool true) λh=>B.pv (V.bin .add a (.int .i64 1)) λq=>Y5 [q] h) (zbg (zi.l10 C N Q d e) [(.int .i64 0),(.int .i64 0)] h)
@[simp] def zi.l12(Q:zQ)(a b c:za):zG|[d],h,Y5=>zi.k11 C N Q Y5 a b c d h|_,_,_=>False
@[simp] def zi.k13(Q:zQ)(a b:za)(h:zb):Prop:=B.zgc h (some [.bool false,.bool false,.bool false,.bool false,.bool false,.bool false]) λc h=>zbg (zi.l12 C N Q a b (.ptr c 0 0)) [(.int .i64 0)] h
@[simp] def zi.k14(Q:zQ)(c:za)(h:zb):Prop:=B.pv (V.zd3 c) λe=>B.pv (V.bin .gtr e (.int .i64 60)) λf=>B.cond f (B.pv (V.zpx 3 c none (some (.int .i64 60))) λd=>B.call C (N 486) [d] h λa h=>B.cond a (Q (.bool true) h) (B.call C (N 485) [] h λb h=>zi.k13 C N Q d b h)) (B.call C (N 486) [c] h λa h=>B.cond a (Q (.bool true) h) (B.call C (N 485) [] h λb h=>zi.k13 C N Q c b h))
@[simp] def zi.cps(c:za)(h:zb)(Q:zQ):Prop:=B.call C (N 482) [] h λa h=>B.pv (V.un .not a) λb=>B.cond b (Q (.bool false) h) (zi.k14 C N Q c h)
def zi.Imp:Prop:=im1 C (N 498) (zi.cps C N)
@[simp] def zei.cps(C:z3)(N:zN)(h:zb)(Q:zQ):Prop:=B.zjn h λa h=>B.pv (A.bld [(0,none,a)] [.znf,.int .i64 0]) λb=>B.zgc h (A.zkg 2 b) λc h=>Q (.ptr c 0 0) h
variable(C:z3)(N:Nat→Nat)
def zei.Imp:Prop:=im0 C (N 485) (zei.cps C N)
@[simp] def zcj.k1(Q:zQ)(a b:za)(h:zb):Prop:=B.call C (N 505) [a] h λc h=>B.cond c (B.nilCheck a λd=>B.pv (V.fieldAddr 0 d) λe=>B.ld h e λf=>B.mdel h .i f b λ_ h=>Q (.tup []) h) (Q (.tup []) h)
@[simp] def zcj.cps(a b:za)(h:zb)(Q:zQ):Prop:=zcj.k1 C N Q a b h
def zcj.Imp:Prop:=im2 C (N 488) (zcj.cps C N)
@[simp] def zu.k1(Q:zQ)(c a b:za)(h:zb):Prop:=B.nilCheck a λk=>B.pv (V.fieldAddr 1 k) λl=>B.ld h l λm=>B.call C (N 506) [c,a,m,b] h λn h=>B.pv (V.zd3 n) λo=>B.pv (V.bin .gtr o (.int .i64 0)) λp=>B.cond p (B.nilCheck c λq=>B.pv (V.fieldAddr 1 q) λr=>B.ld h r λs=>B.pv (V.max2 s b) λt=>B.nilCheck a λu=>B.pv (V.fieldAddr 2 u) λv=>B.st h v b λh=>B.nilCheck c λw=>B.pv (V.fieldAddr 1 w) λx=>B.st h x t λh=>Q (.bool false) h) (B.nilCheck a λy=>B.pv (V.fieldAddr 0 y) λz=>B.ld h z λaa=>B.nilCheck a λab=>B.pv (V.fieldAddr 1 ab) λac=>B.ld h ac λd=>B.call C (N 507) [aa,d] h λad h=>B.zjn h λe h=>B.nilCheck a λf=>B.pv (V.fieldAddr 1 f) λg=>B.st h g e λh=>B.nilCheck a λi=>B.pv (V.fieldAddr 2 i) λj=>B.st h j (.int .i64 0) λh=>Q (.bool true) h)
@[simp] def zu.k2(Q:zQ)(b c a:za)(h:zb):Prop:=B.pv (V.bin .eql a (.int .i64 0)) λd=>B.cond d (B.nilCheck b λe=>B.pv (V.fieldAddr 1 e) λf=>B.ld h f λg=>B.pv (V.bin .add g (.int .i64 1)) λi=>zu.k1 C N Q b c i h) (zu.k1 C N Q b c a h)
@[simp] def zu.k3(Q:zQ)(Y1:zL)(v0 c f g b:za)(h:zb):Prop:=B.pv (V.bin .lss b g) λi=>B.cond i (B.pv (V.zde 1 f b) λj=>B.ld h j λe=>B.nilCheck c λk=>B.pv (V.fieldAddr 0 k) λl=>B.ld h l λm=>B.call C (N 508) [m,e] h λn h=>B.pv (V.un .not n) λa=>B.gd h a true (λK=>K c h) λo h=>B.gd h a true (λK=>B.nilCheck o λv=>K v h) λp h=>B.gd h a true (λK=>B.pv (V.fieldAddr 0 p) λv=>K v h) λq h=>B.gd h a true (λK=>B.ld h q λv=>K v h) λr h=>B.gd h a true (λK=>B.call C (N 508) [r,(.str [42])] h K) λt h=>B.gd h a true (λK=>B.pv (V.un .not t) λv=>K v h) λu h=>B.pick a u (.bool false) λw=>B.cond w (B.nilCheck c λx=>B.pv (V.fieldAddr 1 x) λy=>B.ld h y λz=>B.mset h .s z e (.int .i64 1) λh=>B.pv (V.bin .add b (.int .i64 1)) λd=>Y1 [d] h) (B.pv (V.bin .add b (.int .i64 1)) λd=>Y1 [d] h)) (B.nilCheck c λaa=>B.pv (V.fieldAddr 2 aa) λab=>B.ld h ab λac=>zu.k2 C N Q v0 c ac h)
@[simp] def zu.l4(Q:zQ)(d e a b:za):zG|[c],h,Y1=>zu.k3 C N Q Y1 d e a b c h|_,_,_=>False
@[simp] def zu.k5(Q:zQ)(d o b e:za)(h:zb):Prop:=B.pv (V.zfy .eql e .zj5) λf=>B.cond f (B.zjn h λg h=>B.zjn h λj h=>B.pv (A.bld [(0,none,g),(1,none,j)] [.znf,.znf,.int .i64 0]) λk=>B.zgc h (A.zkg 3 k) λc h=>B.nilCheck d λl=>B.pv (V.fieldAddr 0 l) λm=>B.ld h m λn=>B.mset h .i n o (.ptr c 0 0) λh=>B.pv (V.zd3 b) λa=>zbg (zu.l4 C N Q d (.ptr c 0 0) b a) [(.int .i64 0)] h) (B.pv (V.zd3 b) λa=>zbg (zu.l4 C N Q d e b a) [(.int .i64 0)] h)
@[simp] def zu.k6(Q:zQ)(a b g:za)(h:zb):Prop:=B.nilCheck a λc=>B.pv (V.fieldAddr 0 c) λd=>B.ld h d λe=>B.pv (A.lkp h (some .i) (some (.zj5)) false e b) λf=>zu.k5 C N Q a b g f h
@[simp] def zu.cps(a d e:za)(h:zb)(Q:zQ):Prop:=B.call C (N 505) [a] h λb h=>B.pv (V.un .not b) λc=>B.cond c (Q (.bool false) h) (zu.k6 C N Q a d e h)
def zu.Imp:Prop:=im3 C (N 489) (zu.cps C N)
@[simp] def zb1.k1(Q:zQ)(b c:za)(h:zb):Prop:=B.call C (N 505) [b] h λw h=>B.pv (V.un .not w) λa=>B.gd h a false (λK=>K b h) λx h=>B.gd h a false (λK=>B.nilCheck x λv=>K v h) λd h=>B.gd h a false (λK=>B.pv (V.fieldAddr 0 d) λv=>K v h) λe h=>B.gd h a false (λK=>B.ld h e λv=>K v h) λf h=>B.gd h a false (λK=>K c h) λg h=>B.gd h a false (λK=>B.pv (A.lkp h (some .i) (some (.zj5)) false f g) λv=>K v h) λj h=>B.gd h a false (λK=>B.pv (V.zfy .eql j .zj5) λv=>K v h) λk h=>B.pick a (.bool true) k λl=>B.cond l (Q .zfa h) (B.nilCheck b λm=>B.pv (V.fieldAddr 0 m) λn=>B.ld h n λo=>B.pv (A.lkp h (some .i) (some (.zj5)) false o c) λp=>B.nilCheck p λq=>B.pv (V.fieldAddr 0 q) λr=>B.ld h r λs=>B.call C (N 509) [s] h λt h=>B.call C (N 510) [t] h λu h=>Q u h)
@[simp] def zb1.cps(a b:za)(h:zb)(Q:zQ):Prop:=zb1.k1 C N Q a b h
def zb1.Imp:Prop:=im2 C (N 490) (zb1.cps C N)
@[simp] def zbu.k1(Q:zQ)(c e:za)(h:zb):Prop:=B.call C (N 505) [c] h λv7 h=>B.pv (V.un .not v7) λb=>B.gd h b false (λK=>K c h) λf h=>B.gd h b false (λK=>B.nilCheck f λv=>K v h) λg h=>B.gd h b false (λK=>B.pv (V.fieldAddr 0 g) λv=>K v h) λj h=>B.gd h b false (λK=>B.ld h j λv=>K v h) λk h=>B.gd h b false (λK=>K e h) λl h=>B.gd h b false (λK=>B.pv (A.lkp h (some .i) (some (.zj5)) false k l) λv=>K v h) λm h=>B.gd h b false (λK=>B.pv (V.zfy .eql m .zj5) λv=>K v h) λn h=>B.pick b (.bool true) n λa=>B.gd h a false (λK=>K c h) λo h=>B.gd h a false (λK=>B.nilCheck o λv=>K v h) λp h=>B.gd h a false (λK=>B.pv (V.fieldAddr 0 p) λv=>K v h) λq h=>B.gd h a false (λK=>B.ld h q λv=>K v h) λr h=>B.gd h a false (λK=>K e h) λs h=>B.gd h a false (λK=>B.pv (A.lkp h (some .i) (some (.zj5)) false r s) λv=>K v h) λt h=>B.gd h a false (λK=>B.nilCheck t λv=>K v h) λu h=>B.gd h a false (λK=>B.pv (V.fieldAddr 2 u) λv=>K v h) λw h=>B.gd h a false (λK=>B.ld h w λv=>K v h) λx h=>B.gd h a false (λK=>B.pv (V.bin .eql x (.int .i64 0)) λv=>K v h) λy h=>B.pick a (.bool true) y λz=>B.cond z (Q .zfa h) (B.nilCheck c λaa=>B.pv (V.fieldAddr 0 aa) λab=>B.ld h ab λac=>B.pv (A.lkp h (some .i) (some (.zj5)) false ac e) λd=>B.nilCheck d λad=>B.pv (V.fieldAddr 1 ad) λae=>B.ld h ae λaf=>B.nilCheck d λag=>B.pv (V.fieldAddr 2 ag) λah=>B.ld h ah λai=>B.call C (N 506) [c,d,af,ai] h λaj h=>Q aj h)
@[simp] def zbu.cps(a b:za)(h:zb)(Q:zQ):Prop:=zbu.k1 C N Q a b h
def zbu.Imp:Prop:=im2 C (N 491) (zbu.cps C N)
@[simp] def zq.k1(Q:zQ)(Y1:zL)(Y2:zL)(l m a b:za)(h:zb):Prop:=B.zd6 h b λd h=>B.pv (V.ext 0 d) λe=>B.cond e (B.pv (A.zeq h b) λf=>B.pv (V.ext 0 f) λc=>B.call C (N 512) [l,c] h λg h=>B.call C (N 513) [g,m] h λi h=>B.cond i (B.zgc h (zew [(0,none,c)] (zi9 1 [.int .i64 0])) λj h=>B.appW h 1 8 a (.sl j 0 0 1 1 1) λk h=>Y2 [k] h) (Y2 [a] h)) (B.call C (N 511) [a] h λn h=>Q a h)
@[simp] def zq.l2(Q:zQ)(Y1:zL)(b c a:za):zG|[d],h,Y2=>zq.k1 C N Q Y1 Y2 b c d a h|_,_,_=>False
@[simp] def zq.k3(Q:zQ)(Y1:zL)(i a b j k c:za)(h:zb):Prop:=B.call C (N 513) [b,a] h λd h=>B.pv (V.un .not d) λe=>B.cond e (B.pv (V.bin .add c (.int .i64 1)) λf=>Y1 [f] h) (B.rangeMap h b λg h=>zbg (zq.l2 C N Q Y1 i a g) [.zfa] h)
@[simp] def zq.k4(Q:zQ)(Y1:zL)(d a e b:za)(h:zb):Prop:=B.pv (V.zde 1 a b) λf=>B.ld h f λc=>B.call C (N 512) [d,c] h λg h=>zq.k3 C N Q Y1 d c g a e b h
@[simp] def zq.l5(Q:zQ)(e c a:za):zG|[b],h,Y1=>B.pv (V.bin .lss b a) λd=>B.cond d (zq.k4 C N Q Y1 e c a b h) (Q .zfa h)|_,_,_=>False
@[simp] def zq.k6(Q:zQ)(b:za)(h:zb):Prop:=B.nilCheck b λc=>B.pv (V.fieldAddr 0 c) λd=>B.ld h d λe=>B.call C (N 514) [e] h λf h=>B.call C (N 515) [f] h λa h=>B.pv (V.zd3 a) λg=>zbg (zq.l5 C N Q b a g) [(.int .i64 0)] h
@[simp] def zq.cps(a:za)(h:zb)(Q:zQ):Prop:=B.call C (N 505) [a] h λc h=>B.pv (V.un .not c) λb=>B.cond b (Q .zfa h) (zq.k6 C N Q a h)
def zq.Imp:Prop:=im1 C (N 492) (zq.cps C N)
@[simp] def zcq.k1(C:z3)(N:zN)(Q:zQ)(b:za)(h:zb):Prop:=B.pv (V.zfy .neq b .zj5) λa=>B.gd h a true (λK=>K b h) λe h=>B.gd h a true (λK=>B.nilCheck e λv=>K v h) λf h=>B.gd h a true (λK=>B.pv (V.fieldAddr 0 f) λv=>K v h) λg h=>B.gd h a true (λK=>B.ld h g λv=>K v h) λi h=>B.gd h a true (λK=>B.pv (V.eqMap .neq i .znf) λv=>K v h) λc h=>B.pick a c (.bool false) λd=>Q d h
@[simp] def zcq.cps(a:za)(h:zb)(Q:zQ):Prop:=zcq.k1 C N Q a h
def zcq.Imp:Prop:=im1 C (N 505) (zcq.cps C N)
@[simp] def zbb.k1(Q:zQ)(Y1:zL)(l a b:za)(h:zb):Prop:=B.zd6 h b λd h=>B.pv (V.ext 0 d) λe=>B.cond e (B.pv (A.zeq h b) λc=>B.pv (V.ext 0 c) λf=>B.pv (V.ext 1 c) λg=>B.zjj h C l [g] λi h=>B.cond i (B.zgc h (zew [(0,none,f)] (zi9 1 [.int .i64 0])) λj h=>B.appW h 1 8 a (.sl j 0 0 1 1 1) λk h=>Y1 [k] h) (Y1 [a] h)) (B.call C (N 511) [a] h λm h=>Q a h)
@[simp] def zbb.l2(Q:zQ)(c a:za):zG|[b],h,Y1=>zbb.k1 C N Q Y1 c b a h|_,_,_=>False
@[simp] def zbb.k3(Q:zQ)(f g a:za)(h:zb):Prop:=B.nilCheck f λb=>B.pv (V.fieldAddr 0 b) λc=>B.ld h c λd=>B.rangeMap h d λe h=>zbg (zbb.l2 C N Q g e) [a] h
@[simp] def zbb.k4(Q:zQ)(a b c d:za)(h:zb):Prop:=B.zgc h (A.zih b) λe h=>B.zgc h (A.zih c) λf h=>B.zgc h (A.zih d) λg h=>zbb.k3 C N Q a (.fn (N 523) [] [(.ptr e 0 0),(.ptr f 0 0),(.ptr g 0 0)]) .zfa h
@[simp] def zbb.cps(a b c d:za)(h:zb)(Q:zQ):Prop:=zbb.k4 C N Q a b c d h
def zbb.Imp:Prop:=im4 C (N 506) (zbb.cps C N)
@[simp] def zbz.cps(C:z3)(N:zN)(a b:za)(h:zb)(Q:zQ):Prop:=B.pv (A.lkp h (some .s) (some (.int .i64 0)) false a b) λc=>B.pv (V.bin .gtr c (.int .i64 0)) λd=>Q d h
def zbz.Imp:Prop:=im2 C (N 508) (zbz.cps C N)
@[simp] def zb5.k1(Q:zQ)(d e:za)(h:zb):Prop:=B.zgc h (A.zih d) λf h=>B.zjn h λg h=>B.zgc h (some [.znf]) λa h=>B.st h (.ptr a 0 0) g λh=>B.zgc h (some [.nilf]) λb h=>B.st h (.ptr b 0 0) (.fn (N 526) [] [(.ptr f 0 0),(.ptr a 0 0),(.ptr b 0 0)]) λh=>B.ld h (.ptr b 0 0) λi=>B.zjj h C i [e] λj h=>B.ld h (.ptr a 0 0) λc=>Q c h
@[simp] def zb5.cps(a b:za)(h:zb)(Q:zQ):Prop:=zb5.k1 C N Q a b h
def zb5.Imp:Prop:=im2 C (N 512) (zb5.cps C N)
@[simp] def zb0.cps(C:z3)(N:zN)(a b:za)(h:zb)(Q:zQ):Prop:=B.pv (A.lkp h (some .i) (some (.int .i64 0)) false a b) λc=>B.pv (V.bin .gtr c (.int .i64 0)) λd=>Q d h
def zb0.Imp:Prop:=im2 C (N 513) (zb0.cps C N)
@[simp] def zcr.k1(Q:zQ)(e v1 f v3:za)(h:zb):Prop:=B.ld h v1 λv7=>B.pv (A.zfy h 3 .neq e v7) λd=>B.gd h d true (λK=>K e h) λg h=>B.gd h d true (λK=>B.nilCheck g λv=>K v h) λi h=>B.gd h d true (λK=>B.pv (V.fieldAddr 0 i) λv=>K v h) λj h=>B.gd h d true (λK=>B.ld h j λv=>K v h) λk h=>B.gd h d true (λK=>B.ld h f λv=>K v h) λl h=>B.gd h d true (λK=>B.call C (N 528) [k,l] h K) λm h=>B.gd h d true (λK=>K m h) λa h=>B.gd h a false (λK=>K e h) λn h=>B.gd h a false (λK=>B.nilCheck n λv=>K v h) λo h=>B.gd h a false (λK=>B.pv (V.fieldAddr 2 o) λv=>K v h) λp h=>B.gd h a false (λK=>B.ld h p λv=>K v h) λq h=>B.gd h a false (λK=>B.pv (V.bin .gtr q (.int .i64 0)) λv=>K v h) λr h=>B.gd h a false (λK=>K r h) λb h=>B.gd h b true (λK=>K e h) λs h=>B.gd h b true (λK=>B.nilCheck s λv=>K v h) λt h=>B.gd h b true (λK=>B.pv (V.fieldAddr 2 t) λv=>K v h) λu h=>B.gd h b true (λK=>B.ld h u λv=>K v h) λw h=>B.gd h b true (λK=>B.ld h v3 λv=>K v h) λx h=>B.gd h b true (λK=>B.pv (V.bin .lss w x) λv=>K v h) λy h=>B.gd h a false (λK=>B.pick b y (.bool false) λv=>K v h) λz h=>B.gd h a false (λK=>K z h) λc h=>B.gd h c true (λK=>K e h) λaa h=>B.gd h c true (λK=>B.nilCheck aa λv=>K v h) λab h=>B.gd h c true (λK=>B.pv (V.fieldAddr 1 ab) λv=>K v h) λac h=>B.gd h c true (λK=>B.ld h ac λv=>K v h) λad h=>B.gd h c true (λK=>B.ld h f λv=>K v h) λae h=>B.gd h c true (λK=>B.call C (N 528) [ad,ae] h K) λaf h=>B.gd h a false (λK=>B.pick c af (.bool false) λv=>K v h) λag h=>B.gd h d true (λK=>B.pick a (.bool true) ag λv=>K v h) λah h=>B.pick d ah (.bool false) λai=>Q ai h
@[simp] def zcr.cps(a b c d:za)(h:zb)(Q:zQ):Prop:=zcr.k1 C N Q a b c d h
def zcr.Imp:Prop:=im4 C (N 523) (zcr.cps C N)
@[simp] def zbd.k1(Q:zQ)(Y1:zL)(d o p e a:za)(h:zb):Prop:=B.pv (V.bin .lss a e) λf=>B.cond f (B.pv (V.zde 1 p a) λg=>B.ld h g λb=>B.ld h d λj=>B.call C (N 513) [j,b] h λk h=>B.pv (V.un .not k) λl=>B.cond l (B.ld h d λm=>B.mset h .i m b (.int .i64 1) λh=>B.ld h o λn=>B.zjj h C n [b] λq h=>B.pv (V.bin .add a (.int .i64 1)) λc=>Y1 [c] h) (B.pv (V.bin .add a (.int .i64 1)) λc=>Y1 [c] h)) (Q (.tup []) h)
@[simp] def zbd.l2(Q:zQ)(c d e a:za):zG|[b],h,Y1=>zbd.k1 C N Q Y1 c d e a b h|_,_,_=>False
@[simp] def zbd.k3(Q:zQ)(c d e f:za)(h:zb):Prop:=B.ld h d λg=>B.call C (N 491) [g,c] h λa h=>B.pv (V.zd3 a) λb=>zbg (zbd.l2 C N Q e f a b) [(.int .i64 0)] h
@[simp] def zbd.cps(a b c d:za)(h:zb)(Q:zQ):Prop:=zbd.k3 C N Q a b c d h
def zbd.Imp:Prop:=im4 C (N 526) (zbd.cps C N)
@[simp] def zc8.k1(Q:zQ)(Y1:zL)(g a:za)(h:zb):Prop:=B.zd6 h a λb h=>B.pv (V.ext 0 b) λc=>B.cond c (B.pv (A.zeq h a) λd=>B.pv (V.ext 0 d) λe=>B.call C (N 508) [g,e] h λf h=>B.cond f (Q (.bool true) h) (Y1 [] h)) (Q (.bool false) h)
@[simp] def zc8.l2(Q:zQ)(b a:za):zG|[],h,Y1=>zc8.k1 C N Q Y1 b a h|_,_,_=>False
@[simp] def zc8.k3(Q:zQ)(b c:za)(h:zb):Prop:=B.call C (N 508) [b,(.str [42])] h λa h=>B.gd h a false (λK=>K c h) λd h=>B.gd h a false (λK=>B.call C (N 508) [d,(.str [42])] h K) λe h=>B.pick a (.bool true) e λf=>B.cond f (Q (.bool true) h) (B.rangeMap h b λg h=>zbg (zc8.l2 C N Q c g) [] h)
@[simp] def zc8.k4(Q:zQ)(b c:za)(h:zb):Prop:=B.pv (A.zj7 h b) λi=>B.pv (V.bin .eql i (.int .i64 0)) λa=>B.gd h a false (λK=>K c h) λd h=>B.gd h a false (λK=>B.pv (A.zj7 h d) λv=>K v h) λe h=>B.gd h a false (λK=>B.pv (V.bin .eql e (.int .i64 0)) λv=>K v h) λf h=>B.pick a (.bool true) f λg=>B.cond g (Q (.bool false) h) (zc8.k3 C N Q b c h)
@[simp] def zc8.cps(a b:za)(h:zb)(Q:zQ):Prop:=zc8.k4 C N Q a b h
def zc8.Imp:Prop:=im2 C (N 528) (zc8.cps C N)
@[simp] def zf.k1(C:z3)(N:zN)(Q:zQ)(Y1:zL)(e b:za)(h:zb):Prop:=B.zd6 h b λf h=>B.pv (V.ext 0 f) λg=>B.cond g (B.pv (A.zeq h b) λa=>B.pv (V.ext 0 a) λc=>B.pv (V.ext 1 a) λd=>B.mset h .s e c d λh=>Y1 [] h) (Q (.tup []) h)
variable(C:z3)(N:Nat→Nat)
@[simp] def zf.l2(Q:zQ)(a b:za):zG|[],h,Y1=>zf.k1 C N Q Y1 a b h|_,_,_=>False
@[simp] def zf.cps(a b:za)(h:zb)(Q:zQ):Prop:=B.rangeMap h b λc h=>zbg (zf.l2 C N Q a c) [] h
def zf.Imp:Prop:=im2 C (N 507) (zf.cps C N)
@[simp] def zbe.cps(C:z3)(N:zN)(a:za)(h:zb)(Q:zQ):Prop:=B.zgc h (A.zih a) λb h=>Q (.fn (N 524) [] [(.ptr b 0 0)]) h
def zbe.Imp:Prop:=im1 C (N 509) (zbe.cps C N)
@[simp] def zy.cps(C:z3)(N:zN)(a:za)(h:zb)(Q:zQ):Prop:=B.zgc h (A.zih a) λb h=>Q (.fn (N 525) [] [(.ptr b 0 0)]) h
def zy.Imp:Prop:=im1 C (N 514) (zy.cps C N)
@[simp] def zp.k1(C:z3)(N:zN)(Q:zQ)(Y1:zL)(d a:za)(h:zb):Prop:=B.zd6 h a λe h=>B.pv (V.ext 0 e) λf=>B.cond f (B.pv (A.zeq h a) λg=>B.pv (V.ext 0 g) λi=>B.zjj h C d [i] λb h=>B.pv (V.un .not b) λc=>B.cond c (Q (.tup []) h) (Y1 [] h)) (Q (.tup []) h)
@[simp] def zp.l2(Q:zQ)(a b:za):zG|[],h,Y1=>zp.k1 C N Q Y1 a b h|_,_,_=>False
@[simp] def zp.cps(a b:za)(h:zb)(Q:zQ):Prop:=B.ld h b λc=>B.rangeMap h c λd h=>zbg (zp.l2 C N Q a d) [] h
def zp.Imp:Prop:=im2 C (N 524) (zp.cps C N)
@[simp] def zm.k1(C:z3)(N:zN)(Q:zQ)(Y1:zL)(d a:za)(h:zb):Prop:=B.zd6 h a λe h=>B.pv (V.ext 0 e) λf=>B.cond f (B.pv (A.zeq h a) λg=>B.pv (V.ext 0 g) λi=>B.zjj h C d [i] λb h=>B.pv (V.un .not b) λc=>B.cond c (Q (.tup []) h) (Y1 [] h)) (Q (.tup []) h)
@[simp] def zm.l2(Q:zQ)(a b:za):zG|[],h,Y1=>zm.k1 C N Q Y1 a b h|_,_,_=>False
@[simp] def zm.cps(a b:za)(h:zb)(Q:zQ):Prop:=B.ld h b λc=>B.rangeMap h c λd h=>zbg (zm.l2 C N Q a d) [] h
def zm.Imp:Prop:=im2 C (N 525) (zm.cps C N)
variable(C:z3)(N:Nat→Nat)
@[simp] def zdh.k1(Q:zQ)(a:za)(h:zb):Prop:=B.cond (.bool false) (B.pv (V.toInt .u32 a) λb=>B.call C (N 304) [b] h λc h=>Q c h) (B.call C (N 305) [a] h λd h=>Q d h)
@[simp] def zdh.cps(a:za)(h:zb)(Q:zQ):Prop:=zdh.k1 C N Q a h
def zdh.Imp:Prop:=im1 C (N 287) (zdh.cps C N)
@[simp] def zbc.k1(C:z3)(N:zN)(Q:zQ)(e f:za)(h:zb):Prop:=B.pv (V.toInt .u8 e) λa=>B.pv (V.zmj (.str [0,1,2,2,3,3,3,3,4,4,4,4,4,4,4,4,5,5,5,5,5,5,5,5,5,5,5,5,5,5,5,5,6,6,6,6,6,6,6,6,6,6,6,6,6,6,6,6,6,6,6,6,6,6,6,6,6,6,6,6,6,6,6,6,7,7,7,7,7,7,7,7,7,7,7,7,7,7,7,7,7,7,7,7,7,7,7,7,7,7,7,7,7,7,7,7,7,7,7,7,7,7,7,7,7,7,7,7,7,7,7,7,7,7,7,7,7,7,7,7,7,7,7,7,7,7,7,7,8,8,8,8,8,8,8,8,8,8,8,8,8,8,8,8,8,8,8,8,8,8,8,8,8,8,8,8,8,8,8,8,8,8,8,8,8,8,8,8,8,8,8,8,8,8,8,8,8,8,8,8,8,8,8,8,8,8,8,8,8,8,8,8,8,8,8,8,8,8,8,8,8,8,8,8,8,8,8,8,8,8,8,8,8,8,8,8,8,8,8,8,8,8,8,8,8,8,8,8,8,8,8,8,8,8,8,8,8,8,8,8,8,8,8,8,8,8,8,8,8,8,8,8,8,8,8,8]) a) λb=>B.pv (V.toInt .i64 b) λc=>B.pv (V.bin .add f c) λd=>Q d h
@[simp] def zbc.k2(Q:zQ)(a b:za)(h:zb):Prop:=B.pv (V.bin .geq a (.int .u64 256)) λc=>B.cond c (B.pv (V.bin .shr a (.int .u64 8)) λd=>B.pv (V.bin .add b (.int .i64 8)) λe=>zbc.k1 C N Q d e h) (zbc.k1 C N Q a b h)
@[simp] def zbc.k3(Q:zQ)(a b:za)(h:zb):Prop:=B.pv (V.bin .geq a (.int .u64 65536)) λe=>B.cond e (B.pv (V.bin .shr a (.int .u64 16)) λc=>B.pv (V.bin .add b (.int .i64 16)) λd=>zbc.k2 C N Q c d h) (zbc.k2 C N Q a b h)
@[simp] def zbc.k4(Q:zQ)(a b:za)(h:zb):Prop:=B.pv (V.bin .geq a (.int .u64 4294967296)) λc=>B.cond c (B.pv (V.bin .shr a (.int .u64 32)) λd=>zbc.k3 C N Q d (.int .i64 32) h) (zbc.k3 C N Q a b h)
@[simp] def zbc.cps(a:za)(h:zb)(Q:zQ):Prop:=zbc.k4 C N Q a (.int .i64 0) h
def zbc.Imp:Prop:=im1 C (N 305) (zbc.cps C N)
@[simp] def zfg.k1(C:z3)(E:z8)(f1 f2:Nat)(Q:zQ)(a:za)(h:zb):Prop:=B.pv (V.zd3 a) λb=>B.pv (V.toInt .u64 b) λc=>B.call C f1 [c] h λd h=>B.call C f2 [a,(.int .i64 0),b,d] h λe h=>Q (.tup []) h
@[simp] def zfg.cps(C:z3)(E:z8)(f1 f2:Nat)(a:za)(h:zb)(Q:zQ):Prop:=zfg.k1 C E f1 f2 Q a h
@[simp] def zn.k1(C:z3)(E:z8)(f1 f2 f3 f4 f5 f6 f7 f8 f9 f10:Nat)(Q:zQ)(Y1:zL)(d c e f v8 v9 s g:za)(h:zb):Prop:=B.pv (V.bin .gtr c (.int .i64 0)) λa=>B.gd h a true (λK=>K d h) λt h=>B.gd h a true (λK=>K c h) λu h=>B.gd h a true (λK=>B.pv (V.bin .sub u (.int .i64 1)) λv=>K v h) λw h=>B.gd h a true (λK=>B.pv (V.zde E.es t w) λv=>K v h) λx h=>B.gd h a true (λK=>E.ld h x λv=>K v h) λy h=>B.gd h a true (λK=>K d h) λz h=>B.gd h a true (λK=>K g h) λaa h=>B.gd h a true (λK=>B.pv (V.zde E.es z aa) λv=>K v h) λab h=>B.gd h a true (λK=>E.ld h ab λv=>K v h) λac h=>B.gd h a true (λK=>B.call C f1 [y,ac] h K) λad h=>B.gd h a true (λK=>B.pv (V.un .not ad) λv=>K v h) λae h=>B.pick a ae (.bool false) λaf=>B.cond af (B.call C f2 [d,c,e,g] h λag h=>Y1 [ag,e,f,v8,v9] h) (B.call C f3 [d,c,e,g] h λm h=>B.pv (V.ext 0 m) λb=>B.pv (V.ext 1 m) λi=>B.pv (V.bin .sub b c) λj=>B.pv (V.bin .sub e b) λk=>B.pv (V.bin .quo s (.int .i64 8)) λl=>B.pv (V.bin .lss j k) λn=>B.cond n (B.pv (V.bin .geq j l) λo=>B.call C f4 [d,c,b,f] h λaj h=>B.pv (V.bin .add b (.int .i64 1)) λp=>Y1 [p,e,f,o,i] h) (B.pv (V.bin .geq k l) λq=>B.pv (V.bin .add b (.int .i64 1)) λr=>B.call C f4 [d,r,e,f] h λak h=>Y1 [c,b,f,q,i] h))
@[simp] def zn.k2(C:z3)(E:z8)(f1 f2 f3 f4 f5 f6 f7 f8 f9 f10:Nat)(Q:zQ)(Y1:zL)(e f g j b i c d k:za)(h:zb):Prop:=B.gd h b true (λK=>K i h) λl h=>B.pick b l (.bool false) λa=>B.gd h a true (λK=>K k h) λm h=>B.gd h a true (λK=>B.pv (V.bin .eql m (.int .i64 1)) λv=>K v h) λn h=>B.pick a n (.bool false) λo=>B.cond o (B.call C f5 [e,f,g] h λp h=>B.cond p (Q (.tup []) h) (zn.k1 C E f1 f2 f3 f4 f5 f6 f7 f8 f9 f10 Q Y1 e f g j b i c d h)) (zn.k1 C E f1 f2 f3 f4 f5 f6 f7 f8 f9 f10 Q Y1 e f g j b i c d h)
@[simp] def zn.k3(C:z3)(E:z8)(f1 f2 f3 f4 f5 f6 f7 f8 f9 f10:Nat)(Q:zQ)(Y1:zL)(f a b g i j c d e:za)(h:zb):Prop:=B.pv (V.bin .eql e (.int .i64 2)) λk=>B.cond k (B.call C f6 [f,a,b] h λo h=>B.pv (V.bin .sub b (.int .i64 1)) λl=>B.pv (V.bin .sub d a) λm=>B.pv (V.bin .sub l m) λn=>zn.k2 C E f1 f2 f3 f4 f5 f6 f7 f8 f9 f10 Q Y1 f a b g i j c n (.int .i64 1) h) (zn.k2 C E f1 f2 f3 f4 f5 f6 f7 f8 f9 f10 Q Y1 f a b g i j c d e h)
@[simp] def zn.k4(C:z3)(E:z8)(f1 f2 f3 f4 f5 f6 f7 f8 f9 f10:Nat)(Q:zQ)(Y1:zL)(b c d i j k e:za)(h:zb):Prop:=B.call C f7 [b,c,d] h λa h=>B.pv (V.ext 0 a) λf=>B.pv (V.ext 1 a) λg=>zn.k3 C E f1 f2 f3 f4 f5 f6 f7 f8 f9 f10 Q Y1 b c d i j k e f g h
@[simp] def zn.k5(C:z3)(E:z8)(f1 f2 f3 f4 f5 f6 f7 f8 f9 f10:Nat)(Q:zQ)(Y1:zL)(b c d f e g a:za)(h:zb):Prop:=B.pv (V.un .not e) λi=>B.cond i (B.call C f8 [b,c,d] h λk h=>B.pv (V.bin .sub f (.int .i64 1)) λj=>zn.k4 C E f1 f2 f3 f4 f5 f6 f7 f8 f9 f10 Q Y1 b c d j e g a h) (zn.k4 C E f1 f2 f3 f4 f5 f6 f7 f8 f9 f10 Q Y1 b c d f e g a h)
@[simp] def zn.k6(C:z3)(E:z8)(f1 f2 f3 f4 f5 f6 f7 f8 f9 f10:Nat)(Q:zQ)(Y1:zL)(a b c d g i e:za)(h:zb):Prop:=B.pv (V.bin .eql d (.int .i64 0)) λf=>B.cond f (B.call C f9 [a,b,c] h λj h=>Q (.tup []) h) (zn.k5 C E f1 f2 f3 f4 f5 f6 f7 f8 f9 f10 Q Y1 a b c d g i e h)
@[simp] def zn.k7(C:z3)(E:z8)(f1 f2 f3 f4 f5 f6 f7 f8 f9 f10:Nat)(Q:zQ)(Y1:zL)(b c d f g i a:za)(h:zb):Prop:=B.pv (V.bin .leq a (.int .i64 12)) λe=>B.cond e (B.call C f10 [b,c,d] h λj h=>Q (.tup []) h) (zn.k6 C E f1 f2 f3 f4 f5 f6 f7 f8 f9 f10 Q Y1 b c d f g i a h)
@[simp] def zn.l8(C:z3)(E:z8)(f1 f2 f3 f4 f5 f6 f7 f8 f9 f10:Nat)(Q:zQ)(d:za):zG|[a,b,e,f,g],h,Y1=>B.pv (V.bin .sub b a) λc=>zn.k7 C E f1 f2 f3 f4 f5 f6 f7 f8 f9 f10 Q Y1 d a b e f g c h|_,_,_=>False
@[simp] def zn.cps(C:z3)(E:z8)(f1 f2 f3 f4 f5 f6 f7 f8 f9 f10:Nat)(a b c d:za)(h:zb)(Q:zQ):Prop:=zbg (zn.l8 C E f1 f2 f3 f4 f5 f6 f7 f8 f9 f10 Q a) [b,c,d,(.bool true),(.bool true)] h
@[simp] def zz.k1(C:z3)(E:z8)(f1:Nat)(Q:zQ)(Y1:zL)(Y2:zL)(c v1 v2 v6 b:za)(h:zb):Prop:=B.pv (V.bin .gtr b v1) λa=>B.gd h a true (λK=>K c h) λd h=>B.gd h a true (λK=>K b h) λe h=>B.gd h a true (λK=>B.pv (V.zde E.es d e) λv=>K v h) λf h=>B.gd h a true (λK=>E.ld h f λv=>K v h) λg h=>B.gd h a true (λK=>K c h) λi h=>B.gd h a true (λK=>K b h) λj h=>B.gd h a true (λK=>B.pv (V.bin .sub j (.int .i64 1)) λv=>K v h) λk h=>B.gd h a true (λK=>B.pv (V.zde E.es i k) λv=>K v h) λl h=>B.gd h a true (λK=>E.ld h l λv=>K v h) λm h=>B.gd h a true (λK=>B.call C f1 [g,m] h K) λn h=>B.pick a n (.bool false) λo=>B.cond o (B.pv (V.bin .sub b (.int .i64 1)) λp=>B.pv (V.bin .sub b (.int .i64 1)) λq=>B.pv (V.zde E.es c q) λr=>E.ld h r λs=>B.pv (V.zde E.es c b) λt=>E.ld h t λu=>B.pv (V.zde E.es c b) λw=>E.st h w s λh=>B.pv (V.zde E.es c p) λx=>E.st h x u λh=>B.pv (V.bin .sub b (.int .i64 1)) λy=>Y2 [y] h) (B.pv (V.bin .add v6 (.int .i64 1)) λz=>Y1 [z] h)
@[simp] def zz.l2(C:z3)(E:z8)(f1:Nat)(Q:zQ)(Y1:zL)(a b c d:za):zG|[e],h,Y2=>zz.k1 C E f1 Q Y1 Y2 a b c d e h|_,_,_=>False
@[simp] def zz.l3(C:z3)(E:z8)(f1:Nat)(Q:zQ)(d e b:za):zG|[a],h,Y1=>B.pv (V.bin .lss a b) λc=>B.cond c (zbg (zz.l2 C E f1 Q Y1 d e b a) [a] h) (Q (.tup []) h)|_,_,_=>False
@[simp] def zz.cps(C:z3)(E:z8)(f1:Nat)(b a c:za)(h:zb)(Q:zQ):Prop:=B.pv (V.bin .add a (.int .i64 1)) λd=>zbg (zz.l3 C E f1 Q b a c) [d] h
@[simp] def zw.k1(C:z3)(E:z8)(f1:Nat)(Q:zQ)(Y1:zL)(b c o a:za)(h:zb):Prop:=B.pv (V.bin .geq a (.int .i64 0)) λd=>B.cond d (B.pv (V.bin .add c a) λe=>B.pv (V.bin .add c a) λf=>B.pv (V.zde E.es b f) λg=>E.ld h g λi=>B.pv (V.zde E.es b c) λj=>E.ld h j λk=>B.pv (V.zde E.es b c) λl=>E.st h l i λh=>B.pv (V.zde E.es b e) λm=>E.st h m k λh=>B.call C f1 [b,o,a,c] h λp h=>B.pv (V.bin .sub a (.int .i64 1)) λn=>Y1 [n] h) (Q (.tup []) h)
@[simp] def zw.l2(C:z3)(E:z8)(f1:Nat)(Q:zQ)(b c d:za):zG|[a],h,Y1=>zw.k1 C E f1 Q Y1 b c d a h|_,_,_=>False
@[simp] def zw.k3(C:z3)(E:z8)(f1:Nat)(Q:zQ)(Y2:zL)(b c i d a:za)(h:zb):Prop:=B.pv (V.bin .geq a (.int .i64 0)) λe=>B.cond e (B.call C f1 [b,a,d,c] h λj h=>B.pv (V.bin .sub a (.int .i64 1)) λf=>Y2 [f] h) (B.pv (V.bin .sub d (.int .i64 1)) λg=>zbg (zw.l2 C E f1 Q b c i) [g] h)
@[simp] def zw.l4(C:z3)(E:z8)(f1:Nat)(Q:zQ)(a b c d:za):zG|[e],h,Y2=>zw.k3 C E f1 Q Y2 a b c d e h|_,_,_=>False
@[simp] def zw.k5(C:z3)(E:z8)(f1:Nat)(Q:zQ)(d e f a:za)(h:zb):Prop:=B.pv (V.bin .sub a (.int .i64 1)) λb=>B.pv (V.bin .quo b (.int .i64 2)) λc=>zbg (zw.l4 C E f1 Q d e f a) [c] h
@[simp] def zw.cps(C:z3)(E:z8)(f1:Nat)(c a d:za)(h:zb)(Q:zQ):Prop:=B.pv (V.bin .sub d a) λb=>zw.k5 C E f1 Q c a (.int .i64 0) b h
@[simp] def zj.k1(C:z3)(E:z8)(f1 f2:Nat)(Q:zQ)(Y1:zL)(a d o p q c b:za)(h:zb):Prop:=B.pv (V.bin .add d b) λe=>B.pv (V.bin .add d b) λf=>B.pv (V.zde E.es a f) λg=>E.ld h g λi=>B.pv (V.zde E.es a c) λj=>E.ld h j λk=>B.pv (V.zde E.es a c) λl=>E.st h l i λh=>B.pv (V.zde E.es a e) λm=>E.st h m k λh=>B.pv (V.bin .add c (.int .i64 1)) λn=>Y1 [n] h
@[simp] def zj.k2(C:z3)(E:z8)(f1 f2:Nat)(Q:zQ)(Y1:zL)(c d b e f g a:za)(h:zb):Prop:=B.pv (V.bin .geq a b) λi=>B.cond i (B.pv (V.bin .sub a b) λj=>zj.k1 C E f1 f2 Q Y1 c d b e f g j h) (zj.k1 C E f1 f2 Q Y1 c d b e f g a h)
@[simp] def zj.k3(C:z3)(E:z8)(f1 f2:Nat)(Q:zQ)(Y1:zL)(g i j a b k:za)(h:zb):Prop:=B.call C f1 [a] h λc h=>B.pv (V.bin .sub b (.int .u64 1)) λd=>B.pv (V.bin .and c d) λe=>B.pv (V.toInt .i64 e) λf=>zj.k2 C E f1 f2 Q Y1 g i j a b k f h
@[simp] def zj.k4(C:z3)(E:z8)(f1 f2:Nat)(Q:zQ)(Y1:zL)(j a b k l c:za)(h:zb):Prop:=B.pv (V.bin .quo b (.int .i64 4)) λd=>B.pv (V.bin .mul d (.int .i64 2)) λe=>B.pv (V.bin .add a e) λf=>B.pv (V.bin .add f (.int .i64 1)) λg=>B.pv (V.bin .leq c g) λi=>B.cond i (zj.k3 C E f1 f2 Q Y1 j a b k l c h) (Q (.tup []) h)
@[simp] def zj.l5(C:z3)(E:z8)(f1 f2:Nat)(Q:zQ)(a b c d e:za):zG|[f],h,Y1=>zj.k4 C E f1 f2 Q Y1 a b c d e f h|_,_,_=>False
@[simp] def zj.k6(C:z3)(E:z8)(f1 f2:Nat)(Q:zQ)(g a b i j:za)(h:zb):Prop:=B.pv (V.bin .quo b (.int .i64 4)) λc=>B.pv (V.bin .mul c (.int .i64 2)) λd=>B.pv (V.bin .add a d) λe=>B.pv (V.bin .sub e (.int .i64 1)) λf=>zbg (zj.l5 C E f1 f2 Q g a b i j) [f] h
@[simp] def zj.k7(C:z3)(E:z8)(f1 f2:Nat)(Q:zQ)(e f a:za)(h:zb):Prop:=B.pv (V.toInt .u64 a) λb=>B.zgc h (some [.int .u64 0]) λc h=>B.st h (.ptr c 0 0) b λh=>B.call C f2 [a] h λd h=>zj.k6 C E f1 f2 Q e f a (.ptr c 0 0) d h
@[simp] def zj.k8(C:z3)(E:z8)(f1 f2:Nat)(Q:zQ)(d b e:za)(h:zb):Prop:=B.pv (V.bin .sub e b) λa=>B.pv (V.bin .geq a (.int .i64 8)) λc=>B.cond c (zj.k7 C E f1 f2 Q d b a h) (Q (.tup []) h)
@[simp] def zj.cps(C:z3)(E:z8)(f1 f2:Nat)(a b c:za)(h:zb)(Q:zQ):Prop:=zj.k8 C E f1 f2 Q a b c h
@[simp] def zo.k1(C:z3)(E:z8)(f1 f2:Nat)(Q:zQ)(e a:za)(h:zb):Prop:=B.ld h e λb=>B.pv (V.bin .eql b (.int .i64 0)) λc=>B.cond c (Q (.tup [a,(.int .i64 1)]) h) (B.pv (V.bin .eql b (.int .i64 12)) λd=>B.cond d (Q (.tup [a,(.int .i64 2)]) h) (Q (.tup [a,(.int .i64 0)]) h))
@[simp] def zo.k2(C:z3)(E:z8)(f1 f2:Nat)(Q:zQ)(b g a e c f:za)(h:zb):Prop:=B.pv (V.bin .geq g (.int .i64 8)) λi=>B.cond i (B.pv (V.bin .geq g (.int .i64 50)) λj=>B.cond j (B.call C f1 [b,e,a] h λk h=>B.call C f1 [b,c,a] h λl h=>B.call C f1 [b,f,a] h λm h=>B.call C f2 [b,k,l,m,a] h λd h=>zo.k1 C E f1 f2 Q a d h) (B.call C f2 [b,e,c,f,a] h λd h=>zo.k1 C E f1 f2 Q a d h)) (zo.k1 C E f1 f2 Q a c h)
@[simp] def zo.k3(C:z3)(E:z8)(f1 f2:Nat)(Q:zQ)(g i a j b c:za)(h:zb):Prop:=B.pv (V.bin .quo a (.int .i64 4)) λd=>B.pv (V.bin .mul d (.int .i64 3)) λe=>B.pv (V.bin .add i e) λf=>zo.k2 C E f1 f2 Q g a j b c f h
@[simp] def zo.k4(C:z3)(E:z8)(f1 f2:Nat)(Q:zQ)(g a b i c:za)(h:zb):Prop:=B.pv (V.bin .quo b (.int .i64 4)) λd=>B.pv (V.bin .mul d (.int .i64 2)) λe=>B.pv (V.bin .add a e) λf=>zo.k3 C E f1 f2 Q g a b i c f h
@[simp] def zo.k5(C:z3)(E:z8)(f1 f2:Nat)(Q:zQ)(f a b g:za)(h:zb):Prop:=B.pv (V.bin .quo b (.int .i64 4)) λc=>B.pv (V.bin .mul c (.int .i64 1)) λd=>B.pv (V.bin .add a d) λe=>zo.k4 C E f1 f2 Q f a b g e h
@[simp] def zo.cps(C:z3)(E:z8)(f1 f2:Nat)(c a d:za)(h:zb)(Q:zQ):Prop:=B.pv (V.bin .sub d a) λb=>B.zgc h (some [.int .i64 0]) λe h=>zo.k5 C E f1 f2 Q c a b (.ptr e 0 0) h
@[simp] def zbr.k1(C:z3)(E:z8)(Q:zQ)(Y1:zL)(a b c:za)(h:zb):Prop:=B.pv (V.bin .lss b c) λd=>B.cond d (B.pv (V.zde E.es a c) λe=>E.ld h e λf=>B.pv (V.zde E.es a b) λg=>E.ld h g λi=>B.pv (V.zde E.es a b) λj=>E.st h j f λh=>B.pv (V.zde E.es a c) λk=>E.st h k i λh=>B.pv (V.bin .add b (.int .i64 1)) λl=>B.pv (V.bin .sub c (.int .i64 1)) λm=>Y1 [l,m] h) (Q (.tup []) h)
@[simp] def zbr.l2(C:z3)(E:z8)(Q:zQ)(a:za):zG|[b,c],h,Y1=>zbr.k1 C E Q Y1 a b c h|_,_,_=>False
@[simp] def zbr.cps(C:z3)(E:z8)(b c d:za)(h:zb)(Q:zQ):Prop:=B.pv (V.bin .sub d (.int .i64 1)) λa=>zbg (zbr.l2 C E Q b) [c,a] h
@[simp] def zd.k1(C:z3)(E:z8)(f1:Nat)(Q:zQ)(Y1:zL)(Y2:zL)(b y x v w a:za)(h:zb):Prop:=B.pv (V.bin .lss a x) λd=>B.cond d (B.pv (V.zde E.es b a) λe=>E.ld h e λf=>B.pv (V.bin .sub a (.int .i64 1)) λg=>B.pv (V.zde E.es b g) λi=>E.ld h i λj=>B.call C f1 [f,j] h λk h=>B.pv (V.un .not k) λl=>B.cond l (B.pv (V.bin .add w (.int .i64 1)) λc=>Y1 [v,c] h) (B.pv (V.bin .sub a (.int .i64 1)) λm=>B.pv (V.bin .sub a (.int .i64 1)) λn=>B.pv (V.zde E.es b n) λo=>E.ld h o λp=>B.pv (V.zde E.es b a) λq=>E.ld h q λr=>B.pv (V.zde E.es b a) λs=>E.st h s p λh=>B.pv (V.zde E.es b m) λt=>E.st h t r λh=>B.pv (V.bin .add a (.int .i64 1)) λu=>Y2 [u] h)) (B.pv (V.bin .add w (.int .i64 1)) λc=>Y1 [v,c] h)
@[simp] def zd.l2(C:z3)(E:z8)(f1:Nat)(Q:zQ)(Y1:zL)(b c d e f:za):zG|[a],h,Y2=>zd.k1 C E f1 Q Y1 Y2 b c d e f a h|_,_,_=>False
@[simp] def zd.k3(C:z3)(E:z8)(f1:Nat)(Q:zQ)(Y1:zL)(i j c a d:za)(h:zb):Prop:=B.pv (V.bin .sub c a) λe=>B.pv (V.bin .geq e (.int .i64 2)) λf=>B.cond f (B.pv (V.bin .add a (.int .i64 1)) λb=>zbg (zd.l2 C E f1 Q Y1 i j c a d) [b] h) (B.pv (V.bin .add d (.int .i64 1)) λg=>Y1 [a,g] h)
@[simp] def zd.k4(C:z3)(E:z8)(f1:Nat)(Q:zQ)(Y1:zL)(Y3:zL)(a c d e f b:za)(h:zb):Prop:=B.pv (V.bin .geq b (.int .i64 1)) λg=>B.cond g (B.pv (V.zde E.es a b) λi=>E.ld h i λj=>B.pv (V.bin .sub b (.int .i64 1)) λk=>B.pv (V.zde E.es a k) λl=>E.ld h l λm=>B.call C f1 [j,m] h λn h=>B.pv (V.un .not n) λo=>B.cond o (zd.k3 C E f1 Q Y1 a c d e f h) (B.pv (V.bin .sub b (.int .i64 1)) λp=>B.pv (V.bin .sub b (.int .i64 1)) λq=>B.pv (V.zde E.es a q) λr=>E.ld h r λs=>B.pv (V.zde E.es a b) λt=>E.ld h t λu=>B.pv (V.zde E.es a b) λv=>E.st h v s λh=>B.pv (V.zde E.es a p) λw=>E.st h w u λh=>B.pv (V.bin .sub b (.int .i64 1)) λx=>Y3 [x] h)) (zd.k3 C E f1 Q Y1 a c d e f h)
@[simp] def zd.l5(C:z3)(E:z8)(f1:Nat)(Q:zQ)(Y1:zL)(a b c d e:za):zG|[f],h,Y3=>zd.k4 C E f1 Q Y1 Y3 a b c d e f h|_,_,_=>False
@[simp] def zd.k6(C:z3)(E:z8)(f1:Nat)(Q:zQ)(Y1:zL)(c b d a e:za)(h:zb):Prop:=B.pv (V.bin .sub a b) λf=>B.pv (V.bin .geq f (.int .i64 2)) λg=>B.cond g (B.pv (V.bin .sub a (.int .i64 1)) λi=>zbg (zd.l5 C E f1 Q Y1 c b d a e) [i] h) (zd.k3 C E f1 Q Y1 c b d a e h)
@[simp] def zd.k7(C:z3)(E:z8)(f1:Nat)(Q:zQ)(Y1:zL)(a l m b n:za)(h:zb):Prop:=B.pv (V.bin .sub b (.int .i64 1)) λc=>B.pv (V.bin .sub b (.int .i64 1)) λd=>B.pv (V.zde E.es a d) λe=>E.ld h e λf=>B.pv (V.zde E.es a b) λg=>E.ld h g λi=>B.pv (V.zde E.es a b) λj=>E.st h j f λh=>B.pv (V.zde E.es a c) λk=>E.st h k i λh=>zd.k6 C E f1 Q Y1 a l m b n h
@[simp] def zd.k8(C:z3)(E:z8)(f1:Nat)(Q:zQ)(Y1:zL)(e a b f g:za)(h:zb):Prop:=B.pv (V.bin .sub b a) λc=>B.pv (V.bin .lss c (.int .i64 50)) λd=>B.cond d (Q (.bool false) h) (zd.k7 C E f1 Q Y1 e a b f g h)
@[simp] def zd.k9(C:z3)(E:z8)(f1:Nat)(Q:zQ)(Y1:zL)(Y4:zL)(c t d b u:za)(h:zb):Prop:=B.pv (V.bin .lss b d) λa=>B.gd h a true (λK=>K c h) λe h=>B.gd h a true (λK=>K b h) λf h=>B.gd h a true (λK=>B.pv (V.zde E.es e f) λv=>K v h) λg h=>B.gd h a true (λK=>E.ld h g λv=>K v h) λi h=>B.gd h a true (λK=>K c h) λj h=>B.gd h a true (λK=>K b h) λk h=>B.gd h a true (λK=>B.pv (V.bin .sub k (.int .i64 1)) λv=>K v h) λl h=>B.gd h a true (λK=>B.pv (V.zde E.es j l) λv=>K v h) λm h=>B.gd h a true (λK=>E.ld h m λv=>K v h) λn h=>B.gd h a true (λK=>B.call C f1 [i,n] h K) λo h=>B.gd h a true (λK=>B.pv (V.un .not o) λv=>K v h) λp h=>B.pick a p (.bool false) λq=>B.cond q (B.pv (V.bin .add b (.int .i64 1)) λr=>Y4 [r] h) (B.pv (V.bin .eql b d) λs=>B.cond s (Q (.bool true) h) (zd.k8 C E f1 Q Y1 c t d b u h))
@[simp] def zd.l10(C:z3)(E:z8)(f1:Nat)(Q:zQ)(Y1:zL)(a b c d:za):zG|[e],h,Y4=>zd.k9 C E f1 Q Y1 Y4 a b c e d h|_,_,_=>False
@[simp] def zd.k11(C:z3)(E:z8)(f1:Nat)(Q:zQ)(Y1:zL)(c d e f a:za)(h:zb):Prop:=B.pv (V.bin .lss a (.int .i64 5)) λb=>B.cond b (zbg (zd.l10 C E f1 Q Y1 c d e a) [f] h) (Q (.bool false) h)
@[simp] def zd.l12(C:z3)(E:z8)(f1:Nat)(Q:zQ)(a b c:za):zG|[d,e],h,Y1=>zd.k11 C E f1 Q Y1 a b c d e h|_,_,_=>False
@[simp] def zd.cps(C:z3)(E:z8)(f1:Nat)(c a d:za)(h:zb)(Q:zQ):Prop:=B.pv (V.bin .add a (.int .i64 1)) λb=>zbg (zd.l12 C E f1 Q c a d) [b,(.int .i64 0)] h
@[simp] def zk.k1(C:z3)(E:z8)(f1:Nat)(Q:zQ)(Y1:zL)(c n b a:za)(h:zb):Prop:=B.pv (V.bin .gtr b a) λd=>B.cond d (Q b h) (B.pv (V.zde E.es c a) λe=>E.ld h e λf=>B.pv (V.zde E.es c b) λg=>E.ld h g λi=>B.pv (V.zde E.es c b) λj=>E.st h j f λh=>B.pv (V.zde E.es c a) λk=>E.st h k i λh=>B.pv (V.bin .add b (.int .i64 1)) λl=>B.pv (V.bin .sub a (.int .i64 1)) λm=>Y1 [l,m] h)
@[simp] def zk.k2(C:z3)(E:z8)(f1:Nat)(Q:zQ)(Y1:zL)(Y2:zL)(c d e b:za)(h:zb):Prop:=B.pv (V.bin .leq e b) λa=>B.gd h a true (λK=>K c h) λf h=>B.gd h a true (λK=>K d h) λg h=>B.gd h a true (λK=>B.pv (V.zde E.es f g) λv=>K v h) λi h=>B.gd h a true (λK=>E.ld h i λv=>K v h) λj h=>B.gd h a true (λK=>K c h) λk h=>B.gd h a true (λK=>K b h) λl h=>B.gd h a true (λK=>B.pv (V.zde E.es k l) λv=>K v h) λm h=>B.gd h a true (λK=>E.ld h m λv=>K v h) λn h=>B.gd h a true (λK=>B.call C f1 [j,n] h K) λo h=>B.pick a o (.bool false) λp=>B.cond p (B.pv (V.bin .sub b (.int .i64 1)) λq=>Y2 [q] h) (zk.k1 C E f1 Q Y1 c d e b h)
@[simp] def zk.l3(C:z3)(E:z8)(f1:Nat)(Q:zQ)(Y1:zL)(b c d:za):zG|[a],h,Y2=>zk.k2 C E f1 Q Y1 Y2 b c d a h|_,_,_=>False
@[simp] def zk.k4(C:z3)(E:z8)(f1:Nat)(Q:zQ)(Y1:zL)(Y3:zL)(d e b c:za)(h:zb):Prop:=B.pv (V.bin .leq b c) λa=>B.gd h a true (λK=>K d h) λf h=>B.gd h a true (λK=>K e h) λg h=>B.gd h a true (λK=>B.pv (V.zde E.es f g) λv=>K v h) λi h=>B.gd h a true (λK=>E.ld h i λv=>K v h) λj h=>B.gd h a true (λK=>K d h) λk h=>B.gd h a true (λK=>K b h) λl h=>B.gd h a true (λK=>B.pv (V.zde E.es k l) λv=>K v h) λm h=>B.gd h a true (λK=>E.ld h m λv=>K v h) λn h=>B.gd h a true (λK=>B.call C f1 [j,n] h K) λo h=>B.gd h a true (λK=>B.pv (V.un .not o) λv=>K v h) λp h=>B.pick a p (.bool false) λq=>B.cond q (B.pv (V.bin .add b (.int .i64 1)) λr=>Y3 [r] h) (zbg (zk.l3 C E f1 Q Y1 d e b) [c] h)
@[simp] def zk.l5(C:z3)(E:z8)(f1:Nat)(Q:zQ)(Y1:zL)(b c a:za):zG|[d],h,Y3=>zk.k4 C E f1 Q Y1 Y3 b c d a h|_,_,_=>False
@[simp] def zk.l6(C:z3)(E:z8)(f1:Nat)(Q:zQ)(b c:za):zG|[d,a],h,Y1=>zbg (zk.l5 C E f1 Q Y1 b c a) [d] h|_,_,_=>False
@[simp] def zk.k7(C:z3)(E:z8)(f1:Nat)(Q:zQ)(d a e:za)(h:zb):Prop:=B.pv (V.bin .add a (.int .i64 1)) λb=>B.pv (V.bin .sub e (.int .i64 1)) λc=>zbg (zk.l6 C E f1 Q d a) [b,c] h
@[simp] def zk.k8(C:z3)(E:z8)(f1:Nat)(Q:zQ)(a b k c:za)(h:zb):Prop:=B.pv (V.zde E.es a c) λd=>E.ld h d λe=>B.pv (V.zde E.es a b) λf=>E.ld h f λg=>B.pv (V.zde E.es a b) λi=>E.st h i e λh=>B.pv (V.zde E.es a c) λj=>E.st h j g λh=>zk.k7 C E f1 Q a b k h
@[simp] def zk.cps(C:z3)(E:z8)(f1:Nat)(a b c d:za)(h:zb)(Q:zQ):Prop:=zk.k8 C E f1 Q a b c d h
@[simp] def ze.k1(C:z3)(E:z8)(f1:Nat)(Q:zQ)(b j a:za)(h:zb):Prop:=B.pv (V.zde E.es b j) λc=>E.ld h c λd=>B.pv (V.zde E.es b a) λe=>E.ld h e λf=>B.pv (V.zde E.es b a) λg=>E.st h g d λh=>B.pv (V.zde E.es b j) λi=>E.st h i f λh=>Q (.tup [a,(.bool false)]) h
@[simp] def ze.k2(C:z3)(E:z8)(f1:Nat)(Q:zQ)(Y1:zL)(c n b a:za)(h:zb):Prop:=B.pv (V.bin .gtr b a) λd=>B.cond d (ze.k1 C E f1 Q c n a h) (B.pv (V.zde E.es c a) λe=>E.ld h e λf=>B.pv (V.zde E.es c b) λg=>E.ld h g λi=>B.pv (V.zde E.es c b) λj=>E.st h j f λh=>B.pv (V.zde E.es c a) λk=>E.st h k i λh=>B.pv (V.bin .add b (.int .i64 1)) λl=>B.pv (V.bin .sub a (.int .i64 1)) λm=>Y1 [l,m] h)
@[simp] def ze.k3(C:z3)(E:z8)(f1:Nat)(Q:zQ)(Y1:zL)(Y2:zL)(d r c b:za)(h:zb):Prop:=B.pv (V.bin .leq c b) λa=>B.gd h a true (λK=>K d h) λe h=>B.gd h a true (λK=>K b h) λf h=>B.gd h a true (λK=>B.pv (V.zde E.es e f) λv=>K v h) λg h=>B.gd h a true (λK=>E.ld h g λv=>K v h) λi h=>B.gd h a true (λK=>K d h) λj h=>B.gd h a true (λK=>K r h) λk h=>B.gd h a true (λK=>B.pv (V.zde E.es j k) λv=>K v h) λl h=>B.gd h a true (λK=>E.ld h l λv=>K v h) λm h=>B.gd h a true (λK=>B.call C f1 [i,m] h K) λn h=>B.gd h a true (λK=>B.pv (V.un .not n) λv=>K v h) λo h=>B.pick a o (.bool false) λp=>B.cond p (B.pv (V.bin .sub b (.int .i64 1)) λq=>Y2 [q] h) (ze.k2 C E f1 Q Y1 d r c b h)
@[simp] def ze.l4(C:z3)(E:z8)(f1:Nat)(Q:zQ)(Y1:zL)(c d a:za):zG|[b],h,Y2=>ze.k3 C E f1 Q Y1 Y2 c d a b h|_,_,_=>False
@[simp] def ze.k5(C:z3)(E:z8)(f1:Nat)(Q:zQ)(Y1:zL)(Y3:zL)(d q b c:za)(h:zb):Prop:=B.pv (V.bin .leq b c) λa=>B.gd h a true (λK=>K d h) λe h=>B.gd h a true (λK=>K b h) λf h=>B.gd h a true (λK=>B.pv (V.zde E.es e f) λv=>K v h) λg h=>B.gd h a true (λK=>E.ld h g λv=>K v h) λi h=>B.gd h a true (λK=>K d h) λj h=>B.gd h a true (λK=>K q h) λk h=>B.gd h a true (λK=>B.pv (V.zde E.es j k) λv=>K v h) λl h=>B.gd h a true (λK=>E.ld h l λv=>K v h) λm h=>B.gd h a true (λK=>B.call C f1 [i,m] h K) λn h=>B.pick a n (.bool false) λo=>B.cond o (B.pv (V.bin .add b (.int .i64 1)) λp=>Y3 [p] h) (zbg (ze.l4 C E f1 Q Y1 d q b) [c] h)
@[simp] def ze.l6(C:z3)(E:z8)(f1:Nat)(Q:zQ)(Y1:zL)(c d a:za):zG|[b],h,Y3=>ze.k5 C E f1 Q Y1 Y3 c d b a h|_,_,_=>False
@[simp] def ze.l7(C:z3)(E:z8)(f1:Nat)(Q:zQ)(c d:za):zG|[a,b],h,Y1=>zbg (ze.l6 C E f1 Q Y1 c d b) [a] h|_,_,_=>False
@[simp] def ze.k8(C:z3)(E:z8)(f1:Nat)(Q:zQ)(e f a b:za)(h:zb):Prop:=B.pv (V.bin .add a (.int .i64 1)) λc=>B.pv (V.bin .sub b (.int .i64 1)) λd=>zbg (ze.l7 C E f1 Q e f) [c,d] h
@[simp] def ze.k9(C:z3)(E:z8)(f1:Nat)(Q:zQ)(a k b c:za)(h:zb):Prop:=B.pv (V.zde E.es a c) λd=>E.ld h d λe=>B.pv (V.zde E.es a b) λf=>E.ld h f λg=>B.pv (V.zde E.es a b) λi=>E.st h i e λh=>B.pv (V.zde E.es a c) λj=>E.st h j g λh=>ze.k8 C E f1 Q a k b c h
@[simp] def ze.k10(C:z3)(E:z8)(f1:Nat)(Q:zQ)(b d c a:za)(h:zb):Prop:=B.pv (V.bin .gtr c a) λe=>B.cond e (B.pv (V.zde E.es b d) λf=>E.ld h f λg=>B.pv (V.zde E.es b a) λi=>E.ld h i λj=>B.pv (V.zde E.es b a) λk=>E.st h k g λh=>B.pv (V.zde E.es b d) λl=>E.st h l j λh=>Q (.tup [a,(.bool true)]) h) (ze.k9 C E f1 Q b d c a h)
@[simp] def ze.k11(C:z3)(E:z8)(f1:Nat)(Q:zQ)(Y4:zL)(d e c b:za)(h:zb):Prop:=B.pv (V.bin .leq c b) λa=>B.gd h a true (λK=>K d h) λf h=>B.gd h a true (λK=>K b h) λg h=>B.gd h a true (λK=>B.pv (V.zde E.es f g) λv=>K v h) λi h=>B.gd h a true (λK=>E.ld h i λv=>K v h) λj h=>B.gd h a true (λK=>K d h) λk h=>B.gd h a true (λK=>K e h) λl h=>B.gd h a true (λK=>B.pv (V.zde E.es k l) λv=>K v h) λm h=>B.gd h a true (λK=>E.ld h m λv=>K v h) λn h=>B.gd h a true (λK=>B.call C f1 [j,n] h K) λo h=>B.gd h a true (λK=>B.pv (V.un .not o) λv=>K v h) λp h=>B.pick a p (.bool false) λq=>B.cond q (B.pv (V.bin .sub b (.int .i64 1)) λr=>Y4 [r] h) (ze.k10 C E f1 Q d e c b h)
@[simp] def ze.l12(C:z3)(E:z8)(f1:Nat)(Q:zQ)(c d a:za):zG|[b],h,Y4=>ze.k11 C E f1 Q Y4 c d a b h|_,_,_=>False
@[simp] def ze.k13(C:z3)(E:z8)(f1:Nat)(Q:zQ)(Y5:zL)(d e b c:za)(h:zb):Prop:=B.pv (V.bin .leq b c) λa=>B.gd h a true (λK=>K d h) λf h=>B.gd h a true (λK=>K b h) λg h=>B.gd h a true (λK=>B.pv (V.zde E.es f g) λv=>K v h) λi h=>B.gd h a true (λK=>E.ld h i λv=>K v h) λj h=>B.gd h a true (λK=>K d h) λk h=>B.gd h a true (λK=>K e h) λl h=>B.gd h a true (λK=>B.pv (V.zde E.es k l) λv=>K v h) λm h=>B.gd h a true (λK=>E.ld h m λv=>K v h) λn h=>B.gd h a true (λK=>B.call C f1 [j,n] h K) λo h=>B.pick a o (.bool false) λp=>B.cond p (B.pv (V.bin .add b (.int .i64 1)) λq=>Y5 [q] h) (zbg (ze.l12 C E f1 Q d e b) [c] h)
@[simp] def ze.l14(C:z3)(E:z8)(f1:Nat)(Q:zQ)(c d a:za):zG|[b],h,Y5=>ze.k13 C E f1 Q Y5 c d b a h|_,_,_=>False
@[simp] def ze.k15(C:z3)(E:z8)(f1:Nat)(Q:zQ)(d a e:za)(h:zb):Prop:=B.pv (V.bin .add a (.int .i64 1)) λb=>B.pv (V.bin .sub e (.int .i64 1)) λc=>zbg (ze.l14 C E f1 Q d a c) [b] h
@[simp] def ze.k16(C:z3)(E:z8)(f1:Nat)(Q:zQ)(a b k c:za)(h:zb):Prop:=B.pv (V.zde E.es a c) λd=>E.ld h d λe=>B.pv (V.zde E.es a b) λf=>E.ld h f λg=>B.pv (V.zde E.es a b) λi=>E.st h i e λh=>B.pv (V.zde E.es a c) λj=>E.st h j g λh=>ze.k15 C E f1 Q a b k h
@[simp] def ze.cps(C:z3)(E:z8)(f1:Nat)(a b c d:za)(h:zb)(Q:zQ):Prop:=ze.k16 C E f1 Q a b c d h
@[simp] def z4.k1(C:z3)(E:z8)(f1:Nat)(Q:zQ)(Y1:zL)(a x b d c:za)(h:zb):Prop:=B.pv (V.bin .add b d) λe=>B.pv (V.zde E.es a e) λf=>E.ld h f λg=>B.pv (V.bin .add b c) λi=>B.pv (V.zde E.es a i) λj=>E.ld h j λk=>B.call C f1 [g,k] h λl h=>B.pv (V.un .not l) λm=>B.cond m (Q (.tup []) h) (B.pv (V.bin .add b d) λn=>B.pv (V.bin .add b c) λo=>B.pv (V.bin .add b c) λp=>B.pv (V.zde E.es a p) λq=>E.ld h q λr=>B.pv (V.bin .add b d) λs=>B.pv (V.zde E.es a s) λt=>E.ld h t λu=>B.pv (V.zde E.es a n) λv=>E.st h v r λh=>B.pv (V.zde E.es a o) λw=>E.st h w u λh=>Y1 [c] h)
@[simp] def z4.k2(C:z3)(E:z8)(f1:Nat)(Q:zQ)(Y1:zL)(c e d f b:za)(h:zb):Prop:=B.pv (V.bin .add b (.int .i64 1)) λg=>B.pv (V.bin .lss g e) λa=>B.gd h a true (λK=>K c h) λi h=>B.gd h a true (λK=>K d h) λj h=>B.gd h a true (λK=>K b h) λk h=>B.gd h a true (λK=>B.pv (V.bin .add j k) λv=>K v h) λl h=>B.gd h a true (λK=>B.pv (V.zde E.es i l) λv=>K v h) λm h=>B.gd h a true (λK=>E.ld h m λv=>K v h) λn h=>B.gd h a true (λK=>K c h) λo h=>B.gd h a true (λK=>K d h) λp h=>B.gd h a true (λK=>K b h) λq h=>B.gd h a true (λK=>B.pv (V.bin .add p q) λv=>K v h) λr h=>B.gd h a true (λK=>B.pv (V.bin .add r (.int .i64 1)) λv=>K v h) λs h=>B.gd h a true (λK=>B.pv (V.zde E.es o s) λv=>K v h) λt h=>B.gd h a true (λK=>E.ld h t λv=>K v h) λu h=>B.gd h a true (λK=>B.call C f1 [n,u] h K) λw h=>B.pick a w (.bool false) λx=>B.cond x (B.pv (V.bin .add b (.int .i64 1)) λy=>z4.k1 C E f1 Q Y1 c e d f y h) (z4.k1 C E f1 Q Y1 c e d f b h)
@[simp] def z4.k3(C:z3)(E:z8)(f1:Nat)(Q:zQ)(Y1:zL)(f b g c:za)(h:zb):Prop:=B.pv (V.bin .mul (.int .i64 2) c) λd=>B.pv (V.bin .add d (.int .i64 1)) λa=>B.pv (V.bin .geq a b) λe=>B.cond e (Q (.tup []) h) (z4.k2 C E f1 Q Y1 f b g c a h)
@[simp] def z4.l4(C:z3)(E:z8)(f1:Nat)(Q:zQ)(a b c:za):zG|[d],h,Y1=>z4.k3 C E f1 Q Y1 a b c d h|_,_,_=>False
@[simp] def z4.cps(C:z3)(E:z8)(f1:Nat)(a b c d:za)(h:zb)(Q:zQ):Prop:=zbg (z4.l4 C E f1 Q a c d) [b] h
@[simp] def zdv.cps(C:z3)(E:z8)(f1:Nat)(d a e:za)(h:zb)(Q:zQ):Prop:=B.pv (V.bin .sub a (.int .i64 1)) λf=>B.pv (V.bin .add a (.int .i64 1)) λb=>B.call C f1 [d,f,a,b,e] h λc h=>Q c h
@[simp] def zdz.k1(C:z3)(E:z8)(f1:Nat)(Q:zQ)(d k l m e:za)(h:zb):Prop:=B.call C f1 [d,k,l,e] h λa h=>B.pv (V.ext 0 a) λf=>B.pv (V.ext 1 a) λg=>B.call C f1 [d,g,m,e] h λb h=>B.pv (V.ext 0 b) λi=>B.pv (V.ext 1 b) λn=>B.call C f1 [d,f,i,e] h λc h=>B.pv (V.ext 0 c) λo=>B.pv (V.ext 1 c) λj=>Q j h
@[simp] def zdz.cps(C:z3)(E:z8)(f1:Nat)(a b c d e:za)(h:zb)(Q:zQ):Prop:=zdz.k1 C E f1 Q a b c d e h
@[simp] def zdy.k1(C:z3)(E:z8)(f1:Nat)(Q:zQ)(c a b d:za)(h:zb):Prop:=B.pv (V.zde E.es c b) λe=>E.ld h e λf=>B.pv (V.zde E.es c a) λg=>E.ld h g λi=>B.call C f1 [f,i] h λj h=>B.cond j (B.nilCheck d λk=>B.ld h k λl=>B.pv (V.bin .add l (.int .i64 1)) λm=>B.nilCheck d λn=>B.st h n m λh=>Q (.tup [b,a]) h) (Q (.tup [a,b]) h)
@[simp] def zdy.cps(C:z3)(E:z8)(f1:Nat)(a b c d:za)(h:zb)(Q:zQ):Prop:=zdy.k1 C E f1 Q a b c d h
@[simp] def zck.k1(C:z3)(E:z8)(Q:zQ)(Z1:Nat->zb->Prop)(a d:za)(h:zb):Prop:=B.ld h a λe=>B.zgc h (zew [(0,E.kp,d)] (zi9 1 E.z)) λb h=>B.appW h E.es E.bytes e (.sl b 0 0 1 E.es 1) λc h=>B.st h a c λh=>Z1 0 h
@[simp] def zck.r2(C:z3)(E:z8)(Q:zQ)(a:za)(b:za)(h:zb)(Z1:Nat->zb->Prop):Prop:=zck.k1 C E Q Z1 a b h
@[simp] def zck.k3(C:z3)(E:z8)(Q:zQ)(c d:za)(h:zb):Prop:=B.zgc h (A.zih c) λa h=>znr C d (W1 λe h Z1=>zck.r2 C E Q (.ptr a 0 0) e h Z1) h (RK [(0,λh=>B.ld h (.ptr a 0 0) λb=>Q b h)])
@[simp] def zck.cps(C:z3)(E:z8)(a b:za)(h:zb)(Q:zQ):Prop:=zck.k3 C E Q a b h
@[simp] def zcd.k1(C:z3)(N:zN)(Q:zQ)(a:za)(h:zb):Prop:=B.nilCheck a λu=>B.ld h u λv=>B.nilCheck a λw=>B.ld h w λx=>B.pv (V.bin .shl x (.int .u64 13)) λy=>B.pv (V.bin .xor v y) λb=>B.nilCheck a λc=>B.st h c b λh=>B.nilCheck a λd=>B.ld h d λe=>B.nilCheck a λf=>B.ld h f λg=>B.pv (V.bin .shr g (.int .u64 7)) λi=>B.pv (V.bin .xor e i) λj=>B.nilCheck a λk=>B.st h k j λh=>B.nilCheck a λl=>B.ld h l λm=>B.nilCheck a λn=>B.ld h n λo=>B.pv (V.bin .shl o (.int .u64 17)) λp=>B.pv (V.bin .xor m p) λq=>B.nilCheck a λr=>B.st h r q λh=>B.nilCheck a λs=>B.ld h s λt=>Q t h
variable(C:z3)(N:Nat→Nat)
@[simp] def zcd.cps(a:za)(h:zb)(Q:zQ):Prop:=zcd.k1 C N Q a h
def zcd.Imp:Prop:=im1 C (N 298) (zcd.cps C N)
@[simp] def zcv.cps(a:za)(h:zb)(Q:zQ):Prop:=B.pv (V.toInt .u64 a) λb=>B.call C (N 287) [b] h λc h=>B.pv (V.bin .shl (.int .u64 1) c) λd=>Q d h
def zcv.Imp:Prop:=im1 C (N 299) (zcv.cps C N)
def zbh.cps(a:za)(h:zb)(Q:zQ):Prop:=zfg.cps C (zc3 16 (.str []) 0) (N 287) (N 375) a h Q
def zbh.Imp:Prop:=im1 C (N 364) (zbh.cps C N)
def zcg.cps(a b c d:za)(h:zb)(Q:zQ):Prop:=zn.cps C (zc3 16 (.str []) 0) (N 377) (N 378) (N 379) (N 375) (N 380) (N 381) (N 382) (N 383) (N 384) (N 385) a b c d h Q
def zcg.Imp:Prop:=im4 C (N 375) (zcg.cps C N)
def zbi.cps(a b c d:za)(h:zb)(Q:zQ):Prop:=zk.cps C (zc3 16 (.str []) 0) (N 377) a b c d h Q
def zbi.Imp:Prop:=im4 C (N 378) (zbi.cps C N)
def zb2.cps(a b c d:za)(h:zb)(Q:zQ):Prop:=ze.cps C (zc3 16 (.str []) 0) (N 377) a b c d h Q
def zb2.Imp:Prop:=im4 C (N 379) (zb2.cps C N)
def z9.cps(a b c:za)(h:zb)(Q:zQ):Prop:=zd.cps C (zc3 16 (.str []) 0) (N 377) a b c h Q
def z9.Imp:Prop:=im3 C (N 380) (z9.cps C N)
def zbq.cps(C:z3)(N:zN)(a b c:za)(h:zb)(Q:zQ):Prop:=zbr.cps C (zc3 16 (.str []) 0) a b c h Q
def zbq.Imp:Prop:=im3 C (N 381) (zbq.cps C N)
def zbw.cps(a b c:za)(h:zb)(Q:zQ):Prop:=zo.cps C (zc3 16 (.str []) 0) (N 387) (N 388) a b c h Q
def zbw.Imp:Prop:=im3 C (N 382) (zbw.cps C N)
def zbo.cps(a b c:za)(h:zb)(Q:zQ):Prop:=zj.cps C (zc3 16 (.str []) 0) (N 298) (N 299) a b c h Q
def zbo.Imp:Prop:=im3 C (N 383) (zbo.cps C N)
def zca.cps(a b c:za)(h:zb)(Q:zQ):Prop:=zw.cps C (zc3 16 (.str []) 0) (N 386) a b c h Q
def zca.Imp:Prop:=im3 C (N 384) (zca.cps C N)
def zbn.cps(a b c:za)(h:zb)(Q:zQ):Prop:=zz.cps C (zc3 16 (.str []) 0) (N 377) a b c h Q
def zbn.Imp:Prop:=im3 C (N 385) (zbn.cps C N)
def zb8.cps(a b c d:za)(h:zb)(Q:zQ):Prop:=z4.cps C (zc3 16 (.str []) 0) (N 377) a b c d h Q
def zb8.Imp:Prop:=im4 C (N 386) (zb8.cps C N)
def zbj.cps(a b c:za)(h:zb)(Q:zQ):Prop:=zdv.cps C (zc3 16 (.str []) 0) (N 388) a b c h Q
def zbj.Imp:Prop:=im3 C (N 387) (zbj.cps C N)
def zco.cps(a b c d e:za)(h:zb)(Q:zQ):Prop:=zdz.cps C (zc3 16 (.str []) 0) (N 390) a b c d e h Q
def zco.Imp:Prop:=im5 C (N 388) (zco.cps C N)
def zcn.cps(a b c d:za)(h:zb)(Q:zQ):Prop:=zdy.cps C (zc3 16 (.str []) 0) (N 377) a b c d h Q
def zcn.Imp:Prop:=im4 C (N 390) (zcn.cps C N)
@[simp] def zb4.cps(b:za)(h:zb)(Q:zQ):Prop:=B.call C (N 529) [b] h λa h=>B.call C (N 364) [a] h λc h=>Q a h
def zb4.Imp:Prop:=im1 C (N 510) (zb4.cps C N)
def zbf.cps(a:za)(h:zb)(Q:zQ):Prop:=zfg.cps C (zc3 8 (.int .i64 0) 0) (N 287) (N 531) a h Q
def zbf.Imp:Prop:=im1 C (N 511) (zbf.cps C N)
@[simp] def zce.cps(b:za)(h:zb)(Q:zQ):Prop:=B.call C (N 530) [b] h λa h=>B.call C (N 511) [a] h λc h=>Q a h
def zce.Imp:Prop:=im1 C (N 515) (zce.cps C N)
@[simp] def zc0.cps(a:za)(h:zb)(Q:zQ):Prop:=B.call C (N 532) [.zfa,a] h λb h=>Q b h
def zc0.Imp:Prop:=im1 C (N 529) (zc0.cps C N)
@[simp] def zc6.cps(a:za)(h:zb)(Q:zQ):Prop:=B.call C (N 533) [.zfa,a] h λb h=>Q b h
def zc6.Imp:Prop:=im1 C (N 530) (zc6.cps C N)
def zcm.cps(a b c d:za)(h:zb)(Q:zQ):Prop:=zn.cps C (zc3 8 (.int .i64 0) 0) (N 534) (N 535) (N 536) (N 531) (N 537) (N 538) (N 539) (N 540) (N 541) (N 542) a b c d h Q
def zcm.Imp:Prop:=im4 C (N 531) (zcm.cps C N)
def zb3.cps(C:z3)(N:zN)(a b:za)(h:zb)(Q:zQ):Prop:=zck.cps C (zc3 16 (.str []) 0) a b h Q
def zb3.Imp:Prop:=im2 C (N 532) (zb3.cps C N)
def zci.cps(C:z3)(N:zN)(a b:za)(h:zb)(Q:zQ):Prop:=zck.cps C (zc3 8 (.int .i64 0) 0) a b h Q
def zci.Imp:Prop:=im2 C (N 533) (zci.cps C N)
def zbl.cps(a b c d:za)(h:zb)(Q:zQ):Prop:=zk.cps C (zc3 8 (.int .i64 0) 0) (N 534) a b c d h Q
def zbl.Imp:Prop:=im4 C (N 535) (zbl.cps C N)
def zb9.cps(a b c d:za)(h:zb)(Q:zQ):Prop:=ze.cps C (zc3 8 (.int .i64 0) 0) (N 534) a b c d h Q
def zb9.Imp:Prop:=im4 C (N 536) (zb9.cps C N)
def zba.cps(a b c:za)(h:zb)(Q:zQ):Prop:=zd.cps C (zc3 8 (.int .i64 0) 0) (N 534) a b c h Q
def zba.Imp:Prop:=im3 C (N 537) (zba.cps C N)
def zbv.cps(C:z3)(N:zN)(a b c:za)(h:zb)(Q:zQ):Prop:=zbr.cps C (zc3 8 (.int .i64 0) 0) a b c h Q
def zbv.Imp:Prop:=im3 C (N 538) (zbv.cps C N)
def zby.cps(a b c:za)(h:zb)(Q:zQ):Prop:=zo.cps C (zc3 8 (.int .i64 0) 0) (N 544) (N 545) a b c h Q
def zby.Imp:Prop:=im3 C (N 539) (zby.cps C N)
def zbt.cps(a b c:za)(h:zb)(Q:zQ):Prop:=zj.cps C (zc3 8 (.int .i64 0) 0) (N 298) (N 299) a b c h Q
def zbt.Imp:Prop:=im3 C (N 540) (zbt.cps C N)
def zch.cps(a b c:za)(h:zb)(Q:zQ):Prop:=zw.cps C (zc3 8 (.int .i64 0) 0) (N 543) a b c h Q
def zch.Imp:Prop:=im3 C (N 541) (zch.cps C N)
def zbs.cps(a b c:za)(h:zb)(Q:zQ):Prop:=zz.cps C (zc3 8 (.int .i64 0) 0) (N 534) a b c h Q
def zbs.Imp:Prop:=im3 C (N 542) (zbs.cps C N)
def zcf.cps(a b c d:za)(h:zb)(Q:zQ):Prop:=z4.cps C (zc3 8 (.int .i64 0) 0) (N 534) a b c d h Q
def zcf.Imp:Prop:=im4 C (N 543) (zcf.cps C N)
def zbm.cps(a b c:za)(h:zb)(Q:zQ):Prop:=zdv.cps C (zc3 8 (.int .i64 0) 0) (N 545) a b c h Q
def zbm.Imp:Prop:=im3 C (N 544) (zbm.cps C N)
def zcu.cps(a b c d e:za)(h:zb)(Q:zQ):Prop:=zdz.cps C (zc3 8 (.int .i64 0) 0) (N 547) a b c d e h Q
def zcu.Imp:Prop:=im5 C (N 545) (zcu.cps C N)
def zct.cps(a b c d:za)(h:zb)(Q:zQ):Prop:=zdy.cps C (zc3 8 (.int .i64 0) 0) (N 534) a b c d h Q
def zct.Imp:Prop:=im4 C (N 547) (zct.cps C N)
end Go.Ab
namespace Go.Ab.S24
open List
open Go.Ab Go.Proofs
noncomputable abbrev P:Program:=Try.prog
def lkz:List (Nat×List Nat)->Nat->List Nat|[],_=>[]|(a,b)::r,k=>bif Nat.beq a k then b else lkz r k
def pz(e:List (Nat×List Nat)):Nat->List (Nat×List Nat)|0=>[]|n+1=>pz e n++[(n,lkz e n)]
@[reducible] def LkT(P:Program)(I:Bx)(f:Func)(F:z3->(zQ)->zbk->zb->Prop):Prop:=∀{C:z3}(hC:zjm C)(Q:zQ)(s:zbk)(h:zb),F C Q s h->bwp P C I (f.body.getD .skip) (retB P I f.results.toList Q) s h
theorem eT{P:Program}{C:z3}{I:Bx}(hC:zjm C){c:Code}{Q:Ex->zbk->zb->Prop}{s:zbk}{h:zb}(X:zbk->zb->Prop){p:Prop}(hR:p)(hb:∀s h,X s h->bwp P C I (cB c) Q s h)(e:bwp P C I (cA c) (Ex.then X Q) s h=p:=by kernel_rfl)(hk:isS c=true:=by kernel_rfl):bwp P C I c Q s h:=eS hC X (e1 hR e) hb hk
@[reducible] def on1(F:za->zG):List za->zG|[a],u,v,w=>F a u v w|_,_,_,_=>False
@[reducible] def on2(F:za->za->zG):List za->zG|[a,b],u,v,w=>F a b u v w|_,_,_,_=>False
@[reducible] def on3(F:za->za->za->zG):List za->zG|[a,b,c],u,v,w=>F a b c u v w|_,_,_,_=>False
@[reducible] def on4(F:za->za->za->za->zG):List za->zG|[a,b,c,d],u,v,w=>F a b c d u v w|_,_,_,_=>False
@[reducible] def on5(F:za->za->za->za->za->zG):List za->zG|[a,b,c,d,e],u,v,w=>F a b c d e u v w|_,_,_,_=>False
def N(k:Nat):Nat:=[0,0,0,0,0,0,0,0,0,0,0,0,0,0,0,0,0,0,0,0,0,0,0,0,0,0,0,0,0,0,0,0,0,0,0,0,0,0,0,0,0,0,0,0,0,0,0,0,0,0,0,0,0,0,0,0,0,0,0,0,0,0,0,0,0,0,0,0,0,0,0,0,0,0,0,0,0,0,0,0,0,0,0,0,0,0,0,0,0,0,0,0,0,0,0,0,0,0,0,0,0,0,0,0,0,0,43,0,0,0,0,0,0,0,0,0,0,0,0,0,0,0,0,0,0,0,0,0,0,0,0,0,0,21,0,0,0,0,0,0,0,0,0,0,0,0,0,0,0,0,0,0,0,0,0,19,0,0,0,0,0,0,0,0,0,0,0,0,0,0,0,0,0,0,0,0,0,0,0,0,0,0,0,0,0,0,0,0,0,0,0,0,0,0,0,0,0,0,0,0,0,0,0,0,0,0,0,0,0,0,0,0,0,0,0,0,0,0,0,0,0,0,0,0,0,0,0,0,0,0,0,0,0,0,0,0,0,0,0,0,0,0,0,0,0,0,0,0,0,0,0,0,0,0,0,0,0,0,0,0,0,0,0,0,0,0,0,0,0,0,0,0,0,0,0,0,0,0,0,0,0,0,0,0,0,0,0,59,0,0,0,0,0,0,0,0,0,0,86,85,0,0,0,0,73,74,0,0,0,0,0,0,0,0,0,0,0,0,0,0,0,0,0,0,0,0,0,0,0,0,0,0,0,0,0,0,0,0,0,0,0,0,0,0,0,0,0,0,0,0,0,0,0,0,0,0,0,0,0,0,0,0,0,0,53,0,0,0,0,0,0,0,0,0,0,62,0,81,82,83,80,79,78,77,76,75,90,91,92,93,95,0,0,0,0,0,0,0,0,0,0,0,0,0,0,0,24,26,0,27,0,0,0,0,0,0,0,0,0,0,0,0,0,0,0,0,0,0,0,0,0,0,0,0,0,0,0,0,0,0,0,0,0,0,0,0,0,0,0,0,0,0,0,0,0,0,0,0,0,0,0,0,0,0,0,0,0,0,0,0,0,0,0,0,0,0,0,0,0,0,0,0,9,12,11,10,8,3,13,14,15,16,17,4,18,5,20,6,7,22,23,25,28,29,30,31,33,34,32,36,35,41,39,40,38,37,42,45,46,44,47,48,49,50,54,56,57,60,51,52,55,58,61,63,70,71,72,69,68,67,66,65,64,84,87,88,89,94,0,0,0,0,0,0,0,0,0,0,0,0,0,0,0,0,0,0,0,0,0,0,0,0,0,0,0,0,0,0,0,0,0,0,0,0,0,0,0,0,0,0,0,0,0,0,0,0,0,0,0,0,0,0,0,0,0].getD k 0
theorem mixed:P.follows .mixedOrders=true:=by kernel_rfl
def zi.I:Bx:=⟨[],[],139,[]⟩
theorem zi.L:LkT P zi.I Try.f7 λC Q s h=>zi.cps C N (s 0) h Q:=λ{C} k Q s h r=>eT k (λs h=>B.call C (N 482) [] h λd h=>B.pv (V.un .not d) λe=>B.cond e (Q (.bool false) h) (zi.k14 C N Q (s 0) h)) r (λs h r=>eT k (λs h=>zi.k14 C N Q (s 0) h) r (λs h r=>eT k (λs h=>B.call C (N 486) [(s 0)] h λf h=>B.cond f (Q (.bool true) h) (B.call C (N 485) [] h λa h=>zi.k13 C N Q (s 0) a h)) r (λs h r=>eT k (λs h=>B.call C (N 485) [] h λa h=>zi.k13 C N Q (s 0) a h) r (λs h r=>eT k (λs h=>zi.k13 C N Q (s 0) (s 3) h) r (λs h r=>eT k (λs h=>zbg (zi.l12 C N Q (s 0) (s 3) (s 4)) [(.int .i64 0)] h) r (λs h r=>eS k (λs h=>zbg (zi.l10 C N Q (s 3) (s 4)) [(.int .i64 0),(.int .i64 0)] h) (eT k (λs h=>zbg (zi.l12 C N Q (s 0) (s 3) (s 4)) [(s 5)] h) r (λs h r=>eK (eL k [0,3,4] [5] (on3 (zi.l12 C N Q)) r (λY5 s h r=>e1 r)))) (λs h r=>eT k (λs h=>zbg (zi.l10 C N Q (s 3) (s 4)) [(s 7),(.int .i64 0)] h) r (λs h r=>eS k (λs h=>zbg (zi.l8 C N Q (s 3) (s 4)) [(s 7),(.int .i64 0)] h) (eT k (λs h=>zbg (zi.l10 C N Q (s 3) (s 4)) [(s 7),(s 8)] h) r (λs h r=>eK (eL k [3,4] [7,8] (on2 (zi.l10 C N Q)) r (λY4 s h r=>e1 r)))) (λs h r=>eS k (λs h=>zbg (zi.l3 C N Q (s 3) (s 7)) [(.int .i64 0)] h) (eT k (λs h=>zbg (zi.l8 C N Q (s 3) (s 4)) [(s 7),(s 9)] h) r (λs h r=>eK (eL k [3,4] [7,9] (on2 (zi.l8 C N Q)) r (λY2 s h r=>eT k (λs h=>B.call C (N 492) [(s 3)] h λg h=>zi.k6 C N Q Y2 (s 3) (s 4) (s 7) (s 9) g h) r (λs h r=>eS k (λs h=>B.pv (V.bin .add (s 9) (.int .i64 1)) λb=>Y2 [(s 7),b] h) (eK (eT k (λs h=>zi.k6 C N Q Y2 (s 3) (s 4) (s 7) (s 9) (s 10) h) r (λs h r=>eT k (λs h=>zbg (zi.l5 C N Q Y2 (s 3) (s 4) (s 9)) [(s 7),(.bool false),(.int .i64 0)] h) r (λs h r=>eT k (λs h=>zbg (zi.l5 C N Q Y2 (s 3) (s 4) (s 9)) [(s 7),(s 12),(.int .i64 0)] h) r (λs h r=>eS k (λs h=>B.pv (V.un .not (s 12)) λc=>B.cond c (Q (.bool false) h) (B.pv (V.bin .add (s 9) (.int .i64 1)) λb=>Y2 [(s 7),b] h)) (eT k (λs h=>zbg (zi.l5 C N Q Y2 (s 3) (s 4) (s 9)) [(s 7),(s 12),(s 13)] h) r (λs h r=>eK (eL k [3,4,9] [7,12,13] (on3 (zi.l5 C N Q Y2)) r (λY3 s h r=>e1 r)))) (λs h r=>e1 r)))))) (λs h r=>e1 r)))))) (λs h r=>eS k (λs h=>zi.k1 C N Q (s 3) (s 7) h) (eT k (λs h=>zbg (zi.l3 C N Q (s 3) (s 7)) [(s 14)] h) r (λs h r=>eK (eL k [3,7] [14] (on2 (zi.l3 C N Q)) r (λY1 s h r=>e1 r)))) (λs h r=>e1 r)))))))))))
theorem zi.imp:zi.Imp (AC P) N:=λa h Q r=>eF mixed (fn:=Try.f7) (λk=>zi.L k (dn Q) (zc2 [a]) h r)
def zcb.I:Bx:=⟨[],[],45,[]⟩
theorem zcb.L:LkT P zcb.I Try.f8 λC Q s h=>zcb.cps C N (s 0) h Q:=λ{C} k Q s h r=>eT k (λs h=>zbg (zcb.l4 C N Q (s 0)) [(.int .i64 0),(.int .i64 0)] h) r (λs h r=>eT k (λs h=>zbg (zcb.l4 C N Q (s 0)) [(s 3),(.int .i64 0)] h) r (λs h r=>eS k (λs h=>B.pv (V.bin .gtr (s 3) (.int .i64 2000)) λa=>Q a h) (eT k (λs h=>zbg (zcb.l4 C N Q (s 0)) [(s 3),(s 4)] h) r (λs h r=>eK (eL k [0] [3,4] (on1 (zcb.l4 C N Q)) r (λY1 s h r=>eT k (λs h=>zbg (zcb.l2 C N Q Y1 (s 0) (s 4)) [(s 3),(.int .i64 0)] h) r (λs h r=>eS k (λs h=>B.pv (V.bin .add (s 4) (.int .i64 1)) λb=>Y1 [(s 3),b] h) (eK (eT k (λs h=>zbg (zcb.l2 C N Q Y1 (s 0) (s 4)) [(s 3),(s 5)] h) r (λs h r=>eK (eL k [0,4] [3,5] (on2 (zcb.l2 C N Q Y1)) r (λY2 s h r=>e1 r))))) (λs h r=>e1 r)))))) (λs h r=>e1 r)))
theorem zcb.imp:zcb.Imp (AC P) N:=λa h Q r=>eF mixed (fn:=Try.f8) (λk=>zcb.L k (dn Q) (zc2 [a]) h r)
def zdo.I:Bx:=⟨[],[],88,[]⟩
theorem zdo.L:LkT P zdo.I Try.f9 λC Q s h=>zdo.cps C N h Q:=λ{C} k Q s h r=>e1 r
theorem zdo.imp:zdo.Imp (AC P) N:=λh Q r=>eF mixed (fn:=Try.f9) (λk=>zdo.L k (dn Q) (zc2 []) h r)
def zei.I:Bx:=⟨[],[],4,[]⟩
theorem zei.L:LkT P zei.I Try.f10 λC Q s h=>zei.cps C N h Q:=λ{C} k Q s h r=>e1 r
theorem zei.imp:zei.Imp (AC P) N:=λh Q r=>eF mixed (fn:=Try.f10) (λk=>zei.L k (dn Q) (zc2 []) h r)
def zcj.I:Bx:=⟨[],[],11,[]⟩
theorem zcj.L:LkT P zcj.I Try.f13 λC Q s h=>zcj.cps C N (s 0) (s 1) h Q:=λ{C} k Q s h r=>e1 r
theorem zcj.imp:zcj.Imp (AC P) N:=λa b h Q r=>eF mixed (fn:=Try.f13) (λk=>zcj.L k (dn Q) (zc2 [a,b]) h r)
def zu.I:Bx:=⟨[],[],109,[(19,pz [] 9)]⟩
theorem zu.L:LkT P zu.I Try.f14 λC Q s h=>zu.cps C N (s 0) (s 1) (s 2) h Q:=λ{C} k Q s h r=>eT k (λs h=>B.call C (N 505) [(s 0)] h λa h=>B.pv (V.un .not a) λb=>B.cond b (Q (.bool false) h) (zu.k6 C N Q (s 0) (s 1) (s 2) h)) r (λs h r=>eT k (λs h=>zu.k6 C N Q (s 0) (s 1) (s 2) h) r (λs h r=>eT k (λs h=>zu.k5 C N Q (s 0) (s 1) (s 2) (s 7) h) r (λs h r=>eT k (λs h=>B.pv (V.zd3 (s 2)) λc=>zbg (zu.l4 C N Q (s 0) (s 7) (s 2) c) [(.int .i64 0)] h) r (λs h r=>eS k (λs h=>B.nilCheck (s 7) λd=>B.pv (V.fieldAddr 2 d) λe=>B.ld h e λf=>zu.k2 C N Q (s 0) (s 7) f h) (eT k (λs h=>zbg (zu.l4 C N Q (s 0) (s 7) (s 32) (s 33)) [(s 34)] h) r (λs h r=>eK (eL k [0,7,32,33] [34] (on4 (zu.l4 C N Q)) r (λY1 s h r=>e1 r)))) (λs h r=>eT k (λs h=>zu.k2 C N Q (s 0) (s 7) (s 10) h) r (λs h r=>eT k (λs h=>zu.k1 C N Q (s 0) (s 7) (s 10) h) r (λs h r=>e1 r)))))))
theorem zu.imp:zu.Imp (AC P) N:=λa b c h Q r=>eF mixed (fn:=Try.f14) (λk=>zu.L k (dn Q) (zc2 [a,b,c]) h r)
def zb1.I:Bx:=⟨[],[],28,[]⟩
theorem zb1.L:LkT P zb1.I Try.f15 λC Q s h=>zb1.cps C N (s 0) (s 1) h Q:=λ{C} k Q s h r=>e1 r
theorem zb1.imp:zb1.Imp (AC P) N:=λa b h Q r=>eF mixed (fn:=Try.f15) (λk=>zb1.L k (dn Q) (zc2 [a,b]) h r)
def zbu.I:Bx:=⟨[],[],47,[(4,pz [] 12)]⟩
theorem zbu.L:LkT P zbu.I Try.f16 λC Q s h=>zbu.cps C N (s 0) (s 1) h Q:=λ{C} k Q s h r=>e1 r
theorem zbu.imp:zbu.Imp (AC P) N:=λa b h Q r=>eF mixed (fn:=Try.f16) (λk=>zbu.L k (dn Q) (zc2 [a,b]) h r)
def zq.I:Bx:=⟨[],[],48,[]⟩
theorem zq.L:LkT P zq.I Try.f17 λC Q s h=>zq.cps C N (s 0) h Q:=λ{C} k Q s h r=>eT k (λs h=>B.call C (N 505) [(s 0)] h λe h=>B.pv (V.un .not e) λb=>B.cond b (Q .zfa h) (zq.k6 C N Q (s 0) h)) r (λs h r=>eT k (λs h=>zq.k6 C N Q (s 0) h) r (λs h r=>eS k (λs h=>Q .zfa h) (eT k (λs h=>zbg (zq.l5 C N Q (s 0) (s 16) (s 17)) [(s 18)] h) r (λs h r=>eK (eL k [0,16,17] [18] (on3 (zq.l5 C N Q)) r (λY1 s h r=>eT k (λs h=>B.cond (s 19) (zq.k4 C N Q Y1 (s 0) (s 16) (s 17) (s 18) h) (Q .zfa h)) r (λs h r=>eT k (λs h=>zq.k4 C N Q Y1 (s 0) (s 16) (s 17) (s 18) h) r (λs h r=>eS k (λs h=>B.pv (V.bin .add (s 18) (.int .i64 1)) λc=>Y1 [c] h) (eK (eT k (λs h=>B.call C (N 512) [(s 0),(s 4)] h λd h=>zq.k3 C N Q Y1 (s 0) (s 4) d (s 16) (s 17) (s 18) h) r (λs h r=>eT k (λs h=>zq.k3 C N Q Y1 (s 0) (s 4) (s 5) (s 16) (s 17) (s 18) h) r (λs h r=>eT k (λs h=>B.rangeMap h (s 5) λa h=>zbg (zq.l2 C N Q Y1 (s 0) (s 4) a) [.zfa] h) r (λs h r=>eT k (λs h=>B.rangeMap h (s 5) λa h=>zbg (zq.l2 C N Q Y1 (s 0) (s 4) a) [(s 6)] h) r (λs h r=>eS k (λs h=>B.call C (N 511) [(s 6)] h λf h=>Q (s 6) h) (eT k (λs h=>zbg (zq.l2 C N Q Y1 (s 0) (s 4) (s 30)) [(s 6)] h) r (λs h r=>eK (eL k [0,4,30] [6] (on3 (zq.l2 C N Q Y1)) r (λY2 s h r=>e1 r)))) (λs h r=>e1 r))))))) (λs h r=>e1 r))))))) (λs h r=>e1 r)))
theorem zq.imp:zq.Imp (AC P) N:=λa h Q r=>eF mixed (fn:=Try.f17) (λk=>zq.L k (dn Q) (zc2 [a]) h r)
def zej.I:Bx:=⟨[],[],16,[]⟩
theorem zej.L:LkT P zej.I Try.f19 λC Q s h=>zej.cps C N (s 0) (s 1) h Q:=λ{C} k Q s h r=>e1 r
theorem zej.imp:zej.Imp (AC P) N:=λa b h Q r=>eF mixed (fn:=Try.f19) (λk=>zej.L k (dn Q) (zc2 [a,b]) h r)
def zdb.I:Bx:=⟨[],[],26,[(6,pz [] 9)]⟩
theorem zdb.L:LkT P zdb.I Try.f21 λC Q s h=>zdb.cps C N (s 0) (s 1) h Q:=λ{C} k Q s h r=>eT k (λs h=>zdb.k3 C N Q (s 0) (s 1) h) r (λs h r=>eT k (λs h=>zbg (zl6.l4  Q (s 0) (s 1)) [(.int .i64 0)] h) r (λs h r=>eS k (λs h=>Q (.bool true) h) (eT k (λs h=>zbg (zl6.l4  Q (s 0) (s 1)) [(s 5)] h) r (λs h r=>eK (eL k [0,1] [5] (on2 (zl6.l4  Q)) r (λY1 s h r=>e1 r)))) (λs h r=>e1 r)))
theorem zdb.imp:zdb.Imp (AC P) N:=λa b h Q r=>eF mixed (fn:=Try.f21) (λk=>zdb.L k (dn Q) (zc2 [a,b]) h r)
def zdc.I:Bx:=⟨[],[],26,[(6,pz [] 9)]⟩
theorem zdc.L:LkT P zdc.I Try.f22 λC Q s h=>zdc.cps C N (s 0) (s 1) h Q:=λ{C} k Q s h r=>eT k (λs h=>zdc.k3 C N Q (s 0) (s 1) h) r (λs h r=>eT k (λs h=>zbg (zl6.l4  Q (s 0) (s 1)) [(.int .i64 0)] h) r (λs h r=>eS k (λs h=>Q (.bool true) h) (eT k (λs h=>zbg (zl6.l4  Q (s 0) (s 1)) [(s 5)] h) r (λs h r=>eK (eL k [0,1] [5] (on2 (zl6.l4  Q)) r (λY1 s h r=>e1 r)))) (λs h r=>e1 r)))
theorem zdc.imp:zdc.Imp (AC P) N:=λa b h Q r=>eF mixed (fn:=Try.f22) (λk=>zdc.L k (dn Q) (zc2 [a,b]) h r)
def zcq.I:Bx:=⟨[],[],12,[]⟩
theorem zcq.L:LkT P zcq.I Try.f31 λC Q s h=>zcq.cps C N (s 0) h Q:=λ{C} k Q s h r=>e1 r
theorem zcq.imp:zcq.Imp (AC P) N:=λa h Q r=>eF mixed (fn:=Try.f31) (λk=>zcq.L k (dn Q) (zc2 [a]) h r)
def zbz.I:Bx:=⟨[],[],9,[]⟩
theorem zbz.L:LkT P zbz.I Try.f32 λC Q s h=>zbz.cps C N (s 0) (s 1) h Q:=λ{C} k Q s h r=>e1 r
theorem zbz.imp:zbz.Imp (AC P) N:=λa b h Q r=>eF mixed (fn:=Try.f32) (λk=>zbz.L k (dn Q) (zc2 [a,b]) h r)
def zbb.I:Bx:=⟨[],[],34,[]⟩
theorem zbb.L:LkT P zbb.I Try.f33 λC Q s h=>zbb.cps C N (s 0) (s 1) (s 2) (s 3) h Q:=λ{C} k Q s h r=>eT k (λs h=>zbb.k3 C N Q (s 0) (.fn (N 523) [] [(s 5),(s 6),(s 7)]) .zfa h) r (λs h r=>eT k (λs h=>zbb.k3 C N Q (s 0) (s 9) .zfa h) r (λs h r=>eT k (λs h=>zbb.k3 C N Q (s 0) (s 9) (s 10) h) r (λs h r=>eS k (λs h=>B.call C (N 511) [(s 10)] h λa h=>Q (s 10) h) (eT k (λs h=>zbg (zbb.l2 C N Q (s 9) (s 18)) [(s 10)] h) r (λs h r=>eK (eL k [9,18] [10] (on2 (zbb.l2 C N Q)) r (λY1 s h r=>e1 r)))) (λs h r=>e1 r))))
theorem zbb.imp:zbb.Imp (AC P) N:=λa b c d h Q r=>eF mixed (fn:=Try.f33) (λk=>zbb.L k (dn Q) (zc2 [a,b,c,d]) h r)
def zf.I:Bx:=⟨[],[],16,[]⟩
theorem zf.L:LkT P zf.I Try.f34 λC Q s h=>zf.cps C N (s 0) (s 1) h Q:=λ{C} k Q s h r=>eT k (λs h=>zbg (zf.l2 C N Q (s 0) (s 7)) [] h) r (λs h r=>eK (eL k [0,7] [] (on2 (zf.l2 C N Q)) r (λY1 s h r=>e1 r)))
theorem zf.imp:zf.Imp (AC P) N:=λa b h Q r=>eF mixed (fn:=Try.f34) (λk=>zf.L k (dn Q) (zc2 [a,b]) h r)
def zb4.I:Bx:=⟨[],[],9,[]⟩
theorem zb4.L:LkT P zb4.I Try.f35 λC Q s h=>zb4.cps C N (s 0) h Q:=λ{C} k Q s h r=>e1 r
theorem zb4.imp:zb4.Imp (AC P) N:=λa h Q r=>eF mixed (fn:=Try.f35) (λk=>zb4.L k (dn Q) (zc2 [a]) h r)
def zbe.I:Bx:=⟨[],[],4,[]⟩
theorem zbe.L:LkT P zbe.I Try.f36 λC Q s h=>zbe.cps C N (s 0) h Q:=λ{C} k Q s h r=>e1 r
theorem zbe.imp:zbe.Imp (AC P) N:=λa h Q r=>eF mixed (fn:=Try.f36) (λk=>zbe.L k (dn Q) (zc2 [a]) h r)
def zce.I:Bx:=⟨[],[],9,[]⟩
theorem zce.L:LkT P zce.I Try.f37 λC Q s h=>zce.cps C N (s 0) h Q:=λ{C} k Q s h r=>e1 r
theorem zce.imp:zce.Imp (AC P) N:=λa h Q r=>eF mixed (fn:=Try.f37) (λk=>zce.L k (dn Q) (zc2 [a]) h r)
def zy.I:Bx:=⟨[],[],4,[]⟩
theorem zy.L:LkT P zy.I Try.f38 λC Q s h=>zy.cps C N (s 0) h Q:=λ{C} k Q s h r=>e1 r
theorem zy.imp:zy.Imp (AC P) N:=λa h Q r=>eF mixed (fn:=Try.f38) (λk=>zy.L k (dn Q) (zc2 [a]) h r)
def zb5.I:Bx:=⟨[],[],13,[]⟩
theorem zb5.L:LkT P zb5.I Try.f39 λC Q s h=>zb5.cps C N (s 0) (s 1) h Q:=λ{C} k Q s h r=>e1 r
theorem zb5.imp:zb5.Imp (AC P) N:=λa b h Q r=>eF mixed (fn:=Try.f39) (λk=>zb5.L k (dn Q) (zc2 [a,b]) h r)
def zb0.I:Bx:=⟨[],[],9,[]⟩
theorem zb0.L:LkT P zb0.I Try.f40 λC Q s h=>zb0.cps C N (s 0) (s 1) h Q:=λ{C} k Q s h r=>e1 r
theorem zb0.imp:zb0.Imp (AC P) N:=λa b h Q r=>eF mixed (fn:=Try.f40) (λk=>zb0.L k (dn Q) (zc2 [a,b]) h r)
def zbf.I:Bx:=⟨[],[],11,[]⟩
theorem zbf.L:LkT P zbf.I Try.f41 λC Q s h=>zbf.cps C N (s 0) h Q:=λ{C} k Q s h r=>e1 r
theorem zbf.imp:zbf.Imp (AC P) N:=λa h Q r=>eF mixed (fn:=Try.f41) (λk=>zbf.L k (dn Q) (zc2 [a]) h r)
def zcr.I:Bx:=⟨[],[],40,[(1,pz [] 35)]⟩
theorem zcr.L:LkT P zcr.I Try.f50 λC Q s h=>zcr.cps C N (s 0) (s 1) (s 2) (s 3) h Q:=λ{C} k Q s h r=>e1 r
theorem zcr.imp:zcr.Imp (AC P) N:=λa b c d h Q r=>eF mixed (fn:=Try.f50) (λk=>zcr.L k (dn Q) (zc2 [a,b,c,d]) h r)
def zc8.I:Bx:=⟨[],[],29,[]⟩
theorem zc8.L:LkT P zc8.I Try.f51 λC Q s h=>zc8.cps C N (s 0) (s 1) h Q:=λ{C} k Q s h r=>eT k (λs h=>zc8.k4 C N Q (s 0) (s 1) h) r (λs h r=>eT k (λs h=>zc8.k3 C N Q (s 0) (s 1) h) r (λs h r=>eT k (λs h=>B.rangeMap h (s 0) λa h=>zbg (zc8.l2 C N Q (s 1) a) [] h) r (λs h r=>eS k (λs h=>Q (.bool false) h) (eT k (λs h=>zbg (zc8.l2 C N Q (s 1) (s 21)) [] h) r (λs h r=>eK (eL k [1,21] [] (on2 (zc8.l2 C N Q)) r (λY1 s h r=>e1 r)))) (λs h r=>e1 r))))
theorem zc8.imp:zc8.Imp (AC P) N:=λa b h Q r=>eF mixed (fn:=Try.f51) (λk=>zc8.L k (dn Q) (zc2 [a,b]) h r)
def zc0.I:Bx:=⟨[],[],5,[]⟩
theorem zc0.L:LkT P zc0.I Try.f52 λC Q s h=>zc0.cps C N (s 0) h Q:=λ{C} k Q s h r=>e1 r
theorem zc0.imp:zc0.Imp (AC P) N:=λa h Q r=>eF mixed (fn:=Try.f52) (λk=>zc0.L k (dn Q) (zc2 [a]) h r)
def zbh.I:Bx:=⟨[],[],11,[]⟩
theorem zbh.L:LkT P zbh.I Try.f53 λC Q s h=>zbh.cps C N (s 0) h Q:=λ{C} k Q s h r=>e1 r
theorem zbh.imp:zbh.Imp (AC P) N:=λa h Q r=>eF mixed (fn:=Try.f53) (λk=>zbh.L k (dn Q) (zc2 [a]) h r)
def zp.I:Bx:=⟨[],[],14,[]⟩
theorem zp.L:LkT P zp.I Try.f54 λC Q s h=>zp.cps C N (s 0) (s 1) h Q:=λ{C} k Q s h r=>eT k (λs h=>zbg (zp.l2 C N Q (s 0) (s 5)) [] h) r (λs h r=>eK (eL k [0,5] [] (on2 (zp.l2 C N Q)) r (λY1 s h r=>e1 r)))
theorem zp.imp:zp.Imp (AC P) N:=λa b h Q r=>eF mixed (fn:=Try.f54) (λk=>zp.L k (dn Q) (zc2 [a,b]) h r)
def zc6.I:Bx:=⟨[],[],5,[]⟩
theorem zc6.L:LkT P zc6.I Try.f55 λC Q s h=>zc6.cps C N (s 0) h Q:=λ{C} k Q s h r=>e1 r
theorem zc6.imp:zc6.Imp (AC P) N:=λa h Q r=>eF mixed (fn:=Try.f55) (λk=>zc6.L k (dn Q) (zc2 [a]) h r)
def zm.I:Bx:=⟨[],[],14,[]⟩
theorem zm.L:LkT P zm.I Try.f56 λC Q s h=>zm.cps C N (s 0) (s 1) h Q:=λ{C} k Q s h r=>eT k (λs h=>zbg (zm.l2 C N Q (s 0) (s 5)) [] h) r (λs h r=>eK (eL k [0,5] [] (on2 (zm.l2 C N Q)) r (λY1 s h r=>e1 r)))
theorem zm.imp:zm.Imp (AC P) N:=λa b h Q r=>eF mixed (fn:=Try.f56) (λk=>zm.L k (dn Q) (zc2 [a,b]) h r)
def zbd.I:Bx:=⟨[],[],25,[]⟩
theorem zbd.L:LkT P zbd.I Try.f57 λC Q s h=>zbd.cps C N (s 0) (s 1) (s 2) (s 3) h Q:=λ{C} k Q s h r=>eT k (λs h=>zbg (zbd.l2 C N Q (s 2) (s 3) (s 9) (s 10)) [(s 11)] h) r (λs h r=>eK (eL k [2,3,9,10] [11] (on4 (zbd.l2 C N Q)) r (λY1 s h r=>e1 r)))
theorem zbd.imp:zbd.Imp (AC P) N:=λa b c d h Q r=>eF mixed (fn:=Try.f57) (λk=>zbd.L k (dn Q) (zc2 [a,b,c,d]) h r)
def zcm.I:Bx:=⟨[],[],134,[(17,pz [] 15)]⟩
theorem zcm.L:LkT P zcm.I Try.f58 λC Q s h=>zcm.cps C N (s 0) (s 1) (s 2) (s 3) h Q:=λ{C} k Q s h r=>eT k (λs h=>zbg (zn.l8 C (zc3 8 (.int .i64 0) 0) (N 534) (N 535) (N 536) (N 531) (N 537) (N 538) (N 539) (N 540) (N 541) (N 542) Q (s 0)) [(s 1),(s 2),(s 3),(s 8),(.bool true)] h) r (λs h r=>eT k (λs h=>zbg (zn.l8 C (zc3 8 (.int .i64 0) 0) (N 534) (N 535) (N 536) (N 531) (N 537) (N 538) (N 539) (N 540) (N 541) (N 542) Q (s 0)) [(s 1),(s 2),(s 3),(s 8),(s 9)] h) r (λs h r=>eK (eL k [0] [1,2,3,8,9] (on1 (zn.l8 C (zc3 8 (.int .i64 0) 0) (N 534) (N 535) (N 536) (N 531) (N 537) (N 538) (N 539) (N 540) (N 541) (N 542) Q)) r (λY1 s h r=>eK (eT k (λs h=>zn.k7 C (zc3 8 (.int .i64 0) 0) (N 534) (N 535) (N 536) (N 531) (N 537) (N 538) (N 539) (N 540) (N 541) (N 542) Q Y1 (s 0) (s 1) (s 2) (s 3) (s 8) (s 9) (s 10) h) r (λs h r=>eT k (λs h=>zn.k6 C (zc3 8 (.int .i64 0) 0) (N 534) (N 535) (N 536) (N 531) (N 537) (N 538) (N 539) (N 540) (N 541) (N 542) Q Y1 (s 0) (s 1) (s 2) (s 3) (s 8) (s 9) (s 10) h) r (λs h r=>eT k (λs h=>zn.k5 C (zc3 8 (.int .i64 0) 0) (N 534) (N 535) (N 536) (N 531) (N 537) (N 538) (N 539) (N 540) (N 541) (N 542) Q Y1 (s 0) (s 1) (s 2) (s 3) (s 8) (s 9) (s 10) h) r (λs h r=>eT k (λs h=>zn.k4 C (zc3 8 (.int .i64 0) 0) (N 534) (N 535) (N 536) (N 531) (N 537) (N 538) (N 539) (N 540) (N 541) (N 542) Q Y1 (s 0) (s 1) (s 2) (s 3) (s 8) (s 9) (s 10) h) r (λs h r=>eT k (λs h=>zn.k3 C (zc3 8 (.int .i64 0) 0) (N 534) (N 535) (N 536) (N 531) (N 537) (N 538) (N 539) (N 540) (N 541) (N 542) Q Y1 (s 0) (s 1) (s 2) (s 3) (s 8) (s 9) (s 10) (s 11) (s 12) h) r (λs h r=>eT k (λs h=>zn.k2 C (zc3 8 (.int .i64 0) 0) (N 534) (N 535) (N 536) (N 531) (N 537) (N 538) (N 539) (N 540) (N 541) (N 542) Q Y1 (s 0) (s 1) (s 2) (s 3) (s 8) (s 9) (s 10) (s 11) (s 12) h) r (λs h r=>eT k (λs h=>zn.k1 C (zc3 8 (.int .i64 0) 0) (N 534) (N 535) (N 536) (N 531) (N 537) (N 538) (N 539) (N 540) (N 541) (N 542) Q Y1 (s 0) (s 1) (s 2) (s 3) (s 8) (s 9) (s 10) (s 11) h) r (λs h r=>e1 r))))))))))))
theorem zcm.imp:zcm.Imp (AC P) N:=λa b c d h Q r=>eF mixed (fn:=Try.f58) (λk=>zcm.L k (dn Q) (zc2 [a,b,c,d]) h r)
def zdh.I:Bx:=⟨[],[],8,[]⟩
theorem zdh.L:LkT P zdh.I Try.f59 λC Q s h=>zdh.cps C N (s 0) h Q:=λ{C} k Q s h r=>e1 r
theorem zdh.imp:zdh.Imp (AC P) N:=λa h Q r=>eF mixed (fn:=Try.f59) (λk=>zdh.L k (dn Q) (zc2 [a]) h r)
def zb3.I:Bx:=⟨[],[],13,[]⟩
theorem zb3.L:LkT P zb3.I Try.f61 λC Q s h=>zb3.cps C N (s 0) (s 1) h Q:=λ{C} k Q s h r=>eT k (λs h=>znr C (s 1) (W1 λb h Z1=>zck.r2 C (zc3 16 (.str []) 0) Q (s 2) b h Z1) h (RK [(0,λh=>B.ld h (s 2) λa=>Q a h)])) r (λs h r=>eS k (λs h=>B.ld h (s 2) λa=>Q a h) (eT k (λs h=>znr C (s 6) (W1 λb h Z1=>zck.r2 C (zc3 16 (.str []) 0) Q (s 2) b h Z1) h (RK [(0,λh=>B.ld h (s 2) λa=>Q a h)])) r (λs h r=>eK (eR1 k 6 7 [2] (λkv b h Z1=>match kv with|[c]=>zck.r2 C (zc3 16 (.str []) 0) Q c b h Z1|_=>False) r (rk_cons (λh r=>e0 r) rk_nil) (λZ1 s h r=>e1 r)))) (λs h r=>e1 r))
theorem zb3.imp:zb3.Imp (AC P) N:=λa b h Q r=>eF mixed (fn:=Try.f61) (λk=>zb3.L k (dn Q) (zc2 [a,b]) h r)
def zcg.I:Bx:=⟨[],[],134,[(17,pz [] 15)]⟩
theorem zcg.L:LkT P zcg.I Try.f62 λC Q s h=>zcg.cps C N (s 0) (s 1) (s 2) (s 3) h Q:=λ{C} k Q s h r=>eT k (λs h=>zbg (zn.l8 C (zc3 16 (.str []) 0) (N 377) (N 378) (N 379) (N 375) (N 380) (N 381) (N 382) (N 383) (N 384) (N 385) Q (s 0)) [(s 1),(s 2),(s 3),(s 8),(.bool true)] h) r (λs h r=>eT k (λs h=>zbg (zn.l8 C (zc3 16 (.str []) 0) (N 377) (N 378) (N 379) (N 375) (N 380) (N 381) (N 382) (N 383) (N 384) (N 385) Q (s 0)) [(s 1),(s 2),(s 3),(s 8),(s 9)] h) r (λs h r=>eK (eL k [0] [1,2,3,8,9] (on1 (zn.l8 C (zc3 16 (.str []) 0) (N 377) (N 378) (N 379) (N 375) (N 380) (N 381) (N 382) (N 383) (N 384) (N 385) Q)) r (λY1 s h r=>eK (eT k (λs h=>zn.k7 C (zc3 16 (.str []) 0) (N 377) (N 378) (N 379) (N 375) (N 380) (N 381) (N 382) (N 383) (N 384) (N 385) Q Y1 (s 0) (s 1) (s 2) (s 3) (s 8) (s 9) (s 10) h) r (λs h r=>eT k (λs h=>zn.k6 C (zc3 16 (.str []) 0) (N 377) (N 378) (N 379) (N 375) (N 380) (N 381) (N 382) (N 383) (N 384) (N 385) Q Y1 (s 0) (s 1) (s 2) (s 3) (s 8) (s 9) (s 10) h) r (λs h r=>eT k (λs h=>zn.k5 C (zc3 16 (.str []) 0) (N 377) (N 378) (N 379) (N 375) (N 380) (N 381) (N 382) (N 383) (N 384) (N 385) Q Y1 (s 0) (s 1) (s 2) (s 3) (s 8) (s 9) (s 10) h) r (λs h r=>eT k (λs h=>zn.k4 C (zc3 16 (.str []) 0) (N 377) (N 378) (N 379) (N 375) (N 380) (N 381) (N 382) (N 383) (N 384) (N 385) Q Y1 (s 0) (s 1) (s 2) (s 3) (s 8) (s 9) (s 10) h) r (λs h r=>eT k (λs h=>zn.k3 C (zc3 16 (.str []) 0) (N 377) (N 378) (N 379) (N 375) (N 380) (N 381) (N 382) (N 383) (N 384) (N 385) Q Y1 (s 0) (s 1) (s 2) (s 3) (s 8) (s 9) (s 10) (s 11) (s 12) h) r (λs h r=>eT k (λs h=>zn.k2 C (zc3 16 (.str []) 0) (N 377) (N 378) (N 379) (N 375) (N 380) (N 381) (N 382) (N 383) (N 384) (N 385) Q Y1 (s 0) (s 1) (s 2) (s 3) (s 8) (s 9) (s 10) (s 11) (s 12) h) r (λs h r=>eT k (λs h=>zn.k1 C (zc3 16 (.str []) 0) (N 377) (N 378) (N 379) (N 375) (N 380) (N 381) (N 382) (N 383) (N 384) (N 385) Q Y1 (s 0) (s 1) (s 2) (s 3) (s 8) (s 9) (s 10) (s 11) h) r (λs h r=>e1 r))))))))))))
theorem zcg.imp:zcg.Imp (AC P) N:=λa b c d h Q r=>eF mixed (fn:=Try.f62) (λk=>zcg.L k (dn Q) (zc2 [a,b,c,d]) h r)
def zci.I:Bx:=⟨[],[],13,[]⟩
theorem zci.L:LkT P zci.I Try.f63 λC Q s h=>zci.cps C N (s 0) (s 1) h Q:=λ{C} k Q s h r=>eT k (λs h=>znr C (s 1) (W1 λb h Z1=>zck.r2 C (zc3 8 (.int .i64 0) 0) Q (s 2) b h Z1) h (RK [(0,λh=>B.ld h (s 2) λa=>Q a h)])) r (λs h r=>eS k (λs h=>B.ld h (s 2) λa=>Q a h) (eT k (λs h=>znr C (s 6) (W1 λb h Z1=>zck.r2 C (zc3 8 (.int .i64 0) 0) Q (s 2) b h Z1) h (RK [(0,λh=>B.ld h (s 2) λa=>Q a h)])) r (λs h r=>eK (eR1 k 6 7 [2] (λkv b h Z1=>match kv with|[c]=>zck.r2 C (zc3 8 (.int .i64 0) 0) Q c b h Z1|_=>False) r (rk_cons (λh r=>e0 r) rk_nil) (λZ1 s h r=>e1 r)))) (λs h r=>e1 r))
theorem zci.imp:zci.Imp (AC P) N:=λa b h Q r=>eF mixed (fn:=Try.f63) (λk=>zci.L k (dn Q) (zc2 [a,b]) h r)
def zbs.I:Bx:=⟨[],[],49,[(4,pz [] 15),(6,pz [] 18)]⟩
theorem zbs.L:LkT P zbs.I Try.f64 λC Q s h=>zbs.cps C N (s 0) (s 1) (s 2) h Q:=λ{C} k Q s h r=>eT k (λs h=>zbg (zz.l3 C (zc3 8 (.int .i64 0) 0) (N 534) Q (s 0) (s 1) (s 2)) [(s 6)] h) r (λs h r=>eK (eL k [0,1,2] [6] (on3 (zz.l3 C (zc3 8 (.int .i64 0) 0) (N 534) Q)) r (λY1 s h r=>eT k (λs h=>zbg (zz.l2 C (zc3 8 (.int .i64 0) 0) (N 534) Q Y1 (s 0) (s 1) (s 2) (s 6)) [(s 6)] h) r (λs h r=>eS k (λs h=>B.pv (V.bin .add (s 6) (.int .i64 1)) λa=>Y1 [a] h) (eK (eT k (λs h=>zbg (zz.l2 C (zc3 8 (.int .i64 0) 0) (N 534) Q Y1 (s 0) (s 1) (s 2) (s 6)) [(s 7)] h) r (λs h r=>eK (eL k [0,1,2,6] [7] (on4 (zz.l2 C (zc3 8 (.int .i64 0) 0) (N 534) Q Y1)) r (λY2 s h r=>e1 r))))) (λs h r=>e1 r)))))
theorem zbs.imp:zbs.Imp (AC P) N:=λa b c h Q r=>eF mixed (fn:=Try.f64) (λk=>zbs.L k (dn Q) (zc2 [a,b,c]) h r)
def zch.I:Bx:=⟨[],[],56,[(10,pz [] 20)]⟩
theorem zch.L:LkT P zch.I Try.f65 λC Q s h=>zch.cps C N (s 0) (s 1) (s 2) h Q:=λ{C} k Q s h r=>eT k (λs h=>B.pv (V.bin .sub (s 2) (s 1)) λa=>zw.k5 C (zc3 8 (.int .i64 0) 0) (N 543) Q (s 0) (s 6) (.int .i64 0) a h) r (λs h r=>eT k (λs h=>B.pv (V.bin .sub (s 2) (s 1)) λa=>zw.k5 C (zc3 8 (.int .i64 0) 0) (N 543) Q (s 0) (s 6) (s 7) a h) r (λs h r=>eT k (λs h=>zw.k5 C (zc3 8 (.int .i64 0) 0) (N 543) Q (s 0) (s 6) (s 7) (s 8) h) r (λs h r=>eS k (λs h=>B.pv (V.bin .sub (s 8) (.int .i64 1)) λb=>zbg (zw.l2 C (zc3 8 (.int .i64 0) 0) (N 543) Q (s 0) (s 6) (s 7)) [b] h) (eT k (λs h=>zbg (zw.l4 C (zc3 8 (.int .i64 0) 0) (N 543) Q (s 0) (s 6) (s 7) (s 8)) [(s 9)] h) r (λs h r=>eK (eL k [0,6,7,8] [9] (on4 (zw.l4 C (zc3 8 (.int .i64 0) 0) (N 543) Q)) r (λY2 s h r=>e1 r)))) (λs h r=>eT k (λs h=>zbg (zw.l2 C (zc3 8 (.int .i64 0) 0) (N 543) Q (s 0) (s 6) (s 7)) [(s 10)] h) r (λs h r=>eK (eL k [0,6,7] [10] (on3 (zw.l2 C (zc3 8 (.int .i64 0) 0) (N 543) Q)) r (λY1 s h r=>e1 r)))))))
theorem zch.imp:zch.Imp (AC P) N:=λa b c h Q r=>eF mixed (fn:=Try.f65) (λk=>zch.L k (dn Q) (zc2 [a,b,c]) h r)
def zbt.I:Bx:=⟨[],[],65,[(10,pz [] 20)]⟩
theorem zbt.L:LkT P zbt.I Try.f66 λC Q s h=>zbt.cps C N (s 0) (s 1) (s 2) h Q:=λ{C} k Q s h r=>eT k (λs h=>B.pv (V.bin .geq (s 6) (.int .i64 8)) λa=>B.cond a (zj.k7 C (zc3 8 (.int .i64 0) 0) (N 298) (N 299) Q (s 0) (s 1) (s 6) h) (Q (.tup []) h)) r (λs h r=>eT k (λs h=>B.cond (s 15) (zj.k7 C (zc3 8 (.int .i64 0) 0) (N 298) (N 299) Q (s 0) (s 1) (s 6) h) (Q (.tup []) h)) r (λs h r=>eC 15 r (λr=>eT k (λs h=>B.call C (N 299) [(s 6)] h λb h=>zj.k6 C (zc3 8 (.int .i64 0) 0) (N 298) (N 299) Q (s 0) (s 1) (s 6) (s 7) b h) r (λs h r=>eT k (λs h=>zj.k6 C (zc3 8 (.int .i64 0) 0) (N 298) (N 299) Q (s 0) (s 1) (s 6) (s 7) (s 8) h) r (λs h r=>eT k (λs h=>zbg (zj.l5 C (zc3 8 (.int .i64 0) 0) (N 298) (N 299) Q (s 0) (s 1) (s 6) (s 7) (s 8)) [(s 9)] h) r (λs h r=>eK (eL k [0,1,6,7,8] [9] (on5 (zj.l5 C (zc3 8 (.int .i64 0) 0) (N 298) (N 299) Q)) r (λY1 s h r=>eT k (λs h=>zj.k3 C (zc3 8 (.int .i64 0) 0) (N 298) (N 299) Q Y1 (s 0) (s 1) (s 6) (s 7) (s 8) (s 9) h) r (λs h r=>eS k (λs h=>B.pv (V.bin .add (s 9) (.int .i64 1)) λc=>Y1 [c] h) (eK (eT k (λs h=>zj.k2 C (zc3 8 (.int .i64 0) 0) (N 298) (N 299) Q Y1 (s 0) (s 1) (s 6) (s 7) (s 8) (s 9) (s 10) h) r (λs h r=>eT k (λs h=>zj.k1 C (zc3 8 (.int .i64 0) 0) (N 298) (N 299) Q Y1 (s 0) (s 1) (s 6) (s 7) (s 8) (s 9) (s 10) h) r (λs h r=>e1 r)))) (λs h r=>e1 r)))))))) (λr=>e1 r)))
theorem zbt.imp:zbt.Imp (AC P) N:=λa b c h Q r=>eF mixed (fn:=Try.f66) (λk=>zbt.L k (dn Q) (zc2 [a,b,c]) h r)
def zby.I:Bx:=⟨[],[],57,[]⟩
theorem zby.L:LkT P zby.I Try.f67 λC Q s h=>zby.cps C N (s 0) (s 1) (s 2) h Q:=λ{C} k Q s h r=>eT k (λs h=>B.pv (V.bin .sub (s 2) (s 1)) λb=>B.zgc h (some [.int .i64 0]) λa h=>zo.k5 C (zc3 8 (.int .i64 0) 0) (N 544) (N 545) Q (s 0) (s 1) b (.ptr a 0 0) h) r (λs h r=>eT k (λs h=>B.zgc h (some [.int .i64 0]) λa h=>zo.k5 C (zc3 8 (.int .i64 0) 0) (N 544) (N 545) Q (s 0) (s 1) (s 8) (.ptr a 0 0) h) r (λs h r=>eT k (λs h=>zo.k5 C (zc3 8 (.int .i64 0) 0) (N 544) (N 545) Q (s 0) (s 1) (s 8) (s 9) h) r (λs h r=>eT k (λs h=>zo.k4 C (zc3 8 (.int .i64 0) 0) (N 544) (N 545) Q (s 0) (s 1) (s 8) (s 9) (s 10) h) r (λs h r=>eT k (λs h=>zo.k3 C (zc3 8 (.int .i64 0) 0) (N 544) (N 545) Q (s 0) (s 1) (s 8) (s 9) (s 10) (s 11) h) r (λs h r=>eT k (λs h=>zo.k2 C (zc3 8 (.int .i64 0) 0) (N 544) (N 545) Q (s 0) (s 8) (s 9) (s 10) (s 11) (s 12) h) r (λs h r=>eT k (λs h=>zo.k1 C (zc3 8 (.int .i64 0) 0) (N 544) (N 545) Q (s 9) (s 11) h) r (λs h r=>e1 r)))))))
theorem zby.imp:zby.Imp (AC P) N:=λa b c h Q r=>eF mixed (fn:=Try.f67) (λk=>zby.L k (dn Q) (zc2 [a,b,c]) h r)
def zbv.I:Bx:=⟨[],[],32,[(3,pz [] 16)]⟩
theorem zbv.L:LkT P zbv.I Try.f68 λC Q s h=>zbv.cps C N (s 0) (s 1) (s 2) h Q:=λ{C} k Q s h r=>eT k (λs h=>B.pv (V.bin .sub (s 2) (.int .i64 1)) λa=>zbg (zbr.l2 C (zc3 8 (.int .i64 0) 0) Q (s 0)) [(s 6),a] h) r (λs h r=>eT k (λs h=>zbg (zbr.l2 C (zc3 8 (.int .i64 0) 0) Q (s 0)) [(s 6),(s 7)] h) r (λs h r=>eK (eL k [0] [6,7] (on1 (zbr.l2 C (zc3 8 (.int .i64 0) 0) Q)) r (λY1 s h r=>e1 r))))
theorem zbv.imp:zbv.Imp (AC P) N:=λa b c h Q r=>eF mixed (fn:=Try.f68) (λk=>zbv.L k (dn Q) (zc2 [a,b,c]) h r)
def zba.I:Bx:=⟨[],[],133,[(5,pz [] 16),(11,pz [] 18),(16,pz [] 11),(17,pz [] 18),(22,pz [] 11),(23,pz [] 18)]⟩
theorem zba.L:LkT P zba.I Try.f69 λC Q s h=>zba.cps C N (s 0) (s 1) (s 2) h Q:=λ{C} k Q s h r=>eT k (λs h=>B.pv (V.bin .add (s 1) (.int .i64 1)) λc=>zbg (zd.l12 C (zc3 8 (.int .i64 0) 0) (N 534) Q (s 0) (s 1) (s 2)) [c,(.int .i64 0)] h) r (λs h r=>eT k (λs h=>zbg (zd.l12 C (zc3 8 (.int .i64 0) 0) (N 534) Q (s 0) (s 1) (s 2)) [(s 7),(.int .i64 0)] h) r (λs h r=>eS k (λs h=>Q (.bool false) h) (eT k (λs h=>zbg (zd.l12 C (zc3 8 (.int .i64 0) 0) (N 534) Q (s 0) (s 1) (s 2)) [(s 7),(s 8)] h) r (λs h r=>eK (eL k [0,1,2] [7,8] (on3 (zd.l12 C (zc3 8 (.int .i64 0) 0) (N 534) Q)) r (λY1 s h r=>eT k (λs h=>zbg (zd.l10 C (zc3 8 (.int .i64 0) 0) (N 534) Q Y1 (s 0) (s 1) (s 2) (s 8)) [(s 7)] h) r (λs h r=>eS k (λs h=>B.pv (V.bin .add (s 8) (.int .i64 1)) λa=>Y1 [(s 7),a] h) (eK (eS k (λs h=>B.pv (V.bin .eql (s 7) (s 2)) λd=>B.cond d (Q (.bool true) h) (zd.k8 C (zc3 8 (.int .i64 0) 0) (N 534) Q Y1 (s 0) (s 1) (s 2) (s 7) (s 8) h)) (eK (eL k [0,1,2,8] [7] (on4 (zd.l10 C (zc3 8 (.int .i64 0) 0) (N 534) Q Y1)) r (λY4 s h r=>e1 r))) (λs h r=>eT k (λs h=>zd.k8 C (zc3 8 (.int .i64 0) 0) (N 534) Q Y1 (s 0) (s 1) (s 2) (s 7) (s 8) h) r (λs h r=>eT k (λs h=>zd.k7 C (zc3 8 (.int .i64 0) 0) (N 534) Q Y1 (s 0) (s 1) (s 2) (s 7) (s 8) h) r (λs h r=>eT k (λs h=>zd.k6 C (zc3 8 (.int .i64 0) 0) (N 534) Q Y1 (s 0) (s 1) (s 2) (s 7) (s 8) h) r (λs h r=>eS k (λs h=>zd.k3 C (zc3 8 (.int .i64 0) 0) (N 534) Q Y1 (s 0) (s 1) (s 2) (s 7) (s 8) h) (eT k (λs h=>B.cond (s 61) (B.pv (V.bin .sub (s 7) (.int .i64 1)) λe=>zbg (zd.l5 C (zc3 8 (.int .i64 0) 0) (N 534) Q Y1 (s 0) (s 1) (s 2) (s 7) (s 8)) [e] h) (zd.k3 C (zc3 8 (.int .i64 0) 0) (N 534) Q Y1 (s 0) (s 1) (s 2) (s 7) (s 8) h)) r (λs h r=>eC 61 r (λr=>eT k (λs h=>zbg (zd.l5 C (zc3 8 (.int .i64 0) 0) (N 534) Q Y1 (s 0) (s 1) (s 2) (s 7) (s 8)) [(s 9)] h) r (λs h r=>eK (eL k [0,1,2,7,8] [9] (on5 (zd.l5 C (zc3 8 (.int .i64 0) 0) (N 534) Q Y1)) r (λY3 s h r=>e1 r)))) (λr=>e1 r))) (λs h r=>eT k (λs h=>B.cond (s 98) (B.pv (V.bin .add (s 7) (.int .i64 1)) λb=>zbg (zd.l2 C (zc3 8 (.int .i64 0) 0) (N 534) Q Y1 (s 0) (s 1) (s 2) (s 7) (s 8)) [b] h) (B.pv (V.bin .add (s 8) (.int .i64 1)) λa=>Y1 [(s 7),a] h)) r (λs h r=>eC 98 r (λr=>eT k (λs h=>zbg (zd.l2 C (zc3 8 (.int .i64 0) 0) (N 534) Q Y1 (s 0) (s 1) (s 2) (s 7) (s 8)) [(s 10)] h) r (λs h r=>eK (eL k [0,1,2,7,8] [10] (on5 (zd.l2 C (zc3 8 (.int .i64 0) 0) (N 534) Q Y1)) r (λY2 s h r=>e1 r)))) (λr=>e1 r))))))))) (λs h r=>e1 r)))))) (λs h r=>e1 r)))
theorem zba.imp:zba.Imp (AC P) N:=λa b c h Q r=>eF mixed (fn:=Try.f69) (λk=>zba.L k (dn Q) (zc2 [a,b,c]) h r)
def zc7.I:Bx:=⟨[],[],17,[]⟩
theorem zc7.L:LkT P zc7.I Try.f70 λC Q s h=>zc7.cps C N (s 0) (s 1) h Q:=λ{C} k Q s h r=>e1 r
theorem zc7.imp:zc7.Imp (AC P) N:=λa b h Q r=>eF mixed (fn:=Try.f70) (λk=>zc7.L k (dn Q) (zc2 [a,b]) h r)
def zbl.I:Bx:=⟨[],[],84,[(1,pz [] 16),(3,pz [] 15),(5,pz [] 14),(8,pz [] 16)]⟩
theorem zbl.L:LkT P zbl.I Try.f71 λC Q s h=>zbl.cps C N (s 0) (s 1) (s 2) (s 3) h Q:=λ{C} k Q s h r=>eT k (λs h=>zk.k8 C (zc3 8 (.int .i64 0) 0) (N 534) Q (s 0) (s 1) (s 2) (s 3) h) r (λs h r=>eT k (λs h=>zk.k7 C (zc3 8 (.int .i64 0) 0) (N 534) Q (s 0) (s 1) (s 2) h) r (λs h r=>eT k (λs h=>zbg (zk.l6 C (zc3 8 (.int .i64 0) 0) (N 534) Q (s 0) (s 1)) [(s 9),(s 10)] h) r (λs h r=>eS k (λs h=>Q (s 9) h) (eK (eL k [0,1] [9,10] (on2 (zk.l6 C (zc3 8 (.int .i64 0) 0) (N 534) Q)) r (λY1 s h r=>eK (eS k (λs h=>zbg (zk.l3 C (zc3 8 (.int .i64 0) 0) (N 534) Q Y1 (s 0) (s 1) (s 9)) [(s 10)] h) (eK (eL k [0,1,10] [9] (on3 (zk.l5 C (zc3 8 (.int .i64 0) 0) (N 534) Q Y1)) r (λY3 s h r=>e1 r))) (λs h r=>eS k (λs h=>zk.k1 C (zc3 8 (.int .i64 0) 0) (N 534) Q Y1 (s 0) (s 1) (s 9) (s 10) h) (eK (eL k [0,1,9] [10] (on3 (zk.l3 C (zc3 8 (.int .i64 0) 0) (N 534) Q Y1)) r (λY2 s h r=>e1 r))) (λs h r=>e1 r)))))) (λs h r=>e1 r))))
theorem zbl.imp:zbl.Imp (AC P) N:=λa b c d h Q r=>eF mixed (fn:=Try.f71) (λk=>zbl.L k (dn Q) (zc2 [a,b,c,d]) h r)
def zb9.I:Bx:=⟨[],[],168,[(1,pz [] 16),(3,pz [] 14),(5,pz [] 15),(8,pz [] 16),(10,pz [] 16),(13,pz [] 14),(15,pz [] 15),(18,pz [] 16),(21,pz [] 16)]⟩
theorem zb9.L:LkT P zb9.I Try.f72 λC Q s h=>zb9.cps C N (s 0) (s 1) (s 2) (s 3) h Q:=λ{C} k Q s h r=>eT k (λs h=>ze.k16 C (zc3 8 (.int .i64 0) 0) (N 534) Q (s 0) (s 1) (s 2) (s 3) h) r (λs h r=>eT k (λs h=>ze.k15 C (zc3 8 (.int .i64 0) 0) (N 534) Q (s 0) (s 1) (s 2) h) r (λs h r=>eT k (λs h=>zbg (ze.l14 C (zc3 8 (.int .i64 0) 0) (N 534) Q (s 0) (s 1) (s 11)) [(s 10)] h) r (λs h r=>eS k (λs h=>zbg (ze.l12 C (zc3 8 (.int .i64 0) 0) (N 534) Q (s 0) (s 1) (s 10)) [(s 11)] h) (eK (eL k [0,1,11] [10] (on3 (ze.l14 C (zc3 8 (.int .i64 0) 0) (N 534) Q)) r (λY5 s h r=>e1 r))) (λs h r=>eS k (λs h=>ze.k10 C (zc3 8 (.int .i64 0) 0) (N 534) Q (s 0) (s 1) (s 10) (s 11) h) (eK (eL k [0,1,10] [11] (on3 (ze.l12 C (zc3 8 (.int .i64 0) 0) (N 534) Q)) r (λY4 s h r=>e1 r))) (λs h r=>eT k (λs h=>ze.k9 C (zc3 8 (.int .i64 0) 0) (N 534) Q (s 0) (s 1) (s 10) (s 11) h) r (λs h r=>eT k (λs h=>ze.k8 C (zc3 8 (.int .i64 0) 0) (N 534) Q (s 0) (s 1) (s 10) (s 11) h) r (λs h r=>eT k (λs h=>B.pv (V.bin .sub (s 11) (.int .i64 1)) λa=>zbg (ze.l7 C (zc3 8 (.int .i64 0) 0) (N 534) Q (s 0) (s 1)) [(s 10),a] h) r (λs h r=>eT k (λs h=>zbg (ze.l7 C (zc3 8 (.int .i64 0) 0) (N 534) Q (s 0) (s 1)) [(s 10),(s 11)] h) r (λs h r=>eS k (λs h=>ze.k1 C (zc3 8 (.int .i64 0) 0) (N 534) Q (s 0) (s 1) (s 11) h) (eK (eL k [0,1] [10,11] (on2 (ze.l7 C (zc3 8 (.int .i64 0) 0) (N 534) Q)) r (λY1 s h r=>eK (eS k (λs h=>zbg (ze.l4 C (zc3 8 (.int .i64 0) 0) (N 534) Q Y1 (s 0) (s 1) (s 10)) [(s 11)] h) (eK (eL k [0,1,11] [10] (on3 (ze.l6 C (zc3 8 (.int .i64 0) 0) (N 534) Q Y1)) r (λY3 s h r=>e1 r))) (λs h r=>eS k (λs h=>ze.k2 C (zc3 8 (.int .i64 0) 0) (N 534) Q Y1 (s 0) (s 1) (s 10) (s 11) h) (eK (eL k [0,1,10] [11] (on3 (ze.l4 C (zc3 8 (.int .i64 0) 0) (N 534) Q Y1)) r (λY2 s h r=>e1 r))) (λs h r=>e1 r)))))) (λs h r=>e1 r))))))))))
theorem zb9.imp:zb9.Imp (AC P) N:=λa b c d h Q r=>eF mixed (fn:=Try.f72) (λk=>zb9.L k (dn Q) (zc2 [a,b,c,d]) h r)
def zbc.I:Bx:=⟨[],[],25,[]⟩
theorem zbc.L:LkT P zbc.I Try.f74 λC Q s h=>zbc.cps C N (s 0) h Q:=λ{C} k Q s h r=>eT k (λs h=>zbc.k4 C N Q (s 0) (s 2) h) r (λs h r=>eT k (λs h=>zbc.k3 C N Q (s 0) (s 2) h) r (λs h r=>eT k (λs h=>zbc.k2 C N Q (s 0) (s 2) h) r (λs h r=>eT k (λs h=>zbc.k1 C N Q (s 0) (s 2) h) r (λs h r=>e1 r))))
theorem zbc.imp:zbc.Imp (AC P) N:=λa h Q r=>eF mixed (fn:=Try.f74) (λk=>zbc.L k (dn Q) (zc2 [a]) h r)
def zbn.I:Bx:=⟨[],[],49,[(4,pz [] 15),(6,pz [] 18)]⟩
theorem zbn.L:LkT P zbn.I Try.f75 λC Q s h=>zbn.cps C N (s 0) (s 1) (s 2) h Q:=λ{C} k Q s h r=>eT k (λs h=>zbg (zz.l3 C (zc3 16 (.str []) 0) (N 377) Q (s 0) (s 1) (s 2)) [(s 6)] h) r (λs h r=>eK (eL k [0,1,2] [6] (on3 (zz.l3 C (zc3 16 (.str []) 0) (N 377) Q)) r (λY1 s h r=>eT k (λs h=>zbg (zz.l2 C (zc3 16 (.str []) 0) (N 377) Q Y1 (s 0) (s 1) (s 2) (s 6)) [(s 6)] h) r (λs h r=>eS k (λs h=>B.pv (V.bin .add (s 6) (.int .i64 1)) λa=>Y1 [a] h) (eK (eT k (λs h=>zbg (zz.l2 C (zc3 16 (.str []) 0) (N 377) Q Y1 (s 0) (s 1) (s 2) (s 6)) [(s 7)] h) r (λs h r=>eK (eL k [0,1,2,6] [7] (on4 (zz.l2 C (zc3 16 (.str []) 0) (N 377) Q Y1)) r (λY2 s h r=>e1 r))))) (λs h r=>e1 r)))))
theorem zbn.imp:zbn.Imp (AC P) N:=λa b c h Q r=>eF mixed (fn:=Try.f75) (λk=>zbn.L k (dn Q) (zc2 [a,b,c]) h r)
def zca.I:Bx:=⟨[],[],56,[(10,pz [] 20)]⟩
theorem zca.L:LkT P zca.I Try.f76 λC Q s h=>zca.cps C N (s 0) (s 1) (s 2) h Q:=λ{C} k Q s h r=>eT k (λs h=>B.pv (V.bin .sub (s 2) (s 1)) λa=>zw.k5 C (zc3 16 (.str []) 0) (N 386) Q (s 0) (s 6) (.int .i64 0) a h) r (λs h r=>eT k (λs h=>B.pv (V.bin .sub (s 2) (s 1)) λa=>zw.k5 C (zc3 16 (.str []) 0) (N 386) Q (s 0) (s 6) (s 7) a h) r (λs h r=>eT k (λs h=>zw.k5 C (zc3 16 (.str []) 0) (N 386) Q (s 0) (s 6) (s 7) (s 8) h) r (λs h r=>eS k (λs h=>B.pv (V.bin .sub (s 8) (.int .i64 1)) λb=>zbg (zw.l2 C (zc3 16 (.str []) 0) (N 386) Q (s 0) (s 6) (s 7)) [b] h) (eT k (λs h=>zbg (zw.l4 C (zc3 16 (.str []) 0) (N 386) Q (s 0) (s 6) (s 7) (s 8)) [(s 9)] h) r (λs h r=>eK (eL k [0,6,7,8] [9] (on4 (zw.l4 C (zc3 16 (.str []) 0) (N 386) Q)) r (λY2 s h r=>e1 r)))) (λs h r=>eT k (λs h=>zbg (zw.l2 C (zc3 16 (.str []) 0) (N 386) Q (s 0) (s 6) (s 7)) [(s 10)] h) r (λs h r=>eK (eL k [0,6,7] [10] (on3 (zw.l2 C (zc3 16 (.str []) 0) (N 386) Q)) r (λY1 s h r=>e1 r)))))))
theorem zca.imp:zca.Imp (AC P) N:=λa b c h Q r=>eF mixed (fn:=Try.f76) (λk=>zca.L k (dn Q) (zc2 [a,b,c]) h r)
def zbo.I:Bx:=⟨[],[],65,[(10,pz [] 20)]⟩
theorem zbo.L:LkT P zbo.I Try.f77 λC Q s h=>zbo.cps C N (s 0) (s 1) (s 2) h Q:=λ{C} k Q s h r=>eT k (λs h=>B.pv (V.bin .geq (s 6) (.int .i64 8)) λa=>B.cond a (zj.k7 C (zc3 16 (.str []) 0) (N 298) (N 299) Q (s 0) (s 1) (s 6) h) (Q (.tup []) h)) r (λs h r=>eT k (λs h=>B.cond (s 15) (zj.k7 C (zc3 16 (.str []) 0) (N 298) (N 299) Q (s 0) (s 1) (s 6) h) (Q (.tup []) h)) r (λs h r=>eC 15 r (λr=>eT k (λs h=>B.call C (N 299) [(s 6)] h λb h=>zj.k6 C (zc3 16 (.str []) 0) (N 298) (N 299) Q (s 0) (s 1) (s 6) (s 7) b h) r (λs h r=>eT k (λs h=>zj.k6 C (zc3 16 (.str []) 0) (N 298) (N 299) Q (s 0) (s 1) (s 6) (s 7) (s 8) h) r (λs h r=>eT k (λs h=>zbg (zj.l5 C (zc3 16 (.str []) 0) (N 298) (N 299) Q (s 0) (s 1) (s 6) (s 7) (s 8)) [(s 9)] h) r (λs h r=>eK (eL k [0,1,6,7,8] [9] (on5 (zj.l5 C (zc3 16 (.str []) 0) (N 298) (N 299) Q)) r (λY1 s h r=>eT k (λs h=>zj.k3 C (zc3 16 (.str []) 0) (N 298) (N 299) Q Y1 (s 0) (s 1) (s 6) (s 7) (s 8) (s 9) h) r (λs h r=>eS k (λs h=>B.pv (V.bin .add (s 9) (.int .i64 1)) λc=>Y1 [c] h) (eK (eT k (λs h=>zj.k2 C (zc3 16 (.str []) 0) (N 298) (N 299) Q Y1 (s 0) (s 1) (s 6) (s 7) (s 8) (s 9) (s 10) h) r (λs h r=>eT k (λs h=>zj.k1 C (zc3 16 (.str []) 0) (N 298) (N 299) Q Y1 (s 0) (s 1) (s 6) (s 7) (s 8) (s 9) (s 10) h) r (λs h r=>e1 r)))) (λs h r=>e1 r)))))))) (λr=>e1 r)))
theorem zbo.imp:zbo.Imp (AC P) N:=λa b c h Q r=>eF mixed (fn:=Try.f77) (λk=>zbo.L k (dn Q) (zc2 [a,b,c]) h r)
def zbw.I:Bx:=⟨[],[],57,[]⟩
theorem zbw.L:LkT P zbw.I Try.f78 λC Q s h=>zbw.cps C N (s 0) (s 1) (s 2) h Q:=λ{C} k Q s h r=>eT k (λs h=>B.pv (V.bin .sub (s 2) (s 1)) λb=>B.zgc h (some [.int .i64 0]) λa h=>zo.k5 C (zc3 16 (.str []) 0) (N 387) (N 388) Q (s 0) (s 1) b (.ptr a 0 0) h) r (λs h r=>eT k (λs h=>B.zgc h (some [.int .i64 0]) λa h=>zo.k5 C (zc3 16 (.str []) 0) (N 387) (N 388) Q (s 0) (s 1) (s 8) (.ptr a 0 0) h) r (λs h r=>eT k (λs h=>zo.k5 C (zc3 16 (.str []) 0) (N 387) (N 388) Q (s 0) (s 1) (s 8) (s 9) h) r (λs h r=>eT k (λs h=>zo.k4 C (zc3 16 (.str []) 0) (N 387) (N 388) Q (s 0) (s 1) (s 8) (s 9) (s 10) h) r (λs h r=>eT k (λs h=>zo.k3 C (zc3 16 (.str []) 0) (N 387) (N 388) Q (s 0) (s 1) (s 8) (s 9) (s 10) (s 11) h) r (λs h r=>eT k (λs h=>zo.k2 C (zc3 16 (.str []) 0) (N 387) (N 388) Q (s 0) (s 8) (s 9) (s 10) (s 11) (s 12) h) r (λs h r=>eT k (λs h=>zo.k1 C (zc3 16 (.str []) 0) (N 387) (N 388) Q (s 9) (s 11) h) r (λs h r=>e1 r)))))))
theorem zbw.imp:zbw.Imp (AC P) N:=λa b c h Q r=>eF mixed (fn:=Try.f78) (λk=>zbw.L k (dn Q) (zc2 [a,b,c]) h r)
def zbq.I:Bx:=⟨[],[],32,[(3,pz [] 16)]⟩
theorem zbq.L:LkT P zbq.I Try.f79 λC Q s h=>zbq.cps C N (s 0) (s 1) (s 2) h Q:=λ{C} k Q s h r=>eT k (λs h=>B.pv (V.bin .sub (s 2) (.int .i64 1)) λa=>zbg (zbr.l2 C (zc3 16 (.str []) 0) Q (s 0)) [(s 6),a] h) r (λs h r=>eT k (λs h=>zbg (zbr.l2 C (zc3 16 (.str []) 0) Q (s 0)) [(s 6),(s 7)] h) r (λs h r=>eK (eL k [0] [6,7] (on1 (zbr.l2 C (zc3 16 (.str []) 0) Q)) r (λY1 s h r=>e1 r))))
theorem zbq.imp:zbq.Imp (AC P) N:=λa b c h Q r=>eF mixed (fn:=Try.f79) (λk=>zbq.L k (dn Q) (zc2 [a,b,c]) h r)
def z9.I:Bx:=⟨[],[],133,[(5,pz [] 16),(11,pz [] 18),(16,pz [] 11),(17,pz [] 18),(22,pz [] 11),(23,pz [] 18)]⟩
theorem z9.L:LkT P z9.I Try.f80 λC Q s h=>z9.cps C N (s 0) (s 1) (s 2) h Q:=λ{C} k Q s h r=>eT k (λs h=>B.pv (V.bin .add (s 1) (.int .i64 1)) λc=>zbg (zd.l12 C (zc3 16 (.str []) 0) (N 377) Q (s 0) (s 1) (s 2)) [c,(.int .i64 0)] h) r (λs h r=>eT k (λs h=>zbg (zd.l12 C (zc3 16 (.str []) 0) (N 377) Q (s 0) (s 1) (s 2)) [(s 7),(.int .i64 0)] h) r (λs h r=>eS k (λs h=>Q (.bool false) h) (eT k (λs h=>zbg (zd.l12 C (zc3 16 (.str []) 0) (N 377) Q (s 0) (s 1) (s 2)) [(s 7),(s 8)] h) r (λs h r=>eK (eL k [0,1,2] [7,8] (on3 (zd.l12 C (zc3 16 (.str []) 0) (N 377) Q)) r (λY1 s h r=>eT k (λs h=>zbg (zd.l10 C (zc3 16 (.str []) 0) (N 377) Q Y1 (s 0) (s 1) (s 2) (s 8)) [(s 7)] h) r (λs h r=>eS k (λs h=>B.pv (V.bin .add (s 8) (.int .i64 1)) λa=>Y1 [(s 7),a] h) (eK (eS k (λs h=>B.pv (V.bin .eql (s 7) (s 2)) λd=>B.cond d (Q (.bool true) h) (zd.k8 C (zc3 16 (.str []) 0) (N 377) Q Y1 (s 0) (s 1) (s 2) (s 7) (s 8) h)) (eK (eL k [0,1,2,8] [7] (on4 (zd.l10 C (zc3 16 (.str []) 0) (N 377) Q Y1)) r (λY4 s h r=>e1 r))) (λs h r=>eT k (λs h=>zd.k8 C (zc3 16 (.str []) 0) (N 377) Q Y1 (s 0) (s 1) (s 2) (s 7) (s 8) h) r (λs h r=>eT k (λs h=>zd.k7 C (zc3 16 (.str []) 0) (N 377) Q Y1 (s 0) (s 1) (s 2) (s 7) (s 8) h) r (λs h r=>eT k (λs h=>zd.k6 C (zc3 16 (.str []) 0) (N 377) Q Y1 (s 0) (s 1) (s 2) (s 7) (s 8) h) r (λs h r=>eS k (λs h=>zd.k3 C (zc3 16 (.str []) 0) (N 377) Q Y1 (s 0) (s 1) (s 2) (s 7) (s 8) h) (eT k (λs h=>B.cond (s 61) (B.pv (V.bin .sub (s 7) (.int .i64 1)) λe=>zbg (zd.l5 C (zc3 16 (.str []) 0) (N 377) Q Y1 (s 0) (s 1) (s 2) (s 7) (s 8)) [e] h) (zd.k3 C (zc3 16 (.str []) 0) (N 377) Q Y1 (s 0) (s 1) (s 2) (s 7) (s 8) h)) r (λs h r=>eC 61 r (λr=>eT k (λs h=>zbg (zd.l5 C (zc3 16 (.str []) 0) (N 377) Q Y1 (s 0) (s 1) (s 2) (s 7) (s 8)) [(s 9)] h) r (λs h r=>eK (eL k [0,1,2,7,8] [9] (on5 (zd.l5 C (zc3 16 (.str []) 0) (N 377) Q Y1)) r (λY3 s h r=>e1 r)))) (λr=>e1 r))) (λs h r=>eT k (λs h=>B.cond (s 98) (B.pv (V.bin .add (s 7) (.int .i64 1)) λb=>zbg (zd.l2 C (zc3 16 (.str []) 0) (N 377) Q Y1 (s 0) (s 1) (s 2) (s 7) (s 8)) [b] h) (B.pv (V.bin .add (s 8) (.int .i64 1)) λa=>Y1 [(s 7),a] h)) r (λs h r=>eC 98 r (λr=>eT k (λs h=>zbg (zd.l2 C (zc3 16 (.str []) 0) (N 377) Q Y1 (s 0) (s 1) (s 2) (s 7) (s 8)) [(s 10)] h) r (λs h r=>eK (eL k [0,1,2,7,8] [10] (on5 (zd.l2 C (zc3 16 (.str []) 0) (N 377) Q Y1)) r (λY2 s h r=>e1 r)))) (λr=>e1 r))))))))) (λs h r=>e1 r)))))) (λs h r=>e1 r)))
theorem z9.imp:z9.Imp (AC P) N:=λa b c h Q r=>eF mixed (fn:=Try.f80) (λk=>z9.L k (dn Q) (zc2 [a,b,c]) h r)
def zcz.I:Bx:=⟨[],[],17,[]⟩
theorem zcz.L:LkT P zcz.I Try.f81 λC Q s h=>zcz.cps C N (s 0) (s 1) h Q:=λ{C} k Q s h r=>e1 r
theorem zcz.imp:zcz.Imp (AC P) N:=λa b h Q r=>eF mixed (fn:=Try.f81) (λk=>zcz.L k (dn Q) (zc2 [a,b]) h r)
def zbi.I:Bx:=⟨[],[],84,[(1,pz [] 16),(3,pz [] 15),(5,pz [] 14),(8,pz [] 16)]⟩
theorem zbi.L:LkT P zbi.I Try.f82 λC Q s h=>zbi.cps C N (s 0) (s 1) (s 2) (s 3) h Q:=λ{C} k Q s h r=>eT k (λs h=>zk.k8 C (zc3 16 (.str []) 0) (N 377) Q (s 0) (s 1) (s 2) (s 3) h) r (λs h r=>eT k (λs h=>zk.k7 C (zc3 16 (.str []) 0) (N 377) Q (s 0) (s 1) (s 2) h) r (λs h r=>eT k (λs h=>zbg (zk.l6 C (zc3 16 (.str []) 0) (N 377) Q (s 0) (s 1)) [(s 9),(s 10)] h) r (λs h r=>eS k (λs h=>Q (s 9) h) (eK (eL k [0,1] [9,10] (on2 (zk.l6 C (zc3 16 (.str []) 0) (N 377) Q)) r (λY1 s h r=>eK (eS k (λs h=>zbg (zk.l3 C (zc3 16 (.str []) 0) (N 377) Q Y1 (s 0) (s 1) (s 9)) [(s 10)] h) (eK (eL k [0,1,10] [9] (on3 (zk.l5 C (zc3 16 (.str []) 0) (N 377) Q Y1)) r (λY3 s h r=>e1 r))) (λs h r=>eS k (λs h=>zk.k1 C (zc3 16 (.str []) 0) (N 377) Q Y1 (s 0) (s 1) (s 9) (s 10) h) (eK (eL k [0,1,9] [10] (on3 (zk.l3 C (zc3 16 (.str []) 0) (N 377) Q Y1)) r (λY2 s h r=>e1 r))) (λs h r=>e1 r)))))) (λs h r=>e1 r))))
theorem zbi.imp:zbi.Imp (AC P) N:=λa b c d h Q r=>eF mixed (fn:=Try.f82) (λk=>zbi.L k (dn Q) (zc2 [a,b,c,d]) h r)
def zb2.I:Bx:=⟨[],[],168,[(1,pz [] 16),(3,pz [] 14),(5,pz [] 15),(8,pz [] 16),(10,pz [] 16),(13,pz [] 14),(15,pz [] 15),(18,pz [] 16),(21,pz [] 16)]⟩
theorem zb2.L:LkT P zb2.I Try.f83 λC Q s h=>zb2.cps C N (s 0) (s 1) (s 2) (s 3) h Q:=λ{C} k Q s h r=>eT k (λs h=>ze.k16 C (zc3 16 (.str []) 0) (N 377) Q (s 0) (s 1) (s 2) (s 3) h) r (λs h r=>eT k (λs h=>ze.k15 C (zc3 16 (.str []) 0) (N 377) Q (s 0) (s 1) (s 2) h) r (λs h r=>eT k (λs h=>zbg (ze.l14 C (zc3 16 (.str []) 0) (N 377) Q (s 0) (s 1) (s 11)) [(s 10)] h) r (λs h r=>eS k (λs h=>zbg (ze.l12 C (zc3 16 (.str []) 0) (N 377) Q (s 0) (s 1) (s 10)) [(s 11)] h) (eK (eL k [0,1,11] [10] (on3 (ze.l14 C (zc3 16 (.str []) 0) (N 377) Q)) r (λY5 s h r=>e1 r))) (λs h r=>eS k (λs h=>ze.k10 C (zc3 16 (.str []) 0) (N 377) Q (s 0) (s 1) (s 10) (s 11) h) (eK (eL k [0,1,10] [11] (on3 (ze.l12 C (zc3 16 (.str []) 0) (N 377) Q)) r (λY4 s h r=>e1 r))) (λs h r=>eT k (λs h=>ze.k9 C (zc3 16 (.str []) 0) (N 377) Q (s 0) (s 1) (s 10) (s 11) h) r (λs h r=>eT k (λs h=>ze.k8 C (zc3 16 (.str []) 0) (N 377) Q (s 0) (s 1) (s 10) (s 11) h) r (λs h r=>eT k (λs h=>B.pv (V.bin .sub (s 11) (.int .i64 1)) λa=>zbg (ze.l7 C (zc3 16 (.str []) 0) (N 377) Q (s 0) (s 1)) [(s 10),a] h) r (λs h r=>eT k (λs h=>zbg (ze.l7 C (zc3 16 (.str []) 0) (N 377) Q (s 0) (s 1)) [(s 10),(s 11)] h) r (λs h r=>eS k (λs h=>ze.k1 C (zc3 16 (.str []) 0) (N 377) Q (s 0) (s 1) (s 11) h) (eK (eL k [0,1] [10,11] (on2 (ze.l7 C (zc3 16 (.str []) 0) (N 377) Q)) r (λY1 s h r=>eK (eS k (λs h=>zbg (ze.l4 C (zc3 16 (.str []) 0) (N 377) Q Y1 (s 0) (s 1) (s 10)) [(s 11)] h) (eK (eL k [0,1,11] [10] (on3 (ze.l6 C (zc3 16 (.str []) 0) (N 377) Q Y1)) r (λY3 s h r=>e1 r))) (λs h r=>eS k (λs h=>ze.k2 C (zc3 16 (.str []) 0) (N 377) Q Y1 (s 0) (s 1) (s 10) (s 11) h) (eK (eL k [0,1,10] [11] (on3 (ze.l4 C (zc3 16 (.str []) 0) (N 377) Q Y1)) r (λY2 s h r=>e1 r))) (λs h r=>e1 r)))))) (λs h r=>e1 r))))))))))
theorem zb2.imp:zb2.Imp (AC P) N:=λa b c d h Q r=>eF mixed (fn:=Try.f83) (λk=>zb2.L k (dn Q) (zc2 [a,b,c,d]) h r)
def zcf.I:Bx:=⟨[],[],76,[(3,pz [] 20),(5,pz [] 14),(6,pz [] 24)]⟩
theorem zcf.L:LkT P zcf.I Try.f84 λC Q s h=>zcf.cps C N (s 0) (s 1) (s 2) (s 3) h Q:=λ{C} k Q s h r=>eT k (λs h=>zbg (z4.l4 C (zc3 8 (.int .i64 0) 0) (N 534) Q (s 0) (s 2) (s 3)) [(s 8)] h) r (λs h r=>eK (eL k [0,2,3] [8] (on3 (z4.l4 C (zc3 8 (.int .i64 0) 0) (N 534) Q)) r (λY1 s h r=>eK (eT k (λs h=>B.pv (V.bin .geq (s 9) (s 2)) λa=>B.cond a (Q (.tup []) h) (z4.k2 C (zc3 8 (.int .i64 0) 0) (N 534) Q Y1 (s 0) (s 2) (s 3) (s 8) (s 9) h)) r (λs h r=>eT k (λs h=>z4.k2 C (zc3 8 (.int .i64 0) 0) (N 534) Q Y1 (s 0) (s 2) (s 3) (s 8) (s 9) h) r (λs h r=>eT k (λs h=>z4.k1 C (zc3 8 (.int .i64 0) 0) (N 534) Q Y1 (s 0) (s 2) (s 3) (s 8) (s 9) h) r (λs h r=>e1 r)))))))
theorem zcf.imp:zcf.Imp (AC P) N:=λa b c d h Q r=>eF mixed (fn:=Try.f84) (λk=>zcf.L k (dn Q) (zc2 [a,b,c,d]) h r)
def zcv.I:Bx:=⟨[],[],7,[]⟩
theorem zcv.L:LkT P zcv.I Try.f85 λC Q s h=>zcv.cps C N (s 0) h Q:=λ{C} k Q s h r=>e1 r
theorem zcv.imp:zcv.Imp (AC P) N:=λa h Q r=>eF mixed (fn:=Try.f85) (λk=>zcv.L k (dn Q) (zc2 [a]) h r)
def zcd.I:Bx:=⟨[],[],33,[(1,pz [] 10),(2,pz [] 10),(3,pz [] 10)]⟩
theorem zcd.L:LkT P zcd.I Try.f86 λC Q s h=>zcd.cps C N (s 0) h Q:=λ{C} k Q s h r=>e1 r
theorem zcd.imp:zcd.Imp (AC P) N:=λa h Q r=>eF mixed (fn:=Try.f86) (λk=>zcd.L k (dn Q) (zc2 [a]) h r)
def zbm.I:Bx:=⟨[],[],15,[]⟩
theorem zbm.L:LkT P zbm.I Try.f87 λC Q s h=>zbm.cps C N (s 0) (s 1) (s 2) h Q:=λ{C} k Q s h r=>e1 r
theorem zbm.imp:zbm.Imp (AC P) N:=λa b c h Q r=>eF mixed (fn:=Try.f87) (λk=>zbm.L k (dn Q) (zc2 [a,b,c]) h r)
def zcu.I:Bx:=⟨[],[],36,[]⟩
theorem zcu.L:LkT P zcu.I Try.f88 λC Q s h=>zcu.cps C N (s 0) (s 1) (s 2) (s 3) (s 4) h Q:=λ{C} k Q s h r=>e1 r
theorem zcu.imp:zcu.Imp (AC P) N:=λa b c d e h Q r=>eF mixed (fn:=Try.f88) (λk=>zcu.L k (dn Q) (zc2 [a,b,c,d,e]) h r)
def zc9.I:Bx:=⟨[],[],6,[]⟩
theorem zc9.L:LkT P zc9.I Try.f89 λC Q s h=>zc9.cps C N (s 0) h Q:=λ{C} k Q s h r=>e1 r
theorem zc9.imp:zc9.Imp (AC P) N:=λa h Q r=>eF mixed (fn:=Try.f89) (λk=>zc9.L k (dn Q) (zc2 [a]) h r)
def zb8.I:Bx:=⟨[],[],76,[(3,pz [] 20),(5,pz [] 14),(6,pz [] 24)]⟩
theorem zb8.L:LkT P zb8.I Try.f90 λC Q s h=>zb8.cps C N (s 0) (s 1) (s 2) (s 3) h Q:=λ{C} k Q s h r=>eT k (λs h=>zbg (z4.l4 C (zc3 16 (.str []) 0) (N 377) Q (s 0) (s 2) (s 3)) [(s 8)] h) r (λs h r=>eK (eL k [0,2,3] [8] (on3 (z4.l4 C (zc3 16 (.str []) 0) (N 377) Q)) r (λY1 s h r=>eK (eT k (λs h=>B.pv (V.bin .geq (s 9) (s 2)) λa=>B.cond a (Q (.tup []) h) (z4.k2 C (zc3 16 (.str []) 0) (N 377) Q Y1 (s 0) (s 2) (s 3) (s 8) (s 9) h)) r (λs h r=>eT k (λs h=>z4.k2 C (zc3 16 (.str []) 0) (N 377) Q Y1 (s 0) (s 2) (s 3) (s 8) (s 9) h) r (λs h r=>eT k (λs h=>z4.k1 C (zc3 16 (.str []) 0) (N 377) Q Y1 (s 0) (s 2) (s 3) (s 8) (s 9) h) r (λs h r=>e1 r)))))))
theorem zb8.imp:zb8.Imp (AC P) N:=λa b c d h Q r=>eF mixed (fn:=Try.f90) (λk=>zb8.L k (dn Q) (zc2 [a,b,c,d]) h r)
def zbj.I:Bx:=⟨[],[],15,[]⟩
theorem zbj.L:LkT P zbj.I Try.f91 λC Q s h=>zbj.cps C N (s 0) (s 1) (s 2) h Q:=λ{C} k Q s h r=>e1 r
theorem zbj.imp:zbj.Imp (AC P) N:=λa b c h Q r=>eF mixed (fn:=Try.f91) (λk=>zbj.L k (dn Q) (zc2 [a,b,c]) h r)
def zco.I:Bx:=⟨[],[],36,[]⟩
theorem zco.L:LkT P zco.I Try.f92 λC Q s h=>zco.cps C N (s 0) (s 1) (s 2) (s 3) (s 4) h Q:=λ{C} k Q s h r=>e1 r
theorem zco.imp:zco.Imp (AC P) N:=λa b c d e h Q r=>eF mixed (fn:=Try.f92) (λk=>zco.L k (dn Q) (zc2 [a,b,c,d,e]) h r)
def zc1.I:Bx:=⟨[],[],6,[]⟩
theorem zc1.L:LkT P zc1.I Try.f93 λC Q s h=>zc1.cps C N (s 0) h Q:=λ{C} k Q s h r=>e1 r
theorem zc1.imp:zc1.Imp (AC P) N:=λa h Q r=>eF mixed (fn:=Try.f93) (λk=>zc1.L k (dn Q) (zc2 [a]) h r)
def zct.I:Bx:=⟨[],[],28,[(1,pz [] 9)]⟩
theorem zct.L:LkT P zct.I Try.f94 λC Q s h=>zct.cps C N (s 0) (s 1) (s 2) (s 3) h Q:=λ{C} k Q s h r=>e1 r
theorem zct.imp:zct.Imp (AC P) N:=λa b c d h Q r=>eF mixed (fn:=Try.f94) (λk=>zct.L k (dn Q) (zc2 [a,b,c,d]) h r)
def zcn.I:Bx:=⟨[],[],28,[(1,pz [] 9)]⟩
theorem zcn.L:LkT P zcn.I Try.f95 λC Q s h=>zcn.cps C N (s 0) (s 1) (s 2) (s 3) h Q:=λ{C} k Q s h r=>e1 r
theorem zcn.imp:zcn.Imp (AC P) N:=λa b c d h Q r=>eF mixed (fn:=Try.f95) (λk=>zcn.L k (dn Q) (zc2 [a,b,c,d]) h r)
end Go.Ab.S24
namespace Go.Ab
open List
section
variable{h h0:zb}{es:Nat}{x:za}{L R:List (List za)}{l:List Ob}
end
abbrev zd4(K T:Type):=List (K×T×Nat)
def zb7{K T:Type}(ps:zd4 K T):List K:=ps.map (·.1)
theorem zi1{K T:Type}(p:K×T×Nat)(r:zd4 K T):zb7 (p::r)=p.1::zb7 r:=rfl
section
variable{K T:Type}[DecidableEq K]
def zf0:zd4 K T->K->Option T|[],_=>none|p::r,k=>if p.1=k then some p.2.1 else zf0 r k
def zkl:zd4 K T->K->T->Nat->zd4 K T|[],k,t,c=>[(k,t,c)]|p::r,k,t,c=>if p.1=k then (k,t,p.2.2)::r else p::zkl r k t c
def zl3:zd4 K T->K->zd4 K T|[],_=>[]|p::r,k=>if p.1=k then r else p::zl3 r k
def clkP(ps:zd4 K T)(k:K)(c:Nat):Nat:=if (zf0 ps k).isSome then c else c+1
def zl1:zd4 K T->K->Option (Nat×T×Nat)|[],_=>none|p::r,k=>if p.1=k then some (0,p.2.1,p.2.2) else (zl1 r k).map fun(i,q)=>(i+1,q)
theorem zoa(k k':K)(t:T)(c:Nat):∀ps:zd4 K T,zf0 (zkl ps k t c) k'=if k'=k then some t else zf0 ps k'
 | []=>by
  simp only[zkl,zf0]
  by_cases h:k'=k
  ·rw[if_pos h.symm,if_pos h]
  ·rw[if_neg (Ne.symm h),if_neg h]
 | p::r=>by
  have ih:=zoa k k' t c r
  simp only[zkl]
  by_cases hp:p.1=k
  ·rw[if_pos hp]
   simp only[zf0]
   by_cases h:k'=k
   ·rw[if_pos h.symm,if_pos h]
   ·rw[if_neg (Ne.symm h),if_neg h,if_neg (by rw[hp];exact Ne.symm h)]
  ·rw[if_neg hp]
   simp only[zf0,ih]
   by_cases h:k'=k
   ·subst h;rw[if_neg hp,if_pos rfl,if_pos rfl]
   ·rw[if_neg h,if_neg h]
theorem zpe{k:K}:∀{ps:zd4 K T},zf0 ps k=none↔k∉zb7 ps
 | []=>by simp[zf0,zb7]
 | p::r=>by
  have ih:=zpe (k:=k) (ps:=r)
  simp only[zf0,zb7,map_cons,mem_cons,not_or]at ih ⊢
  by_cases hp:p.1=k
  ·simp[hp]
  ·simp[hp,ih,Ne.symm hp]
theorem zmk(k:K):∀ps:zd4 K T,zf0 ps k=(zl1 ps k).map (·.2.1)
 | []=>rfl
 | p::r=>by
  simp only[zf0,zl1]
  split
  ·rfl
  ·rw[zmk k r];cases zl1 r k<;>rfl
theorem idxP_put{k:K}{t:T}{c i:Nat}{q:T×Nat}:∀{ps:zd4 K T},zl1 ps k=some (i,q)->zkl ps k t c=ps.set i (k,t,q.2) /\ i<ps.length
 | [],h=>by simp[zl1]at h
 | p::r,h=>by
  simp only[zl1]at h
  by_cases hp:p.1=k
  ·rw[if_pos hp]at h
   simp only[Option.some.injEq,Prod.mk.injEq]at h
   obtain⟨rfl,rfl⟩:=h
   simp[zkl,hp]
  ·rw[if_neg hp]at h
   cases hr:zl1 r k with
   | none=>simp[hr]at h
   | some x=>
    obtain⟨j,q'⟩:=x
    simp[hr]at h
    obtain⟨rfl,rfl⟩:=h
    have:=idxP_put (t:=t) (c:=c) hr
    simp[zkl,hp,this.1,this.2]
theorem idxP_del{k:K}{i:Nat}{q:T×Nat}:∀{ps:zd4 K T},zl1 ps k=some (i,q)->zl3 ps k=ps.eraseIdx i
 | [],h=>by simp[zl1]at h
 | p::r,h=>by
  simp only[zl1]at h
  by_cases hp:p.1=k
  ·rw[if_pos hp]at h
   simp only[Option.some.injEq,Prod.mk.injEq]at h
   obtain⟨rfl,rfl⟩:=h
   simp[zl3,hp]
  ·rw[if_neg hp]at h
   cases hr:zl1 r k with
   | none=>simp[hr]at h
   | some x=>
    obtain⟨j,q'⟩:=x
    simp[hr]at h
    obtain⟨rfl,rfl⟩:=h
    simp[zl3,hp,idxP_del hr]
theorem zjg{k:K}{t:T}{c:Nat}:∀{ps:zd4 K T},zl1 ps k=none->zkl ps k t c=ps++[(k,t,c)]
 | [],_=>rfl
 | p::r,h=>by
  simp only[zl1]at h
  by_cases hp:p.1=k
  ·rw[if_pos hp]at h;cases h
  ·rw[if_neg hp]at h
   cases hr:zl1 r k with
   | none=>simp[zkl,hp,zjg hr]
   | some x=>simp[hr]at h
theorem zjh{k:K}:∀{ps:zd4 K T},zl1 ps k=none->zl3 ps k=ps
 | [],_=>rfl
 | p::r,h=>by
  simp only[zl1]at h
  by_cases hp:p.1=k
  ·rw[if_pos hp]at h;cases h
  ·rw[if_neg hp]at h
   cases hr:zl1 r k with
   | none=>simp[zl3,hp,zjh hr]
   | some x=>simp[hr]at h
theorem zkb(k:K)(t:T)(c:Nat):∀ps:zd4 K T,zb7 (zkl ps k t c)=if k∈zb7 ps then zb7 ps else zb7 ps++[k]
 | []=>by simp[zkl,zb7]
 | p::r=>by
  have ih:=zkb k t c r
  by_cases hp:p.1=k
  ·rw[zkl,if_pos hp,zi1,zi1,if_pos (by simp[hp]),hp]
  ·rw[zkl,if_neg hp,zi1,ih,zi1]
   by_cases hm:k∈zb7 r
   ·rw[if_pos hm,if_pos (by simp[hm])]
   ·rw[if_neg hm,if_neg (by simp[hm,Ne.symm hp])];rfl
theorem zj4{ps:zd4 K T}(h:(zb7 ps).Nodup)(k:K)(t:T)(c:Nat):(zb7 (zkl ps k t c)).Nodup:=by
 rw[zkb];split
 ·exact h
 ·rename_i hk
  rw[nodup_append];exact⟨h,pairwise_singleton _ _,λa ha b hb e=>hk (by rw[mem_singleton.1 hb]at e;rw[<-e];exact ha)⟩
theorem keysP_del(k:K):∀{ps:zd4 K T},zb7 (zl3 ps k)=(zb7 ps).erase k
 | []=>rfl
 | p::r=>by
  have ih:=keysP_del k (ps:=r)
  simp only[zl3,zb7]at ih ⊢
  by_cases hp:p.1=k
  ·simp[hp]
  ·simp[hp,ih,erase_cons]
theorem nodup_del{ps:zd4 K T}(h:(zb7 ps).Nodup)(k:K):(zb7 (zl3 ps k)).Nodup:=by
 rw[keysP_del];exact h.sublist (erase_sublist)
theorem zg4{k:K}{t:T}:∀{ps:zd4 K T},zf0 ps k=some t->∃n,(k,t,n)∈ps
 | [],h=>by simp[zf0]at h
 | p::r,h=>by
  simp only[zf0]at h
  by_cases hp:p.1=k
  ·rw[if_pos hp]at h
   cases h
   exact⟨p.2.2,by rw[<-hp];simp⟩
  ·rw[if_neg hp]at h
   obtain⟨n,hn⟩:=zg4 h
   exact⟨n,by simp[hn]⟩
theorem mem_getP{ps:zd4 K T}(hn:(zb7 ps).Nodup){p:K×T×Nat}(hp:p∈ps):zf0 ps p.1=some p.2.1:=by
 induction ps with
 | nil=>cases hp
 | cons q r ih=>
  simp only[zb7,map_cons,nodup_cons]at hn;simp only[zf0];rcases mem_cons.1 hp with rfl|hp
  ·rw[if_pos rfl]
  ·rw[if_neg,ih hn.2 hp]
   intro e;exact hn.1 (by rw[e];exact mem_map_of_mem hp)
end
structure KeyE(kd:KD){K:Type}[DecidableEq K](κ:K->za):Prop where
 same:∀a b,V.sameK kd (κ a) (κ b)=some (decide (a=b))
theorem keyI:KeyE .i (λn:Int=> .int .i64 n):=⟨λa b=>by
 simp only[V.sameK,if_true];congr 1⟩
theorem keyS:KeyE .s (λs:List UInt8=> .str s):=⟨λa b=>by
 simp only[V.sameK];congr 1;rw[Bool.eq_iff_iff,beq_iff_eq,decide_eq_true_eq]⟩
theorem map_eraseIdx{α β:Type}(f:α->β):∀(l:List α)(i:Nat),(l.map f).eraseIdx i=(l.eraseIdx i).map f
 | [],_=>rfl
 | _::_,0=>rfl
 | a::l,i+1=>by simp[map_eraseIdx f l i]
def zg7{K T:Type}(κ:K->za)(v:T->za)(ps:zd4 K T):List (za×za×Nat):=ps.map λp=>(κ p.1,v p.2.1,p.2.2)
section
variable{kd:KD}{K T:Type}[DecidableEq K]{κ:K->za}{v:T->za}
theorem zkd(hκ:KeyE kd κ)(k:K):∀(ps:zd4 K T)(i:Nat),V.zpv kd (κ k) (zg7 κ v ps) i=some ((zl1 ps k).map fun(j,q)=>(i+j,v q.1,q.2))
 | [],i=>rfl
 | p::r,i=>by
  simp only[zg7,map_cons,V.zpv,hκ.same,zl1]
  by_cases hp:k=p.1
  ·rw[if_pos hp.symm];simp[hp]
  ·rw[if_neg (Ne.symm hp)]
   have ih:=zkd hκ k r (i+1)
   simp only[zg7]at ih
   simp only[hp,decide_false,ih]
   cases zl1 r k with
   | none=>rfl
   | some x=>obtain⟨j,q⟩:=x;simp only[Option.map_some];congr 3;omega
theorem fset_enc(hκ:KeyE kd κ)(k:K)(t:T)(ps:zd4 K T)(c:Nat):A.fset (some kd) (κ k) (v t) (zg7 κ v ps) c=some (zg7 κ v (zkl ps k t c),clkP ps k c,.undef):=by
 simp only[A.fset,zkd hκ,clkP,zmk];cases h:zl1 ps k with
 | none=>simp[zjg h,zg7]
 | some x=>
  obtain⟨j,q⟩:=x;have:=idxP_put (t:=t) (c:=c) h;simp only[Option.map_some,Option.isSome_some,if_true,Nat.zero_add,this.1,zg7,map_set]
theorem fdel_enc(hκ:KeyE kd κ)(k:K)(ps:zd4 K T)(c:Nat):A.fdel (some kd) (κ k) (zg7 κ v ps) c=some (zg7 κ v (zl3 ps k),c,.tup []):=by
 simp only[A.fdel,zkd hκ];cases h:zl1 ps k with
 | none=>simp[zjh h]
 | some x=>
  obtain⟨j,q⟩:=x;have:=idxP_del h;simp only[Option.map_some,Nat.zero_add,this,zg7];rw[map_eraseIdx]
end
def zed(es:List (za×za×Nat))(c:Nat):Blk:=zfe (.map es c)
theorem zc5.zmb{h0 h:zb}{l:List Ob}(ho:zc5 h0 h l){id:Nat}(hid:h id=none){b:Blk}(hb:b.own=true):zc5 h0 (upd h id b) (l++[.blk id b]):=
 ho.join ⟨zfj _ hid,λo hm=>by rw[mem_singleton.1 hm];exact zbp ..,λo hm j hj=>by rw[mem_singleton.1 hm]at hj;cases hj;exact⟨hid,λb hb'=>by rw[zbp]at hb';cases hb';exact hb⟩,pairwise_singleton _ _⟩
theorem zc5.zjn{h0 h:zb}{l:List Ob}{K T:Type}(ho:zc5 h0 h l)(κ:K->za)(v:T->za){Q:zQ}(hq:∀id h',h id=none->zc5 h0 h' (l++[.blk id (zed (zg7 κ v []) 0)])->h.le h'->Q (.mp id) h'):B.zjn h Q:=λid hid=>hq id _ hid (ho.zmb hid rfl) (zfj _ hid)
section
variable{h0 h:zb}{l:List Ob}{kd:KD}{K T:Type}[DecidableEq K]{κ:K->za}{v:T->za}
theorem zc5.setBlk(ho:zc5 h0 h l)(k:Nat){id:Nat}{b b':Blk}(hk:l[k]?=some (.blk id b))(hb:b'.own=true):zc5 h0 (upd h id b') (l.set k (.blk id b')):=
 ho.zg8 k hk (zbp ..) (λj c hj hc=>by cases hj;rw[zbp]at hc;cases hc;exact hb) (λj c e1 e2=>by rw[zr];exact e1;intro e;subst e;exact e2 rfl) (.inl rfl)
theorem zhb{id:Nat}{es:List (za×za×Nat)}{c:Nat}(hb:h id=some (zed es c)):A.zkw h (.mp id)=some (es,c):=by simp[A.zkw,hb,zed,zfe]
theorem objT_blk{id:Nat}{es es':List (za×za×Nat)}{c c':Nat}{u:za}{f:List (za×za×Nat)->Nat->Option (List (za×za×Nat)×Nat×za)}{Q:zQ}(hb:h id=some (zed es c))(hf:f es c=some (es',c',u))
  (hq:Q u (upd h id (zed es' c'))):A.znv h (.mp id) f Q:=by
 unfold zed zfe at *;simp only[A.znv,hb,hf];exact hq
theorem lkp_blk{id:Nat}{c:Nat}{ps:zd4 K T}(hκ:KeyE kd κ)(hb:h id=some (zed (zg7 κ v ps) c))(z:T)(k:K)(ok:Bool):
  A.lkp h (some kd) (some (v z)) ok (.mp id) (κ k)=some (bif ok then .tup [v ((zf0 ps k).getD z),.bool (zf0 ps k).isSome] else v ((zf0 ps k).getD z)):=by
 simp only[A.lkp,A.entries,zhb hb,zkd hκ,zmk];cases zl1 ps k with
 | none=>rfl
 | some x=>rfl
theorem zc5.mset(ho:zc5 h0 h l)(i:Nat){id c:Nat}{ps:zd4 K T}(hi:l[i]?=some (.blk id (zed (zg7 κ v ps) c)))(hκ:KeyE kd κ)(k:K)(t:T){Q:zb->Prop}
  (hq:∀h',zc5 h0 h' (l.set i (.blk id (zed (zg7 κ v (zkl ps k t c)) (clkP ps k c))))->But (.mp id) h h'->(∀j,j≠id->h' j=h j)->Q h'):B.mset h kd (.mp id) (κ k) (v t) Q:=
 objT_blk (ho.at i hi) (fset_enc hκ k t ps c) (hq _ (ho.setBlk i hi rfl) (λj b e1 e2=>by rw[zr];exact e1;intro e;subst e;exact e2 rfl) λj hj=>zr _ _ hj)
end
def ze4{K T:Type}(ps:zd4 K T)(c:Nat):Prop:=(∀p∈ps,p.2.2<c) /\ (ps.map (·.2.2)).Nodup
section
variable{K T:Type}{ps D:zd4 K T}{c:Nat}
theorem ze4.nil(c:Nat):ze4 ([]:zd4 K T) c:=⟨λ_ h=>(by cases h),List.Pairwise.nil⟩
theorem ze4.put[DecidableEq K](hb:ze4 ps c)(k:K)(t:T):ze4 (zkl ps k t c) (clkP ps k c):=by
 unfold clkP;rw[zmk];cases h:zl1 ps k with
 | none=>
  rw[zjg h];simp only[Option.map_none,Option.isSome_none,Bool.false_eq_true,if_false];refine⟨λp hp=>?_,?_⟩
  ·rcases mem_append.1 hp with hp|hp
   ·have:=hb.1 p hp;omega
   ·rw[mem_singleton.1 hp];exact Nat.lt_succ_self _
  ·rw[map_append,nodup_append]
   refine⟨hb.2,pairwise_singleton _ _,λa ha b hb2=>?_⟩;obtain⟨p,hp,rfl⟩:=mem_map.1 ha;rw[map_singleton,mem_singleton]at hb2;have:=hb.1 p hp;subst hb2;exact Nat.ne_of_lt this
 | some x=>
  obtain⟨j,q⟩:=x;have he:=idxP_put (t:=t) (c:=c) h;simp only[Option.map_some,Option.isSome_some,if_true,he.1];have hq:(ps.map (·.2.2))[j]?=some q.2:=by
   have:∀(ps:zd4 K T)(j:Nat)(q:T×Nat),zl1 ps k=some (j,q)->(ps.map (·.2.2))[j]?=some q.2:=by
    intro ps
    induction ps with
    | nil=>intro j q h;cases h
    | cons p r ih=>
     intro j q h;simp only[zl1]at h;split at h
     ·cases h;rfl
     ·cases e:zl1 r k with
      | none=>rw[e]at h;cases h
      | some y=>
       obtain⟨j',q'⟩:=y;rw[e]at h;simp only[Option.map_some,Option.some.injEq,Prod.mk.injEq]at h;obtain⟨rfl,rfl⟩:=h;simpa using ih _ _ e
   exact this _ _ _ h
  have hm:(ps.set j (k,t,q.2)).map (·.2.2)=ps.map (·.2.2):=by
   rw[map_set];apply ext_getElem?;intro i;rw[getElem?_set];split
   ·rename_i e;subst e
    split
    ·exact hq.symm
    ·rename_i e2;simp at e2;omega
   ·rfl
  refine⟨λp hp=>?_,by rw[hm];exact hb.2⟩;have:p.2.2∈(ps.set j (k,t,q.2)).map (·.2.2):=mem_map.2 ⟨p,hp,rfl⟩;rw[hm]at this;obtain⟨p',hp',e⟩:=mem_map.1 this;rw[<-e];exact hb.1 p' hp'
theorem ze4.del[DecidableEq K](hb:ze4 ps c)(k:K):ze4 (zl3 ps k) c:=by
 cases h:zl1 ps k with
 | none=>rw[zjh h];exact hb
 | some x=>
  obtain⟨j,q⟩:=x;rw[idxP_del h];have hs:=eraseIdx_sublist ps j;exact⟨λp hp=>hb.1 p (hs.subset hp),(hs.map _).nodup hb.2⟩
theorem ze4.inj(hb:ze4 ps c){p q:K×T×Nat}(hp:p∈ps)(hq:q∈ps)(e:p.2.2=q.2.2):p=q:=by
 obtain⟨i,hi,rfl⟩:=mem_iff_getElem.1 hp;obtain⟨j,hj,rfl⟩:=mem_iff_getElem.1 hq;have:i=j:=by
  refine(getElem_inj (h₀:=by simpa using hi) (h₁:=by simpa using hj) hb.2).1 ?_;simpa using e
 subst this;rfl
theorem ze4.all(hb:ze4 ps c)(h1:∀p∈D,p∈ps)(h2:(D.map (·.2.2)).Nodup)(h3:∀p∈ps,p.2.2∈D.map (·.2.2)):D.Perm ps:=by
 have nd:∀{l:zd4 K T},(l.map (·.2.2)).Nodup->l.Nodup:=λh=>List.Pairwise.of_map (S:=(· ≠ ·)) (λp:K×T×Nat=>p.2.2) (λa b h e=>h (by rw[e])) h;refine(perm_ext_iff_of_nodup (nd h2) (nd hb.2)).2 λp=>⟨h1 p,λhp=>?_⟩;obtain⟨q,hq,e⟩:=mem_map.1 (h3 p hp)
 rwa [hb.inj (h1 q hq) hp e]at hq
end
def zef(m since:Nat)(seen:List Nat)(last:Nat):Blk:=zfe (.mapIter (some m) since seen last)
section
variable{h0 h:zb}{l:List Ob}{K T:Type}{κ:K->za}{v:T->za}{ps:zd4 K T}{m c:Nat}{Q:zQ}
theorem zc5.nextMapB(ho:zc5 h0 h l)(j:Nat){it since last:Nat}{seen:List Nat}(hbm:h m=some (zed (zg7 κ v ps) c))(hj:l[j]?=some (.blk it (zef m since seen last)))(hb:ze4 ps c)(hs:c <= since)(hsl:since <= last)
  (hdone:(∀p∈ps,p.2.2∈seen)->Q (.tup [.bool false]) h)
  (hstep:∀p∈ps,p.2.2∉seen->∀h',zc5 h0 h' (l.set j (.blk it (zef m since (seen++[p.2.2]) c)))->(∀k,k≠it->h' k=h k)->A.zeq h' (.ptr it 0 0)=some (.tup [κ p.1,v p.2.1])->Q (.tup [.bool true,κ p.1,v p.2.1]) h'):
  B.zd6 h (.ptr it 0 0) Q:=by
 have hbi:h it=some (zef m since seen last):=ho.at j hj;have hne:m≠it:=λe=>by
  subst e;rw[hbm]at hbi;have:=Option.some.inj hbi;unfold zed zef zfe at this;cases this
 show A.zd6 h (.ptr it 0 0) Q;have hall:((zg7 κ v ps).all λe=>Nat.blt e.2.2 since)=true:=by
  rw[all_eq_true];intro e he;obtain⟨p,hp,rfl⟩:=mem_map.1 he;have:=hb.1 p hp;rw[Nat.blt_eq];show p.2.2<since;omega
 have hle:Nat.ble since last=true:=by rw[Nat.ble_eq];exact hsl
 have hst:A.steps h (.ptr it 0 0)=some (it,match (zg7 κ v ps).filter (λe=> !seen.contains e.2.2) with
   | []=>[(zef m since seen last,.tup [.bool false])]
   | l=>l.map λe=>({ zef m since seen last with obj:=some (.mapIter (some m) since (seen++[e.2.2]) c) },.tup [.bool true,e.1,e.2.1])):=by
  simp only[A.steps,hbi];unfold zef zfe;simp only[zhb hbm,hall,hle,Bool.and_self,cond_true];rfl
 simp only[A.zd6,hst];intro p hp
 have hf:∀e,e∈(zg7 κ v ps).filter (λe=> !seen.contains e.2.2)↔∃q∈ps,q.2.2∉seen /\ e=(κ q.1,v q.2.1,q.2.2):=λe=>by
  rw[mem_filter];constructor
  ·rintro⟨he,hc⟩
   obtain⟨q,hq,rfl⟩:=mem_map.1 he;refine⟨q,hq,?_,rfl⟩;simpa using hc
  ·rintro⟨q,hq,hn,rfl⟩
   exact⟨mem_map.2 ⟨q,hq,rfl⟩,by simpa using hn⟩
 cases hfl:(zg7 κ v ps).filter (λe=> !seen.contains e.2.2) with
 | nil=>
  rw[hfl]at hp;rw[mem_singleton.1 hp];have:upd h it (zef m since seen last)=h:=upd_self hbi;rw[this];refine hdone λq hq=>?_;by_cases hn:q.2.2∈seen
  ·exact hn
  ·have:=(hf _).2 ⟨q,hq,hn,rfl⟩
   rw[hfl]at this;cases this
 | cons e0 es0=>
  rw[hfl]at hp;obtain⟨e,he,rfl⟩:=mem_map.1 hp;rw[<-hfl]at he;obtain⟨q,hq,hn,rfl⟩:=(hf _).1 he;have hblk:({ zef m since seen last with obj:=some (.mapIter (some m) since (seen++[q.2.2]) c) }:Blk)=zef m since (seen++[q.2.2]) c:=rfl;show Q _ (upd h it { zef m since seen last with obj:=some (.mapIter (some m) since (seen++[q.2.2]) c) });rw[hblk];refine hstep q hq hn _ (ho.setBlk j hj rfl) (λk hk=>zr _ _ hk) ?_;have hbm':upd h it (zef m since (seen++[q.2.2]) c) m=some (zed (zg7 κ v ps) c):=by rw[zr _ _ hne];exact hbm
  have hfind:(zg7 κ v ps).find? (λe=>Nat.beq e.2.2 q.2.2)=some (κ q.1,v q.2.1,q.2.2):=by
   have key:∀(ps:zd4 K T),(ps.map (·.2.2)).Nodup->q∈ps->(zg7 κ v ps).find? (λe=>Nat.beq e.2.2 q.2.2)=some (κ q.1,v q.2.1,q.2.2):=by
    intro ps
    induction ps with
    | nil=>intro _ h;cases h
    | cons a r ih=>
     intro hnd hm;simp only[map_cons,nodup_cons]at hnd;simp only[zg7,map_cons,find?_cons];rcases mem_cons.1 hm with rfl|hm
     ·simp[Nat.beq_refl]
     ·have hne:a.2.2≠q.2.2:=λe=>hnd.1 (by rw[e];exact mem_map.2 ⟨q,hm,rfl⟩)
      have:Nat.beq a.2.2 q.2.2=false:=by
       cases e:Nat.beq a.2.2 q.2.2 with
       | false=>rfl
       | true=>exact absurd (Nat.eq_of_beq_eq_true e) hne
      rw[this];exact ih hnd.2 hm
   exact key ps hb.2 hq
  simp only[A.zeq,upd_get];unfold zef zfe;have hbm'':=hbm';unfold zef zfe at hbm'';simp only[zhb hbm'',getLast?_append,getLast?_singleton,Option.some_or,Nat.beq_refl,cond_true,hfind]
theorem zc5.rangeLoop{J:zd4 K T->List Ob->Prop}{Lp:za->zG}{REST:za->za->zb->(zL)->Prop}(ho:zc5 h0 h l)(hbm:h0 m=some (zed (zg7 κ v ps) c))(hb:ze4 ps c)(hJ:J [] l)
  (heq:∀it hh Y,B.zd6 hh it (λv h2=>REST it v h2 Y)->Lp it [] hh Y)
  (hdone:∀it hh D l b Y,J D l->D.Perm ps->zc5 h0 hh (l++[.blk it b])->REST (.ptr it 0 0) (.tup [.bool false]) hh Y)
  (hstep:∀it hh D l b Y,∀p∈ps,J D l->(∀q∈D,q∈ps)->p∉D->zc5 h0 hh (l++[.blk it b])->A.zeq hh (.ptr it 0 0)=some (.tup [κ p.1,v p.2.1]) ->
   (∀h' l',J (D++[p]) l'->zc5 h0 h' (l'++[.blk it b])->Y [] h')->REST (.ptr it 0 0) (.tup [.bool true,κ p.1,v p.2.1]) hh Y):
  B.rangeMap h (.mp m) λv h=>zbg (Lp v) [] h:=by
 show A.rangeMap h (.mp m) _;simp only[A.rangeMap,zhb (ho.le _ _ hbm)];intro it hit;have ho:zc5 h0 (upd h it (zfe (.mapIter (some m) c [] c))) (l++[.blk it (zef m c (([]:zd4 K T).map (·.2.2)) c)]):=ho.zmb (b:=zef m c [] c) hit rfl;refine zbg.intro (λt vs hh=>vs=[] /\ ∃(D:zd4 K T)(l':List Ob),D.length+t=ps.length /\ J D l' /\ (∀q∈D,q∈ps) /\ (D.map (·.2.2)).Nodup /\ zc5 h0 hh (l'++[.blk it (zef m c (D.map (·.2.2)) c)])) ps.length ?_ ⟨rfl,[],l,by simp,hJ,by simp,List.Pairwise.nil,ho⟩;rintro Y t vs hh ⟨rfl,D,l',ht,hJ',hD,hnd,o⟩ hY;refine heq _ _ _ ?_;refine o.nextMapB l'.length (seen:=D.map (·.2.2)) (since:=c) (last:=c) (o.le _ _ hbm) (by simp) hb (Nat.le_refl _) (Nat.le_refl _) (λhall=>?_) λp hp hns h' o' hk he=>?_
 ·exact hdone it hh D l' _ Y hJ' (hb.all hD hnd hall) o
 ·have o'':zc5 h0 h' (l'++[.blk it (zef m c ((D++[p]).map (·.2.2)) c)]):=by
   have:=o';rw[set_append_right _ _ (Nat.le_refl _),Nat.sub_self]at this;simpa using this
  have hpD:p∉D:=λhm=>hns (mem_map.2 ⟨p,hm,rfl⟩);have nd2:((D++[p]).map (·.2.2)).Nodup:=by
   rw[map_append,nodup_append];exact⟨hnd,by simp,λx hx y hy e=>hns (by rw[map_cons,map_nil,mem_singleton]at hy;rw[<-hy,<-e];exact hx)⟩
  have sub:∀q∈D++[p],q∈ps:=λq hq=>by
   rcases mem_append.1 hq with h|h
   ·exact hD q h
   ·rw[mem_singleton.1 h];exact hp
  have hl:(D++[p]).length <= ps.length:=List.Nodup.length_le_of_subset (List.Pairwise.of_map (S:=(· ≠ ·)) (λp:K×T×Nat=>p.2.2) (λa b h e=>h (by rw[e])) nd2) sub;rw[length_append]at hl;have hl:D.length+1 <= ps.length:=hl;exact hstep it h' D l' _ Y p hp hJ' hD hpD o'' he λh2 l2 hJ2 o2=>hY (t-1) _ _ (by omega) ⟨rfl,D++[p],l2,by rw[length_append,length_singleton];omega,hJ2,sub,nd2,o2⟩
end
section
variable{h0 h:zb}{l:List Ob}{K T:Type}{κ:K->za}{v:T->za}{ps:zd4 K T}{m c:Nat}{Q:zQ}
theorem zc5.zqa{J:zd4 K T->List Ob->List za->Prop}{vs0:List za}{Lp:za->zG}{REST:za->List za->za->zb->(zL)->Prop}(ho:zc5 h0 h l)(hbm:h0 m=some (zed (zg7 κ v ps) c))(hb:ze4 ps c)(hJ:J [] l vs0)
  (heq:∀it vs hh Y D l,J D l vs->B.zd6 hh it (λv h2=>REST it vs v h2 Y)->Lp it vs hh Y)
  (hdone:∀it hh D l b Y vs,J D l vs->D.Perm ps->zc5 h0 hh (l++[.blk it b])->REST (.ptr it 0 0) vs (.tup [.bool false]) hh Y)
  (hstep:∀it hh D l b Y vs,∀p∈ps,J D l vs->(∀q∈D,q∈ps)->p∉D->D.length<ps.length->zc5 h0 hh (l++[.blk it b])->A.zeq hh (.ptr it 0 0)=some (.tup [κ p.1,v p.2.1]) ->
   (∀h' l' vs',J (D++[p]) l' vs'->zc5 h0 h' (l'++[.blk it b])->Y vs' h')->REST (.ptr it 0 0) vs (.tup [.bool true,κ p.1,v p.2.1]) hh Y):
  B.rangeMap h (.mp m) λv h=>zbg (Lp v) vs0 h:=by
 show A.rangeMap h (.mp m) _;simp only[A.rangeMap,zhb (ho.le _ _ hbm)];intro it hit;have ho:zc5 h0 (upd h it (zfe (.mapIter (some m) c [] c))) (l++[.blk it (zef m c (([]:zd4 K T).map (·.2.2)) c)]):=ho.zmb (b:=zef m c [] c) hit rfl;refine zbg.intro (λt vs hh=>∃(D:zd4 K T)(l':List Ob),D.length+t=ps.length /\ J D l' vs /\ (∀q∈D,q∈ps) /\ (D.map (·.2.2)).Nodup /\ zc5 h0 hh (l'++[.blk it (zef m c (D.map (·.2.2)) c)])) ps.length ?_ ⟨[],l,by simp,hJ,by simp,List.Pairwise.nil,ho⟩;rintro Y t vs hh ⟨D,l',ht,hJ',hD,hnd,o⟩ hY;refine heq _ _ _ _ _ _ hJ' ?_;refine o.nextMapB l'.length (seen:=D.map (·.2.2)) (since:=c) (last:=c) (o.le _ _ hbm) (by simp) hb (Nat.le_refl _) (Nat.le_refl _) (λhall=>?_) λp hp hns h' o' hk he=>?_
 ·exact hdone it hh D l' _ Y vs hJ' (hb.all hD hnd hall) o
 ·have o'':zc5 h0 h' (l'++[.blk it (zef m c ((D++[p]).map (·.2.2)) c)]):=by
   have:=o';rw[set_append_right _ _ (Nat.le_refl _),Nat.sub_self]at this;simpa using this
  have hpD:p∉D:=λhm=>hns (mem_map.2 ⟨p,hm,rfl⟩);have nd2:((D++[p]).map (·.2.2)).Nodup:=by
   rw[map_append,nodup_append];exact⟨hnd,by simp,λx hx y hy e=>hns (by rw[map_cons,map_nil,mem_singleton]at hy;rw[<-hy,<-e];exact hx)⟩
  have sub:∀q∈D++[p],q∈ps:=λq hq=>by
   rcases mem_append.1 hq with h|h
   ·exact hD q h
   ·rw[mem_singleton.1 h];exact hp
  have hl:(D++[p]).length <= ps.length:=List.Nodup.length_le_of_subset (List.Pairwise.of_map (S:=(· ≠ ·)) (λp:K×T×Nat=>p.2.2) (λa b h e=>h (by rw[e])) nd2) sub;rw[length_append]at hl;have hl:D.length+1 <= ps.length:=hl;exact hstep it h' D l' _ Y vs p hp hJ' hD hpD hl o'' he λh2 l2 vs2 hJ2 o2=>hY (t-1) _ _ (by omega) ⟨D++[p],l2,by rw[length_append,length_singleton];omega,hJ2,sub,nd2,o2⟩
end
variable{C:z3}{N:zN}
abbrev Nam:=List UInt8
abbrev nV:Nam->za:=λs=> .str s
abbrev wV:Int->za:=λn=> .int .i64 n
def znz(h:zb)(m:Nat)(ps:zd4 Nam Int):Prop:=∃c,h m=some (zed (zg7 nV wV ps) c) /\ ze4 ps c /\ (∀p∈ps,p.2.1=1) /\ (zb7 ps).Nodup
theorem znz.mono{h H:zb}{m:Nat}{ps:zd4 Nam Int}(hs:znz h m ps)(hle:h.le H):znz H m ps:=by
 obtain⟨c,h1,h2⟩:=hs;exact⟨c,hle _ _ h1,h2⟩
theorem ones_get{ps:zd4 Nam Int}(h1:∀p∈ps,p.2.1=1)(k:Nam):decide (0<(zf0 ps k).getD 0)=decide (k∈zb7 ps):=by
 cases e:zf0 ps k with
 | none=>have:=zpe.1 e;simp[this]
 | some v=>
  obtain⟨n,hn⟩:=zg4 e;have:=h1 _ hn;have hk:k∈zb7 ps:=mem_map.2 ⟨_,hn,rfl⟩;simp at this;simp[hk,this]
def zbz.Spec(C:z3)(N:zN):Prop:=∀(h:zb)(m:Nat)(ps:zd4 Nam Int)(k:Nam)(Q:zQ),znz h m ps->Q (.bool (decide (k∈zb7 ps))) h->C (N 508) [.mp m,.str k] h Q
theorem zbz.spec(i:zbz.Imp C N):zbz.Spec C N:=by
 intro h m ps k Q hs hq;obtain⟨c,h1,h2,h3,h4⟩:=hs;apply i;have e:A.lkp h (some .s) (some (.int .i64 0)) false (.mp m) (.str k)=some (.int .i64 ((zf0 ps k).getD 0)):=lkp_blk (v:=wV) keyS h1 0 k false;simp -dsimp only[zbz.cps,e,B.zh,V.zlx];rw[ones_get h3];exact zcs hq
def ziy(a b:zd4 Nam Int):Bool:= !a.isEmpty&&(!b.isEmpty&&(decide ([42]∈zb7 a)||(decide ([42]∈zb7 b)||a.any λp=>decide (p.1∈zb7 b))))
def zc8.Spec(C:z3)(N:zN):Prop:=∀(h:zb)(m n:Nat)(a b:zd4 Nam Int)(Q:zQ),znz h m a->znz h n b->Q (.bool (ziy a b)) h->C (N 528) [.mp m,.mp n] h Q
theorem zqf{h:zb}{m c:Nat}{ps:zd4 Nam Int}(hb:h m=some (zed (zg7 nV wV ps) c)):A.zj7 h (.mp m)=some (.int .i64 ps.length):=by
 simp[A.zj7,A.entries,zhb hb,zg7]
theorem zc8.spec(i:zc8.Imp C N)(hC:zjm C)(s1:zbz.Spec C N):zc8.Spec C N:=by
 intro h m n a b Q ha hb hq;have ha':=ha;have hb':=hb;obtain⟨c,h1,h2,h3,h4⟩:=ha;obtain⟨d,g1,g2,g3,g4⟩:=hb;apply i;simp +contextual -dsimp[zqf h1,zqf g1];refine B.zbx (λhc=>?_) (λhc=>?_)<;>simp +contextual -dsimp at hc ⊢
 ·have e:ziy a b=false:=by
   unfold ziy;rcases hc with rfl|rfl<;>simp
  rw[e]at hq;exact zcs hq
 ·obtain⟨hna,hnb⟩:=hc
  have ea:a.isEmpty=false:=by cases a with
   | nil=>exact absurd rfl hna
   | cons _ _=>rfl
  have eb:b.isEmpty=false:=by cases b with
   | nil=>exact absurd rfl hnb
   | cons _ _=>rfl
  refine s1 h m a [42] _ ha' ?_;simp +contextual -dsimp;refine B.gdb_call (λ_ _ hq=>s1 h n b [42] _ hb' hq) ?_;simp +contextual -dsimp;refine B.zbx (λhc=>?_) (λhc=>?_)<;>simp +contextual -dsimp at hc ⊢
  ·have e:ziy a b=true:=by
    unfold ziy;rw[ea,eb];rcases hc with hc|hc<;>simp[hc]
   rw[e]at hq;exact zcs hq
  ·obtain⟨ha2,hb2⟩:=hc
   have hme:ziy a b=a.any λp=>decide (p.1∈zb7 b):=by
    unfold ziy;rw[ea,eb];simp[ha2,hb2]
   rw[hme]at hq;refine zc5.rangeLoop (κ:=nV) (v:=wV) (ps:=a) (c:=c) (J:=λD l=>l=[] /\ ∀p∈D,p.1∉zb7 b)
    (REST:=λit v h Y=>B.pv (V.ext 0 v) λv23=>B.cond v23
     (B.pv (A.zeq h it) λv24=>B.pv (V.ext 0 v24) λv25=>B.call C (N 508) [.mp n,v25] h λv28 h=>B.cond v28 (dn Q (.bool true) h) (Y [] h)) (dn Q (.bool false) h)) (zc5.start h) h1 h2 ⟨rfl,by simp⟩ ?_ ?_ ?_
   ·intro it hh Y hn
    exact hn
   ·rintro it hh D l bb Y ⟨rfl,hD⟩ hp ho
    simp -dsimp only[V.zf6,getElem?_cons_zero,B.zh,B.cond_false];have e:(a.any λp=>decide (p.1∈zb7 b))=false:=by
     rw[any_eq_false];intro p hpm;have:=hD p (hp.mem_iff.2 hpm);simpa using this
    rw[e]at hq;exact dn_le ho.le hq
   ·rintro it hh D l bb Y p hpm ⟨rfl,hD⟩ hsub hpD ho he hY
    simp -dsimp only[V.zf6,getElem?_cons_zero,B.zh,B.cond_true,he];refine s1 hh n b p.1 _ (hb'.mono ho.le) ?_;refine B.zbx (λhc=>?_) (λhc=>?_)
    ·have e:(a.any λp=>decide (p.1∈zb7 b))=true:=any_eq_true.2 ⟨p,hpm,hc⟩
     rw[e]at hq;exact dn_le ho.le hq
    ·refine hY hh [] ⟨rfl,λq hq'=>?_⟩ ho
     rcases mem_append.1 hq' with h|h
     ·exact hD q h
     ·rw[mem_singleton.1 h];exact of_decide_eq_false hc
variable{C:z3}{N:zN}
structure Wk where
 p:Nat
 hm:Nat
 wm:Nat
 hc:Nat
 wc:Nat
 held:zd4 Nam Int
 zeo:zd4 Nam Int
 zg8:Int
structure Lk where
 l:Nat
 m:Nat
 c:Nat
 last:Int
 W:zd4 Int Wk
abbrev pV(w:Wk):za:= .ptr w.p 0 0
def Wk.obs(w:Wk):List Ob:=[.blk w.p (zda [.mp w.hm,.mp w.wm,.int .i64 w.zg8]),.blk w.hm (zed (zg7 nV wV w.held) w.hc),.blk w.wm (zed (zg7 nV wV w.zeo) w.wc)]
def Lk.obs(s:Lk):List Ob:= .blk s.l (zda [.mp s.m,.int .i64 s.last]):: .blk s.m (zed (zg7 wV pV s.W) s.c)::s.W.flatMap λe=>e.2.1.obs
def zm8(ps:zd4 Nam Int)(c:Nat):Prop:=ze4 ps c /\ (∀p∈ps,p.2.1=1) /\ (zb7 ps).Nodup
structure Wk.Ok(w:Wk):Prop where
 held:zm8 w.held w.hc
 zeo:zm8 w.zeo w.wc
structure Lk.Ok(s:Lk):Prop where
 zqt:ze4 s.W s.c
 nodup:(zb7 s.W).Nodup
 zhg:∀e∈s.W,e.2.1.Ok
 far:(s.W.map (·.2.1.p)).Nodup
def Wk.At(h:zb)(w:Wk):Prop:=h w.p=some (zda [.mp w.hm,.mp w.wm,.int .i64 w.zg8]) /\ znz h w.hm w.held /\ znz h w.wm w.zeo
def Lk.At(h:zb)(s:Lk):Prop:=h s.l=some (zda [.mp s.m,.int .i64 s.last]) /\ h s.m=some (zed (zg7 wV pV s.W) s.c) /\ ∀e∈s.W,e.2.1.At h
theorem Wk.At.mono{h H:zb}{w:Wk}(ha:w.At h)(hle:h.le H):w.At H:=⟨hle _ _ ha.1,ha.2.1.mono hle,ha.2.2.mono hle⟩
theorem Lk.At.mono{h H:zb}{s:Lk}(ha:s.At h)(hle:h.le H):s.At H:=⟨hle _ _ ha.1,hle _ _ ha.2.1,λe he=>(ha.2.2 e he).mono hle⟩
theorem Lk.at_of{h0 h:zb}{s:Lk}(ho:zc5 h0 h s.obs)(hs:s.Ok):s.At h:=by
 have hm:∀o∈s.obs,o.at h:=ho.is;refine⟨hm _ (mem_cons_self ..),hm _ (mem_cons_of_mem _ (mem_cons_self ..)),λe he=>?_⟩;have hw:∀o∈e.2.1.obs,o.at h:=λo h1=>hm o (mem_cons_of_mem _ (mem_cons_of_mem _ (mem_flatMap.2 ⟨e,he,h1⟩)));exact⟨hw _ (mem_cons_self ..),⟨_,hw _ (mem_cons_of_mem _ (mem_cons_self ..)),(hs.zhg e he).held⟩,⟨_,hw _ (mem_cons_of_mem _ (mem_cons_of_mem _ (mem_cons_self ..))),(hs.zhg e he).zeo⟩⟩
theorem eqPtr_own{h:zb}{i j:Nat}{a b:List za}(hi:h i=some (zda a))(hj:h j=some (zda b)):A.zfy h 3 .neq (.ptr i 0 0) (.ptr j 0 0)=some (.bool (decide (i≠j))):=by
 have oi:A.ownG h i 0=true:=by simp[A.ownG,hi,zda]
 have oj:A.ownG h j 0=true:=by simp[A.ownG,hj,zda]
 unfold A.zfy;cases e:Nat.beq i j with
 | true=>have:=Nat.eq_of_beq_eq_true e;subst this;simp[V.eqv,show Nat.blt 0 3=true from rfl]
 | false=>have:=Nat.ne_of_beq_eq_false e;simp[V.eqv,oi,oj,this,e,show Nat.blt 0 3=true from rfl]
def zjp(o:Wk)(ps:zd4 Nam Int)(t:Int):Bool:=ziy o.held ps||(decide (0<o.zg8)&&(decide (o.zg8<t)&&ziy o.zeo ps))
def zcr.Spec(C:z3)(N:zN):Prop:=∀(h:zb)(o:Wk)(p b i j q:Nat)(cs:List za)(ps:zd4 Nam Int)(t:Int)(Q:zQ),o.At h->h p=some (zda cs)->znz h b ps->h i=some (zda [.ptr p 0 0])->h j=some (zda [.mp b])->h q=some (zda [.int .i64 t])->Q (.bool (decide (o.p≠p)&&zjp o ps t)) h->C (N 523) [.ptr o.p 0 0,.ptr i 0 0,.ptr j 0 0,.ptr q 0 0] h Q
theorem zds{h:zb}{i k:Nat}{cs:List za}{v:za}(hi:h i=some (zda cs))(hk:cs[k]?=some v):A.ldv h (.ptr i 0 k)=some v:=by
 have hl:k<cs.length:=(List.getElem?_eq_some_iff.1 hk).1;simp only[A.ldv,hi,zda,List.lookup,beq_self_eq_true,if_pos hl,hk]
theorem zcr.spec(i:zcr.Imp C N)(s1:zc8.Spec C N):zcr.Spec C N:=by
 intro h o p b i1 i2 i3 cs ps t Q ho hp hb h1 h2 h3 hq;obtain⟨o1,o2,o3⟩:=ho;apply i;have e1:=zds (k:=0) h1 rfl;have e2:=zds (k:=0) h2 rfl;have e3:=zds (k:=0) h3 rfl;have f1:=zds (k:=0) o1 rfl;have f2:=zds (k:=1) o1 rfl;have f3:=zds (k:=2) o1 rfl;have ee:=eqPtr_own o1 hp;simp +contextual -dsimp[e1,e2,e3,f1,f2,f3,ee,V.fieldAddr];by_cases e:o.p=p
 ·simp +contextual -dsimp[e]at hq ⊢
  exact zcs hq
 ·have eb:decide (o.p=p)=false:=decide_eq_false e
  have eq:(decide (o.p≠p)&&zjp o ps t)=zjp o ps t:=by simp[e]
  rw[eq]at hq;simp +contextual -dsimp[eb]at hq ⊢;refine s1 _ _ _ _ _ _ o2 hb ?_;cases em:ziy o.held ps with
  | true=>
   rw[show zjp o ps t=true by simp[zjp,em]]at hq;simp +contextual -dsimp[eb];exact zcs hq
  | false=>
   simp +contextual -dsimp[eb,f3,e3];cases ec:decide (0<o.zg8)&&decide (o.zg8<t) with
   | false=>
    rw[show zjp o ps t=false by simp only[zjp,em,<-Bool.and_assoc,ec,Bool.false_and,Bool.or_self]]at hq;simp +contextual -dsimp[eb];exact zcs hq
   | true=>
    rw[show zjp o ps t=ziy o.zeo ps by simp only[zjp,em,<-Bool.and_assoc,ec,Bool.true_and,Bool.false_or]]at hq;simp +contextual -dsimp[eb,f2,e2];refine s1 _ _ _ _ _ _ o3 hb ?_;simp +contextual -dsimp[eb];exact zcs hq
@[simp] def zcp.k1(C:z3)(E:z8)(C0:z3)(fL:Nat)(Q:zQ)(Y1:zL)(Y2:zL)(v0 v1 v2 v3 v8 v9:za)(h:zb):Prop:=B.pv (V.bin .gtr v9 v1) λv20=>B.gd h v20 true (λK=>K v0 h) λv23 h=>B.gd h v20 true (λK=>K v9 h) λv24 h=>B.gd h v20 true (λK=>B.pv (V.zde E.es v23 v24) λv=>K v h) λv25 h=>B.gd h v20 true (λK=>E.ld h v25 λv=>K v h) λv26 h=>B.gd h v20 true (λK=>K v0 h) λv27 h=>B.gd h v20 true (λK=>K v9 h) λv28 h=>B.gd h v20 true (λK=>B.pv (V.bin .sub v28 (.int .i64 1)) λv=>K v h) λv29 h=>B.gd h v20 true (λK=>B.pv (V.zde E.es v27 v29) λv=>K v h) λv30 h=>B.gd h v20 true (λK=>E.ld h v30 λv=>K v h) λv31 h=>B.gd h v20 true (λK=>B.call C0 fL [v26,v31] h K) λv33 h=>B.pick v20 v33 (.bool false) λv34=>B.cond v34 (B.pv (V.bin .sub v9 (.int .i64 1)) λv41=>B.pv (V.bin .sub v9 (.int .i64 1)) λv44=>B.pv (V.zde E.es v0 v44) λv45=>E.ld h v45 λv46=>B.pv (V.zde E.es v0 v9) λv49=>E.ld h v49 λv50=>B.pv (V.zde E.es v0 v9) λv51=>E.st h v51 v46 λh=>B.pv (V.zde E.es v0 v41) λv52=>E.st h v52 v50 λh=>B.pv (V.bin .sub v9 (.int .i64 1)) λv36=>Y2 [v36] h) (B.pv (V.bin .add v8 (.int .i64 1)) λv16=>Y1 [v16] h)
@[simp] def zcp.l2(C:z3)(E:z8)(C0:z3)(fL:Nat)(Q:zQ)(Y1:zL)(v0 v1 v2 v3 v8:za):zG|[v9],h,Y2=>zcp.k1 C E C0 fL Q Y1 Y2 v0 v1 v2 v3 v8 v9 h|_,_,_=>False
@[simp] def zcp.l3(C:z3)(E:z8)(C0:z3)(fL:Nat)(Q:zQ)(v0 v1 v2 v3:za):zG|[v8],h,Y1=>B.pv (V.bin .lss v8 v2) λv14=>B.cond v14 (zbg (zcp.l2 C E C0 fL Q Y1 v0 v1 v2 v3 v8) [v8] h) (Q (.tup []) h)|_,_,_=>False
@[simp] def zcp.cps(C:z3)(E:z8)(C0:z3)(fL:Nat)(v0 v1 v2 v3:za)(h:zb)(Q:zQ):Prop:=B.pv (V.bin .add v1 (.int .i64 1)) λv11=>zbg (zcp.l3 C E C0 fL Q v0 v1 v2 v3) [v11] h
@[simp] def z5.k1(C:z3)(E:z8)(C0:z3)(fL:Nat)(f1 f2 f3 f4 f5 f6 f7 f8 f9:Nat)(Q:zQ)(Y1:zL)(v0 v1 v2 v3 v4 v10 v11 v12 v13:za)(h:zb):Prop:=B.pv (V.bin .gtr v1 (.int .i64 0)) λv82=>B.gd h v82 true (λK=>K v0 h) λv85 h=>B.gd h v82 true (λK=>K v1 h) λv86 h=>B.gd h v82 true (λK=>B.pv (V.bin .sub v86 (.int .i64 1)) λv=>K v h) λv87 h=>B.gd h v82 true (λK=>B.pv (V.zde E.es v85 v87) λv=>K v h) λv88 h=>B.gd h v82 true (λK=>E.ld h v88 λv=>K v h) λv89 h=>B.gd h v82 true (λK=>K v0 h) λv90 h=>B.gd h v82 true (λK=>K v13 h) λv91 h=>B.gd h v82 true (λK=>B.pv (V.zde E.es v90 v91) λv=>K v h) λv92 h=>B.gd h v82 true (λK=>E.ld h v92 λv=>K v h) λv93 h=>B.gd h v82 true (λK=>B.call C0 fL [v89,v93] h K) λv95 h=>B.gd h v82 true (λK=>B.pv (V.un .not v95) λv=>K v h) λv96 h=>B.pick v82 v96 (.bool false) λv97=>B.cond v97 (B.call C f1 [v0,v1,v2,v13,v4] h λv103 h=>Y1 [v103,v2,v3,v10,v11] h) (B.call C f2 [v0,v1,v2,v13,v4] h λv111 h=>B.pv (V.ext 0 v111) λv112=>B.pv (V.ext 1 v111) λv113=>B.pv (V.bin .sub v112 v1) λv117=>B.pv (V.bin .sub v2 v112) λv120=>B.pv (V.bin .quo v12 (.int .i64 8)) λv122=>B.pv (V.bin .lss v117 v120) λv125=>B.cond v125 (B.pv (V.bin .geq v117 v122) λv128=>B.call C f3 [v0,v1,v112,v3,v4] h λv134 h=>B.pv (V.bin .add v112 (.int .i64 1)) λv136=>Y1 [v136,v2,v3,v128,v113] h) (B.pv (V.bin .geq v120 v122) λv139=>B.pv (V.bin .add v112 (.int .i64 1)) λv142=>B.call C f3 [v0,v142,v2,v3,v4] h λv146 h=>Y1 [v1,v112,v3,v139,v113] h))
@[simp] def z5.k2(C:z3)(E:z8)(C0:z3)(fL:Nat)(f1 f2 f3 f4 f5 f6 f7 f8 f9:Nat)(Q:zQ)(Y1:zL)(v0 v1 v2 v3 v4 v10 v11 v12 v13 v14:za)(h:zb):Prop:=B.gd h v10 true (λK=>K v11 h) λv70 h=>B.pick v10 v70 (.bool false) λv71=>B.gd h v71 true (λK=>K v14 h) λv73 h=>B.gd h v71 true (λK=>B.pv (V.bin .eql v73 (.int .i64 1)) λv=>K v h) λv74 h=>B.pick v71 v74 (.bool false) λv75=>B.cond v75 (B.call C f4 [v0,v1,v2,v4] h λv80 h=>B.cond v80 (Q (.tup []) h) (z5.k1 C E C0 fL f1 f2 f3 f4 f5 f6 f7 f8 f9 Q Y1 v0 v1 v2 v3 v4 v10 v11 v12 v13 h)) (z5.k1 C E C0 fL f1 f2 f3 f4 f5 f6 f7 f8 f9 Q Y1 v0 v1 v2 v3 v4 v10 v11 v12 v13 h)
@[simp] def z5.k3(C:z3)(E:z8)(C0:z3)(fL:Nat)(f1 f2 f3 f4 f5 f6 f7 f8 f9:Nat)(Q:zQ)(Y1:zL)(v0 v1 v2 v3 v4 v10 v11 v12 v13 v14:za)(h:zb):Prop:=B.pv (V.bin .eql v14 (.int .i64 2)) λv56=>B.cond v56 (B.call C f5 [v0,v1,v2,v4] h λv61 h=>B.pv (V.bin .sub v2 (.int .i64 1)) λv63=>B.pv (V.bin .sub v13 v1) λv66=>B.pv (V.bin .sub v63 v66) λv67=>z5.k2 C E C0 fL f1 f2 f3 f4 f5 f6 f7 f8 f9 Q Y1 v0 v1 v2 v3 v4 v10 v11 v12 v67 (.int .i64 1) h) (z5.k2 C E C0 fL f1 f2 f3 f4 f5 f6 f7 f8 f9 Q Y1 v0 v1 v2 v3 v4 v10 v11 v12 v13 v14 h)
@[simp] def z5.k4(C:z3)(E:z8)(C0:z3)(fL:Nat)(f1 f2 f3 f4 f5 f6 f7 f8 f9:Nat)(Q:zQ)(Y1:zL)(v0 v1 v2 v3 v4 v10 v11 v12:za)(h:zb):Prop:=B.call C f6 [v0,v1,v2,v4] h λv52 h=>B.pv (V.ext 0 v52) λv53=>B.pv (V.ext 1 v52) λv54=>z5.k3 C E C0 fL f1 f2 f3 f4 f5 f6 f7 f8 f9 Q Y1 v0 v1 v2 v3 v4 v10 v11 v12 v53 v54 h
@[simp] def z5.k5(C:z3)(E:z8)(C0:z3)(fL:Nat)(f1 f2 f3 f4 f5 f6 f7 f8 f9:Nat)(Q:zQ)(Y1:zL)(v0 v1 v2 v3 v4 v10 v11 v12:za)(h:zb):Prop:=B.pv (V.un .not v10) λv39=>B.cond v39 (B.call C f7 [v0,v1,v2,v4] h λv44 h=>B.pv (V.bin .sub v3 (.int .i64 1)) λv46=>z5.k4 C E C0 fL f1 f2 f3 f4 f5 f6 f7 f8 f9 Q Y1 v0 v1 v2 v46 v4 v10 v11 v12 h) (z5.k4 C E C0 fL f1 f2 f3 f4 f5 f6 f7 f8 f9 Q Y1 v0 v1 v2 v3 v4 v10 v11 v12 h)
@[simp] def z5.k6(C:z3)(E:z8)(C0:z3)(fL:Nat)(f1 f2 f3 f4 f5 f6 f7 f8 f9:Nat)(Q:zQ)(Y1:zL)(v0 v1 v2 v3 v4 v10 v11 v12:za)(h:zb):Prop:=B.pv (V.bin .eql v3 (.int .i64 0)) λv32=>B.cond v32 (B.call C f8 [v0,v1,v2,v4] h λv37 h=>Q (.tup []) h) (z5.k5 C E C0 fL f1 f2 f3 f4 f5 f6 f7 f8 f9 Q Y1 v0 v1 v2 v3 v4 v10 v11 v12 h)
@[simp] def z5.k7(C:z3)(E:z8)(C0:z3)(fL:Nat)(f1 f2 f3 f4 f5 f6 f7 f8 f9:Nat)(Q:zQ)(Y1:zL)(v0 v1 v2 v3 v4 v10 v11 v12:za)(h:zb):Prop:=B.pv (V.bin .leq v12 (.int .i64 12)) λv25=>B.cond v25 (B.call C f9 [v0,v1,v2,v4] h λv30 h=>Q (.tup []) h) (z5.k6 C E C0 fL f1 f2 f3 f4 f5 f6 f7 f8 f9 Q Y1 v0 v1 v2 v3 v4 v10 v11 v12 h)
@[simp] def z5.l8(C:z3)(E:z8)(C0:z3)(fL:Nat)(f1 f2 f3 f4 f5 f6 f7 f8 f9:Nat)(Q:zQ)(v0 v4:za):zG|[v1,v2,v3,v10,v11],h,Y1=>B.pv (V.bin .sub v2 v1) λv23=>z5.k7 C E C0 fL f1 f2 f3 f4 f5 f6 f7 f8 f9 Q Y1 v0 v1 v2 v3 v4 v10 v11 v23 h|_,_,_=>False
@[simp] def z5.cps(C:z3)(E:z8)(C0:z3)(fL:Nat)(f1 f2 f3 f4 f5 f6 f7 f8 f9:Nat)(v0 v1 v2 v3 v4:za)(h:zb)(Q:zQ):Prop:=zbg (z5.l8 C E C0 fL f1 f2 f3 f4 f5 f6 f7 f8 f9 Q v0 v4) [v1,v2,v3,(.bool true),(.bool true)] h
@[simp] def zcx.k1(C:z3)(E:z8)(C0:z3)(fL:Nat)(f1:Nat)(Q:zQ)(Y1:zL)(v0 v3 v8 v9 v12:za)(h:zb):Prop:=B.pv (V.bin .geq v12 (.int .i64 0)) λv33=>B.cond v33 (B.pv (V.bin .add v8 v12) λv41=>B.pv (V.bin .add v8 v12) λv45=>B.pv (V.zde E.es v0 v45) λv46=>E.ld h v46 λv47=>B.pv (V.zde E.es v0 v8) λv50=>E.ld h v50 λv51=>B.pv (V.zde E.es v0 v8) λv52=>E.st h v52 v47 λh=>B.pv (V.zde E.es v0 v41) λv53=>E.st h v53 v51 λh=>B.call C f1 [v0,v9,v12,v8,v3] h λv59 h=>B.pv (V.bin .sub v12 (.int .i64 1)) λv35=>Y1 [v35] h) (Q (.tup []) h)
@[simp] def zcx.l2(C:z3)(E:z8)(C0:z3)(fL:Nat)(f1:Nat)(Q:zQ)(v0 v3 v8 v9:za):zG|[v12],h,Y1=>zcx.k1 C E C0 fL f1 Q Y1 v0 v3 v8 v9 v12 h|_,_,_=>False
@[simp] def zcx.k3(C:z3)(E:z8)(C0:z3)(fL:Nat)(f1:Nat)(Q:zQ)(Y2:zL)(v0 v3 v8 v9 v10 v11:za)(h:zb):Prop:=B.pv (V.bin .geq v11 (.int .i64 0)) λv21=>B.cond v21 (B.call C f1 [v0,v11,v10,v8,v3] h λv29 h=>B.pv (V.bin .sub v11 (.int .i64 1)) λv23=>Y2 [v23] h) (B.pv (V.bin .sub v10 (.int .i64 1)) λv31=>zbg (zcx.l2 C E C0 fL f1 Q v0 v3 v8 v9) [v31] h)
@[simp] def zcx.l4(C:z3)(E:z8)(C0:z3)(fL:Nat)(f1:Nat)(Q:zQ)(v0 v3 v8 v9 v10:za):zG|[v11],h,Y2=>zcx.k3 C E C0 fL f1 Q Y2 v0 v3 v8 v9 v10 v11 h|_,_,_=>False
@[simp] def zcx.k5(C:z3)(E:z8)(C0:z3)(fL:Nat)(f1:Nat)(Q:zQ)(v0 v3 v8 v9 v10:za)(h:zb):Prop:=B.pv (V.bin .sub v10 (.int .i64 1)) λv18=>B.pv (V.bin .quo v18 (.int .i64 2)) λv19=>zbg (zcx.l4 C E C0 fL f1 Q v0 v3 v8 v9 v10) [v19] h
@[simp] def zcx.cps(C:z3)(E:z8)(C0:z3)(fL:Nat)(f1:Nat)(v0 v1 v2 v3:za)(h:zb)(Q:zQ):Prop:=B.pv (V.bin .sub v2 v1) λv16=>zcx.k5 C E C0 fL f1 Q v0 v3 v1 (.int .i64 0) v16 h
@[simp] def zx.k1(C:z3)(E:z8)(C0:z3)(fL:Nat)(f1 f2:Nat)(Q:zQ)(Y1:zL)(v0 v1 v8 v9 v10 v11 v12:za)(h:zb):Prop:=B.pv (V.bin .add v1 v12) λv54=>B.pv (V.bin .add v1 v12) λv58=>B.pv (V.zde E.es v0 v58) λv59=>E.ld h v59 λv60=>B.pv (V.zde E.es v0 v11) λv63=>E.ld h v63 λv64=>B.pv (V.zde E.es v0 v11) λv65=>E.st h v65 v60 λh=>B.pv (V.zde E.es v0 v54) λv66=>E.st h v66 v64 λh=>B.pv (V.bin .add v11 (.int .i64 1)) λv37=>Y1 [v37] h
@[simp] def zx.k2(C:z3)(E:z8)(C0:z3)(fL:Nat)(f1 f2:Nat)(Q:zQ)(Y1:zL)(v0 v1 v8 v9 v10 v11 v12:za)(h:zb):Prop:=B.pv (V.bin .geq v12 v8) λv45=>B.cond v45 (B.pv (V.bin .sub v12 v8) λv48=>zx.k1 C E C0 fL f1 f2 Q Y1 v0 v1 v8 v9 v10 v11 v48 h) (zx.k1 C E C0 fL f1 f2 Q Y1 v0 v1 v8 v9 v10 v11 v12 h)
@[simp] def zx.k3(C:z3)(E:z8)(C0:z3)(fL:Nat)(f1 f2:Nat)(Q:zQ)(Y1:zL)(v0 v1 v8 v9 v10 v11:za)(h:zb):Prop:=B.call C0 f1 [v9] h λv38 h=>B.pv (V.bin .sub v10 (.int .u64 1)) λv40=>B.pv (V.bin .and v38 v40) λv41=>B.pv (V.toInt .i64 v41) λv42=>zx.k2 C E C0 fL f1 f2 Q Y1 v0 v1 v8 v9 v10 v11 v42 h
@[simp] def zx.k4(C:z3)(E:z8)(C0:z3)(fL:Nat)(f1 f2:Nat)(Q:zQ)(Y1:zL)(v0 v1 v8 v9 v10 v11:za)(h:zb):Prop:=B.pv (V.bin .quo v8 (.int .i64 4)) λv31=>B.pv (V.bin .mul v31 (.int .i64 2)) λv32=>B.pv (V.bin .add v1 v32) λv33=>B.pv (V.bin .add v33 (.int .i64 1)) λv34=>B.pv (V.bin .leq v11 v34) λv35=>B.cond v35 (zx.k3 C E C0 fL f1 f2 Q Y1 v0 v1 v8 v9 v10 v11 h) (Q (.tup []) h)
@[simp] def zx.l5(C:z3)(E:z8)(C0:z3)(fL:Nat)(f1 f2:Nat)(Q:zQ)(v0 v1 v8 v9 v10:za):zG|[v11],h,Y1=>zx.k4 C E C0 fL f1 f2 Q Y1 v0 v1 v8 v9 v10 v11 h|_,_,_=>False
@[simp] def zx.k6(C:z3)(E:z8)(C0:z3)(fL:Nat)(f1 f2:Nat)(Q:zQ)(v0 v1 v8 v9 v10:za)(h:zb):Prop:=B.pv (V.bin .quo v8 (.int .i64 4)) λv24=>B.pv (V.bin .mul v24 (.int .i64 2)) λv25=>B.pv (V.bin .add v1 v25) λv26=>B.pv (V.bin .sub v26 (.int .i64 1)) λv27=>zbg (zx.l5 C E C0 fL f1 f2 Q v0 v1 v8 v9 v10) [v27] h
@[simp] def zx.k7(C:z3)(E:z8)(C0:z3)(fL:Nat)(f1 f2:Nat)(Q:zQ)(v0 v1 v8:za)(h:zb):Prop:=B.pv (V.toInt .u64 v8) λv19=>B.zgc h (some [.int .u64 0]) λi9 h=>B.st h (.ptr i9 0 0) v19 λh=>B.call C0 f2 [v8] h λv21 h=>zx.k6 C E C0 fL f1 f2 Q v0 v1 v8 (.ptr i9 0 0) v21 h
@[simp] def zx.k8(C:z3)(E:z8)(C0:z3)(fL:Nat)(f1 f2:Nat)(Q:zQ)(v0 v1 v2:za)(h:zb):Prop:=B.pv (V.bin .sub v2 v1) λv15=>B.pv (V.bin .geq v15 (.int .i64 8)) λv17=>B.cond v17 (zx.k7 C E C0 fL f1 f2 Q v0 v1 v15 h) (Q (.tup []) h)
@[simp] def zx.cps(C:z3)(E:z8)(C0:z3)(fL:Nat)(f1 f2:Nat)(v0 v1 v2 v3:za)(h:zb)(Q:zQ):Prop:=zx.k8 C E C0 fL f1 f2 Q v0 v1 v2 h
@[simp] def z7.k1(C:z3)(E:z8)(C0:z3)(fL:Nat)(f1 f2:Nat)(Q:zQ)(v11 v13:za)(h:zb):Prop:=B.ld h v11 λv55=>B.pv (V.bin .eql v55 (.int .i64 0)) λv58=>B.cond v58 (Q (.tup [v13,(.int .i64 1)]) h) (B.pv (V.bin .eql v55 (.int .i64 12)) λv61=>B.cond v61 (Q (.tup [v13,(.int .i64 2)]) h) (Q (.tup [v13,(.int .i64 0)]) h))
@[simp] def z7.k2(C:z3)(E:z8)(C0:z3)(fL:Nat)(f1 f2:Nat)(Q:zQ)(v0 v3 v10 v11 v12 v13 v14:za)(h:zb):Prop:=B.pv (V.bin .geq v10 (.int .i64 50)) λv36=>B.cond v36 (B.call C f2 [v0,v12,v11,v3] h λv40 h=>B.call C f2 [v0,v13,v11,v3] h λv44 h=>B.call C f2 [v0,v14,v11,v3] h λv48 h=>B.call C f1 [v0,v40,v44,v48,v11,v3] h λv54 h=>z7.k1 C E C0 fL f1 f2 Q v11 v54 h) (B.call C f1 [v0,v12,v13,v14,v11,v3] h λv54 h=>z7.k1 C E C0 fL f1 f2 Q v11 v54 h)
@[simp] def z7.k3(C:z3)(E:z8)(C0:z3)(fL:Nat)(f1 f2:Nat)(Q:zQ)(v0 v3 v10 v11 v12 v13 v14:za)(h:zb):Prop:=B.pv (V.bin .geq v10 (.int .i64 8)) λv34=>B.cond v34 (z7.k2 C E C0 fL f1 f2 Q v0 v3 v10 v11 v12 v13 v14 h) (z7.k1 C E C0 fL f1 f2 Q v11 v13 h)
@[simp] def z7.k4(C:z3)(E:z8)(C0:z3)(fL:Nat)(f1 f2:Nat)(Q:zQ)(v0 v1 v3 v10 v11 v12 v13:za)(h:zb):Prop:=B.pv (V.bin .quo v10 (.int .i64 4)) λv30=>B.pv (V.bin .mul v30 (.int .i64 3)) λv31=>B.pv (V.bin .add v1 v31) λv32=>z7.k3 C E C0 fL f1 f2 Q v0 v3 v10 v11 v12 v13 v32 h
@[simp] def z7.k5(C:z3)(E:z8)(C0:z3)(fL:Nat)(f1 f2:Nat)(Q:zQ)(v0 v1 v3 v10 v11 v12:za)(h:zb):Prop:=B.pv (V.bin .quo v10 (.int .i64 4)) λv25=>B.pv (V.bin .mul v25 (.int .i64 2)) λv26=>B.pv (V.bin .add v1 v26) λv27=>z7.k4 C E C0 fL f1 f2 Q v0 v1 v3 v10 v11 v12 v27 h
@[simp] def z7.k6(C:z3)(E:z8)(C0:z3)(fL:Nat)(f1 f2:Nat)(Q:zQ)(v0 v1 v3 v10 v11:za)(h:zb):Prop:=B.pv (V.bin .quo v10 (.int .i64 4)) λv20=>B.pv (V.bin .mul v20 (.int .i64 1)) λv21=>B.pv (V.bin .add v1 v21) λv22=>z7.k5 C E C0 fL f1 f2 Q v0 v1 v3 v10 v11 v22 h
@[simp] def z7.cps(C:z3)(E:z8)(C0:z3)(fL:Nat)(f1 f2:Nat)(v0 v1 v2 v3:za)(h:zb)(Q:zQ):Prop:=B.pv (V.bin .sub v2 v1) λv17=>B.zgc h (some [.int .i64 0]) λi11 h=>z7.k6 C E C0 fL f1 f2 Q v0 v1 v3 v17 (.ptr i11 0 0) h
@[simp] def zdj.k1(C:z3)(E:z8)(C0:z3)(fL:Nat)(Q:zQ)(Y1:zL)(v0 v8 v9:za)(h:zb):Prop:=B.pv (V.bin .lss v8 v9) λv15=>B.cond v15 (B.pv (V.zde E.es v0 v9) λv22=>E.ld h v22 λv23=>B.pv (V.zde E.es v0 v8) λv26=>E.ld h v26 λv27=>B.pv (V.zde E.es v0 v8) λv28=>E.st h v28 v23 λh=>B.pv (V.zde E.es v0 v9) λv29=>E.st h v29 v27 λh=>B.pv (V.bin .add v8 (.int .i64 1)) λv31=>B.pv (V.bin .sub v9 (.int .i64 1)) λv33=>Y1 [v31,v33] h) (Q (.tup []) h)
@[simp] def zdj.l2(C:z3)(E:z8)(C0:z3)(fL:Nat)(Q:zQ)(v0:za):zG|[v8,v9],h,Y1=>zdj.k1 C E C0 fL Q Y1 v0 v8 v9 h|_,_,_=>False
@[simp] def zdj.cps(C:z3)(E:z8)(C0:z3)(fL:Nat)(v0 v1 v2 v3:za)(h:zb)(Q:zQ):Prop:=B.pv (V.bin .sub v2 (.int .i64 1)) λv12=>zbg (zdj.l2 C E C0 fL Q v0) [v1,v12] h
@[simp] def zg.k1(C:z3)(E:z8)(C0:z3)(fL:Nat)(Q:zQ)(Y1:zL)(Y2:zL)(v0 v1 v2 v3 v9 v10 v12:za)(h:zb):Prop:=B.pv (V.bin .lss v12 v2) λv109=>B.cond v109 (B.pv (V.zde E.es v0 v12) λv115=>E.ld h v115 λv116=>B.pv (V.bin .sub v12 (.int .i64 1)) λv119=>B.pv (V.zde E.es v0 v119) λv120=>E.ld h v120 λv121=>B.call C0 fL [v116,v121] h λv123 h=>B.pv (V.un .not v123) λv124=>B.cond v124 (B.pv (V.bin .add v10 (.int .i64 1)) λv18=>Y1 [v9,v18] h) (B.pv (V.bin .sub v12 (.int .i64 1)) λv129=>B.pv (V.bin .sub v12 (.int .i64 1)) λv132=>B.pv (V.zde E.es v0 v132) λv133=>E.ld h v133 λv134=>B.pv (V.zde E.es v0 v12) λv137=>E.ld h v137 λv138=>B.pv (V.zde E.es v0 v12) λv139=>E.st h v139 v134 λh=>B.pv (V.zde E.es v0 v129) λv140=>E.st h v140 v138 λh=>B.pv (V.bin .add v12 (.int .i64 1)) λv111=>Y2 [v111] h)) (B.pv (V.bin .add v10 (.int .i64 1)) λv18=>Y1 [v9,v18] h)
@[simp] def zg.l2(C:z3)(E:z8)(C0:z3)(fL:Nat)(Q:zQ)(Y1:zL)(v0 v1 v2 v3 v9 v10:za):zG|[v12],h,Y2=>zg.k1 C E C0 fL Q Y1 Y2 v0 v1 v2 v3 v9 v10 v12 h|_,_,_=>False
@[simp] def zg.k3(C:z3)(E:z8)(C0:z3)(fL:Nat)(Q:zQ)(Y1:zL)(v0 v1 v2 v3 v9 v10:za)(h:zb):Prop:=B.pv (V.bin .sub v2 v9) λv103=>B.pv (V.bin .geq v103 (.int .i64 2)) λv104=>B.cond v104 (B.pv (V.bin .add v9 (.int .i64 1)) λv106=>zbg (zg.l2 C E C0 fL Q Y1 v0 v1 v2 v3 v9 v10) [v106] h) (B.pv (V.bin .add v10 (.int .i64 1)) λv18=>Y1 [v9,v18] h)
@[simp] def zg.k4(C:z3)(E:z8)(C0:z3)(fL:Nat)(Q:zQ)(Y1:zL)(Y3:zL)(v0 v1 v2 v3 v9 v10 v11:za)(h:zb):Prop:=B.pv (V.bin .geq v11 (.int .i64 1)) λv69=>B.cond v69 (B.pv (V.zde E.es v0 v11) λv75=>E.ld h v75 λv76=>B.pv (V.bin .sub v11 (.int .i64 1)) λv79=>B.pv (V.zde E.es v0 v79) λv80=>E.ld h v80 λv81=>B.call C0 fL [v76,v81] h λv83 h=>B.pv (V.un .not v83) λv84=>B.cond v84 (zg.k3 C E C0 fL Q Y1 v0 v1 v2 v3 v9 v10 h) (B.pv (V.bin .sub v11 (.int .i64 1)) λv89=>B.pv (V.bin .sub v11 (.int .i64 1)) λv92=>B.pv (V.zde E.es v0 v92) λv93=>E.ld h v93 λv94=>B.pv (V.zde E.es v0 v11) λv97=>E.ld h v97 λv98=>B.pv (V.zde E.es v0 v11) λv99=>E.st h v99 v94 λh=>B.pv (V.zde E.es v0 v89) λv100=>E.st h v100 v98 λh=>B.pv (V.bin .sub v11 (.int .i64 1)) λv71=>Y3 [v71] h)) (zg.k3 C E C0 fL Q Y1 v0 v1 v2 v3 v9 v10 h)
@[simp] def zg.l5(C:z3)(E:z8)(C0:z3)(fL:Nat)(Q:zQ)(Y1:zL)(v0 v1 v2 v3 v9 v10:za):zG|[v11],h,Y3=>zg.k4 C E C0 fL Q Y1 Y3 v0 v1 v2 v3 v9 v10 v11 h|_,_,_=>False
@[simp] def zg.k6(C:z3)(E:z8)(C0:z3)(fL:Nat)(Q:zQ)(Y1:zL)(v0 v1 v2 v3 v9 v10:za)(h:zb):Prop:=B.pv (V.bin .sub v9 v1) λv64=>B.pv (V.bin .geq v64 (.int .i64 2)) λv65=>B.cond v65 (B.pv (V.bin .sub v9 (.int .i64 1)) λv67=>zbg (zg.l5 C E C0 fL Q Y1 v0 v1 v2 v3 v9 v10) [v67] h) (zg.k3 C E C0 fL Q Y1 v0 v1 v2 v3 v9 v10 h)
@[simp] def zg.k7(C:z3)(E:z8)(C0:z3)(fL:Nat)(Q:zQ)(Y1:zL)(v0 v1 v2 v3 v9 v10:za)(h:zb):Prop:=B.pv (V.bin .sub v9 (.int .i64 1)) λv50=>B.pv (V.bin .sub v9 (.int .i64 1)) λv53=>B.pv (V.zde E.es v0 v53) λv54=>E.ld h v54 λv55=>B.pv (V.zde E.es v0 v9) λv58=>E.ld h v58 λv59=>B.pv (V.zde E.es v0 v9) λv60=>E.st h v60 v55 λh=>B.pv (V.zde E.es v0 v50) λv61=>E.st h v61 v59 λh=>zg.k6 C E C0 fL Q Y1 v0 v1 v2 v3 v9 v10 h
@[simp] def zg.k8(C:z3)(E:z8)(C0:z3)(fL:Nat)(Q:zQ)(Y1:zL)(v0 v1 v2 v3 v9 v10:za)(h:zb):Prop:=B.pv (V.bin .sub v2 v1) λv44=>B.pv (V.bin .lss v44 (.int .i64 50)) λv45=>B.cond v45 (Q (.bool false) h) (zg.k7 C E C0 fL Q Y1 v0 v1 v2 v3 v9 v10 h)
@[simp] def zg.k9(C:z3)(E:z8)(C0:z3)(fL:Nat)(Q:zQ)(Y1:zL)(Y4:zL)(v0 v1 v2 v3 v9 v10:za)(h:zb):Prop:=B.pv (V.bin .lss v9 v2) λv21=>B.gd h v21 true (λK=>K v0 h) λv24 h=>B.gd h v21 true (λK=>K v9 h) λv25 h=>B.gd h v21 true (λK=>B.pv (V.zde E.es v24 v25) λv=>K v h) λv26 h=>B.gd h v21 true (λK=>E.ld h v26 λv=>K v h) λv27 h=>B.gd h v21 true (λK=>K v0 h) λv28 h=>B.gd h v21 true (λK=>K v9 h) λv29 h=>B.gd h v21 true (λK=>B.pv (V.bin .sub v29 (.int .i64 1)) λv=>K v h) λv30 h=>B.gd h v21 true (λK=>B.pv (V.zde E.es v28 v30) λv=>K v h) λv31 h=>B.gd h v21 true (λK=>E.ld h v31 λv=>K v h) λv32 h=>B.gd h v21 true (λK=>B.call C0 fL [v27,v32] h K) λv34 h=>B.gd h v21 true (λK=>B.pv (V.un .not v34) λv=>K v h) λv35 h=>B.pick v21 v35 (.bool false) λv36=>B.cond v36 (B.pv (V.bin .add v9 (.int .i64 1)) λv38=>Y4 [v38] h) (B.pv (V.bin .eql v9 v2) λv41=>B.cond v41 (Q (.bool true) h) (zg.k8 C E C0 fL Q Y1 v0 v1 v2 v3 v9 v10 h))
@[simp] def zg.l10(C:z3)(E:z8)(C0:z3)(fL:Nat)(Q:zQ)(Y1:zL)(v0 v1 v2 v3 v10:za):zG|[v9],h,Y4=>zg.k9 C E C0 fL Q Y1 Y4 v0 v1 v2 v3 v9 v10 h|_,_,_=>False
@[simp] def zg.k11(C:z3)(E:z8)(C0:z3)(fL:Nat)(Q:zQ)(Y1:zL)(v0 v1 v2 v3 v9 v10:za)(h:zb):Prop:=B.pv (V.bin .lss v10 (.int .i64 5)) λv16=>B.cond v16 (zbg (zg.l10 C E C0 fL Q Y1 v0 v1 v2 v3 v10) [v9] h) (Q (.bool false) h)
@[simp] def zg.l12(C:z3)(E:z8)(C0:z3)(fL:Nat)(Q:zQ)(v0 v1 v2 v3:za):zG|[v9,v10],h,Y1=>zg.k11 C E C0 fL Q Y1 v0 v1 v2 v3 v9 v10 h|_,_,_=>False
@[simp] def zg.cps(C:z3)(E:z8)(C0:z3)(fL:Nat)(v0 v1 v2 v3:za)(h:zb)(Q:zQ):Prop:=B.pv (V.bin .add v1 (.int .i64 1)) λv14=>zbg (zg.l12 C E C0 fL Q v0 v1 v2 v3) [v14,(.int .i64 0)] h
@[simp] def zt.k1(C:z3)(E:z8)(C0:z3)(fL:Nat)(Q:zQ)(Y1:zL)(v0 v1 v4 v11 v12:za)(h:zb):Prop:=B.pv (V.bin .gtr v11 v12) λv70=>B.cond v70 (Q v11 h) (B.pv (V.zde E.es v0 v12) λv77=>E.ld h v77 λv78=>B.pv (V.zde E.es v0 v11) λv81=>E.ld h v81 λv82=>B.pv (V.zde E.es v0 v11) λv83=>E.st h v83 v78 λh=>B.pv (V.zde E.es v0 v12) λv84=>E.st h v84 v82 λh=>B.pv (V.bin .add v11 (.int .i64 1)) λv86=>B.pv (V.bin .sub v12 (.int .i64 1)) λv88=>Y1 [v86,v88] h)
@[simp] def zt.k2(C:z3)(E:z8)(C0:z3)(fL:Nat)(Q:zQ)(Y1:zL)(Y2:zL)(v0 v1 v4 v11 v12:za)(h:zb):Prop:=B.pv (V.bin .leq v11 v12) λv52=>B.gd h v52 true (λK=>K v0 h) λv55 h=>B.gd h v52 true (λK=>K v1 h) λv56 h=>B.gd h v52 true (λK=>B.pv (V.zde E.es v55 v56) λv=>K v h) λv57 h=>B.gd h v52 true (λK=>E.ld h v57 λv=>K v h) λv58 h=>B.gd h v52 true (λK=>K v0 h) λv59 h=>B.gd h v52 true (λK=>K v12 h) λv60 h=>B.gd h v52 true (λK=>B.pv (V.zde E.es v59 v60) λv=>K v h) λv61 h=>B.gd h v52 true (λK=>E.ld h v61 λv=>K v h) λv62 h=>B.gd h v52 true (λK=>B.call C0 fL [v58,v62] h K) λv64 h=>B.pick v52 v64 (.bool false) λv65=>B.cond v65 (B.pv (V.bin .sub v12 (.int .i64 1)) λv67=>Y2 [v67] h) (zt.k1 C E C0 fL Q Y1 v0 v1 v4 v11 v12 h)
@[simp] def zt.l3(C:z3)(E:z8)(C0:z3)(fL:Nat)(Q:zQ)(Y1:zL)(v0 v1 v4 v11:za):zG|[v12],h,Y2=>zt.k2 C E C0 fL Q Y1 Y2 v0 v1 v4 v11 v12 h|_,_,_=>False
@[simp] def zt.k4(C:z3)(E:z8)(C0:z3)(fL:Nat)(Q:zQ)(Y1:zL)(Y3:zL)(v0 v1 v4 v11 v12:za)(h:zb):Prop:=B.pv (V.bin .leq v11 v12) λv33=>B.gd h v33 true (λK=>K v0 h) λv36 h=>B.gd h v33 true (λK=>K v1 h) λv37 h=>B.gd h v33 true (λK=>B.pv (V.zde E.es v36 v37) λv=>K v h) λv38 h=>B.gd h v33 true (λK=>E.ld h v38 λv=>K v h) λv39 h=>B.gd h v33 true (λK=>K v0 h) λv40 h=>B.gd h v33 true (λK=>K v11 h) λv41 h=>B.gd h v33 true (λK=>B.pv (V.zde E.es v40 v41) λv=>K v h) λv42 h=>B.gd h v33 true (λK=>E.ld h v42 λv=>K v h) λv43 h=>B.gd h v33 true (λK=>B.call C0 fL [v39,v43] h K) λv45 h=>B.gd h v33 true (λK=>B.pv (V.un .not v45) λv=>K v h) λv46 h=>B.pick v33 v46 (.bool false) λv47=>B.cond v47 (B.pv (V.bin .add v11 (.int .i64 1)) λv49=>Y3 [v49] h) (zbg (zt.l3 C E C0 fL Q Y1 v0 v1 v4 v11) [v12] h)
@[simp] def zt.l5(C:z3)(E:z8)(C0:z3)(fL:Nat)(Q:zQ)(Y1:zL)(v0 v1 v4 v12:za):zG|[v11],h,Y3=>zt.k4 C E C0 fL Q Y1 Y3 v0 v1 v4 v11 v12 h|_,_,_=>False
@[simp] def zt.l6(C:z3)(E:z8)(C0:z3)(fL:Nat)(Q:zQ)(v0 v1 v4:za):zG|[v11,v12],h,Y1=>zbg (zt.l5 C E C0 fL Q Y1 v0 v1 v4 v12) [v11] h|_,_,_=>False
@[simp] def zt.k7(C:z3)(E:z8)(C0:z3)(fL:Nat)(Q:zQ)(v0 v1 v2 v4:za)(h:zb):Prop:=B.pv (V.bin .add v1 (.int .i64 1)) λv28=>B.pv (V.bin .sub v2 (.int .i64 1)) λv30=>zbg (zt.l6 C E C0 fL Q v0 v1 v4) [v28,v30] h
@[simp] def zt.k8(C:z3)(E:z8)(C0:z3)(fL:Nat)(Q:zQ)(v0 v1 v2 v3 v4:za)(h:zb):Prop:=B.pv (V.zde E.es v0 v3) λv19=>E.ld h v19 λv20=>B.pv (V.zde E.es v0 v1) λv23=>E.ld h v23 λv24=>B.pv (V.zde E.es v0 v1) λv25=>E.st h v25 v20 λh=>B.pv (V.zde E.es v0 v3) λv26=>E.st h v26 v24 λh=>zt.k7 C E C0 fL Q v0 v1 v2 v4 h
@[simp] def zt.cps(C:z3)(E:z8)(C0:z3)(fL:Nat)(v0 v1 v2 v3 v4:za)(h:zb)(Q:zQ):Prop:=zt.k8 C E C0 fL Q v0 v1 v2 v3 v4 h
@[simp] def zl.k1(C:z3)(E:z8)(C0:z3)(fL:Nat)(Q:zQ)(v0 v1 v13:za)(h:zb):Prop:=B.pv (V.zde E.es v0 v1) λv169=>E.ld h v169 λv170=>B.pv (V.zde E.es v0 v13) λv173=>E.ld h v173 λv174=>B.pv (V.zde E.es v0 v13) λv175=>E.st h v175 v170 λh=>B.pv (V.zde E.es v0 v1) λv176=>E.st h v176 v174 λh=>Q (.tup [v13,(.bool false)]) h
@[simp] def zl.k2(C:z3)(E:z8)(C0:z3)(fL:Nat)(Q:zQ)(Y1:zL)(v0 v1 v4 v12 v13:za)(h:zb):Prop:=B.pv (V.bin .gtr v12 v13) λv144=>B.cond v144 (zl.k1 C E C0 fL Q v0 v1 v13 h) (B.pv (V.zde E.es v0 v13) λv151=>E.ld h v151 λv152=>B.pv (V.zde E.es v0 v12) λv155=>E.ld h v155 λv156=>B.pv (V.zde E.es v0 v12) λv157=>E.st h v157 v152 λh=>B.pv (V.zde E.es v0 v13) λv158=>E.st h v158 v156 λh=>B.pv (V.bin .add v12 (.int .i64 1)) λv160=>B.pv (V.bin .sub v13 (.int .i64 1)) λv162=>Y1 [v160,v162] h)
@[simp] def zl.k3(C:z3)(E:z8)(C0:z3)(fL:Nat)(Q:zQ)(Y1:zL)(Y2:zL)(v0 v1 v4 v12 v13:za)(h:zb):Prop:=B.pv (V.bin .leq v12 v13) λv125=>B.gd h v125 true (λK=>K v0 h) λv128 h=>B.gd h v125 true (λK=>K v13 h) λv129 h=>B.gd h v125 true (λK=>B.pv (V.zde E.es v128 v129) λv=>K v h) λv130 h=>B.gd h v125 true (λK=>E.ld h v130 λv=>K v h) λv131 h=>B.gd h v125 true (λK=>K v0 h) λv132 h=>B.gd h v125 true (λK=>K v1 h) λv133 h=>B.gd h v125 true (λK=>B.pv (V.zde E.es v132 v133) λv=>K v h) λv134 h=>B.gd h v125 true (λK=>E.ld h v134 λv=>K v h) λv135 h=>B.gd h v125 true (λK=>B.call C0 fL [v131,v135] h K) λv137 h=>B.gd h v125 true (λK=>B.pv (V.un .not v137) λv=>K v h) λv138 h=>B.pick v125 v138 (.bool false) λv139=>B.cond v139 (B.pv (V.bin .sub v13 (.int .i64 1)) λv141=>Y2 [v141] h) (zl.k2 C E C0 fL Q Y1 v0 v1 v4 v12 v13 h)
@[simp] def zl.l4(C:z3)(E:z8)(C0:z3)(fL:Nat)(Q:zQ)(Y1:zL)(v0 v1 v4 v12:za):zG|[v13],h,Y2=>zl.k3 C E C0 fL Q Y1 Y2 v0 v1 v4 v12 v13 h|_,_,_=>False
@[simp] def zl.k5(C:z3)(E:z8)(C0:z3)(fL:Nat)(Q:zQ)(Y1:zL)(Y3:zL)(v0 v1 v4 v12 v13:za)(h:zb):Prop:=B.pv (V.bin .leq v12 v13) λv107=>B.gd h v107 true (λK=>K v0 h) λv110 h=>B.gd h v107 true (λK=>K v12 h) λv111 h=>B.gd h v107 true (λK=>B.pv (V.zde E.es v110 v111) λv=>K v h) λv112 h=>B.gd h v107 true (λK=>E.ld h v112 λv=>K v h) λv113 h=>B.gd h v107 true (λK=>K v0 h) λv114 h=>B.gd h v107 true (λK=>K v1 h) λv115 h=>B.gd h v107 true (λK=>B.pv (V.zde E.es v114 v115) λv=>K v h) λv116 h=>B.gd h v107 true (λK=>E.ld h v116 λv=>K v h) λv117 h=>B.gd h v107 true (λK=>B.call C0 fL [v113,v117] h K) λv119 h=>B.pick v107 v119 (.bool false) λv120=>B.cond v120 (B.pv (V.bin .add v12 (.int .i64 1)) λv122=>Y3 [v122] h) (zbg (zl.l4 C E C0 fL Q Y1 v0 v1 v4 v12) [v13] h)
@[simp] def zl.l6(C:z3)(E:z8)(C0:z3)(fL:Nat)(Q:zQ)(Y1:zL)(v0 v1 v4 v13:za):zG|[v12],h,Y3=>zl.k5 C E C0 fL Q Y1 Y3 v0 v1 v4 v12 v13 h|_,_,_=>False
@[simp] def zl.l7(C:z3)(E:z8)(C0:z3)(fL:Nat)(Q:zQ)(v0 v1 v4:za):zG|[v12,v13],h,Y1=>zbg (zl.l6 C E C0 fL Q Y1 v0 v1 v4 v13) [v12] h|_,_,_=>False
@[simp] def zl.k8(C:z3)(E:z8)(C0:z3)(fL:Nat)(Q:zQ)(v0 v1 v4 v12 v13:za)(h:zb):Prop:=B.pv (V.bin .add v12 (.int .i64 1)) λv102=>B.pv (V.bin .sub v13 (.int .i64 1)) λv104=>zbg (zl.l7 C E C0 fL Q v0 v1 v4) [v102,v104] h
@[simp] def zl.k9(C:z3)(E:z8)(C0:z3)(fL:Nat)(Q:zQ)(v0 v1 v4 v12 v13:za)(h:zb):Prop:=B.pv (V.zde E.es v0 v13) λv93=>E.ld h v93 λv94=>B.pv (V.zde E.es v0 v12) λv97=>E.ld h v97 λv98=>B.pv (V.zde E.es v0 v12) λv99=>E.st h v99 v94 λh=>B.pv (V.zde E.es v0 v13) λv100=>E.st h v100 v98 λh=>zl.k8 C E C0 fL Q v0 v1 v4 v12 v13 h
@[simp] def zl.k10(C:z3)(E:z8)(C0:z3)(fL:Nat)(Q:zQ)(v0 v1 v4 v12 v13:za)(h:zb):Prop:=B.pv (V.bin .gtr v12 v13) λv71=>B.cond v71 (B.pv (V.zde E.es v0 v1) λv78=>E.ld h v78 λv79=>B.pv (V.zde E.es v0 v13) λv82=>E.ld h v82 λv83=>B.pv (V.zde E.es v0 v13) λv84=>E.st h v84 v79 λh=>B.pv (V.zde E.es v0 v1) λv85=>E.st h v85 v83 λh=>Q (.tup [v13,(.bool true)]) h) (zl.k9 C E C0 fL Q v0 v1 v4 v12 v13 h)
@[simp] def zl.k11(C:z3)(E:z8)(C0:z3)(fL:Nat)(Q:zQ)(Y4:zL)(v0 v1 v4 v12 v13:za)(h:zb):Prop:=B.pv (V.bin .leq v12 v13) λv52=>B.gd h v52 true (λK=>K v0 h) λv55 h=>B.gd h v52 true (λK=>K v13 h) λv56 h=>B.gd h v52 true (λK=>B.pv (V.zde E.es v55 v56) λv=>K v h) λv57 h=>B.gd h v52 true (λK=>E.ld h v57 λv=>K v h) λv58 h=>B.gd h v52 true (λK=>K v0 h) λv59 h=>B.gd h v52 true (λK=>K v1 h) λv60 h=>B.gd h v52 true (λK=>B.pv (V.zde E.es v59 v60) λv=>K v h) λv61 h=>B.gd h v52 true (λK=>E.ld h v61 λv=>K v h) λv62 h=>B.gd h v52 true (λK=>B.call C0 fL [v58,v62] h K) λv64 h=>B.gd h v52 true (λK=>B.pv (V.un .not v64) λv=>K v h) λv65 h=>B.pick v52 v65 (.bool false) λv66=>B.cond v66 (B.pv (V.bin .sub v13 (.int .i64 1)) λv68=>Y4 [v68] h) (zl.k10 C E C0 fL Q v0 v1 v4 v12 v13 h)
@[simp] def zl.l12(C:z3)(E:z8)(C0:z3)(fL:Nat)(Q:zQ)(v0 v1 v4 v12:za):zG|[v13],h,Y4=>zl.k11 C E C0 fL Q Y4 v0 v1 v4 v12 v13 h|_,_,_=>False
@[simp] def zl.k13(C:z3)(E:z8)(C0:z3)(fL:Nat)(Q:zQ)(Y5:zL)(v0 v1 v4 v12 v13:za)(h:zb):Prop:=B.pv (V.bin .leq v12 v13) λv34=>B.gd h v34 true (λK=>K v0 h) λv37 h=>B.gd h v34 true (λK=>K v12 h) λv38 h=>B.gd h v34 true (λK=>B.pv (V.zde E.es v37 v38) λv=>K v h) λv39 h=>B.gd h v34 true (λK=>E.ld h v39 λv=>K v h) λv40 h=>B.gd h v34 true (λK=>K v0 h) λv41 h=>B.gd h v34 true (λK=>K v1 h) λv42 h=>B.gd h v34 true (λK=>B.pv (V.zde E.es v41 v42) λv=>K v h) λv43 h=>B.gd h v34 true (λK=>E.ld h v43 λv=>K v h) λv44 h=>B.gd h v34 true (λK=>B.call C0 fL [v40,v44] h K) λv46 h=>B.pick v34 v46 (.bool false) λv47=>B.cond v47 (B.pv (V.bin .add v12 (.int .i64 1)) λv49=>Y5 [v49] h) (zbg (zl.l12 C E C0 fL Q v0 v1 v4 v12) [v13] h)
@[simp] def zl.l14(C:z3)(E:z8)(C0:z3)(fL:Nat)(Q:zQ)(v0 v1 v4 v13:za):zG|[v12],h,Y5=>zl.k13 C E C0 fL Q Y5 v0 v1 v4 v12 v13 h|_,_,_=>False
@[simp] def zl.k15(C:z3)(E:z8)(C0:z3)(fL:Nat)(Q:zQ)(v0 v1 v2 v4:za)(h:zb):Prop:=B.pv (V.bin .add v1 (.int .i64 1)) λv29=>B.pv (V.bin .sub v2 (.int .i64 1)) λv31=>zbg (zl.l14 C E C0 fL Q v0 v1 v4 v31) [v29] h
@[simp] def zl.k16(C:z3)(E:z8)(C0:z3)(fL:Nat)(Q:zQ)(v0 v1 v2 v3 v4:za)(h:zb):Prop:=B.pv (V.zde E.es v0 v3) λv20=>E.ld h v20 λv21=>B.pv (V.zde E.es v0 v1) λv24=>E.ld h v24 λv25=>B.pv (V.zde E.es v0 v1) λv26=>E.st h v26 v21 λh=>B.pv (V.zde E.es v0 v3) λv27=>E.st h v27 v25 λh=>zl.k15 C E C0 fL Q v0 v1 v2 v4 h
@[simp] def zl.cps(C:z3)(E:z8)(C0:z3)(fL:Nat)(v0 v1 v2 v3 v4:za)(h:zb)(Q:zQ):Prop:=zl.k16 C E C0 fL Q v0 v1 v2 v3 v4 h
@[simp] def zcw.k1(C:z3)(E:z8)(C0:z3)(fL:Nat)(Q:zQ)(Y1:zL)(v0 v2 v3 v4 v10 v11:za)(h:zb):Prop:=B.pv (V.bin .add v3 v10) λv47=>B.pv (V.zde E.es v0 v47) λv48=>E.ld h v48 λv49=>B.pv (V.bin .add v3 v11) λv53=>B.pv (V.zde E.es v0 v53) λv54=>E.ld h v54 λv55=>B.call C0 fL [v49,v55] h λv57 h=>B.pv (V.un .not v57) λv58=>B.cond v58 (Q (.tup []) h) (B.pv (V.bin .add v3 v10) λv62=>B.pv (V.bin .add v3 v11) λv66=>B.pv (V.bin .add v3 v11) λv70=>B.pv (V.zde E.es v0 v70) λv71=>E.ld h v71 λv72=>B.pv (V.bin .add v3 v10) λv76=>B.pv (V.zde E.es v0 v76) λv77=>E.ld h v77 λv78=>B.pv (V.zde E.es v0 v62) λv79=>E.st h v79 v72 λh=>B.pv (V.zde E.es v0 v66) λv80=>E.st h v80 v78 λh=>Y1 [v11] h)
@[simp] def zcw.k2(C:z3)(E:z8)(C0:z3)(fL:Nat)(Q:zQ)(Y1:zL)(v0 v2 v3 v4 v10 v11:za)(h:zb):Prop:=B.pv (V.bin .add v11 (.int .i64 1)) λv20=>B.pv (V.bin .lss v20 v2) λv22=>B.gd h v22 true (λK=>K v0 h) λv25 h=>B.gd h v22 true (λK=>K v3 h) λv26 h=>B.gd h v22 true (λK=>K v11 h) λv27 h=>B.gd h v22 true (λK=>B.pv (V.bin .add v26 v27) λv=>K v h) λv28 h=>B.gd h v22 true (λK=>B.pv (V.zde E.es v25 v28) λv=>K v h) λv29 h=>B.gd h v22 true (λK=>E.ld h v29 λv=>K v h) λv30 h=>B.gd h v22 true (λK=>K v0 h) λv31 h=>B.gd h v22 true (λK=>K v3 h) λv32 h=>B.gd h v22 true (λK=>K v11 h) λv33 h=>B.gd h v22 true (λK=>B.pv (V.bin .add v32 v33) λv=>K v h) λv34 h=>B.gd h v22 true (λK=>B.pv (V.bin .add v34 (.int .i64 1)) λv=>K v h) λv35 h=>B.gd h v22 true (λK=>B.pv (V.zde E.es v31 v35) λv=>K v h) λv36 h=>B.gd h v22 true (λK=>E.ld h v36 λv=>K v h) λv37 h=>B.gd h v22 true (λK=>B.call C0 fL [v30,v37] h K) λv39 h=>B.pick v22 v39 (.bool false) λv40=>B.cond v40 (B.pv (V.bin .add v11 (.int .i64 1)) λv42=>zcw.k1 C E C0 fL Q Y1 v0 v2 v3 v4 v10 v42 h) (zcw.k1 C E C0 fL Q Y1 v0 v2 v3 v4 v10 v11 h)
@[simp] def zcw.k3(C:z3)(E:z8)(C0:z3)(fL:Nat)(Q:zQ)(Y1:zL)(v0 v2 v3 v4 v10:za)(h:zb):Prop:=B.pv (V.bin .mul (.int .i64 2) v10) λv14=>B.pv (V.bin .add v14 (.int .i64 1)) λv15=>B.pv (V.bin .geq v15 v2) λv18=>B.cond v18 (Q (.tup []) h) (zcw.k2 C E C0 fL Q Y1 v0 v2 v3 v4 v10 v15 h)
@[simp] def zcw.l4(C:z3)(E:z8)(C0:z3)(fL:Nat)(Q:zQ)(v0 v2 v3 v4:za):zG|[v10],h,Y1=>zcw.k3 C E C0 fL Q Y1 v0 v2 v3 v4 v10 h|_,_,_=>False
@[simp] def zcw.cps(C:z3)(E:z8)(C0:z3)(fL:Nat)(v0 v1 v2 v3 v4:za)(h:zb)(Q:zQ):Prop:=zbg (zcw.l4 C E C0 fL Q v0 v2 v3 v4) [v1] h
@[simp] def zdr.k1(C:z3)(E:z8)(C0:z3)(fL:Nat)(f1:Nat)(Q:zQ)(v0 v1 v2 v3:za)(h:zb):Prop:=B.pv (V.bin .sub v1 (.int .i64 1)) λv11=>B.pv (V.bin .add v1 (.int .i64 1)) λv14=>B.call C f1 [v0,v11,v1,v14,v2,v3] h λv17 h=>Q v17 h
@[simp] def zdr.cps(C:z3)(E:z8)(C0:z3)(fL:Nat)(f1:Nat)(v0 v1 v2 v3:za)(h:zb)(Q:zQ):Prop:=zdr.k1 C E C0 fL f1 Q v0 v1 v2 v3 h
@[simp] def zev.k1(C:z3)(E:z8)(C0:z3)(fL:Nat)(f1:Nat)(Q:zQ)(v0 v1 v2 v3 v4 v5:za)(h:zb):Prop:=B.call C f1 [v0,v1,v2,v4,v5] h λv19 h=>B.pv (V.ext 0 v19) λv20=>B.pv (V.ext 1 v19) λv21=>B.call C f1 [v0,v21,v3,v4,v5] h λv28 h=>B.pv (V.ext 0 v28) λv29=>B.pv (V.ext 1 v28) λv30=>B.call C f1 [v0,v20,v29,v4,v5] h λv37 h=>B.pv (V.ext 0 v37) λv38=>B.pv (V.ext 1 v37) λv39=>Q v39 h
@[simp] def zev.cps(C:z3)(E:z8)(C0:z3)(fL:Nat)(f1:Nat)(v0 v1 v2 v3 v4 v5:za)(h:zb)(Q:zQ):Prop:=zev.k1 C E C0 fL f1 Q v0 v1 v2 v3 v4 v5 h
@[simp] def zeu.k1(C:z3)(E:z8)(C0:z3)(fL:Nat)(Q:zQ)(v0 v1 v2 v3 v4:za)(h:zb):Prop:=B.pv (V.zde E.es v0 v2) λv15=>E.ld h v15 λv16=>B.pv (V.zde E.es v0 v1) λv19=>E.ld h v19 λv20=>B.call C0 fL [v16,v20] h λv22 h=>B.cond v22 (B.nilCheck v3 λv24=>B.ld h v24 λv25=>B.pv (V.bin .add v25 (.int .i64 1)) λv26=>B.nilCheck v3 λv27=>B.st h v27 v26 λh=>Q (.tup [v2,v1]) h) (Q (.tup [v1,v2]) h)
@[simp] def zeu.cps(C:z3)(E:z8)(C0:z3)(fL:Nat)(v0 v1 v2 v3 v4:za)(h:zb)(Q:zQ):Prop:=zeu.k1 C E C0 fL Q v0 v1 v2 v3 v4 h
structure zly{T:Type}(less:T->T->Bool):Prop where
 asym:∀{a b},less a b=true->less b a=false
 zne:∀{a b c},less a b=false->less b c=false->less a c=false
section
variable{T:Type}{less:T->T->Bool}
theorem zly.irr(W:zly less)(a:T):less a a=false:=by
 cases h:less a a with
 | false=>rfl
 | true=>have:=W.asym h;rw[h]at this;cases this
theorem zly.trans(W:zly less){a b c:T}(h1:less a b=true)(h2:less b c=true):less a c=true:=by
 cases h:less a c with
 | true=>rfl
 | false=>have:=W.zne h (W.asym h2);rw[h1]at this;cases this
def lt'(less:T->T->Bool)(x y:T×Nat):Prop:=less x.1 y.1=true \/ (less y.1 x.1=false /\ x.2<y.2)
theorem lt'_trans(W:zly less){x y z:T×Nat}(h1:lt' less x y)(h2:lt' less y z):lt' less x z:=by
 unfold lt' at *;rcases h1 with h1|⟨h1,n1⟩<;>rcases h2 with h2|⟨h2,n2⟩
 ·exact .inl (W.trans h1 h2)
 ·left
  cases h:less x.1 z.1 with
  | true=>rfl
  | false=>have:=W.zne h h2;rw[h1]at this;cases this
 ·left
  cases h:less x.1 z.1 with
  | true=>rfl
  | false=>have:=W.zne h1 h;rw[h2]at this;cases this
 ·exact .inr ⟨W.zne h2 h1,by omega⟩
theorem lt'_gt{x y:T×Nat}(hn:y.2<x.2):lt' less x y↔less x.1 y.1=true:=⟨λh=>h.elim id λ⟨_,h⟩=>by omega,.inl⟩
theorem lt'_le(W:zly less){x y:T×Nat}(hn:x.2<y.2):lt' less x y↔less y.1 x.1=false:=⟨λh=>h.elim (λh=>W.asym h) λ⟨h,_⟩=>h,λh=> .inr ⟨h,hn⟩⟩
end
variable{C:z3}{N:zN}
theorem zhf{a:Nat}(h:a<4611686018427387904):V.bin .add (.int .i64 (a:Int)) (.int .i64 1)=some (.int .i64 ((a+1:Nat):Int)):=by
 rw[V.zjk,wrap_i64 (by omega) (by omega)];simp
theorem sub1{a:Nat}(h:1 <= a)(ha:a<4611686018427387904):V.bin .sub (.int .i64 (a:Int)) (.int .i64 1)=some (.int .i64 ((a-1:Nat):Int)):=by
 rw[V.zh4,wrap_i64 (by omega) (by omega)];congr 2;omega
theorem lssN{a b:Nat}:V.bin .lss (.int .i64 (a:Int)) (.int .i64 (b:Int))=some (.bool (decide (a<b))):=by rw[V.ze1];congr 3;exact propext (by omega)
theorem leqN{a b:Nat}:V.bin .leq (.int .i64 (a:Int)) (.int .i64 (b:Int))=some (.bool (decide (a <= b))):=by rw[V.bin_leq];congr 3;exact propext (by omega)
theorem gtrN{a b:Nat}:V.bin .gtr (.int .i64 (a:Int)) (.int .i64 (b:Int))=some (.bool (decide (b<a))):=by rw[V.zlx];congr 3;exact propext (by omega)
structure zdp(E:z8){X:Type}(cs:X->List za)(v:X->za):Prop where
 pos:0<E.es
 small:E.bytes <= 1000
 zlen:E.z.length=E.es
 len:∀t,(cs t).length=E.es
 new:∀t,zew [(0,E.kp,v t)] (zi9 1 E.z)=some (cs t)
 ld:∀{h:zb}{x:za}{L R:List (List za)}{i:Nat}{t:X}{K:za->Prop},SlX h E.es x L R->L[i]?=some (cs t)->K (v t)->E.ld h (elp E.es x i 0) K
 kpt:∀{h:zb}{x:za}{L R:List (List za)}{i:Nat}{t:X},SlX h E.es x L R->L[i]?=some (cs t)->Kp h (elp E.es x i 0) E.kp
 st:∀{h0 h:zb}{x:za}{L R:List (List za)}{i:Nat}{c:List za}{t:X}{K:zb->Prop},zc5 h0 h [.sl E.es x L R]->L[i]?=some c ->
  (∀h',zc5 h0 h' [.sl E.es x (L.set i (cs t)) R]->K h')->E.st h (elp E.es x i 0) (v t) K
theorem zdp.comp{E:z8}{X Y:Type}{cs:X->List za}{v:X->za}(S:zdp E cs v)(f:Y->X):zdp E (λy=>cs (f y)) (λy=>v (f y)):=⟨S.pos,S.small,S.zlen,λt=>S.len _,λt=>S.new _,λh1 h2 h3=>S.ld h1 h2 h3,λh1 h2=>S.kpt h1 h2,λh1 h2 h3=>S.st h1 h2 h3⟩
theorem seqS{X:Type}{bytes f:Nat}{z:za}{v:X->za}(hb:bytes <= 1000)(hc:∀t,(v t).zd2=true):zdp (zc3 bytes z f) (λt=>[v t]) v where
 pos:=Nat.one_pos
 small:=hb
 zlen:=rfl
 len _:=rfl
 new t:=by simp[zc3,hc,zi9]
 ld hs hcc hk:=by
  simp only[zc3,B.ze7]at hs ⊢;rw[hs.cell hcc];exact hk
 kpt hs hcc:=⟨_,hs.cell hcc⟩
 st {h0 h x L R i c t K} ho hcc hk:=by
  have hs:SlX h 1 x L R:=ho.zms 0 rfl;have hcl:c.length=1:=hs.len c (mem_append_left _ (mem_of_getElem? hcc));obtain⟨u,rfl⟩:=length_eq_one_iff.1 hcl;exact ho.st 0 rfl hcc (by show 0<1;omega) (hc _) λh' h1 _=>hk h' h1
def Rw(E:z8){X:Type}(cs:X->List za)(h0 h:zb)(x:za)(G:List X)(R:List (List za)):Prop:=zc5 h0 h [.sl E.es x (G.map cs) R]
section
variable{E:z8}{X:Type}{cs:X->List za}{v:X->za}{h0 h:zb}{x:za}{G:List X}{R:List (List za)}
theorem Rw.idx(ho:Rw E cs h0 h x G R){i:Nat}(hi:i<G.length):V.zde E.es x (.int .i64 (i:Int))=some (elp E.es x i 0):=(zc5.zms ho 0 rfl).idxN (by simpa using hi)
theorem Rw.lenE(ho:Rw E cs h0 h x G R):V.zd3 x=some (.int .i64 G.length):=by have:=(zc5.zms ho 0 rfl).zd3;simpa using this
theorem Rw.le(ho:Rw E cs h0 h x G R):h0.le h:=zc5.le ho
theorem Rw.ld(ho:Rw E cs h0 h x G R)(S:zdp E cs v){i:Nat}{t:X}(hg:G[i]?=some t){K:za->Prop}(hk:K (v t)):E.ld h (elp E.es x i 0) K:=
 S.ld (zc5.zms ho 0 rfl) (by rw[getElem?_map,hg];rfl) hk
theorem Rw.st(ho:Rw E cs h0 h x G R)(S:zdp E cs v){i:Nat}{t:X}(hi:i<G.length){K:zb->Prop}(hk:∀h',Rw E cs h0 h' x (G.set i t) R->K h'):E.st h (elp E.es x i 0) (v t) K:=
 S.st ho (c:=cs G[i]) (by rw[getElem?_map,getElem?_eq_getElem hi];rfl) λh' h1=>hk h' (by unfold Rw;rwa [map_set])
theorem set_mid{P Q:List X}{a b:X}{i:Nat}(hi:i=P.length):(P++a::Q).set i b=P++b::Q:=by subst hi;simp
theorem get_mid{P Q:List X}{a:X}{i:Nat}(hi:i=P.length):(P++a::Q)[i]?=some a:=by subst hi;simp
theorem set_mid2{P Q T:List X}{a b c:X}{j:Nat}(hj:j=P.length+1+Q.length):(P++a::(Q++b::T)).set j c=P++a::(Q++c::T):=by
 have:=set_mid (P:=P++a::Q) (Q:=T) (a:=b) (b:=c) (i:=j) (by simp;omega);simpa using this
theorem get_mid2{P Q T:List X}{a b:X}{j:Nat}(hj:j=P.length+1+Q.length):(P++a::(Q++b::T))[j]?=some b:=by
 have:=get_mid (P:=P++a::Q) (Q:=T) (a:=b) (i:=j) (by simp;omega);simpa using this
theorem Rw.swapDn{P Q T:List X}{a b:X}{i j:Nat}(ho:Rw E cs h0 h x (P++a::(Q++b::T)) R)(S:zdp E cs v)(hi:i=P.length)(hj:j=P.length+1+Q.length){K:zb->Prop}
  (hk:∀h',Rw E cs h0 h' x (P++b::(Q++a::T)) R->K h'):E.st h (elp E.es x j 0) (v a) λh=>E.st h (elp E.es x i 0) (v b) K:=by
 refine ho.st S (by simp;omega) λh1 o1=>?_;rw[set_mid2 hj]at o1;refine o1.st S (by simp;omega) λh2 o2=>hk h2 ?_
 rwa [set_mid hi]at o2
end
section
variable{E:z8}{T:Type}{cs:T->List za}{v:T->za}{c:T->T->Int}{h0 h:zb}{x f:za}{R:List (List za)}{Q:zQ}
def zea(c:T->T->Int)(a b:T):Bool:=decide (c a b<0)
theorem nil_or_snoc{X:Type}(L:List X):L=[] \/ ∃L0 y,L=L0++[y]:=by
 rcases eq_nil_or_concat L with h|⟨A,b,h⟩
 ·exact .inl h
 ·exact .inr ⟨A,b,by rw[h,concat_eq_append]⟩
end
variable{C:z3}{N:zN}
section
variable{E:z8}{X:Type}{cs:X->List za}{v:X->za}{h0 h:zb}{x f:za}{R:List (List za)}{Q:zQ}
end
variable{C:z3}{N:zN}
section
variable{E:z8}{T:Type}{cs:T->List za}{v:T->za}{c:T->T->Int}{h0 h:zb}{x f:za}{R:List (List za)}{Q:zQ}
end
variable{C:z3}{N:zN}
section
variable{E:z8}{T:Type}{cs:T->List za}{v:T->za}{c:T->T->Int}{h0 h:zb}{x f:za}{R:List (List za)}{Q:zQ}
end
variable{C:z3}{N:zN}
section
variable{E:z8}{T:Type}{cs:T->List za}{v:T->za}{c:T->T->Int}{h0 h:zb}{x f:za}{R:List (List za)}{Q:zQ}
end
variable{C:z3}{N:zN}
section
variable{E:z8}{T:Type}{cs:T->List za}{v:T->za}{c:T->T->Int}{h0 h:zb}{x f:za}{R:List (List za)}{Q:zQ}
end
variable{C:z3}{N:zN}
section
variable{E:z8}{T:Type}{cs:T->List za}{v:T->za}{c:T->T->Int}{h0 h:zb}{x f:za}{R:List (List za)}{Q:zQ}
end
variable{C:z3}{N:zN}
section
variable{E:z8}{T:Type}{cs:T->List za}{v:T->za}{c:T->T->Int}{h0 h:zb}{x f:za}{R:List (List za)}{Q:zQ}
end
section
variable{T:Type}{c:T->T->Int}
end
variable{C:z3}{N:zN}
section
variable{E:z8}{T:Type}{cs:T->List za}{v:T->za}
end
variable{C:z3}
structure zc4{X:Type}(a b:Nat)(G G':List X):Prop where
 perm:G'.Perm G
 out:∀i,i<a \/ b <= i->G'[i]?=G[i]?
theorem zc4.refl{X:Type}(a b:Nat)(G:List X):zc4 a b G G:=⟨.refl _,λ_ _=>rfl⟩
theorem zc4.trans{X:Type}{a b:Nat}{G G' G'':List X}(x:zc4 a b G G')(y:zc4 a b G' G''):zc4 a b G G'':=⟨y.perm.trans x.perm,λi hi=>(y.out i hi).trans (x.out i hi)⟩
theorem zc4.mono{X:Type}{a b a' b':Nat}{G G':List X}(x:zc4 a b G G')(ha:a' <= a)(hb:b <= b'):zc4 a' b' G G':=⟨x.perm,λi hi=>x.out i (by omega)⟩
theorem zc4.len{X:Type}{a b:Nat}{G G':List X}(x:zc4 a b G G'):G'.length=G.length:=x.perm.length_eq
theorem zc4.same{X:Type}{a b:Nat}{G G':List X}(w:zc4 a b G G'){k:Nat}(hk:k<a \/ b <= k)(h1:k<G'.length)(h2:k<G.length):G'[k]=G[k]:=by
 have:=w.out k hk;rw[getElem?_eq_getElem h1,getElem?_eq_getElem h2]at this;exact Option.some.inj this
def swp{X:Type}(G:List X)(i j:Nat)(hi:i<G.length)(hj:j<G.length):List X:=(G.set i G[j]).set j G[i]
theorem swp_perm{X:Type}{G:List X}{i j:Nat}(hi:i<G.length)(hj:j<G.length):(swp G i j hi hj).Perm G:=by
 unfold swp;exact set_set_perm hi hj
theorem swp_get{X:Type}{G:List X}{i j:Nat}(hi:i<G.length)(hj:j<G.length)(k:Nat):(swp G i j hi hj)[k]?=if k=j then some G[i] else if k=i then some G[j] else G[k]? :=by
 unfold swp;rw[getElem?_set];by_cases e:j=k
 ·subst e;simp[hj]
 ·rw[if_neg e,if_neg (Ne.symm e),getElem?_set]
  by_cases e2:i=k
  ·subst e2;simp[hi]
  ·rw[if_neg e2,if_neg (Ne.symm e2)]
theorem zeg{X:Type}{G:List X}{i j a b:Nat}(hi:i<G.length)(hj:j<G.length)(h1:a <= i)(h2:i<b)(h3:a <= j)(h4:j<b):zc4 a b G (swp G i j hi hj):=⟨swp_perm hi hj,λk hk=>by
 rw[swp_get,if_neg (by omega),if_neg (by omega)]⟩
section
variable{E:z8}{X:Type}{cs:X->List za}{v:X->za}{h0 h:zb}{x f:za}{G:List X}{R:List (List za)}{c:X->X->Int}
theorem Rw.swap(ho:Rw E cs h0 h x G R)(S:zdp E cs v){i j:Nat}(hi:i<G.length)(hj:j<G.length){K:zb->Prop}(hk:∀h',Rw E cs h0 h' x (swp G i j hi hj) R->K h'):
  E.st h (elp E.es x i 0) (v G[j]) λh=>E.st h (elp E.es x j 0) (v G[i]) K:=by
 refine ho.st S (t:=G[j]) hi λh1 o1=>?_;exact o1.st S (t:=G[i]) (by simpa using hj) λh2 o2=>hk h2 o2
theorem quo4{a:Nat}(h:a<4611686018427387904):V.bin .quo (.int .i64 (a:Int)) (.int .i64 4)=some (.int .i64 ((a / 4:Nat):Int)):=by
 rw[V.bin_quo _ _ _ (by omega),show (a:Int).tdiv 4=((a / 4:Nat):Int) from rfl,wrap_i64 (by omega) (by omega)]
theorem mulN{a b:Nat}(h:a*b<4611686018427387904):V.bin .mul (.int .i64 (a:Int)) (.int .i64 (b:Int))=some (.int .i64 ((a*b:Nat):Int)):=by
 rw[V.bin_mul,show (a:Int)*(b:Int)=((a*b:Nat):Int) by simp,wrap_i64 (by omega) (by omega)]
theorem zny{a b:Nat}(h:a+b<4611686018427387904):V.bin .add (.int .i64 (a:Int)) (.int .i64 (b:Int))=some (.int .i64 ((a+b:Nat):Int)):=by
 rw[V.zjk,show (a:Int)+(b:Int)=((a+b:Nat):Int) by simp,wrap_i64 (by omega) (by omega)]
theorem zis{a b:Nat}(h:b <= a)(h2:a<4611686018427387904):V.bin .sub (.int .i64 (a:Int)) (.int .i64 (b:Int))=some (.int .i64 ((a-b:Nat):Int)):=by
 rw[V.zh4,show (a:Int)-(b:Int)=((a-b:Nat):Int) by omega,wrap_i64 (by omega) (by omega)]
theorem geqN{a b:Nat}:V.bin .geq (.int .i64 (a:Int)) (.int .i64 (b:Int))=some (.bool (decide (b <= a))):=by rw[V.zm4];congr 3;exact propext (by omega)
end
variable{C:z3}
structure zpz{X:Type}(c:X->X->Int)(a b:Nat)(G:List X)(i j:Nat):Prop where
 hb:b <= G.length
 hi:a<i
 hj:j<b
 hij:i <= j+1
 lo:∀k (h:k<G.length) (ha:a<G.length),a<k->k<i->c G[k] G[a]<0
 hi2:∀k (h:k<G.length) (ha:a<G.length),j<k->k<b->¬ c G[k] G[a]<0
structure zii{X:Type}(c:X->X->Int)(a b m:Nat)(G:List X):Prop where
 ge:a <= m
 lt:m<b
 hb:b <= G.length
 lo:∀k (h:k<G.length) (hm:m<G.length),a <= k->k<m->c G[k] G[m]<0
 hi:∀k (h:k<G.length) (hm:m<G.length),m<k->k<b->¬ c G[k] G[m]<0
section
variable{E:z8}{X:Type}{cs:X->List za}{v:X->za}{h0 h:zb}{x f:za}{G:List X}{R:List (List za)}{c:X->X->Int}{Q:zQ}{Y1:zL}{a b i j:Nat}
theorem zfp{X:Type}{G:List X}{i j:Nat}(hi:i<G.length)(hj:j<G.length){k:Nat}(hk:k<(swp G i j hi hj).length)(hk':k<G.length):(swp G i j hi hj)[k]=if k=j then G[i] else if k=i then G[j] else G[k]:=by
 have:=swp_get hi hj k;rw[getElem?_eq_getElem hk]at this;split at this
 ·rename_i e;rw[if_pos e];exact Option.some.inj this
 ·rename_i e;rw[if_neg e]
  split at this
  ·rename_i e2;rw[if_pos e2];exact Option.some.inj this
  ·rename_i e2;rw[if_neg e2,getElem?_eq_getElem hk']at *;exact Option.some.inj this
theorem zik{X:Type}{G:List X}{i j:Nat}(hi:i<G.length)(hj:j<G.length):(swp G i j hi hj).length=G.length:=by simp[swp]
theorem zpz.done(p:zpz c a b G i j)(hab:a<b)(hc:j<i)(hj:j<G.length)(ha:a<G.length):zii c a b j (swp G j a hj ha):=by
 have h1:=p.hi;have h2:=p.hij;have h3:=p.hj;have h4:=p.hb;have hl:=zik hj ha;have pj:∀(hm:j<(swp G j a hj ha).length),(swp G j a hj ha)[j]=G[a]:=λhm=>by
  rw[zfp hj ha hm hj];by_cases e:j=a
  ·subst e;simp
  ·rw[if_neg e,if_pos rfl]
 refine⟨by omega,h3,by omega,λk hk hm k1 k2=>?_,λk hk hm k1 k2=>?_⟩
 ·rw[pj,zfp hj ha hk (by omega)]
  by_cases e:k=a
  ·rw[if_pos e];exact p.lo j hj ha (by omega) (by omega)
  ·rw[if_neg e,if_neg (by omega)];exact p.lo k (by omega) ha (by omega) (by omega)
 ·rw[pj,zfp hj ha hk (by omega),if_neg (by omega),if_neg (by omega)]
  exact p.hi2 k (by omega) ha k1 k2
theorem zpz.swap(p:zpz c a b G i j)(hc:i <= j)(hi:i<G.length)(hj:j<G.length)(ha:a<G.length)(h1:¬ c G[i] G[a]<0)(h2:c G[j] G[a]<0):zpz c a b (swp G i j hi hj) (i+1) (j-1):=by
 have k1:=p.hi;have k2:=p.hij;have k3:=p.hj;have k4:=p.hb;have hne:i≠j:=λe=>by subst e;exact h1 h2
 have hl:=zik hi hj;have pa:∀(hm:a<(swp G i j hi hj).length),(swp G i j hi hj)[a]=G[a]:=λhm=>by rw[zfp hi hj hm ha,if_neg (by omega),if_neg (by omega)]
 refine⟨by omega,by omega,by omega,by omega,λk hk hm q1 q2=>?_,λk hk hm q1 q2=>?_⟩
 ·rw[pa,zfp hi hj hk (by omega),if_neg (by omega)]
  by_cases e:k=i
  ·rw[if_pos e];exact h2
  ·rw[if_neg e];exact p.lo k (by omega) ha q1 (by omega)
 ·rw[pa,zfp hi hj hk (by omega)]
  by_cases e:k=j
  ·rw[if_pos e];exact h1
  ·rw[if_neg e,if_neg (by omega)];exact p.hi2 k (by omega) ha (by omega) q2
end
variable{C:z3}
section
variable{E:z8}{X:Type}{cs:X->List za}{v:X->za}{h0 h:zb}{x f:za}{G:List X}{R:List (List za)}{c:X->X->Int}{Q:zQ}{a b i j:Nat}
abbrev PartQ(E:z8){X:Type}(cs:X->List za)(h0:zb)(x:za)(c:X->X->Int)(a b:Nat)(R:List (List za))(G:List X)(Q:zQ):Prop:=∀h' m G' t,zii c a b m G'->zc4 a b G G'->Rw E cs h0 h' x G' R->Q (.tup [.int .i64 (m:Int),.bool t]) h'
end
variable{C:z3}
structure EInv{X:Type}(c:X->X->Int)(a b:Nat)(G:List X)(i j:Nat):Prop where
 hb:b <= G.length
 hi:a<i
 hj:j<b
 hij:i <= j+1
 lo:∀k (h:k<G.length) (ha:a<G.length),a<k->k<i->¬ c G[a] G[k]<0
 hi2:∀k (h:k<G.length) (ha:a<G.length),j<k->k<b->c G[a] G[k]<0
theorem EInv.swap{X:Type}{c:X->X->Int}{a b i j:Nat}{G:List X}(p:EInv c a b G i j)(hc:i <= j)(hi:i<G.length)(hj:j<G.length)(ha:a<G.length)(h1:c G[a] G[i]<0)(h2:¬ c G[a] G[j]<0):EInv c a b (swp G i j hi hj) (i+1) (j-1):=by
 have k1:=p.hi;have k2:=p.hij;have k3:=p.hj;have k4:=p.hb;have hne:i≠j:=λe=>by subst e;exact h2 h1
 have hl:=zik hi hj;have pa:∀(hm:a<(swp G i j hi hj).length),(swp G i j hi hj)[a]=G[a]:=λhm=>by rw[zfp hi hj hm ha,if_neg (by omega),if_neg (by omega)]
 refine⟨by omega,by omega,by omega,by omega,λk hk hm q1 q2=>?_,λk hk hm q1 q2=>?_⟩
 ·rw[pa,zfp hi hj hk (by omega),if_neg (by omega)]
  by_cases e:k=i
  ·rw[if_pos e];exact h2
  ·rw[if_neg e];exact p.lo k (by omega) ha q1 (by omega)
 ·rw[pa,zfp hi hj hk (by omega)]
  by_cases e:k=j
  ·rw[if_pos e];exact h1
  ·rw[if_neg e,if_neg (by omega)];exact p.hi2 k (by omega) ha (by omega) q2
section
variable{E:z8}{X:Type}{cs:X->List za}{v:X->za}{h0 h:zb}{x f:za}{G:List X}{R:List (List za)}{c:X->X->Int}{Q:zQ}{Y1:zL}{a b i j:Nat}
end
structure SInv{X:Type}(c:X->X->Int)(a n lo r:Nat)(G:List X):Prop where
 len:a+n <= G.length
 heap:∀k,0<k->(hk:k<n)->lo <= (k-1) / 2->(k-1) / 2≠r->(h1:a+(k-1) / 2<G.length)->(h2:a+k<G.length)->¬ c G[a+(k-1) / 2] G[a+k]<0
 grand:lo <= (r-1) / 2->0<r->∀k,0<k->(hk:k<n)->(k-1) / 2=r->(h1:a+(r-1) / 2<G.length)->(h2:a+k<G.length)->¬ c G[a+(r-1) / 2] G[a+k]<0
def Heap{X:Type}(c:X->X->Int)(a n lo:Nat)(G:List X):Prop:=∀k,0<k->(hk:k<n)->lo <= (k-1) / 2->(h1:a+(k-1) / 2<G.length)->(h2:a+k<G.length)->¬ c G[a+(k-1) / 2] G[a+k]<0
section
variable{X:Type}{c:X->X->Int}{a n lo r ch:Nat}{G:List X}
theorem SInv.done(p:SInv c a n lo r G)(hr:∀k,0<k->k<n->(k-1) / 2=r->(h1:a+r<G.length)->(h2:a+k<G.length)->¬ c G[a+r] G[a+k]<0):Heap c a n lo G:=λk h0 hk hl h1 h2=>by
 by_cases e:(k-1) / 2=r
 ·have:=hr k h0 hk e (by rw[<-e];exact h1) h2
  simp only[e];exact this
 ·exact p.heap k h0 hk hl e h1 h2
theorem SInv.step(W:zly (zea c))(p:SInv c a n lo r G)(hlo:lo <= r)(hch:ch<n)(hp:(ch-1) / 2=r)(h0:0<ch)(hr:a+r<G.length)(hc:a+ch<G.length)(hlt:c G[a+r] G[a+ch]<0)
  (hmax:∀k,0<k->k<n->(k-1) / 2=r->(h2:a+k<G.length)->¬ c G[a+ch] G[a+k]<0):SInv c a n lo ch (swp G (a+r) (a+ch) hr hc):=by
 have hl:=zik hr hc;have hrc:r<ch:=by omega
 have asym:¬ c G[a+ch] G[a+r]<0:=by
  have:=W.asym (a:=G[a+r]) (b:=G[a+ch]) (by unfold zea;exact decide_eq_true hlt);unfold zea at this;exact of_decide_eq_false this
 refine⟨by rw[hl];exact p.len,λk k0 hk hlk hne h1 h2=>?_,λ_ _ k k0 hk hkp h1 h2=>?_⟩
 ·have g1:a+(k-1) / 2<G.length:=by omega
  have g2:a+k<G.length:=by omega
  rw[zfp hr hc h1 g1,zfp hr hc h2 g2,if_neg (by omega:¬ a+(k-1) / 2=a+ch)];by_cases e1:(k-1) / 2=r
  ·rw[if_pos (by omega)]
   by_cases e2:k=ch
   ·rw[if_pos (by omega)];exact asym
   ·rw[if_neg (by omega),if_neg (by omega)];exact hmax k k0 hk e1 g2
  ·rw[if_neg (by omega)]
   by_cases e2:k=r
   ·rw[if_neg (by omega),if_pos (by omega)]
    subst e2;exact p.grand hlk k0 ch h0 hch hp g1 hc
   ·rw[if_neg (by omega),if_neg (by omega)];exact p.heap k k0 hk hlk e1 g1 g2
 ·have g1:a+(ch-1) / 2<G.length:=by omega
  have g2:a+k<G.length:=by omega
  rw[zfp hr hc h1 g1,zfp hr hc h2 g2,if_neg (by omega),if_pos (by omega),if_neg (by omega),if_neg (by omega)];have:=p.heap k k0 hk (by omega) (by omega) (by omega) g2;simp only[hkp]at this;exact this
end
variable{C:z3}
section
variable{E:z8}{X:Type}{cs:X->List za}{v:X->za}{h0 h:zb}{x f:za}{G:List X}{R:List (List za)}{c:X->X->Int}{Q:zQ}{Y1:zL}{a n lo r ch:Nat}
end
section
variable{X:Type}{c:X->X->Int}{a b n lo:Nat}{G G':List X}
theorem Heap.sinv{X:Type}{c:X->X->Int}{a n lo:Nat}{G:List X}(p:Heap c a n (lo+1) G)(hl:a+n <= G.length):SInv c a n lo lo G:=⟨hl,λk k0 hk h1 hne h2 h3=>p k k0 hk (by omega) h2 h3,λh1 h0=>by omega⟩
theorem Heap.none_{X:Type}{c:X->X->Int}{a n lo:Nat}{G:List X}(h:n <= 2*lo+1):Heap c a n lo G:=λk k0 hk h1 _ _=>by omega
theorem Heap.root(W:zly (zea c))(p:Heap c a n 0 G)(hl:a+n <= G.length):∀(k:Nat)(hk:k<n),¬ c (G[a]'(by omega)) (G[a+k]'(by omega))<0:=by
 intro k
 induction k using Nat.strongRecOn with
 | ind k ih=>
  intro hk;by_cases e:k=0
  ·subst e
   have:=W.irr (G[a]'(by omega));unfold zea at this;simpa using this
  ·have h1:=ih ((k-1) / 2) (by omega) (by omega)
   have h2:=p k (by omega) hk (by omega) (by omega) (by omega);have:=W.zne (a:=G[a]'(by omega)) (b:=G[a+(k-1) / 2]'(by omega)) (c:=G[a+k]'(by omega)) (by unfold zea;exact decide_eq_false h1) (by unfold zea;exact decide_eq_false h2);unfold zea at this;exact of_decide_eq_false this
theorem zc4.take(w:zc4 a b G G'):G'.take a=G.take a:=ext_getElem? λi=>by
 rw[getElem?_take,getElem?_take]
 split
 ·rename_i h;exact w.out i (.inl h)
 ·rfl
theorem zc4.drop(w:zc4 a b G G'):G'.drop b=G.drop b:=ext_getElem? λi=>by
 rw[getElem?_drop,getElem?_drop];exact w.out (b+i) (.inr (by omega))
theorem split3(hab:a <= b)(G:List X):G=G.take a++((G.take b).drop a++G.drop b):=by
 have h1:G.take a=(G.take b).take a:=by rw[take_take,Nat.min_eq_left hab]
 rw[h1,<-append_assoc,take_append_drop,take_append_drop]
theorem zc4.mid(w:zc4 a b G G')(hab:a <= b):((G'.take b).drop a).Perm ((G.take b).drop a):=by
 have h:=w.perm;rw[split3 hab G,split3 hab G',w.take,w.drop]at h;exact(perm_append_right_iff _).1 ((perm_append_left_iff _).1 h)
theorem zc4.mem(w:zc4 a b G G'){k:Nat}(h1:a <= k)(h2:k<b)(hk:k<G'.length):∃k',a <= k' /\ k'<b /\ ∃h':k'<G.length,G'[k]=G[k']:=by
 have hm:G'[k]∈(G'.take b).drop a:=by
  rw[mem_iff_getElem?];refine⟨k-a,?_⟩;rw[getElem?_drop,getElem?_take,if_pos (by omega),Nat.add_sub_cancel' h1,getElem?_eq_getElem hk]
 have:=(w.mid (by omega)).mem_iff.1 hm;rw[mem_iff_getElem?]at this;obtain⟨i,hi⟩:=this;rw[getElem?_drop,getElem?_take]at hi;split at hi
 ·rename_i hlt
  obtain⟨hb,e⟩:=List.getElem?_eq_some_iff.1 hi;exact⟨a+i,by omega,hlt,hb,e.symm⟩
 ·cases hi
def Cut{X:Type}(c:X->X->Int)(A B a b:Nat)(G:List X):Prop:=∀p q,A <= p->p<q->q<B->p<a \/ b <= q->∀(h1:p<G.length)(h2:q<G.length),¬ c G[q] G[p]<0
def Srt{X:Type}(c:X->X->Int)(A B:Nat)(G:List X):Prop:=∀p q,A <= p->p<q->q<B->∀(h1:p<G.length)(h2:q<G.length),¬ c G[q] G[p]<0
theorem Cut.within{A B:Nat}(x:Cut c A B a b G)(w:zc4 a b G G')(ha:A <= a)(hb:b <= B):Cut c A B a b G':=λp q hp hpq hq h h1 h2=>by
 have hl:=w.len
 rcases h with h|h
 ·rw[w.same (.inl h) h1 (by omega)]
  by_cases hq2:a <= q /\ q<b
  ·obtain⟨q',h3,h4,h5,e⟩:=w.mem hq2.1 hq2.2 h2
   rw[e];exact x p q' hp (by omega) (by omega) (.inl h) (by omega) h5
  ·rw[w.same (by omega) h2 (by omega)];exact x p q hp hpq hq (.inl h) _ _
 ·rw[w.same (k:=q) (.inr h) h2 (by omega)]
  by_cases hp2:a <= p /\ p<b
  ·obtain⟨p',h3,h4,h5,e⟩:=w.mem hp2.1 hp2.2 h1
   rw[e];exact x p' q (by omega) (by omega) hq (.inr h) h5 (by omega)
  ·rw[w.same (k:=p) (by omega) h1 (by omega)];exact x p q hp hpq hq (.inr h) _ _
theorem Cut.join{A B:Nat}(x:Cut c A B a b G)(s:Srt c a b G):Srt c A B G:=λp q hp hpq hq h1 h2=>by
 by_cases h:p<a \/ b <= q
 ·exact x p q hp hpq hq h h1 h2
 ·exact s p q (by omega) hpq (by omega) h1 h2
theorem Cut.small{A B:Nat}(x:Cut c A B a b G)(s:b <= a+1):Srt c A B G:=x.join λp q _ _ _ _ _=>by omega
theorem within_mid{M:List X}(hab:a <= b)(hb:b <= G.length)(hp:M.Perm ((G.take b).drop a)):zc4 a b G (G.take a++(M++G.drop b)):=by
 have hl:=hp.length_eq;simp only[length_drop,length_take]at hl;refine⟨?_,λi hi=>?_⟩
 ·have:=(hp.append_right (G.drop b)).append_left (G.take a)
  rw[<-split3 hab G]at this;exact this
 ·rcases hi with hi|hi
  ·rw[getElem?_append_left (by rw[length_take];omega),getElem?_take,if_pos hi]
  ·rw[getElem?_append_right (by rw[length_take];omega),getElem?_append_right (by rw[length_take];omega),getElem?_drop,length_take]
   congr 1;omega
theorem srt_mid{M:List X}(hab:a <= b)(hb:b <= G.length)(hl:M.length=b-a)(hp:M.Pairwise λx y=>¬ c y x<0):Srt c a b (G.take a++(M++G.drop b)):=λp q hp1 hpq hq h1 h2=>by
 have e:∀k (h1:a <= k) (h2:k<b) (hk:k<(G.take a++(M++G.drop b)).length),(G.take a++(M++G.drop b))[k]=M[k-a]'(by omega):=λk h1 h2 hk=>by
  rw[getElem_append_right (by rw[length_take];omega),getElem_append_left (by rw[length_take];omega)]
  congr 1;rw[length_take];omega
 rw[e p hp1 (by omega),e q (by omega) hq]
 exact pairwise_iff_getElem.1 hp _ _ _ _ (by omega)
end
variable{C:z3}
section
variable{E:z8}{X:Type}{cs:X->List za}{v:X->za}{h0 h:zb}{x f:za}{G:List X}{R:List (List za)}{c:X->X->Int}{Q:zQ}{a b:Nat}
end
variable{C:z3}
def Pre{X:Type}(c:X->X->Int)(a b:Nat)(G:List X):Prop:=0<a->∀i,a <= i->i<b->∀(h1:i<G.length)(h2:a-1<G.length),¬ c G[i] G[a-1]<0
theorem Pre.within{X:Type}{c:X->X->Int}{a b:Nat}{G G':List X}(p:Pre c a b G)(w:zc4 a b G G'):Pre c a b G':=λh0 i h1 h2 h3 h4=>by
 have hl:=w.len
 obtain⟨k,k1,k2,k3,e⟩:=w.mem h1 h2 h3
 rw[e,w.same (k:=a-1) (.inl (by omega)) h4 (by omega)]
 exact p h0 k k1 k2 _ _
def But1{X:Type}(c:X->X->Int)(A B j:Nat)(G:List X):Prop:=∀p q,A <= p->p<q->q<B->q≠j->∀(h1:p<G.length)(h2:q<G.length),¬ c G[q] G[p]<0
section
variable{X:Type}{c:X->X->Int}{A B j:Nat}{G:List X}
theorem But1.done(W:zly (zea c))(x:But1 c A B j G)(hj:j<G.length)(h:j <= A \/ ∀(h1:j-1<G.length),¬ c G[j] G[j-1]<0):Srt c A B G:=λp q h1 h2 h3 h4 h5=>by
 by_cases e:q=j
 ·subst e
  have h:=h.resolve_left (by omega)
  by_cases e2:p=q-1
  ·subst e2;exact h _
  ·have k1:=x p (q-1) h1 (by omega) (by omega) (by omega) h4 (by omega)
   have:=W.zne (a:=G[q]) (b:=G[q-1]'(by omega)) (c:=G[p]) (by unfold zea;exact decide_eq_false (h _)) (by unfold zea;exact decide_eq_false k1)
   unfold zea at this;exact of_decide_eq_false this
 ·exact x p q h1 h2 h3 e h4 h5
theorem But1.step(W:zly (zea c))(x:But1 c A B j G)(hA:A<j)(hj:j<G.length)(hj1:j-1<G.length)(hlt:c G[j] G[j-1]<0):But1 c A B (j-1) (swp G j (j-1) hj hj1):=λp q h1 h2 h3 h4 h5 h6=>by
 have hl:=zik hj hj1
 rw[zfp hj hj1 h6 (by omega),if_neg h4,zfp hj hj1 h5 (by omega)]
 by_cases e:q=j
 ·rw[if_pos e]
  split
  ·have:=W.asym (a:=G[j]) (b:=G[j-1]) (by unfold zea;exact decide_eq_true hlt)
   unfold zea at this;exact of_decide_eq_false this
  ·rw[if_neg (by omega)];exact x p (j-1) h1 (by omega) (by omega) (by omega) (by omega) hj1
 ·rw[if_neg e]
  split
  ·exact x j q (by omega) (by omega) h3 e hj (by omega)
  ·split
   ·exact x (j-1) q (by omega) (by omega) h3 e hj1 (by omega)
   ·exact x p q h1 h2 h3 e (by omega) (by omega)
end
section
variable{E:z8}{X:Type}{cs:X->List za}{v:X->za}{h0 h:zb}{x f:za}{G:List X}{R:List (List za)}{c:X->X->Int}{Q:zQ}{Y1:zL}{a b i s:Nat}
end
variable{C:z3}{N:zN}
def be(n:Int):Nat->List UInt8|0=>[]|k+1=>byt (n.fdiv (2 ^ (8*k)))::be n k
@[simp] theorem be_len(n:Int):∀k,(be n k).length=k
 | 0=>rfl
 | k+1=>by simp[be,be_len n k]
variable{C:z3}{N:zN}
theorem bin_shl{k j:IntKind}{a b:Int}(h0:0 <= b)(h1:b<k.bits):V.bin .shl (.int k a) (.int j b)=some (.int k (k.wrap (a*2 ^ b.toNat))):=by
 simp only[V.bin,V.shift];rw[if_neg (by omega),Nat.min_eq_left (by omega)]
variable{C:z3}{N:zN}
theorem V.bin_xor(k:IntKind)(a b:Int):V.bin .xor (.int k a) (.int k b)=some (.int k (k.wrap (BitVec.ofInt k.bits a ^^^ BitVec.ofInt k.bits b).toNat)):=by simp[V.bin,V.arith]
theorem V.bin_and(k:IntKind)(a b:Int):V.bin .and (.int k a) (.int k b)=some (.int k (k.wrap (BitVec.ofInt k.bits a &&& BitVec.ofInt k.bits b).toNat)):=by simp[V.bin,V.arith]
theorem wrapU{n:Nat}(h:n<18446744073709551616):IntKind.u64.wrap (n:Int)=n:=by rw[wrap_u64];omega
theorem toUN{n:Nat}(h:n<18446744073709551616):V.toInt .u64 (.int .i64 (n:Int))=some (.int .u64 (n:Int)):=by rw[V.toInt_int,wrapU h]
theorem toIN{k:IntKind}{n:Nat}(h:n<4611686018427387904):V.toInt .i64 (.int k (n:Int))=some (.int .i64 (n:Int)):=by rw[V.toInt_int,wrap_i64 (by omega) (by omega)]
theorem and_le{z:Int}{m:Nat}(h:m<4611686018427387904):∃o:Nat,o <= m /\ V.bin .and (.int .u64 z) (.int .u64 (m:Int))=some (.int .u64 (o:Int)):=by
 refine⟨(BitVec.ofInt 64 z &&& BitVec.ofInt 64 (m:Int)).toNat,?_,?_⟩
 ·rw[BitVec.toNat_and]
  refine Nat.le_trans Nat.and_le_right ?_;rw[BitVec.toNat_ofInt];omega
 ·rw[V.bin_and]
  show some (za.int .u64 (IntKind.u64.wrap ((BitVec.ofInt 64 z &&& BitVec.ofInt 64 (m:Int)).toNat:Int)))=_;rw[wrapU (BitVec.isLt _)]
def lenT:List UInt8:=[0,1,2,2,3,3,3,3,4,4,4,4,4,4,4,4,5,5,5,5,5,5,5,5,5,5,5,5,5,5,5,5,6,6,6,6,6,6,6,6,6,6,6,6,6,6,6,6,6,6,6,6,6,6,6,6,6,6,6,6,6,6,6,6,7,7,7,7,7,7,7,7,7,7,7,7,7,7,7,7,7,7,7,7,7,7,7,7,7,7,7,7,7,7,7,7,7,7,7,7,7,7,7,7,7,7,7,7,7,7,7,7,7,7,7,7,7,7,7,7,7,7,7,7,7,7,7,7,8,8,8,8,8,8,8,8,8,8,8,8,8,8,8,8,8,8,8,8,8,8,8,8,8,8,8,8,8,8,8,8,8,8,8,8,8,8,8,8,8,8,8,8,8,8,8,8,8,8,8,8,8,8,8,8,8,8,8,8,8,8,8,8,8,8,8,8,8,8,8,8,8,8,8,8,8,8,8,8,8,8,8,8,8,8,8,8,8,8,8,8,8,8,8,8,8,8,8,8,8,8,8,8,8,8,8,8,8,8,8,8,8,8,8,8,8,8,8,8,8,8,8,8,8,8,8,8]
theorem idxStr_u8{s:List UInt8}{k:Nat}{b:UInt8}(hb:s[k]?=some b):V.zmj (.str s) (.int .u8 (k:Int))=some (.int .u8 b.toNat):=by
 simp[V.zmj,hb]
theorem lenT_all:∀k:Fin 256,∃b:Fin 9,lenT[k.val]?=some (UInt8.ofNat b.val) /\ (0<k.val->2 ^ b.val <= 2*k.val):=by decide +kernel
theorem lenTab{k:Nat}(h:k<256):∃b:Nat,V.zmj (.str lenT) (.int .u8 (k:Int))=some (.int .u8 (b:Int)) /\ b <= 8 /\ (0<k->2 ^ b <= 2*k):=by
 obtain⟨b,e,hb⟩:=lenT_all ⟨k,h⟩;have hb9:=b.isLt;refine⟨b.val,?_,by omega,hb⟩;rw[idxStr_u8 e];congr 2;rw[UInt8.toNat_ofNat',Nat.mod_eq_of_lt (by omega)]
theorem Len64_k1{Q:zQ}{v0 v2:za}{h:zb}:zbc.k1 C N Q v0 v2 h=(B.pv (V.toInt .u8 v0) λv21=>B.pv (V.zmj (.str lenT) v21) λv22=>B.pv (V.toInt .i64 v22) λv23=>B.pv (V.bin .add v2 v23) λv24=>Q v24 h):=rfl
theorem Len64_spec{x:Nat}(hx:x <= 100000000){h:zb}{Q:zQ}(hq:∀r:Nat,r <= 32->(0<x->2 ^ r <= 2*x)->Q (.int .i64 (r:Int)) h):zbc.cps C N (.int .u64 (x:Int)) h Q:=by
 have fin:∀(y s:Nat),y<256->s <= 24->(0<x->0<y)->2 ^ s*y <= x->zbc.k1 C N Q (.int .u64 (y:Int)) (.int .i64 (s:Int)) h:=λy s hy hs h0 hle=>by
  obtain⟨b,e,hb,hp⟩:=lenTab hy;have e1:V.toInt .u8 (.int .u64 (y:Int))=some (.int .u8 (y:Int)):=by rw[V.toInt_int,wrap_u8];congr 2;omega
  rw[Len64_k1];simp -dsimp only[e1,B.zh,e,toIN (show b<4611686018427387904 by omega),zny (show s+b<4611686018427387904 by omega)];refine hq (s+b) (by omega) λhx0=>?_;have h1:=hp (h0 hx0);have h2:2 ^ s*2 ^ b <= 2 ^ s*(2*y):=Nat.mul_le_mul_left _ h1;rw[Nat.pow_add];have h3:2 ^ s*(2*y)=2*(2 ^ s*y):=by rw[Nat.mul_left_comm]
  omega
 have sh:∀(y j:Nat),j<64->V.bin .shr (.int .u64 (y:Int)) (.int .u64 (j:Int))=some (.int .u64 ((y / 2 ^ j:Nat):Int)):=λy j hj=>by
  rw[bin_shr (by omega) (by simp[IntKind.bits];omega),Int.toNat_natCast];congr 2;rw[Int.fdiv_eq_ediv_of_nonneg _ (by exact_mod_cast Nat.zero_le (2 ^ j))];simp
 have g3:V.bin .geq (.int .u64 (x:Int)) (.int .u64 4294967296)=some (.bool false):=by rw[V.zm4];simp;omega
 have gk:∀y m:Nat,V.bin .geq (.int .u64 (y:Int)) (.int .u64 (m:Int))=some (.bool (decide (m <= y))):=λy m=>by rw[V.zm4];congr 3;exact propext (by omega)
 have low:∀(y s:Nat),y<65536->s <= 16->(0<x->0<y)->2 ^ s*y <= x->zbc.k2 C N Q (.int .u64 (y:Int)) (.int .i64 (s:Int)) h:=λy s hy hs h0 hle=>by
  have g1:V.bin .geq (.int .u64 (y:Int)) (.int .u64 256)=some (.bool (decide (256 <= y))):=gk y 256;have s1:V.bin .shr (.int .u64 (y:Int)) (.int .u64 8)=some (.int .u64 ((y / 2 ^ 8:Nat):Int)):=sh y 8 (by omega);have a1:V.bin .add (.int .i64 (s:Int)) (.int .i64 8)=some (.int .i64 ((s+8:Nat):Int)):=zny (a:=s) (b:=8) (by omega);simp -dsimp only[zbc.k2,g1,B.zh];refine B.zbx (λhd=>?_) (λhd=>?_)
  ·rw[decide_eq_true_eq]at hd
   simp -dsimp only[s1,a1,B.zh];refine fin (y / 2 ^ 8) (s+8) (by omega) (by omega) (λ_=>by omega) ?_;rw[Nat.pow_add,Nat.mul_assoc];refine Nat.le_trans (Nat.mul_le_mul_left _ ?_) hle;omega
  ·rw[decide_eq_false_iff_not]at hd
   exact fin y s (by omega) (by omega) h0 hle
 have g2:V.bin .geq (.int .u64 (x:Int)) (.int .u64 65536)=some (.bool (decide (65536 <= x))):=gk x 65536;have s2:V.bin .shr (.int .u64 (x:Int)) (.int .u64 16)=some (.int .u64 ((x / 2 ^ 16:Nat):Int)):=sh x 16 (by omega);simp -dsimp only[zbc.cps,zbc.k4,zbc.k3,g3,g2,s2,B.zh,B.cond_false];refine B.zbx (λhd=>?_) (λhd=>?_)
 ·rw[decide_eq_true_eq]at hd
  simp -dsimp only[s2,show V.bin .add (.int .i64 0) (.int .i64 16)=some (.int .i64 ((16:Nat):Int)) from rfl,B.zh];exact low (x / 2 ^ 16) 16 (by omega) (by omega) (λ_=>by omega) (by omega)
 ·rw[decide_eq_false_iff_not]at hd
  exact low x 0 (by omega) (by omega) id (by simp)
theorem Len_spec(i:zbc.Imp C N){x:Nat}(hx:x <= 100000000){h:zb}{Q:zQ}(hq:∀r:Nat,r <= 32->(0<x->2 ^ r <= 2*x)->Q (.int .i64 (r:Int)) h):zdh.cps C N (.int .u64 (x:Int)) h Q:=by
 simp -dsimp only[zdh.cps,zdh.k1,B.cond_false];exact i _ _ _ (Len64_spec hx λr h1 h2=>zcs (hq r h1 h2))
def LenI(C:z3)(f:Nat):Prop:=∀(x:Nat)(h:zb)(Q:zQ),x <= 100000000->(∀r:Nat,r <= 32->(0<x->2 ^ r <= 2*x)->Q (.int .i64 (r:Int)) h)->C f [.int .u64 (x:Int)] h Q
theorem zdh.spec(i:zdh.Imp C N)(i2:zbc.Imp C N):LenI C (N 287):=λx h Q hx hq=>i _ _ _ (Len_spec i2 hx λr h1 h2=>zcs (hq r h1 h2))
def PowI(C:z3)(f:Nat):Prop:=∀(n:Nat)(h:zb)(Q:zQ),0<n->n <= 100000000->(∀m:Nat,0<m->m <= 2*n->Q (.int .u64 (m:Int)) h)->C f [.int .i64 (n:Int)] h Q
theorem zcv.spec(i:zcv.Imp C N)(hl:LenI C (N 287)):PowI C (N 299):=λn h Q h0 hn hq=>by
 apply i;simp -dsimp only[zcv.cps,toUN (show n<18446744073709551616 by omega),B.zh];refine hl n h _ hn λr hr hp=>?_;have e:V.bin .shl (.int .u64 1) (.int .i64 (r:Int))=some (.int .u64 ((2 ^ r:Nat):Int)):=by
  rw[bin_shl (by omega) (by simp[IntKind.bits];omega),Int.toNat_natCast];have:(1:Int)*2 ^ r=((2 ^ r:Nat):Int):=by simp
  rw[this,wrapU];have:=hp h0;omega
 simp -dsimp only[e,B.zh];exact zcs (hq (2 ^ r) (Nat.pos_of_ne_zero (by simp)) (hp h0))
def NextI(C:z3)(f:Nat):Prop:=∀(h0 h:zb)(p:za)(n:Int)(Q:zQ),zc5 h0 h [.box p [.int .u64 n]]->(∀m m' h',zc5 h0 h' [.box p [.int .u64 m']]->Q (.int .u64 m) h')->C f [p] h Q
theorem zcd.spec(i:zcd.Imp C N):NextI C (N 298):=λh0 h p n Q ho hq=>by
 have key:∀{h:zb}{n:Int},zc5 h0 h [.box p [.int .u64 n]]->∃id,p= .ptr id 0 0 /\ A.ldv h (.ptr id 0 0)=some (.int .u64 n):=λ{h n} ho=>by
  obtain⟨id,rfl,hb⟩:=ho.zpy 0 rfl
  exact⟨id,rfl,by rw[ldv_at hb];rfl⟩
 apply i
 obtain⟨id,rfl,ld⟩:=key ho
 simp -dsimp only[zcd.cps,zcd.k1,B.zdi,B.ze7,ld,B.zh,bin_shl (k:= .u64) (j:= .u64) (b:=13) (by omega) (by simp[IntKind.bits]),V.bin_xor]
 refine ho.boxSt 0 (off:=0) rfl rfl (by simp) λh1 o1 _=>?_
 simp only[set_cons_zero]at o1
 obtain⟨id1,e,ld1⟩:=key o1
 cases e
 simp -dsimp only[B.zdi,B.ze7,ld1,B.zh,bin_shr (k:= .u64) (j:= .u64) (b:=7) (by omega) (by simp[IntKind.bits]),V.bin_xor]
 refine o1.boxSt 0 (off:=0) rfl rfl (by simp) λh2 o2 _=>?_
 simp only[set_cons_zero]at o2
 obtain⟨id2,e,ld2⟩:=key o2
 cases e
 simp -dsimp only[B.zdi,B.ze7,ld2,B.zh,bin_shl (k:= .u64) (j:= .u64) (b:=17) (by omega) (by simp[IntKind.bits]),V.bin_xor]
 refine o2.boxSt 0 (off:=0) rfl rfl (by simp) λh3 o3 _=>?_
 simp only[set_cons_zero]at o3
 obtain⟨id3,e,ld3⟩:=key o3
 cases e
 simp -dsimp only[B.zdi,B.ze7,ld3,B.zh]
 exact zcs (hq _ _ _ o3)
section
variable{E:z8}{X:Type}{cs:X->List za}{v:X->za}{h0 h:zb}{x f:za}{G:List X}{R:List (List za)}{Q:zQ}{a b:Nat}
end
variable{C:z3}
section
variable{X:Type}{c:X->X->Int}{a b m A0 Z0:Nat}{G G':List X}
theorem le_of(W:zly (zea c)){x y z:X}(h1:¬ c x y<0)(h2:¬ c y z<0):¬ c x z<0:=by
 have:=W.zne (a:=x) (b:=y) (c:=z) (by unfold zea;exact decide_eq_false h1) (by unfold zea;exact decide_eq_false h2);unfold zea at this;exact of_decide_eq_false this
theorem nlt_of(W:zly (zea c)){x y:X}(h:c x y<0):¬ c y x<0:=by
 have:=W.asym (a:=x) (b:=y) (by unfold zea;exact decide_eq_true h);unfold zea at this;exact of_decide_eq_false this
theorem le_self(W:zly (zea c))(x:X):¬ c x x<0:=by
 have:=W.irr x;unfold zea at this;exact of_decide_eq_false this
theorem zii.pair(W:zly (zea c))(x:zii c a b m G){p q:Nat}(h1:a <= p)(h2:p<q)(h3:q<b)(h4:p <= m)(h5:m <= q)(hp:p<G.length)(hq:q<G.length):¬ c G[q] G[p]<0:=by
 have hm:m<G.length:=by omega
 have e1:p<m->¬ c G[m] G[p]<0:=λk=>nlt_of W (x.lo p hp hm h1 k);have e2:m<q->¬ c G[q] G[m]<0:=λk=>x.hi q hq hm k h3;by_cases k1:p=m
 ·subst k1;exact e2 (by omega)
 ·by_cases k2:q=m
  ·subst k2;exact e1 (by omega)
  ·exact le_of W (e2 (by omega)) (e1 (by omega))
theorem zii.left(W:zly (zea c))(x:zii c a b m G)(w:zc4 a m G G'):zii c a b m G':=by
 have hl:=w.len;refine⟨x.ge,x.lt,by have:=x.hb;omega,λk h hm h1 h2=>?_,λk h hm h1 h2=>?_⟩
 ·obtain⟨k',k1,k2,k3,e⟩:=w.mem h1 h2 h
  rw[e,w.same (k:=m) (.inr (by omega)) hm (by omega)];exact x.lo k' k3 _ k1 k2
 ·rw[w.same (k:=m) (.inr (by omega)) hm (by omega),w.same (k:=k) (.inr (by omega)) h (by omega)]
  exact x.hi k _ _ h1 h2
theorem zii.right(W:zly (zea c))(x:zii c a b m G)(w:zc4 (m+1) b G G'):zii c a b m G':=by
 have hl:=w.len;refine⟨x.ge,x.lt,by have:=x.hb;omega,λk h hm h1 h2=>?_,λk h hm h1 h2=>?_⟩
 ·rw[w.same (k:=m) (.inl (by omega)) hm (by omega),w.same (k:=k) (.inl (by omega)) h (by omega)]
  exact x.lo k _ _ h1 h2
 ·obtain⟨k',k1,k2,k3,e⟩:=w.mem (k:=k) (by omega) h2 h
  rw[e,w.same (k:=m) (.inl (by omega)) hm (by omega)];exact x.hi k' k3 _ (by omega) k2
theorem Cut.left(W:zly (zea c))(x:Cut c A0 Z0 a b G)(p:zii c a b m G)(s:Srt c a m G):Cut c A0 Z0 (m+1) b G:=λi j h1 h2 h3 h4 h5 h6=>by
 by_cases k:i<a \/ b <= j
 ·exact x i j h1 h2 h3 k h5 h6
 ·by_cases k2:j<m
  ·exact s i j (by omega) h2 k2 h5 h6
  ·exact p.pair W (by omega) h2 (by omega) (by omega) (by omega) h5 h6
theorem Cut.right(W:zly (zea c))(x:Cut c A0 Z0 a b G)(p:zii c a b m G)(s:Srt c (m+1) b G):Cut c A0 Z0 a m G:=λi j h1 h2 h3 h4 h5 h6=>by
 by_cases k:i<a \/ b <= j
 ·exact x i j h1 h2 h3 k h5 h6
 ·by_cases k2:m<i
  ·exact s i j (by omega) h2 (by omega) h5 h6
  ·exact p.pair W (by omega) h2 (by omega) (by omega) (by omega) h5 h6
theorem Cut.pre(x:Cut c A0 Z0 a b G)(h:A0<a)(hb:b <= Z0):Pre c a b G:=λh0 i h1 h2 h3 h4=>x (a-1) i (by omega) (by omega) (by omega) (.inl (by omega)) h4 h3
theorem Pre.sub(x:Pre c a b G)(h:m <= b):Pre c a m G:=λh0 i h1 h2 h3 h4=>x h0 i h1 (by omega) h3 h4
theorem Cut.equal(W:zly (zea c)){i j:Nat}(x:Cut c A0 Z0 a b G)(p:EInv c a b G i j)(hji:j<i)(ha:0<a)(hp:Pre c a b G)(hlt:a<b)(hd:∀(h1:a-1<G.length)(h2:a<G.length),¬ c G[a-1] G[a]<0):Cut c A0 Z0 i b G:=λs t h1 h2 h3 h4 h5 h6=>by
 have e:=p.hij;have e3:=p.hi;by_cases k:s<a \/ b <= t
 ·exact x s t h1 h2 h3 k h5 h6
 ·have la:a<G.length:=by omega
  have sp:¬ c G[a] G[s]<0:=by
   by_cases k3:s=a
   ·subst k3;exact le_self W _
   ·exact p.lo s h5 la (by omega) (by omega)
  by_cases k2:t<i
  ·have t1:=hp ha t (by omega) (by omega) h6 (by omega)
   exact le_of W (le_of W t1 (hd (by omega) la)) sp
  ·exact le_of W (nlt_of W (p.hi2 t h6 la (by omega) (by omega))) sp
end
abbrev I5(F:za->za->za->za->za->zb->(zQ)->Prop)(C:z3)(n:Nat):Prop:=∀(v0 v1 v2 v3 v4:za)(h:zb)(Q:zQ),F v0 v1 v2 v3 v4 h (dn Q)->C n [v0,v1,v2,v3,v4] h Q
abbrev I4(F:za->za->za->za->zb->(zQ)->Prop)(C:z3)(n:Nat):Prop:=∀(v0 v1 v2 v3:za)(h:zb)(Q:zQ),F v0 v1 v2 v3 h (dn Q)->C n [v0,v1,v2,v3] h Q
section
variable{E:z8}{X:Type}{cs:X->List za}{v:X->za}{h0 h:zb}{x f:za}{G:List X}{R:List (List za)}{c:X->X->Int}{Q:zQ}{Y:zL}{f1 f2 f3 f4 f5 f6 f7 f8 f9 g1 g2 g3 g4 g5 g6:Nat}
structure PS(E:z8){X:Type}(cs:X->List za)(h0:zb)(x:za)(R:List (List za))(c:X->X->Int)(A0 Z0:Nat)(G0:List X)(a b:Nat)(G:List X)(h:zb):Prop where
 hA:A0 <= a
 hab:a <= b
 hB:b <= Z0
 W:zc4 A0 Z0 G0 G
 cut:Cut c A0 Z0 a b G
 pre:Pre c a b G
 o:Rw E cs h0 h x G R
theorem PS.zg8{A0 Z0 a b:Nat}{G0 G':List X}{h':zb}(p:PS E cs h0 x R c A0 Z0 G0 a b G h)(w:zc4 a b G G')(o:Rw E cs h0 h' x G' R):PS E cs h0 x R c A0 Z0 G0 a b G' h':=⟨p.hA,p.hab,p.hB,p.W.trans (w.mono p.hA p.hB),p.cut.within w p.hA p.hB,p.pre.within w,o⟩
abbrev Go1(E:z8){X:Type}(cs:X->List za)(h0:zb)(x:za)(R:List (List za))(c:X->X->Int)(A0 Z0:Nat)(G0:List X)(n:Nat)(Y:zL):Prop:=∀a b (lim:Int) w1 w2 G h,b-a<n->PS E cs h0 x R c A0 Z0 G0 a b G h->Y [.int .i64 (a:Int),.int .i64 (b:Int),.int .i64 lim,.bool w1,.bool w2] h
end
end Go.Ab
