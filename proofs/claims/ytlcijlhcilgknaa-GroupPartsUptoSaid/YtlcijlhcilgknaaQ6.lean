/- What is proved: a part of the way to the statement: AcJ. No conditions. -/
import Derived.Test.YtlcijlhcilgknaaQ3
import Derived.Test.YtlcijlhcilgknaaQ5
import Derived.KernelRfl
import Derived.Test.YtlcijlhcilgknaaRows
import Derived.Lib.Bytealg
set_option linter.unusedVariables false
set_option linter.unusedSimpArgs false
namespace Go.Ab
theorem arg_slice {T:Type} {H:za} {bytes es:Nat} {e:Ty} {v:AVal} (cs:T->List AVal) (hd: ∀ p,zh4 H e p-> ∃ t,p=cs t) (h:zh4 H (.sl bytes es e) [v]):
  ∃ L:List T,SlIs H es v (L.map cs) /\ L.length*bytes <= reach:=by
 rcases h with h|h|⟨id,parts,h1,h2,h3,h4⟩
 ·cases h;exact ⟨[],SlX.nils H es,by simp⟩
 ·cases h;exact ⟨[],SlX.sz H es,by simp⟩
 ·cases h1
  have: ∃ L:List T,parts=L.map cs:=by
   clear h2 h3
   induction parts with
   | nil=>exact ⟨[],rfl⟩
   | cons p r ih=>
    obtain ⟨L,rfl⟩:=ih fun q hq=>h4 q (by simp [hq])
    obtain ⟨t,rfl⟩:=hd p (h4 p (by simp)).1
    exact ⟨t::L,rfl⟩
  obtain ⟨L,rfl⟩:=this
  have hl: ∀ p∈L.map cs++[],p.length=es:=fun p hp=>(h4 p (by simpa using hp)).2
  have hfl:(L.map cs).flatten.length=L.length*es:=by
   have:=zlk (css:=L.map cs) (n:=es) fun p hp=>(h4 p hp).2
   simpa using this
  refine ⟨L,⟨hl,.inr ⟨id,0,0,(L.map cs).length,roOf (L.map cs).flatten,(L.map cs).flatten.length,rfl,by simp,h2,zib ..,?_,Nat.le_refl _,?_⟩⟩,by simpa using h3⟩
  ·rw [hfl];simp
  ·simp only [roOf,List.drop_zero,List.append_nil,List.length_nil,Nat.add_zero,List.length_map]
   rw [<- hfl,List.take_length]
end Go.Ab
namespace Go.Ab
variable {C:CSem} {N:zN}
structure zz where
 es:Nat
 bytes:Nat
 z:List AVal
 f:Nat
 kp:Option Nat
 ld:za->AVal->(AVal->Prop)->Prop
 st:za->AVal->AVal->(za->Prop)->Prop
 eq:za->AVal->AVal->(zQ)->Prop
section
variable (E:zz)
def opsF (es bytes:Nat) (z:List AVal) (f:Nat) (sh:List Ck):zz where
 es:=es;bytes:=bytes;z:=z;f:=f;kp:=some es
 ld:=fun h p K=>B.ldn h p es K
 st:=fun h p v K=>B.stn h p es v K
 eq:=fun h a b K=>B.pv (V.binAgg .eql sh a b) fun v=>K v h
def opsS (bytes:Nat) (z:AVal) (f:Nat):zz where
 es:=1;bytes:=bytes;z:=[z];f:=f;kp:=none
 ld:=fun h p K=>B.ld h p K
 st:=fun h p v K=>B.st h p v K
 eq:=fun h a b K=>B.pv (V.bin .eql a b) fun v=>K v h
end
end Go.Ab
namespace Go.Ab
variable {C:CSem} {N:zN}
section
variable {h H h0:za} {es:Nat} {x:AVal} {L R:List (List AVal)}
end
section
variable {h0 h h':za} {l:List Ob}
end
def Kp (h:za) (p:AVal) (o:Option Nat):Prop:=match o with|none=> ∃ x,A.ldv h p=some x|some n=> ∃ x,A.ldnv h p n=some x
theorem zq6 {h:za} {ls:List (AVal×Option Nat)} {K:zQ} {v:AVal} (hl: ∀ p∈ls,Kp h p.1 p.2) (hk:K v h):B.zol h ls K v h:=by
 refine ⟨fun p hp=> ?_,hk⟩
 have:=hl p hp
 obtain ⟨p,o⟩:=p
 cases o with
 | none=>obtain ⟨x,e⟩:=this;exact ⟨x,e,e⟩
 | some n=>obtain ⟨x,e⟩:=this;exact ⟨x,e,e⟩
theorem keepS1 {h:za} {p:AVal} {o:Option Nat} {K:zQ} {v:AVal} (h1:Kp h p o) (hk:K v h):B.zol h [(p,o)] K v h:=
 zq6 (fun q hq=>by rw [List.mem_singleton.1 hq];exact h1) hk
theorem keepS2 {h:za} {p q:AVal} {o u:Option Nat} {K:zQ} {v:AVal} (h1:Kp h p o) (h2:Kp h q u) (hk:K v h):B.zol h [(p,o),(q,u)] K v h:=
 zq6 (fun r hr=>by rcases List.mem_cons.1 hr with e|hr;rw [e];exact h1;rw [List.mem_singleton.1 hr];exact h2) hk
section
variable {es n k:Nat} {xs:Nat->AVal} {D R:Nat->List (List AVal)}
end
end Go.Ab
namespace Go.Ab
variable {C:CSem} {N:zN}
section
variable {m:Int->Int->List AVal} {k n i:Nat}
end
section
variable {h:za} {x:AVal} {n k:Nat} {xs:Nat->AVal} {W:List (List AVal)} (hx:SlX h 1 x (fills n fun j=>[xs j]) W)
include hx
end
section
variable {E:zz} {m:Int->Int->List AVal} {v:Int->Int->AVal} {h0 h h':za} {x v5:AVal} {n k:Nat} {xs ys gs:Nat->AVal} {len:Nat->Nat} {F:Nat->List (List AVal)} {W:List (List AVal)} {Q:zQ}
end
end Go.Ab
namespace Go.Ab
variable {C:CSem} {N:zN}
structure Scal (T:Type) [DecidableEq T] where
 c:T->AVal
 cell: ∀ t,(c t).zdd=true
 eql: ∀ a b,V.bin .eql (c a) (c b)=some (.bool (decide (a=b)))
 neq: ∀ a b,V.bin .neq (c a) (c b)=some (.bool (!decide (a=b)))
theorem SlX.cell {h:za} {x c:AVal} {L R:List (List AVal)} {i:Nat} (hs:SlX h 1 x L R) (hc:L[i]? =some [c]):A.ldv h (elp 1 x i 0)=some c:=by
 rw [hs.ldv hc (by omega)];rfl
section
variable {T:Type} [DecidableEq T] (F:Scal T)
abbrev Scal.cs (t:T):List AVal:=[F.c t]
@[simp] def zqf.k2 (Q:zQ) (Y1:zL) (v0 v1 v5:AVal) (h:za):Prop:=
 B.pv (V.zcw v0) fun v13=>
  B.pv (V.bin .lss v5 v13) fun v14=>
  B.cond v14
  (B.pv (V.idxS 1 v0 v5) fun v19=>
  B.ld h v19 fun v20=>
  B.pv (V.idxS 1 v1 v5) fun v23=>
  B.ld h v23 fun v24=>
  B.pv (V.bin .neq v20 v24) fun v25=>
  B.cond v25
  (Q (.bool false) h)
  (B.pv (V.bin .add v5 (.int .i64 1)) fun v16=>
  Y1 [v16] h))
  (Q (.bool true) h)
@[simp] def zqf.l4 (Q:zQ) (v0 v1:AVal):zG
 | [v5],h,Y1=>zqf.k2 Q Y1 v0 v1 v5 h
 | _,_,_=>False
def zqf (v0 v1:AVal) (h:za) (Q:zQ):Prop:=
 B.pv (V.zcw v0) fun v7=>
  B.pv (V.zcw v1) fun v9=>
  B.pv (V.bin .neq v7 v9) fun v10=>
  B.cond v10
  (Q (.bool false) h)
  (zw (zqf.l4 Q v0 v1) [(.int .i64 0)] h)
theorem sameS_spec {x y:AVal} {L M:List T} {R S:List (List AVal)} {h:za} {Q:zQ} (hx:SlX h 1 x (L.map F.cs) R) (hy:SlX h 1 y (M.map F.cs) S) (hlen:L.length<4611686018427387904)
  (hq:Q (.bool (decide (L=M))) h):zqf x y h Q:=by
 have hlx:=hx.zcw
 have hly:=hy.zcw
 rw [List.length_map] at hlx hly
 simp -dsimp [zqf,hlx,hly]
 refine B.zr (fun hb=> ?_) (fun hb=> ?_)<;>simp -dsimp at hb ⊢
 ·rw [decide_eq_false fun e=>hb (by rw [e])] at hq
  exact hq
 ·refine zw.intro (fun n vs hh=> ∃ k,k+n=L.length /\ vs=[.int .i64 k] /\ hh=h /\ L.take k=M.take k) L.length ?_ ⟨0,by simp,by simp,rfl,by simp⟩
  rintro Y n vs _ ⟨k,hn,rfl,rfl,he⟩ hY
  simp -dsimp [hlx]
  refine B.zr (fun hc=> ?_) (fun hc=> ?_)<;>simp -dsimp at hc ⊢
  ·obtain ⟨w,hw⟩:=ze0 hc
   obtain ⟨u,hu⟩:=ze0 (L:=M) (k:=k) (by omega)
   have hk:k<(L.map F.cs).length:=by simpa using hc
   have hk2:k<(M.map F.cs).length:=by simp;omega
   simp only [hx.idxN hk,hy.idxN hk2,hx.cell (get_map hw),hy.cell (get_map hu),B.zd,B.ze4,F.neq]
   refine B.zr (fun hd=> ?_) (fun hd=> ?_)<;>simp -dsimp at hd ⊢
   ·rw [decide_eq_false fun e=>by subst e;rw [hw] at hu;cases hu;exact hd rfl] at hq
    exact hq
   ·simp [inc64 (n:=k) (by omega)]
    refine hY (L.length-(k+1)) _ _ (by omega) ⟨k+1,by omega,by simp,rfl,?_⟩
    rw [take_succ hw,take_succ hu,he,hd]
  ·rw [List.take_of_length_le (by omega),List.take_of_length_le (by omega)] at he
   rw [decide_eq_true he] at hq
   exact hq
def cmarks (mk:Int->T) (n:Nat):List (List AVal):=(List.range n).map fun (i:Nat)=>F.cs (mk (i:Int))
@[simp] theorem cmarks_len (mk:Int->T) (n:Nat):(cmarks F mk n).length=n:=by simp [cmarks]
end
theorem copy_specL {es bytes:Nat} (hes:0<es) {h:za} {x:AVal} {L R:List (List AVal)} {K:zQ} (hx:SlX h es x L R) (hlen:L.length <= 4611686018427387000) (hmul:L.length*bytes <= 140737488355328) (hk: ∀ x' h',Owns h h' [.sl es x' L []]->K x' h'):B.appW h es bytes .nils x K:=by
 refine ((Owns.start h).nils es).appW 0 rfl hx hes (by simp;omega) (by simp [maxLen];omega) fun x' h' ho _=>hk x' h' (by simpa using ho)
theorem copy_spec {es bytes:Nat} (hes:0<es) (hb:bytes <= 1000) {h:za} {x:AVal} {L R:List (List AVal)} {K:zQ} (hx:SlX h es x L R) (hlen:L.length <= 100000000) (hk: ∀ x' h',Owns h h' [.sl es x' L []]->K x' h'):B.appW h es bytes .nils x K:=by
 have hmul:=Nat.mul_le_mul hlen hb
 exact copy_specL hes hx (by omega) (by omega) hk
def za.zky (h:za) (l:List Ob):za:=⟨fun i=>bif l.any (fun o=>o.foot==some i) then none else h i,by
 obtain ⟨n,k⟩:=h.2
 refine ⟨n,fun i hi=> ?_⟩
 show (bif l.any (fun o=>o.foot==some i) then none else h i)=none
 cases l.any (fun o=>o.foot==some i)
 ·exact k i hi
 ·rfl⟩
theorem zqp {h:za} {l:List Ob} {i:Nat} {o:Ob} (hm:o∈l) (hf:o.foot=some i):h.zky l i=none:=by
 have:(l.any fun o=>o.foot==some i)=true:=List.any_eq_true.2 ⟨o,hm,by simp [hf]⟩
 show (bif l.any (fun o=>o.foot==some i) then none else h i)=none
 rw [this];rfl
theorem zmd {h:za} {l:List Ob} {i:Nat} (hm: ∀ o∈l,o.foot≠some i):h.zky l i=h i:=by
 have:(l.any fun o=>o.foot==some i)=false:=by
  rw [<- Bool.not_eq_true,List.any_eq_true]
  rintro ⟨o,h1,h2⟩
  exact hm o h1 (by simpa using h2)
 show (bif l.any (fun o=>o.foot==some i) then none else h i)=_
 rw [this];rfl
theorem without_le (h:za) (l:List Ob):(h.zky l).le h:=fun i b e=>by
 by_cases hm: ∃ o∈l,o.foot=some i
 ·obtain ⟨o,h1,h2⟩:=hm
  rw [zqp h1 h2] at e;cases e
 ·rw [zmd fun o h1 h2=>hm ⟨o,h1,h2⟩] at e;exact e
theorem Owns.out {h0 h:za} {l1 l2:List Ob} (ho:Owns h0 h (l1++l2)):Owns h0 (h.zky l2) l1 /\ Owns (h.zky l2) h l2:=by
 obtain ⟨a1,a2,a3⟩:=List.pairwise_append.1 ho.apart
 have h1:h0.le (h.zky l2):=fun i b e=>by
  rw [zmd fun o hm hf=>by rw [(ho.own o (List.mem_append_right _ hm) i hf).1] at e;cases e]
  exact ho.le i b e
 have keep: ∀ o∈l1,∀ id,o.foot=some id->(h.zky l2) id=h id:=fun o hm id hf=>zmd fun o2 hm2 hf2=>a3 o hm o2 hm2 id hf hf2
 refine ⟨⟨h1,fun o hm=>(ho.is o (List.mem_append_left _ hm)).keep fun id b hf hb=>by rw [keep o hm id hf];exact hb,fun o hm id hf=> ?_,a1⟩,
  ⟨without_le h l2,fun o hm=>ho.is o (List.mem_append_right _ hm),fun o hm id hf=>⟨zqp hm hf,(ho.own o (List.mem_append_right _ hm) id hf).2⟩,a2⟩⟩
 obtain ⟨b1,b2⟩:=ho.own o (List.mem_append_left _ hm) id hf
 exact ⟨b1,fun b hb=>b2 b (by rw [<- keep o hm id hf];exact hb)⟩
theorem Owns.perm {h0 h:za} {l l':List Ob} (ho:Owns h0 h l) (hp:l.Perm l'):Owns h0 h l':=
 ⟨ho.le,fun o hm=>ho.is o (hp.mem_iff.2 hm),fun o hm=>ho.own o (hp.mem_iff.2 hm),(hp.pairwise_iff fun {a b} hab id hb ha=>hab id ha hb).1 ho.apart⟩
end Go.Ab
namespace Go.Ab
structure Lot where
 Id:Int
 Item:List UInt8
 From:Int
 Until:Int
 Qty:Int
 Arrived:Bool
 deriving DecidableEq
@[simp] def Lot.cs (l:Lot):List AVal:=[.int .i64 l.Id,.str l.Item,.int .i64 l.From,.int .i64 l.Until,.int .i64 l.Qty,.bool l.Arrived]
structure Part where
 Item:List UInt8
 Qty:Int
 deriving DecidableEq
@[simp] def Part.cs (u:Part):List AVal:=[.str u.Item,.int .i64 u.Qty]
def partF:Flat Part where
 cs:=Part.cs
 es:=2
 sh:=[.s,.i .i64]
 len _:=rfl
 pos:=by omega
 eq a b:=by
  cases a;cases b
  simp
theorem u8_eq (a b:UInt8):decide ((a.toNat:Int)=b.toNat)=decide (a=b):=by
 rw [decide_eq_decide]
 constructor
 ·intro h;exact UInt8.toNat_inj.1 (by omega)
 ·intro h;rw [h]
structure Line where
 Id:Int
 Item:List UInt8
 Qty:Int
 Asked:Int
 Rank:Int
 State:UInt8
 Day:Int
 Code:List UInt8
 deriving DecidableEq
@[simp] def Line.cs (u:Line):List AVal:=[.int .i64 u.Id,.str u.Item,.int .i64 u.Qty,.int .i64 u.Asked,.int .i64 u.Rank,.int .u8 (u.State.toNat:Int),.int .i64 u.Day,.str u.Code]
def bS:Scal UInt8 where
 c b:= .int .u8 b.toNat
 cell _:=rfl
 eql a b:=by rw [V.zfy,u8_eq]
 neq a b:=by rw [V.bin_neq,u8_eq]
abbrev bc:UInt8->List AVal:=bS.cs
def tS:Scal (List UInt8) where
 c b:= .str b
 cell _:=rfl
 eql a b:=by rw [V.bin_seql]
 neq a b:=by rw [V.bin_sneq]
abbrev tc:List UInt8->List AVal:=tS.cs
theorem wrap_u8 (n:Int):IntKind.u8.wrap n=n % 256:=by
 simp [IntKind.wrap,IntKind.bits,IntKind.signed]
def byt (m:Int):UInt8:=UInt8.ofNat (m % 256).toNat
theorem bin_shr {k j:IntKind} {a b:Int} (h0:0 <= b) (h1:b<k.bits):V.bin .shr (.int k a) (.int j b)=some (.int k (a.fdiv (2 ^ b.toNat))):=by
 simp only [V.bin,V.shift]
 rw [if_neg (by omega),Nat.min_eq_left (by omega)]
theorem wrap_u64 (n:Int):IntKind.u64.wrap n=n % 18446744073709551616:=by
 simp [IntKind.wrap,IntKind.bits,IntKind.signed]
abbrev tyPart:Ty:= .st [.s,.i .i64]
theorem zrk {T:Type} {H:za} {bytes es:Nat} {e:Ty} {v:AVal} (cs:T->List AVal) (P:T->Prop) (hd: ∀ p,zh4 H e p-> ∃ t,p=cs t /\ P t) (h:zh4 H (.sl bytes es e) [v]):
  ∃ L:List T,SlIs H es v (L.map cs) /\ L.length*bytes <= reach /\ ∀ t∈L,P t:=by
 obtain ⟨L,h1,h2⟩:=arg_slice (T:={ t:T // P t }) (fun t=>cs t.1) (fun p hp=>by obtain ⟨t,e,k⟩:=hd p hp;exact ⟨⟨t,k⟩,e⟩) h
 refine ⟨L.map (·.1),?_,by simpa using h2,fun t ht=> ?_⟩
 ·rw [List.map_map];exact h1
 ·obtain ⟨u,_,rfl⟩:=List.mem_map.1 ht;exact u.2
def cA:Code->Code
 | .seq a _=>a
 | .cond _ a _=>a
 | .block _ b=>b
 | .loop b=>b
 | .scope b=>b
 | _=> .skip
def cB:Code->Code
 | .seq _ b=>b
 | .cond _ _ b=>b
 | _=> .skip
def cI:Code->Nat
 | .block i _=>i
 | _=>0
def isS:Code->Bool
 | .seq _ _=>true
 | _=>false
def isC (t:Nat):Code->Bool
 | .cond (.tmp k) _ _=>Nat.beq k t
 | _=>false
def isK:Code->Bool
 | .block _ _=>true
 | _=>false
def isL:Code->Bool
 | .loop _=>true
 | _=>false
section
variable {P:Program} {C:CSem} {I:Bx}
theorem eS (hC:zlx C) {c:Code} {Q:Ex->zcf->za->Prop} {s:zcf} {h:za} (X:zcf->za->Prop) (ha:bwp P C I (cA c) (Ex.then X Q) s h) (hb: ∀ s h,X s h->bwp P C I (cB c) Q s h) (hk:isS c=true:=by kernel_rfl):bwp P C I c Q s h:=by
 cases c<;>first|exact seqB hC rfl hb ha|cases hk
theorem eC {c:Code} {Q:Ex->zcf->za->Prop} {p q:Prop} {s:zcf} {h:za} (t:Nat) (hr:A.cond (s t) p q) (hx:p->bwp P C I (cA c) Q s h) (hy:q->bwp P C I (cB c) Q s h) (hk:isC t c=true:=by kernel_rfl):bwp P C I c Q s h:=by
 cases c with
 | cond o x y=>
  cases o with
  | tmp k=>
   have e:k=t:=Nat.eq_of_beq_eq_true hk
   subst e
   exact condB rfl hx hy hr
  | _=>cases hk
 | _=>cases hk
theorem eK {c:Code} {Q:Ex->zcf->za->Prop} {s:zcf} {h:za} (hb:bwp P C I (cA c) (Ex.inBlock (cI c) Q) s h) (hk:isK c=true:=by kernel_rfl):bwp P C I c Q s h:=by
 cases c<;>first|exact hb|cases hk
theorem eL (hC:zlx C) {c:Code} {Q:Ex->zcf->za->Prop} {s:zcf} {h:za} (keep live:List Nat) (G:List AVal->zG)
  (hr:zw (G (keep.map s)) (live.map s) h)
  (hG: ∀ (Y:zL) (s:zcf) (h:za),G (keep.map s) (live.map s) h Y->bwp P C I (cA c) (Ex.then (fun s h=>Y (live.map s) h) Q) s h)
  (hk:isL c=true:=by kernel_rfl) (hw:(keep.all fun k=> !memB (zg3 P I (cA c)) k)=true:=by kernel_rfl):bwp P C I c Q s h:=by
 cases c<;>first|exact loopB hC keep live rfl hw hG hr|cases hk
theorem e0 {q p:Prop} (hR:p) (e:q=p:=by kernel_rfl):q:=e.mpr hR
theorem e1 {c:Code} {Q:Ex->zcf->za->Prop} {s:zcf} {h:za} {p:Prop} (hR:p) (e:bwp P C I c Q s h=p:=by kernel_rfl):bwp P C I c Q s h:=e.mpr hR
theorem eF (hm:P.follows .mixedOrders=true) {f:FuncId} {fn:Func} {c:Code} {I:Bx} {args:List AVal} {h:za} {Q:zQ}
  (hx:zlx (AC P) → bwp P (AC P) I c (retB P I fn.results.toList (dn Q)) (zdi args) h) (hf:P.funcs[f]? =some fn:=by kernel_rfl) (hb:fn.body=some c:=by kernel_rfl) (h1:(fn.name== "runtime.NumGoroutine")=false:=by kernel_rfl)
  (hc:zir fn.ntmps c=true:=by kernel_rfl) (hne:Nat.beq f zn4=false:=by kernel_rfl) (hl:Nat.ble args.length fn.ntmps=true:=by kernel_rfl) (hB:Nat.ble args.length I.B=true:=by kernel_rfl) (hk:chkC P I c=true:=by kernel_rfl):AC P f args h Q:=
 AC_drop (AC_introB hm hf hb (zl9 hf (by rw [hb];rfl) h1) hc hne (Nat.le_of_ble_eq_true hl) (Nat.le_of_ble_eq_true hB) hk (hx (AC_cmono P)))
end
@[simp] def zdj.k1 (C:CSem) (N:zN) (Q:zQ) (c d:AVal) (h:za):Prop:=
 B.call C (N 389) [c] h fun b h=>
  B.gd h b true (fun K=>K d h) fun k h=>
  B.gd h b true (fun K=>B.call C (N 389) [k] h K) fun l h=>
  B.gd h b true (fun K=>B.pv (V.un .not l) fun v=>K v h) fun e h=>
  B.pick b e (.bool false) fun a=>
  B.gd h a false (fun K=>K c h) fun f h=>
  B.gd h a false (fun K=>K d h) fun g h=>
  B.gd h a false (fun K=>B.pv (V.bin .lss f g) fun v=>K v h) fun i h=>
  B.pick a (.bool true) i fun j=>
  Q j h
@[simp] def zdj.cps (C:CSem) (N:zN) (a b:AVal) (h:za) (Q:zQ):Prop:=
 zdj.k1 C N Q a b h
def zdj.Imp (C:CSem) (N:zN):Prop:=im2 C (N 377) (zdj.cps C N)
@[simp] def zdh.cps (C:CSem) (N:zN) (a:AVal) (h:za) (Q:zQ):Prop:=
 B.pv (V.bin .neq a a) fun b=>
  Q b h
def zdh.Imp (C:CSem) (N:zN):Prop:=im1 C (N 389) (zdh.cps C N)
@[simp] def zcn.k1 (C:CSem) (N:zN) (Q:zQ) (b c:AVal) (h:za):Prop:=
 B.call C (N 389) [b] h fun f h=>
  B.call C (N 389) [c] h fun a h=>
  B.cond f
  (B.cond a
  (Q (.int .i64 0) h)
  (Q (.int .i64 (-1)) h))
  (B.cond a
  (Q (.int .i64 1) h)
  (B.pv (V.bin .lss b c) fun d=>
  B.cond d
  (Q (.int .i64 (-1)) h)
  (B.pv (V.bin .gtr b c) fun e=>
  B.cond e
  (Q (.int .i64 1) h)
  (Q (.int .i64 0) h))))
@[simp] def zcn.cps (C:CSem) (N:zN) (a b:AVal) (h:za) (Q:zQ):Prop:=
 zcn.k1 C N Q a b h
def zcn.Imp (C:CSem) (N:zN):Prop:=im2 C (N 580) (zcn.cps C N)
@[simp] def zcx.k1 (C:CSem) (N:zN) (Q:zQ) (Y1:zL) (o p a b:AVal) (h:za):Prop:=
 B.zfc h b fun d h=>
  B.pv (V.ext 0 d) fun e=>
  B.cond e
  (B.pv (A.zgr h b) fun f=>
  B.pv (V.ext 0 f) fun c=>
  B.zf1 h C o [c] fun g h=>
  B.pv (A.lkp h (some .s) (some (.int .i64 0)) false p g) fun i=>
  B.pv (V.bin .gtr i (.int .i64 0)) fun j=>
  B.cond j
  (B.newO h (zei [(0,none,c)] (repL 1 [.str []])) fun k h=>
  B.appW h 1 16 a (.sl k 0 0 1 1 1) fun l h=>
  Y1 [l] h)
  (Y1 [a] h))
  (B.call C (N 364) [a] h fun q h=>
  B.call C (N 365) [a] h fun m h=>
  B.call C (N 567) [m] h fun n h=>
  Q n h)
@[simp] def zcx.l2 (C:CSem) (N:zN) (Q:zQ) (b c a:AVal):zG
 | [d],h,Y1=>zcx.k1 C N Q Y1 b c d a h
 | _,_,_=>False
@[simp] def zcx.k3 (C:CSem) (N:zN) (Q:zQ) (Y2:zL) (i j f g k l a:AVal) (h:za):Prop:=
 B.pv (V.bin .lss a l) fun m=>
  B.cond m
  (B.pv (V.idxS 1 k a) fun n=>
  B.ld h n fun b=>
  B.pv (A.lkp h (some .s) (some (.str [])) true i b) fun d=>
  B.pv (V.ext 0 d) fun v=>
  B.pv (V.ext 1 d) fun o=>
  B.cond o
  (B.zf1 h C j [b] fun e h=>
  B.pv (A.lkp h (some .s) (some (.int .i64 0)) false f e) fun p=>
  B.pv (V.bin .add p (.int .i64 1)) fun q=>
  B.mset h .s f e q fun h=>
  B.pv (V.bin .add a (.int .i64 1)) fun c=>
  Y2 [g,c] h)
  (B.newO h (zei [(0,none,b)] (repL 1 [.str []])) fun r h=>
  B.appW h 1 16 g (.sl r 0 0 1 1 1) fun t h=>
  B.pv (V.bin .add a (.int .i64 1)) fun c=>
  Y2 [t,c] h))
  (B.rangeMap h i fun u h=>
  zw (zcx.l2 C N Q j f u) [g] h)
@[simp] def zcx.l4 (C:CSem) (N:zN) (Q:zQ) (d e f a b:AVal):zG
 | [g,c],h,Y2=>zcx.k3 C N Q Y2 d e f g a b c h
 | _,_,_=>False
@[simp] def zcx.k5 (C:CSem) (N:zN) (Q:zQ) (g b:AVal) (h:za):Prop:=
 B.call C (N 568) [g] h fun a h=>
  B.pv (V.ext 0 a) fun c=>
  B.pv (V.ext 1 a) fun d=>
  B.zl3 h fun e h=>
  B.pv (V.zcw b) fun f=>
  zw (zcx.l4 C N Q c d e b f) [.nils,(.int .i64 0)] h
@[simp] def zcx.cps (C:CSem) (N:zN) (a b:AVal) (h:za) (Q:zQ):Prop:=
 zcx.k5 C N Q a b h
def zcx.Imp (C:CSem) (N:zN):Prop:=im2 C (N 553) (zcx.cps C N)
@[simp] def zdo.k1 (C:CSem) (N:zN) (Q:zQ) (Y1:zL) (c a:AVal) (h:za):Prop:=
 B.zfc h a fun d h=>
  B.pv (V.ext 0 d) fun e=>
  B.cond e
  (B.pv (A.zgr h a) fun f=>
  B.pv (V.ext 1 f) fun b=>
  B.call C (N 364) [b] h fun k h=>
  B.call C (N 567) [b] h fun g h=>
  B.newO h (zei [(0,none,g)] (repL 1 [.nils])) fun i h=>
  B.appW h 1 24 c (.sl i 0 0 1 1 1) fun j h=>
  Y1 [j] h)
  (B.call C (N 566) [c,(.fn (N 565) [] [])] h fun l h=>
  Q c h)
@[simp] def zdo.l2 (C:CSem) (N:zN) (Q:zQ) (a:AVal):zG
 | [b],h,Y1=>zdo.k1 C N Q Y1 b a h
 | _,_,_=>False
@[simp] def zdo.k3 (C:CSem) (N:zN) (Q:zQ) (Y2:zL) (d c b:AVal) (h:za):Prop:=
 B.zfc h b fun e h=>
  B.pv (V.ext 0 e) fun f=>
  B.cond f
  (B.pv (A.zgr h b) fun g=>
  B.pv (V.ext 0 g) fun a=>
  B.zf1 h C d [a] fun i h=>
  B.zf1 h C d [a] fun j h=>
  B.pv (A.lkp h (some .s) (some (.nils)) false c j) fun k=>
  B.newO h (zei [(0,none,a)] (repL 1 [.str []])) fun l h=>
  B.appW h 1 16 k (.sl l 0 0 1 1 1) fun m h=>
  B.mset h .s c i m fun h=>
  Y2 [] h)
  (B.rangeMap h c fun n h=>
  zw (zdo.l2 C N Q n) [.nils] h)
@[simp] def zdo.l4 (C:CSem) (N:zN) (Q:zQ) (b c a:AVal):zG
 | [],h,Y2=>zdo.k3 C N Q Y2 b c a h
 | _,_,_=>False
@[simp] def zdo.k5 (C:CSem) (N:zN) (Q:zQ) (f:AVal) (h:za):Prop:=
 B.call C (N 568) [f] h fun a h=>
  B.pv (V.ext 0 a) fun b=>
  B.pv (V.ext 1 a) fun c=>
  B.zl3 h fun d h=>
  B.rangeMap h b fun e h=>
  zw (zdo.l4 C N Q c d e) [] h
@[simp] def zdo.cps (C:CSem) (N:zN) (a:AVal) (h:za) (Q:zQ):Prop:=
 zdo.k5 C N Q a h
def zdo.Imp (C:CSem) (N:zN):Prop:=im1 C (N 554) (zdo.cps C N)
@[simp] def zb4.k1 (C:CSem) (N:zN) (Q:zQ) (Y1:zL) (s f g b e a:AVal) (h:za):Prop:=
 B.pv (V.bin .lss b g) fun i=>
  B.cond i
  (B.pv (V.idxS 8 f b) fun j=>
  B.ldn h j 8 fun k=>
  B.pv (V.setN 0 8 k (.agg [.int .i64 0,.str [],.int .i64 0,.int .i64 0,.int .i64 0,.int .u8 0,.int .i64 0,.str []])) fun c=>
  B.al c (B.pv (V.zd8 1 c) fun l=>
  B.call C (N 442) [s,l] h fun m h=>
  B.cond m
  (B.al a (B.pv (V.zd8 5 a) fun n=>
  B.pv (V.zfg 0 8 c) fun o=>
  B.newO h (zei [(0,some 8,o)] (repL 1 [.int .i64 0,.str [],.int .i64 0,.int .i64 0,.int .i64 0,.int .u8 0,.int .i64 0,.str []])) fun p h=>
  B.appW h 8 80 n (.sl p 0 0 1 8 1) fun q h=>
  B.al a (B.pv (V.setF 5 q a) fun a=>
  B.pv (V.bin .add b (.int .i64 1)) fun d=>
  Y1 [d,a] h)))
  (B.pv (V.bin .add b (.int .i64 1)) fun d=>
  Y1 [d,a] h)))
  (B.pv (V.zfg 0 6 a) fun r=>
  B.pv (V.setN 0 6 r e) fun e=>
  B.pv (oneOf (zlv (V.zfg 0 6 e) (some []))) fun v=>Q v h)
@[simp] def zb4.l2 (C:CSem) (N:zN) (Q:zQ) (d a b e:AVal):zG
 | [c,f],h,Y1=>zb4.k1 C N Q Y1 d a b c e f h
 | _,_,_=>False
@[simp] def zb4.k3 (C:CSem) (N:zN) (Q:zQ) (Y2:zL) (f g i b j u a:AVal) (h:za):Prop:=
 B.pv (V.bin .lss b i) fun k=>
  B.cond k
  (B.pv (V.idxS 6 g b) fun l=>
  B.ldn h l 6 fun m=>
  B.pv (V.setN 0 6 m (.agg [.int .i64 0,.str [],.int .i64 0,.int .i64 0,.int .i64 0,.bool false])) fun e=>
  B.al e (B.pv (V.zd8 1 e) fun n=>
  B.call C (N 442) [f,n] h fun o h=>
  B.cond o
  (B.al a (B.pv (V.zd8 4 a) fun p=>
  B.pv (V.zfg 0 6 e) fun q=>
  B.newO h (zei [(0,some 6,q)] (repL 1 [.int .i64 0,.str [],.int .i64 0,.int .i64 0,.int .i64 0,.bool false])) fun r h=>
  B.appW h 6 56 p (.sl r 0 0 1 6 1) fun s h=>
  B.al a (B.pv (V.setF 4 s a) fun a=>
  B.pv (V.bin .add b (.int .i64 1)) fun c=>
  Y2 [c,a] h)))
  (B.pv (V.bin .add b (.int .i64 1)) fun c=>
  Y2 [c,a] h)))
  (B.al j (B.pv (V.zd8 5 j) fun d=>
  B.pv (V.zcw d) fun t=>
  zw (zb4.l2 C N Q f d t u) [(.int .i64 0),a] h))
@[simp] def zb4.l4 (C:CSem) (N:zN) (Q:zQ) (d a b e f:AVal):zG
 | [c,g],h,Y2=>zb4.k3 C N Q Y2 d a b c e f g h
 | _,_,_=>False
@[simp] def zb4.k5 (C:CSem) (N:zN) (Q:zQ) (Y3:zL) (g i j c f y b:AVal) (h:za):Prop:=
 B.pv (V.bin .lss c j) fun k=>
  B.cond k
  (B.pv (V.idxS 4 i c) fun l=>
  B.ldn h l 4 fun m=>
  B.pv (V.setN 0 4 m (.agg [.str [],.int .i64 0,.nils,.nils])) fun a=>
  B.al a (B.pv (V.zd8 0 a) fun n=>
  B.call C (N 442) [g,n] h fun o h=>
  B.cond o
  (B.al a (B.pv (V.zd8 2 a) fun p=>
  B.al a (B.pv (V.zd8 3 a) fun q=>
  B.call C (N 569) [p] h fun r h=>
  B.al a (B.call C (N 567) [q] h fun s h=>
  B.pv (V.setF 2 r a) fun a=>
  B.al a (B.pv (V.setF 3 s a) fun a=>
  B.al b (B.pv (V.zd8 3 b) fun t=>
  B.pv (V.zfg 0 4 a) fun u=>
  B.newO h (zei [(0,some 4,u)] (repL 1 [.str [],.int .i64 0,.nils,.nils])) fun v h=>
  B.appW h 4 72 t (.sl v 0 0 1 4 1) fun w h=>
  B.al b (B.pv (V.setF 3 w b) fun b=>
  B.pv (V.bin .add c (.int .i64 1)) fun d=>
  Y3 [d,b] h)))))))
  (B.pv (V.bin .add c (.int .i64 1)) fun d=>
  Y3 [d,b] h)))
  (B.al f (B.pv (V.zd8 4 f) fun e=>
  B.pv (V.zcw e) fun x=>
  zw (zb4.l4 C N Q g e x f y) [(.int .i64 0),b] h))
@[simp] def zb4.l6 (C:CSem) (N:zN) (Q:zQ) (d a b e f:AVal):zG
 | [c,g],h,Y3=>zb4.k5 C N Q Y3 d a b c e f g h
 | _,_,_=>False
@[simp] def zb4.k7 (C:CSem) (N:zN) (Q:zQ) (i a j:AVal) (h:za):Prop:=
 B.al a (B.pv (V.zd8 0 a) fun c=>
  B.al a (B.pv (V.zd8 1 a) fun d=>
  B.al a (B.pv (V.zd8 2 a) fun e=>
  B.pv (A.bld [(0,none,c),(1,none,d),(2,none,e)] [.int .i64 0,.int .i64 0,.int .i64 0,.nils,.nils,.nils]) fun f=>
  B.pv (V.setN 0 6 f (.agg [.int .i64 0,.int .i64 0,.int .i64 0,.nils,.nils,.nils])) fun k=>
  B.al a (B.pv (V.zd8 3 a) fun b=>
  B.pv (V.zcw b) fun g=>
  zw (zb4.l6 C N Q i b g a j) [(.int .i64 0),k] h))))
@[simp] def zb4.cps (C:CSem) (N:zN) (a b:AVal) (h:za) (Q:zQ):Prop:=
 B.pv (A.boxN 6 a) fun c=>
  zb4.k7 C N Q b c (.agg [.int .i64 0,.int .i64 0,.int .i64 0,.nils,.nils,.nils]) h
def zb4.Imp (C:CSem) (N:zN):Prop:=im2 C (N 558) (zb4.cps C N)
@[simp] def zn.k1 (C:CSem) (N:zN) (Q:zQ) (b:AVal) (h:za):Prop:=
 B.pv (V.fieldAddr 0 b) fun c=>
  B.ld h c fun d=>
  B.pv (V.bin .lss d (.int .u8 1)) fun a=>
  B.gd h a false (fun K=>B.pv (V.fieldAddr 0 b) fun v=>K v h) fun e h=>
  B.gd h a false (fun K=>B.ld h e fun v=>K v h) fun f h=>
  B.gd h a false (fun K=>B.pv (V.bin .gtr f (.int .u8 15)) fun v=>K v h) fun g h=>
  B.pick a (.bool true) g fun i=>
  B.cond i
  (Q .nils h)
  (B.newO h (zei [(0,none,(.str [42]))] (repL 1 [.str []])) fun j h=>
  Q (.sl j 0 0 1 1 1) h)
@[simp] def zn.k2 (C:CSem) (N:zN) (Q:zQ) (a k b:AVal) (h:za):Prop:=
 B.cond k
  (B.al b (B.pv (V.zd8 3 b) fun c=>
  B.pv (V.fieldAddr 2 a) fun d=>
  B.ld h d fun e=>
  B.newO h (zei [(0,none,e)] (repL 1 [.str []])) fun f h=>
  B.call C (N 553) [c,(.sl f 0 0 1 1 1)] h fun g h=>
  B.newO h (zei [(0,none,(.str [35,108,111,116]))] (repL 1 [.str []])) fun i h=>
  B.call C (N 570) [g,(.sl i 0 0 1 1 1)] h fun j h=>
  Q j h))
  (zn.k1 C N Q a h)
@[simp] def zn.k3 (C:CSem) (N:zN) (Q:zQ) (a k b:AVal) (h:za):Prop:=
 B.cond k
  (B.al b (B.pv (V.zd8 3 b) fun c=>
  B.pv (V.fieldAddr 2 a) fun d=>
  B.ld h d fun e=>
  B.newO h (zei [(0,none,e)] (repL 1 [.str []])) fun f h=>
  B.call C (N 553) [c,(.sl f 0 0 1 1 1)] h fun g h=>
  B.newO h (zei [(0,none,(.str [35,108,105,110,101]))] (repL 1 [.str []])) fun i h=>
  B.call C (N 570) [g,(.sl i 0 0 1 1 1)] h fun j h=>
  Q j h))
  (zn.k1 C N Q a h)
@[simp] def zn.k4 (C:CSem) (N:zN) (Q:zQ) (a i b:AVal) (h:za):Prop:=
 B.cond i
  (B.al b (B.pv (V.zd8 3 b) fun c=>
  B.pv (V.fieldAddr 2 a) fun d=>
  B.ld h d fun e=>
  B.newO h (zei [(0,none,e)] (repL 1 [.str []])) fun f h=>
  B.call C (N 553) [c,(.sl f 0 0 1 1 1)] h fun g h=>
  Q g h))
  (zn.k1 C N Q a h)
@[simp] def zn.k5 (C:CSem) (N:zN) (Q:zQ) (c a:AVal) (h:za):Prop:=
 B.al a (B.pv (V.zd8 4 a) fun d=>
  B.call C (N 572) [d,(.fn (N 571) [] [c])] h fun b h=>
  B.pv (V.bin .geq b (.int .i64 0)) fun e=>
  B.cond e
  (B.al a (B.pv (V.zd8 3 a) fun f=>
  B.al a (B.pv (V.zd8 4 a) fun g=>
  B.pv (V.idxS 6 g b) fun i=>
  B.pv (V.fieldAddr 1 i) fun j=>
  B.ld h j fun k=>
  B.newO h (zei [(0,none,k)] (repL 1 [.str []])) fun l h=>
  B.call C (N 553) [f,(.sl l 0 0 1 1 1)] h fun m h=>
  Q m h)))
  (zn.k1 C N Q c h))
@[simp] def zn.k6 (C:CSem) (N:zN) (Q:zQ) (c d a:AVal) (h:za):Prop:=
 B.cond d
  (B.al a (B.pv (V.zd8 5 a) fun e=>
  B.call C (N 206) [e,(.fn (N 573) [] [c])] h fun b h=>
  B.pv (V.bin .geq b (.int .i64 0)) fun f=>
  B.cond f
  (B.al a (B.pv (V.zd8 3 a) fun g=>
  B.al a (B.pv (V.zd8 5 a) fun i=>
  B.pv (V.idxS 8 i b) fun j=>
  B.pv (V.fieldAddr 1 j) fun k=>
  B.ld h k fun l=>
  B.newO h (zei [(0,none,l)] (repL 1 [.str []])) fun m h=>
  B.call C (N 553) [g,(.sl m 0 0 1 1 1)] h fun n h=>
  Q n h)))
  (zn.k1 C N Q c h)))
  (zn.k1 C N Q c h)
@[simp] def zn.k7 (C:CSem) (N:zN) (Q:zQ) (d a e:AVal) (h:za):Prop:=
 B.pv (V.bin .eql a (.int .u8 10)) fun b=>
  B.cond b
  (zn.k6 C N Q d b e h)
  (B.pv (V.bin .eql a (.int .u8 11)) fun c=>
  B.cond c
  (zn.k6 C N Q d c e h)
  (B.pv (V.bin .eql a (.int .u8 14)) fun f=>
  zn.k6 C N Q d f e h))
@[simp] def zn.k8 (C:CSem) (N:zN) (Q:zQ) (b a c:AVal) (h:za):Prop:=
 B.pv (V.bin .eql a (.int .u8 6)) fun d=>
  B.cond d
  (B.cond d (zn.k5 C N Q b c h) (zn.k7 C N Q b a c h))
  (B.pv (V.bin .eql a (.int .u8 7)) fun e=>
  B.cond e
  (B.cond e (zn.k5 C N Q b c h) (zn.k7 C N Q b a c h))
  (B.pv (V.bin .eql a (.int .u8 8)) fun f=>
  B.cond f (zn.k5 C N Q b c h) (zn.k7 C N Q b a c h)))
@[simp] def zn.k9 (C:CSem) (N:zN) (Q:zQ) (b e a c:AVal) (h:za):Prop:=
 B.pv (V.bin .eql a (.int .u8 13)) fun d=>
  B.cond d
  (B.cond d (zn.k4 C N Q b e c h) (zn.k8 C N Q b a c h))
  (B.pv (V.bin .eql a (.int .u8 15)) fun f=>
  B.cond f (zn.k4 C N Q b e c h) (zn.k8 C N Q b a c h))
@[simp] def zn.k10 (C:CSem) (N:zN) (Q:zQ) (b c a d:AVal) (h:za):Prop:=
 B.pv (V.bin .eql a (.int .u8 4)) fun f=>
  B.cond f
  (B.cond f (zn.k2 C N Q b c d h) (B.pv (V.bin .eql a (.int .u8 9)) fun e=>
  B.cond e (zn.k3 C N Q b c d h) (zn.k9 C N Q b c a d h)))
  (B.pv (V.bin .eql a (.int .u8 5)) fun g=>
  B.cond g (zn.k2 C N Q b c d h) (B.pv (V.bin .eql a (.int .u8 9)) fun e=>
  B.cond e (zn.k3 C N Q b c d h) (zn.k9 C N Q b c a d h)))
@[simp] def zn.k11 (C:CSem) (N:zN) (Q:zQ) (a b:AVal) (h:za):Prop:=
 B.al b (B.pv (V.zd8 3 b) fun f=>
  B.call C (N 575) [f,(.fn (N 574) [] [a])] h fun c h=>
  B.pv (V.fieldAddr 0 a) fun d=>
  B.ld h d fun e=>
  zn.k10 C N Q a c e b h)
@[simp] def zn.cps (C:CSem) (N:zN) (a b:AVal) (h:za) (Q:zQ):Prop:=
 B.pv (A.boxN 6 a) fun c=>
  B.newO h (A.znh 11 b) fun d h=>
  zn.k11 C N Q (.ptr d 0 0) c h
def zn.Imp (C:CSem) (N:zN):Prop:=im2 C (N 559) (zn.cps C N)
@[simp] def zeq.cps (C:CSem) (N:zN) (a b:AVal) (h:za) (Q:zQ):Prop:=
 B.call C (N 578) [a,b] h fun c h=>
  Q c h
def zeq.Imp (C:CSem) (N:zN):Prop:=im2 C (N 565) (zeq.cps C N)
@[simp] def zt.k1 (C:CSem) (N:zN) (Q:zQ) (Y1:zL) (Y2:zL) (q r m n o c d e a b:AVal) (h:za):Prop:=
 B.pv (V.bin .lss a e) fun f=>
  B.cond f
  (B.pv (V.idxS 1 d a) fun g=>
  B.ld h g fun i=>
  B.al b (B.pv (V.zd8 0 b) fun j=>
  B.zf1 h C m [j,i] fun p h=>
  B.pv (V.bin .add a (.int .i64 1)) fun k=>
  Y2 [k] h))
  (B.pv (V.bin .add c (.int .i64 1)) fun l=>
  Y1 [l] h)
@[simp] def zt.l2 (C:CSem) (N:zN) (Q:zQ) (Y1:zL) (i j k a b c d e f:AVal):zG
 | [g],h,Y2=>zt.k1 C N Q Y1 Y2 i j k a b c d e g f h
 | _,_,_=>False
@[simp] def zt.k3 (C:CSem) (N:zN) (Q:zQ) (Y1:zL) (g i j c d e a:AVal) (h:za):Prop:=
 B.al a (B.pv (V.zd8 3 a) fun b=>
  B.pv (V.zcw b) fun f=>
  zw (zt.l2 C N Q Y1 g i j c d e b f a) [(.int .i64 0)] h)
@[simp] def zt.k4 (C:CSem) (N:zN) (Q:zQ) (Y1:zL) (Y3:zL) (q r d e f g i j a b:AVal) (h:za):Prop:=
 B.pv (V.bin .lss a j) fun k=>
  B.cond k
  (B.pv (V.idxS 2 i a) fun l=>
  B.ldn h l 2 fun m=>
  B.pv (V.setN 0 2 m (.agg [.str [],.int .i64 0])) fun c=>
  B.al b (B.pv (V.zd8 0 b) fun n=>
  B.al c (B.pv (V.zd8 0 c) fun o=>
  B.zf1 h C d [n,o] fun s h=>
  B.pv (V.bin .add a (.int .i64 1)) fun p=>
  Y3 [p] h)))
  (zt.k3 C N Q Y1 q r d e f g b h)
@[simp] def zt.l5 (C:CSem) (N:zN) (Q:zQ) (Y1:zL) (i j k a b c d e f:AVal):zG
 | [g],h,Y3=>zt.k4 C N Q Y1 Y3 i j k a b c d e g f h
 | _,_,_=>False
@[simp] def zt.k6 (C:CSem) (N:zN) (Q:zQ) (Y1:zL) (g i j c d e a:AVal) (h:za):Prop:=
 B.al a (B.pv (V.zd8 2 a) fun b=>
  B.pv (V.zcw b) fun f=>
  zw (zt.l5 C N Q Y1 g i j c d e b f a) [(.int .i64 0)] h)
@[simp] def zt.k7 (C:CSem) (N:zN) (Q:zQ) (Y1:zL) (g i j a c b:AVal) (h:za):Prop:=
 B.pv (V.idxS 4 a b) fun d=>
  B.ldn h d 4 fun e=>
  B.pv (V.setN 0 4 e (.agg [.str [],.int .i64 0,.nils,.nils])) fun f=>
  zt.k6 C N Q Y1 g i j a c b f h
@[simp] def zt.k8 (C:CSem) (N:zN) (Q:zQ) (Y1:zL) (c d j e a b:AVal) (h:za):Prop:=
 B.pv (V.bin .lss b a) fun f=>
  B.cond f
  (zt.k7 C N Q Y1 c d j e a b h)
  (B.ld h c fun g=>
  B.ld h d fun i=>
  Q (.tup [g,i]) h)
@[simp] def zt.l9 (C:CSem) (N:zN) (Q:zQ) (d e f a b:AVal):zG
 | [c],h,Y1=>zt.k8 C N Q Y1 d e f a b c h
 | _,_,_=>False
@[simp] def zt.k10 (C:CSem) (N:zN) (Q:zQ) (c a:AVal) (h:za):Prop:=
 B.newO h (some [.nilf]) fun b h=>
  B.st h (.ptr b 0 0) (.fn (N 577) [] [a]) fun h=>
  B.pv (V.zcw c) fun d=>
  zw (zt.l9 C N Q a (.ptr b 0 0) (.fn (N 576) [] [a,(.ptr b 0 0)]) c d) [(.int .i64 0)] h
@[simp] def zt.k11 (C:CSem) (N:zN) (Q:zQ) (Y4:zL) (n c d e a:AVal) (h:za):Prop:=
 B.pv (V.bin .lss a e) fun f=>
  B.cond f
  (B.pv (V.idxS 4 d a) fun g=>
  B.ldn h g 4 fun i=>
  B.pv (V.setN 0 4 i (.agg [.str [],.int .i64 0,.nils,.nils])) fun b=>
  B.ld h c fun j=>
  B.al b (B.pv (V.zd8 0 b) fun k=>
  B.al b (B.pv (V.zd8 0 b) fun l=>
  B.mset h .s j k l fun h=>
  B.pv (V.bin .add a (.int .i64 1)) fun m=>
  Y4 [m] h)))
  (zt.k10 C N Q n c h)
@[simp] def zt.l12 (C:CSem) (N:zN) (Q:zQ) (d e a b:AVal):zG
 | [c],h,Y4=>zt.k11 C N Q Y4 d e a b c h
 | _,_,_=>False
@[simp] def zt.k13 (C:CSem) (N:zN) (Q:zQ) (a:AVal) (h:za):Prop:=
 B.zl3 h fun b h=>
  B.newO h (some [.nilm]) fun c h=>
  B.st h (.ptr c 0 0) b fun h=>
  B.pv (V.zcw a) fun d=>
  zw (zt.l12 C N Q a (.ptr c 0 0) a d) [(.int .i64 0)] h
@[simp] def zt.cps (C:CSem) (N:zN) (a:AVal) (h:za) (Q:zQ):Prop:=
 zt.k13 C N Q a h
def zt.Imp (C:CSem) (N:zN):Prop:=im1 C (N 568) (zt.cps C N)
@[simp] def zd6.k1 (C:CSem) (N:zN) (Q:zQ) (d e:AVal) (h:za):Prop:=
 B.newO h (zei [(0,none,d),(1,none,e)] (repL 2 [.nils])) fun f h=>
  B.call C (N 373) [(.sl f 0 0 2 1 2)] h fun a h=>
  B.call C (N 364) [a] h fun g h=>
  B.call C (N 365) [a] h fun b h=>
  B.call C (N 567) [b] h fun c h=>
  Q c h
@[simp] def zd6.cps (C:CSem) (N:zN) (a b:AVal) (h:za) (Q:zQ):Prop:=
 zd6.k1 C N Q a b h
def zd6.Imp (C:CSem) (N:zN):Prop:=im2 C (N 570) (zd6.cps C N)
@[simp] def zdu.k1 (C:CSem) (N:zN) (Q:zQ) (b c:AVal) (h:za):Prop:=
 B.pv (A.boxN 6 b) fun a=>
  B.al a (B.pv (V.zd8 0 a) fun d=>
  B.pv (V.fieldAddr 7 c) fun e=>
  B.ld h e fun f=>
  B.pv (V.bin .eql d f) fun g=>
  Q g h)
@[simp] def zdu.cps (C:CSem) (N:zN) (a b:AVal) (h:za) (Q:zQ):Prop:=
 zdu.k1 C N Q a b h
def zdu.Imp (C:CSem) (N:zN):Prop:=im2 C (N 571) (zdu.cps C N)
@[simp] def zdt.k1 (C:CSem) (N:zN) (Q:zQ) (b c:AVal) (h:za):Prop:=
 B.pv (A.boxN 8 b) fun a=>
  B.al a (B.pv (V.zd8 0 a) fun d=>
  B.pv (V.fieldAddr 8 c) fun e=>
  B.ld h e fun f=>
  B.pv (V.bin .eql d f) fun g=>
  Q g h)
@[simp] def zdt.cps (C:CSem) (N:zN) (a b:AVal) (h:za) (Q:zQ):Prop:=
 zdt.k1 C N Q a b h
def zdt.Imp (C:CSem) (N:zN):Prop:=im2 C (N 573) (zdt.cps C N)
@[simp] def zdv.k1 (C:CSem) (N:zN) (Q:zQ) (b c:AVal) (h:za):Prop:=
 B.pv (A.boxN 4 b) fun a=>
  B.al a (B.pv (V.zd8 0 a) fun d=>
  B.pv (V.fieldAddr 2 c) fun e=>
  B.ld h e fun f=>
  B.pv (V.bin .eql d f) fun g=>
  Q g h)
@[simp] def zdv.cps (C:CSem) (N:zN) (a b:AVal) (h:za) (Q:zQ):Prop:=
 zdv.k1 C N Q a b h
def zdv.Imp (C:CSem) (N:zN):Prop:=im2 C (N 574) (zdv.cps C N)
@[simp] def zdc.k1 (C:CSem) (N:zN) (Q:zQ) (l d a c:AVal) (h:za):Prop:=
 B.ld h a fun m=>
  B.pv (A.lkp h (some .s) (some (.str [])) true m d) fun b=>
  B.pv (V.ext 0 b) fun n=>
  B.pv (V.ext 1 b) fun e=>
  B.cond e
  (B.ld h a fun f=>
  B.ld h c fun g=>
  B.ld h c fun i=>
  B.zf1 h C g [l] (B.zol h [(a,none),(c,none)] (fun j h=>B.zf1 h C i [d] (B.zol h [(a,none)] (fun k h=>B.mset h .s f j k fun h=>
  Q (.tup []) h)))))
  (Q (.tup []) h)
@[simp] def zdc.cps (C:CSem) (N:zN) (a b c d:AVal) (h:za) (Q:zQ):Prop:=
 zdc.k1 C N Q a b c d h
def zdc.Imp (C:CSem) (N:zN):Prop:=im4 C (N 576) (zdc.cps C N)
@[simp] def zcj.k1 (C:CSem) (N:zN) (Q:zQ) (Y1:zL) (a b:AVal) (h:za):Prop:=
 B.ld h b fun d=>
  B.pv (A.lkp h (some .s) (some (.str [])) false d a) fun e=>
  B.pv (V.bin .neq e a) fun f=>
  B.cond f
  (B.ld h b fun g=>
  B.pv (A.lkp h (some .s) (some (.str [])) false g a) fun c=>
  Y1 [c] h)
  (Q a h)
@[simp] def zcj.l2 (C:CSem) (N:zN) (Q:zQ) (a:AVal):zG
 | [b],h,Y1=>zcj.k1 C N Q Y1 b a h
 | _,_,_=>False
@[simp] def zcj.cps (C:CSem) (N:zN) (a b:AVal) (h:za) (Q:zQ):Prop:=
 zw (zcj.l2 C N Q b) [a] h
def zcj.Imp (C:CSem) (N:zN):Prop:=im2 C (N 577) (zcj.cps C N)
@[simp] def zdn.k3 (C:CSem) (N:zN) (Q:zQ) (a b:AVal) (h:za):Prop:=
 B.pv (V.zcw a) fun d=>
  B.pv (V.zcw b) fun e=>
  B.pv (V.bin .neq d e) fun c=>
  B.cond c
  (Q (.bool false) h)
  (zw (zqf.l4  Q a b) [(.int .i64 0)] h)
def zdn.cps (C:CSem) (N:zN) (a b:AVal) (h:za) (Q:zQ):Prop:=
 zdn.k3 C N Q a b h
def zdn.Imp (C:CSem) (N:zN):Prop:=im2 C (N 133) (zdn.cps C N)
@[simp] def zc8.k1 (C:CSem) (N:zN) (Q:zQ) (Y1:zL) (b c a:AVal) (h:za):Prop:=
 B.pv (V.zcw b) fun l=>
  B.pv (V.bin .lss a l) fun m=>
  B.cond m
  (B.pv (V.idxS 4 b a) fun d=>
  B.ldn h d 4 fun e=>
  B.call C (N 361) [e] h fun f h=>
  B.pv (V.setN 0 4 f (.agg [.str [],.int .i64 0,.nils,.nils])) fun n=>
  B.pv (V.zfg 0 4 n) fun g=>
  B.newO h (zei [(0,some 4,g)] (repL 1 [.str [],.int .i64 0,.nils,.nils])) fun i h=>
  B.appW h 4 72 c (.sl i 0 0 1 4 1) fun j h=>
  B.pv (V.bin .add a (.int .i64 1)) fun k=>
  Y1 [j,k] h)
  (Q c h)
@[simp] def zc8.l2 (C:CSem) (N:zN) (Q:zQ) (a:AVal):zG
 | [b,c],h,Y1=>zc8.k1 C N Q Y1 a b c h
 | _,_,_=>False
@[simp] def zc8.cps (C:CSem) (N:zN) (a:AVal) (h:za) (Q:zQ):Prop:=
 zw (zc8.l2 C N Q a) [.nils,(.int .i64 0)] h
def zc8.Imp (C:CSem) (N:zN):Prop:=im1 C (N 354) (zc8.cps C N)
@[simp] def zd5.k1 (C:CSem) (N:zN) (Q:zQ) (c:AVal) (h:za):Prop:=
 B.pv (A.boxN 4 c) fun a=>
  B.al a (B.pv (V.zd8 2 a) fun d=>
  B.call C (N 368) [d] h fun e h=>
  B.al a (B.pv (V.setF 2 e a) fun a=>
  B.al a (B.pv (V.zd8 3 a) fun f=>
  B.call C (N 369) [f] h fun g h=>
  B.al a (B.pv (V.setF 3 g a) fun a=>
  B.pv (V.zfg 0 4 a) fun b=>
  B.pv (V.setN 0 4 b (.agg [.str [],.int .i64 0,.nils,.nils])) fun i=>
  B.pv (oneOf (zlv (V.zfg 0 4 i) (some []))) fun v=>Q v h))))
@[simp] def zd5.cps (C:CSem) (N:zN) (a:AVal) (h:za) (Q:zQ):Prop:=
 zd5.k1 C N Q a h
def zd5.Imp (C:CSem) (N:zN):Prop:=im1 C (N 361) (zd5.cps C N)
@[simp] def zd4.cps (C:CSem) (N:zN) (a:AVal) (h:za) (Q:zQ):Prop:=
 B.appW h 2 24 .nils a fun b h=>
  Q b h
def zd4.Imp (C:CSem) (N:zN):Prop:=im1 C (N 368) (zd4.cps C N)
@[simp] def zd3.cps (C:CSem) (N:zN) (a:AVal) (h:za) (Q:zQ):Prop:=
 B.appW h 1 16 .nils a fun b h=>
  Q b h
def zd3.Imp (C:CSem) (N:zN):Prop:=im1 C (N 369) (zd3.cps C N)
@[simp] def zq.k1 (C:CSem) (N:zN) (Q:zQ) (v0 v1 e:AVal) (h:za):Prop:=
 B.call C (N 354) [v0] h fun f h=>
  B.pv (A.bld [(0,none,e)] [.str [],.int .i64 0,.nils,.nils]) fun g=>
  B.newO h (zei [(0,some 4,g)] (repL 1 [.str [],.int .i64 0,.nils,.nils])) fun i h=>
  B.appW h 4 72 f (.sl i 0 0 1 4 1) fun j h=>
  B.call C (N 554) [j] h fun c h=>
  B.call C (N 552) [c,e] h fun d h=>
  B.pv (V.bin .geq d (.int .i64 0)) fun b=>
  B.gd h b true (fun K=>K c h) fun k h=>
  B.gd h b true (fun K=>K d h) fun l h=>
  B.gd h b true (fun K=>B.pv (V.idxS 1 k l) fun v=>K v h) fun m h=>
  B.gd h b true (fun K=>B.ld h m fun v=>K v h) fun n h=>
  B.gd h b true (fun K=>B.pv (V.zcw n) fun v=>K v h) fun o h=>
  B.gd h b true (fun K=>B.pv (V.bin .eql o (.int .i64 1)) fun v=>K v h) fun p h=>
  B.pick b p (.bool false) fun a=>
  B.gd h a true (fun K=>K c h) fun q h=>
  B.gd h a true (fun K=>K d h) fun r h=>
  B.gd h a true (fun K=>B.pv (V.zh2 1 q none (some r)) fun v=>K v h) fun s h=>
  B.gd h a true (fun K=>K c h) fun t h=>
  B.gd h a true (fun K=>K d h) fun u h=>
  B.gd h a true (fun K=>B.pv (V.bin .add u (.int .i64 1)) fun v=>K v h) fun w h=>
  B.gd h a true (fun K=>B.pv (V.zh2 1 t (some w) none) fun v=>K v h) fun x h=>
  B.gd h a true (fun K=>K v1 h) fun y h=>
  B.gd h a true (fun K=>K .sz h) fun z h=>
  B.gd h a true (fun K=>B.appW h 1 24 z s K) fun aa h=>
  B.gd h a true (fun K=>B.appW h 1 24 aa x K) fun ab h=>
  B.gd h a true (fun K=>B.call C (N 563) [ab,y] h K) fun ac h=>
  B.pick a ac (.bool false) fun ad=>
  Q ad h
@[simp] def zq.k2 (C:CSem) (N:zN) (Q:zQ) (Y1:zL) (Y2:zL) (r t s a b:AVal) (h:za):Prop:=
 B.pv (V.idxS 4 r a) fun c=>
  B.pv (V.fieldAddr 2 c) fun d=>
  B.ld h d fun e=>
  B.pv (V.zcw e) fun f=>
  B.pv (V.bin .lss b f) fun g=>
  B.cond g
  (B.pv (V.idxS 4 r a) fun i=>
  B.pv (V.fieldAddr 2 i) fun j=>
  B.ld h j fun k=>
  B.pv (V.idxS 2 k b) fun l=>
  B.pv (V.fieldAddr 0 l) fun m=>
  B.ld h m fun n=>
  B.pv (V.bin .eql n s) fun o=>
  B.cond o
  (Q (.bool true) h)
  (B.pv (V.bin .add b (.int .i64 1)) fun p=>
  Y2 [p] h))
  (B.pv (V.bin .add a (.int .i64 1)) fun q=>
  Y1 [q] h)
@[simp] def zq.l3 (C:CSem) (N:zN) (Q:zQ) (Y1:zL) (d e a b:AVal):zG
 | [c],h,Y2=>zq.k2 C N Q Y1 Y2 d e a b c h
 | _,_,_=>False
@[simp] def zq.k4 (C:CSem) (N:zN) (Q:zQ) (Y1:zL) (d t b c:AVal) (h:za):Prop:=
 B.pv (V.idxS 4 d c) fun e=>
  B.pv (V.fieldAddr 0 e) fun f=>
  B.ld h f fun g=>
  B.pv (V.bin .eql g b) fun a=>
  B.gd h a false (fun K=>K d h) fun j h=>
  B.gd h a false (fun K=>K c h) fun k h=>
  B.gd h a false (fun K=>B.pv (V.idxS 4 j k) fun v=>K v h) fun l h=>
  B.gd h a false (fun K=>B.pv (V.fieldAddr 3 l) fun v=>K v h) fun m h=>
  B.gd h a false (fun K=>B.ld h m fun v=>K v h) fun n h=>
  B.gd h a false (fun K=>B.newO h (zei [(0,none,n)] (repL 1 [.nils])) fun i h=>K (.sl i 0 0 1 1 1) h) fun o h=>
  B.gd h a false (fun K=>K b h) fun p h=>
  B.gd h a false (fun K=>B.call C (N 552) [o,p] h K) fun q h=>
  B.gd h a false (fun K=>B.pv (V.bin .eql q (.int .i64 0)) fun v=>K v h) fun r h=>
  B.pick a (.bool true) r fun s=>
  B.cond s
  (Q (.bool true) h)
  (zw (zq.l3 C N Q Y1 d t b c) [(.int .i64 0)] h)
@[simp] def zq.k5 (C:CSem) (N:zN) (Q:zQ) (Y1:zL) (c f a b:AVal) (h:za):Prop:=
 B.pv (V.zcw c) fun d=>
  B.pv (V.bin .lss b d) fun e=>
  B.cond e
  (zq.k4 C N Q Y1 c f a b h)
  (zq.k1 C N Q c f a h)
@[simp] def zq.l6 (C:CSem) (N:zN) (Q:zQ) (c d a:AVal):zG
 | [b],h,Y1=>zq.k5 C N Q Y1 c d a b h
 | _,_,_=>False
@[simp] def zq.k7 (C:CSem) (N:zN) (Q:zQ) (Y3:zL) (k i f j:AVal) (h:za):Prop:=
 B.pv (V.zcw j) fun a=>
  B.pv (V.idxS 1 i f) fun b=>
  B.ld h b fun c=>
  B.pv (V.zcw c) fun d=>
  B.pv (V.bin .neq a d) fun e=>
  B.cond e
  (Q (.bool false) h)
  (B.pv (V.bin .add f (.int .i64 1)) fun g=>
  Y3 [g] h)
@[simp] def zq.k8 (C:CSem) (N:zN) (Q:zQ) (Y3:zL) (Y4:zL) (Y5:zL) (Y6:zL) (v0 v1 v5 e v7 v8 f c b:AVal) (h:za):Prop:=
 B.gd h c true (fun K=>K b h) fun w h=>
  B.gd h c true (fun K=>K f h) fun x h=>
  B.gd h c true (fun K=>B.pv (V.zcw x) fun v=>K v h) fun y h=>
  B.gd h c true (fun K=>B.pv (V.bin .lss w y) fun v=>K v h) fun z h=>
  B.pick c z (.bool false) fun aa=>
  B.cond aa
  (B.pv (V.idxS 1 f b) fun ab=>
  B.ld h ab fun ac=>
  B.call C (N 552) [v1,ac] h fun ad h=>
  B.pv (V.bin .geq ad (.int .i64 0)) fun a=>
  B.gd h a true (fun K=>K e h) fun g h=>
  B.gd h a true (fun K=>B.newO h (zei [(0,none,g)] (repL 1 [.nils])) fun i h=>K (.sl i 0 0 1 1 1) h) fun j h=>
  B.gd h a true (fun K=>K f h) fun k h=>
  B.gd h a true (fun K=>K b h) fun l h=>
  B.gd h a true (fun K=>B.pv (V.idxS 1 k l) fun v=>K v h) fun m h=>
  B.gd h a true (fun K=>B.ld h m fun v=>K v h) fun n h=>
  B.gd h a true (fun K=>B.call C (N 552) [j,n] h K) fun o h=>
  B.gd h a true (fun K=>B.pv (V.bin .lss o (.int .i64 0)) fun v=>K v h) fun p h=>
  B.pick a p (.bool false) fun q=>
  B.cond q
  (B.pv (V.idxS 1 f b) fun r=>
  B.ld h r fun s=>
  B.newO h (zei [(0,none,s)] (repL 1 [.str []])) fun t h=>
  B.appW h 1 16 e (.sl t 0 0 1 1 1) fun u h=>
  B.pv (V.bin .add b (.int .i64 1)) fun d=>
  Y6 [u,d] h)
  (B.pv (V.bin .add b (.int .i64 1)) fun d=>
  Y6 [e,d] h))
  (B.pv (V.bin .add v8 (.int .i64 1)) fun ae=>
  Y5 [e,ae] h)
@[simp] def zq.l9 (C:CSem) (N:zN) (Q:zQ) (Y3:zL) (Y4:zL) (Y5:zL) (c d e f g i a:AVal):zG
 | [j,b],h,Y6=>zq.k8 C N Q Y3 Y4 Y5 Y6 c d e j f g i a b h
 | _,_,_=>False
@[simp] def zq.k10 (C:CSem) (N:zN) (Q:zQ) (Y3:zL) (Y4:zL) (Y5:zL) (j k l a b m c:AVal) (h:za):Prop:=
 B.newO h (zei [(0,none,c)] (repL 1 [.nils])) fun d h=>
  B.pv (V.idxS 1 a b) fun e=>
  B.ld h e fun f=>
  B.call C (N 552) [(.sl d 0 0 1 1 1),f] h fun g h=>
  B.pv (V.bin .eql g (.int .i64 0)) fun i=>
  zw (zq.l9 C N Q Y3 Y4 Y5 j k l b m c i) [a,(.int .i64 0)] h
@[simp] def zq.k11 (C:CSem) (N:zN) (Q:zQ) (Y3:zL) (Y4:zL) (Y5:zL) (Y7:zL) (b t u v w c d a:AVal) (h:za):Prop:=
 B.pv (V.idxS 4 b c) fun e=>
  B.pv (V.fieldAddr 2 e) fun f=>
  B.ld h f fun g=>
  B.pv (V.zcw g) fun i=>
  B.pv (V.bin .lss a i) fun j=>
  B.cond j
  (B.pv (V.idxS 4 b c) fun k=>
  B.pv (V.fieldAddr 2 k) fun l=>
  B.ld h l fun m=>
  B.pv (V.idxS 2 m a) fun n=>
  B.pv (V.fieldAddr 0 n) fun o=>
  B.ld h o fun p=>
  B.newO h (zei [(0,none,p)] (repL 1 [.str []])) fun q h=>
  B.appW h 1 16 d (.sl q 0 0 1 1 1) fun r h=>
  B.pv (V.bin .add a (.int .i64 1)) fun s=>
  Y7 [r,s] h)
  (zq.k10 C N Q Y3 Y4 Y5 b t u v w c d h)
@[simp] def zq.l12 (C:CSem) (N:zN) (Q:zQ) (Y3:zL) (Y4:zL) (Y5:zL) (b c d e f g:AVal):zG
 | [i,a],h,Y7=>zq.k11 C N Q Y3 Y4 Y5 Y7 b c d e f g i a h
 | _,_,_=>False
@[simp] def zq.k13 (C:CSem) (N:zN) (Q:zQ) (Y3:zL) (Y4:zL) (Y5:zL) (a l m n o b:AVal) (h:za):Prop:=
 B.pv (V.idxS 4 a b) fun c=>
  B.pv (V.fieldAddr 0 c) fun d=>
  B.ld h d fun e=>
  B.pv (V.idxS 4 a b) fun f=>
  B.pv (V.fieldAddr 3 f) fun g=>
  B.ld h g fun i=>
  B.newO h (zei [(0,none,e)] (repL 1 [.str []])) fun j h=>
  B.appW h 1 16 (.sl j 0 0 1 1 1) i fun k h=>
  zw (zq.l12 C N Q Y3 Y4 Y5 a l m n o b) [k,(.int .i64 0)] h
@[simp] def zq.k14 (C:CSem) (N:zN) (Q:zQ) (Y3:zL) (Y4:zL) (Y5:zL) (a i j b c d:AVal) (h:za):Prop:=
 B.pv (V.zcw a) fun e=>
  B.pv (V.bin .lss d e) fun f=>
  B.cond f
  (zq.k13 C N Q Y3 Y4 Y5 a i j b c d h)
  (B.pv (V.bin .add c (.int .i64 1)) fun g=>
  Y4 [b,g] h)
@[simp] def zq.l15 (C:CSem) (N:zN) (Q:zQ) (Y3:zL) (Y4:zL) (a b c d:AVal):zG
 | [e,f],h,Y5=>zq.k14 C N Q Y3 Y4 Y5 a b c e d f h
 | _,_,_=>False
@[simp] def zq.k16 (C:CSem) (N:zN) (Q:zQ) (Y3:zL) (Y4:zL) (b c d a e:AVal) (h:za):Prop:=
 B.pv (V.zcw a) fun f=>
  B.pv (V.bin .lss e f) fun g=>
  B.cond g
  (zw (zq.l15 C N Q Y3 Y4 b c d e) [a,(.int .i64 0)] h)
  (zq.k7 C N Q Y3 b c d a h)
@[simp] def zq.l17 (C:CSem) (N:zN) (Q:zQ) (Y3:zL) (a b c:AVal):zG
 | [d,e],h,Y4=>zq.k16 C N Q Y3 Y4 a b c d e h
 | _,_,_=>False
@[simp] def zq.k18 (C:CSem) (N:zN) (Q:zQ) (Y3:zL) (i a b:AVal) (h:za):Prop:=
 B.pv (V.idxS 1 a b) fun c=>
  B.ld h c fun d=>
  B.pv (V.idxS 1 d (.int .i64 0)) fun e=>
  B.ld h e fun f=>
  B.newO h (zei [(0,none,f)] (repL 1 [.str []])) fun g h=>
  zw (zq.l17 C N Q Y3 i a b) [(.sl g 0 0 1 1 1),(.int .i64 0)] h
@[simp] def zq.k19 (C:CSem) (N:zN) (Q:zQ) (Y3:zL) (b a c:AVal) (h:za):Prop:=
 B.pv (V.zcw a) fun d=>
  B.pv (V.bin .lss c d) fun e=>
  B.cond e
  (zq.k18 C N Q Y3 b a c h)
  (zw (zq.l6 C N Q b a (.str [126,111,119,110])) [(.int .i64 0)] h)
@[simp] def zq.l20 (C:CSem) (N:zN) (Q:zQ) (a b:AVal):zG
 | [c],h,Y3=>zq.k19 C N Q Y3 a b c h
 | _,_,_=>False
@[simp] def zq.cps (C:CSem) (N:zN) (a b:AVal) (h:za) (Q:zQ):Prop:=
 zw (zq.l20 C N Q a b) [(.int .i64 0)] h
def zq.Imp (C:CSem) (N:zN):Prop:=im2 C (N 551) (zq.cps C N)
@[simp] def zcm.k1 (C:CSem) (N:zN) (Q:zQ) (Y1:zL) (Y2:zL) (c p a b:AVal) (h:za):Prop:=
 B.pv (V.idxS 1 c a) fun d=>
  B.ld h d fun e=>
  B.pv (V.zcw e) fun f=>
  B.pv (V.bin .lss b f) fun g=>
  B.cond g
  (B.pv (V.idxS 1 c a) fun i=>
  B.ld h i fun j=>
  B.pv (V.idxS 1 j b) fun k=>
  B.ld h k fun l=>
  B.pv (V.bin .eql l p) fun m=>
  B.cond m
  (Q a h)
  (B.pv (V.bin .add b (.int .i64 1)) fun n=>
  Y2 [n] h))
  (B.pv (V.bin .add a (.int .i64 1)) fun o=>
  Y1 [o] h)
@[simp] def zcm.l2 (C:CSem) (N:zN) (Q:zQ) (Y1:zL) (a b c:AVal):zG
 | [d],h,Y2=>zcm.k1 C N Q Y1 Y2 a b c d h
 | _,_,_=>False
@[simp] def zcm.k3 (C:CSem) (N:zN) (Q:zQ) (Y1:zL) (a d b:AVal) (h:za):Prop:=
 B.pv (V.zcw a) fun e=>
  B.pv (V.bin .lss b e) fun c=>
  B.cond c
  (zw (zcm.l2 C N Q Y1 a d b) [(.int .i64 0)] h)
  (Q (.int .i64 (-1)) h)
@[simp] def zcm.l4 (C:CSem) (N:zN) (Q:zQ) (a b:AVal):zG
 | [c],h,Y1=>zcm.k3 C N Q Y1 a b c h
 | _,_,_=>False
@[simp] def zcm.cps (C:CSem) (N:zN) (a b:AVal) (h:za) (Q:zQ):Prop:=
 zw (zcm.l4 C N Q a b) [(.int .i64 0)] h
def zcm.Imp (C:CSem) (N:zN):Prop:=im2 C (N 552) (zcm.cps C N)
@[simp] def zc7.k1 (C:CSem) (N:zN) (Q:zQ) (c l:AVal) (h:za):Prop:=
 B.call C (N 564) [c] h fun d h=>
  B.pv (V.bin .gtr d (.int .i64 300)) fun a=>
  B.gd h a false (fun K=>K c h) fun e h=>
  B.gd h a false (fun K=>B.pv (V.zcw e) fun v=>K v h) fun f h=>
  B.gd h a false (fun K=>B.pv (V.bin .gtr f (.int .i64 70)) fun v=>K v h) fun g h=>
  B.pick a (.bool true) g fun b=>
  B.gd h b false (fun K=>K l h) fun i h=>
  B.gd h b false (fun K=>B.pv (V.bin .gtr i (.int .i64 200)) fun v=>K v h) fun j h=>
  B.pick b (.bool true) j fun k=>
  Q k h
@[simp] def zc7.k2 (C:CSem) (N:zN) (Q:zQ) (Y1:zL) (p d b c:AVal) (h:za):Prop:=
 B.pv (V.zcw d) fun q=>
  B.pv (V.bin .lss c q) fun a=>
  B.gd h a true (fun K=>K b h) fun e h=>
  B.gd h a true (fun K=>B.pv (V.bin .leq e (.int .i64 200)) fun v=>K v h) fun f h=>
  B.pick a f (.bool false) fun g=>
  B.cond g
  (B.pv (V.bin .add b (.int .i64 1)) fun i=>
  B.pv (V.idxS 1 d c) fun j=>
  B.ld h j fun k=>
  B.pv (V.zj5 k) fun l=>
  B.pv (V.bin .quo l (.int .i64 20)) fun m=>
  B.pv (V.bin .add i m) fun n=>
  B.pv (V.bin .add c (.int .i64 1)) fun o=>
  Y1 [n,o] h)
  (zc7.k1 C N Q p b h)
@[simp] def zc7.l3 (C:CSem) (N:zN) (Q:zQ) (a b:AVal):zG
 | [c,d],h,Y1=>zc7.k2 C N Q Y1 a b c d h
 | _,_,_=>False
@[simp] def zc7.cps (C:CSem) (N:zN) (a b:AVal) (h:za) (Q:zQ):Prop:=
 zw (zc7.l3 C N Q a b) [(.int .i64 0),(.int .i64 0)] h
def zc7.Imp (C:CSem) (N:zN):Prop:=im2 C (N 555) (zc7.cps C N)
@[simp] def zd7.k1 (C:CSem) (N:zN) (Q:zQ) (h:za):Prop:=
 B.call C (N 562) [] h fun v2 h=>
  B.pv (A.bld [(0,none,(.int .i64 3)),(1,none,(.str [68]))] [.int .i64 0,.str [],.int .i64 0,.int .i64 0,.int .i64 0,.bool false]) fun v3=>
  B.newO h (zei [(0,some 6,v3)] (repL 1 [.int .i64 0,.str [],.int .i64 0,.int .i64 0,.int .i64 0,.bool false])) fun i4 h=>
  B.pv (A.bld [(3,none,v2),(4,none,(.sl i4 0 0 1 6 1))] [.int .i64 0,.int .i64 0,.int .i64 0,.nils,.nils,.nils]) fun v5=>
  B.pv (V.setN 0 6 v5 (.agg [.int .i64 0,.int .i64 0,.int .i64 0,.nils,.nils,.nils])) fun f=>
  B.call C (N 562) [] h fun v6 h=>
  B.call C (N 554) [v6] h fun v7 h=>
  B.newO h (zei [(0,none,(.str [65])),(1,none,(.str [75]))] (repL 2 [.str []])) fun i8 h=>
  B.newO h (zei [(0,none,(.str [66])),(1,none,(.str [67]))] (repL 2 [.str []])) fun i9 h=>
  B.newO h (zei [(0,none,(.str [68]))] (repL 1 [.str []])) fun g h=>
  B.newO h (zei [(0,none,(.sl i8 0 0 2 1 2)),(1,none,(.sl i9 0 0 2 1 2)),(2,none,(.sl g 0 0 1 1 1))] (repL 3 [.nils])) fun j h=>
  B.call C (N 563) [v7,(.sl j 0 0 3 1 3)] h fun b h=>
  B.gd h b true (fun K=>B.call C (N 562) [] h K) fun k h=>
  B.gd h b true (fun K=>B.newO h (zei [(0,none,(.str [75])),(1,none,(.str [90]))] (repL 2 [.str []])) fun i h=>K (.sl i 0 0 2 1 2) h) fun l h=>
  B.gd h b true (fun K=>B.call C (N 553) [k,l] h K) fun m h=>
  B.gd h b true (fun K=>B.newO h (zei [(0,none,(.str [65])),(1,none,(.str [75])),(2,none,(.str [90]))] (repL 3 [.str []])) fun i h=>K (.sl i 0 0 3 1 3) h) fun n h=>
  B.gd h b true (fun K=>B.call C (N 133) [m,n] h K) fun o h=>
  B.pick b o (.bool false) fun c=>
  B.gd h c true (fun K=>B.pv (V.zfg 0 6 f) fun v=>K v h) fun p h=>
  B.gd h c true (fun K=>B.pv (A.bld [(0,none,(.int .u8 4)),(2,none,(.str [67]))] [.int .u8 0,.int .i64 0,.str [],.int .i64 0,.int .i64 0,.int .i64 0,.int .i64 0,.int .i64 0,.int .i64 0,.nils,.nils]) fun v=>K v h) fun q h=>
  B.gd h c true (fun K=>B.call C (N 559) [p,q] h K) fun r h=>
  B.gd h c true (fun K=>B.newO h (zei [(0,none,(.str [35,108,111,116])),(1,none,(.str [66])),(2,none,(.str [67]))] (repL 3 [.str []])) fun i h=>K (.sl i 0 0 3 1 3) h) fun s h=>
  B.gd h c true (fun K=>B.call C (N 133) [r,s] h K) fun t h=>
  B.pick c t (.bool false) fun d=>
  B.gd h d true (fun K=>B.pv (V.zfg 0 6 f) fun v=>K v h) fun u h=>
  B.gd h d true (fun K=>B.pv (A.bld [(0,none,(.int .u8 11)),(8,none,(.int .i64 3))] [.int .u8 0,.int .i64 0,.str [],.int .i64 0,.int .i64 0,.int .i64 0,.int .i64 0,.int .i64 0,.int .i64 0,.nils,.nils]) fun v=>K v h) fun w h=>
  B.gd h d true (fun K=>B.call C (N 559) [u,w] h K) fun x h=>
  B.gd h d true (fun K=>B.newO h (zei [(0,none,(.str [42]))] (repL 1 [.str []])) fun i h=>K (.sl i 0 0 1 1 1) h) fun y h=>
  B.gd h d true (fun K=>B.call C (N 133) [x,y] h K) fun z h=>
  B.pick d z (.bool false) fun e=>
  B.gd h e true (fun K=>B.pv (V.zfg 0 6 f) fun v=>K v h) fun aa h=>
  B.gd h e true (fun K=>B.pv (A.bld [(0,none,(.int .u8 12))] [.int .u8 0,.int .i64 0,.str [],.int .i64 0,.int .i64 0,.int .i64 0,.int .i64 0,.int .i64 0,.int .i64 0,.nils,.nils]) fun v=>K v h) fun ab h=>
  B.gd h e true (fun K=>B.call C (N 559) [aa,ab] h K) fun ac h=>
  B.gd h e true (fun K=>B.newO h (zei [(0,none,(.str [42]))] (repL 1 [.str []])) fun i h=>K (.sl i 0 0 1 1 1) h) fun ad h=>
  B.gd h e true (fun K=>B.call C (N 133) [ac,ad] h K) fun ae h=>
  B.pick e ae (.bool false) fun a=>
  B.gd h a true (fun K=>B.pv (V.zfg 0 6 f) fun v=>K v h) fun af h=>
  B.gd h a true (fun K=>B.newO h (zei [(0,none,(.str [68]))] (repL 1 [.str []])) fun i h=>K (.sl i 0 0 1 1 1) h) fun ag h=>
  B.gd h a true (fun K=>B.call C (N 558) [af,ag] h K) fun ah h=>
  B.gd h a true (fun K=>B.pv (V.zd8 4 ah) fun v=>K v h) fun ai h=>
  B.gd h a true (fun K=>B.pv (V.zcw ai) fun v=>K v h) fun aj h=>
  B.gd h a true (fun K=>B.pv (V.bin .eql aj (.int .i64 1)) fun v=>K v h) fun ak h=>
  B.pick a ak (.bool false) fun al=>
  Q al h
@[simp] def zd7.cps (C:CSem) (N:zN) (h:za) (Q:zQ):Prop:=
 zd7.k1 C N Q h
def zd7.Imp (C:CSem) (N:zN):Prop:=im0 C (N 556) (zd7.cps C N)
@[simp] def zg.k1 (C:CSem) (N:zN) (Q:zQ) (f g i j:AVal) (h:za):Prop:=
 B.pv (V.bin .eql i j) fun a=>
  B.gd h a true (fun K=>K f h) fun b h=>
  B.gd h a true (fun K=>K g h) fun c h=>
  B.gd h a true (fun K=>B.call C (N 551) [b,c] h K) fun d h=>
  B.pick a d (.bool false) fun e=>
  Q e h
@[simp] def zg.k2 (C:CSem) (N:zN) (Q:zQ) (Y1:zL) (Y2:zL) (y z v4 v7 e d b:AVal) (h:za):Prop:=
 B.pv (V.idxS 4 y e) fun f=>
  B.pv (V.fieldAddr 3 f) fun g=>
  B.ld h g fun i=>
  B.pv (V.zcw i) fun j=>
  B.pv (V.bin .lss b j) fun k=>
  B.cond k
  (B.pv (V.idxS 4 y e) fun l=>
  B.pv (V.fieldAddr 3 l) fun m=>
  B.ld h m fun n=>
  B.pv (V.idxS 1 n b) fun o=>
  B.ld h o fun p=>
  B.call C (N 552) [z,p] h fun c h=>
  B.pv (V.bin .geq c (.int .i64 0)) fun a=>
  B.gd h a true (fun K=>K c h) fun q h=>
  B.gd h a true (fun K=>K d h) fun r h=>
  B.gd h a true (fun K=>B.pv (V.bin .neq q r) fun v=>K v h) fun s h=>
  B.pick a s (.bool false) fun t=>
  B.cond t
  (Q (.bool false) h)
  (B.pv (V.bin .add b (.int .i64 1)) fun u=>
  Y2 [u] h))
  (B.pv (V.bin .lss d (.int .i64 0)) fun w=>
  B.cond w
  (Q (.bool false) h)
  (B.pv (V.bin .add e (.int .i64 1)) fun x=>
  Y1 [v7,x] h))
@[simp] def zg.l3 (C:CSem) (N:zN) (Q:zQ) (Y1:zL) (c d e f g a:AVal):zG
 | [b],h,Y2=>zg.k2 C N Q Y1 Y2 c d e f g a b h
 | _,_,_=>False
@[simp] def zg.k4 (C:CSem) (N:zN) (Q:zQ) (Y1:zL) (Y3:zL) (e y z v7 f d b:AVal) (h:za):Prop:=
 B.pv (V.idxS 4 e f) fun g=>
  B.pv (V.fieldAddr 2 g) fun i=>
  B.ld h i fun j=>
  B.pv (V.zcw j) fun k=>
  B.pv (V.bin .lss b k) fun l=>
  B.cond l
  (B.pv (V.idxS 4 e f) fun m=>
  B.pv (V.fieldAddr 2 m) fun n=>
  B.ld h n fun o=>
  B.pv (V.idxS 2 o b) fun p=>
  B.pv (V.fieldAddr 0 p) fun q=>
  B.ld h q fun r=>
  B.call C (N 552) [y,r] h fun c h=>
  B.pv (V.bin .geq c (.int .i64 0)) fun a=>
  B.gd h a true (fun K=>K c h) fun s h=>
  B.gd h a true (fun K=>K d h) fun t h=>
  B.gd h a true (fun K=>B.pv (V.bin .neq s t) fun v=>K v h) fun u h=>
  B.pick a u (.bool false) fun w=>
  B.cond w
  (Q (.bool false) h)
  (B.pv (V.bin .add b (.int .i64 1)) fun x=>
  Y3 [x] h))
  (zw (zg.l3 C N Q Y1 e y z v7 f d) [(.int .i64 0)] h)
@[simp] def zg.l5 (C:CSem) (N:zN) (Q:zQ) (Y1:zL) (c d e f g a:AVal):zG
 | [b],h,Y3=>zg.k4 C N Q Y1 Y3 c d e f g a b h
 | _,_,_=>False
@[simp] def zg.k6 (C:CSem) (N:zN) (Q:zQ) (Y1:zL) (e f i j g:AVal) (h:za):Prop:=
 B.pv (V.idxS 4 e g) fun a=>
  B.pv (V.fieldAddr 0 a) fun b=>
  B.ld h b fun c=>
  B.call C (N 552) [f,c] h fun d h=>
  zw (zg.l5 C N Q Y1 e f i j g d) [(.int .i64 0)] h
@[simp] def zg.k7 (C:CSem) (N:zN) (Q:zQ) (Y1:zL) (c d e f g i:AVal) (h:za):Prop:=
 B.pv (V.un .not i) fun a=>
  B.cond a
  (B.pv (V.bin .add f (.int .i64 1)) fun b=>
  zg.k6 C N Q Y1 c d e b g h)
  (zg.k6 C N Q Y1 c d e f g h)
@[simp] def zg.k8 (C:CSem) (N:zN) (Q:zQ) (Y1:zL) (Y4:zL) (c t u w d a b:AVal) (h:za):Prop:=
 B.pv (V.bin .lss b d) fun e=>
  B.cond e
  (B.gd h a false (fun K=>K c h) fun f h=>
  B.gd h a false (fun K=>K b h) fun g h=>
  B.gd h a false (fun K=>B.pv (V.idxS 4 f g) fun v=>K v h) fun i h=>
  B.gd h a false (fun K=>B.pv (V.fieldAddr 0 i) fun v=>K v h) fun j h=>
  B.gd h a false (fun K=>B.ld h j fun v=>K v h) fun k h=>
  B.gd h a false (fun K=>K c h) fun l h=>
  B.gd h a false (fun K=>K d h) fun m h=>
  B.gd h a false (fun K=>B.pv (V.idxS 4 l m) fun v=>K v h) fun n h=>
  B.gd h a false (fun K=>B.pv (V.fieldAddr 0 n) fun v=>K v h) fun o h=>
  B.gd h a false (fun K=>B.ld h o fun v=>K v h) fun p h=>
  B.gd h a false (fun K=>B.pv (V.bin .eql k p) fun v=>K v h) fun q h=>
  B.pick a (.bool true) q fun r=>
  B.pv (V.bin .add b (.int .i64 1)) fun s=>
  Y4 [r,s] h)
  (zg.k7 C N Q Y1 c t u w d a h)
@[simp] def zg.l9 (C:CSem) (N:zN) (Q:zQ) (Y1:zL) (b c d e f:AVal):zG
 | [g,a],h,Y4=>zg.k8 C N Q Y1 Y4 b c d e f g a h
 | _,_,_=>False
@[simp] def zg.k10 (C:CSem) (N:zN) (Q:zQ) (Y1:zL) (a d e f g:AVal) (h:za):Prop:=
 B.pv (V.zcw a) fun b=>
  B.pv (V.bin .lss g b) fun c=>
  B.cond c
  (zw (zg.l9 C N Q Y1 a d e f g) [(.bool false),(.int .i64 0)] h)
  (zg.k1 C N Q a d e f h)
@[simp] def zg.l11 (C:CSem) (N:zN) (Q:zQ) (a b c:AVal):zG
 | [d,e],h,Y1=>zg.k10 C N Q Y1 a b c d e h
 | _,_,_=>False
@[simp] def zg.k12 (C:CSem) (N:zN) (Q:zQ) (Y5:zL) (v0 d v4 c:AVal) (h:za):Prop:=
 B.pv (V.idxS 1 d c) fun y=>
  B.ld h y fun z=>
  B.pv (V.zcw z) fun aa=>
  B.pv (V.bin .eql aa (.int .i64 0)) fun b=>
  B.gd h b false (fun K=>K c h) fun e h=>
  B.gd h b false (fun K=>B.pv (V.bin .gtr e (.int .i64 0)) fun v=>K v h) fun f h=>
  B.gd h b false (fun K=>K f h) fun a h=>
  B.gd h a true (fun K=>K d h) fun g h=>
  B.gd h a true (fun K=>K c h) fun i h=>
  B.gd h a true (fun K=>B.pv (V.bin .sub i (.int .i64 1)) fun v=>K v h) fun j h=>
  B.gd h a true (fun K=>B.pv (V.idxS 1 g j) fun v=>K v h) fun k h=>
  B.gd h a true (fun K=>B.ld h k fun v=>K v h) fun l h=>
  B.gd h a true (fun K=>B.pv (V.idxS 1 l (.int .i64 0)) fun v=>K v h) fun m h=>
  B.gd h a true (fun K=>B.ld h m fun v=>K v h) fun n h=>
  B.gd h a true (fun K=>K d h) fun o h=>
  B.gd h a true (fun K=>K c h) fun p h=>
  B.gd h a true (fun K=>B.pv (V.idxS 1 o p) fun v=>K v h) fun q h=>
  B.gd h a true (fun K=>B.ld h q fun v=>K v h) fun r h=>
  B.gd h a true (fun K=>B.pv (V.idxS 1 r (.int .i64 0)) fun v=>K v h) fun s h=>
  B.gd h a true (fun K=>B.ld h s fun v=>K v h) fun t h=>
  B.gd h a true (fun K=>B.pv (V.bin .geq n t) fun v=>K v h) fun u h=>
  B.gd h b false (fun K=>B.pick a u (.bool false) fun v=>K v h) fun w h=>
  B.pick b (.bool true) w fun x=>
  B.cond x
  (Q (.bool false) h)
  (B.pv (V.bin .add c (.int .i64 1)) fun ab=>
  Y5 [v4,ab] h)
@[simp] def zg.k13 (C:CSem) (N:zN) (Q:zQ) (Y5:zL) (Y6:zL) (j c v4 d f:AVal) (h:za):Prop:=
 B.pv (V.idxS 1 c d) fun k=>
  B.ld h k fun l=>
  B.pv (V.zcw l) fun m=>
  B.pv (V.bin .lss f m) fun n=>
  B.cond n
  (B.pv (V.idxS 1 c d) fun o=>
  B.ld h o fun p=>
  B.pv (V.idxS 1 p f) fun q=>
  B.ld h q fun r=>
  B.call C (N 552) [c,r] h fun s h=>
  B.pv (V.bin .neq s d) fun e=>
  B.gd h e false (fun K=>K f h) fun t h=>
  B.gd h e false (fun K=>B.pv (V.bin .gtr t (.int .i64 0)) fun v=>K v h) fun u h=>
  B.gd h e false (fun K=>K u h) fun a h=>
  B.gd h a true (fun K=>K c h) fun w h=>
  B.gd h a true (fun K=>K d h) fun x h=>
  B.gd h a true (fun K=>B.pv (V.idxS 1 w x) fun v=>K v h) fun y h=>
  B.gd h a true (fun K=>B.ld h y fun v=>K v h) fun z h=>
  B.gd h a true (fun K=>K f h) fun aa h=>
  B.gd h a true (fun K=>B.pv (V.bin .sub aa (.int .i64 1)) fun v=>K v h) fun ab h=>
  B.gd h a true (fun K=>B.pv (V.idxS 1 z ab) fun v=>K v h) fun ac h=>
  B.gd h a true (fun K=>B.ld h ac fun v=>K v h) fun ad h=>
  B.gd h a true (fun K=>K c h) fun ae h=>
  B.gd h a true (fun K=>K d h) fun af h=>
  B.gd h a true (fun K=>B.pv (V.idxS 1 ae af) fun v=>K v h) fun ag h=>
  B.gd h a true (fun K=>B.ld h ag fun v=>K v h) fun ah h=>
  B.gd h a true (fun K=>K f h) fun ai h=>
  B.gd h a true (fun K=>B.pv (V.idxS 1 ah ai) fun v=>K v h) fun aj h=>
  B.gd h a true (fun K=>B.ld h aj fun v=>K v h) fun ak h=>
  B.gd h a true (fun K=>B.pv (V.bin .geq ad ak) fun v=>K v h) fun al h=>
  B.gd h e false (fun K=>B.pick a al (.bool false) fun v=>K v h) fun am h=>
  B.pick e (.bool true) am fun b=>
  B.gd h b false (fun K=>K j h) fun an h=>
  B.gd h b false (fun K=>K c h) fun ao h=>
  B.gd h b false (fun K=>K d h) fun ap h=>
  B.gd h b false (fun K=>B.pv (V.idxS 1 ao ap) fun v=>K v h) fun aq h=>
  B.gd h b false (fun K=>B.ld h aq fun v=>K v h) fun ar h=>
  B.gd h b false (fun K=>K f h) fun au h=>
  B.gd h b false (fun K=>B.pv (V.idxS 1 ar au) fun v=>K v h) fun av h=>
  B.gd h b false (fun K=>B.ld h av fun v=>K v h) fun aw h=>
  B.gd h b false (fun K=>K c h) fun ax h=>
  B.gd h b false (fun K=>K d h) fun ay h=>
  B.gd h b false (fun K=>B.pv (V.idxS 1 ax ay) fun v=>K v h) fun g h=>
  B.gd h b false (fun K=>B.ld h g fun v=>K v h) fun az h=>
  B.gd h b false (fun K=>B.newO h (zei [(0,none,aw)] (repL 1 [.str []])) fun i h=>K (.sl i 0 0 1 1 1) h) fun ba h=>
  B.gd h b false (fun K=>B.call C (N 553) [an,ba] h (B.zol h [(g,none)] K)) fun bb h=>
  B.gd h b false (fun K=>B.call C (N 133) [bb,az] h K) fun bc h=>
  B.gd h b false (fun K=>B.pv (V.un .not bc) fun v=>K v h) fun bd h=>
  B.pick b (.bool true) bd fun be=>
  B.cond be
  (Q (.bool false) h)
  (B.pv (V.bin .add f (.int .i64 1)) fun bf=>
  Y6 [bf] h))
  (zg.k12 C N Q Y5 j c v4 d h)
@[simp] def zg.l14 (C:CSem) (N:zN) (Q:zQ) (Y5:zL) (a b c d:AVal):zG
 | [e],h,Y6=>zg.k13 C N Q Y5 Y6 a b c d e h
 | _,_,_=>False
@[simp] def zg.k15 (C:CSem) (N:zN) (Q:zQ) (Y5:zL) (g a i b:AVal) (h:za):Prop:=
 B.pv (V.idxS 1 a b) fun c=>
  B.ld h c fun d=>
  B.pv (V.zcw d) fun e=>
  B.pv (V.bin .add i e) fun f=>
  zw (zg.l14 C N Q Y5 g a f b) [(.int .i64 0)] h
@[simp] def zg.k16 (C:CSem) (N:zN) (Q:zQ) (Y5:zL) (b a c d:AVal) (h:za):Prop:=
 B.pv (V.zcw a) fun e=>
  B.pv (V.bin .lss d e) fun f=>
  B.cond f
  (zg.k15 C N Q Y5 b a c d h)
  (zw (zg.l11 C N Q b a c) [(.int .i64 0),(.int .i64 0)] h)
@[simp] def zg.l17 (C:CSem) (N:zN) (Q:zQ) (a b:AVal):zG
 | [c,d],h,Y5=>zg.k16 C N Q Y5 a b c d h
 | _,_,_=>False
@[simp] def zg.k18 (C:CSem) (N:zN) (Q:zQ) (a:AVal) (h:za):Prop:=
 B.call C (N 555) [a,.nils] h fun b h=>
  B.cond b
  (Q (.bool true) h)
  (B.call C (N 554) [a] h fun c h=>
  zw (zg.l17 C N Q a c) [(.int .i64 0),(.int .i64 0)] h)
@[simp] def zg.cps (C:CSem) (N:zN) (c:AVal) (h:za) (Q:zQ):Prop:=
 B.call C (N 556) [] h fun a h=>
  B.pv (V.un .not a) fun b=>
  B.cond b
  (Q (.bool false) h)
  (zg.k18 C N Q c h)
def zg.Imp (C:CSem) (N:zN):Prop:=im1 C (N 557) (zg.cps C N)
@[simp] def zef.k1 (C:CSem) (N:zN) (Q:zQ) (h:za):Prop:=
 B.pv (A.bld [(0,none,(.str [65])),(1,none,(.int .i64 1))] [.str [],.int .i64 0,.nils,.nils]) fun a=>
  B.newO h (zei [(0,none,(.str [67]))] (repL 1 [.str []])) fun b h=>
  B.pv (A.bld [(0,none,(.str [66])),(1,none,(.int .i64 1)),(3,none,(.sl b 0 0 1 1 1))] [.str [],.int .i64 0,.nils,.nils]) fun c=>
  B.pv (A.bld [(0,none,(.str [67])),(1,none,(.int .i64 1))] [.str [],.int .i64 0,.nils,.nils]) fun d=>
  B.pv (A.bld [(0,none,(.str [68])),(1,none,(.int .i64 1))] [.str [],.int .i64 0,.nils,.nils]) fun e=>
  B.pv (A.bld [(0,none,(.str [65])),(1,none,(.int .i64 2))] [.str [],.int .i64 0]) fun f=>
  B.newO h (zei [(0,some 2,f)] (repL 1 [.str [],.int .i64 0])) fun g h=>
  B.pv (A.bld [(0,none,(.str [75])),(2,none,(.sl g 0 0 1 2 1))] [.str [],.int .i64 0,.nils,.nils]) fun i=>
  B.newO h (zei [(0,some 4,a),(4,some 4,c),(8,some 4,d),(12,some 4,e),(16,some 4,i)] (repL 5 [.str [],.int .i64 0,.nils,.nils])) fun j h=>
  Q (.sl j 0 0 5 4 5) h
@[simp] def zef.cps (C:CSem) (N:zN) (h:za) (Q:zQ):Prop:=
 zef.k1 C N Q h
def zef.Imp (C:CSem) (N:zN):Prop:=im0 C (N 562) (zef.cps C N)
@[simp] def zdk.k1 (C:CSem) (N:zN) (Q:zQ) (Y1:zL) (b m a:AVal) (h:za):Prop:=
 B.pv (V.zcw b) fun c=>
  B.pv (V.bin .lss a c) fun d=>
  B.cond d
  (B.pv (V.idxS 1 b a) fun e=>
  B.ld h e fun f=>
  B.pv (V.idxS 1 m a) fun g=>
  B.ld h g fun i=>
  B.call C (N 133) [f,i] h fun j h=>
  B.pv (V.un .not j) fun k=>
  B.cond k
  (Q (.bool false) h)
  (B.pv (V.bin .add a (.int .i64 1)) fun l=>
  Y1 [l] h))
  (Q (.bool true) h)
@[simp] def zdk.l2 (C:CSem) (N:zN) (Q:zQ) (a b:AVal):zG
 | [c],h,Y1=>zdk.k1 C N Q Y1 a b c h
 | _,_,_=>False
@[simp] def zdk.k3 (C:CSem) (N:zN) (Q:zQ) (a b:AVal) (h:za):Prop:=
 B.pv (V.zcw a) fun d=>
  B.pv (V.zcw b) fun e=>
  B.pv (V.bin .neq d e) fun c=>
  B.cond c
  (Q (.bool false) h)
  (zw (zdk.l2 C N Q a b) [(.int .i64 0)] h)
@[simp] def zdk.cps (C:CSem) (N:zN) (a b:AVal) (h:za) (Q:zQ):Prop:=
 zdk.k3 C N Q a b h
def zdk.Imp (C:CSem) (N:zN):Prop:=im2 C (N 563) (zdk.cps C N)
@[simp] def zbw.k1 (C:CSem) (N:zN) (Q:zQ) (Y1:zL) (Y2:zL) (e b c d:AVal) (h:za):Prop:=
 B.pv (V.idxS 4 e c) fun f=>
  B.pv (V.fieldAddr 3 f) fun g=>
  B.ld h g fun i=>
  B.pv (V.zcw i) fun j=>
  B.pv (V.bin .lss d j) fun a=>
  B.gd h a true (fun K=>K b h) fun k h=>
  B.gd h a true (fun K=>B.pv (V.bin .leq k (.int .i64 2000)) fun v=>K v h) fun l h=>
  B.pick a l (.bool false) fun m=>
  B.cond m
  (B.pv (V.idxS 4 e c) fun n=>
  B.pv (V.fieldAddr 3 n) fun o=>
  B.ld h o fun p=>
  B.pv (V.idxS 1 p d) fun q=>
  B.ld h q fun r=>
  B.pv (V.zj5 r) fun s=>
  B.pv (V.bin .quo s (.int .i64 20)) fun t=>
  B.pv (V.bin .add b t) fun u=>
  B.pv (V.bin .add d (.int .i64 1)) fun w=>
  Y2 [u,w] h)
  (B.pv (V.bin .add c (.int .i64 1)) fun x=>
  Y1 [b,x] h)
@[simp] def zbw.l2 (C:CSem) (N:zN) (Q:zQ) (Y1:zL) (a b:AVal):zG
 | [c,d],h,Y2=>zbw.k1 C N Q Y1 Y2 a c b d h
 | _,_,_=>False
@[simp] def zbw.k3 (C:CSem) (N:zN) (Q:zQ) (Y1:zL) (Y3:zL) (b c d e:AVal) (h:za):Prop:=
 B.pv (V.idxS 4 b d) fun f=>
  B.pv (V.fieldAddr 2 f) fun g=>
  B.ld h g fun i=>
  B.pv (V.zcw i) fun j=>
  B.pv (V.bin .lss e j) fun a=>
  B.gd h a true (fun K=>K c h) fun k h=>
  B.gd h a true (fun K=>B.pv (V.bin .leq k (.int .i64 2000)) fun v=>K v h) fun l h=>
  B.pick a l (.bool false) fun m=>
  B.cond m
  (B.pv (V.idxS 4 b d) fun n=>
  B.pv (V.fieldAddr 2 n) fun o=>
  B.ld h o fun p=>
  B.pv (V.idxS 2 p e) fun q=>
  B.pv (V.fieldAddr 0 q) fun r=>
  B.ld h r fun s=>
  B.pv (V.zj5 s) fun t=>
  B.pv (V.bin .quo t (.int .i64 20)) fun u=>
  B.pv (V.bin .add c u) fun w=>
  B.pv (V.bin .add e (.int .i64 1)) fun x=>
  Y3 [w,x] h)
  (zw (zbw.l2 C N Q Y1 b d) [c,(.int .i64 0)] h)
@[simp] def zbw.l4 (C:CSem) (N:zN) (Q:zQ) (Y1:zL) (a b:AVal):zG
 | [c,d],h,Y3=>zbw.k3 C N Q Y1 Y3 a c b d h
 | _,_,_=>False
@[simp] def zbw.k5 (C:CSem) (N:zN) (Q:zQ) (Y1:zL) (a u b:AVal) (h:za):Prop:=
 B.pv (V.bin .add u (.int .i64 1)) fun c=>
  B.pv (V.idxS 4 a b) fun d=>
  B.pv (V.fieldAddr 0 d) fun e=>
  B.ld h e fun f=>
  B.pv (V.zj5 f) fun g=>
  B.pv (V.bin .quo g (.int .i64 20)) fun i=>
  B.pv (V.bin .add c i) fun j=>
  B.pv (V.idxS 4 a b) fun k=>
  B.pv (V.fieldAddr 2 k) fun l=>
  B.ld h l fun m=>
  B.pv (V.zcw m) fun n=>
  B.pv (V.bin .add j n) fun o=>
  B.pv (V.idxS 4 a b) fun p=>
  B.pv (V.fieldAddr 3 p) fun q=>
  B.ld h q fun r=>
  B.pv (V.zcw r) fun s=>
  B.pv (V.bin .add o s) fun t=>
  zw (zbw.l4 C N Q Y1 a b) [t,(.int .i64 0)] h
@[simp] def zbw.k6 (C:CSem) (N:zN) (Q:zQ) (Y1:zL) (c b d:AVal) (h:za):Prop:=
 B.pv (V.zcw c) fun i=>
  B.pv (V.bin .lss d i) fun a=>
  B.gd h a true (fun K=>K b h) fun e h=>
  B.gd h a true (fun K=>B.pv (V.bin .leq e (.int .i64 2000)) fun v=>K v h) fun f h=>
  B.pick a f (.bool false) fun g=>
  B.cond g
  (zbw.k5 C N Q Y1 c b d h)
  (Q b h)
@[simp] def zbw.l7 (C:CSem) (N:zN) (Q:zQ) (a:AVal):zG
 | [b,c],h,Y1=>zbw.k6 C N Q Y1 a b c h
 | _,_,_=>False
@[simp] def zbw.cps (C:CSem) (N:zN) (a:AVal) (h:za) (Q:zQ):Prop:=
 zw (zbw.l7 C N Q a) [(.int .i64 0),(.int .i64 0)] h
def zbw.Imp (C:CSem) (N:zN):Prop:=im1 C (N 564) (zbw.cps C N)
@[simp] def zdy.k1 (C:CSem) (N:zN) (Q:zQ) (a:AVal) (h:za):Prop:=
 B.cond (.bool false)
  (B.pv (V.toInt .u32 a) fun b=>
  B.call C (N 304) [b] h fun c h=>
  Q c h)
  (B.call C (N 305) [a] h fun d h=>
  Q d h)
@[simp] def zdy.cps (C:CSem) (N:zN) (a:AVal) (h:za) (Q:zQ):Prop:=
 zdy.k1 C N Q a h
def zdy.Imp (C:CSem) (N:zN):Prop:=im1 C (N 287) (zdy.cps C N)
@[simp] def zbv.k1 (C:CSem) (N:zN) (Q:zQ) (e f:AVal) (h:za):Prop:=
 B.pv (V.toInt .u8 e) fun a=>
  B.pv (V.zm8 (.str [0,1,2,2,3,3,3,3,4,4,4,4,4,4,4,4,5,5,5,5,5,5,5,5,5,5,5,5,5,5,5,5,6,6,6,6,6,6,6,6,6,6,6,6,6,6,6,6,6,6,6,6,6,6,6,6,6,6,6,6,6,6,6,6,7,7,7,7,7,7,7,7,7,7,7,7,7,7,7,7,7,7,7,7,7,7,7,7,7,7,7,7,7,7,7,7,7,7,7,7,7,7,7,7,7,7,7,7,7,7,7,7,7,7,7,7,7,7,7,7,7,7,7,7,7,7,7,7,8,8,8,8,8,8,8,8,8,8,8,8,8,8,8,8,8,8,8,8,8,8,8,8,8,8,8,8,8,8,8,8,8,8,8,8,8,8,8,8,8,8,8,8,8,8,8,8,8,8,8,8,8,8,8,8,8,8,8,8,8,8,8,8,8,8,8,8,8,8,8,8,8,8,8,8,8,8,8,8,8,8,8,8,8,8,8,8,8,8,8,8,8,8,8,8,8,8,8,8,8,8,8,8,8,8,8,8,8,8,8,8,8,8,8,8,8,8,8,8,8,8,8,8,8,8,8,8]) a) fun b=>
  B.pv (V.toInt .i64 b) fun c=>
  B.pv (V.bin .add f c) fun d=>
  Q d h
@[simp] def zbv.k2 (C:CSem) (N:zN) (Q:zQ) (a b:AVal) (h:za):Prop:=
 B.pv (V.bin .geq a (.int .u64 256)) fun c=>
  B.cond c
  (B.pv (V.bin .shr a (.int .u64 8)) fun d=>
  B.pv (V.bin .add b (.int .i64 8)) fun e=>
  zbv.k1 C N Q d e h)
  (zbv.k1 C N Q a b h)
@[simp] def zbv.k3 (C:CSem) (N:zN) (Q:zQ) (a b:AVal) (h:za):Prop:=
 B.pv (V.bin .geq a (.int .u64 65536)) fun e=>
  B.cond e
  (B.pv (V.bin .shr a (.int .u64 16)) fun c=>
  B.pv (V.bin .add b (.int .i64 16)) fun d=>
  zbv.k2 C N Q c d h)
  (zbv.k2 C N Q a b h)
@[simp] def zbv.k4 (C:CSem) (N:zN) (Q:zQ) (a b:AVal) (h:za):Prop:=
 B.pv (V.bin .geq a (.int .u64 4294967296)) fun c=>
  B.cond c
  (B.pv (V.bin .shr a (.int .u64 32)) fun d=>
  zbv.k3 C N Q d (.int .i64 32) h)
  (zbv.k3 C N Q a b h)
@[simp] def zbv.cps (C:CSem) (N:zN) (a:AVal) (h:za) (Q:zQ):Prop:=
 zbv.k4 C N Q a (.int .i64 0) h
def zbv.Imp (C:CSem) (N:zN):Prop:=im1 C (N 305) (zbv.cps C N)
@[simp] def zke.cps (C:CSem) (E:zz) (a:AVal) (h:za) (Q:zQ):Prop:=
 B.pv (V.eqSl .eql a .nils) fun b=>
  B.cond b
  (Q .nils h)
  (B.appW h E.es E.bytes .sz a fun c h=>
  Q c h)
@[simp] def zbf.k1 (C:CSem) (E:zz) (Q:zQ) (Y1:zL) (Y2:zL) (c v1 v2 v3 v8 b:AVal) (h:za):Prop:=
 B.pv (V.bin .gtr b v1) fun a=>
  B.gd h a true (fun K=>K v3 h) fun d h=>
  B.gd h a true (fun K=>K c h) fun e h=>
  B.gd h a true (fun K=>K b h) fun f h=>
  B.gd h a true (fun K=>B.pv (V.idxS E.es e f) fun v=>K v h) fun g h=>
  B.gd h a true (fun K=>E.ld h g fun v=>K v h) fun i h=>
  B.gd h a true (fun K=>K c h) fun j h=>
  B.gd h a true (fun K=>K b h) fun k h=>
  B.gd h a true (fun K=>B.pv (V.bin .sub k (.int .i64 1)) fun v=>K v h) fun l h=>
  B.gd h a true (fun K=>B.pv (V.idxS E.es j l) fun v=>K v h) fun m h=>
  B.gd h a true (fun K=>E.ld h m fun v=>K v h) fun n h=>
  B.gd h a true (fun K=>B.zf1 h C d [i,n] K) fun o h=>
  B.gd h a true (fun K=>B.pv (V.bin .lss o (.int .i64 0)) fun v=>K v h) fun p h=>
  B.pick a p (.bool false) fun q=>
  B.cond q
  (B.pv (V.bin .sub b (.int .i64 1)) fun r=>
  B.pv (V.bin .sub b (.int .i64 1)) fun s=>
  B.pv (V.idxS E.es c s) fun t=>
  E.ld h t fun u=>
  B.pv (V.idxS E.es c b) fun w=>
  E.ld h w fun x=>
  B.pv (V.idxS E.es c b) fun y=>
  E.st h y u fun h=>
  B.pv (V.idxS E.es c r) fun z=>
  E.st h z x fun h=>
  B.pv (V.bin .sub b (.int .i64 1)) fun aa=>
  Y2 [aa] h)
  (B.pv (V.bin .add v8 (.int .i64 1)) fun ab=>
  Y1 [ab] h)
@[simp] def zbf.l2 (C:CSem) (E:zz) (Q:zQ) (Y1:zL) (a b c d e:AVal):zG
 | [f],h,Y2=>zbf.k1 C E Q Y1 Y2 a b c d e f h
 | _,_,_=>False
@[simp] def zbf.l3 (C:CSem) (E:zz) (Q:zQ) (d e b f:AVal):zG
 | [a],h,Y1=>B.pv (V.bin .lss a b) fun c=>
  B.cond c
  (zw (zbf.l2 C E Q Y1 d e b f a) [a] h)
  (Q (.tup []) h)
 | _,_,_=>False
@[simp] def zbf.cps (C:CSem) (E:zz) (c a d e:AVal) (h:za) (Q:zQ):Prop:=
 B.pv (V.bin .add a (.int .i64 1)) fun b=>
  zw (zbf.l3 C E Q c a d e) [b] h
@[simp] def zb3.k1 (C:CSem) (E:zz) (Q:zQ) (Y1:zL) (f g i a:AVal) (h:za):Prop:=
 B.pv (V.bin .lss a i) fun j=>
  B.cond j
  (B.pv (V.idxS E.es f a) fun b=>
  E.ld h b fun c=>
  B.zf1 h C g [c] fun d h=>
  B.cond d
  (Q a h)
  (B.pv (V.bin .add a (.int .i64 1)) fun e=>
  Y1 [e] h))
  (Q (.int .i64 (-1)) h)
@[simp] def zb3.l2 (C:CSem) (E:zz) (Q:zQ) (a b c:AVal):zG
 | [d],h,Y1=>zb3.k1 C E Q Y1 a b c d h
 | _,_,_=>False
@[simp] def zb3.cps (C:CSem) (E:zz) (a b:AVal) (h:za) (Q:zQ):Prop:=
 B.pv (V.zcw a) fun c=>
  zw (zb3.l2 C E Q a b c) [(.int .i64 0)] h
@[simp] def zim.cps (C:CSem) (E:zz) (f1:Nat) (a b:AVal) (h:za) (Q:zQ):Prop:=
 B.call C f1 [a,b] h fun c h=>
  B.pv (V.bin .geq c (.int .i64 0)) fun d=>
  Q d h
@[simp] def zfn.k1 (C:CSem) (E:zz) (f1 f2:Nat) (Q:zQ) (a e:AVal) (h:za):Prop:=
 B.pv (V.zcw a) fun b=>
  B.pv (V.toInt .u64 b) fun c=>
  B.call C f1 [c] h fun d h=>
  B.call C f2 [a,(.int .i64 0),b,d,e] h fun f h=>
  Q (.tup []) h
@[simp] def zfn.cps (C:CSem) (E:zz) (f1 f2:Nat) (a b:AVal) (h:za) (Q:zQ):Prop:=
 zfn.k1 C E f1 f2 Q a b h
@[simp] def zm.k1 (C:CSem) (E:zz) (f1 f2 f3 f4 f5 f6 f7 f8 f9:Nat) (Q:zQ) (Y1:zL) (d c e f g u w x i:AVal) (h:za):Prop:=
 B.pv (V.bin .gtr c (.int .i64 0)) fun a=>
  B.gd h a true (fun K=>K g h) fun y h=>
  B.gd h a true (fun K=>K d h) fun z h=>
  B.gd h a true (fun K=>K c h) fun aa h=>
  B.gd h a true (fun K=>B.pv (V.bin .sub aa (.int .i64 1)) fun v=>K v h) fun ab h=>
  B.gd h a true (fun K=>B.pv (V.idxS E.es z ab) fun v=>K v h) fun ac h=>
  B.gd h a true (fun K=>E.ld h ac fun v=>K v h) fun ad h=>
  B.gd h a true (fun K=>K d h) fun ae h=>
  B.gd h a true (fun K=>K i h) fun af h=>
  B.gd h a true (fun K=>B.pv (V.idxS E.es ae af) fun v=>K v h) fun ag h=>
  B.gd h a true (fun K=>E.ld h ag fun v=>K v h) fun ah h=>
  B.gd h a true (fun K=>B.zf1 h C y [ad,ah] K) fun ai h=>
  B.gd h a true (fun K=>B.pv (V.bin .lss ai (.int .i64 0)) fun v=>K v h) fun aj h=>
  B.gd h a true (fun K=>B.pv (V.un .not aj) fun v=>K v h) fun ak h=>
  B.pick a ak (.bool false) fun al=>
  B.cond al
  (B.call C f1 [d,c,e,i,g] h fun o h=>
  Y1 [o,e,f,u,w] h)
  (B.call C f2 [d,c,e,i,g] h fun j h=>
  B.pv (V.ext 0 j) fun b=>
  B.pv (V.ext 1 j) fun k=>
  B.pv (V.bin .sub b c) fun l=>
  B.pv (V.bin .sub e b) fun m=>
  B.pv (V.bin .quo x (.int .i64 8)) fun n=>
  B.pv (V.bin .lss l m) fun p=>
  B.cond p
  (B.pv (V.bin .geq l n) fun q=>
  B.call C f3 [d,c,b,f,g] h fun am h=>
  B.pv (V.bin .add b (.int .i64 1)) fun r=>
  Y1 [r,e,f,q,k] h)
  (B.pv (V.bin .geq m n) fun s=>
  B.pv (V.bin .add b (.int .i64 1)) fun t=>
  B.call C f3 [d,t,e,f,g] h fun an h=>
  Y1 [c,b,f,s,k] h))
@[simp] def zm.k2 (C:CSem) (E:zz) (f1 f2 f3 f4 f5 f6 f7 f8 f9:Nat) (Q:zQ) (Y1:zL) (f g i k j a b d e l:AVal) (h:za):Prop:=
 B.gd h a true (fun K=>K b h) fun m h=>
  B.pick a m (.bool false) fun c=>
  B.gd h c true (fun K=>K l h) fun n h=>
  B.gd h c true (fun K=>B.pv (V.bin .eql n (.int .i64 1)) fun v=>K v h) fun o h=>
  B.pick c o (.bool false) fun p=>
  B.cond p
  (B.call C f4 [f,g,i,j] h fun q h=>
  B.cond q
  (Q (.tup []) h)
  (zm.k1 C E f1 f2 f3 f4 f5 f6 f7 f8 f9 Q Y1 f g i k j a b d e h))
  (zm.k1 C E f1 f2 f3 f4 f5 f6 f7 f8 f9 Q Y1 f g i k j a b d e h)
@[simp] def zm.k3 (C:CSem) (E:zz) (f1 f2 f3 f4 f5 f6 f7 f8 f9:Nat) (Q:zQ) (Y1:zL) (i a b k j c d e f g:AVal) (h:za):Prop:=
 B.pv (V.bin .eql g (.int .i64 2)) fun l=>
  B.cond l
  (B.call C f5 [i,a,b,j] h fun p h=>
  B.pv (V.bin .sub b (.int .i64 1)) fun m=>
  B.pv (V.bin .sub f a) fun n=>
  B.pv (V.bin .sub m n) fun o=>
  zm.k2 C E f1 f2 f3 f4 f5 f6 f7 f8 f9 Q Y1 i a b k j c d e o (.int .i64 1) h)
  (zm.k2 C E f1 f2 f3 f4 f5 f6 f7 f8 f9 Q Y1 i a b k j c d e f g h)
@[simp] def zm.k4 (C:CSem) (E:zz) (f1 f2 f3 f4 f5 f6 f7 f8 f9:Nat) (Q:zQ) (Y1:zL) (b c d l e f g i:AVal) (h:za):Prop:=
 B.call C f6 [b,c,d,e] h fun a h=>
  B.pv (V.ext 0 a) fun j=>
  B.pv (V.ext 1 a) fun k=>
  zm.k3 C E f1 f2 f3 f4 f5 f6 f7 f8 f9 Q Y1 b c d l e f g i j k h
@[simp] def zm.k5 (C:CSem) (E:zz) (f1 f2 f3 f4 f5 f6 f7 f8 f9:Nat) (Q:zQ) (Y1:zL) (d e f i g a b c:AVal) (h:za):Prop:=
 B.pv (V.un .not a) fun j=>
  B.cond j
  (B.call C f7 [d,e,f,g] h fun l h=>
  B.pv (V.bin .sub i (.int .i64 1)) fun k=>
  zm.k4 C E f1 f2 f3 f4 f5 f6 f7 f8 f9 Q Y1 d e f k g a b c h)
  (zm.k4 C E f1 f2 f3 f4 f5 f6 f7 f8 f9 Q Y1 d e f i g a b c h)
@[simp] def zm.k6 (C:CSem) (E:zz) (f1 f2 f3 f4 f5 f6 f7 f8 f9:Nat) (Q:zQ) (Y1:zL) (a b c d e f g i:AVal) (h:za):Prop:=
 B.pv (V.bin .eql d (.int .i64 0)) fun j=>
  B.cond j
  (B.call C f8 [a,b,c,e] h fun k h=>
  Q (.tup []) h)
  (zm.k5 C E f1 f2 f3 f4 f5 f6 f7 f8 f9 Q Y1 a b c d e f g i h)
@[simp] def zm.k7 (C:CSem) (E:zz) (f1 f2 f3 f4 f5 f6 f7 f8 f9:Nat) (Q:zQ) (Y1:zL) (b c d j e f g a:AVal) (h:za):Prop:=
 B.pv (V.bin .leq a (.int .i64 12)) fun i=>
  B.cond i
  (B.call C f9 [b,c,d,e] h fun k h=>
  Q (.tup []) h)
  (zm.k6 C E f1 f2 f3 f4 f5 f6 f7 f8 f9 Q Y1 b c d j e f g a h)
@[simp] def zm.l8 (C:CSem) (E:zz) (f1 f2 f3 f4 f5 f6 f7 f8 f9:Nat) (Q:zQ) (f g:AVal):zG
 | [a,b,i,c,d],h,Y1=>B.pv (V.bin .sub b a) fun e=>
  zm.k7 C E f1 f2 f3 f4 f5 f6 f7 f8 f9 Q Y1 f a b i g c d e h
 | _,_,_=>False
@[simp] def zm.cps (C:CSem) (E:zz) (f1 f2 f3 f4 f5 f6 f7 f8 f9:Nat) (a b c d e:AVal) (h:za) (Q:zQ):Prop:=
 zw (zm.l8 C E f1 f2 f3 f4 f5 f6 f7 f8 f9 Q a e) [b,c,d,(.bool true),(.bool true)] h
@[simp] def zbb.k1 (C:CSem) (E:zz) (f1:Nat) (Q:zQ) (Y1:zL) (b o c p a:AVal) (h:za):Prop:=
 B.pv (V.bin .geq a (.int .i64 0)) fun d=>
  B.cond d
  (B.pv (V.bin .add c a) fun e=>
  B.pv (V.bin .add c a) fun f=>
  B.pv (V.idxS E.es b f) fun g=>
  E.ld h g fun i=>
  B.pv (V.idxS E.es b c) fun j=>
  E.ld h j fun k=>
  B.pv (V.idxS E.es b c) fun l=>
  E.st h l i fun h=>
  B.pv (V.idxS E.es b e) fun m=>
  E.st h m k fun h=>
  B.call C f1 [b,p,a,c,o] h fun q h=>
  B.pv (V.bin .sub a (.int .i64 1)) fun n=>
  Y1 [n] h)
  (Q (.tup []) h)
@[simp] def zbb.l2 (C:CSem) (E:zz) (f1:Nat) (Q:zQ) (b c d e:AVal):zG
 | [a],h,Y1=>zbb.k1 C E f1 Q Y1 b c d e a h
 | _,_,_=>False
@[simp] def zbb.k3 (C:CSem) (E:zz) (f1:Nat) (Q:zQ) (Y2:zL) (c d e j b a:AVal) (h:za):Prop:=
 B.pv (V.bin .geq a (.int .i64 0)) fun f=>
  B.cond f
  (B.call C f1 [c,a,b,e,d] h fun k h=>
  B.pv (V.bin .sub a (.int .i64 1)) fun g=>
  Y2 [g] h)
  (B.pv (V.bin .sub b (.int .i64 1)) fun i=>
  zw (zbb.l2 C E f1 Q c d e j) [i] h)
@[simp] def zbb.l4 (C:CSem) (E:zz) (f1:Nat) (Q:zQ) (c d e f a:AVal):zG
 | [b],h,Y2=>zbb.k3 C E f1 Q Y2 c d e f a b h
 | _,_,_=>False
@[simp] def zbb.k5 (C:CSem) (E:zz) (f1:Nat) (Q:zQ) (d e f g a:AVal) (h:za):Prop:=
 B.pv (V.bin .sub a (.int .i64 1)) fun b=>
  B.pv (V.bin .quo b (.int .i64 2)) fun c=>
  zw (zbb.l4 C E f1 Q d e f g a) [c] h
@[simp] def zbb.cps (C:CSem) (E:zz) (f1:Nat) (c a d e:AVal) (h:za) (Q:zQ):Prop:=
 B.pv (V.bin .sub d a) fun b=>
  zbb.k5 C E f1 Q c e a (.int .i64 0) b h
@[simp] def zk.k1 (C:CSem) (E:zz) (f1 f2:Nat) (Q:zQ) (Y1:zL) (b d p q o a c:AVal) (h:za):Prop:=
 B.pv (V.bin .add d c) fun e=>
  B.pv (V.bin .add d c) fun f=>
  B.pv (V.idxS E.es b f) fun g=>
  E.ld h g fun i=>
  B.pv (V.idxS E.es b a) fun j=>
  E.ld h j fun k=>
  B.pv (V.idxS E.es b a) fun l=>
  E.st h l i fun h=>
  B.pv (V.idxS E.es b e) fun m=>
  E.st h m k fun h=>
  B.pv (V.bin .add a (.int .i64 1)) fun n=>
  Y1 [n] h
@[simp] def zk.k2 (C:CSem) (E:zz) (f1 f2:Nat) (Q:zQ) (Y1:zL) (e f b g c d a:AVal) (h:za):Prop:=
 B.pv (V.bin .geq a b) fun i=>
  B.cond i
  (B.pv (V.bin .sub a b) fun j=>
  zk.k1 C E f1 f2 Q Y1 e f b g c d j h)
  (zk.k1 C E f1 f2 Q Y1 e f b g c d a h)
@[simp] def zk.k3 (C:CSem) (E:zz) (f1 f2:Nat) (Q:zQ) (Y1:zL) (i j k b a c:AVal) (h:za):Prop:=
 B.call C f1 [b] h fun d h=>
  B.pv (V.bin .sub a (.int .u64 1)) fun e=>
  B.pv (V.bin .and d e) fun f=>
  B.pv (V.toInt .i64 f) fun g=>
  zk.k2 C E f1 f2 Q Y1 i j k b a c g h
@[simp] def zk.k4 (C:CSem) (E:zz) (f1 f2:Nat) (Q:zQ) (Y1:zL) (k b c l d a:AVal) (h:za):Prop:=
 B.pv (V.bin .quo c (.int .i64 4)) fun e=>
  B.pv (V.bin .mul e (.int .i64 2)) fun f=>
  B.pv (V.bin .add b f) fun g=>
  B.pv (V.bin .add g (.int .i64 1)) fun i=>
  B.pv (V.bin .leq a i) fun j=>
  B.cond j
  (zk.k3 C E f1 f2 Q Y1 k b c l d a h)
  (Q (.tup []) h)
@[simp] def zk.l5 (C:CSem) (E:zz) (f1 f2:Nat) (Q:zQ) (c d e f a:AVal):zG
 | [b],h,Y1=>zk.k4 C E f1 f2 Q Y1 c d e f a b h
 | _,_,_=>False
@[simp] def zk.k6 (C:CSem) (E:zz) (f1 f2:Nat) (Q:zQ) (i a b j c:AVal) (h:za):Prop:=
 B.pv (V.bin .quo b (.int .i64 4)) fun d=>
  B.pv (V.bin .mul d (.int .i64 2)) fun e=>
  B.pv (V.bin .add a e) fun f=>
  B.pv (V.bin .sub f (.int .i64 1)) fun g=>
  zw (zk.l5 C E f1 f2 Q i a b j c) [g] h
@[simp] def zk.k7 (C:CSem) (E:zz) (f1 f2:Nat) (Q:zQ) (e f a:AVal) (h:za):Prop:=
 B.pv (V.toInt .u64 a) fun b=>
  B.newO h (some [.int .u64 0]) fun c h=>
  B.st h (.ptr c 0 0) b fun h=>
  B.call C f2 [a] h fun d h=>
  zk.k6 C E f1 f2 Q e f a (.ptr c 0 0) d h
@[simp] def zk.k8 (C:CSem) (E:zz) (f1 f2:Nat) (Q:zQ) (d b e:AVal) (h:za):Prop:=
 B.pv (V.bin .sub e b) fun a=>
  B.pv (V.bin .geq a (.int .i64 8)) fun c=>
  B.cond c (zk.k7 C E f1 f2 Q d b a h) (Q (.tup []) h)
@[simp] def zk.cps (C:CSem) (E:zz) (f1 f2:Nat) (a b c d:AVal) (h:za) (Q:zQ):Prop:=
 zk.k8 C E f1 f2 Q a b c h
@[simp] def zo.k1 (C:CSem) (E:zz) (f1 f2:Nat) (Q:zQ) (c a:AVal) (h:za):Prop:=
 B.ld h c fun b=>
  B.pv (V.bin .eql b (.int .i64 0)) fun d=>
  B.cond d
  (Q (.tup [a,(.int .i64 1)]) h)
  (B.pv (V.bin .eql b (.int .i64 12)) fun e=>
  B.cond e
  (Q (.tup [a,(.int .i64 2)]) h)
  (Q (.tup [a,(.int .i64 0)]) h))
@[simp] def zo.k2 (C:CSem) (E:zz) (f1 f2:Nat) (Q:zQ) (b c i a e f g:AVal) (h:za):Prop:=
 B.pv (V.bin .geq i (.int .i64 50)) fun j=>
  B.cond j
  (B.call C f2 [b,e,a,c] h fun k h=>
  B.call C f2 [b,f,a,c] h fun l h=>
  B.call C f2 [b,g,a,c] h fun m h=>
  B.call C f1 [b,k,l,m,a,c] h fun d h=>
  zo.k1 C E f1 f2 Q a d h)
  (B.call C f1 [b,e,f,g,a,c] h fun d h=>
  zo.k1 C E f1 f2 Q a d h)
@[simp] def zo.k3 (C:CSem) (E:zz) (f1 f2:Nat) (Q:zQ) (g i a b d c e:AVal) (h:za):Prop:=
 B.pv (V.bin .geq a (.int .i64 8)) fun f=>
  B.cond f (zo.k2 C E f1 f2 Q g i a b d c e h) (zo.k1 C E f1 f2 Q b c h)
@[simp] def zo.k4 (C:CSem) (E:zz) (f1 f2:Nat) (Q:zQ) (i j k a b c d:AVal) (h:za):Prop:=
 B.pv (V.bin .quo a (.int .i64 4)) fun e=>
  B.pv (V.bin .mul e (.int .i64 3)) fun f=>
  B.pv (V.bin .add j f) fun g=>
  zo.k3 C E f1 f2 Q i k a b c d g h
@[simp] def zo.k5 (C:CSem) (E:zz) (f1 f2:Nat) (Q:zQ) (i b j a c d:AVal) (h:za):Prop:=
 B.pv (V.bin .quo a (.int .i64 4)) fun e=>
  B.pv (V.bin .mul e (.int .i64 2)) fun f=>
  B.pv (V.bin .add b f) fun g=>
  zo.k4 C E f1 f2 Q i b j a c d g h
@[simp] def zo.k6 (C:CSem) (E:zz) (f1 f2:Nat) (Q:zQ) (g b i a c:AVal) (h:za):Prop:=
 B.pv (V.bin .quo a (.int .i64 4)) fun d=>
  B.pv (V.bin .mul d (.int .i64 1)) fun e=>
  B.pv (V.bin .add b e) fun f=>
  zo.k5 C E f1 f2 Q g b i a c f h
@[simp] def zo.cps (C:CSem) (E:zz) (f1 f2:Nat) (d a e f:AVal) (h:za) (Q:zQ):Prop:=
 B.pv (V.bin .sub e a) fun b=>
  B.newO h (some [.int .i64 0]) fun c h=>
  zo.k6 C E f1 f2 Q d a f b (.ptr c 0 0) h
@[simp] def zck.k1 (C:CSem) (E:zz) (Q:zQ) (Y1:zL) (a b c:AVal) (h:za):Prop:=
 B.pv (V.bin .lss b c) fun d=>
  B.cond d
  (B.pv (V.idxS E.es a c) fun e=>
  E.ld h e fun f=>
  B.pv (V.idxS E.es a b) fun g=>
  E.ld h g fun i=>
  B.pv (V.idxS E.es a b) fun j=>
  E.st h j f fun h=>
  B.pv (V.idxS E.es a c) fun k=>
  E.st h k i fun h=>
  B.pv (V.bin .add b (.int .i64 1)) fun l=>
  B.pv (V.bin .sub c (.int .i64 1)) fun m=>
  Y1 [l,m] h)
  (Q (.tup []) h)
@[simp] def zck.l2 (C:CSem) (E:zz) (Q:zQ) (a:AVal):zG
 | [b,c],h,Y1=>zck.k1 C E Q Y1 a b c h
 | _,_,_=>False
@[simp] def zck.cps (C:CSem) (E:zz) (b c d e:AVal) (h:za) (Q:zQ):Prop:=
 B.pv (V.bin .sub d (.int .i64 1)) fun a=>
  zw (zck.l2 C E Q b) [c,a] h
@[simp] def zb.k1 (C:CSem) (E:zz) (Q:zQ) (Y1:zL) (Y2:zL) (b v1 y z x d a:AVal) (h:za):Prop:=
 B.pv (V.bin .lss a y) fun e=>
  B.cond e
  (B.pv (V.idxS E.es b a) fun f=>
  E.ld h f fun g=>
  B.pv (V.bin .sub a (.int .i64 1)) fun i=>
  B.pv (V.idxS E.es b i) fun j=>
  E.ld h j fun k=>
  B.zf1 h C z [g,k] fun l h=>
  B.pv (V.bin .lss l (.int .i64 0)) fun m=>
  B.pv (V.un .not m) fun n=>
  B.cond n
  (B.pv (V.bin .add d (.int .i64 1)) fun c=>
  Y1 [x,c] h)
  (B.pv (V.bin .sub a (.int .i64 1)) fun o=>
  B.pv (V.bin .sub a (.int .i64 1)) fun p=>
  B.pv (V.idxS E.es b p) fun q=>
  E.ld h q fun r=>
  B.pv (V.idxS E.es b a) fun s=>
  E.ld h s fun t=>
  B.pv (V.idxS E.es b a) fun u=>
  E.st h u r fun h=>
  B.pv (V.idxS E.es b o) fun v=>
  E.st h v t fun h=>
  B.pv (V.bin .add a (.int .i64 1)) fun w=>
  Y2 [w] h))
  (B.pv (V.bin .add d (.int .i64 1)) fun c=>
  Y1 [x,c] h)
@[simp] def zb.l2 (C:CSem) (E:zz) (Q:zQ) (Y1:zL) (c d e f g a:AVal):zG
 | [b],h,Y2=>zb.k1 C E Q Y1 Y2 c d e f g a b h
 | _,_,_=>False
@[simp] def zb.k3 (C:CSem) (E:zz) (Q:zQ) (Y1:zL) (i j f k a b:AVal) (h:za):Prop:=
 B.pv (V.bin .sub f a) fun c=>
  B.pv (V.bin .geq c (.int .i64 2)) fun d=>
  B.cond d (B.pv (V.bin .add a (.int .i64 1)) fun e=>
  zw (zb.l2 C E Q Y1 i j f k a b) [e] h) (B.pv (V.bin .add b (.int .i64 1)) fun g=>
  Y1 [a,g] h)
@[simp] def zb.k4 (C:CSem) (E:zz) (Q:zQ) (Y1:zL) (Y3:zL) (b f g d i c a:AVal) (h:za):Prop:=
 B.pv (V.bin .geq a (.int .i64 1)) fun j=>
  B.cond j
  (B.pv (V.idxS E.es b a) fun k=>
  E.ld h k fun l=>
  B.pv (V.bin .sub a (.int .i64 1)) fun m=>
  B.pv (V.idxS E.es b m) fun n=>
  E.ld h n fun o=>
  B.zf1 h C d [l,o] fun p h=>
  B.pv (V.bin .lss p (.int .i64 0)) fun q=>
  B.pv (V.un .not q) fun r=>
  B.cond r
  (zb.k3 C E Q Y1 b f g d i c h)
  (B.pv (V.bin .sub a (.int .i64 1)) fun s=>
  B.pv (V.bin .sub a (.int .i64 1)) fun t=>
  B.pv (V.idxS E.es b t) fun u=>
  E.ld h u fun v=>
  B.pv (V.idxS E.es b a) fun w=>
  E.ld h w fun x=>
  B.pv (V.idxS E.es b a) fun y=>
  E.st h y v fun h=>
  B.pv (V.idxS E.es b s) fun e=>
  E.st h e x fun h=>
  B.pv (V.bin .sub a (.int .i64 1)) fun z=>
  Y3 [z] h))
  (zb.k3 C E Q Y1 b f g d i c h)
@[simp] def zb.l5 (C:CSem) (E:zz) (Q:zQ) (Y1:zL) (c d e f g a:AVal):zG
 | [b],h,Y3=>zb.k4 C E Q Y1 Y3 c d e f g a b h
 | _,_,_=>False
@[simp] def zb.k6 (C:CSem) (E:zz) (Q:zQ) (Y1:zL) (d c e f a b:AVal) (h:za):Prop:=
 B.pv (V.bin .sub a c) fun g=>
  B.pv (V.bin .geq g (.int .i64 2)) fun i=>
  B.cond i (B.pv (V.bin .sub a (.int .i64 1)) fun j=>
  zw (zb.l5 C E Q Y1 d c e f a b) [j] h) (zb.k3 C E Q Y1 d c e f a b h)
@[simp] def zb.k7 (C:CSem) (E:zz) (Q:zQ) (Y1:zL) (a m n o b c:AVal) (h:za):Prop:=
 B.pv (V.bin .sub b (.int .i64 1)) fun d=>
  B.pv (V.bin .sub b (.int .i64 1)) fun e=>
  B.pv (V.idxS E.es a e) fun f=>
  E.ld h f fun g=>
  B.pv (V.idxS E.es a b) fun i=>
  E.ld h i fun j=>
  B.pv (V.idxS E.es a b) fun k=>
  E.st h k g fun h=>
  B.pv (V.idxS E.es a d) fun l=>
  E.st h l j fun h=>
  zb.k6 C E Q Y1 a m n o b c h
@[simp] def zb.k8 (C:CSem) (E:zz) (Q:zQ) (Y1:zL) (f a b g i c:AVal) (h:za):Prop:=
 B.pv (V.bin .sub b a) fun d=>
  B.pv (V.bin .lss d (.int .i64 50)) fun e=>
  B.cond e
  (Q (.bool false) h)
  (zb.k7 C E Q Y1 f a b g i c h)
@[simp] def zb.k9 (C:CSem) (E:zz) (Q:zQ) (Y1:zL) (Y4:zL) (c y d e b f:AVal) (h:za):Prop:=
 B.pv (V.bin .lss b d) fun a=>
  B.gd h a true (fun K=>K e h) fun g h=>
  B.gd h a true (fun K=>K c h) fun i h=>
  B.gd h a true (fun K=>K b h) fun j h=>
  B.gd h a true (fun K=>B.pv (V.idxS E.es i j) fun v=>K v h) fun k h=>
  B.gd h a true (fun K=>E.ld h k fun v=>K v h) fun l h=>
  B.gd h a true (fun K=>K c h) fun m h=>
  B.gd h a true (fun K=>K b h) fun n h=>
  B.gd h a true (fun K=>B.pv (V.bin .sub n (.int .i64 1)) fun v=>K v h) fun o h=>
  B.gd h a true (fun K=>B.pv (V.idxS E.es m o) fun v=>K v h) fun p h=>
  B.gd h a true (fun K=>E.ld h p fun v=>K v h) fun q h=>
  B.gd h a true (fun K=>B.zf1 h C g [l,q] K) fun r h=>
  B.gd h a true (fun K=>B.pv (V.bin .lss r (.int .i64 0)) fun v=>K v h) fun s h=>
  B.gd h a true (fun K=>B.pv (V.un .not s) fun v=>K v h) fun t h=>
  B.pick a t (.bool false) fun u=>
  B.cond u
  (B.pv (V.bin .add b (.int .i64 1)) fun w=>
  Y4 [w] h)
  (B.pv (V.bin .eql b d) fun x=>
  B.cond x
  (Q (.bool true) h)
  (zb.k8 C E Q Y1 c y d e b f h))
@[simp] def zb.l10 (C:CSem) (E:zz) (Q:zQ) (Y1:zL) (b c d e a:AVal):zG
 | [f],h,Y4=>zb.k9 C E Q Y1 Y4 b c d e f a h
 | _,_,_=>False
@[simp] def zb.k11 (C:CSem) (E:zz) (Q:zQ) (Y1:zL) (c d e f g a:AVal) (h:za):Prop:=
 B.pv (V.bin .lss a (.int .i64 5)) fun b=>
  B.cond b
  (zw (zb.l10 C E Q Y1 c d e f a) [g] h)
  (Q (.bool false) h)
@[simp] def zb.l12 (C:CSem) (E:zz) (Q:zQ) (b c d e:AVal):zG
 | [f,a],h,Y1=>zb.k11 C E Q Y1 b c d e f a h
 | _,_,_=>False
@[simp] def zb.cps (C:CSem) (E:zz) (c a d e:AVal) (h:za) (Q:zQ):Prop:=
 B.pv (V.bin .add a (.int .i64 1)) fun b=>
  zw (zb.l12 C E Q c a d e) [b,(.int .i64 0)] h
@[simp] def zj.k1 (C:CSem) (E:zz) (Q:zQ) (Y1:zL) (c n o a b:AVal) (h:za):Prop:=
 B.pv (V.bin .gtr a b) fun d=>
  B.cond d
  (Q a h)
  (B.pv (V.idxS E.es c b) fun e=>
  E.ld h e fun f=>
  B.pv (V.idxS E.es c a) fun g=>
  E.ld h g fun i=>
  B.pv (V.idxS E.es c a) fun j=>
  E.st h j f fun h=>
  B.pv (V.idxS E.es c b) fun k=>
  E.st h k i fun h=>
  B.pv (V.bin .add a (.int .i64 1)) fun l=>
  B.pv (V.bin .sub b (.int .i64 1)) fun m=>
  Y1 [l,m] h)
@[simp] def zj.k2 (C:CSem) (E:zz) (Q:zQ) (Y1:zL) (Y2:zL) (d e f c b:AVal) (h:za):Prop:=
 B.pv (V.bin .leq c b) fun a=>
  B.gd h a true (fun K=>K f h) fun g h=>
  B.gd h a true (fun K=>K d h) fun i h=>
  B.gd h a true (fun K=>K e h) fun j h=>
  B.gd h a true (fun K=>B.pv (V.idxS E.es i j) fun v=>K v h) fun k h=>
  B.gd h a true (fun K=>E.ld h k fun v=>K v h) fun l h=>
  B.gd h a true (fun K=>K d h) fun m h=>
  B.gd h a true (fun K=>K b h) fun n h=>
  B.gd h a true (fun K=>B.pv (V.idxS E.es m n) fun v=>K v h) fun o h=>
  B.gd h a true (fun K=>E.ld h o fun v=>K v h) fun p h=>
  B.gd h a true (fun K=>B.zf1 h C g [l,p] K) fun q h=>
  B.gd h a true (fun K=>B.pv (V.bin .lss q (.int .i64 0)) fun v=>K v h) fun r h=>
  B.pick a r (.bool false) fun s=>
  B.cond s
  (B.pv (V.bin .sub b (.int .i64 1)) fun t=>
  Y2 [t] h)
  (zj.k1 C E Q Y1 d e f c b h)
@[simp] def zj.l3 (C:CSem) (E:zz) (Q:zQ) (Y1:zL) (c d e a:AVal):zG
 | [b],h,Y2=>zj.k2 C E Q Y1 Y2 c d e a b h
 | _,_,_=>False
@[simp] def zj.k4 (C:CSem) (E:zz) (Q:zQ) (Y1:zL) (Y3:zL) (d e f b c:AVal) (h:za):Prop:=
 B.pv (V.bin .leq b c) fun a=>
  B.gd h a true (fun K=>K f h) fun g h=>
  B.gd h a true (fun K=>K d h) fun i h=>
  B.gd h a true (fun K=>K e h) fun j h=>
  B.gd h a true (fun K=>B.pv (V.idxS E.es i j) fun v=>K v h) fun k h=>
  B.gd h a true (fun K=>E.ld h k fun v=>K v h) fun l h=>
  B.gd h a true (fun K=>K d h) fun m h=>
  B.gd h a true (fun K=>K b h) fun n h=>
  B.gd h a true (fun K=>B.pv (V.idxS E.es m n) fun v=>K v h) fun o h=>
  B.gd h a true (fun K=>E.ld h o fun v=>K v h) fun p h=>
  B.gd h a true (fun K=>B.zf1 h C g [l,p] K) fun q h=>
  B.gd h a true (fun K=>B.pv (V.bin .lss q (.int .i64 0)) fun v=>K v h) fun r h=>
  B.gd h a true (fun K=>B.pv (V.un .not r) fun v=>K v h) fun s h=>
  B.pick a s (.bool false) fun t=>
  B.cond t
  (B.pv (V.bin .add b (.int .i64 1)) fun u=>
  Y3 [u] h)
  (zw (zj.l3 C E Q Y1 d e f b) [c] h)
@[simp] def zj.l5 (C:CSem) (E:zz) (Q:zQ) (Y1:zL) (c d e a:AVal):zG
 | [b],h,Y3=>zj.k4 C E Q Y1 Y3 c d e b a h
 | _,_,_=>False
@[simp] def zj.l6 (C:CSem) (E:zz) (Q:zQ) (c d e:AVal):zG
 | [a,b],h,Y1=>zw (zj.l5 C E Q Y1 c d e b) [a] h
 | _,_,_=>False
@[simp] def zj.k7 (C:CSem) (E:zz) (Q:zQ) (d a e f:AVal) (h:za):Prop:=
 B.pv (V.bin .add a (.int .i64 1)) fun b=>
  B.pv (V.bin .sub e (.int .i64 1)) fun c=>
  zw (zj.l6 C E Q d a f) [b,c] h
@[simp] def zj.k8 (C:CSem) (E:zz) (Q:zQ) (a b k c l:AVal) (h:za):Prop:=
 B.pv (V.idxS E.es a c) fun d=>
  E.ld h d fun e=>
  B.pv (V.idxS E.es a b) fun f=>
  E.ld h f fun g=>
  B.pv (V.idxS E.es a b) fun i=>
  E.st h i e fun h=>
  B.pv (V.idxS E.es a c) fun j=>
  E.st h j g fun h=>
  zj.k7 C E Q a b k l h
@[simp] def zj.cps (C:CSem) (E:zz) (a b c d e:AVal) (h:za) (Q:zQ):Prop:=
 zj.k8 C E Q a b c d e h
@[simp] def ze.k1 (C:CSem) (E:zz) (Q:zQ) (b j a:AVal) (h:za):Prop:=
 B.pv (V.idxS E.es b j) fun c=>
  E.ld h c fun d=>
  B.pv (V.idxS E.es b a) fun e=>
  E.ld h e fun f=>
  B.pv (V.idxS E.es b a) fun g=>
  E.st h g d fun h=>
  B.pv (V.idxS E.es b j) fun i=>
  E.st h i f fun h=>
  Q (.tup [a,(.bool false)]) h
@[simp] def ze.k2 (C:CSem) (E:zz) (Q:zQ) (Y1:zL) (c n o b a:AVal) (h:za):Prop:=
 B.pv (V.bin .gtr b a) fun d=>
  B.cond d
  (ze.k1 C E Q c n a h)
  (B.pv (V.idxS E.es c a) fun e=>
  E.ld h e fun f=>
  B.pv (V.idxS E.es c b) fun g=>
  E.ld h g fun i=>
  B.pv (V.idxS E.es c b) fun j=>
  E.st h j f fun h=>
  B.pv (V.idxS E.es c a) fun k=>
  E.st h k i fun h=>
  B.pv (V.bin .add b (.int .i64 1)) fun l=>
  B.pv (V.bin .sub a (.int .i64 1)) fun m=>
  Y1 [l,m] h)
@[simp] def ze.k3 (C:CSem) (E:zz) (Q:zQ) (Y1:zL) (Y2:zL) (d t u c b:AVal) (h:za):Prop:=
 B.pv (V.bin .leq c b) fun a=>
  B.gd h a true (fun K=>K u h) fun e h=>
  B.gd h a true (fun K=>K d h) fun f h=>
  B.gd h a true (fun K=>K b h) fun g h=>
  B.gd h a true (fun K=>B.pv (V.idxS E.es f g) fun v=>K v h) fun i h=>
  B.gd h a true (fun K=>E.ld h i fun v=>K v h) fun j h=>
  B.gd h a true (fun K=>K d h) fun k h=>
  B.gd h a true (fun K=>K t h) fun l h=>
  B.gd h a true (fun K=>B.pv (V.idxS E.es k l) fun v=>K v h) fun m h=>
  B.gd h a true (fun K=>E.ld h m fun v=>K v h) fun n h=>
  B.gd h a true (fun K=>B.zf1 h C e [j,n] K) fun o h=>
  B.gd h a true (fun K=>B.pv (V.bin .lss o (.int .i64 0)) fun v=>K v h) fun p h=>
  B.gd h a true (fun K=>B.pv (V.un .not p) fun v=>K v h) fun q h=>
  B.pick a q (.bool false) fun r=>
  B.cond r
  (B.pv (V.bin .sub b (.int .i64 1)) fun s=>
  Y2 [s] h)
  (ze.k2 C E Q Y1 d t u c b h)
@[simp] def ze.l4 (C:CSem) (E:zz) (Q:zQ) (Y1:zL) (c d e a:AVal):zG
 | [b],h,Y2=>ze.k3 C E Q Y1 Y2 c d e a b h
 | _,_,_=>False
@[simp] def ze.k5 (C:CSem) (E:zz) (Q:zQ) (Y1:zL) (Y3:zL) (d s t b c:AVal) (h:za):Prop:=
 B.pv (V.bin .leq b c) fun a=>
  B.gd h a true (fun K=>K t h) fun e h=>
  B.gd h a true (fun K=>K d h) fun f h=>
  B.gd h a true (fun K=>K b h) fun g h=>
  B.gd h a true (fun K=>B.pv (V.idxS E.es f g) fun v=>K v h) fun i h=>
  B.gd h a true (fun K=>E.ld h i fun v=>K v h) fun j h=>
  B.gd h a true (fun K=>K d h) fun k h=>
  B.gd h a true (fun K=>K s h) fun l h=>
  B.gd h a true (fun K=>B.pv (V.idxS E.es k l) fun v=>K v h) fun m h=>
  B.gd h a true (fun K=>E.ld h m fun v=>K v h) fun n h=>
  B.gd h a true (fun K=>B.zf1 h C e [j,n] K) fun o h=>
  B.gd h a true (fun K=>B.pv (V.bin .lss o (.int .i64 0)) fun v=>K v h) fun p h=>
  B.pick a p (.bool false) fun q=>
  B.cond q
  (B.pv (V.bin .add b (.int .i64 1)) fun r=>
  Y3 [r] h)
  (zw (ze.l4 C E Q Y1 d s t b) [c] h)
@[simp] def ze.l6 (C:CSem) (E:zz) (Q:zQ) (Y1:zL) (c d e a:AVal):zG
 | [b],h,Y3=>ze.k5 C E Q Y1 Y3 c d e b a h
 | _,_,_=>False
@[simp] def ze.l7 (C:CSem) (E:zz) (Q:zQ) (c d e:AVal):zG
 | [a,b],h,Y1=>zw (ze.l6 C E Q Y1 c d e b) [a] h
 | _,_,_=>False
@[simp] def ze.k8 (C:CSem) (E:zz) (Q:zQ) (e f g c d:AVal) (h:za):Prop:=
 B.pv (V.bin .add c (.int .i64 1)) fun a=>
  B.pv (V.bin .sub d (.int .i64 1)) fun b=>
  zw (ze.l7 C E Q e f g) [a,b] h
@[simp] def ze.k9 (C:CSem) (E:zz) (Q:zQ) (a k l b c:AVal) (h:za):Prop:=
 B.pv (V.idxS E.es a c) fun e=>
  E.ld h e fun f=>
  B.pv (V.idxS E.es a b) fun g=>
  E.ld h g fun i=>
  B.pv (V.idxS E.es a b) fun j=>
  E.st h j f fun h=>
  B.pv (V.idxS E.es a c) fun d=>
  E.st h d i fun h=>
  ze.k8 C E Q a k l b c h
@[simp] def ze.k10 (C:CSem) (E:zz) (Q:zQ) (b d m c a:AVal) (h:za):Prop:=
 B.pv (V.bin .gtr c a) fun e=>
  B.cond e
  (B.pv (V.idxS E.es b d) fun f=>
  E.ld h f fun g=>
  B.pv (V.idxS E.es b a) fun i=>
  E.ld h i fun j=>
  B.pv (V.idxS E.es b a) fun k=>
  E.st h k g fun h=>
  B.pv (V.idxS E.es b d) fun l=>
  E.st h l j fun h=>
  Q (.tup [a,(.bool true)]) h)
  (ze.k9 C E Q b d m c a h)
@[simp] def ze.k11 (C:CSem) (E:zz) (Q:zQ) (Y4:zL) (d e f c b:AVal) (h:za):Prop:=
 B.pv (V.bin .leq c b) fun a=>
  B.gd h a true (fun K=>K f h) fun g h=>
  B.gd h a true (fun K=>K d h) fun i h=>
  B.gd h a true (fun K=>K b h) fun j h=>
  B.gd h a true (fun K=>B.pv (V.idxS E.es i j) fun v=>K v h) fun k h=>
  B.gd h a true (fun K=>E.ld h k fun v=>K v h) fun l h=>
  B.gd h a true (fun K=>K d h) fun m h=>
  B.gd h a true (fun K=>K e h) fun n h=>
  B.gd h a true (fun K=>B.pv (V.idxS E.es m n) fun v=>K v h) fun o h=>
  B.gd h a true (fun K=>E.ld h o fun v=>K v h) fun p h=>
  B.gd h a true (fun K=>B.zf1 h C g [l,p] K) fun q h=>
  B.gd h a true (fun K=>B.pv (V.bin .lss q (.int .i64 0)) fun v=>K v h) fun r h=>
  B.gd h a true (fun K=>B.pv (V.un .not r) fun v=>K v h) fun s h=>
  B.pick a s (.bool false) fun t=>
  B.cond t
  (B.pv (V.bin .sub b (.int .i64 1)) fun u=>
  Y4 [u] h)
  (ze.k10 C E Q d e f c b h)
@[simp] def ze.l12 (C:CSem) (E:zz) (Q:zQ) (c d e a:AVal):zG
 | [b],h,Y4=>ze.k11 C E Q Y4 c d e a b h
 | _,_,_=>False
@[simp] def ze.k13 (C:CSem) (E:zz) (Q:zQ) (Y5:zL) (d e f b c:AVal) (h:za):Prop:=
 B.pv (V.bin .leq b c) fun a=>
  B.gd h a true (fun K=>K f h) fun g h=>
  B.gd h a true (fun K=>K d h) fun i h=>
  B.gd h a true (fun K=>K b h) fun j h=>
  B.gd h a true (fun K=>B.pv (V.idxS E.es i j) fun v=>K v h) fun k h=>
  B.gd h a true (fun K=>E.ld h k fun v=>K v h) fun l h=>
  B.gd h a true (fun K=>K d h) fun m h=>
  B.gd h a true (fun K=>K e h) fun n h=>
  B.gd h a true (fun K=>B.pv (V.idxS E.es m n) fun v=>K v h) fun o h=>
  B.gd h a true (fun K=>E.ld h o fun v=>K v h) fun p h=>
  B.gd h a true (fun K=>B.zf1 h C g [l,p] K) fun q h=>
  B.gd h a true (fun K=>B.pv (V.bin .lss q (.int .i64 0)) fun v=>K v h) fun r h=>
  B.pick a r (.bool false) fun s=>
  B.cond s
  (B.pv (V.bin .add b (.int .i64 1)) fun t=>
  Y5 [t] h)
  (zw (ze.l12 C E Q d e f b) [c] h)
@[simp] def ze.l14 (C:CSem) (E:zz) (Q:zQ) (c d e a:AVal):zG
 | [b],h,Y5=>ze.k13 C E Q Y5 c d e b a h
 | _,_,_=>False
@[simp] def ze.k15 (C:CSem) (E:zz) (Q:zQ) (d a e f:AVal) (h:za):Prop:=
 B.pv (V.bin .add a (.int .i64 1)) fun b=>
  B.pv (V.bin .sub e (.int .i64 1)) fun c=>
  zw (ze.l14 C E Q d a f c) [b] h
@[simp] def ze.k16 (C:CSem) (E:zz) (Q:zQ) (a b k c l:AVal) (h:za):Prop:=
 B.pv (V.idxS E.es a c) fun d=>
  E.ld h d fun e=>
  B.pv (V.idxS E.es a b) fun f=>
  E.ld h f fun g=>
  B.pv (V.idxS E.es a b) fun i=>
  E.st h i e fun h=>
  B.pv (V.idxS E.es a c) fun j=>
  E.st h j g fun h=>
  ze.k15 C E Q a b k l h
@[simp] def ze.cps (C:CSem) (E:zz) (a b c d e:AVal) (h:za) (Q:zQ):Prop:=
 ze.k16 C E Q a b c d e h
@[simp] def zbh.k1 (C:CSem) (E:zz) (Q:zQ) (Y1:zL) (b z c y d a:AVal) (h:za):Prop:=
 B.pv (V.bin .add c d) fun e=>
  B.pv (V.idxS E.es b e) fun f=>
  E.ld h f fun g=>
  B.pv (V.bin .add c a) fun i=>
  B.pv (V.idxS E.es b i) fun j=>
  E.ld h j fun k=>
  B.zf1 h C y [g,k] fun l h=>
  B.pv (V.bin .lss l (.int .i64 0)) fun m=>
  B.pv (V.un .not m) fun n=>
  B.cond n
  (Q (.tup []) h)
  (B.pv (V.bin .add c d) fun o=>
  B.pv (V.bin .add c a) fun p=>
  B.pv (V.bin .add c a) fun q=>
  B.pv (V.idxS E.es b q) fun r=>
  E.ld h r fun s=>
  B.pv (V.bin .add c d) fun t=>
  B.pv (V.idxS E.es b t) fun u=>
  E.ld h u fun v=>
  B.pv (V.idxS E.es b o) fun w=>
  E.st h w s fun h=>
  B.pv (V.idxS E.es b p) fun x=>
  E.st h x v fun h=>
  Y1 [a] h)
@[simp] def zbh.k2 (C:CSem) (E:zz) (Q:zQ) (Y1:zL) (c f d g e b:AVal) (h:za):Prop:=
 B.pv (V.bin .add b (.int .i64 1)) fun i=>
  B.pv (V.bin .lss i f) fun a=>
  B.gd h a true (fun K=>K g h) fun j h=>
  B.gd h a true (fun K=>K c h) fun k h=>
  B.gd h a true (fun K=>K d h) fun l h=>
  B.gd h a true (fun K=>K b h) fun m h=>
  B.gd h a true (fun K=>B.pv (V.bin .add l m) fun v=>K v h) fun n h=>
  B.gd h a true (fun K=>B.pv (V.idxS E.es k n) fun v=>K v h) fun o h=>
  B.gd h a true (fun K=>E.ld h o fun v=>K v h) fun p h=>
  B.gd h a true (fun K=>K c h) fun q h=>
  B.gd h a true (fun K=>K d h) fun r h=>
  B.gd h a true (fun K=>K b h) fun s h=>
  B.gd h a true (fun K=>B.pv (V.bin .add r s) fun v=>K v h) fun t h=>
  B.gd h a true (fun K=>B.pv (V.bin .add t (.int .i64 1)) fun v=>K v h) fun u h=>
  B.gd h a true (fun K=>B.pv (V.idxS E.es q u) fun v=>K v h) fun w h=>
  B.gd h a true (fun K=>E.ld h w fun v=>K v h) fun x h=>
  B.gd h a true (fun K=>B.zf1 h C j [p,x] K) fun y h=>
  B.gd h a true (fun K=>B.pv (V.bin .lss y (.int .i64 0)) fun v=>K v h) fun z h=>
  B.pick a z (.bool false) fun aa=>
  B.cond aa
  (B.pv (V.bin .add b (.int .i64 1)) fun ab=>
  zbh.k1 C E Q Y1 c f d g e ab h)
  (zbh.k1 C E Q Y1 c f d g e b h)
@[simp] def zbh.k3 (C:CSem) (E:zz) (Q:zQ) (Y1:zL) (f c g i a:AVal) (h:za):Prop:=
 B.pv (V.bin .mul (.int .i64 2) a) fun d=>
  B.pv (V.bin .add d (.int .i64 1)) fun b=>
  B.pv (V.bin .geq b c) fun e=>
  B.cond e
  (Q (.tup []) h)
  (zbh.k2 C E Q Y1 f c g i a b h)
@[simp] def zbh.l4 (C:CSem) (E:zz) (Q:zQ) (b c d e:AVal):zG
 | [a],h,Y1=>zbh.k3 C E Q Y1 b c d e a h
 | _,_,_=>False
@[simp] def zbh.cps (C:CSem) (E:zz) (a b c d e:AVal) (h:za) (Q:zQ):Prop:=
 zw (zbh.l4 C E Q a c d e) [b] h
@[simp] def zdp.k1 (C:CSem) (E:zz) (f1:Nat) (Q:zQ) (e a f g:AVal) (h:za):Prop:=
 B.pv (V.bin .sub a (.int .i64 1)) fun b=>
  B.pv (V.bin .add a (.int .i64 1)) fun c=>
  B.call C f1 [e,b,a,c,f,g] h fun d h=>
  Q d h
@[simp] def zdp.cps (C:CSem) (E:zz) (f1:Nat) (a b c d:AVal) (h:za) (Q:zQ):Prop:=
 zdp.k1 C E f1 Q a b c d h
@[simp] def zen.k1 (C:CSem) (E:zz) (f1:Nat) (Q:zQ) (d l m n e f:AVal) (h:za):Prop:=
 B.call C f1 [d,l,m,e,f] h fun a h=>
  B.pv (V.ext 0 a) fun g=>
  B.pv (V.ext 1 a) fun i=>
  B.call C f1 [d,i,n,e,f] h fun b h=>
  B.pv (V.ext 0 b) fun j=>
  B.pv (V.ext 1 b) fun o=>
  B.call C f1 [d,g,j,e,f] h fun c h=>
  B.pv (V.ext 0 c) fun p=>
  B.pv (V.ext 1 c) fun k=>
  Q k h
@[simp] def zen.cps (C:CSem) (E:zz) (f1:Nat) (a b c d e f:AVal) (h:za) (Q:zQ):Prop:=
 zen.k1 C E f1 Q a b c d e f h
@[simp] def zem.k1 (C:CSem) (E:zz) (Q:zQ) (c a b d p:AVal) (h:za):Prop:=
 B.pv (V.idxS E.es c b) fun e=>
  E.ld h e fun f=>
  B.pv (V.idxS E.es c a) fun g=>
  E.ld h g fun i=>
  B.zf1 h C p [f,i] fun j h=>
  B.pv (V.bin .lss j (.int .i64 0)) fun k=>
  B.cond k
  (B.nilCheck d fun l=>
  B.ld h l fun m=>
  B.pv (V.bin .add m (.int .i64 1)) fun n=>
  B.nilCheck d fun o=>
  B.st h o n fun h=>
  Q (.tup [b,a]) h)
  (Q (.tup [a,b]) h)
@[simp] def zem.cps (C:CSem) (E:zz) (a b c d e:AVal) (h:za) (Q:zQ):Prop:=
 zem.k1 C E Q a b c d e h
@[simp] def zhd.k1 (C:CSem) (E:zz) (f1 f2:Nat) (Q:zQ) (a:AVal) (h:za):Prop:=
 B.pv (V.zcw a) fun b=>
  B.pv (V.toInt .u64 b) fun c=>
  B.call C f1 [c] h fun d h=>
  B.call C f2 [a,(.int .i64 0),b,d] h fun e h=>
  Q (.tup []) h
@[simp] def zhd.cps (C:CSem) (E:zz) (f1 f2:Nat) (a:AVal) (h:za) (Q:zQ):Prop:=
 zhd.k1 C E f1 f2 Q a h
@[simp] def zcl.k1 (C:CSem) (E:zz) (Q:zQ) (Y1:zL) (Y2:zL) (e b d a:AVal) (h:za):Prop:=
 B.pv (V.zcw d) fun f=>
  B.pv (V.bin .lss a f) fun g=>
  B.cond g
  (B.pv (V.idxS E.es d a) fun i=>
  E.ld h i fun j=>
  B.pv (V.bin .sub a (.int .i64 1)) fun k=>
  B.pv (V.idxS E.es d k) fun l=>
  E.ld h l fun m=>
  B.pv (V.bin .neq j m) fun n=>
  B.cond n
  (B.pv (V.idxS E.es d a) fun o=>
  E.ld h o fun p=>
  B.pv (V.idxS E.es e b) fun q=>
  E.st h q p fun h=>
  B.pv (V.bin .add b (.int .i64 1)) fun r=>
  B.pv (V.bin .add a (.int .i64 1)) fun c=>
  Y2 [r,c] h)
  (B.pv (V.bin .add a (.int .i64 1)) fun c=>
  Y2 [b,c] h))
  (B.pv (V.zh2 E.es e (some b) none) fun s=>
  B.clr h E.z s fun _ h=>
  B.pv (V.zh2 E.es e none (some b)) fun t=>
  Q t h)
@[simp] def zcl.l2 (C:CSem) (E:zz) (Q:zQ) (Y1:zL) (a b:AVal):zG
 | [c,d],h,Y2=>zcl.k1 C E Q Y1 Y2 a c b d h
 | _,_,_=>False
@[simp] def zcl.k3 (C:CSem) (E:zz) (Q:zQ) (Y1:zL) (b a:AVal) (h:za):Prop:=
 B.pv (V.idxS E.es b a) fun c=>
  E.ld h c fun d=>
  B.pv (V.bin .sub a (.int .i64 1)) fun e=>
  B.pv (V.idxS E.es b e) fun f=>
  E.ld h f fun g=>
  B.pv (V.bin .eql d g) fun i=>
  B.cond i (B.pv (V.zh2 E.es b (some a) none) fun j=>
  zw (zcl.l2 C E Q Y1 b j) [a,(.int .i64 1)] h) (B.pv (V.bin .add a (.int .i64 1)) fun k=>
  Y1 [k] h)
@[simp] def zcl.l4 (C:CSem) (E:zz) (Q:zQ) (a:AVal):zG
 | [b],h,Y1=>B.pv (V.zcw a) fun c=>
  B.pv (V.bin .lss b c) fun d=>
  B.cond d
  (zcl.k3 C E Q Y1 a b h)
  (Q a h)
 | _,_,_=>False
@[simp] def zcl.k5 (C:CSem) (E:zz) (Q:zQ) (a:AVal) (h:za):Prop:=
 B.pv (V.zcw a) fun b=>
  B.pv (V.bin .lss b (.int .i64 2)) fun c=>
  B.cond c
  (Q a h)
  (zw (zcl.l4 C E Q a) [(.int .i64 1)] h)
@[simp] def zcl.cps (C:CSem) (E:zz) (a:AVal) (h:za) (Q:zQ):Prop:=
 zcl.k5 C E Q a h
@[simp] def z9.k1 (C:CSem) (E:zz) (f1 f2 f3 f4 f5 f6 f7 f8 f9 f10:Nat) (Q:zQ) (Y1:zL) (d c e f v8 v9 s g:AVal) (h:za):Prop:=
 B.pv (V.bin .gtr c (.int .i64 0)) fun a=>
  B.gd h a true (fun K=>K d h) fun t h=>
  B.gd h a true (fun K=>K c h) fun u h=>
  B.gd h a true (fun K=>B.pv (V.bin .sub u (.int .i64 1)) fun v=>K v h) fun w h=>
  B.gd h a true (fun K=>B.pv (V.idxS E.es t w) fun v=>K v h) fun x h=>
  B.gd h a true (fun K=>E.ld h x fun v=>K v h) fun y h=>
  B.gd h a true (fun K=>K d h) fun z h=>
  B.gd h a true (fun K=>K g h) fun aa h=>
  B.gd h a true (fun K=>B.pv (V.idxS E.es z aa) fun v=>K v h) fun ab h=>
  B.gd h a true (fun K=>E.ld h ab fun v=>K v h) fun ac h=>
  B.gd h a true (fun K=>B.call C f1 [y,ac] h K) fun ad h=>
  B.gd h a true (fun K=>B.pv (V.un .not ad) fun v=>K v h) fun ae h=>
  B.pick a ae (.bool false) fun af=>
  B.cond af
  (B.call C f2 [d,c,e,g] h fun ag h=>
  Y1 [ag,e,f,v8,v9] h)
  (B.call C f3 [d,c,e,g] h fun m h=>
  B.pv (V.ext 0 m) fun b=>
  B.pv (V.ext 1 m) fun i=>
  B.pv (V.bin .sub b c) fun j=>
  B.pv (V.bin .sub e b) fun k=>
  B.pv (V.bin .quo s (.int .i64 8)) fun l=>
  B.pv (V.bin .lss j k) fun n=>
  B.cond n
  (B.pv (V.bin .geq j l) fun o=>
  B.call C f4 [d,c,b,f] h fun aj h=>
  B.pv (V.bin .add b (.int .i64 1)) fun p=>
  Y1 [p,e,f,o,i] h)
  (B.pv (V.bin .geq k l) fun q=>
  B.pv (V.bin .add b (.int .i64 1)) fun r=>
  B.call C f4 [d,r,e,f] h fun ak h=>
  Y1 [c,b,f,q,i] h))
@[simp] def z9.k2 (C:CSem) (E:zz) (f1 f2 f3 f4 f5 f6 f7 f8 f9 f10:Nat) (Q:zQ) (Y1:zL) (e f g j b i c d k:AVal) (h:za):Prop:=
 B.gd h b true (fun K=>K i h) fun l h=>
  B.pick b l (.bool false) fun a=>
  B.gd h a true (fun K=>K k h) fun m h=>
  B.gd h a true (fun K=>B.pv (V.bin .eql m (.int .i64 1)) fun v=>K v h) fun n h=>
  B.pick a n (.bool false) fun o=>
  B.cond o
  (B.call C f5 [e,f,g] h fun p h=>
  B.cond p
  (Q (.tup []) h)
  (z9.k1 C E f1 f2 f3 f4 f5 f6 f7 f8 f9 f10 Q Y1 e f g j b i c d h))
  (z9.k1 C E f1 f2 f3 f4 f5 f6 f7 f8 f9 f10 Q Y1 e f g j b i c d h)
@[simp] def z9.k3 (C:CSem) (E:zz) (f1 f2 f3 f4 f5 f6 f7 f8 f9 f10:Nat) (Q:zQ) (Y1:zL) (f a b g i j c d e:AVal) (h:za):Prop:=
 B.pv (V.bin .eql e (.int .i64 2)) fun k=>
  B.cond k
  (B.call C f6 [f,a,b] h fun o h=>
  B.pv (V.bin .sub b (.int .i64 1)) fun l=>
  B.pv (V.bin .sub d a) fun m=>
  B.pv (V.bin .sub l m) fun n=>
  z9.k2 C E f1 f2 f3 f4 f5 f6 f7 f8 f9 f10 Q Y1 f a b g i j c n (.int .i64 1) h)
  (z9.k2 C E f1 f2 f3 f4 f5 f6 f7 f8 f9 f10 Q Y1 f a b g i j c d e h)
@[simp] def z9.k4 (C:CSem) (E:zz) (f1 f2 f3 f4 f5 f6 f7 f8 f9 f10:Nat) (Q:zQ) (Y1:zL) (b c d i j k e:AVal) (h:za):Prop:=
 B.call C f7 [b,c,d] h fun a h=>
  B.pv (V.ext 0 a) fun f=>
  B.pv (V.ext 1 a) fun g=>
  z9.k3 C E f1 f2 f3 f4 f5 f6 f7 f8 f9 f10 Q Y1 b c d i j k e f g h
@[simp] def z9.k5 (C:CSem) (E:zz) (f1 f2 f3 f4 f5 f6 f7 f8 f9 f10:Nat) (Q:zQ) (Y1:zL) (b c d f e g a:AVal) (h:za):Prop:=
 B.pv (V.un .not e) fun i=>
  B.cond i
  (B.call C f8 [b,c,d] h fun k h=>
  B.pv (V.bin .sub f (.int .i64 1)) fun j=>
  z9.k4 C E f1 f2 f3 f4 f5 f6 f7 f8 f9 f10 Q Y1 b c d j e g a h)
  (z9.k4 C E f1 f2 f3 f4 f5 f6 f7 f8 f9 f10 Q Y1 b c d f e g a h)
@[simp] def z9.k6 (C:CSem) (E:zz) (f1 f2 f3 f4 f5 f6 f7 f8 f9 f10:Nat) (Q:zQ) (Y1:zL) (a b c d g i e:AVal) (h:za):Prop:=
 B.pv (V.bin .eql d (.int .i64 0)) fun f=>
  B.cond f
  (B.call C f9 [a,b,c] h fun j h=>
  Q (.tup []) h)
  (z9.k5 C E f1 f2 f3 f4 f5 f6 f7 f8 f9 f10 Q Y1 a b c d g i e h)
@[simp] def z9.k7 (C:CSem) (E:zz) (f1 f2 f3 f4 f5 f6 f7 f8 f9 f10:Nat) (Q:zQ) (Y1:zL) (b c d f g i a:AVal) (h:za):Prop:=
 B.pv (V.bin .leq a (.int .i64 12)) fun e=>
  B.cond e
  (B.call C f10 [b,c,d] h fun j h=>
  Q (.tup []) h)
  (z9.k6 C E f1 f2 f3 f4 f5 f6 f7 f8 f9 f10 Q Y1 b c d f g i a h)
@[simp] def z9.l8 (C:CSem) (E:zz) (f1 f2 f3 f4 f5 f6 f7 f8 f9 f10:Nat) (Q:zQ) (d:AVal):zG
 | [a,b,e,f,g],h,Y1=>B.pv (V.bin .sub b a) fun c=>
  z9.k7 C E f1 f2 f3 f4 f5 f6 f7 f8 f9 f10 Q Y1 d a b e f g c h
 | _,_,_=>False
@[simp] def z9.cps (C:CSem) (E:zz) (f1 f2 f3 f4 f5 f6 f7 f8 f9 f10:Nat) (a b c d:AVal) (h:za) (Q:zQ):Prop:=
 zw (z9.l8 C E f1 f2 f3 f4 f5 f6 f7 f8 f9 f10 Q a) [b,c,d,(.bool true),(.bool true)] h
@[simp] def zb5.k1 (C:CSem) (E:zz) (f1:Nat) (Q:zQ) (Y1:zL) (Y2:zL) (c v1 v2 v6 b:AVal) (h:za):Prop:=
 B.pv (V.bin .gtr b v1) fun a=>
  B.gd h a true (fun K=>K c h) fun d h=>
  B.gd h a true (fun K=>K b h) fun e h=>
  B.gd h a true (fun K=>B.pv (V.idxS E.es d e) fun v=>K v h) fun f h=>
  B.gd h a true (fun K=>E.ld h f fun v=>K v h) fun g h=>
  B.gd h a true (fun K=>K c h) fun i h=>
  B.gd h a true (fun K=>K b h) fun j h=>
  B.gd h a true (fun K=>B.pv (V.bin .sub j (.int .i64 1)) fun v=>K v h) fun k h=>
  B.gd h a true (fun K=>B.pv (V.idxS E.es i k) fun v=>K v h) fun l h=>
  B.gd h a true (fun K=>E.ld h l fun v=>K v h) fun m h=>
  B.gd h a true (fun K=>B.call C f1 [g,m] h K) fun n h=>
  B.pick a n (.bool false) fun o=>
  B.cond o
  (B.pv (V.bin .sub b (.int .i64 1)) fun p=>
  B.pv (V.bin .sub b (.int .i64 1)) fun q=>
  B.pv (V.idxS E.es c q) fun r=>
  E.ld h r fun s=>
  B.pv (V.idxS E.es c b) fun t=>
  E.ld h t fun u=>
  B.pv (V.idxS E.es c b) fun w=>
  E.st h w s fun h=>
  B.pv (V.idxS E.es c p) fun x=>
  E.st h x u fun h=>
  B.pv (V.bin .sub b (.int .i64 1)) fun y=>
  Y2 [y] h)
  (B.pv (V.bin .add v6 (.int .i64 1)) fun z=>
  Y1 [z] h)
@[simp] def zb5.l2 (C:CSem) (E:zz) (f1:Nat) (Q:zQ) (Y1:zL) (a b c d:AVal):zG
 | [e],h,Y2=>zb5.k1 C E f1 Q Y1 Y2 a b c d e h
 | _,_,_=>False
@[simp] def zb5.l3 (C:CSem) (E:zz) (f1:Nat) (Q:zQ) (d e b:AVal):zG
 | [a],h,Y1=>B.pv (V.bin .lss a b) fun c=>
  B.cond c
  (zw (zb5.l2 C E f1 Q Y1 d e b a) [a] h)
  (Q (.tup []) h)
 | _,_,_=>False
@[simp] def zb5.cps (C:CSem) (E:zz) (f1:Nat) (b a c:AVal) (h:za) (Q:zQ):Prop:=
 B.pv (V.bin .add a (.int .i64 1)) fun d=>
  zw (zb5.l3 C E f1 Q b a c) [d] h
@[simp] def zbs.k1 (C:CSem) (E:zz) (f1:Nat) (Q:zQ) (Y1:zL) (b c o a:AVal) (h:za):Prop:=
 B.pv (V.bin .geq a (.int .i64 0)) fun d=>
  B.cond d
  (B.pv (V.bin .add c a) fun e=>
  B.pv (V.bin .add c a) fun f=>
  B.pv (V.idxS E.es b f) fun g=>
  E.ld h g fun i=>
  B.pv (V.idxS E.es b c) fun j=>
  E.ld h j fun k=>
  B.pv (V.idxS E.es b c) fun l=>
  E.st h l i fun h=>
  B.pv (V.idxS E.es b e) fun m=>
  E.st h m k fun h=>
  B.call C f1 [b,o,a,c] h fun p h=>
  B.pv (V.bin .sub a (.int .i64 1)) fun n=>
  Y1 [n] h)
  (Q (.tup []) h)
@[simp] def zbs.l2 (C:CSem) (E:zz) (f1:Nat) (Q:zQ) (b c d:AVal):zG
 | [a],h,Y1=>zbs.k1 C E f1 Q Y1 b c d a h
 | _,_,_=>False
@[simp] def zbs.k3 (C:CSem) (E:zz) (f1:Nat) (Q:zQ) (Y2:zL) (b c i d a:AVal) (h:za):Prop:=
 B.pv (V.bin .geq a (.int .i64 0)) fun e=>
  B.cond e
  (B.call C f1 [b,a,d,c] h fun j h=>
  B.pv (V.bin .sub a (.int .i64 1)) fun f=>
  Y2 [f] h)
  (B.pv (V.bin .sub d (.int .i64 1)) fun g=>
  zw (zbs.l2 C E f1 Q b c i) [g] h)
@[simp] def zbs.l4 (C:CSem) (E:zz) (f1:Nat) (Q:zQ) (a b c d:AVal):zG
 | [e],h,Y2=>zbs.k3 C E f1 Q Y2 a b c d e h
 | _,_,_=>False
@[simp] def zbs.k5 (C:CSem) (E:zz) (f1:Nat) (Q:zQ) (d e f a:AVal) (h:za):Prop:=
 B.pv (V.bin .sub a (.int .i64 1)) fun b=>
  B.pv (V.bin .quo b (.int .i64 2)) fun c=>
  zw (zbs.l4 C E f1 Q d e f a) [c] h
@[simp] def zbs.cps (C:CSem) (E:zz) (f1:Nat) (c a d:AVal) (h:za) (Q:zQ):Prop:=
 B.pv (V.bin .sub d a) fun b=>
  zbs.k5 C E f1 Q c a (.int .i64 0) b h
@[simp] def zu.k1 (C:CSem) (E:zz) (f1 f2:Nat) (Q:zQ) (Y1:zL) (a d o p q c b:AVal) (h:za):Prop:=
 B.pv (V.bin .add d b) fun e=>
  B.pv (V.bin .add d b) fun f=>
  B.pv (V.idxS E.es a f) fun g=>
  E.ld h g fun i=>
  B.pv (V.idxS E.es a c) fun j=>
  E.ld h j fun k=>
  B.pv (V.idxS E.es a c) fun l=>
  E.st h l i fun h=>
  B.pv (V.idxS E.es a e) fun m=>
  E.st h m k fun h=>
  B.pv (V.bin .add c (.int .i64 1)) fun n=>
  Y1 [n] h
@[simp] def zu.k2 (C:CSem) (E:zz) (f1 f2:Nat) (Q:zQ) (Y1:zL) (c d b e f g a:AVal) (h:za):Prop:=
 B.pv (V.bin .geq a b) fun i=>
  B.cond i
  (B.pv (V.bin .sub a b) fun j=>
  zu.k1 C E f1 f2 Q Y1 c d b e f g j h)
  (zu.k1 C E f1 f2 Q Y1 c d b e f g a h)
@[simp] def zu.k3 (C:CSem) (E:zz) (f1 f2:Nat) (Q:zQ) (Y1:zL) (g i j a b k:AVal) (h:za):Prop:=
 B.call C f1 [a] h fun c h=>
  B.pv (V.bin .sub b (.int .u64 1)) fun d=>
  B.pv (V.bin .and c d) fun e=>
  B.pv (V.toInt .i64 e) fun f=>
  zu.k2 C E f1 f2 Q Y1 g i j a b k f h
@[simp] def zu.k4 (C:CSem) (E:zz) (f1 f2:Nat) (Q:zQ) (Y1:zL) (j a b k l c:AVal) (h:za):Prop:=
 B.pv (V.bin .quo b (.int .i64 4)) fun d=>
  B.pv (V.bin .mul d (.int .i64 2)) fun e=>
  B.pv (V.bin .add a e) fun f=>
  B.pv (V.bin .add f (.int .i64 1)) fun g=>
  B.pv (V.bin .leq c g) fun i=>
  B.cond i
  (zu.k3 C E f1 f2 Q Y1 j a b k l c h)
  (Q (.tup []) h)
@[simp] def zu.l5 (C:CSem) (E:zz) (f1 f2:Nat) (Q:zQ) (a b c d e:AVal):zG
 | [f],h,Y1=>zu.k4 C E f1 f2 Q Y1 a b c d e f h
 | _,_,_=>False
@[simp] def zu.k6 (C:CSem) (E:zz) (f1 f2:Nat) (Q:zQ) (g a b i j:AVal) (h:za):Prop:=
 B.pv (V.bin .quo b (.int .i64 4)) fun c=>
  B.pv (V.bin .mul c (.int .i64 2)) fun d=>
  B.pv (V.bin .add a d) fun e=>
  B.pv (V.bin .sub e (.int .i64 1)) fun f=>
  zw (zu.l5 C E f1 f2 Q g a b i j) [f] h
@[simp] def zu.k7 (C:CSem) (E:zz) (f1 f2:Nat) (Q:zQ) (e f a:AVal) (h:za):Prop:=
 B.pv (V.toInt .u64 a) fun b=>
  B.newO h (some [.int .u64 0]) fun c h=>
  B.st h (.ptr c 0 0) b fun h=>
  B.call C f2 [a] h fun d h=>
  zu.k6 C E f1 f2 Q e f a (.ptr c 0 0) d h
@[simp] def zu.k8 (C:CSem) (E:zz) (f1 f2:Nat) (Q:zQ) (d b e:AVal) (h:za):Prop:=
 B.pv (V.bin .sub e b) fun a=>
  B.pv (V.bin .geq a (.int .i64 8)) fun c=>
  B.cond c (zu.k7 C E f1 f2 Q d b a h) (Q (.tup []) h)
@[simp] def zu.cps (C:CSem) (E:zz) (f1 f2:Nat) (a b c:AVal) (h:za) (Q:zQ):Prop:=
 zu.k8 C E f1 f2 Q a b c h
@[simp] def zbd.k1 (C:CSem) (E:zz) (f1 f2:Nat) (Q:zQ) (e a:AVal) (h:za):Prop:=
 B.ld h e fun b=>
  B.pv (V.bin .eql b (.int .i64 0)) fun c=>
  B.cond c
  (Q (.tup [a,(.int .i64 1)]) h)
  (B.pv (V.bin .eql b (.int .i64 12)) fun d=>
  B.cond d
  (Q (.tup [a,(.int .i64 2)]) h)
  (Q (.tup [a,(.int .i64 0)]) h))
@[simp] def zbd.k2 (C:CSem) (E:zz) (f1 f2:Nat) (Q:zQ) (b g a e c f:AVal) (h:za):Prop:=
 B.pv (V.bin .geq g (.int .i64 8)) fun i=>
  B.cond i
  (B.pv (V.bin .geq g (.int .i64 50)) fun j=>
  B.cond j
  (B.call C f1 [b,e,a] h fun k h=>
  B.call C f1 [b,c,a] h fun l h=>
  B.call C f1 [b,f,a] h fun m h=>
  B.call C f2 [b,k,l,m,a] h fun d h=>
  zbd.k1 C E f1 f2 Q a d h)
  (B.call C f2 [b,e,c,f,a] h fun d h=>
  zbd.k1 C E f1 f2 Q a d h))
  (zbd.k1 C E f1 f2 Q a c h)
@[simp] def zbd.k3 (C:CSem) (E:zz) (f1 f2:Nat) (Q:zQ) (g i a j b c:AVal) (h:za):Prop:=
 B.pv (V.bin .quo a (.int .i64 4)) fun d=>
  B.pv (V.bin .mul d (.int .i64 3)) fun e=>
  B.pv (V.bin .add i e) fun f=>
  zbd.k2 C E f1 f2 Q g a j b c f h
@[simp] def zbd.k4 (C:CSem) (E:zz) (f1 f2:Nat) (Q:zQ) (g a b i c:AVal) (h:za):Prop:=
 B.pv (V.bin .quo b (.int .i64 4)) fun d=>
  B.pv (V.bin .mul d (.int .i64 2)) fun e=>
  B.pv (V.bin .add a e) fun f=>
  zbd.k3 C E f1 f2 Q g a b i c f h
@[simp] def zbd.k5 (C:CSem) (E:zz) (f1 f2:Nat) (Q:zQ) (f a b g:AVal) (h:za):Prop:=
 B.pv (V.bin .quo b (.int .i64 4)) fun c=>
  B.pv (V.bin .mul c (.int .i64 1)) fun d=>
  B.pv (V.bin .add a d) fun e=>
  zbd.k4 C E f1 f2 Q f a b g e h
@[simp] def zbd.cps (C:CSem) (E:zz) (f1 f2:Nat) (c a d:AVal) (h:za) (Q:zQ):Prop:=
 B.pv (V.bin .sub d a) fun b=>
  B.newO h (some [.int .i64 0]) fun e h=>
  zbd.k5 C E f1 f2 Q c a b (.ptr e 0 0) h
@[simp] def zdb.k1 (C:CSem) (E:zz) (Q:zQ) (Y1:zL) (a b c:AVal) (h:za):Prop:=
 B.pv (V.bin .lss b c) fun d=>
  B.cond d
  (B.pv (V.idxS E.es a c) fun e=>
  E.ld h e fun f=>
  B.pv (V.idxS E.es a b) fun g=>
  E.ld h g fun i=>
  B.pv (V.idxS E.es a b) fun j=>
  E.st h j f fun h=>
  B.pv (V.idxS E.es a c) fun k=>
  E.st h k i fun h=>
  B.pv (V.bin .add b (.int .i64 1)) fun l=>
  B.pv (V.bin .sub c (.int .i64 1)) fun m=>
  Y1 [l,m] h)
  (Q (.tup []) h)
@[simp] def zdb.l2 (C:CSem) (E:zz) (Q:zQ) (a:AVal):zG
 | [b,c],h,Y1=>zdb.k1 C E Q Y1 a b c h
 | _,_,_=>False
@[simp] def zdb.cps (C:CSem) (E:zz) (b c d:AVal) (h:za) (Q:zQ):Prop:=
 B.pv (V.bin .sub d (.int .i64 1)) fun a=>
  zw (zdb.l2 C E Q b) [c,a] h
@[simp] def zf.k1 (C:CSem) (E:zz) (f1:Nat) (Q:zQ) (Y1:zL) (Y2:zL) (b y x v w a:AVal) (h:za):Prop:=
 B.pv (V.bin .lss a x) fun d=>
  B.cond d
  (B.pv (V.idxS E.es b a) fun e=>
  E.ld h e fun f=>
  B.pv (V.bin .sub a (.int .i64 1)) fun g=>
  B.pv (V.idxS E.es b g) fun i=>
  E.ld h i fun j=>
  B.call C f1 [f,j] h fun k h=>
  B.pv (V.un .not k) fun l=>
  B.cond l
  (B.pv (V.bin .add w (.int .i64 1)) fun c=>
  Y1 [v,c] h)
  (B.pv (V.bin .sub a (.int .i64 1)) fun m=>
  B.pv (V.bin .sub a (.int .i64 1)) fun n=>
  B.pv (V.idxS E.es b n) fun o=>
  E.ld h o fun p=>
  B.pv (V.idxS E.es b a) fun q=>
  E.ld h q fun r=>
  B.pv (V.idxS E.es b a) fun s=>
  E.st h s p fun h=>
  B.pv (V.idxS E.es b m) fun t=>
  E.st h t r fun h=>
  B.pv (V.bin .add a (.int .i64 1)) fun u=>
  Y2 [u] h))
  (B.pv (V.bin .add w (.int .i64 1)) fun c=>
  Y1 [v,c] h)
@[simp] def zf.l2 (C:CSem) (E:zz) (f1:Nat) (Q:zQ) (Y1:zL) (b c d e f:AVal):zG
 | [a],h,Y2=>zf.k1 C E f1 Q Y1 Y2 b c d e f a h
 | _,_,_=>False
@[simp] def zf.k3 (C:CSem) (E:zz) (f1:Nat) (Q:zQ) (Y1:zL) (i j c a d:AVal) (h:za):Prop:=
 B.pv (V.bin .sub c a) fun e=>
  B.pv (V.bin .geq e (.int .i64 2)) fun f=>
  B.cond f (B.pv (V.bin .add a (.int .i64 1)) fun b=>
  zw (zf.l2 C E f1 Q Y1 i j c a d) [b] h) (B.pv (V.bin .add d (.int .i64 1)) fun g=>
  Y1 [a,g] h)
@[simp] def zf.k4 (C:CSem) (E:zz) (f1:Nat) (Q:zQ) (Y1:zL) (Y3:zL) (a c d e f b:AVal) (h:za):Prop:=
 B.pv (V.bin .geq b (.int .i64 1)) fun g=>
  B.cond g
  (B.pv (V.idxS E.es a b) fun i=>
  E.ld h i fun j=>
  B.pv (V.bin .sub b (.int .i64 1)) fun k=>
  B.pv (V.idxS E.es a k) fun l=>
  E.ld h l fun m=>
  B.call C f1 [j,m] h fun n h=>
  B.pv (V.un .not n) fun o=>
  B.cond o
  (zf.k3 C E f1 Q Y1 a c d e f h)
  (B.pv (V.bin .sub b (.int .i64 1)) fun p=>
  B.pv (V.bin .sub b (.int .i64 1)) fun q=>
  B.pv (V.idxS E.es a q) fun r=>
  E.ld h r fun s=>
  B.pv (V.idxS E.es a b) fun t=>
  E.ld h t fun u=>
  B.pv (V.idxS E.es a b) fun v=>
  E.st h v s fun h=>
  B.pv (V.idxS E.es a p) fun w=>
  E.st h w u fun h=>
  B.pv (V.bin .sub b (.int .i64 1)) fun x=>
  Y3 [x] h))
  (zf.k3 C E f1 Q Y1 a c d e f h)
@[simp] def zf.l5 (C:CSem) (E:zz) (f1:Nat) (Q:zQ) (Y1:zL) (a b c d e:AVal):zG
 | [f],h,Y3=>zf.k4 C E f1 Q Y1 Y3 a b c d e f h
 | _,_,_=>False
@[simp] def zf.k6 (C:CSem) (E:zz) (f1:Nat) (Q:zQ) (Y1:zL) (c b d a e:AVal) (h:za):Prop:=
 B.pv (V.bin .sub a b) fun f=>
  B.pv (V.bin .geq f (.int .i64 2)) fun g=>
  B.cond g (B.pv (V.bin .sub a (.int .i64 1)) fun i=>
  zw (zf.l5 C E f1 Q Y1 c b d a e) [i] h) (zf.k3 C E f1 Q Y1 c b d a e h)
@[simp] def zf.k7 (C:CSem) (E:zz) (f1:Nat) (Q:zQ) (Y1:zL) (a l m b n:AVal) (h:za):Prop:=
 B.pv (V.bin .sub b (.int .i64 1)) fun c=>
  B.pv (V.bin .sub b (.int .i64 1)) fun d=>
  B.pv (V.idxS E.es a d) fun e=>
  E.ld h e fun f=>
  B.pv (V.idxS E.es a b) fun g=>
  E.ld h g fun i=>
  B.pv (V.idxS E.es a b) fun j=>
  E.st h j f fun h=>
  B.pv (V.idxS E.es a c) fun k=>
  E.st h k i fun h=>
  zf.k6 C E f1 Q Y1 a l m b n h
@[simp] def zf.k8 (C:CSem) (E:zz) (f1:Nat) (Q:zQ) (Y1:zL) (e a b f g:AVal) (h:za):Prop:=
 B.pv (V.bin .sub b a) fun c=>
  B.pv (V.bin .lss c (.int .i64 50)) fun d=>
  B.cond d
  (Q (.bool false) h)
  (zf.k7 C E f1 Q Y1 e a b f g h)
@[simp] def zf.k9 (C:CSem) (E:zz) (f1:Nat) (Q:zQ) (Y1:zL) (Y4:zL) (c t d b u:AVal) (h:za):Prop:=
 B.pv (V.bin .lss b d) fun a=>
  B.gd h a true (fun K=>K c h) fun e h=>
  B.gd h a true (fun K=>K b h) fun f h=>
  B.gd h a true (fun K=>B.pv (V.idxS E.es e f) fun v=>K v h) fun g h=>
  B.gd h a true (fun K=>E.ld h g fun v=>K v h) fun i h=>
  B.gd h a true (fun K=>K c h) fun j h=>
  B.gd h a true (fun K=>K b h) fun k h=>
  B.gd h a true (fun K=>B.pv (V.bin .sub k (.int .i64 1)) fun v=>K v h) fun l h=>
  B.gd h a true (fun K=>B.pv (V.idxS E.es j l) fun v=>K v h) fun m h=>
  B.gd h a true (fun K=>E.ld h m fun v=>K v h) fun n h=>
  B.gd h a true (fun K=>B.call C f1 [i,n] h K) fun o h=>
  B.gd h a true (fun K=>B.pv (V.un .not o) fun v=>K v h) fun p h=>
  B.pick a p (.bool false) fun q=>
  B.cond q
  (B.pv (V.bin .add b (.int .i64 1)) fun r=>
  Y4 [r] h)
  (B.pv (V.bin .eql b d) fun s=>
  B.cond s
  (Q (.bool true) h)
  (zf.k8 C E f1 Q Y1 c t d b u h))
@[simp] def zf.l10 (C:CSem) (E:zz) (f1:Nat) (Q:zQ) (Y1:zL) (a b c d:AVal):zG
 | [e],h,Y4=>zf.k9 C E f1 Q Y1 Y4 a b c e d h
 | _,_,_=>False
@[simp] def zf.k11 (C:CSem) (E:zz) (f1:Nat) (Q:zQ) (Y1:zL) (c d e f a:AVal) (h:za):Prop:=
 B.pv (V.bin .lss a (.int .i64 5)) fun b=>
  B.cond b
  (zw (zf.l10 C E f1 Q Y1 c d e a) [f] h)
  (Q (.bool false) h)
@[simp] def zf.l12 (C:CSem) (E:zz) (f1:Nat) (Q:zQ) (a b c:AVal):zG
 | [d,e],h,Y1=>zf.k11 C E f1 Q Y1 a b c d e h
 | _,_,_=>False
@[simp] def zf.cps (C:CSem) (E:zz) (f1:Nat) (c a d:AVal) (h:za) (Q:zQ):Prop:=
 B.pv (V.bin .add a (.int .i64 1)) fun b=>
  zw (zf.l12 C E f1 Q c a d) [b,(.int .i64 0)] h
@[simp] def zx.k1 (C:CSem) (E:zz) (f1:Nat) (Q:zQ) (Y1:zL) (c n b a:AVal) (h:za):Prop:=
 B.pv (V.bin .gtr b a) fun d=>
  B.cond d
  (Q b h)
  (B.pv (V.idxS E.es c a) fun e=>
  E.ld h e fun f=>
  B.pv (V.idxS E.es c b) fun g=>
  E.ld h g fun i=>
  B.pv (V.idxS E.es c b) fun j=>
  E.st h j f fun h=>
  B.pv (V.idxS E.es c a) fun k=>
  E.st h k i fun h=>
  B.pv (V.bin .add b (.int .i64 1)) fun l=>
  B.pv (V.bin .sub a (.int .i64 1)) fun m=>
  Y1 [l,m] h)
@[simp] def zx.k2 (C:CSem) (E:zz) (f1:Nat) (Q:zQ) (Y1:zL) (Y2:zL) (c d e b:AVal) (h:za):Prop:=
 B.pv (V.bin .leq e b) fun a=>
  B.gd h a true (fun K=>K c h) fun f h=>
  B.gd h a true (fun K=>K d h) fun g h=>
  B.gd h a true (fun K=>B.pv (V.idxS E.es f g) fun v=>K v h) fun i h=>
  B.gd h a true (fun K=>E.ld h i fun v=>K v h) fun j h=>
  B.gd h a true (fun K=>K c h) fun k h=>
  B.gd h a true (fun K=>K b h) fun l h=>
  B.gd h a true (fun K=>B.pv (V.idxS E.es k l) fun v=>K v h) fun m h=>
  B.gd h a true (fun K=>E.ld h m fun v=>K v h) fun n h=>
  B.gd h a true (fun K=>B.call C f1 [j,n] h K) fun o h=>
  B.pick a o (.bool false) fun p=>
  B.cond p
  (B.pv (V.bin .sub b (.int .i64 1)) fun q=>
  Y2 [q] h)
  (zx.k1 C E f1 Q Y1 c d e b h)
@[simp] def zx.l3 (C:CSem) (E:zz) (f1:Nat) (Q:zQ) (Y1:zL) (b c d:AVal):zG
 | [a],h,Y2=>zx.k2 C E f1 Q Y1 Y2 b c d a h
 | _,_,_=>False
@[simp] def zx.k4 (C:CSem) (E:zz) (f1:Nat) (Q:zQ) (Y1:zL) (Y3:zL) (d e b c:AVal) (h:za):Prop:=
 B.pv (V.bin .leq b c) fun a=>
  B.gd h a true (fun K=>K d h) fun f h=>
  B.gd h a true (fun K=>K e h) fun g h=>
  B.gd h a true (fun K=>B.pv (V.idxS E.es f g) fun v=>K v h) fun i h=>
  B.gd h a true (fun K=>E.ld h i fun v=>K v h) fun j h=>
  B.gd h a true (fun K=>K d h) fun k h=>
  B.gd h a true (fun K=>K b h) fun l h=>
  B.gd h a true (fun K=>B.pv (V.idxS E.es k l) fun v=>K v h) fun m h=>
  B.gd h a true (fun K=>E.ld h m fun v=>K v h) fun n h=>
  B.gd h a true (fun K=>B.call C f1 [j,n] h K) fun o h=>
  B.gd h a true (fun K=>B.pv (V.un .not o) fun v=>K v h) fun p h=>
  B.pick a p (.bool false) fun q=>
  B.cond q
  (B.pv (V.bin .add b (.int .i64 1)) fun r=>
  Y3 [r] h)
  (zw (zx.l3 C E f1 Q Y1 d e b) [c] h)
@[simp] def zx.l5 (C:CSem) (E:zz) (f1:Nat) (Q:zQ) (Y1:zL) (b c a:AVal):zG
 | [d],h,Y3=>zx.k4 C E f1 Q Y1 Y3 b c d a h
 | _,_,_=>False
@[simp] def zx.l6 (C:CSem) (E:zz) (f1:Nat) (Q:zQ) (b c:AVal):zG
 | [d,a],h,Y1=>zw (zx.l5 C E f1 Q Y1 b c a) [d] h
 | _,_,_=>False
@[simp] def zx.k7 (C:CSem) (E:zz) (f1:Nat) (Q:zQ) (d a e:AVal) (h:za):Prop:=
 B.pv (V.bin .add a (.int .i64 1)) fun b=>
  B.pv (V.bin .sub e (.int .i64 1)) fun c=>
  zw (zx.l6 C E f1 Q d a) [b,c] h
@[simp] def zx.k8 (C:CSem) (E:zz) (f1:Nat) (Q:zQ) (a b k c:AVal) (h:za):Prop:=
 B.pv (V.idxS E.es a c) fun d=>
  E.ld h d fun e=>
  B.pv (V.idxS E.es a b) fun f=>
  E.ld h f fun g=>
  B.pv (V.idxS E.es a b) fun i=>
  E.st h i e fun h=>
  B.pv (V.idxS E.es a c) fun j=>
  E.st h j g fun h=>
  zx.k7 C E f1 Q a b k h
@[simp] def zx.cps (C:CSem) (E:zz) (f1:Nat) (a b c d:AVal) (h:za) (Q:zQ):Prop:=
 zx.k8 C E f1 Q a b c d h
@[simp] def zi.k1 (C:CSem) (E:zz) (f1:Nat) (Q:zQ) (b j a:AVal) (h:za):Prop:=
 B.pv (V.idxS E.es b j) fun c=>
  E.ld h c fun d=>
  B.pv (V.idxS E.es b a) fun e=>
  E.ld h e fun f=>
  B.pv (V.idxS E.es b a) fun g=>
  E.st h g d fun h=>
  B.pv (V.idxS E.es b j) fun i=>
  E.st h i f fun h=>
  Q (.tup [a,(.bool false)]) h
@[simp] def zi.k2 (C:CSem) (E:zz) (f1:Nat) (Q:zQ) (Y1:zL) (c n b a:AVal) (h:za):Prop:=
 B.pv (V.bin .gtr b a) fun d=>
  B.cond d
  (zi.k1 C E f1 Q c n a h)
  (B.pv (V.idxS E.es c a) fun e=>
  E.ld h e fun f=>
  B.pv (V.idxS E.es c b) fun g=>
  E.ld h g fun i=>
  B.pv (V.idxS E.es c b) fun j=>
  E.st h j f fun h=>
  B.pv (V.idxS E.es c a) fun k=>
  E.st h k i fun h=>
  B.pv (V.bin .add b (.int .i64 1)) fun l=>
  B.pv (V.bin .sub a (.int .i64 1)) fun m=>
  Y1 [l,m] h)
@[simp] def zi.k3 (C:CSem) (E:zz) (f1:Nat) (Q:zQ) (Y1:zL) (Y2:zL) (d r c b:AVal) (h:za):Prop:=
 B.pv (V.bin .leq c b) fun a=>
  B.gd h a true (fun K=>K d h) fun e h=>
  B.gd h a true (fun K=>K b h) fun f h=>
  B.gd h a true (fun K=>B.pv (V.idxS E.es e f) fun v=>K v h) fun g h=>
  B.gd h a true (fun K=>E.ld h g fun v=>K v h) fun i h=>
  B.gd h a true (fun K=>K d h) fun j h=>
  B.gd h a true (fun K=>K r h) fun k h=>
  B.gd h a true (fun K=>B.pv (V.idxS E.es j k) fun v=>K v h) fun l h=>
  B.gd h a true (fun K=>E.ld h l fun v=>K v h) fun m h=>
  B.gd h a true (fun K=>B.call C f1 [i,m] h K) fun n h=>
  B.gd h a true (fun K=>B.pv (V.un .not n) fun v=>K v h) fun o h=>
  B.pick a o (.bool false) fun p=>
  B.cond p
  (B.pv (V.bin .sub b (.int .i64 1)) fun q=>
  Y2 [q] h)
  (zi.k2 C E f1 Q Y1 d r c b h)
@[simp] def zi.l4 (C:CSem) (E:zz) (f1:Nat) (Q:zQ) (Y1:zL) (c d a:AVal):zG
 | [b],h,Y2=>zi.k3 C E f1 Q Y1 Y2 c d a b h
 | _,_,_=>False
@[simp] def zi.k5 (C:CSem) (E:zz) (f1:Nat) (Q:zQ) (Y1:zL) (Y3:zL) (d q b c:AVal) (h:za):Prop:=
 B.pv (V.bin .leq b c) fun a=>
  B.gd h a true (fun K=>K d h) fun e h=>
  B.gd h a true (fun K=>K b h) fun f h=>
  B.gd h a true (fun K=>B.pv (V.idxS E.es e f) fun v=>K v h) fun g h=>
  B.gd h a true (fun K=>E.ld h g fun v=>K v h) fun i h=>
  B.gd h a true (fun K=>K d h) fun j h=>
  B.gd h a true (fun K=>K q h) fun k h=>
  B.gd h a true (fun K=>B.pv (V.idxS E.es j k) fun v=>K v h) fun l h=>
  B.gd h a true (fun K=>E.ld h l fun v=>K v h) fun m h=>
  B.gd h a true (fun K=>B.call C f1 [i,m] h K) fun n h=>
  B.pick a n (.bool false) fun o=>
  B.cond o
  (B.pv (V.bin .add b (.int .i64 1)) fun p=>
  Y3 [p] h)
  (zw (zi.l4 C E f1 Q Y1 d q b) [c] h)
@[simp] def zi.l6 (C:CSem) (E:zz) (f1:Nat) (Q:zQ) (Y1:zL) (c d a:AVal):zG
 | [b],h,Y3=>zi.k5 C E f1 Q Y1 Y3 c d b a h
 | _,_,_=>False
@[simp] def zi.l7 (C:CSem) (E:zz) (f1:Nat) (Q:zQ) (c d:AVal):zG
 | [a,b],h,Y1=>zw (zi.l6 C E f1 Q Y1 c d b) [a] h
 | _,_,_=>False
@[simp] def zi.k8 (C:CSem) (E:zz) (f1:Nat) (Q:zQ) (e f a b:AVal) (h:za):Prop:=
 B.pv (V.bin .add a (.int .i64 1)) fun c=>
  B.pv (V.bin .sub b (.int .i64 1)) fun d=>
  zw (zi.l7 C E f1 Q e f) [c,d] h
@[simp] def zi.k9 (C:CSem) (E:zz) (f1:Nat) (Q:zQ) (a k b c:AVal) (h:za):Prop:=
 B.pv (V.idxS E.es a c) fun d=>
  E.ld h d fun e=>
  B.pv (V.idxS E.es a b) fun f=>
  E.ld h f fun g=>
  B.pv (V.idxS E.es a b) fun i=>
  E.st h i e fun h=>
  B.pv (V.idxS E.es a c) fun j=>
  E.st h j g fun h=>
  zi.k8 C E f1 Q a k b c h
@[simp] def zi.k10 (C:CSem) (E:zz) (f1:Nat) (Q:zQ) (b d c a:AVal) (h:za):Prop:=
 B.pv (V.bin .gtr c a) fun e=>
  B.cond e
  (B.pv (V.idxS E.es b d) fun f=>
  E.ld h f fun g=>
  B.pv (V.idxS E.es b a) fun i=>
  E.ld h i fun j=>
  B.pv (V.idxS E.es b a) fun k=>
  E.st h k g fun h=>
  B.pv (V.idxS E.es b d) fun l=>
  E.st h l j fun h=>
  Q (.tup [a,(.bool true)]) h)
  (zi.k9 C E f1 Q b d c a h)
@[simp] def zi.k11 (C:CSem) (E:zz) (f1:Nat) (Q:zQ) (Y4:zL) (d e c b:AVal) (h:za):Prop:=
 B.pv (V.bin .leq c b) fun a=>
  B.gd h a true (fun K=>K d h) fun f h=>
  B.gd h a true (fun K=>K b h) fun g h=>
  B.gd h a true (fun K=>B.pv (V.idxS E.es f g) fun v=>K v h) fun i h=>
  B.gd h a true (fun K=>E.ld h i fun v=>K v h) fun j h=>
  B.gd h a true (fun K=>K d h) fun k h=>
  B.gd h a true (fun K=>K e h) fun l h=>
  B.gd h a true (fun K=>B.pv (V.idxS E.es k l) fun v=>K v h) fun m h=>
  B.gd h a true (fun K=>E.ld h m fun v=>K v h) fun n h=>
  B.gd h a true (fun K=>B.call C f1 [j,n] h K) fun o h=>
  B.gd h a true (fun K=>B.pv (V.un .not o) fun v=>K v h) fun p h=>
  B.pick a p (.bool false) fun q=>
  B.cond q
  (B.pv (V.bin .sub b (.int .i64 1)) fun r=>
  Y4 [r] h)
  (zi.k10 C E f1 Q d e c b h)
@[simp] def zi.l12 (C:CSem) (E:zz) (f1:Nat) (Q:zQ) (c d a:AVal):zG
 | [b],h,Y4=>zi.k11 C E f1 Q Y4 c d a b h
 | _,_,_=>False
@[simp] def zi.k13 (C:CSem) (E:zz) (f1:Nat) (Q:zQ) (Y5:zL) (d e b c:AVal) (h:za):Prop:=
 B.pv (V.bin .leq b c) fun a=>
  B.gd h a true (fun K=>K d h) fun f h=>
  B.gd h a true (fun K=>K b h) fun g h=>
  B.gd h a true (fun K=>B.pv (V.idxS E.es f g) fun v=>K v h) fun i h=>
  B.gd h a true (fun K=>E.ld h i fun v=>K v h) fun j h=>
  B.gd h a true (fun K=>K d h) fun k h=>
  B.gd h a true (fun K=>K e h) fun l h=>
  B.gd h a true (fun K=>B.pv (V.idxS E.es k l) fun v=>K v h) fun m h=>
  B.gd h a true (fun K=>E.ld h m fun v=>K v h) fun n h=>
  B.gd h a true (fun K=>B.call C f1 [j,n] h K) fun o h=>
  B.pick a o (.bool false) fun p=>
  B.cond p
  (B.pv (V.bin .add b (.int .i64 1)) fun q=>
  Y5 [q] h)
  (zw (zi.l12 C E f1 Q d e b) [c] h)
@[simp] def zi.l14 (C:CSem) (E:zz) (f1:Nat) (Q:zQ) (c d a:AVal):zG
 | [b],h,Y5=>zi.k13 C E f1 Q Y5 c d b a h
 | _,_,_=>False
@[simp] def zi.k15 (C:CSem) (E:zz) (f1:Nat) (Q:zQ) (d a e:AVal) (h:za):Prop:=
 B.pv (V.bin .add a (.int .i64 1)) fun b=>
  B.pv (V.bin .sub e (.int .i64 1)) fun c=>
  zw (zi.l14 C E f1 Q d a c) [b] h
@[simp] def zi.k16 (C:CSem) (E:zz) (f1:Nat) (Q:zQ) (a b k c:AVal) (h:za):Prop:=
 B.pv (V.idxS E.es a c) fun d=>
  E.ld h d fun e=>
  B.pv (V.idxS E.es a b) fun f=>
  E.ld h f fun g=>
  B.pv (V.idxS E.es a b) fun i=>
  E.st h i e fun h=>
  B.pv (V.idxS E.es a c) fun j=>
  E.st h j g fun h=>
  zi.k15 C E f1 Q a b k h
@[simp] def zi.cps (C:CSem) (E:zz) (f1:Nat) (a b c d:AVal) (h:za) (Q:zQ):Prop:=
 zi.k16 C E f1 Q a b c d h
@[simp] def zcb.k1 (C:CSem) (E:zz) (f1:Nat) (Q:zQ) (Y1:zL) (a x b d c:AVal) (h:za):Prop:=
 B.pv (V.bin .add b d) fun e=>
  B.pv (V.idxS E.es a e) fun f=>
  E.ld h f fun g=>
  B.pv (V.bin .add b c) fun i=>
  B.pv (V.idxS E.es a i) fun j=>
  E.ld h j fun k=>
  B.call C f1 [g,k] h fun l h=>
  B.pv (V.un .not l) fun m=>
  B.cond m
  (Q (.tup []) h)
  (B.pv (V.bin .add b d) fun n=>
  B.pv (V.bin .add b c) fun o=>
  B.pv (V.bin .add b c) fun p=>
  B.pv (V.idxS E.es a p) fun q=>
  E.ld h q fun r=>
  B.pv (V.bin .add b d) fun s=>
  B.pv (V.idxS E.es a s) fun t=>
  E.ld h t fun u=>
  B.pv (V.idxS E.es a n) fun v=>
  E.st h v r fun h=>
  B.pv (V.idxS E.es a o) fun w=>
  E.st h w u fun h=>
  Y1 [c] h)
@[simp] def zcb.k2 (C:CSem) (E:zz) (f1:Nat) (Q:zQ) (Y1:zL) (c e d f b:AVal) (h:za):Prop:=
 B.pv (V.bin .add b (.int .i64 1)) fun g=>
  B.pv (V.bin .lss g e) fun a=>
  B.gd h a true (fun K=>K c h) fun i h=>
  B.gd h a true (fun K=>K d h) fun j h=>
  B.gd h a true (fun K=>K b h) fun k h=>
  B.gd h a true (fun K=>B.pv (V.bin .add j k) fun v=>K v h) fun l h=>
  B.gd h a true (fun K=>B.pv (V.idxS E.es i l) fun v=>K v h) fun m h=>
  B.gd h a true (fun K=>E.ld h m fun v=>K v h) fun n h=>
  B.gd h a true (fun K=>K c h) fun o h=>
  B.gd h a true (fun K=>K d h) fun p h=>
  B.gd h a true (fun K=>K b h) fun q h=>
  B.gd h a true (fun K=>B.pv (V.bin .add p q) fun v=>K v h) fun r h=>
  B.gd h a true (fun K=>B.pv (V.bin .add r (.int .i64 1)) fun v=>K v h) fun s h=>
  B.gd h a true (fun K=>B.pv (V.idxS E.es o s) fun v=>K v h) fun t h=>
  B.gd h a true (fun K=>E.ld h t fun v=>K v h) fun u h=>
  B.gd h a true (fun K=>B.call C f1 [n,u] h K) fun w h=>
  B.pick a w (.bool false) fun x=>
  B.cond x
  (B.pv (V.bin .add b (.int .i64 1)) fun y=>
  zcb.k1 C E f1 Q Y1 c e d f y h)
  (zcb.k1 C E f1 Q Y1 c e d f b h)
@[simp] def zcb.k3 (C:CSem) (E:zz) (f1:Nat) (Q:zQ) (Y1:zL) (f b g c:AVal) (h:za):Prop:=
 B.pv (V.bin .mul (.int .i64 2) c) fun d=>
  B.pv (V.bin .add d (.int .i64 1)) fun a=>
  B.pv (V.bin .geq a b) fun e=>
  B.cond e
  (Q (.tup []) h)
  (zcb.k2 C E f1 Q Y1 f b g c a h)
@[simp] def zcb.l4 (C:CSem) (E:zz) (f1:Nat) (Q:zQ) (a b c:AVal):zG
 | [d],h,Y1=>zcb.k3 C E f1 Q Y1 a b c d h
 | _,_,_=>False
@[simp] def zcb.cps (C:CSem) (E:zz) (f1:Nat) (a b c d:AVal) (h:za) (Q:zQ):Prop:=
 zw (zcb.l4 C E f1 Q a c d) [b] h
@[simp] def ze9.cps (C:CSem) (E:zz) (f1:Nat) (d a e:AVal) (h:za) (Q:zQ):Prop:=
 B.pv (V.bin .sub a (.int .i64 1)) fun f=>
  B.pv (V.bin .add a (.int .i64 1)) fun b=>
  B.call C f1 [d,f,a,b,e] h fun c h=>
  Q c h
@[simp] def ze7.k1 (C:CSem) (E:zz) (f1:Nat) (Q:zQ) (d k l m e:AVal) (h:za):Prop:=
 B.call C f1 [d,k,l,e] h fun a h=>
  B.pv (V.ext 0 a) fun f=>
  B.pv (V.ext 1 a) fun g=>
  B.call C f1 [d,g,m,e] h fun b h=>
  B.pv (V.ext 0 b) fun i=>
  B.pv (V.ext 1 b) fun n=>
  B.call C f1 [d,f,i,e] h fun c h=>
  B.pv (V.ext 0 c) fun o=>
  B.pv (V.ext 1 c) fun j=>
  Q j h
@[simp] def ze7.cps (C:CSem) (E:zz) (f1:Nat) (a b c d e:AVal) (h:za) (Q:zQ):Prop:=
 ze7.k1 C E f1 Q a b c d e h
@[simp] def ze6.k1 (C:CSem) (E:zz) (f1:Nat) (Q:zQ) (c a b d:AVal) (h:za):Prop:=
 B.pv (V.idxS E.es c b) fun e=>
  E.ld h e fun f=>
  B.pv (V.idxS E.es c a) fun g=>
  E.ld h g fun i=>
  B.call C f1 [f,i] h fun j h=>
  B.cond j
  (B.nilCheck d fun k=>
  B.ld h k fun l=>
  B.pv (V.bin .add l (.int .i64 1)) fun m=>
  B.nilCheck d fun n=>
  B.st h n m fun h=>
  Q (.tup [b,a]) h)
  (Q (.tup [a,b]) h)
@[simp] def ze6.cps (C:CSem) (E:zz) (f1:Nat) (a b c d:AVal) (h:za) (Q:zQ):Prop:=
 ze6.k1 C E f1 Q a b c d h
@[simp] def zge.k1 (C:CSem) (E:zz) (Q:zQ) (a m:AVal) (h:za):Prop:=
 B.pv (V.capSl a) fun c=>
  B.pv (V.zcw a) fun d=>
  B.pv (V.bin .sub c d) fun e=>
  B.pv (V.bin .sub m e) fun b=>
  B.pv (V.bin .gtr b (.int .i64 0)) fun f=>
  B.cond f
  (B.pv (V.capSl a) fun g=>
  B.pv (V.zh2 E.es a none (some g)) fun i=>
  B.appZ h E.es E.bytes E.z i b fun j h=>
  B.pv (V.zcw a) fun k=>
  B.pv (V.zh2 E.es j none (some k)) fun l=>
  Q l h)
  (Q a h)
@[simp] def zge.cps (C:CSem) (E:zz) (b a:AVal) (h:za) (Q:zQ):Prop:=
 B.pv (V.bin .lss a (.int .i64 0)) fun c=>
  B.cond c
  (False)
  (zge.k1 C E Q b a h)
@[simp] def zks.cps (C:CSem) (E:zz) (f1:Nat) (a b:AVal) (h:za) (Q:zQ):Prop:=
 B.call C f1 [a,b] h fun c h=>
  B.pv (V.bin .geq c (.int .i64 0)) fun d=>
  Q d h
@[simp] def zew.k1 (C:CSem) (E:zz) (Q:zQ) (Y1:zL) (f g i a:AVal) (h:za):Prop:=
 B.pv (V.bin .lss a i) fun j=>
  B.cond j
  (B.pv (V.idxS E.es f a) fun b=>
  E.ld h b fun c=>
  B.pv (V.bin .eql g c) fun d=>
  B.cond d
  (Q a h)
  (B.pv (V.bin .add a (.int .i64 1)) fun e=>
  Y1 [e] h))
  (Q (.int .i64 (-1)) h)
@[simp] def zew.l2 (C:CSem) (E:zz) (Q:zQ) (a b c:AVal):zG
 | [d],h,Y1=>zew.k1 C E Q Y1 a b c d h
 | _,_,_=>False
@[simp] def zew.cps (C:CSem) (E:zz) (a b:AVal) (h:za) (Q:zQ):Prop:=
 B.pv (V.zcw a) fun c=>
  zw (zew.l2 C E Q a b c) [(.int .i64 0)] h
@[simp] def zdx.k1 (C:CSem) (E:zz) (f1:Nat) (Q:zQ) (d e:AVal) (h:za):Prop:=
 B.pv (V.zcw d) fun a=>
  B.pv (V.zcw e) fun b=>
  B.pv (V.bin .lss a b) fun c=>
  B.cond c
  (Q (.int .i64 (-1)) h)
  (Q (.int .i64 0) h)
@[simp] def zdx.k2 (C:CSem) (E:zz) (f1:Nat) (Q:zQ) (Y1:zL) (o c p d a:AVal) (h:za):Prop:=
 B.pv (V.bin .lss a d) fun e=>
  B.cond e
  (B.pv (V.idxS E.es p a) fun f=>
  E.ld h f fun g=>
  B.pv (V.zcw c) fun i=>
  B.pv (V.bin .geq a i) fun j=>
  B.cond j
  (Q (.int .i64 1) h)
  (B.pv (V.idxS E.es c a) fun k=>
  E.ld h k fun l=>
  B.call C f1 [g,l] h fun b h=>
  B.pv (V.bin .neq b (.int .i64 0)) fun m=>
  B.cond m
  (Q b h)
  (B.pv (V.bin .add a (.int .i64 1)) fun n=>
  Y1 [n] h)))
  (zdx.k1 C E f1 Q o c h)
@[simp] def zdx.l3 (C:CSem) (E:zz) (f1:Nat) (Q:zQ) (c d e a:AVal):zG
 | [b],h,Y1=>zdx.k2 C E f1 Q Y1 c d e a b h
 | _,_,_=>False
@[simp] def zdx.cps (C:CSem) (E:zz) (f1:Nat) (a c:AVal) (h:za) (Q:zQ):Prop:=
 B.pv (V.zcw a) fun b=>
  zw (zdx.l3 C E f1 Q a c a b) [(.int .i64 0)] h
def zy.cps (C:CSem) (N:zN) (a b:AVal) (h:za) (Q:zQ):Prop:=
 zb3.cps C (opsF 8 80 [.int .i64 0,.str [],.int .i64 0,.int .i64 0,.int .i64 0,.int .u8 0,.int .i64 0,.str []] 0 []) a b h Q
def zy.Imp (C:CSem) (N:zN):Prop:=im2 C (N 206) (zy.cps C N)
@[simp] def zcv.k1 (C:CSem) (N:zN) (Q:zQ) (a:AVal) (h:za):Prop:=
 B.nilCheck a fun u=>
  B.ld h u fun v=>
  B.nilCheck a fun w=>
  B.ld h w fun x=>
  B.pv (V.bin .shl x (.int .u64 13)) fun y=>
  B.pv (V.bin .xor v y) fun b=>
  B.nilCheck a fun c=>
  B.st h c b fun h=>
  B.nilCheck a fun d=>
  B.ld h d fun e=>
  B.nilCheck a fun f=>
  B.ld h f fun g=>
  B.pv (V.bin .shr g (.int .u64 7)) fun i=>
  B.pv (V.bin .xor e i) fun j=>
  B.nilCheck a fun k=>
  B.st h k j fun h=>
  B.nilCheck a fun l=>
  B.ld h l fun m=>
  B.nilCheck a fun n=>
  B.ld h n fun o=>
  B.pv (V.bin .shl o (.int .u64 17)) fun p=>
  B.pv (V.bin .xor m p) fun q=>
  B.nilCheck a fun r=>
  B.st h r q fun h=>
  B.nilCheck a fun s=>
  B.ld h s fun t=>
  Q t h
@[simp] def zcv.cps (C:CSem) (N:zN) (a:AVal) (h:za) (Q:zQ):Prop:=
 zcv.k1 C N Q a h
def zcv.Imp (C:CSem) (N:zN):Prop:=im1 C (N 298) (zcv.cps C N)
@[simp] def zda.cps (C:CSem) (N:zN) (a:AVal) (h:za) (Q:zQ):Prop:=
 B.pv (V.toInt .u64 a) fun b=>
  B.call C (N 287) [b] h fun c h=>
  B.pv (V.bin .shl (.int .u64 1) c) fun d=>
  Q d h
def zda.Imp (C:CSem) (N:zN):Prop:=im1 C (N 299) (zda.cps C N)
def zbp.cps (C:CSem) (N:zN) (a:AVal) (h:za) (Q:zQ):Prop:=
 zhd.cps C (opsS 16 (.str []) 0) (N 287) (N 375) a h Q
def zbp.Imp (C:CSem) (N:zN):Prop:=im1 C (N 364) (zbp.cps C N)
def zbi.cps (C:CSem) (N:zN) (a:AVal) (h:za) (Q:zQ):Prop:=
 zcl.cps C (opsS 16 (.str []) 0) a h Q
def zbi.Imp (C:CSem) (N:zN):Prop:=im1 C (N 365) (zbi.cps C N)
def zbe.cps (C:CSem) (N:zN) (a b:AVal) (h:za) (Q:zQ):Prop:=
 zb3.cps C (opsF 4 72 [.str [],.int .i64 0,.nils,.nils] 0 []) a b h Q
def zbe.Imp (C:CSem) (N:zN):Prop:=im2 C (N 367) (zbe.cps C N)
@[simp] def zl.k1 (C:CSem) (N:zN) (Q:zQ) (Y1:zL) (b c d a:AVal) (h:za):Prop:=
 B.pv (V.bin .lss a d) fun e=>
  B.cond e
  (B.pv (V.idxS 1 c a) fun f=>
  B.ld h f fun g=>
  B.appW h 1 16 b g fun i h=>
  B.pv (V.bin .add a (.int .i64 1)) fun j=>
  Y1 [i,j] h)
  (Q b h)
@[simp] def zl.l2 (C:CSem) (N:zN) (Q:zQ) (a b:AVal):zG
 | [d,c],h,Y1=>zl.k1 C N Q Y1 d a b c h
 | _,_,_=>False
@[simp] def zl.k3 (C:CSem) (N:zN) (Q:zQ) (Y2:zL) (c d o e a:AVal) (h:za):Prop:=
 B.pv (V.bin .lss a e) fun f=>
  B.cond f
  (B.pv (V.idxS 1 o a) fun g=>
  B.ld h g fun i=>
  B.pv (V.zcw i) fun j=>
  B.pv (V.bin .add d j) fun b=>
  B.pv (V.bin .lss b (.int .i64 0)) fun k=>
  B.cond k
  (False)
  (B.pv (V.bin .add a (.int .i64 1)) fun l=>
  Y2 [b,l] h))
  (B.call C (N 376) [.nils,d] h fun m h=>
  B.pv (V.zcw c) fun n=>
  zw (zl.l2 C N Q c n) [m,(.int .i64 0)] h)
@[simp] def zl.l4 (C:CSem) (N:zN) (Q:zQ) (c d a:AVal):zG
 | [e,b],h,Y2=>zl.k3 C N Q Y2 c e d a b h
 | _,_,_=>False
@[simp] def zl.cps (C:CSem) (N:zN) (a:AVal) (h:za) (Q:zQ):Prop:=
 B.pv (V.zcw a) fun b=>
  zw (zl.l4 C N Q a a b) [(.int .i64 0),(.int .i64 0)] h
def zl.Imp (C:CSem) (N:zN):Prop:=im1 C (N 373) (zl.cps C N)
def zcy.cps (C:CSem) (N:zN) (a b c d:AVal) (h:za) (Q:zQ):Prop:=
 z9.cps C (opsS 16 (.str []) 0) (N 377) (N 378) (N 379) (N 375) (N 380) (N 381) (N 382) (N 383) (N 384) (N 385) a b c d h Q
def zcy.Imp (C:CSem) (N:zN):Prop:=im4 C (N 375) (zcy.cps C N)
def zbx.cps (C:CSem) (N:zN) (a b:AVal) (h:za) (Q:zQ):Prop:=
 zge.cps C (opsS 16 (.str []) 0) a b h Q
def zbx.Imp (C:CSem) (N:zN):Prop:=im2 C (N 376) (zbx.cps C N)
def zbz.cps (C:CSem) (N:zN) (a b c d:AVal) (h:za) (Q:zQ):Prop:=
 zx.cps C (opsS 16 (.str []) 0) (N 377) a b c d h Q
def zbz.Imp (C:CSem) (N:zN):Prop:=im4 C (N 378) (zbz.cps C N)
def zco.cps (C:CSem) (N:zN) (a b c d:AVal) (h:za) (Q:zQ):Prop:=
 zi.cps C (opsS 16 (.str []) 0) (N 377) a b c d h Q
def zco.Imp (C:CSem) (N:zN):Prop:=im4 C (N 379) (zco.cps C N)
def zbq.cps (C:CSem) (N:zN) (a b c:AVal) (h:za) (Q:zQ):Prop:=
 zf.cps C (opsS 16 (.str []) 0) (N 377) a b c h Q
def zbq.Imp (C:CSem) (N:zN):Prop:=im3 C (N 380) (zbq.cps C N)
def zcc.cps (C:CSem) (N:zN) (a b c:AVal) (h:za) (Q:zQ):Prop:=
 zdb.cps C (opsS 16 (.str []) 0) a b c h Q
def zcc.Imp (C:CSem) (N:zN):Prop:=im3 C (N 381) (zcc.cps C N)
def zch.cps (C:CSem) (N:zN) (a b c:AVal) (h:za) (Q:zQ):Prop:=
 zbd.cps C (opsS 16 (.str []) 0) (N 387) (N 388) a b c h Q
def zch.Imp (C:CSem) (N:zN):Prop:=im3 C (N 382) (zch.cps C N)
def zb8.cps (C:CSem) (N:zN) (a b c:AVal) (h:za) (Q:zQ):Prop:=
 zu.cps C (opsS 16 (.str []) 0) (N 298) (N 299) a b c h Q
def zb8.Imp (C:CSem) (N:zN):Prop:=im3 C (N 383) (zb8.cps C N)
def zct.cps (C:CSem) (N:zN) (a b c:AVal) (h:za) (Q:zQ):Prop:=
 zbs.cps C (opsS 16 (.str []) 0) (N 386) a b c h Q
def zct.Imp (C:CSem) (N:zN):Prop:=im3 C (N 384) (zct.cps C N)
def zb6.cps (C:CSem) (N:zN) (a b c:AVal) (h:za) (Q:zQ):Prop:=
 zb5.cps C (opsS 16 (.str []) 0) (N 377) a b c h Q
def zb6.Imp (C:CSem) (N:zN):Prop:=im3 C (N 385) (zb6.cps C N)
def zcr.cps (C:CSem) (N:zN) (a b c d:AVal) (h:za) (Q:zQ):Prop:=
 zcb.cps C (opsS 16 (.str []) 0) (N 377) a b c d h Q
def zcr.Imp (C:CSem) (N:zN):Prop:=im4 C (N 386) (zcr.cps C N)
def zb1.cps (C:CSem) (N:zN) (a b c:AVal) (h:za) (Q:zQ):Prop:=
 ze9.cps C (opsS 16 (.str []) 0) (N 388) a b c h Q
def zb1.Imp (C:CSem) (N:zN):Prop:=im3 C (N 387) (zb1.cps C N)
def zc4.cps (C:CSem) (N:zN) (a b c d e:AVal) (h:za) (Q:zQ):Prop:=
 ze7.cps C (opsS 16 (.str []) 0) (N 390) a b c d e h Q
def zc4.Imp (C:CSem) (N:zN):Prop:=im5 C (N 388) (zc4.cps C N)
def zc2.cps (C:CSem) (N:zN) (a b c d:AVal) (h:za) (Q:zQ):Prop:=
 ze6.cps C (opsS 16 (.str []) 0) (N 377) a b c d h Q
def zc2.Imp (C:CSem) (N:zN):Prop:=im4 C (N 390) (zc2.cps C N)
def zbj.cps (C:CSem) (N:zN) (a b:AVal) (h:za) (Q:zQ):Prop:=
 zks.cps C (opsS 16 (.str []) 0) (N 445) a b h Q
def zbj.Imp (C:CSem) (N:zN):Prop:=im2 C (N 442) (zbj.cps C N)
def zbt.cps (C:CSem) (N:zN) (a b:AVal) (h:za) (Q:zQ):Prop:=
 zew.cps C (opsS 16 (.str []) 0) a b h Q
def zbt.Imp (C:CSem) (N:zN):Prop:=im2 C (N 445) (zbt.cps C N)
def zbn.cps (C:CSem) (N:zN) (a b:AVal) (h:za) (Q:zQ):Prop:=
 zfn.cps C (opsS 24 (.nils) 0) (N 287) (N 579) a b h Q
def zbn.Imp (C:CSem) (N:zN):Prop:=im2 C (N 566) (zbn.cps C N)
def zbg.cps (C:CSem) (N:zN) (a:AVal) (h:za) (Q:zQ):Prop:=
 zke.cps C (opsS 16 (.str []) 0) a h Q
def zbg.Imp (C:CSem) (N:zN):Prop:=im1 C (N 567) (zbg.cps C N)
def zbk.cps (C:CSem) (N:zN) (a:AVal) (h:za) (Q:zQ):Prop:=
 zke.cps C (opsF 2 24 [.str [],.int .i64 0] 0 []) a h Q
def zbk.Imp (C:CSem) (N:zN):Prop:=im1 C (N 569) (zbk.cps C N)
def z8.cps (C:CSem) (N:zN) (a b:AVal) (h:za) (Q:zQ):Prop:=
 zb3.cps C (opsF 6 56 [.int .i64 0,.str [],.int .i64 0,.int .i64 0,.int .i64 0,.bool false] 0 []) a b h Q
def z8.Imp (C:CSem) (N:zN):Prop:=im2 C (N 572) (z8.cps C N)
def z7.cps (C:CSem) (N:zN) (a b:AVal) (h:za) (Q:zQ):Prop:=
 zim.cps C (opsF 4 72 [.str [],.int .i64 0,.nils,.nils] 0 []) (N 367) a b h Q
def z7.Imp (C:CSem) (N:zN):Prop:=im2 C (N 575) (z7.cps C N)
def zbl.cps (C:CSem) (N:zN) (a b:AVal) (h:za) (Q:zQ):Prop:=
 zdx.cps C (opsS 16 (.str []) 0) (N 580) a b h Q
def zbl.Imp (C:CSem) (N:zN):Prop:=im2 C (N 578) (zbl.cps C N)
def zcz.cps (C:CSem) (N:zN) (a b c d e:AVal) (h:za) (Q:zQ):Prop:=
 zm.cps C (opsS 24 (.nils) 0) (N 581) (N 582) (N 579) (N 583) (N 584) (N 585) (N 586) (N 587) (N 588) a b c d e h Q
def zcz.Imp (C:CSem) (N:zN):Prop:=im5 C (N 579) (zcz.cps C N)
def zb0.cps (C:CSem) (N:zN) (a b c d e:AVal) (h:za) (Q:zQ):Prop:=
 zj.cps C (opsS 24 (.nils) 0) a b c d e h Q
def zb0.Imp (C:CSem) (N:zN):Prop:=im5 C (N 581) (zb0.cps C N)
def zcp.cps (C:CSem) (N:zN) (a b c d e:AVal) (h:za) (Q:zQ):Prop:=
 ze.cps C (opsS 24 (.nils) 0) a b c d e h Q
def zcp.Imp (C:CSem) (N:zN):Prop:=im5 C (N 582) (zcp.cps C N)
def zbr.cps (C:CSem) (N:zN) (a b c d:AVal) (h:za) (Q:zQ):Prop:=
 zb.cps C (opsS 24 (.nils) 0) a b c d h Q
def zbr.Imp (C:CSem) (N:zN):Prop:=im4 C (N 583) (zbr.cps C N)
def zcd.cps (C:CSem) (N:zN) (a b c d:AVal) (h:za) (Q:zQ):Prop:=
 zck.cps C (opsS 24 (.nils) 0) a b c d h Q
def zcd.Imp (C:CSem) (N:zN):Prop:=im4 C (N 584) (zcd.cps C N)
def zci.cps (C:CSem) (N:zN) (a b c d:AVal) (h:za) (Q:zQ):Prop:=
 zo.cps C (opsS 24 (.nils) 0) (N 589) (N 590) a b c d h Q
def zci.Imp (C:CSem) (N:zN):Prop:=im4 C (N 585) (zci.cps C N)
def zb9.cps (C:CSem) (N:zN) (a b c d:AVal) (h:za) (Q:zQ):Prop:=
 zk.cps C (opsS 24 (.nils) 0) (N 298) (N 299) a b c d h Q
def zb9.Imp (C:CSem) (N:zN):Prop:=im4 C (N 586) (zb9.cps C N)
def zcu.cps (C:CSem) (N:zN) (a b c d:AVal) (h:za) (Q:zQ):Prop:=
 zbb.cps C (opsS 24 (.nils) 0) (N 591) a b c d h Q
def zcu.Imp (C:CSem) (N:zN):Prop:=im4 C (N 587) (zcu.cps C N)
def zb7.cps (C:CSem) (N:zN) (a b c d:AVal) (h:za) (Q:zQ):Prop:=
 zbf.cps C (opsS 24 (.nils) 0) a b c d h Q
def zb7.Imp (C:CSem) (N:zN):Prop:=im4 C (N 588) (zb7.cps C N)
def zc5.cps (C:CSem) (N:zN) (a b c d e f:AVal) (h:za) (Q:zQ):Prop:=
 zen.cps C (opsS 24 (.nils) 0) (N 592) a b c d e f h Q
def zc5.Imp (C:CSem) (N:zN):Prop:=im6 C (N 589) (zc5.cps C N)
def zb2.cps (C:CSem) (N:zN) (a b c d:AVal) (h:za) (Q:zQ):Prop:=
 zdp.cps C (opsS 24 (.nils) 0) (N 589) a b c d h Q
def zb2.Imp (C:CSem) (N:zN):Prop:=im4 C (N 590) (zb2.cps C N)
def zcs.cps (C:CSem) (N:zN) (a b c d e:AVal) (h:za) (Q:zQ):Prop:=
 zbh.cps C (opsS 24 (.nils) 0) a b c d e h Q
def zcs.Imp (C:CSem) (N:zN):Prop:=im5 C (N 591) (zcs.cps C N)
def zc3.cps (C:CSem) (N:zN) (a b c d e:AVal) (h:za) (Q:zQ):Prop:=
 zem.cps C (opsS 24 (.nils) 0) a b c d e h Q
def zc3.Imp (C:CSem) (N:zN):Prop:=im5 C (N 592) (zc3.cps C N)
end Go.Ab
set_option maxRecDepth 100000
namespace Go.Ab.S12
open Go.Ab Go.Proofs
noncomputable abbrev P:Program:=Try.prog
def lkz:List (Nat×List Nat)->Nat->List Nat
 | [],_=>[]
 | (a,b)::r,k=>bif Nat.beq a k then b else lkz r k
def pz (e:List (Nat×List Nat)):Nat->List (Nat×List Nat)
 | 0=>[]
 | n+1=>pz e n++[(n,lkz e n)]
@[reducible] def LkT (P:Program) (I:Bx) (f:Func) (F:CSem->(zQ)->zcf->za->Prop):Prop:= ∀ {C:CSem} (hC:zlx C) (Q:zQ) (s:zcf) (h:za),F C Q s h->bwp P C I (f.body.getD .skip) (retB P I f.results.toList Q) s h
theorem eT {P:Program} {C:CSem} {I:Bx} (hC:zlx C) {c:Code} {Q:Ex->zcf->za->Prop} {s:zcf} {h:za} (X:zcf->za->Prop) {p:Prop} (hR:p) (hb: ∀ s h,X s h->bwp P C I (cB c) Q s h) (e:bwp P C I (cA c) (Ex.then X Q) s h=p:=by kernel_rfl) (hk:isS c=true:=by kernel_rfl):bwp P C I c Q s h:=eS hC X (e1 hR e) hb hk
@[reducible] def on1 (F:AVal->zG):List AVal->zG
 | [a],u,v,w=>F a u v w
 | _,_,_,_=>False
@[reducible] def on2 (F:AVal->AVal->zG):List AVal->zG
 | [a,b],u,v,w=>F a b u v w
 | _,_,_,_=>False
@[reducible] def on3 (F:AVal->AVal->AVal->zG):List AVal->zG
 | [a,b,c],u,v,w=>F a b c u v w
 | _,_,_,_=>False
@[reducible] def on4 (F:AVal->AVal->AVal->AVal->zG):List AVal->zG
 | [a,b,c,d],u,v,w=>F a b c d u v w
 | _,_,_,_=>False
@[reducible] def on5 (F:AVal->AVal->AVal->AVal->AVal->zG):List AVal->zG
 | [a,b,c,d,e],u,v,w=>F a b c d e u v w
 | _,_,_,_=>False
@[reducible] def on6 (F:AVal->AVal->AVal->AVal->AVal->AVal->zG):List AVal->zG
 | [a,b,c,d,e,f],u,v,w=>F a b c d e f u v w
 | _,_,_,_=>False
@[reducible] def on7 (F:AVal->AVal->AVal->AVal->AVal->AVal->AVal->zG):List AVal->zG
 | [a,b,c,d,e,f,g],u,v,w=>F a b c d e f g u v w
 | _,_,_,_=>False
@[reducible] def on9 (F:AVal->AVal->AVal->AVal->AVal->AVal->AVal->AVal->AVal->zG):List AVal->zG
 | [a,b,c,d,e,f,g,i,j],u,v,w=>F a b c d e f g i j u v w
 | _,_,_,_=>False
def N (k:Nat):Nat:=[0,0,0,0,0,0,0,0,0,0,0,0,0,0,0,0,0,0,0,0,0,0,0,0,0,0,0,0,0,0,0,0,0,0,0,0,0,0,0,0,0,0,0,0,0,0,0,0,0,0,0,0,0,0,0,0,0,0,0,0,0,0,0,0,0,0,0,0,0,0,0,0,0,0,30,0,0,0,0,0,0,0,0,0,0,0,0,0,0,0,0,0,0,0,0,0,0,0,0,0,0,0,0,0,0,0,0,0,0,0,47,0,0,0,0,0,14,0,0,0,0,0,0,0,0,0,0,0,0,0,0,0,72,9,29,31,0,0,0,0,0,0,0,0,0,0,0,0,0,0,0,0,0,0,0,0,0,0,0,0,0,0,0,0,0,0,0,0,0,0,0,0,0,0,0,0,0,0,0,0,0,0,0,0,0,0,0,0,0,0,0,0,0,0,0,0,0,0,0,0,0,0,0,0,0,0,37,0,0,0,0,0,0,0,0,0,0,0,0,0,0,0,0,0,0,0,0,0,0,0,0,0,0,0,0,0,0,0,0,0,0,0,0,0,0,0,0,0,0,0,0,0,0,0,0,0,0,0,0,0,0,0,0,0,0,0,0,0,0,0,0,0,0,0,0,0,0,0,0,0,0,0,0,0,0,0,0,42,0,0,0,0,0,0,0,0,0,0,76,75,0,0,0,0,59,60,0,0,0,0,0,0,0,0,0,0,0,0,0,0,0,0,0,0,0,0,0,0,0,0,0,0,0,0,0,0,0,0,0,0,0,0,0,0,0,0,0,0,0,0,0,0,0,0,26,0,0,0,0,0,0,45,0,0,20,25,0,48,70,71,0,0,0,49,0,41,73,56,57,58,55,54,53,52,51,50,74,77,78,69,82,0,0,0,0,0,0,0,0,0,0,0,0,0,0,0,0,0,0,0,0,0,0,0,0,0,0,0,0,0,0,0,0,0,0,0,0,0,0,0,0,0,0,0,0,0,0,0,0,0,0,0,27,0,0,46,0,0,0,0,0,0,0,0,0,0,0,0,0,0,0,0,0,0,0,0,0,0,0,0,0,0,0,0,0,0,0,0,0,0,0,0,0,0,0,0,0,0,0,0,0,0,0,0,0,0,0,0,0,0,0,0,0,0,0,0,0,0,0,0,0,0,0,0,0,0,0,0,0,0,0,0,0,0,0,0,0,0,0,0,0,0,0,0,0,0,0,0,0,0,0,0,0,0,0,0,0,0,0,0,0,11,8,10,7,6,5,3,13,15,12,4,16,17,18,23,22,21,19,28,34,36,35,38,33,32,40,39,24,43,44,67,68,66,65,64,63,62,61,81,80,79,83].getD k 0
theorem mixed:P.follows .mixedOrders=true:=by kernel_rfl
def zg.I:Bx:=⟨[],[],222,[(14,[(0,[]),(1,[]),(2,[]),(3,[]),(4,[]),(5,[]),(6,[]),(7,[]),(9,[]),(8,[]),(10,[]),(11,[]),(12,[]),(13,[]),(14,[]),(15,[]),(16,[]),(17,[]),(18,[]),(19,[]),(20,[]),(21,[]),(22,[]),(23,[]),(24,[]),(25,[]),(26,[]),(27,[]),(28,[]),(29,[]),(30,[]),(31,[]),(32,[]),(33,[]),(34,[]),(35,[]),(36,[]),(37,[]),(38,[]),(39,[]),(40,[]),(41,[]),(44,[]),(45,[]),(46,[]),(47,[]),(42,[]),(43,[47]),(48,[]),(49,[]),(50,[])]),(16,pz [] 26),(26,pz [] 15)]⟩
theorem zg.L:LkT P zg.I Try.f3 fun C Q s h=>zg.cps C N (s 0) h Q:=fun {C} hC Q s h hR=>eT hC (fun s h=>B.call C (N 556) [] h fun c h=>B.pv (V.un .not c) fun d=>B.cond d (Q (.bool false) h) (zg.k18 C N Q (s 0) h)) hR (fun s h hR=>eT hC (fun s h=>zg.k18 C N Q (s 0) h) hR (fun s h hR=>eT hC (fun s h=>B.call C (N 554) [(s 0)] h fun e h=>zw (zg.l17 C N Q (s 0) e) [(.int .i64 0),(.int .i64 0)] h) hR (fun s h hR=>eT hC (fun s h=>zw (zg.l17 C N Q (s 0) (s 3)) [(.int .i64 0),(.int .i64 0)] h) hR (fun s h hR=>eT hC (fun s h=>zw (zg.l17 C N Q (s 0) (s 3)) [(s 4),(.int .i64 0)] h) hR (fun s h hR=>eS hC (fun s h=>zw (zg.l11 C N Q (s 0) (s 3) (s 4)) [(.int .i64 0),(.int .i64 0)] h) (eT hC (fun s h=>zw (zg.l17 C N Q (s 0) (s 3)) [(s 4),(s 5)] h) hR (fun s h hR=>eK (eL hC [0,3] [4,5] (on2 (zg.l17 C N Q)) hR (fun Y5 s h hR=>eT hC (fun s h=>zg.k15 C N Q Y5 (s 0) (s 3) (s 4) (s 5) h) hR (fun s h hR=>eS hC (fun s h=>B.pv (V.bin .add (s 5) (.int .i64 1)) fun f=>Y5 [(s 4),f] h) (eK (eT hC (fun s h=>zw (zg.l14 C N Q Y5 (s 0) (s 3) (s 4) (s 5)) [(.int .i64 0)] h) hR (fun s h hR=>eS hC (fun s h=>zg.k12 C N Q Y5 (s 0) (s 3) (s 4) (s 5) h) (eT hC (fun s h=>zw (zg.l14 C N Q Y5 (s 0) (s 3) (s 4) (s 5)) [(s 6)] h) hR (fun s h hR=>eK (eL hC [0,3,4,5] [6] (on4 (zg.l14 C N Q Y5)) hR (fun Y6 s h hR=>e1 hR)))) (fun s h hR=>e1 hR)))) (fun s h hR=>e1 hR)))))) (fun s h hR=>eT hC (fun s h=>zw (zg.l11 C N Q (s 0) (s 3) (s 4)) [(s 7),(.int .i64 0)] h) hR (fun s h hR=>eS hC (fun s h=>zg.k1 C N Q (s 0) (s 3) (s 4) (s 7) h) (eT hC (fun s h=>zw (zg.l11 C N Q (s 0) (s 3) (s 4)) [(s 7),(s 8)] h) hR (fun s h hR=>eK (eL hC [0,3,4] [7,8] (on3 (zg.l11 C N Q)) hR (fun Y1 s h hR=>eT hC (fun s h=>zw (zg.l9 C N Q Y1 (s 0) (s 3) (s 4) (s 7) (s 8)) [(.bool false),(.int .i64 0)] h) hR (fun s h hR=>eS hC (fun s h=>B.pv (V.bin .add (s 8) (.int .i64 1)) fun a=>Y1 [(s 7),a] h) (eK (eT hC (fun s h=>zw (zg.l9 C N Q Y1 (s 0) (s 3) (s 4) (s 7) (s 8)) [(s 9),(.int .i64 0)] h) hR (fun s h hR=>eS hC (fun s h=>zg.k7 C N Q Y1 (s 0) (s 3) (s 4) (s 7) (s 8) (s 9) h) (eT hC (fun s h=>zw (zg.l9 C N Q Y1 (s 0) (s 3) (s 4) (s 7) (s 8)) [(s 9),(s 10)] h) hR (fun s h hR=>eK (eL hC [0,3,4,7,8] [9,10] (on5 (zg.l9 C N Q Y1)) hR (fun Y4 s h hR=>e1 hR)))) (fun s h hR=>eT hC (fun s h=>zg.k6 C N Q Y1 (s 0) (s 3) (s 4) (s 7) (s 8) h) hR (fun s h hR=>eT hC (fun s h=>zw (zg.l5 C N Q Y1 (s 0) (s 3) (s 4) (s 7) (s 8) (s 11)) [(.int .i64 0)] h) hR (fun s h hR=>eS hC (fun s h=>zw (zg.l3 C N Q Y1 (s 0) (s 3) (s 4) (s 7) (s 8) (s 11)) [(.int .i64 0)] h) (eT hC (fun s h=>zw (zg.l5 C N Q Y1 (s 0) (s 3) (s 4) (s 7) (s 8) (s 11)) [(s 12)] h) hR (fun s h hR=>eK (eL hC [0,3,4,7,8,11] [12] (on6 (zg.l5 C N Q Y1)) hR (fun Y3 s h hR=>e1 hR)))) (fun s h hR=>eS hC (fun s h=>B.pv (V.bin .lss (s 11) (.int .i64 0)) fun b=>B.cond b (Q (.bool false) h) (B.pv (V.bin .add (s 8) (.int .i64 1)) fun a=>Y1 [(s 7),a] h)) (eT hC (fun s h=>zw (zg.l3 C N Q Y1 (s 0) (s 3) (s 4) (s 7) (s 8) (s 11)) [(s 14)] h) hR (fun s h hR=>eK (eL hC [0,3,4,7,8,11] [14] (on6 (zg.l3 C N Q Y1)) hR (fun Y2 s h hR=>e1 hR)))) (fun s h hR=>e1 hR)))))))) (fun s h hR=>e1 hR)))))) (fun s h hR=>e1 hR))))))))
theorem zg.imp:zg.Imp (AC P) N:=fun a h Q hR=>eF mixed (fn:=Try.f3) (fun hC=>zg.L hC (dn Q) (zdi [a]) h hR)
def zd7.I:Bx:=⟨[1],[],49,[]⟩
theorem zd7.L:LkT P zd7.I Try.f5 fun C Q s h=>zd7.cps C N h Q:=fun {C} hC Q s h hR=>e1 hR
theorem zd7.imp:zd7.Imp (AC P) N:=fun h Q hR=>eF mixed (fn:=Try.f5) (fun hC=>zd7.L hC (dn Q) (zdi []) h hR)
def zc7.I:Bx:=⟨[],[],38,[]⟩
theorem zc7.L:LkT P zc7.I Try.f6 fun C Q s h=>zc7.cps C N (s 0) (s 1) h Q:=fun {C} hC Q s h hR=>eT hC (fun s h=>zw (zc7.l3 C N Q (s 0) (s 1)) [(.int .i64 0),(.int .i64 0)] h) hR (fun s h hR=>eT hC (fun s h=>zw (zc7.l3 C N Q (s 0) (s 1)) [(s 5),(.int .i64 0)] h) hR (fun s h hR=>eS hC (fun s h=>zc7.k1 C N Q (s 0) (s 5) h) (eT hC (fun s h=>zw (zc7.l3 C N Q (s 0) (s 1)) [(s 5),(s 6)] h) hR (fun s h hR=>eK (eL hC [0,1] [5,6] (on2 (zc7.l3 C N Q)) hR (fun Y1 s h hR=>e1 hR)))) (fun s h hR=>e1 hR)))
theorem zc7.imp:zc7.Imp (AC P) N:=fun a b h Q hR=>eF mixed (fn:=Try.f6) (fun hC=>zc7.L hC (dn Q) (zdi [a,b]) h hR)
def zdo.I:Bx:=⟨[],[],50,[]⟩
theorem zdo.L:LkT P zdo.I Try.f7 fun C Q s h=>zdo.cps C N (s 0) h Q:=fun {C} hC Q s h hR=>eT hC (fun s h=>zdo.k5 C N Q (s 0) h) hR (fun s h hR=>eT hC (fun s h=>B.zl3 h fun c h=>B.rangeMap h (s 3) fun a h=>zw (zdo.l4 C N Q (s 4) c a) [] h) hR (fun s h hR=>eT hC (fun s h=>B.rangeMap h (s 3) fun a h=>zw (zdo.l4 C N Q (s 4) (s 5) a) [] h) hR (fun s h hR=>eS hC (fun s h=>B.rangeMap h (s 5) fun b h=>zw (zdo.l2 C N Q b) [.nils] h) (eT hC (fun s h=>zw (zdo.l4 C N Q (s 4) (s 5) (s 17)) [] h) hR (fun s h hR=>eK (eL hC [4,5,17] [] (on3 (zdo.l4 C N Q)) hR (fun Y2 s h hR=>e1 hR)))) (fun s h hR=>eT hC (fun s h=>B.rangeMap h (s 5) fun b h=>zw (zdo.l2 C N Q b) [(s 7)] h) hR (fun s h hR=>eS hC (fun s h=>B.call C (N 566) [(s 7),(.fn (N 565) [] [])] h fun d h=>Q (s 7) h) (eT hC (fun s h=>zw (zdo.l2 C N Q (s 35)) [(s 7)] h) hR (fun s h hR=>eK (eL hC [35] [7] (on1 (zdo.l2 C N Q)) hR (fun Y1 s h hR=>e1 hR)))) (fun s h hR=>e1 hR))))))
theorem zdo.imp:zdo.Imp (AC P) N:=fun a h Q hR=>eF mixed (fn:=Try.f7) (fun hC=>zdo.L hC (dn Q) (zdi [a]) h hR)
def zcm.I:Bx:=⟨[],[],32,[]⟩
theorem zcm.L:LkT P zcm.I Try.f8 fun C Q s h=>zcm.cps C N (s 0) (s 1) h Q:=fun {C} hC Q s h hR=>eT hC (fun s h=>zw (zcm.l4 C N Q (s 0) (s 1)) [(.int .i64 0)] h) hR (fun s h hR=>eS hC (fun s h=>Q (.int .i64 (-1)) h) (eT hC (fun s h=>zw (zcm.l4 C N Q (s 0) (s 1)) [(s 5)] h) hR (fun s h hR=>eK (eL hC [0,1] [5] (on2 (zcm.l4 C N Q)) hR (fun Y1 s h hR=>eT hC (fun s h=>zw (zcm.l2 C N Q Y1 (s 0) (s 1) (s 5)) [(.int .i64 0)] h) hR (fun s h hR=>eS hC (fun s h=>B.pv (V.bin .add (s 5) (.int .i64 1)) fun a=>Y1 [a] h) (eK (eT hC (fun s h=>zw (zcm.l2 C N Q Y1 (s 0) (s 1) (s 5)) [(s 6)] h) hR (fun s h hR=>eK (eL hC [0,1,5] [6] (on3 (zcm.l2 C N Q Y1)) hR (fun Y2 s h hR=>e1 hR))))) (fun s h hR=>e1 hR)))))) (fun s h hR=>e1 hR))
theorem zcm.imp:zcm.Imp (AC P) N:=fun a b h Q hR=>eF mixed (fn:=Try.f8) (fun hC=>zcm.L hC (dn Q) (zdi [a,b]) h hR)
def zdn.I:Bx:=⟨[],[],26,[(6,pz [] 9)]⟩
theorem zdn.L:LkT P zdn.I Try.f9 fun C Q s h=>zdn.cps C N (s 0) (s 1) h Q:=fun {C} hC Q s h hR=>eT hC (fun s h=>zdn.k3 C N Q (s 0) (s 1) h) hR (fun s h hR=>eT hC (fun s h=>zw (zqf.l4  Q (s 0) (s 1)) [(.int .i64 0)] h) hR (fun s h hR=>eS hC (fun s h=>Q (.bool true) h) (eT hC (fun s h=>zw (zqf.l4  Q (s 0) (s 1)) [(s 5)] h) hR (fun s h hR=>eK (eL hC [0,1] [5] (on2 (zqf.l4  Q)) hR (fun Y1 s h hR=>e1 hR)))) (fun s h hR=>e1 hR)))
theorem zdn.imp:zdn.Imp (AC P) N:=fun a b h Q hR=>eF mixed (fn:=Try.f9) (fun hC=>zdn.L hC (dn Q) (zdi [a,b]) h hR)
def zcx.I:Bx:=⟨[],[],65,[]⟩
theorem zcx.L:LkT P zcx.I Try.f10 fun C Q s h=>zcx.cps C N (s 0) (s 1) h Q:=fun {C} hC Q s h hR=>eT hC (fun s h=>zcx.k5 C N Q (s 0) (s 1) h) hR (fun s h hR=>eT hC (fun s h=>B.zl3 h fun b h=>B.pv (V.zcw (s 1)) fun a=>zw (zcx.l4 C N Q (s 5) (s 6) b (s 1) a) [.nils,(.int .i64 0)] h) hR (fun s h hR=>eT hC (fun s h=>B.pv (V.zcw (s 1)) fun a=>zw (zcx.l4 C N Q (s 5) (s 6) (s 7) (s 1) a) [.nils,(.int .i64 0)] h) hR (fun s h hR=>eT hC (fun s h=>B.pv (V.zcw (s 1)) fun a=>zw (zcx.l4 C N Q (s 5) (s 6) (s 7) (s 1) a) [(s 8),(.int .i64 0)] h) hR (fun s h hR=>eS hC (fun s h=>B.rangeMap h (s 5) fun c h=>zw (zcx.l2 C N Q (s 6) (s 7) c) [(s 8)] h) (eT hC (fun s h=>zw (zcx.l4 C N Q (s 5) (s 6) (s 7) (s 20) (s 21)) [(s 8),(s 22)] h) hR (fun s h hR=>eK (eL hC [5,6,7,20,21] [8,22] (on5 (zcx.l4 C N Q)) hR (fun Y2 s h hR=>e1 hR)))) (fun s h hR=>eS hC (fun s h=>B.call C (N 364) [(s 8)] h fun f h=>B.call C (N 365) [(s 8)] h fun d h=>B.call C (N 567) [d] h fun e h=>Q e h) (eT hC (fun s h=>zw (zcx.l2 C N Q (s 6) (s 7) (s 45)) [(s 8)] h) hR (fun s h hR=>eK (eL hC [6,7,45] [8] (on3 (zcx.l2 C N Q)) hR (fun Y1 s h hR=>e1 hR)))) (fun s h hR=>e1 hR))))))
theorem zcx.imp:zcx.Imp (AC P) N:=fun a b h Q hR=>eF mixed (fn:=Try.f10) (fun hC=>zcx.L hC (dn Q) (zdi [a,b]) h hR)
def zq.I:Bx:=⟨[],[],205,[(11,[(0,[]),(1,[]),(2,[]),(3,[]),(4,[]),(6,[]),(7,[]),(8,[]),(9,[]),(10,[]),(5,[]),(11,[]),(12,[])]),(37,[(0,[]),(1,[]),(2,[]),(3,[]),(4,[]),(5,[]),(6,[]),(7,[]),(8,[]),(9,[]),(10,[]),(12,[]),(13,[]),(14,[]),(16,[]),(17,[]),(18,[]),(19,[]),(21,[]),(11,[]),(15,[]),(20,[]),(22,[]),(23,[]),(24,[])])]⟩
theorem zq.L:LkT P zq.I Try.f11 fun C Q s h=>zq.cps C N (s 0) (s 1) h Q:=fun {C} hC Q s h hR=>eT hC (fun s h=>zw (zq.l20 C N Q (s 0) (s 1)) [(.int .i64 0)] h) hR (fun s h hR=>eS hC (fun s h=>zw (zq.l6 C N Q (s 0) (s 1) (.str [126,111,119,110])) [(.int .i64 0)] h) (eT hC (fun s h=>zw (zq.l20 C N Q (s 0) (s 1)) [(s 5)] h) hR (fun s h hR=>eK (eL hC [0,1] [5] (on2 (zq.l20 C N Q)) hR (fun Y3 s h hR=>eT hC (fun s h=>zq.k18 C N Q Y3 (s 0) (s 1) (s 5) h) hR (fun s h hR=>eS hC (fun s h=>B.pv (V.bin .add (s 5) (.int .i64 1)) fun b=>Y3 [b] h) (eK (eT hC (fun s h=>zw (zq.l17 C N Q Y3 (s 0) (s 1) (s 5)) [(s 6),(.int .i64 0)] h) hR (fun s h hR=>eS hC (fun s h=>zq.k7 C N Q Y3 (s 0) (s 1) (s 5) (s 6) h) (eT hC (fun s h=>zw (zq.l17 C N Q Y3 (s 0) (s 1) (s 5)) [(s 6),(s 7)] h) hR (fun s h hR=>eK (eL hC [0,1,5] [6,7] (on3 (zq.l17 C N Q Y3)) hR (fun Y4 s h hR=>eT hC (fun s h=>zw (zq.l15 C N Q Y3 Y4 (s 0) (s 1) (s 5) (s 7)) [(s 6),(.int .i64 0)] h) hR (fun s h hR=>eS hC (fun s h=>B.pv (V.bin .add (s 7) (.int .i64 1)) fun c=>Y4 [(s 6),c] h) (eK (eT hC (fun s h=>zw (zq.l15 C N Q Y3 Y4 (s 0) (s 1) (s 5) (s 7)) [(s 6),(s 8)] h) hR (fun s h hR=>eK (eL hC [0,1,5,7] [6,8] (on4 (zq.l15 C N Q Y3 Y4)) hR (fun Y5 s h hR=>eT hC (fun s h=>zq.k13 C N Q Y3 Y4 Y5 (s 0) (s 1) (s 5) (s 6) (s 7) (s 8) h) hR (fun s h hR=>eS hC (fun s h=>B.pv (V.bin .add (s 8) (.int .i64 1)) fun d=>Y5 [(s 6),d] h) (eK (eT hC (fun s h=>zw (zq.l12 C N Q Y3 Y4 Y5 (s 0) (s 1) (s 5) (s 6) (s 7) (s 8)) [(s 9),(.int .i64 0)] h) hR (fun s h hR=>eS hC (fun s h=>zq.k10 C N Q Y3 Y4 Y5 (s 0) (s 1) (s 5) (s 6) (s 7) (s 8) (s 9) h) (eT hC (fun s h=>zw (zq.l12 C N Q Y3 Y4 Y5 (s 0) (s 1) (s 5) (s 6) (s 7) (s 8)) [(s 9),(s 10)] h) hR (fun s h hR=>eK (eL hC [0,1,5,6,7,8] [9,10] (on6 (zq.l12 C N Q Y3 Y4 Y5)) hR (fun Y7 s h hR=>e1 hR)))) (fun s h hR=>eT hC (fun s h=>zw (zq.l9 C N Q Y3 Y4 Y5 (s 0) (s 1) (s 5) (s 7) (s 8) (s 9) (s 11)) [(s 6),(.int .i64 0)] h) hR (fun s h hR=>eT hC (fun s h=>zw (zq.l9 C N Q Y3 Y4 Y5 (s 0) (s 1) (s 5) (s 7) (s 8) (s 9) (s 11)) [(s 6),(s 12)] h) hR (fun s h hR=>eK (eL hC [0,1,5,7,8,9,11] [6,12] (on7 (zq.l9 C N Q Y3 Y4 Y5)) hR (fun Y6 s h hR=>e1 hR)))))))) (fun s h hR=>e1 hR))))))) (fun s h hR=>e1 hR)))))) (fun s h hR=>e1 hR)))) (fun s h hR=>e1 hR)))))) (fun s h hR=>eT hC (fun s h=>zw (zq.l6 C N Q (s 0) (s 1) (s 13)) [(.int .i64 0)] h) hR (fun s h hR=>eS hC (fun s h=>zq.k1 C N Q (s 0) (s 1) (s 13) h) (eT hC (fun s h=>zw (zq.l6 C N Q (s 0) (s 1) (s 13)) [(s 14)] h) hR (fun s h hR=>eK (eL hC [0,1,13] [14] (on3 (zq.l6 C N Q)) hR (fun Y1 s h hR=>eT hC (fun s h=>zq.k4 C N Q Y1 (s 0) (s 1) (s 13) (s 14) h) hR (fun s h hR=>eS hC (fun s h=>B.pv (V.bin .add (s 14) (.int .i64 1)) fun a=>Y1 [a] h) (eK (eT hC (fun s h=>zw (zq.l3 C N Q Y1 (s 0) (s 1) (s 13) (s 14)) [(.int .i64 0)] h) hR (fun s h hR=>eT hC (fun s h=>zw (zq.l3 C N Q Y1 (s 0) (s 1) (s 13) (s 14)) [(s 15)] h) hR (fun s h hR=>eK (eL hC [0,1,13,14] [15] (on4 (zq.l3 C N Q Y1)) hR (fun Y2 s h hR=>e1 hR)))))) (fun s h hR=>e1 hR)))))) (fun s h hR=>e1 hR))))
theorem zq.imp:zq.Imp (AC P) N:=fun a b h Q hR=>eF mixed (fn:=Try.f11) (fun hC=>zq.L hC (dn Q) (zdi [a,b]) h hR)
def zb4.I:Bx:=⟨[2,4,5,7,9,11],[12,14,16,19,27,30,33,36,37,38,43,45,53,56,61,63,71,74,79],82,[(6,[(0,[]),(1,[]),(3,[]),(4,[]),(2,[4]),(6,[]),(5,[]),(7,[]),(8,[]),(9,[])])]⟩
theorem zb4.L:LkT P zb4.I Try.f13 fun C Q s h=>zb4.cps C N (s 0) (s 1) h Q:=fun {C} hC Q s h hR=>eT hC (fun s h=>zb4.k7 C N Q (s 1) (s 84) (s 86) h) hR (fun s h hR=>eT hC (fun s h=>B.al (s 84) (B.pv (V.zd8 3 (s 84)) fun a=>B.pv (V.zcw a) fun d=>zw (zb4.l6 C N Q (s 1) a d (s 84) (s 86)) [(.int .i64 0),(s 87)] h)) hR (fun s h hR=>eS hC (fun s h=>B.al (s 84) (B.pv (V.zd8 4 (s 84)) fun b=>B.pv (V.zcw b) fun e=>zw (zb4.l4 C N Q (s 1) b e (s 84) (s 86)) [(.int .i64 0),(s 87)] h)) (eT hC (fun s h=>zw (zb4.l6 C N Q (s 1) (s 20) (s 21) (s 84) (s 86)) [(s 22),(s 87)] h) hR (fun s h hR=>eK (eL hC [1,20,21,84,86] [22,87] (on5 (zb4.l6 C N Q)) hR (fun Y3 s h hR=>e1 hR)))) (fun s h hR=>eS hC (fun s h=>B.al (s 84) (B.pv (V.zd8 5 (s 84)) fun c=>B.pv (V.zcw c) fun f=>zw (zb4.l2 C N Q (s 1) c f (s 86)) [(.int .i64 0),(s 87)] h)) (eT hC (fun s h=>zw (zb4.l4 C N Q (s 1) (s 46) (s 47) (s 84) (s 86)) [(s 48),(s 87)] h) hR (fun s h hR=>eK (eL hC [1,46,47,84,86] [48,87] (on5 (zb4.l4 C N Q)) hR (fun Y2 s h hR=>e1 hR)))) (fun s h hR=>eS hC (fun s h=>B.pv (V.zfg 0 6 (s 87)) fun g=>B.pv (V.setN 0 6 g (s 86)) fun i=>B.pv (oneOf (zlv (V.zfg 0 6 i) (some []))) fun v=>Q v h) (eT hC (fun s h=>zw (zb4.l2 C N Q (s 1) (s 64) (s 65) (s 86)) [(s 66),(s 87)] h) hR (fun s h hR=>eK (eL hC [1,64,65,86] [66,87] (on4 (zb4.l2 C N Q)) hR (fun Y1 s h hR=>e1 hR)))) (fun s h hR=>e1 hR)))))
theorem zb4.imp:zb4.Imp (AC P) N:=fun a b h Q hR=>eF mixed (fn:=Try.f13) (fun hC=>zb4.L hC (dn Q) (zdi [a,b]) h hR)
def zn.I:Bx:=⟨[2],[8,18,29,41,51,57,59,71,77,79],96,[(19,pz [] 11),(25,pz [] 11)]⟩
theorem zn.L:LkT P zn.I Try.f15 fun C Q s h=>zn.cps C N (s 0) (s 1) h Q:=fun {C} hC Q s h hR=>eT hC (fun s h=>zn.k11 C N Q (s 3) (s 98) h) hR (fun s h hR=>eT hC (fun s h=>B.pv (V.fieldAddr 0 (s 3)) fun a=>B.ld h a fun b=>zn.k10 C N Q (s 3) (s 5) b (s 98) h) hR (fun s h hR=>eS hC (fun s h=>zn.k1 C N Q (s 3) h) (eT hC (fun s h=>zn.k10 C N Q (s 3) (s 5) (s 13) (s 98) h) hR (fun s h hR=>eK (eT hC (fun s h=>B.cond (s 14) (zn.k2 C N Q (s 3) (s 5) (s 98) h) (B.pv (V.bin .eql (s 13) (.int .u8 9)) fun c=>B.cond c (zn.k3 C N Q (s 3) (s 5) (s 98) h) (zn.k9 C N Q (s 3) (s 5) (s 13) (s 98) h))) hR (fun s h hR=>eC 14 hR (fun hR=>e1 hR) (fun hR=>eT hC (fun s h=>B.cond (s 26) (zn.k3 C N Q (s 3) (s 5) (s 98) h) (zn.k9 C N Q (s 3) (s 5) (s 13) (s 98) h)) hR (fun s h hR=>eC 26 hR (fun hR=>e1 hR) (fun hR=>eT hC (fun s h=>B.cond (s 37) (zn.k4 C N Q (s 3) (s 5) (s 98) h) (zn.k8 C N Q (s 3) (s 13) (s 98) h)) hR (fun s h hR=>eC 37 hR (fun hR=>e1 hR) (fun hR=>eT hC (fun s h=>B.cond (s 47) (zn.k5 C N Q (s 3) (s 98) h) (zn.k7 C N Q (s 3) (s 13) (s 98) h)) hR (fun s h hR=>eC 47 hR (fun hR=>e1 hR) (fun hR=>eT hC (fun s h=>zn.k6 C N Q (s 3) (s 67) (s 98) h) hR (fun s h hR=>e1 hR)))))))))))) (fun s h hR=>e1 hR)))
theorem zn.imp:zn.Imp (AC P) N:=fun a b h Q hR=>eF mixed (fn:=Try.f15) (fun hC=>zn.L hC (dn Q) (zdi [a,b]) h hR)
def zef.I:Bx:=⟨[],[],10,[]⟩
theorem zef.L:LkT P zef.I Try.f16 fun C Q s h=>zef.cps C N h Q:=fun {C} hC Q s h hR=>e1 hR
theorem zef.imp:zef.Imp (AC P) N:=fun h Q hR=>eF mixed (fn:=Try.f16) (fun hC=>zef.L hC (dn Q) (zdi []) h hR)
def zdk.I:Bx:=⟨[],[],27,[(6,pz [] 10)]⟩
theorem zdk.L:LkT P zdk.I Try.f17 fun C Q s h=>zdk.cps C N (s 0) (s 1) h Q:=fun {C} hC Q s h hR=>eT hC (fun s h=>zdk.k3 C N Q (s 0) (s 1) h) hR (fun s h hR=>eT hC (fun s h=>zw (zdk.l2 C N Q (s 0) (s 1)) [(.int .i64 0)] h) hR (fun s h hR=>eS hC (fun s h=>Q (.bool true) h) (eT hC (fun s h=>zw (zdk.l2 C N Q (s 0) (s 1)) [(s 5)] h) hR (fun s h hR=>eK (eL hC [0,1] [5] (on2 (zdk.l2 C N Q)) hR (fun Y1 s h hR=>e1 hR)))) (fun s h hR=>e1 hR)))
theorem zdk.imp:zdk.Imp (AC P) N:=fun a b h Q hR=>eF mixed (fn:=Try.f17) (fun hC=>zdk.L hC (dn Q) (zdi [a,b]) h hR)
def zbw.I:Bx:=⟨[],[],95,[(5,pz [] 25)]⟩
theorem zbw.L:LkT P zbw.I Try.f18 fun C Q s h=>zbw.cps C N (s 0) h Q:=fun {C} hC Q s h hR=>eT hC (fun s h=>zw (zbw.l7 C N Q (s 0)) [(.int .i64 0),(.int .i64 0)] h) hR (fun s h hR=>eT hC (fun s h=>zw (zbw.l7 C N Q (s 0)) [(s 3),(.int .i64 0)] h) hR (fun s h hR=>eS hC (fun s h=>Q (s 3) h) (eT hC (fun s h=>zw (zbw.l7 C N Q (s 0)) [(s 3),(s 4)] h) hR (fun s h hR=>eK (eL hC [0] [3,4] (on1 (zbw.l7 C N Q)) hR (fun Y1 s h hR=>eT hC (fun s h=>zbw.k5 C N Q Y1 (s 0) (s 3) (s 4) h) hR (fun s h hR=>eS hC (fun s h=>B.pv (V.bin .add (s 4) (.int .i64 1)) fun a=>Y1 [(s 3),a] h) (eK (eT hC (fun s h=>zw (zbw.l4 C N Q Y1 (s 0) (s 4)) [(s 3),(.int .i64 0)] h) hR (fun s h hR=>eS hC (fun s h=>zw (zbw.l2 C N Q Y1 (s 0) (s 4)) [(s 3),(.int .i64 0)] h) (eT hC (fun s h=>zw (zbw.l4 C N Q Y1 (s 0) (s 4)) [(s 3),(s 5)] h) hR (fun s h hR=>eK (eL hC [0,4] [3,5] (on2 (zbw.l4 C N Q Y1)) hR (fun Y3 s h hR=>e1 hR)))) (fun s h hR=>eT hC (fun s h=>zw (zbw.l2 C N Q Y1 (s 0) (s 4)) [(s 3),(s 6)] h) hR (fun s h hR=>eK (eL hC [0,4] [3,6] (on2 (zbw.l2 C N Q Y1)) hR (fun Y2 s h hR=>e1 hR))))))) (fun s h hR=>e1 hR)))))) (fun s h hR=>e1 hR)))
theorem zbw.imp:zbw.Imp (AC P) N:=fun a h Q hR=>eF mixed (fn:=Try.f18) (fun hC=>zbw.L hC (dn Q) (zdi [a]) h hR)
def zt.I:Bx:=⟨[6,10,12],[23,25,36,44,46,50,58],66,[(23,pz [] 4)]⟩
theorem zt.L:LkT P zt.I Try.f19 fun C Q s h=>zt.cps C N (s 0) h Q:=fun {C} hC Q s h hR=>eT hC (fun s h=>zt.k13 C N Q (s 0) h) hR (fun s h hR=>eT hC (fun s h=>B.pv (V.zcw (s 0)) fun d=>zw (zt.l12 C N Q (s 0) (s 4) (s 0) d) [(.int .i64 0)] h) hR (fun s h hR=>eS hC (fun s h=>zt.k10 C N Q (s 0) (s 4) h) (eT hC (fun s h=>zw (zt.l12 C N Q (s 0) (s 4) (s 16) (s 17)) [(s 18)] h) hR (fun s h hR=>eK (eL hC [0,4,16,17] [18] (on4 (zt.l12 C N Q)) hR (fun Y4 s h hR=>e1 hR)))) (fun s h hR=>eT hC (fun s h=>B.pv (V.zcw (s 0)) fun a=>zw (zt.l9 C N Q (s 4) (s 7) (.fn (N 576) [] [(s 4),(s 7)]) (s 0) a) [(.int .i64 0)] h) hR (fun s h hR=>eT hC (fun s h=>B.pv (V.zcw (s 0)) fun a=>zw (zt.l9 C N Q (s 4) (s 7) (s 8) (s 0) a) [(.int .i64 0)] h) hR (fun s h hR=>eS hC (fun s h=>B.ld h (s 4) fun b=>B.ld h (s 7) fun c=>Q (.tup [b,c]) h) (eT hC (fun s h=>zw (zt.l9 C N Q (s 4) (s 7) (s 8) (s 30) (s 31)) [(s 32)] h) hR (fun s h hR=>eK (eL hC [4,7,8,30,31] [32] (on5 (zt.l9 C N Q)) hR (fun Y1 s h hR=>eT hC (fun s h=>B.cond (s 33) (zt.k7 C N Q Y1 (s 4) (s 7) (s 8) (s 30) (s 31) (s 32) h) (B.ld h (s 4) fun b=>B.ld h (s 7) fun c=>Q (.tup [b,c]) h)) hR (fun s h hR=>eT hC (fun s h=>zt.k7 C N Q Y1 (s 4) (s 7) (s 8) (s 30) (s 31) (s 32) h) hR (fun s h hR=>eS hC (fun s h=>B.pv (V.bin .add (s 32) (.int .i64 1)) fun e=>Y1 [e] h) (eK (eT hC (fun s h=>zt.k6 C N Q Y1 (s 4) (s 7) (s 8) (s 30) (s 31) (s 32) (s 76) h) hR (fun s h hR=>eS hC (fun s h=>zt.k3 C N Q Y1 (s 4) (s 7) (s 8) (s 30) (s 31) (s 32) (s 76) h) (eT hC (fun s h=>zw (zt.l5 C N Q Y1 (s 4) (s 7) (s 8) (s 30) (s 31) (s 32) (s 37) (s 38) (s 76)) [(s 39)] h) hR (fun s h hR=>eK (eL hC [4,7,8,30,31,32,37,38,76] [39] (on9 (zt.l5 C N Q Y1)) hR (fun Y3 s h hR=>e1 hR)))) (fun s h hR=>eT hC (fun s h=>zw (zt.l2 C N Q Y1 (s 4) (s 7) (s 8) (s 30) (s 31) (s 32) (s 51) (s 52) (s 76)) [(s 53)] h) hR (fun s h hR=>eK (eL hC [4,7,8,30,31,32,51,52,76] [53] (on9 (zt.l2 C N Q Y1)) hR (fun Y2 s h hR=>e1 hR))))))) (fun s h hR=>e1 hR))))))) (fun s h hR=>e1 hR))))))
theorem zt.imp:zt.Imp (AC P) N:=fun a h Q hR=>eF mixed (fn:=Try.f19) (fun hC=>zt.L hC (dn Q) (zdi [a]) h hR)
def zbp.I:Bx:=⟨[],[],11,[]⟩
theorem zbp.L:LkT P zbp.I Try.f20 fun C Q s h=>zbp.cps C N (s 0) h Q:=fun {C} hC Q s h hR=>e1 hR
theorem zbp.imp:zbp.Imp (AC P) N:=fun a h Q hR=>eF mixed (fn:=Try.f20) (fun hC=>zbp.L hC (dn Q) (zdi [a]) h hR)
def zbg.I:Bx:=⟨[],[],8,[]⟩
theorem zbg.L:LkT P zbg.I Try.f21 fun C Q s h=>zbg.cps C N (s 0) h Q:=fun {C} hC Q s h hR=>e1 hR
theorem zbg.imp:zbg.Imp (AC P) N:=fun a h Q hR=>eF mixed (fn:=Try.f21) (fun hC=>zbg.L hC (dn Q) (zdi [a]) h hR)
def zbn.I:Bx:=⟨[],[],14,[]⟩
theorem zbn.L:LkT P zbn.I Try.f22 fun C Q s h=>zbn.cps C N (s 0) (s 1) h Q:=fun {C} hC Q s h hR=>e1 hR
theorem zbn.imp:zbn.Imp (AC P) N:=fun a b h Q hR=>eF mixed (fn:=Try.f22) (fun hC=>zbn.L hC (dn Q) (zdi [a,b]) h hR)
def zeq.I:Bx:=⟨[],[],8,[]⟩
theorem zeq.L:LkT P zeq.I Try.f23 fun C Q s h=>zeq.cps C N (s 0) (s 1) h Q:=fun {C} hC Q s h hR=>e1 hR
theorem zeq.imp:zeq.Imp (AC P) N:=fun a b h Q hR=>eF mixed (fn:=Try.f23) (fun hC=>zeq.L hC (dn Q) (zdi [a,b]) h hR)
def zbl.I:Bx:=⟨[],[],36,[]⟩
theorem zbl.L:LkT P zbl.I Try.f24 fun C Q s h=>zbl.cps C N (s 0) (s 1) h Q:=fun {C} hC Q s h hR=>eT hC (fun s h=>B.pv (V.zcw (s 0)) fun a=>zw (zdx.l3 C (opsS 16 (.str []) 0) (N 580) Q (s 0) (s 1) (s 0) a) [(.int .i64 0)] h) hR (fun s h hR=>eS hC (fun s h=>zdx.k1 C (opsS 16 (.str []) 0) (N 580) Q (s 0) (s 1) h) (eT hC (fun s h=>zw (zdx.l3 C (opsS 16 (.str []) 0) (N 580) Q (s 0) (s 1) (s 9) (s 10)) [(s 11)] h) hR (fun s h hR=>eK (eL hC [0,1,9,10] [11] (on4 (zdx.l3 C (opsS 16 (.str []) 0) (N 580) Q)) hR (fun Y1 s h hR=>e1 hR)))) (fun s h hR=>e1 hR))
theorem zbl.imp:zbl.Imp (AC P) N:=fun a b h Q hR=>eF mixed (fn:=Try.f24) (fun hC=>zbl.L hC (dn Q) (zdi [a,b]) h hR)
def zbi.I:Bx:=⟨[],[],61,[(6,pz [] 10),(11,pz [] 10)]⟩
theorem zbi.L:LkT P zbi.I Try.f25 fun C Q s h=>zbi.cps C N (s 0) h Q:=fun {C} hC Q s h hR=>eT hC (fun s h=>zcl.k5 C (opsS 16 (.str []) 0) Q (s 0) h) hR (fun s h hR=>eT hC (fun s h=>zw (zcl.l4 C (opsS 16 (.str []) 0) Q (s 0)) [(.int .i64 1)] h) hR (fun s h hR=>eS hC (fun s h=>Q (s 0) h) (eT hC (fun s h=>zw (zcl.l4 C (opsS 16 (.str []) 0) Q (s 0)) [(s 3)] h) hR (fun s h hR=>eK (eL hC [0] [3] (on1 (zcl.l4 C (opsS 16 (.str []) 0) Q)) hR (fun Y1 s h hR=>eT hC (fun s h=>zcl.k3 C (opsS 16 (.str []) 0) Q Y1 (s 0) (s 3) h) hR (fun s h hR=>eS hC (fun s h=>B.pv (V.bin .add (s 3) (.int .i64 1)) fun a=>Y1 [a] h) (eK (eT hC (fun s h=>B.cond (s 25) (B.pv (V.zh2 (opsS 16 (.str []) 0).es (s 0) (some (s 3)) none) fun b=>zw (zcl.l2 C (opsS 16 (.str []) 0) Q Y1 (s 0) b) [(s 3),(.int .i64 1)] h) (B.pv (V.bin .add (s 3) (.int .i64 1)) fun a=>Y1 [a] h)) hR (fun s h hR=>eC 25 hR (fun hR=>eT hC (fun s h=>zw (zcl.l2 C (opsS 16 (.str []) 0) Q Y1 (s 0) (s 4)) [(s 3),(.int .i64 1)] h) hR (fun s h hR=>eS hC (fun s h=>B.pv (V.zh2 (opsS 16 (.str []) 0).es (s 0) (some (s 3)) none) fun c=>B.clr h (opsS 16 (.str []) 0).z c fun _ h=>B.pv (V.zh2 (opsS 16 (.str []) 0).es (s 0) none (some (s 3))) fun d=>Q d h) (eT hC (fun s h=>zw (zcl.l2 C (opsS 16 (.str []) 0) Q Y1 (s 0) (s 4)) [(s 3),(s 5)] h) hR (fun s h hR=>eK (eL hC [0,4] [3,5] (on2 (zcl.l2 C (opsS 16 (.str []) 0) Q Y1)) hR (fun Y2 s h hR=>e1 hR)))) (fun s h hR=>e1 hR))) (fun hR=>e1 hR)))) (fun s h hR=>e1 hR)))))) (fun s h hR=>e1 hR)))
theorem zbi.imp:zbi.Imp (AC P) N:=fun a h Q hR=>eF mixed (fn:=Try.f25) (fun hC=>zbi.L hC (dn Q) (zdi [a]) h hR)
def zc8.I:Bx:=⟨[5],[],22,[]⟩
theorem zc8.L:LkT P zc8.I Try.f26 fun C Q s h=>zc8.cps C N (s 0) h Q:=fun {C} hC Q s h hR=>eT hC (fun s h=>zw (zc8.l2 C N Q (s 0)) [.nils,(.int .i64 0)] h) hR (fun s h hR=>eT hC (fun s h=>zw (zc8.l2 C N Q (s 0)) [(s 3),(.int .i64 0)] h) hR (fun s h hR=>eS hC (fun s h=>Q (s 3) h) (eT hC (fun s h=>zw (zc8.l2 C N Q (s 0)) [(s 3),(s 4)] h) hR (fun s h hR=>eK (eL hC [0] [3,4] (on1 (zc8.l2 C N Q)) hR (fun Y1 s h hR=>e1 hR)))) (fun s h hR=>e1 hR)))
theorem zc8.imp:zc8.Imp (AC P) N:=fun a h Q hR=>eF mixed (fn:=Try.f26) (fun hC=>zc8.L hC (dn Q) (zdi [a]) h hR)
def zbj.I:Bx:=⟨[],[],9,[]⟩
theorem zbj.L:LkT P zbj.I Try.f27 fun C Q s h=>zbj.cps C N (s 0) (s 1) h Q:=fun {C} hC Q s h hR=>e1 hR
theorem zbj.imp:zbj.Imp (AC P) N:=fun a b h Q hR=>eF mixed (fn:=Try.f27) (fun hC=>zbj.L hC (dn Q) (zdi [a,b]) h hR)
def zbk.I:Bx:=⟨[],[],8,[]⟩
theorem zbk.L:LkT P zbk.I Try.f28 fun C Q s h=>zbk.cps C N (s 0) h Q:=fun {C} hC Q s h hR=>e1 hR
theorem zbk.imp:zbk.Imp (AC P) N:=fun a h Q hR=>eF mixed (fn:=Try.f28) (fun hC=>zbk.L hC (dn Q) (zdi [a]) h hR)
def z7.I:Bx:=⟨[],[],9,[]⟩
theorem z7.L:LkT P z7.I Try.f32 fun C Q s h=>z7.cps C N (s 0) (s 1) h Q:=fun {C} hC Q s h hR=>e1 hR
theorem z7.imp:z7.Imp (AC P) N:=fun a b h Q hR=>eF mixed (fn:=Try.f32) (fun hC=>z7.L hC (dn Q) (zdi [a,b]) h hR)
def zdv.I:Bx:=⟨[2],[4],9,[]⟩
theorem zdv.L:LkT P zdv.I Try.f33 fun C Q s h=>zdv.cps C N (s 0) (s 1) h Q:=fun {C} hC Q s h hR=>e1 hR
theorem zdv.imp:zdv.Imp (AC P) N:=fun a b h Q hR=>eF mixed (fn:=Try.f33) (fun hC=>zdv.L hC (dn Q) (zdi [a,b]) h hR)
def zd6.I:Bx:=⟨[],[],15,[]⟩
theorem zd6.L:LkT P zd6.I Try.f34 fun C Q s h=>zd6.cps C N (s 0) (s 1) h Q:=fun {C} hC Q s h hR=>e1 hR
theorem zd6.imp:zd6.Imp (AC P) N:=fun a b h Q hR=>eF mixed (fn:=Try.f34) (fun hC=>zd6.L hC (dn Q) (zdi [a,b]) h hR)
def z8.I:Bx:=⟨[],[],19,[]⟩
abbrev z8.E:zz:=opsF 6 56 [.int .i64 0,.str [],.int .i64 0,.int .i64 0,.int .i64 0,.bool false] 0 []
theorem z8.L:LkT P z8.I Try.f35 fun C Q s h=>z8.cps C N (s 0) (s 1) h Q:=fun {C} hC Q s h hR=>eT hC (fun s h=>B.pv (V.zcw (s 0)) fun a=>zw (zb3.l2 C z8.E Q (s 0) (s 1) a) [(.int .i64 0)] h) hR (fun s h hR=>eS hC (fun s h=>Q (.int .i64 (-1)) h) (eT hC (fun s h=>zw (zb3.l2 C z8.E Q (s 0) (s 1) (s 7)) [(s 8)] h) hR (fun s h hR=>eK (eL hC [0,1,7] [8] (on3 (zb3.l2 C z8.E Q)) hR (fun Y1 s h hR=>e1 hR)))) (fun s h hR=>e1 hR))
theorem z8.imp:z8.Imp (AC P) N:=fun a b h Q hR=>eF mixed (fn:=Try.f35) (fun hC=>z8.L hC (dn Q) (zdi [a,b]) h hR)
def zdu.I:Bx:=⟨[2],[4],9,[]⟩
theorem zdu.L:LkT P zdu.I Try.f36 fun C Q s h=>zdu.cps C N (s 0) (s 1) h Q:=fun {C} hC Q s h hR=>e1 hR
theorem zdu.imp:zdu.Imp (AC P) N:=fun a b h Q hR=>eF mixed (fn:=Try.f36) (fun hC=>zdu.L hC (dn Q) (zdi [a,b]) h hR)
def zy.I:Bx:=⟨[],[],19,[]⟩
abbrev zy.E:zz:=opsF 8 80 [.int .i64 0,.str [],.int .i64 0,.int .i64 0,.int .i64 0,.int .u8 0,.int .i64 0,.str []] 0 []
theorem zy.L:LkT P zy.I Try.f37 fun C Q s h=>zy.cps C N (s 0) (s 1) h Q:=fun {C} hC Q s h hR=>eT hC (fun s h=>B.pv (V.zcw (s 0)) fun a=>zw (zb3.l2 C zy.E Q (s 0) (s 1) a) [(.int .i64 0)] h) hR (fun s h hR=>eS hC (fun s h=>Q (.int .i64 (-1)) h) (eT hC (fun s h=>zw (zb3.l2 C zy.E Q (s 0) (s 1) (s 7)) [(s 8)] h) hR (fun s h hR=>eK (eL hC [0,1,7] [8] (on3 (zb3.l2 C zy.E Q)) hR (fun Y1 s h hR=>e1 hR)))) (fun s h hR=>e1 hR))
theorem zy.imp:zy.Imp (AC P) N:=fun a b h Q hR=>eF mixed (fn:=Try.f37) (fun hC=>zy.L hC (dn Q) (zdi [a,b]) h hR)
def zdt.I:Bx:=⟨[2],[4],9,[]⟩
theorem zdt.L:LkT P zdt.I Try.f38 fun C Q s h=>zdt.cps C N (s 0) (s 1) h Q:=fun {C} hC Q s h hR=>e1 hR
theorem zdt.imp:zdt.Imp (AC P) N:=fun a b h Q hR=>eF mixed (fn:=Try.f38) (fun hC=>zdt.L hC (dn Q) (zdi [a,b]) h hR)
def zcj.I:Bx:=⟨[],[],13,[]⟩
theorem zcj.L:LkT P zcj.I Try.f39 fun C Q s h=>zcj.cps C N (s 0) (s 1) h Q:=fun {C} hC Q s h hR=>eT hC (fun s h=>zw (zcj.l2 C N Q (s 1)) [(s 0)] h) hR (fun s h hR=>eS hC (fun s h=>Q (s 0) h) (eK (eL hC [1] [0] (on1 (zcj.l2 C N Q)) hR (fun Y1 s h hR=>e1 hR))) (fun s h hR=>e1 hR))
theorem zcj.imp:zcj.Imp (AC P) N:=fun a b h Q hR=>eF mixed (fn:=Try.f39) (fun hC=>zcj.L hC (dn Q) (zdi [a,b]) h hR)
def zdc.I:Bx:=⟨[],[],22,[(2,[(0,[]),(1,[]),(2,[]),(4,[]),(5,[]),(3,[0,4]),(6,[0]),(7,[])])]⟩
theorem zdc.L:LkT P zdc.I Try.f40 fun C Q s h=>zdc.cps C N (s 0) (s 1) (s 2) (s 3) h Q:=fun {C} hC Q s h hR=>e1 hR
theorem zdc.imp:zdc.Imp (AC P) N:=fun a b c d h Q hR=>eF mixed (fn:=Try.f40) (fun hC=>zdc.L hC (dn Q) (zdi [a,b,c,d]) h hR)
def zcy.I:Bx:=⟨[],[],134,[(17,pz [] 15)]⟩
theorem zcy.L:LkT P zcy.I Try.f41 fun C Q s h=>zcy.cps C N (s 0) (s 1) (s 2) (s 3) h Q:=fun {C} hC Q s h hR=>eT hC (fun s h=>zw (z9.l8 C (opsS 16 (.str []) 0) (N 377) (N 378) (N 379) (N 375) (N 380) (N 381) (N 382) (N 383) (N 384) (N 385) Q (s 0)) [(s 1),(s 2),(s 3),(s 8),(.bool true)] h) hR (fun s h hR=>eT hC (fun s h=>zw (z9.l8 C (opsS 16 (.str []) 0) (N 377) (N 378) (N 379) (N 375) (N 380) (N 381) (N 382) (N 383) (N 384) (N 385) Q (s 0)) [(s 1),(s 2),(s 3),(s 8),(s 9)] h) hR (fun s h hR=>eK (eL hC [0] [1,2,3,8,9] (on1 (z9.l8 C (opsS 16 (.str []) 0) (N 377) (N 378) (N 379) (N 375) (N 380) (N 381) (N 382) (N 383) (N 384) (N 385) Q)) hR (fun Y1 s h hR=>eK (eT hC (fun s h=>z9.k7 C (opsS 16 (.str []) 0) (N 377) (N 378) (N 379) (N 375) (N 380) (N 381) (N 382) (N 383) (N 384) (N 385) Q Y1 (s 0) (s 1) (s 2) (s 3) (s 8) (s 9) (s 10) h) hR (fun s h hR=>eT hC (fun s h=>z9.k6 C (opsS 16 (.str []) 0) (N 377) (N 378) (N 379) (N 375) (N 380) (N 381) (N 382) (N 383) (N 384) (N 385) Q Y1 (s 0) (s 1) (s 2) (s 3) (s 8) (s 9) (s 10) h) hR (fun s h hR=>eT hC (fun s h=>z9.k5 C (opsS 16 (.str []) 0) (N 377) (N 378) (N 379) (N 375) (N 380) (N 381) (N 382) (N 383) (N 384) (N 385) Q Y1 (s 0) (s 1) (s 2) (s 3) (s 8) (s 9) (s 10) h) hR (fun s h hR=>eT hC (fun s h=>z9.k4 C (opsS 16 (.str []) 0) (N 377) (N 378) (N 379) (N 375) (N 380) (N 381) (N 382) (N 383) (N 384) (N 385) Q Y1 (s 0) (s 1) (s 2) (s 3) (s 8) (s 9) (s 10) h) hR (fun s h hR=>eT hC (fun s h=>z9.k3 C (opsS 16 (.str []) 0) (N 377) (N 378) (N 379) (N 375) (N 380) (N 381) (N 382) (N 383) (N 384) (N 385) Q Y1 (s 0) (s 1) (s 2) (s 3) (s 8) (s 9) (s 10) (s 11) (s 12) h) hR (fun s h hR=>eT hC (fun s h=>z9.k2 C (opsS 16 (.str []) 0) (N 377) (N 378) (N 379) (N 375) (N 380) (N 381) (N 382) (N 383) (N 384) (N 385) Q Y1 (s 0) (s 1) (s 2) (s 3) (s 8) (s 9) (s 10) (s 11) (s 12) h) hR (fun s h hR=>eT hC (fun s h=>z9.k1 C (opsS 16 (.str []) 0) (N 377) (N 378) (N 379) (N 375) (N 380) (N 381) (N 382) (N 383) (N 384) (N 385) Q Y1 (s 0) (s 1) (s 2) (s 3) (s 8) (s 9) (s 10) (s 11) h) hR (fun s h hR=>e1 hR))))))))))))
theorem zcy.imp:zcy.Imp (AC P) N:=fun a b c d h Q hR=>eF mixed (fn:=Try.f41) (fun hC=>zcy.L hC (dn Q) (zdi [a,b,c,d]) h hR)
def zdy.I:Bx:=⟨[],[],8,[]⟩
theorem zdy.L:LkT P zdy.I Try.f42 fun C Q s h=>zdy.cps C N (s 0) h Q:=fun {C} hC Q s h hR=>e1 hR
theorem zdy.imp:zdy.Imp (AC P) N:=fun a h Q hR=>eF mixed (fn:=Try.f42) (fun hC=>zdy.L hC (dn Q) (zdi [a]) h hR)
def zcz.I:Bx:=⟨[],[],148,[(17,pz [] 17)]⟩
theorem zcz.L:LkT P zcz.I Try.f43 fun C Q s h=>zcz.cps C N (s 0) (s 1) (s 2) (s 3) (s 4) h Q:=fun {C} hC Q s h hR=>eT hC (fun s h=>zw (zm.l8 C (opsS 24 (.nils) 0) (N 581) (N 582) (N 579) (N 583) (N 584) (N 585) (N 586) (N 587) (N 588) Q (s 0) (s 4)) [(s 1),(s 2),(s 3),(s 10),(.bool true)] h) hR (fun s h hR=>eT hC (fun s h=>zw (zm.l8 C (opsS 24 (.nils) 0) (N 581) (N 582) (N 579) (N 583) (N 584) (N 585) (N 586) (N 587) (N 588) Q (s 0) (s 4)) [(s 1),(s 2),(s 3),(s 10),(s 11)] h) hR (fun s h hR=>eK (eL hC [0,4] [1,2,3,10,11] (on2 (zm.l8 C (opsS 24 (.nils) 0) (N 581) (N 582) (N 579) (N 583) (N 584) (N 585) (N 586) (N 587) (N 588) Q)) hR (fun Y1 s h hR=>eK (eT hC (fun s h=>zm.k7 C (opsS 24 (.nils) 0) (N 581) (N 582) (N 579) (N 583) (N 584) (N 585) (N 586) (N 587) (N 588) Q Y1 (s 0) (s 1) (s 2) (s 3) (s 4) (s 10) (s 11) (s 12) h) hR (fun s h hR=>eT hC (fun s h=>zm.k6 C (opsS 24 (.nils) 0) (N 581) (N 582) (N 579) (N 583) (N 584) (N 585) (N 586) (N 587) (N 588) Q Y1 (s 0) (s 1) (s 2) (s 3) (s 4) (s 10) (s 11) (s 12) h) hR (fun s h hR=>eT hC (fun s h=>zm.k5 C (opsS 24 (.nils) 0) (N 581) (N 582) (N 579) (N 583) (N 584) (N 585) (N 586) (N 587) (N 588) Q Y1 (s 0) (s 1) (s 2) (s 3) (s 4) (s 10) (s 11) (s 12) h) hR (fun s h hR=>eT hC (fun s h=>zm.k4 C (opsS 24 (.nils) 0) (N 581) (N 582) (N 579) (N 583) (N 584) (N 585) (N 586) (N 587) (N 588) Q Y1 (s 0) (s 1) (s 2) (s 3) (s 4) (s 10) (s 11) (s 12) h) hR (fun s h hR=>eT hC (fun s h=>zm.k3 C (opsS 24 (.nils) 0) (N 581) (N 582) (N 579) (N 583) (N 584) (N 585) (N 586) (N 587) (N 588) Q Y1 (s 0) (s 1) (s 2) (s 3) (s 4) (s 10) (s 11) (s 12) (s 13) (s 14) h) hR (fun s h hR=>eT hC (fun s h=>zm.k2 C (opsS 24 (.nils) 0) (N 581) (N 582) (N 579) (N 583) (N 584) (N 585) (N 586) (N 587) (N 588) Q Y1 (s 0) (s 1) (s 2) (s 3) (s 4) (s 10) (s 11) (s 12) (s 13) (s 14) h) hR (fun s h hR=>eT hC (fun s h=>zm.k1 C (opsS 24 (.nils) 0) (N 581) (N 582) (N 579) (N 583) (N 584) (N 585) (N 586) (N 587) (N 588) Q Y1 (s 0) (s 1) (s 2) (s 3) (s 4) (s 10) (s 11) (s 12) (s 13) h) hR (fun s h hR=>e1 hR))))))))))))
theorem zcz.imp:zcz.Imp (AC P) N:=fun a b c d e h Q hR=>eF mixed (fn:=Try.f43) (fun hC=>zcz.L hC (dn Q) (zdi [a,b,c,d,e]) h hR)
def zcn.I:Bx:=⟨[],[],20,[]⟩
theorem zcn.L:LkT P zcn.I Try.f44 fun C Q s h=>zcn.cps C N (s 0) (s 1) h Q:=fun {C} hC Q s h hR=>e1 hR
theorem zcn.imp:zcn.Imp (AC P) N:=fun a b h Q hR=>eF mixed (fn:=Try.f44) (fun hC=>zcn.L hC (dn Q) (zdi [a,b]) h hR)
def zd5.I:Bx:=⟨[1,2],[3,6,7,10],12,[]⟩
theorem zd5.L:LkT P zd5.I Try.f45 fun C Q s h=>zd5.cps C N (s 0) h Q:=fun {C} hC Q s h hR=>e1 hR
theorem zd5.imp:zd5.Imp (AC P) N:=fun a h Q hR=>eF mixed (fn:=Try.f45) (fun hC=>zd5.L hC (dn Q) (zdi [a]) h hR)
def zbt.I:Bx:=⟨[],[],19,[]⟩
theorem zbt.L:LkT P zbt.I Try.f46 fun C Q s h=>zbt.cps C N (s 0) (s 1) h Q:=fun {C} hC Q s h hR=>eT hC (fun s h=>B.pv (V.zcw (s 0)) fun a=>zw (zew.l2 C (opsS 16 (.str []) 0) Q (s 0) (s 1) a) [(.int .i64 0)] h) hR (fun s h hR=>eS hC (fun s h=>Q (.int .i64 (-1)) h) (eT hC (fun s h=>zw (zew.l2 C (opsS 16 (.str []) 0) Q (s 0) (s 1) (s 7)) [(s 8)] h) hR (fun s h hR=>eK (eL hC [0,1,7] [8] (on3 (zew.l2 C (opsS 16 (.str []) 0) Q)) hR (fun Y1 s h hR=>e1 hR)))) (fun s h hR=>e1 hR))
theorem zbt.imp:zbt.Imp (AC P) N:=fun a b h Q hR=>eF mixed (fn:=Try.f46) (fun hC=>zbt.L hC (dn Q) (zdi [a,b]) h hR)
def zbe.I:Bx:=⟨[],[],19,[]⟩
abbrev zbe.E:zz:=opsF 4 72 [.str [],.int .i64 0,.nils,.nils] 0 []
theorem zbe.L:LkT P zbe.I Try.f48 fun C Q s h=>zbe.cps C N (s 0) (s 1) h Q:=fun {C} hC Q s h hR=>eT hC (fun s h=>B.pv (V.zcw (s 0)) fun a=>zw (zb3.l2 C zbe.E Q (s 0) (s 1) a) [(.int .i64 0)] h) hR (fun s h hR=>eS hC (fun s h=>Q (.int .i64 (-1)) h) (eT hC (fun s h=>zw (zb3.l2 C zbe.E Q (s 0) (s 1) (s 7)) [(s 8)] h) hR (fun s h hR=>eK (eL hC [0,1,7] [8] (on3 (zb3.l2 C zbe.E Q)) hR (fun Y1 s h hR=>e1 hR)))) (fun s h hR=>e1 hR))
theorem zbe.imp:zbe.Imp (AC P) N:=fun a b h Q hR=>eF mixed (fn:=Try.f48) (fun hC=>zbe.L hC (dn Q) (zdi [a,b]) h hR)
def zl.I:Bx:=⟨[],[],36,[]⟩
theorem zl.L:LkT P zl.I Try.f49 fun C Q s h=>zl.cps C N (s 0) h Q:=fun {C} hC Q s h hR=>eT hC (fun s h=>B.pv (V.zcw (s 0)) fun a=>zw (zl.l4 C N Q (s 0) (s 0) a) [(.int .i64 0),(.int .i64 0)] h) hR (fun s h hR=>eT hC (fun s h=>B.pv (V.zcw (s 0)) fun a=>zw (zl.l4 C N Q (s 0) (s 0) a) [(s 3),(.int .i64 0)] h) hR (fun s h hR=>eS hC (fun s h=>B.call C (N 376) [.nils,(s 3)] h fun c h=>B.pv (V.zcw (s 0)) fun b=>zw (zl.l2 C N Q (s 0) b) [c,(.int .i64 0)] h) (eT hC (fun s h=>zw (zl.l4 C N Q (s 0) (s 9) (s 10)) [(s 3),(s 11)] h) hR (fun s h hR=>eK (eL hC [0,9,10] [3,11] (on3 (zl.l4 C N Q)) hR (fun Y2 s h hR=>e1 hR)))) (fun s h hR=>eT hC (fun s h=>B.pv (V.zcw (s 0)) fun b=>zw (zl.l2 C N Q (s 0) b) [(s 6),(.int .i64 0)] h) hR (fun s h hR=>eS hC (fun s h=>Q (s 6) h) (eT hC (fun s h=>zw (zl.l2 C N Q (s 25) (s 26)) [(s 6),(s 27)] h) hR (fun s h hR=>eK (eL hC [25,26] [6,27] (on2 (zl.l2 C N Q)) hR (fun Y1 s h hR=>e1 hR)))) (fun s h hR=>e1 hR)))))
theorem zl.imp:zl.Imp (AC P) N:=fun a h Q hR=>eF mixed (fn:=Try.f49) (fun hC=>zl.L hC (dn Q) (zdi [a]) h hR)
def zb6.I:Bx:=⟨[],[],49,[(4,pz [] 15),(6,pz [] 18)]⟩
theorem zb6.L:LkT P zb6.I Try.f50 fun C Q s h=>zb6.cps C N (s 0) (s 1) (s 2) h Q:=fun {C} hC Q s h hR=>eT hC (fun s h=>zw (zb5.l3 C (opsS 16 (.str []) 0) (N 377) Q (s 0) (s 1) (s 2)) [(s 6)] h) hR (fun s h hR=>eK (eL hC [0,1,2] [6] (on3 (zb5.l3 C (opsS 16 (.str []) 0) (N 377) Q)) hR (fun Y1 s h hR=>eT hC (fun s h=>zw (zb5.l2 C (opsS 16 (.str []) 0) (N 377) Q Y1 (s 0) (s 1) (s 2) (s 6)) [(s 6)] h) hR (fun s h hR=>eS hC (fun s h=>B.pv (V.bin .add (s 6) (.int .i64 1)) fun a=>Y1 [a] h) (eK (eT hC (fun s h=>zw (zb5.l2 C (opsS 16 (.str []) 0) (N 377) Q Y1 (s 0) (s 1) (s 2) (s 6)) [(s 7)] h) hR (fun s h hR=>eK (eL hC [0,1,2,6] [7] (on4 (zb5.l2 C (opsS 16 (.str []) 0) (N 377) Q Y1)) hR (fun Y2 s h hR=>e1 hR))))) (fun s h hR=>e1 hR)))))
theorem zb6.imp:zb6.Imp (AC P) N:=fun a b c h Q hR=>eF mixed (fn:=Try.f50) (fun hC=>zb6.L hC (dn Q) (zdi [a,b,c]) h hR)
def zct.I:Bx:=⟨[],[],56,[(10,pz [] 20)]⟩
theorem zct.L:LkT P zct.I Try.f51 fun C Q s h=>zct.cps C N (s 0) (s 1) (s 2) h Q:=fun {C} hC Q s h hR=>eT hC (fun s h=>B.pv (V.bin .sub (s 2) (s 1)) fun a=>zbs.k5 C (opsS 16 (.str []) 0) (N 386) Q (s 0) (s 6) (.int .i64 0) a h) hR (fun s h hR=>eT hC (fun s h=>B.pv (V.bin .sub (s 2) (s 1)) fun a=>zbs.k5 C (opsS 16 (.str []) 0) (N 386) Q (s 0) (s 6) (s 7) a h) hR (fun s h hR=>eT hC (fun s h=>zbs.k5 C (opsS 16 (.str []) 0) (N 386) Q (s 0) (s 6) (s 7) (s 8) h) hR (fun s h hR=>eS hC (fun s h=>B.pv (V.bin .sub (s 8) (.int .i64 1)) fun b=>zw (zbs.l2 C (opsS 16 (.str []) 0) (N 386) Q (s 0) (s 6) (s 7)) [b] h) (eT hC (fun s h=>zw (zbs.l4 C (opsS 16 (.str []) 0) (N 386) Q (s 0) (s 6) (s 7) (s 8)) [(s 9)] h) hR (fun s h hR=>eK (eL hC [0,6,7,8] [9] (on4 (zbs.l4 C (opsS 16 (.str []) 0) (N 386) Q)) hR (fun Y2 s h hR=>e1 hR)))) (fun s h hR=>eT hC (fun s h=>zw (zbs.l2 C (opsS 16 (.str []) 0) (N 386) Q (s 0) (s 6) (s 7)) [(s 10)] h) hR (fun s h hR=>eK (eL hC [0,6,7] [10] (on3 (zbs.l2 C (opsS 16 (.str []) 0) (N 386) Q)) hR (fun Y1 s h hR=>e1 hR)))))))
theorem zct.imp:zct.Imp (AC P) N:=fun a b c h Q hR=>eF mixed (fn:=Try.f51) (fun hC=>zct.L hC (dn Q) (zdi [a,b,c]) h hR)
def zb8.I:Bx:=⟨[],[],65,[(10,pz [] 20)]⟩
theorem zb8.L:LkT P zb8.I Try.f52 fun C Q s h=>zb8.cps C N (s 0) (s 1) (s 2) h Q:=fun {C} hC Q s h hR=>eT hC (fun s h=>B.pv (V.bin .geq (s 6) (.int .i64 8)) fun a=>B.cond a (zu.k7 C (opsS 16 (.str []) 0) (N 298) (N 299) Q (s 0) (s 1) (s 6) h) (Q (.tup []) h)) hR (fun s h hR=>eT hC (fun s h=>B.cond (s 15) (zu.k7 C (opsS 16 (.str []) 0) (N 298) (N 299) Q (s 0) (s 1) (s 6) h) (Q (.tup []) h)) hR (fun s h hR=>eC 15 hR (fun hR=>eT hC (fun s h=>B.call C (N 299) [(s 6)] h fun b h=>zu.k6 C (opsS 16 (.str []) 0) (N 298) (N 299) Q (s 0) (s 1) (s 6) (s 7) b h) hR (fun s h hR=>eT hC (fun s h=>zu.k6 C (opsS 16 (.str []) 0) (N 298) (N 299) Q (s 0) (s 1) (s 6) (s 7) (s 8) h) hR (fun s h hR=>eT hC (fun s h=>zw (zu.l5 C (opsS 16 (.str []) 0) (N 298) (N 299) Q (s 0) (s 1) (s 6) (s 7) (s 8)) [(s 9)] h) hR (fun s h hR=>eK (eL hC [0,1,6,7,8] [9] (on5 (zu.l5 C (opsS 16 (.str []) 0) (N 298) (N 299) Q)) hR (fun Y1 s h hR=>eT hC (fun s h=>zu.k3 C (opsS 16 (.str []) 0) (N 298) (N 299) Q Y1 (s 0) (s 1) (s 6) (s 7) (s 8) (s 9) h) hR (fun s h hR=>eS hC (fun s h=>B.pv (V.bin .add (s 9) (.int .i64 1)) fun c=>Y1 [c] h) (eK (eT hC (fun s h=>zu.k2 C (opsS 16 (.str []) 0) (N 298) (N 299) Q Y1 (s 0) (s 1) (s 6) (s 7) (s 8) (s 9) (s 10) h) hR (fun s h hR=>eT hC (fun s h=>zu.k1 C (opsS 16 (.str []) 0) (N 298) (N 299) Q Y1 (s 0) (s 1) (s 6) (s 7) (s 8) (s 9) (s 10) h) hR (fun s h hR=>e1 hR)))) (fun s h hR=>e1 hR)))))))) (fun hR=>e1 hR)))
theorem zb8.imp:zb8.Imp (AC P) N:=fun a b c h Q hR=>eF mixed (fn:=Try.f52) (fun hC=>zb8.L hC (dn Q) (zdi [a,b,c]) h hR)
def zch.I:Bx:=⟨[],[],57,[]⟩
theorem zch.L:LkT P zch.I Try.f53 fun C Q s h=>zch.cps C N (s 0) (s 1) (s 2) h Q:=fun {C} hC Q s h hR=>eT hC (fun s h=>B.pv (V.bin .sub (s 2) (s 1)) fun b=>B.newO h (some [.int .i64 0]) fun a h=>zbd.k5 C (opsS 16 (.str []) 0) (N 387) (N 388) Q (s 0) (s 1) b (.ptr a 0 0) h) hR (fun s h hR=>eT hC (fun s h=>B.newO h (some [.int .i64 0]) fun a h=>zbd.k5 C (opsS 16 (.str []) 0) (N 387) (N 388) Q (s 0) (s 1) (s 8) (.ptr a 0 0) h) hR (fun s h hR=>eT hC (fun s h=>zbd.k5 C (opsS 16 (.str []) 0) (N 387) (N 388) Q (s 0) (s 1) (s 8) (s 9) h) hR (fun s h hR=>eT hC (fun s h=>zbd.k4 C (opsS 16 (.str []) 0) (N 387) (N 388) Q (s 0) (s 1) (s 8) (s 9) (s 10) h) hR (fun s h hR=>eT hC (fun s h=>zbd.k3 C (opsS 16 (.str []) 0) (N 387) (N 388) Q (s 0) (s 1) (s 8) (s 9) (s 10) (s 11) h) hR (fun s h hR=>eT hC (fun s h=>zbd.k2 C (opsS 16 (.str []) 0) (N 387) (N 388) Q (s 0) (s 8) (s 9) (s 10) (s 11) (s 12) h) hR (fun s h hR=>eT hC (fun s h=>zbd.k1 C (opsS 16 (.str []) 0) (N 387) (N 388) Q (s 9) (s 11) h) hR (fun s h hR=>e1 hR)))))))
theorem zch.imp:zch.Imp (AC P) N:=fun a b c h Q hR=>eF mixed (fn:=Try.f53) (fun hC=>zch.L hC (dn Q) (zdi [a,b,c]) h hR)
def zcc.I:Bx:=⟨[],[],32,[(3,pz [] 16)]⟩
theorem zcc.L:LkT P zcc.I Try.f54 fun C Q s h=>zcc.cps C N (s 0) (s 1) (s 2) h Q:=fun {C} hC Q s h hR=>eT hC (fun s h=>B.pv (V.bin .sub (s 2) (.int .i64 1)) fun a=>zw (zdb.l2 C (opsS 16 (.str []) 0) Q (s 0)) [(s 6),a] h) hR (fun s h hR=>eT hC (fun s h=>zw (zdb.l2 C (opsS 16 (.str []) 0) Q (s 0)) [(s 6),(s 7)] h) hR (fun s h hR=>eK (eL hC [0] [6,7] (on1 (zdb.l2 C (opsS 16 (.str []) 0) Q)) hR (fun Y1 s h hR=>e1 hR))))
theorem zcc.imp:zcc.Imp (AC P) N:=fun a b c h Q hR=>eF mixed (fn:=Try.f54) (fun hC=>zcc.L hC (dn Q) (zdi [a,b,c]) h hR)
def zbq.I:Bx:=⟨[],[],133,[(5,pz [] 16),(11,pz [] 18),(16,pz [] 11),(17,pz [] 18),(22,pz [] 11),(23,pz [] 18)]⟩
theorem zbq.L:LkT P zbq.I Try.f55 fun C Q s h=>zbq.cps C N (s 0) (s 1) (s 2) h Q:=fun {C} hC Q s h hR=>eT hC (fun s h=>B.pv (V.bin .add (s 1) (.int .i64 1)) fun c=>zw (zf.l12 C (opsS 16 (.str []) 0) (N 377) Q (s 0) (s 1) (s 2)) [c,(.int .i64 0)] h) hR (fun s h hR=>eT hC (fun s h=>zw (zf.l12 C (opsS 16 (.str []) 0) (N 377) Q (s 0) (s 1) (s 2)) [(s 7),(.int .i64 0)] h) hR (fun s h hR=>eS hC (fun s h=>Q (.bool false) h) (eT hC (fun s h=>zw (zf.l12 C (opsS 16 (.str []) 0) (N 377) Q (s 0) (s 1) (s 2)) [(s 7),(s 8)] h) hR (fun s h hR=>eK (eL hC [0,1,2] [7,8] (on3 (zf.l12 C (opsS 16 (.str []) 0) (N 377) Q)) hR (fun Y1 s h hR=>eT hC (fun s h=>zw (zf.l10 C (opsS 16 (.str []) 0) (N 377) Q Y1 (s 0) (s 1) (s 2) (s 8)) [(s 7)] h) hR (fun s h hR=>eS hC (fun s h=>B.pv (V.bin .add (s 8) (.int .i64 1)) fun a=>Y1 [(s 7),a] h) (eK (eS hC (fun s h=>B.pv (V.bin .eql (s 7) (s 2)) fun d=>B.cond d (Q (.bool true) h) (zf.k8 C (opsS 16 (.str []) 0) (N 377) Q Y1 (s 0) (s 1) (s 2) (s 7) (s 8) h)) (eK (eL hC [0,1,2,8] [7] (on4 (zf.l10 C (opsS 16 (.str []) 0) (N 377) Q Y1)) hR (fun Y4 s h hR=>e1 hR))) (fun s h hR=>eT hC (fun s h=>zf.k8 C (opsS 16 (.str []) 0) (N 377) Q Y1 (s 0) (s 1) (s 2) (s 7) (s 8) h) hR (fun s h hR=>eT hC (fun s h=>zf.k7 C (opsS 16 (.str []) 0) (N 377) Q Y1 (s 0) (s 1) (s 2) (s 7) (s 8) h) hR (fun s h hR=>eT hC (fun s h=>zf.k6 C (opsS 16 (.str []) 0) (N 377) Q Y1 (s 0) (s 1) (s 2) (s 7) (s 8) h) hR (fun s h hR=>eS hC (fun s h=>zf.k3 C (opsS 16 (.str []) 0) (N 377) Q Y1 (s 0) (s 1) (s 2) (s 7) (s 8) h) (eT hC (fun s h=>B.cond (s 61) (B.pv (V.bin .sub (s 7) (.int .i64 1)) fun e=>zw (zf.l5 C (opsS 16 (.str []) 0) (N 377) Q Y1 (s 0) (s 1) (s 2) (s 7) (s 8)) [e] h) (zf.k3 C (opsS 16 (.str []) 0) (N 377) Q Y1 (s 0) (s 1) (s 2) (s 7) (s 8) h)) hR (fun s h hR=>eC 61 hR (fun hR=>eT hC (fun s h=>zw (zf.l5 C (opsS 16 (.str []) 0) (N 377) Q Y1 (s 0) (s 1) (s 2) (s 7) (s 8)) [(s 9)] h) hR (fun s h hR=>eK (eL hC [0,1,2,7,8] [9] (on5 (zf.l5 C (opsS 16 (.str []) 0) (N 377) Q Y1)) hR (fun Y3 s h hR=>e1 hR)))) (fun hR=>e1 hR))) (fun s h hR=>eT hC (fun s h=>B.cond (s 98) (B.pv (V.bin .add (s 7) (.int .i64 1)) fun b=>zw (zf.l2 C (opsS 16 (.str []) 0) (N 377) Q Y1 (s 0) (s 1) (s 2) (s 7) (s 8)) [b] h) (B.pv (V.bin .add (s 8) (.int .i64 1)) fun a=>Y1 [(s 7),a] h)) hR (fun s h hR=>eC 98 hR (fun hR=>eT hC (fun s h=>zw (zf.l2 C (opsS 16 (.str []) 0) (N 377) Q Y1 (s 0) (s 1) (s 2) (s 7) (s 8)) [(s 10)] h) hR (fun s h hR=>eK (eL hC [0,1,2,7,8] [10] (on5 (zf.l2 C (opsS 16 (.str []) 0) (N 377) Q Y1)) hR (fun Y2 s h hR=>e1 hR)))) (fun hR=>e1 hR))))))))) (fun s h hR=>e1 hR)))))) (fun s h hR=>e1 hR)))
theorem zbq.imp:zbq.Imp (AC P) N:=fun a b c h Q hR=>eF mixed (fn:=Try.f55) (fun hC=>zbq.L hC (dn Q) (zdi [a,b,c]) h hR)
def zdj.I:Bx:=⟨[],[],17,[]⟩
theorem zdj.L:LkT P zdj.I Try.f56 fun C Q s h=>zdj.cps C N (s 0) (s 1) h Q:=fun {C} hC Q s h hR=>e1 hR
theorem zdj.imp:zdj.Imp (AC P) N:=fun a b h Q hR=>eF mixed (fn:=Try.f56) (fun hC=>zdj.L hC (dn Q) (zdi [a,b]) h hR)
def zbz.I:Bx:=⟨[],[],84,[(1,pz [] 16),(3,pz [] 15),(5,pz [] 14),(8,pz [] 16)]⟩
theorem zbz.L:LkT P zbz.I Try.f57 fun C Q s h=>zbz.cps C N (s 0) (s 1) (s 2) (s 3) h Q:=fun {C} hC Q s h hR=>eT hC (fun s h=>zx.k8 C (opsS 16 (.str []) 0) (N 377) Q (s 0) (s 1) (s 2) (s 3) h) hR (fun s h hR=>eT hC (fun s h=>zx.k7 C (opsS 16 (.str []) 0) (N 377) Q (s 0) (s 1) (s 2) h) hR (fun s h hR=>eT hC (fun s h=>zw (zx.l6 C (opsS 16 (.str []) 0) (N 377) Q (s 0) (s 1)) [(s 9),(s 10)] h) hR (fun s h hR=>eS hC (fun s h=>Q (s 9) h) (eK (eL hC [0,1] [9,10] (on2 (zx.l6 C (opsS 16 (.str []) 0) (N 377) Q)) hR (fun Y1 s h hR=>eK (eS hC (fun s h=>zw (zx.l3 C (opsS 16 (.str []) 0) (N 377) Q Y1 (s 0) (s 1) (s 9)) [(s 10)] h) (eK (eL hC [0,1,10] [9] (on3 (zx.l5 C (opsS 16 (.str []) 0) (N 377) Q Y1)) hR (fun Y3 s h hR=>e1 hR))) (fun s h hR=>eS hC (fun s h=>zx.k1 C (opsS 16 (.str []) 0) (N 377) Q Y1 (s 0) (s 1) (s 9) (s 10) h) (eK (eL hC [0,1,9] [10] (on3 (zx.l3 C (opsS 16 (.str []) 0) (N 377) Q Y1)) hR (fun Y2 s h hR=>e1 hR))) (fun s h hR=>e1 hR)))))) (fun s h hR=>e1 hR))))
theorem zbz.imp:zbz.Imp (AC P) N:=fun a b c d h Q hR=>eF mixed (fn:=Try.f57) (fun hC=>zbz.L hC (dn Q) (zdi [a,b,c,d]) h hR)
def zco.I:Bx:=⟨[],[],168,[(1,pz [] 16),(3,pz [] 14),(5,pz [] 15),(8,pz [] 16),(10,pz [] 16),(13,pz [] 14),(15,pz [] 15),(18,pz [] 16),(21,pz [] 16)]⟩
theorem zco.L:LkT P zco.I Try.f58 fun C Q s h=>zco.cps C N (s 0) (s 1) (s 2) (s 3) h Q:=fun {C} hC Q s h hR=>eT hC (fun s h=>zi.k16 C (opsS 16 (.str []) 0) (N 377) Q (s 0) (s 1) (s 2) (s 3) h) hR (fun s h hR=>eT hC (fun s h=>zi.k15 C (opsS 16 (.str []) 0) (N 377) Q (s 0) (s 1) (s 2) h) hR (fun s h hR=>eT hC (fun s h=>zw (zi.l14 C (opsS 16 (.str []) 0) (N 377) Q (s 0) (s 1) (s 11)) [(s 10)] h) hR (fun s h hR=>eS hC (fun s h=>zw (zi.l12 C (opsS 16 (.str []) 0) (N 377) Q (s 0) (s 1) (s 10)) [(s 11)] h) (eK (eL hC [0,1,11] [10] (on3 (zi.l14 C (opsS 16 (.str []) 0) (N 377) Q)) hR (fun Y5 s h hR=>e1 hR))) (fun s h hR=>eS hC (fun s h=>zi.k10 C (opsS 16 (.str []) 0) (N 377) Q (s 0) (s 1) (s 10) (s 11) h) (eK (eL hC [0,1,10] [11] (on3 (zi.l12 C (opsS 16 (.str []) 0) (N 377) Q)) hR (fun Y4 s h hR=>e1 hR))) (fun s h hR=>eT hC (fun s h=>zi.k9 C (opsS 16 (.str []) 0) (N 377) Q (s 0) (s 1) (s 10) (s 11) h) hR (fun s h hR=>eT hC (fun s h=>zi.k8 C (opsS 16 (.str []) 0) (N 377) Q (s 0) (s 1) (s 10) (s 11) h) hR (fun s h hR=>eT hC (fun s h=>B.pv (V.bin .sub (s 11) (.int .i64 1)) fun a=>zw (zi.l7 C (opsS 16 (.str []) 0) (N 377) Q (s 0) (s 1)) [(s 10),a] h) hR (fun s h hR=>eT hC (fun s h=>zw (zi.l7 C (opsS 16 (.str []) 0) (N 377) Q (s 0) (s 1)) [(s 10),(s 11)] h) hR (fun s h hR=>eS hC (fun s h=>zi.k1 C (opsS 16 (.str []) 0) (N 377) Q (s 0) (s 1) (s 11) h) (eK (eL hC [0,1] [10,11] (on2 (zi.l7 C (opsS 16 (.str []) 0) (N 377) Q)) hR (fun Y1 s h hR=>eK (eS hC (fun s h=>zw (zi.l4 C (opsS 16 (.str []) 0) (N 377) Q Y1 (s 0) (s 1) (s 10)) [(s 11)] h) (eK (eL hC [0,1,11] [10] (on3 (zi.l6 C (opsS 16 (.str []) 0) (N 377) Q Y1)) hR (fun Y3 s h hR=>e1 hR))) (fun s h hR=>eS hC (fun s h=>zi.k2 C (opsS 16 (.str []) 0) (N 377) Q Y1 (s 0) (s 1) (s 10) (s 11) h) (eK (eL hC [0,1,10] [11] (on3 (zi.l4 C (opsS 16 (.str []) 0) (N 377) Q Y1)) hR (fun Y2 s h hR=>e1 hR))) (fun s h hR=>e1 hR)))))) (fun s h hR=>e1 hR))))))))))
theorem zco.imp:zco.Imp (AC P) N:=fun a b c d h Q hR=>eF mixed (fn:=Try.f58) (fun hC=>zco.L hC (dn Q) (zdi [a,b,c,d]) h hR)
def zbv.I:Bx:=⟨[],[],25,[]⟩
theorem zbv.L:LkT P zbv.I Try.f60 fun C Q s h=>zbv.cps C N (s 0) h Q:=fun {C} hC Q s h hR=>eT hC (fun s h=>zbv.k4 C N Q (s 0) (s 2) h) hR (fun s h hR=>eT hC (fun s h=>zbv.k3 C N Q (s 0) (s 2) h) hR (fun s h hR=>eT hC (fun s h=>zbv.k2 C N Q (s 0) (s 2) h) hR (fun s h hR=>eT hC (fun s h=>zbv.k1 C N Q (s 0) (s 2) h) hR (fun s h hR=>e1 hR))))
theorem zbv.imp:zbv.Imp (AC P) N:=fun a h Q hR=>eF mixed (fn:=Try.f60) (fun hC=>zbv.L hC (dn Q) (zdi [a]) h hR)
def zb7.I:Bx:=⟨[],[],53,[(4,pz [] 17),(6,pz [] 18)]⟩
theorem zb7.L:LkT P zb7.I Try.f61 fun C Q s h=>zb7.cps C N (s 0) (s 1) (s 2) (s 3) h Q:=fun {C} hC Q s h hR=>eT hC (fun s h=>zw (zbf.l3 C (opsS 24 (.nils) 0) Q (s 0) (s 1) (s 2) (s 3)) [(s 8)] h) hR (fun s h hR=>eK (eL hC [0,1,2,3] [8] (on4 (zbf.l3 C (opsS 24 (.nils) 0) Q)) hR (fun Y1 s h hR=>eT hC (fun s h=>zw (zbf.l2 C (opsS 24 (.nils) 0) Q Y1 (s 0) (s 1) (s 2) (s 3) (s 8)) [(s 8)] h) hR (fun s h hR=>eS hC (fun s h=>B.pv (V.bin .add (s 8) (.int .i64 1)) fun a=>Y1 [a] h) (eK (eT hC (fun s h=>zw (zbf.l2 C (opsS 24 (.nils) 0) Q Y1 (s 0) (s 1) (s 2) (s 3) (s 8)) [(s 9)] h) hR (fun s h hR=>eK (eL hC [0,1,2,3,8] [9] (on5 (zbf.l2 C (opsS 24 (.nils) 0) Q Y1)) hR (fun Y2 s h hR=>e1 hR))))) (fun s h hR=>e1 hR)))))
theorem zb7.imp:zb7.Imp (AC P) N:=fun a b c d h Q hR=>eF mixed (fn:=Try.f61) (fun hC=>zb7.L hC (dn Q) (zdi [a,b,c,d]) h hR)
def zcu.I:Bx:=⟨[],[],60,[(10,pz [] 20)]⟩
theorem zcu.L:LkT P zcu.I Try.f62 fun C Q s h=>zcu.cps C N (s 0) (s 1) (s 2) (s 3) h Q:=fun {C} hC Q s h hR=>eT hC (fun s h=>B.pv (V.bin .sub (s 2) (s 1)) fun a=>zbb.k5 C (opsS 24 (.nils) 0) (N 591) Q (s 0) (s 3) (s 8) (.int .i64 0) a h) hR (fun s h hR=>eT hC (fun s h=>B.pv (V.bin .sub (s 2) (s 1)) fun a=>zbb.k5 C (opsS 24 (.nils) 0) (N 591) Q (s 0) (s 3) (s 8) (s 9) a h) hR (fun s h hR=>eT hC (fun s h=>zbb.k5 C (opsS 24 (.nils) 0) (N 591) Q (s 0) (s 3) (s 8) (s 9) (s 10) h) hR (fun s h hR=>eS hC (fun s h=>B.pv (V.bin .sub (s 10) (.int .i64 1)) fun b=>zw (zbb.l2 C (opsS 24 (.nils) 0) (N 591) Q (s 0) (s 3) (s 8) (s 9)) [b] h) (eT hC (fun s h=>zw (zbb.l4 C (opsS 24 (.nils) 0) (N 591) Q (s 0) (s 3) (s 8) (s 9) (s 10)) [(s 11)] h) hR (fun s h hR=>eK (eL hC [0,3,8,9,10] [11] (on5 (zbb.l4 C (opsS 24 (.nils) 0) (N 591) Q)) hR (fun Y2 s h hR=>e1 hR)))) (fun s h hR=>eT hC (fun s h=>zw (zbb.l2 C (opsS 24 (.nils) 0) (N 591) Q (s 0) (s 3) (s 8) (s 9)) [(s 12)] h) hR (fun s h hR=>eK (eL hC [0,3,8,9] [12] (on4 (zbb.l2 C (opsS 24 (.nils) 0) (N 591) Q)) hR (fun Y1 s h hR=>e1 hR)))))))
theorem zcu.imp:zcu.Imp (AC P) N:=fun a b c d h Q hR=>eF mixed (fn:=Try.f62) (fun hC=>zcu.L hC (dn Q) (zdi [a,b,c,d]) h hR)
def zb9.I:Bx:=⟨[],[],67,[(10,pz [] 20)]⟩
theorem zb9.L:LkT P zb9.I Try.f63 fun C Q s h=>zb9.cps C N (s 0) (s 1) (s 2) (s 3) h Q:=fun {C} hC Q s h hR=>eT hC (fun s h=>B.pv (V.bin .geq (s 8) (.int .i64 8)) fun a=>B.cond a (zk.k7 C (opsS 24 (.nils) 0) (N 298) (N 299) Q (s 0) (s 1) (s 8) h) (Q (.tup []) h)) hR (fun s h hR=>eT hC (fun s h=>B.cond (s 17) (zk.k7 C (opsS 24 (.nils) 0) (N 298) (N 299) Q (s 0) (s 1) (s 8) h) (Q (.tup []) h)) hR (fun s h hR=>eC 17 hR (fun hR=>eT hC (fun s h=>B.call C (N 299) [(s 8)] h fun b h=>zk.k6 C (opsS 24 (.nils) 0) (N 298) (N 299) Q (s 0) (s 1) (s 8) (s 9) b h) hR (fun s h hR=>eT hC (fun s h=>zk.k6 C (opsS 24 (.nils) 0) (N 298) (N 299) Q (s 0) (s 1) (s 8) (s 9) (s 10) h) hR (fun s h hR=>eT hC (fun s h=>zw (zk.l5 C (opsS 24 (.nils) 0) (N 298) (N 299) Q (s 0) (s 1) (s 8) (s 9) (s 10)) [(s 11)] h) hR (fun s h hR=>eK (eL hC [0,1,8,9,10] [11] (on5 (zk.l5 C (opsS 24 (.nils) 0) (N 298) (N 299) Q)) hR (fun Y1 s h hR=>eT hC (fun s h=>zk.k3 C (opsS 24 (.nils) 0) (N 298) (N 299) Q Y1 (s 0) (s 1) (s 8) (s 9) (s 10) (s 11) h) hR (fun s h hR=>eS hC (fun s h=>B.pv (V.bin .add (s 11) (.int .i64 1)) fun c=>Y1 [c] h) (eK (eT hC (fun s h=>zk.k2 C (opsS 24 (.nils) 0) (N 298) (N 299) Q Y1 (s 0) (s 1) (s 8) (s 9) (s 10) (s 11) (s 12) h) hR (fun s h hR=>eT hC (fun s h=>zk.k1 C (opsS 24 (.nils) 0) (N 298) (N 299) Q Y1 (s 0) (s 1) (s 8) (s 9) (s 10) (s 11) (s 12) h) hR (fun s h hR=>e1 hR)))) (fun s h hR=>e1 hR)))))))) (fun hR=>e1 hR)))
theorem zb9.imp:zb9.Imp (AC P) N:=fun a b c d h Q hR=>eF mixed (fn:=Try.f63) (fun hC=>zb9.L hC (dn Q) (zdi [a,b,c,d]) h hR)
def zci.I:Bx:=⟨[],[],63,[]⟩
theorem zci.L:LkT P zci.I Try.f64 fun C Q s h=>zci.cps C N (s 0) (s 1) (s 2) (s 3) h Q:=fun {C} hC Q s h hR=>eT hC (fun s h=>B.pv (V.bin .sub (s 2) (s 1)) fun b=>B.newO h (some [.int .i64 0]) fun a h=>zo.k6 C (opsS 24 (.nils) 0) (N 589) (N 590) Q (s 0) (s 1) (s 3) b (.ptr a 0 0) h) hR (fun s h hR=>eT hC (fun s h=>B.newO h (some [.int .i64 0]) fun a h=>zo.k6 C (opsS 24 (.nils) 0) (N 589) (N 590) Q (s 0) (s 1) (s 3) (s 10) (.ptr a 0 0) h) hR (fun s h hR=>eT hC (fun s h=>zo.k6 C (opsS 24 (.nils) 0) (N 589) (N 590) Q (s 0) (s 1) (s 3) (s 10) (s 11) h) hR (fun s h hR=>eT hC (fun s h=>zo.k5 C (opsS 24 (.nils) 0) (N 589) (N 590) Q (s 0) (s 1) (s 3) (s 10) (s 11) (s 12) h) hR (fun s h hR=>eT hC (fun s h=>zo.k4 C (opsS 24 (.nils) 0) (N 589) (N 590) Q (s 0) (s 1) (s 3) (s 10) (s 11) (s 12) (s 13) h) hR (fun s h hR=>eT hC (fun s h=>zo.k3 C (opsS 24 (.nils) 0) (N 589) (N 590) Q (s 0) (s 3) (s 10) (s 11) (s 12) (s 13) (s 14) h) hR (fun s h hR=>eS hC (fun s h=>zo.k1 C (opsS 24 (.nils) 0) (N 589) (N 590) Q (s 11) (s 13) h) (eT hC (fun s h=>B.cond (s 34) (zo.k2 C (opsS 24 (.nils) 0) (N 589) (N 590) Q (s 0) (s 3) (s 10) (s 11) (s 12) (s 13) (s 14) h) (zo.k1 C (opsS 24 (.nils) 0) (N 589) (N 590) Q (s 11) (s 13) h)) hR (fun s h hR=>eC 34 hR (fun hR=>eT hC (fun s h=>B.call C (N 589) [(s 0),(s 12),(s 13),(s 14),(s 11),(s 3)] h fun c h=>zo.k1 C (opsS 24 (.nils) 0) (N 589) (N 590) Q (s 11) c h) hR (fun s h hR=>e1 hR)) (fun hR=>e1 hR))) (fun s h hR=>e1 hR)))))))
theorem zci.imp:zci.Imp (AC P) N:=fun a b c d h Q hR=>eF mixed (fn:=Try.f64) (fun hC=>zci.L hC (dn Q) (zdi [a,b,c,d]) h hR)
def zcd.I:Bx:=⟨[],[],34,[(3,pz [] 16)]⟩
theorem zcd.L:LkT P zcd.I Try.f65 fun C Q s h=>zcd.cps C N (s 0) (s 1) (s 2) (s 3) h Q:=fun {C} hC Q s h hR=>eT hC (fun s h=>B.pv (V.bin .sub (s 2) (.int .i64 1)) fun a=>zw (zck.l2 C (opsS 24 (.nils) 0) Q (s 0)) [(s 8),a] h) hR (fun s h hR=>eT hC (fun s h=>zw (zck.l2 C (opsS 24 (.nils) 0) Q (s 0)) [(s 8),(s 9)] h) hR (fun s h hR=>eK (eL hC [0] [8,9] (on1 (zck.l2 C (opsS 24 (.nils) 0) Q)) hR (fun Y1 s h hR=>e1 hR))))
theorem zcd.imp:zcd.Imp (AC P) N:=fun a b c d h Q hR=>eF mixed (fn:=Try.f65) (fun hC=>zcd.L hC (dn Q) (zdi [a,b,c,d]) h hR)
def zbr.I:Bx:=⟨[],[],141,[(5,pz [] 18),(11,pz [] 18),(16,pz [] 13),(17,pz [] 18),(22,pz [] 13),(23,pz [] 18)]⟩
theorem zbr.L:LkT P zbr.I Try.f66 fun C Q s h=>zbr.cps C N (s 0) (s 1) (s 2) (s 3) h Q:=fun {C} hC Q s h hR=>eT hC (fun s h=>B.pv (V.bin .add (s 1) (.int .i64 1)) fun c=>zw (zb.l12 C (opsS 24 (.nils) 0) Q (s 0) (s 1) (s 2) (s 3)) [c,(.int .i64 0)] h) hR (fun s h hR=>eT hC (fun s h=>zw (zb.l12 C (opsS 24 (.nils) 0) Q (s 0) (s 1) (s 2) (s 3)) [(s 9),(.int .i64 0)] h) hR (fun s h hR=>eS hC (fun s h=>Q (.bool false) h) (eT hC (fun s h=>zw (zb.l12 C (opsS 24 (.nils) 0) Q (s 0) (s 1) (s 2) (s 3)) [(s 9),(s 10)] h) hR (fun s h hR=>eK (eL hC [0,1,2,3] [9,10] (on4 (zb.l12 C (opsS 24 (.nils) 0) Q)) hR (fun Y1 s h hR=>eT hC (fun s h=>zw (zb.l10 C (opsS 24 (.nils) 0) Q Y1 (s 0) (s 1) (s 2) (s 3) (s 10)) [(s 9)] h) hR (fun s h hR=>eS hC (fun s h=>B.pv (V.bin .add (s 10) (.int .i64 1)) fun a=>Y1 [(s 9),a] h) (eK (eS hC (fun s h=>B.pv (V.bin .eql (s 9) (s 2)) fun d=>B.cond d (Q (.bool true) h) (zb.k8 C (opsS 24 (.nils) 0) Q Y1 (s 0) (s 1) (s 2) (s 3) (s 9) (s 10) h)) (eK (eL hC [0,1,2,3,10] [9] (on5 (zb.l10 C (opsS 24 (.nils) 0) Q Y1)) hR (fun Y4 s h hR=>e1 hR))) (fun s h hR=>eT hC (fun s h=>zb.k8 C (opsS 24 (.nils) 0) Q Y1 (s 0) (s 1) (s 2) (s 3) (s 9) (s 10) h) hR (fun s h hR=>eT hC (fun s h=>zb.k7 C (opsS 24 (.nils) 0) Q Y1 (s 0) (s 1) (s 2) (s 3) (s 9) (s 10) h) hR (fun s h hR=>eT hC (fun s h=>zb.k6 C (opsS 24 (.nils) 0) Q Y1 (s 0) (s 1) (s 2) (s 3) (s 9) (s 10) h) hR (fun s h hR=>eS hC (fun s h=>zb.k3 C (opsS 24 (.nils) 0) Q Y1 (s 0) (s 1) (s 2) (s 3) (s 9) (s 10) h) (eT hC (fun s h=>B.cond (s 65) (B.pv (V.bin .sub (s 9) (.int .i64 1)) fun e=>zw (zb.l5 C (opsS 24 (.nils) 0) Q Y1 (s 0) (s 1) (s 2) (s 3) (s 9) (s 10)) [e] h) (zb.k3 C (opsS 24 (.nils) 0) Q Y1 (s 0) (s 1) (s 2) (s 3) (s 9) (s 10) h)) hR (fun s h hR=>eC 65 hR (fun hR=>eT hC (fun s h=>zw (zb.l5 C (opsS 24 (.nils) 0) Q Y1 (s 0) (s 1) (s 2) (s 3) (s 9) (s 10)) [(s 11)] h) hR (fun s h hR=>eK (eL hC [0,1,2,3,9,10] [11] (on6 (zb.l5 C (opsS 24 (.nils) 0) Q Y1)) hR (fun Y3 s h hR=>e1 hR)))) (fun hR=>e1 hR))) (fun s h hR=>eT hC (fun s h=>B.cond (s 104) (B.pv (V.bin .add (s 9) (.int .i64 1)) fun b=>zw (zb.l2 C (opsS 24 (.nils) 0) Q Y1 (s 0) (s 1) (s 2) (s 3) (s 9) (s 10)) [b] h) (B.pv (V.bin .add (s 10) (.int .i64 1)) fun a=>Y1 [(s 9),a] h)) hR (fun s h hR=>eC 104 hR (fun hR=>eT hC (fun s h=>zw (zb.l2 C (opsS 24 (.nils) 0) Q Y1 (s 0) (s 1) (s 2) (s 3) (s 9) (s 10)) [(s 12)] h) hR (fun s h hR=>eK (eL hC [0,1,2,3,9,10] [12] (on6 (zb.l2 C (opsS 24 (.nils) 0) Q Y1)) hR (fun Y2 s h hR=>e1 hR)))) (fun hR=>e1 hR))))))))) (fun s h hR=>e1 hR)))))) (fun s h hR=>e1 hR)))
theorem zbr.imp:zbr.Imp (AC P) N:=fun a b c d h Q hR=>eF mixed (fn:=Try.f66) (fun hC=>zbr.L hC (dn Q) (zdi [a,b,c,d]) h hR)
def zb0.I:Bx:=⟨[],[],90,[(1,pz [] 16),(3,pz [] 17),(5,pz [] 16),(8,pz [] 16)]⟩
theorem zb0.L:LkT P zb0.I Try.f67 fun C Q s h=>zb0.cps C N (s 0) (s 1) (s 2) (s 3) (s 4) h Q:=fun {C} hC Q s h hR=>eT hC (fun s h=>zj.k8 C (opsS 24 (.nils) 0) Q (s 0) (s 1) (s 2) (s 3) (s 4) h) hR (fun s h hR=>eT hC (fun s h=>zj.k7 C (opsS 24 (.nils) 0) Q (s 0) (s 1) (s 2) (s 4) h) hR (fun s h hR=>eT hC (fun s h=>zw (zj.l6 C (opsS 24 (.nils) 0) Q (s 0) (s 1) (s 4)) [(s 11),(s 12)] h) hR (fun s h hR=>eS hC (fun s h=>Q (s 11) h) (eK (eL hC [0,1,4] [11,12] (on3 (zj.l6 C (opsS 24 (.nils) 0) Q)) hR (fun Y1 s h hR=>eK (eS hC (fun s h=>zw (zj.l3 C (opsS 24 (.nils) 0) Q Y1 (s 0) (s 1) (s 4) (s 11)) [(s 12)] h) (eK (eL hC [0,1,4,12] [11] (on4 (zj.l5 C (opsS 24 (.nils) 0) Q Y1)) hR (fun Y3 s h hR=>e1 hR))) (fun s h hR=>eS hC (fun s h=>zj.k1 C (opsS 24 (.nils) 0) Q Y1 (s 0) (s 1) (s 4) (s 11) (s 12) h) (eK (eL hC [0,1,4,11] [12] (on4 (zj.l3 C (opsS 24 (.nils) 0) Q Y1)) hR (fun Y2 s h hR=>e1 hR))) (fun s h hR=>e1 hR)))))) (fun s h hR=>e1 hR))))
theorem zb0.imp:zb0.Imp (AC P) N:=fun a b c d e h Q hR=>eF mixed (fn:=Try.f67) (fun hC=>zb0.L hC (dn Q) (zdi [a,b,c,d,e]) h hR)
def zcp.I:Bx:=⟨[],[],178,[(1,pz [] 16),(3,pz [] 16),(5,pz [] 17),(8,pz [] 16),(10,pz [] 16),(13,pz [] 16),(15,pz [] 17),(18,pz [] 16),(21,pz [] 16)]⟩
theorem zcp.L:LkT P zcp.I Try.f68 fun C Q s h=>zcp.cps C N (s 0) (s 1) (s 2) (s 3) (s 4) h Q:=fun {C} hC Q s h hR=>eT hC (fun s h=>ze.k16 C (opsS 24 (.nils) 0) Q (s 0) (s 1) (s 2) (s 3) (s 4) h) hR (fun s h hR=>eT hC (fun s h=>ze.k15 C (opsS 24 (.nils) 0) Q (s 0) (s 1) (s 2) (s 4) h) hR (fun s h hR=>eT hC (fun s h=>zw (ze.l14 C (opsS 24 (.nils) 0) Q (s 0) (s 1) (s 4) (s 13)) [(s 12)] h) hR (fun s h hR=>eS hC (fun s h=>zw (ze.l12 C (opsS 24 (.nils) 0) Q (s 0) (s 1) (s 4) (s 12)) [(s 13)] h) (eK (eL hC [0,1,4,13] [12] (on4 (ze.l14 C (opsS 24 (.nils) 0) Q)) hR (fun Y5 s h hR=>e1 hR))) (fun s h hR=>eS hC (fun s h=>ze.k10 C (opsS 24 (.nils) 0) Q (s 0) (s 1) (s 4) (s 12) (s 13) h) (eK (eL hC [0,1,4,12] [13] (on4 (ze.l12 C (opsS 24 (.nils) 0) Q)) hR (fun Y4 s h hR=>e1 hR))) (fun s h hR=>eT hC (fun s h=>ze.k9 C (opsS 24 (.nils) 0) Q (s 0) (s 1) (s 4) (s 12) (s 13) h) hR (fun s h hR=>eT hC (fun s h=>ze.k8 C (opsS 24 (.nils) 0) Q (s 0) (s 1) (s 4) (s 12) (s 13) h) hR (fun s h hR=>eT hC (fun s h=>B.pv (V.bin .sub (s 13) (.int .i64 1)) fun a=>zw (ze.l7 C (opsS 24 (.nils) 0) Q (s 0) (s 1) (s 4)) [(s 12),a] h) hR (fun s h hR=>eT hC (fun s h=>zw (ze.l7 C (opsS 24 (.nils) 0) Q (s 0) (s 1) (s 4)) [(s 12),(s 13)] h) hR (fun s h hR=>eS hC (fun s h=>ze.k1 C (opsS 24 (.nils) 0) Q (s 0) (s 1) (s 13) h) (eK (eL hC [0,1,4] [12,13] (on3 (ze.l7 C (opsS 24 (.nils) 0) Q)) hR (fun Y1 s h hR=>eK (eS hC (fun s h=>zw (ze.l4 C (opsS 24 (.nils) 0) Q Y1 (s 0) (s 1) (s 4) (s 12)) [(s 13)] h) (eK (eL hC [0,1,4,13] [12] (on4 (ze.l6 C (opsS 24 (.nils) 0) Q Y1)) hR (fun Y3 s h hR=>e1 hR))) (fun s h hR=>eS hC (fun s h=>ze.k2 C (opsS 24 (.nils) 0) Q Y1 (s 0) (s 1) (s 4) (s 12) (s 13) h) (eK (eL hC [0,1,4,12] [13] (on4 (ze.l4 C (opsS 24 (.nils) 0) Q Y1)) hR (fun Y2 s h hR=>e1 hR))) (fun s h hR=>e1 hR)))))) (fun s h hR=>e1 hR))))))))))
theorem zcp.imp:zcp.Imp (AC P) N:=fun a b c d e h Q hR=>eF mixed (fn:=Try.f68) (fun hC=>zcp.L hC (dn Q) (zdi [a,b,c,d,e]) h hR)
def zdh.I:Bx:=⟨[],[],6,[]⟩
theorem zdh.L:LkT P zdh.I Try.f69 fun C Q s h=>zdh.cps C N (s 0) h Q:=fun {C} hC Q s h hR=>e1 hR
theorem zdh.imp:zdh.Imp (AC P) N:=fun a h Q hR=>eF mixed (fn:=Try.f69) (fun hC=>zdh.L hC (dn Q) (zdi [a]) h hR)
def zd4.I:Bx:=⟨[],[],7,[]⟩
theorem zd4.L:LkT P zd4.I Try.f70 fun C Q s h=>zd4.cps C N (s 0) h Q:=fun {C} hC Q s h hR=>e1 hR
theorem zd4.imp:zd4.Imp (AC P) N:=fun a h Q hR=>eF mixed (fn:=Try.f70) (fun hC=>zd4.L hC (dn Q) (zdi [a]) h hR)
def zd3.I:Bx:=⟨[],[],7,[]⟩
theorem zd3.L:LkT P zd3.I Try.f71 fun C Q s h=>zd3.cps C N (s 0) h Q:=fun {C} hC Q s h hR=>e1 hR
theorem zd3.imp:zd3.Imp (AC P) N:=fun a h Q hR=>eF mixed (fn:=Try.f71) (fun hC=>zd3.L hC (dn Q) (zdi [a]) h hR)
def zbx.I:Bx:=⟨[],[],27,[]⟩
theorem zbx.L:LkT P zbx.I Try.f73 fun C Q s h=>zbx.cps C N (s 0) (s 1) h Q:=fun {C} hC Q s h hR=>eT hC (fun s h=>B.pv (V.bin .lss (s 1) (.int .i64 0)) fun a=>B.cond a (False) (zge.k1 C (opsS 16 (.str []) 0) Q (s 0) (s 1) h)) hR (fun s h hR=>eT hC (fun s h=>zge.k1 C (opsS 16 (.str []) 0) Q (s 0) (s 1) h) hR (fun s h hR=>e1 hR))
theorem zbx.imp:zbx.Imp (AC P) N:=fun a b h Q hR=>eF mixed (fn:=Try.f73) (fun hC=>zbx.L hC (dn Q) (zdi [a,b]) h hR)
def zcr.I:Bx:=⟨[],[],76,[(3,pz [] 20),(5,pz [] 14),(6,pz [] 24)]⟩
theorem zcr.L:LkT P zcr.I Try.f74 fun C Q s h=>zcr.cps C N (s 0) (s 1) (s 2) (s 3) h Q:=fun {C} hC Q s h hR=>eT hC (fun s h=>zw (zcb.l4 C (opsS 16 (.str []) 0) (N 377) Q (s 0) (s 2) (s 3)) [(s 8)] h) hR (fun s h hR=>eK (eL hC [0,2,3] [8] (on3 (zcb.l4 C (opsS 16 (.str []) 0) (N 377) Q)) hR (fun Y1 s h hR=>eK (eT hC (fun s h=>B.pv (V.bin .geq (s 9) (s 2)) fun a=>B.cond a (Q (.tup []) h) (zcb.k2 C (opsS 16 (.str []) 0) (N 377) Q Y1 (s 0) (s 2) (s 3) (s 8) (s 9) h)) hR (fun s h hR=>eT hC (fun s h=>zcb.k2 C (opsS 16 (.str []) 0) (N 377) Q Y1 (s 0) (s 2) (s 3) (s 8) (s 9) h) hR (fun s h hR=>eT hC (fun s h=>zcb.k1 C (opsS 16 (.str []) 0) (N 377) Q Y1 (s 0) (s 2) (s 3) (s 8) (s 9) h) hR (fun s h hR=>e1 hR)))))))
theorem zcr.imp:zcr.Imp (AC P) N:=fun a b c d h Q hR=>eF mixed (fn:=Try.f74) (fun hC=>zcr.L hC (dn Q) (zdi [a,b,c,d]) h hR)
def zda.I:Bx:=⟨[],[],7,[]⟩
theorem zda.L:LkT P zda.I Try.f75 fun C Q s h=>zda.cps C N (s 0) h Q:=fun {C} hC Q s h hR=>e1 hR
theorem zda.imp:zda.Imp (AC P) N:=fun a h Q hR=>eF mixed (fn:=Try.f75) (fun hC=>zda.L hC (dn Q) (zdi [a]) h hR)
def zcv.I:Bx:=⟨[],[],33,[(1,pz [] 10),(2,pz [] 10),(3,pz [] 10)]⟩
theorem zcv.L:LkT P zcv.I Try.f76 fun C Q s h=>zcv.cps C N (s 0) h Q:=fun {C} hC Q s h hR=>e1 hR
theorem zcv.imp:zcv.Imp (AC P) N:=fun a h Q hR=>eF mixed (fn:=Try.f76) (fun hC=>zcv.L hC (dn Q) (zdi [a]) h hR)
def zb1.I:Bx:=⟨[],[],15,[]⟩
theorem zb1.L:LkT P zb1.I Try.f77 fun C Q s h=>zb1.cps C N (s 0) (s 1) (s 2) h Q:=fun {C} hC Q s h hR=>e1 hR
theorem zb1.imp:zb1.Imp (AC P) N:=fun a b c h Q hR=>eF mixed (fn:=Try.f77) (fun hC=>zb1.L hC (dn Q) (zdi [a,b,c]) h hR)
def zc4.I:Bx:=⟨[],[],36,[]⟩
theorem zc4.L:LkT P zc4.I Try.f78 fun C Q s h=>zc4.cps C N (s 0) (s 1) (s 2) (s 3) (s 4) h Q:=fun {C} hC Q s h hR=>e1 hR
theorem zc4.imp:zc4.Imp (AC P) N:=fun a b c d e h Q hR=>eF mixed (fn:=Try.f78) (fun hC=>zc4.L hC (dn Q) (zdi [a,b,c,d,e]) h hR)
def zcs.I:Bx:=⟨[],[],82,[(3,pz [] 22),(5,pz [] 16),(6,pz [] 24)]⟩
theorem zcs.L:LkT P zcs.I Try.f79 fun C Q s h=>zcs.cps C N (s 0) (s 1) (s 2) (s 3) (s 4) h Q:=fun {C} hC Q s h hR=>eT hC (fun s h=>zw (zbh.l4 C (opsS 24 (.nils) 0) Q (s 0) (s 2) (s 3) (s 4)) [(s 10)] h) hR (fun s h hR=>eK (eL hC [0,2,3,4] [10] (on4 (zbh.l4 C (opsS 24 (.nils) 0) Q)) hR (fun Y1 s h hR=>eK (eT hC (fun s h=>B.pv (V.bin .geq (s 11) (s 2)) fun a=>B.cond a (Q (.tup []) h) (zbh.k2 C (opsS 24 (.nils) 0) Q Y1 (s 0) (s 2) (s 3) (s 4) (s 10) (s 11) h)) hR (fun s h hR=>eT hC (fun s h=>zbh.k2 C (opsS 24 (.nils) 0) Q Y1 (s 0) (s 2) (s 3) (s 4) (s 10) (s 11) h) hR (fun s h hR=>eT hC (fun s h=>zbh.k1 C (opsS 24 (.nils) 0) Q Y1 (s 0) (s 2) (s 3) (s 4) (s 10) (s 11) h) hR (fun s h hR=>e1 hR)))))))
theorem zcs.imp:zcs.Imp (AC P) N:=fun a b c d e h Q hR=>eF mixed (fn:=Try.f79) (fun hC=>zcs.L hC (dn Q) (zdi [a,b,c,d,e]) h hR)
def zb2.I:Bx:=⟨[],[],18,[]⟩
theorem zb2.L:LkT P zb2.I Try.f80 fun C Q s h=>zb2.cps C N (s 0) (s 1) (s 2) (s 3) h Q:=fun {C} hC Q s h hR=>e1 hR
theorem zb2.imp:zb2.Imp (AC P) N:=fun a b c d h Q hR=>eF mixed (fn:=Try.f80) (fun hC=>zb2.L hC (dn Q) (zdi [a,b,c,d]) h hR)
def zc5.I:Bx:=⟨[],[],41,[]⟩
theorem zc5.L:LkT P zc5.I Try.f81 fun C Q s h=>zc5.cps C N (s 0) (s 1) (s 2) (s 3) (s 4) (s 5) h Q:=fun {C} hC Q s h hR=>e1 hR
theorem zc5.imp:zc5.Imp (AC P) N:=fun a b c d e f h Q hR=>eF mixed (fn:=Try.f81) (fun hC=>zc5.L hC (dn Q) (zdi [a,b,c,d,e,f]) h hR)
def zc2.I:Bx:=⟨[],[],28,[(1,pz [] 9)]⟩
theorem zc2.L:LkT P zc2.I Try.f82 fun C Q s h=>zc2.cps C N (s 0) (s 1) (s 2) (s 3) h Q:=fun {C} hC Q s h hR=>e1 hR
theorem zc2.imp:zc2.Imp (AC P) N:=fun a b c d h Q hR=>eF mixed (fn:=Try.f82) (fun hC=>zc2.L hC (dn Q) (zdi [a,b,c,d]) h hR)
def zc3.I:Bx:=⟨[],[],32,[(1,pz [] 11)]⟩
theorem zc3.L:LkT P zc3.I Try.f83 fun C Q s h=>zc3.cps C N (s 0) (s 1) (s 2) (s 3) (s 4) h Q:=fun {C} hC Q s h hR=>e1 hR
theorem zc3.imp:zc3.Imp (AC P) N:=fun a b c d e h Q hR=>eF mixed (fn:=Try.f83) (fun hC=>zc3.L hC (dn Q) (zdi [a,b,c,d,e]) h hR)
end Go.Ab.S12
namespace Go.Ab
variable {C:CSem} {N:zN}
section
variable {h h':za} {x:AVal} {b:List UInt8}
end
abbrev AllAt (h:za) (l:List Ob):Prop:= ∀ o∈l,o.at h
structure DK (T Ad:Type) where
 n:Nat
 bytes:Nat
 z:List AVal
 pos:0<n
 small:bytes <= 1000
 zlen:z.length=n
 cells:T->Ad->List AVal
 len: ∀ t a,(cells t a).length=n
 at_:za->T->Ad->Prop
 mono: ∀ {h h':za} {t:T} {a:Ad},h.le h'->at_ h t a->at_ h' t a
 ok:T->Prop
 at_ok: ∀ {h:za} {t:T} {a:Ad},at_ h t a->ok t
 obs:Bool->T->Ad->List Ob
 ofObs: ∀ {b:Bool} {h:za} {t:T} {a:Ad},ok t->AllAt h (obs b t a)->at_ h t a
section
variable {T Ad:Type} (K:DK T Ad)
abbrev DK.cs (p:T×Ad):List AVal:=K.cells p.1 p.2
def DK.os (b:Bool) (P:List (T×Ad)):List Ob:=P.flatMap fun p=>K.obs b p.1 p.2
def Dl (h:za) (x:AVal) (L:List T):Prop:= ∃ (P:List (T×Ad)) (R:List (List AVal)),P.map (·.1)=L /\ SlX h K.n x (P.map K.cs) R /\ ∀ p∈P,K.at_ h p.1 p.2
structure DEl (h:za) (x:AVal) (i:Nat) (t:T) (a:Ad):Prop where
 idx:V.idxS K.n x (.int .i64 (i:Int))=some (elp K.n x i 0)
 ldn:A.ldnv h (elp K.n x i 0) K.n=some (.agg (K.cells t a))
 fld: ∀ f o,V.fieldAddr o (elp K.n x i f)=some (elp K.n x i (f+o))
 ld: ∀ f,f<K.n->A.ldv h (elp K.n x i f)=(K.cells t a)[f]?
 at_:K.at_ h t a
variable {K} {h h' h0:za} {x:AVal} {L M:List T}
theorem slX_el {h:za} {x:AVal} {P:List (T×Ad)} {R:List (List AVal)} (s:SlX h K.n x (P.map K.cs) R) (ha: ∀ p∈P,K.at_ h p.1 p.2) {i:Nat} {p:T×Ad} (hi:P[i]? =some p):DEl K h x i p.1 p.2:=by
 have hc:(P.map K.cs)[i]? =some (K.cells p.1 p.2):=by rw [List.getElem?_map,hi];rfl
 have hl:i<(P.map K.cs).length:=(List.getElem?_eq_some_iff.1 hc).1
 exact ⟨s.idxN hl,s.elem hc,fun f o=>s.zqc hl f o,fun f hf=>s.ldv hc hf,ha p (List.mem_of_getElem? hi)⟩
theorem Dl.get (hd:Dl K h x L) {i:Nat} {t:T} (hi:L[i]? =some t): ∃ a,DEl K h x i t a:=by
 obtain ⟨P,R,rfl,s,ha⟩:=hd
 rw [List.getElem?_map] at hi
 obtain ⟨p,hp,rfl⟩:=Option.map_eq_some_iff.1 hi
 exact ⟨p.2,slX_el s ha hp⟩
theorem Dl.mono (hd:Dl K h x L) (hle:h.le h'):Dl K h' x L:=by
 obtain ⟨P,R,e,s,ha⟩:=hd
 exact ⟨P,R,e,s.mono hle,fun p hp=>K.mono hle (ha p hp)⟩
theorem Dl.zcw (hd:Dl K h x L):V.zcw x=some (.int .i64 L.length):=by
 obtain ⟨P,R,rfl,s,ha⟩:=hd
 simpa using s.zcw
theorem Dl.zdd (hd:Dl K h x L):x.zdd=true:=by
 obtain ⟨P,R,rfl,s,ha⟩:=hd
 exact s.zdd
theorem Dl.ok (hd:Dl K h x L): ∀ t∈L,K.ok t:=by
 obtain ⟨P,R,rfl,s,ha⟩:=hd
 intro t ht
 obtain ⟨p,hp,rfl⟩:=List.mem_map.1 ht
 exact K.at_ok (ha p hp)
theorem dl_of {P:List (T×Ad)} {R:List (List AVal)} {b:Bool} {l:List Ob} (hok: ∀ p∈P,K.ok p.1) (hl:AllAt h l) (h1: .sl K.n x (P.map K.cs) R∈l) (h2: ∀ o∈K.os b P,o∈l):Dl K h x (P.map (·.1)):=
 ⟨P,R,rfl,hl _ h1,fun p hp=>K.ofObs (hok p hp) fun o ho=>hl o (h2 o (List.mem_flatMap.2 ⟨p,hp,ho⟩))⟩
theorem DK.zpq (b:Bool) (P P':List (T×Ad)):K.os b (P++P')=K.os b P++K.os b P':=List.flatMap_append
theorem DK.os_one (b:Bool) (p:T×Ad):K.os b [p]=K.obs b p.1 p.2:=by simp [DK.os]
abbrev Df (K:DK T Ad) (h0 h:za) (x:AVal) (P:List (T×Ad)):Prop:=Owns h0 h (.sl K.n x (P.map K.cs) []::K.os false P)
theorem Df.dl {P:List (T×Ad)} (hd:Df K h0 h x P) (hok: ∀ p∈P,K.ok p.1):Dl K h x (P.map (·.1)):=dl_of (b:=false) hok hd.is (List.mem_cons_self ..) fun o ho=>List.mem_cons_of_mem _ ho
def OneE (K:DK T Ad) (b:Bool) (C:CSem) (f:Nat):Prop:= ∀ (t:T) (a:Ad) (h:za) (Q:zQ),K.at_ h t a->(∀ a' h',Owns h h' (K.obs b t a')->Q (.agg (K.cells t a')) h')->C f [.agg (K.cells t a)] h Q
theorem fill_agg (K:DK T Ad) (t:T) (a:Ad):zei [(0,some K.n,.agg (K.cells t a))] (repL 1 K.z)=some (K.cells t a):=by
 have hrep:repL 1 K.z=K.z:=by unfold repL;split<;>simp_all
 have h1:=K.len t a
 rw [hrep]
 simp [h1,K.zlen]
theorem setN_whole (K:DK T Ad) (t:T) (a:Ad):V.setN 0 K.n (.agg (K.cells t a)) (.agg K.z)=some (.agg (K.cells t a)):=by
 simp [K.len t a,K.zlen]
theorem fieldN_whole (K:DK T Ad) (t:T) (a:Ad):V.zfg 0 K.n (.agg (K.cells t a))=some (.agg (K.cells t a)):=by
 have:=K.len t a
 simp [this]
 rw [<- this,List.take_length]
@[simp] def copyD.k1 (C:CSem) (n bytes f:Nat) (z:List AVal) (Q:zQ) (Y1:zL) (v0 v3 v4:AVal) (h:za):Prop:=
 B.pv (V.zcw v0) fun v8=>
  B.pv (V.bin .lss v4 v8) fun v9=>
  B.cond v9
  (B.pv (V.idxS n v0 v4) fun v14=>
  B.ldn h v14 n fun v15=>
  B.call C f [v15] h fun v16 h=>
  B.pv (V.setN 0 n v16 (.agg z)) fun c5=>
  B.pv (V.zfg 0 n c5) fun v18=>
  B.newO h (zei [(0,some n,v18)] (repL 1 z)) fun i19 h=>
  B.appW h n bytes v3 (.sl i19 0 0 1 n 1) fun v20 h=>
  B.pv (V.bin .add v4 (.int .i64 1)) fun v11=>
  Y1 [v20,v11] h)
  (Q v3 h)
@[simp] def copyD.l2 (C:CSem) (n bytes f:Nat) (z:List AVal) (Q:zQ) (v0:AVal):zG
 | [v3,v4],h,Y1=>copyD.k1 C n bytes f z Q Y1 v0 v3 v4 h
 | _,_,_=>False
def copyD (C:CSem) (n bytes f:Nat) (z:List AVal) (v0:AVal) (h:za) (Q:zQ):Prop:=
 zw (copyD.l2 C n bytes f z Q v0) [.nils,(.int .i64 0)] h
theorem copyD_spec {f:Nat} (sc:OneE K false C f) {Q:zQ} (hx:Dl K h x L) (hlen:L.length <= 100000000) (hq: ∀ x' (P:List (T×Ad)) h',P.map (·.1)=L->Df K h h' x' P->Q x' h'):copyD C K.n K.bytes f K.z x h Q:=by
 have hmul: ∀ n:Nat,n <= 100000100->n*K.bytes <= 140737488355328:=fun n hn=>by
  have:=Nat.mul_le_mul hn K.small
  omega
 have hlx:=hx.zcw
 refine zw.intro (fun n vs hh=> ∃ (k:Nat) (y:AVal) (P:List (T×Ad)),k+n=L.length /\ vs=[y,.int .i64 k] /\ P.map (·.1)=L.take k /\ Df K h hh y P) L.length ?_ ⟨0,.nils,[],by simp,by simp,by simp,by simpa [Df,DK.os] using (Owns.start h).nils K.n⟩
 rintro Y n vs hh ⟨k,y3,P,hn,rfl,hP,ho3⟩ hY
 have hPl:P.length=k:=by have:=congrArg List.length hP;simp at this;omega
 simp -dsimp [hlx]
 refine B.zr (fun hc=> ?_) (fun hc=> ?_)<;>simp -dsimp at hc ⊢
 ·obtain ⟨w,hw⟩:=ze0 hc
  obtain ⟨a,ea⟩:=(hx.mono ho3.le).get hw
  simp -dsimp only [ea.idx,ea.ldn,B.zd,B.ldn_eq]
  refine sc _ _ _ _ ea.at_ fun a' h4 o4=> ?_
  simp -dsimp only [setN_whole K _ a',fieldN_whole K _ a',fill_agg K _ a',B.zd]
  refine (ho3.join o4).push 0 rfl (K.len _ a') K.pos (by simp;exact hmul _ (by omega)) (by simp [maxLen];omega) fun y5 h5 o5 _=> ?_
  simp -dsimp [inc64 (n:=k) (by omega)]
  refine hY (L.length-(k+1)) _ _ (by omega) ⟨k+1,y5,P++[(w,a')],by omega,by simp,?_,?_⟩
  ·rw [take_succ hw,List.map_append,hP];rfl
  ·unfold Df
   rw [DK.zpq,DK.os_one,List.map_append]
   simpa using o5
 ·have hk:k=L.length:=by omega
  rw [hk,List.take_length] at hP
  exact hq y3 P hh hP ho3
end
end Go.Ab
set_option maxRecDepth 100000
namespace Go.Ab
variable {C:CSem} {N:zN}
@[irreducible] def mark (k i:Int):Int:=IntKind.i64.wrap (IntKind.i64.wrap (1000003*IntKind.i64.wrap (k+7))+i)
def markPart (k i:Int):Part:=⟨[],mark k i⟩
abbrev zp1:List (List AVal):=marks partF (markPart 1) 12
def zd4.Spec (C:CSem) (N:zN):Prop:= ∀ (x:AVal) (L:List Part) (R:List (List AVal)) (h:za) (Q:zQ),SlX h 2 x (L.map Part.cs) R->L.length <= 100000000 ->
 (∀ x' h',Owns h h' [.sl 2 x' (L.map Part.cs) []]->Q x' h')->C (N 368) [x] h Q
theorem zd4.spec (i:zd4.Imp C N):zd4.Spec C N:=fun x L R h Q hx hlen hq=>
 i x h Q (copy_spec (by omega) (by omega) hx (by simpa using hlen) fun x' h' ho=>zbu (hq x' h' ho))
@[irreducible] def markText (k i:Int):List UInt8:=[35,byt k,byt (k.fdiv 256),byt (k.fdiv 65536),47,byt i,byt (i.fdiv 256),byt (i.fdiv 65536)]
abbrev zp0:List (List AVal):=cmarks tS (markText 1) 12
def zdn.Spec (C:CSem) (N:zN):Prop:= ∀ (x y:AVal) (L M:List (List UInt8)) (R S:List (List AVal)) (h:za) (Q:zQ),SlX h 1 x (L.map tc) R->SlX h 1 y (M.map tc) S->L.length<4611686018427387904 ->
 Q (.bool (decide (L=M))) h->C (N 133) [x,y] h Q
theorem zdn.spec (i:zdn.Imp C N):zdn.Spec C N:=fun x y L M R S h Q hx hy hlen hq=>
 i x y h Q (sameS_spec tS hx hy hlen (zbu hq))
def zd3.Spec (C:CSem) (N:zN):Prop:= ∀ (x:AVal) (L:List (List UInt8)) (R:List (List AVal)) (h:za) (Q:zQ),SlX h 1 x (L.map tc) R->L.length <= 100000000 ->
 (∀ x' h',Owns h h' [.sl 1 x' (L.map tc) []]->Q x' h')->C (N 369) [x] h Q
theorem zd3.spec (i:zd3.Imp C N):zd3.Spec C N:=fun x L R h Q hx hlen hq=>
 i x h Q (copy_spec (by omega) (by omega) hx (by simpa using hlen) fun x' h' ho=>zbu (hq x' h' ho))
end Go.Ab
namespace Go.Ab
variable {C:CSem} {N:zN}
structure Itm where
 Code:List UInt8
 Life:Int
 zeg:List Part
 zd2:List (List UInt8)
 deriving DecidableEq
def few:Nat:=100000000
abbrev Itm.ok (t:Itm):Prop:=t.zeg.length <= few /\ t.zd2.length <= few
def partsOb (b:Bool) (x:AVal) (l:List Part):Ob:= .sl 2 x (l.map Part.cs) (bif b then zp1 else [])
def textsOb (b:Bool) (x:AVal) (l:List (List UInt8)):Ob:= .sl 1 x (l.map tc) (bif b then zp0 else [])
def ze5:DK Itm (AVal×AVal) where
 n:=4
 bytes:=72
 z:=[.str [],.int .i64 0,.nils,.nils]
 pos:=by omega
 small:=by omega
 zlen:=rfl
 cells t a:=[.str t.Code,.int .i64 t.Life,a.1,a.2]
 len _ _:=rfl
 at_ h t a:=(∃ R,SlX h 2 a.1 (t.zeg.map Part.cs) R) /\ (∃ R,SlX h 1 a.2 (t.zd2.map tc) R) /\ t.ok
 mono hle ha:=⟨ha.1.imp fun _ r=>r.mono hle,ha.2.1.imp fun _ r=>r.mono hle,ha.2.2⟩
 ok:=Itm.ok
 at_ok ha:=ha.2.2
 obs b t a:=[partsOb b a.1 t.zeg,textsOb b a.2 t.zd2]
 ofObs {b h t a} hk ha:=⟨⟨_,show SlX h 2 a.1 (t.zeg.map Part.cs) (bif b then zp1 else []) from ha (partsOb b a.1 t.zeg) (by simp)⟩,⟨_,show SlX h 1 a.2 (t.zd2.map tc) (bif b then zp0 else []) from ha (textsOb b a.2 t.zd2) (by simp)⟩,hk⟩
abbrev iCells (t:Itm) (a:AVal×AVal):List AVal:=[.str t.Code,.int .i64 t.Life,a.1,a.2]
def zd5.Spec (C:CSem) (N:zN):Prop:=OneE ze5 false C (N 361)
theorem zd5.spec (i:zd5.Imp C N) (s1:zd4.Spec C N) (s2:zd3.Spec C N):zd5.Spec C N:=by
 intro t a h Q ha hq
 obtain ⟨⟨R1,a1⟩,⟨R2,a2⟩,a3,a4⟩:(∃ R,SlX h 2 a.1 (t.zeg.map Part.cs) R) /\ (∃ R,SlX h 1 a.2 (t.zd2.map tc) R) /\ t.ok:=ha
 apply i
 simp -dsimp [ze5]
 refine s1 _ _ _ _ _ a1 a3 fun x1 h1 o1=> ?_
 have c1:=(o1.slAt 0 rfl).zdd
 simp -dsimp [c1]
 refine s2 _ _ _ _ _ (a2.mono o1.le) a4 fun x2 h2 o2=> ?_
 have c2:=(o2.slAt 0 rfl).zdd
 simp -dsimp [c2]
 exact zbu (hq (x1,x2) h2 (o1.join o2))
def zc8.Spec (C:CSem) (N:zN):Prop:= ∀ (x:AVal) (L:List Itm) (h:za) (Q:zQ),Dl ze5 h x L->L.length <= 100000000 ->
 (∀ x' P h',P.map (·.1)=L->Df ze5 h h' x' P->Q x' h')->C (N 354) [x] h Q
theorem zc8.spec (i:zc8.Imp C N) (s1:zd5.Spec C N):zc8.Spec C N:=fun x L h Q hx hl hq=>
 i x h Q (copyD_spec (K:=ze5) s1 hx hl fun x' P h' e o=>zbu (hq x' P h' e o))
end Go.Ab
namespace Go.Ab
abbrev zfu:List UInt8->List UInt8->Bool:=Op.bytesLess
theorem lessB_nil (a:List UInt8):zfu a []=false:=by cases a<;>rfl
theorem zm2 (a b:UInt8) (as1 bs:List UInt8):zfu (a::as1) (b::bs)=(decide (a<b)||(a==b&&zfu as1 bs)):=rfl
theorem u8_tri (a b:UInt8):a<b \/ a=b \/ b<a:=by
 simp only [UInt8.lt_iff_toNat_lt, <- UInt8.toNat_inj];omega
theorem zhq: ∀ a:List UInt8,zfu a a=false
 | []=>rfl
 | a::as1=>by rw [zm2,zhq as1];simp
theorem zic: ∀ {a b c:List UInt8},zfu a b=true->zfu b c=true->zfu a c=true
 | _,[],_,h,_=>by rw [lessB_nil] at h;cases h
 | _,_::_,[],_,h=>by rw [lessB_nil] at h;cases h
 | [],_::_,_::_,_,_=>rfl
 | a::as1,b::bs,c::cs,h1,h2=>by
  rw [zm2] at h1 h2 ⊢
  simp only [Bool.or_eq_true,decide_eq_true_eq,Bool.and_eq_true,beq_iff_eq] at h1 h2 ⊢
  rcases h1 with h1|⟨rfl,h1⟩
  ·rcases h2 with h2|⟨rfl,h2⟩
   ·left;simp only [UInt8.lt_iff_toNat_lt] at *;omega
   ·exact .inl h1
  ·rcases h2 with h2|⟨rfl,h2⟩
   ·exact .inl h2
   ·exact .inr ⟨rfl,zic h1 h2⟩
theorem zkj: ∀ {a b:List UInt8},zfu a b=false->zfu b a=false->a=b
 | [],[],_,_=>rfl
 | [],_::_,h,_=>by cases h
 | _::_,[],_,h=>by cases h
 | a::as1,b::bs,h1,h2=>by
  rw [zm2] at h1 h2
  simp only [Bool.or_eq_false_iff,decide_eq_false_iff_not,Bool.and_eq_false_iff,beq_eq_false_iff_ne] at h1 h2
  obtain rfl:a=b:=by rcases u8_tri a b with h|h|h<;>simp_all
  rw [zkj (h1.2.resolve_left fun h=>h rfl) (h2.2.resolve_left fun h=>h rfl)]
theorem zle {a b:List UInt8} (h:zfu a b=true):zfu b a=false:=by
 cases e:zfu b a with
 | false=>rfl
 | true=>have:=zic h e;rw [zhq] at this;cases this
theorem zow {a b:List UInt8} (h:zfu a b=true):a≠b:=fun e=>by subst e;rw [zhq] at h;cases h
theorem zjo {a b:List UInt8} (h:zfu a b=false) (hne:a≠b):zfu b a=true:=by
 cases e:zfu b a with
 | true=>rfl
 | false=>exact absurd (zkj h e) hne
abbrev cmpB:=Lib.compareBytes
theorem znf: ∀ a b:List UInt8,cmpB a b=if zfu a b then -1 else if zfu b a then 1 else 0
 | [],[]=>rfl
 | [],_::_=>rfl
 | _::_,[]=>rfl
 | a::as1,b::bs=>by
  have ih:=znf as1 bs
  show (if a<b then -1 else if b<a then 1 else cmpB as1 bs)=_
  rw [ih,zm2,zm2]
  rcases u8_tri a b with h|rfl|h
  ·simp [h]
  ·have hi: ¬ a<a:=by simp only [UInt8.lt_iff_toNat_lt];omega
   simp
  ·have h1: ¬ a<b:=by simp only [UInt8.lt_iff_toNat_lt] at *;omega
   have h2:a≠b:=fun e=>by subst e;exact h1 h
   have h3:(a==b)=false:=by simp [h2]
   simp [h,h1,h3]
theorem zng {a b:List UInt8}:cmpB a b<0↔zfu a b=true:=by
 rw [znf];split
 ·simp [*]
 ·split<;>simp [*]
theorem cmpB_zero {a b:List UInt8}:cmpB a b=0↔a=b:=by
 rw [znf];split
 ·rename_i h;simp [zow h]
 ·split
  ·rename_i h;simp [(zow h).symm]
  ·rename_i h1 h2;simp [zkj (by simpa using h1) (by simpa using h2)]
theorem rise_ext {T:Type} {lt:T->T->Prop} (asym: ∀ a b,lt a b->lt b a->False) {l m:List T} (s:l.Pairwise lt) (t:m.Pairwise lt) (e: ∀ x,x∈l↔x∈m):l=m:=by
 have nd: ∀ {l:List T},l.Pairwise lt->l.Nodup:=fun h=>h.imp fun {a b} hab e=>by subst e;exact asym a a hab hab
 exact List.Perm.eq_of_pairwise (le:=lt) (fun a b _ _ h1 h2=>(asym a b h1 h2).elim) s t ((List.perm_ext_iff_of_nodup (nd s) (nd t)).2 e)
end Go.Ab
namespace Go.Ab
variable {C:CSem} {N:zN}
theorem SlX.sliceIn {T:Type} {h:za} {es:Nat} {x:AVal} {f:T->List AVal} {L:List T} {R:List (List AVal)} (hs:SlX h es x (L.map f) R) (hes:0<es) {lo hi:Nat} {a b:Option AVal} (ha:a=none /\ lo=0 \/ ∃ k,a=some (.int k lo)) (hb:b=none /\ hi=L.length \/ ∃ k,b=some (.int k hi)) (h1:lo <= hi) (h2:hi <= L.length):
  ∃ x' R',V.zh2 es x a b=some x' /\ SlX h es x' (((L.take hi).drop lo).map f) R' /\ foot x'=foot x:=by
 obtain ⟨x',e1,e2,e3⟩:=hs.slice hes ha (by simpa using hb) h1 (by simp;omega)
 refine ⟨x',(L.map f++R).drop hi,e1,?_,e3⟩
 rwa [List.take_append_of_le_length (by simpa using h2), <- List.map_take, <- List.map_drop] at e2
end Go.Ab
namespace Go.Ab
theorem flat_take {α:Type} {n:Nat}: ∀ {css:List (List α)},(∀ cs∈css,cs.length=n)-> ∀ k:Nat,(css.take k).flatten=css.flatten.take (k*n)
 | [],_,k=>by simp
 | c::css,hl,0=>by simp
 | c::css,hl,k+1=>by
  have hc:c.length=n:=hl c (by simp)
  rw [List.take_succ_cons,List.flatten_cons,List.flatten_cons,flat_take (fun p hp=>hl p (by simp [hp])) k,Nat.add_mul,Nat.one_mul,show k*n+n=c.length+k*n by omega,List.take_length_add_append]
theorem flat_drop {α:Type} {n:Nat}: ∀ {css:List (List α)},(∀ cs∈css,cs.length=n)-> ∀ k:Nat,(css.drop k).flatten=css.flatten.drop (k*n)
 | [],_,k=>by simp
 | c::css,hl,0=>by simp
 | c::css,hl,k+1=>by
  have hc:c.length=n:=hl c (by simp)
  rw [List.drop_succ_cons,List.flatten_cons,flat_drop (fun p hp=>hl p (by simp [hp])) k,Nat.add_mul,Nat.one_mul,show k*n+n=c.length+k*n by omega,List.drop_length_add_append]
theorem lay_read {cells Z F:List AVal} {off lo T:Nat} (h5:(cells.drop off).take T=F) (hF:F.length=T) (hh:off+T <= cells.length) (hz:lo+Z.length <= T):
  ((cells.take (off+lo)++Z++cells.drop (off+lo+Z.length)).drop off).take T=F.take lo++Z++F.drop (lo+Z.length):=by
 subst h5
 apply List.ext_getElem?
 intro k
 by_cases hk:k<T
 ·rw [List.getElem?_take_of_lt hk,List.getElem?_drop,List.append_assoc,List.append_assoc]
  have l1:(cells.take (off+lo)).length=off+lo:=by simp;omega
  have l2:(((cells.drop off).take T).take lo).length=lo:=by simp;omega
  rw [zli _ _ _ l1,zli _ _ _ l2,show off+k-(off+lo)=k-lo by omega]
  by_cases k1:k<lo
  ·rw [if_pos (by omega),if_pos k1,List.getElem?_take_of_lt (by omega),List.getElem?_take_of_lt (by omega),List.getElem?_take_of_lt (by omega),List.getElem?_drop]
  ·rw [if_neg (by omega),if_neg k1]
   split
   ·rfl
   ·rw [List.getElem?_drop,List.getElem?_drop,List.getElem?_take_of_lt (by omega),List.getElem?_drop]
    congr 1
    omega
 ·rw [List.getElem?_take_eq_none (by omega),List.getElem?_eq_none]
  simp
  omega
section
variable {h h0:za} {es:Nat} {x:AVal} {L R:List (List AVal)} {l:List Ob}
theorem SlX.clrTail {lo:Nat} {z:List AVal} {K:zQ} (ho:SlX h es x L R) (hown: ∀ id b,foot x=some id->h id=some b->b.own=true) (hz:z.length=es) (hlo:lo <= L.length)
  (hk: ∀ h',SlX h' es x (L.take lo++List.replicate (L.length-lo) z) R->(∀ id b,foot x=some id->h' id=some b->b.own=true)->But x h h'->K (.tup []) h'):
  ∃ y,V.zh2 es x (some (.int .i64 (lo:Int))) none=some y /\ A.clr h (some z) y K:=by
 rcases ho.at_ with ⟨e,e',e''⟩|⟨id,g,off,cp,b,hi,h1,h1',h2,h3,h4,hh,h5⟩
 ·subst e e'
  have:lo=0:=by simpa using hlo
  subst this
  refine ⟨x,?_,?_⟩
  ·rcases e'' with rfl|rfl<;>rfl
  ·have:=hk h (by simpa using ho) hown (fun _ _ h _=>h)
   rcases e'' with rfl|rfl<;>exact this
 ·subst h1
  refine ⟨.sl id g (off+lo*es) (L.length-lo) es (max L.length cp-lo),?_,?_⟩
  ·simp only [V.zh2,endsC_eq (.inr ⟨_,rfl⟩) (.inl ⟨rfl,rfl⟩)]
   rw [if_pos ⟨hlo,by omega⟩]
   simp
  ·simp only [A.clr]
   split
   ·rename_i h0
    refine hk h ?_ hown (fun _ _ h _=>h)
    rw [h0,List.take_of_length_le (by omega)]
    simpa using ho
   ·rename_i hne
    have hown':=hown id b rfl h2
    generalize hZ:(List.replicate (L.length-lo) z).flatten=Z
    have hzl:Z.length=(L.length-lo)*es:=by rw [<- hZ];simp [hz]
    have hTl:(L++R).length=L.length+R.length:=by simp
    have hmul:lo*es+(L.length-lo)*es=L.length*es:=by rw [<- Nat.add_mul];congr 1;omega
    have hmul2:L.length*es+R.length*es=(L.length+R.length)*es:=by rw [<- Nat.add_mul]
    have hbl:Nat.ble (0+(off+lo*es)+(L.length-lo)*es) hi=true:=by rw [Nat.ble_eq];omega
    have hput:V.putN (off+lo*es) ((L.length-lo)*es) (.agg Z) b.cells=some (b.cells.take (off+lo*es)++Z++b.cells.drop (off+lo*es+(L.length-lo)*es)):=by
     simp only [V.putN];rw [if_pos ⟨hzl,by omega⟩]
    simp only [A.stv,h2,h3,hown',hbl,Bool.true_and,cond_true,hput,A.ph]
    have rd:=lay_read (cells:=b.cells) (Z:=Z) (off:=off) (lo:=lo*es) h5 (by rw [zlk ho.len,hTl]) (by omega) (by rw [hzl];omega)
    have hnew:(L.take lo++List.replicate (L.length-lo) z++R).flatten=(L++R).flatten.take (lo*es)++Z++(L++R).flatten.drop (lo*es+Z.length):=by
     rw [List.flatten_append,List.flatten_append,hZ,hzl,hmul, <- flat_take ho.len, <- flat_drop ho.len,List.take_append_of_le_length hlo,List.drop_left]
    rw [<- hnew,hzl] at rd
    have hll:(L.take lo++List.replicate (L.length-lo) z).length=L.length:=by simp;omega
    have hlen': ∀ p∈L.take lo++List.replicate (L.length-lo) z++R,p.length=es:=fun p hp=>by
     rcases List.mem_append.1 hp with hp|hp
     ·rcases List.mem_append.1 hp with hp|hp
      ·exact ho.len p (List.mem_append_left _ (List.mem_of_mem_take hp))
      ·rw [(List.mem_replicate.1 hp).2];exact hz
     ·exact ho.len p (List.mem_append_right _ hp)
    refine hk _ ⟨hlen',.inr ⟨id,g,off,cp,_,hi,by rw [hll],by rw [hll];exact h1',zca ..,zib ..,by rw [hll];exact h4,?_,by simp only;rw [hll];exact rd⟩⟩ (fun j b1 hj hb1=> ?_) (fun j b1 e1 e2=> ?_)
    ·simp;omega
    ·cases hj
     rw [zca] at hb1;cases hb1;rfl
    ·rw [z6]
     ·exact e1
     ·intro e;subst e;exact e2 rfl
theorem Owns.clrTail {lo:Nat} {z:List AVal} {K:zQ} (ho:Owns h0 h l) (k:Nat) (hk:l[k]? =some (.sl es x L R)) (hz:z.length=es) (hlo:lo <= L.length)
  (hK: ∀ h',Owns h0 h' (l.set k (.sl es x (L.take lo++List.replicate (L.length-lo) z) R))->But x h h'->K (.tup []) h'):
  ∃ y,V.zh2 es x (some (.int .i64 (lo:Int))) none=some y /\ A.clr h (some z) y K:=
 (ho.slAt k hk).clrTail (ho.ownAt k hk) hz hlo fun h' h1 h2 h3=>hK h' (ho.turn k hk h1 h2 h3 (.inl rfl)) h3
end
end Go.Ab
