/- What is proved: a part of the way to the statement: AcJ. No conditions. -/
import Derived.Test.YtneeejngeoaaoaaQ3
import Derived.Test.YtneeejngeoaaoaaQ5
import Derived.KernelRfl
import Derived.Test.YtneeejngeoaaoaaQ2
import Derived.Test.YtneeejngeoaaoaaRows
set_option linter.unusedVariables false
set_option linter.unusedSimpArgs false
set_option maxRecDepth 100000
namespace Go.Ab
open List
theorem arg_slice{T:Type}{H:zb}{bytes es:Nat}{e:Ty}{v:za}(cs:T->List za)(hd:∀p,zii H e p->∃t,p=cs t)(h:zii H (.sl bytes es e) [v]):
  ∃L:List T,SlIs H es v (L.map cs) /\ L.length*bytes <= reach:=by
 rcases h with h|h|⟨id,parts,h1,h2,h3,h4⟩
 ·cases h;exact⟨[],SlX.zeg H es,by simp⟩
 ·cases h;exact⟨[],SlX.sz H es,by simp⟩
 ·cases h1
  have:∃L:List T,parts=L.map cs:=by
   clear h2 h3
   induction parts with
   | nil=>exact⟨[],rfl⟩
   | cons p r ih=>
    obtain⟨L,rfl⟩:=ih λq hq=>h4 q (by simp[hq]);obtain⟨t,rfl⟩:=hd p (h4 p (by simp)).1;exact⟨t::L,rfl⟩
  obtain⟨L,rfl⟩:=this;have hl:∀p∈L.map cs++[],p.length=es:=λp hp=>(h4 p (by simpa using hp)).2;have hfl:(L.map cs).flatten.length=L.length*es:=by
   have:=zn1 (css:=L.map cs) (n:=es) λp hp=>(h4 p hp).2;simpa using this
  refine⟨L,⟨hl,.inr ⟨id,0,0,(L.map cs).length,roOf (L.map cs).flatten,(L.map cs).flatten.length,rfl,by simp,h2,zi5 ..,?_,Nat.le_refl _,?_⟩⟩,by simpa using h3⟩
  ·rw[hfl];simp
  ·simp only[roOf,drop_zero,append_nil,length_nil,Nat.add_zero,length_map]
   rw[<-hfl,take_length]
variable{C:z5}{N:zN}
structure zbb where
 es:Nat
 bytes:Nat
 z:List za
 f:Nat
 kp:Option Nat
 ld:zb->za->(za->Prop)->Prop
 st:zb->za->za->(zb->Prop)->Prop
 eq:zb->za->za->(zQ)->Prop
section
variable(E:zbb)
def zdf(bytes:Nat)(z:za)(f:Nat):zbb where
 es:=1;bytes:=bytes;z:=[z];f:=f;kp:=none
 ld:=λh p K=>B.ld h p K
 st:=λh p v K=>B.st h p v K
 eq:=λh a b K=>B.pv (V.bin .eql a b) λv=>K v h
end
variable{C:z5}{N:zN}
def aoff:za->Nat | .sl _ _ off _ _ _=>off|_=>0
structure Old(h:zb)(es:Nat)(x:za)(L:List (List za))(y:za)(M:List (List za)):Prop where
 at_:SlX h es x L []
 ft:zht x=none \/ (zht x=zht y /\ aoff x=aoff y)
 len:L.length <= M.length
section
variable{h H h0:zb}{es:Nat}{x:za}{L R:List (List za)}
end
section
variable{h0 h h':zb}{l:List Ob}
end
def Kp(h:zb)(p:za)(o:Option Nat):Prop:=match o with|none=>∃x,A.ldv h p=some x|some n=>∃x,A.zl2 h p n=some x
section
variable{es n k:Nat}{xs:Nat->za}{D R:Nat->List (List za)}
end
variable{C:z5}{N:zN}
section
variable{m:Int->Int->List za}{k n i:Nat}
end
section
variable{h:zb}{x:za}{n k:Nat}{xs:Nat->za}{W:List (List za)}(hx:SlX h 1 x (zrq n λj=>[xs j]) W)
include hx
end
section
variable{E:zbb}{m:Int->Int->List za}{v:Int->Int->za}{h0 h h':zb}{x v5:za}{n k:Nat}{xs ys gs:Nat->za}{len:Nat->Nat}{F:Nat->List (List za)}{W:List (List za)}{Q:zQ}
end
variable{C:z5}{N:zN}
structure Scal(T:Type)[DecidableEq T] where
 c:T->za
 cell:∀t,(c t).zec=true
 eql:∀a b,V.bin .eql (c a) (c b)=some (.bool (decide (a=b)))
 neq:∀a b,V.bin .neq (c a) (c b)=some (.bool (!decide (a=b)))
theorem SlX.cell{h:zb}{x c:za}{L R:List (List za)}{i:Nat}(hs:SlX h 1 x L R)(hc:L[i]?=some [c]):A.ldv h (elp 1 x i 0)=some c:=by
 rw[hs.ldv hc (by omega)];rfl
section
variable{T:Type}[DecidableEq T](F:Scal T)
abbrev Scal.cs(t:T):List za:=[F.c t]
@[simp] def znk.k2(Q:zQ)(Y1:zL)(v0 v1 v5:za)(h:zb):Prop:=B.pv (V.zde v0) λv13=>B.pv (V.bin .lss v5 v13) λv14=>B.cond v14 (B.pv (V.zc9 1 v0 v5) λv19=>B.ld h v19 λv20=>B.pv (V.zc9 1 v1 v5) λv23=>B.ld h v23 λv24=>B.pv (V.bin .neq v20 v24) λv25=>B.cond v25 (Q (.bool false) h) (B.pv (V.bin .add v5 (.int .i64 1)) λv16=>Y1 [v16] h)) (Q (.bool true) h)
@[simp] def znk.l4(Q:zQ)(v0 v1:za):zG|[v5],h,Y1=>znk.k2 Q Y1 v0 v1 v5 h|_,_,_=>False
def znk(v0 v1:za)(h:zb)(Q:zQ):Prop:=B.pv (V.zde v0) λv7=>B.pv (V.zde v1) λv9=>B.pv (V.bin .neq v7 v9) λv10=>B.cond v10 (Q (.bool false) h) (z3 (znk.l4 Q v0 v1) [(.int .i64 0)] h)
theorem zr1{x y:za}{L M:List T}{R S:List (List za)}{h:zb}{Q:zQ}(hx:SlX h 1 x (L.map F.cs) R)(hy:SlX h 1 y (M.map F.cs) S)(hlen:L.length<4611686018427387904)
  (hq:Q (.bool (decide (L=M))) h):znk x y h Q:=by
 have hlx:=hx.zde;have hly:=hy.zde;rw[length_map]at hlx hly;simp -dsimp[znk,hlx,hly];refine B.zbd (λhb=>?_) (λhb=>?_)<;>simp -dsimp at hb ⊢
 ·rw[decide_eq_false λe=>hb (by rw[e])]at hq
  exact hq
 ·refine z3.intro (λn vs hh=>∃k,k+n=L.length /\ vs=[.int .i64 k] /\ hh=h /\ L.take k=M.take k) L.length ?_ ⟨0,by simp,by simp,rfl,by simp⟩
  rintro Y n vs _ ⟨k,hn,rfl,rfl,he⟩ hY;simp -dsimp[hlx];refine B.zbd (λhc=>?_) (λhc=>?_)<;>simp -dsimp at hc ⊢
  ·obtain⟨w,hw⟩:=zf0 hc
   obtain⟨u,hu⟩:=zf0 (L:=M) (k:=k) (by omega);have hk:k<(L.map F.cs).length:=by simpa using hc
   have hk2:k<(M.map F.cs).length:=by simp;omega
   simp only[hx.znf hk,hy.znf hk2,hx.cell (get_map hw),hy.cell (get_map hu),B.zf,B.zed,F.neq];refine B.zbd (λhd=>?_) (λhd=>?_)<;>simp -dsimp at hd ⊢
   ·rw[decide_eq_false λe=>by subst e;rw[hw]at hu;cases hu;exact hd rfl]at hq
    exact hq
   ·simp[inc64 (n:=k) (by omega)]
    refine hY (L.length-(k+1)) _ _ (by omega) ⟨k+1,by omega,by simp,rfl,?_⟩;rw[take_succ hw,take_succ hu,he,hd]
  ·rw[take_of_length_le (by omega),take_of_length_le (by omega)]at he
   rw[decide_eq_true he]at hq;exact hq
def zge(mk:Int->T)(n:Nat):List (List za):=(List.range n).map fun(i:Nat)=>F.cs (mk (i:Int))
@[simp] theorem cmarks_len(mk:Int->T)(n:Nat):(zge F mk n).length=n:=by simp[zge]
theorem cmarks_get(mk:Int->T){n k:Nat}(hk:k<n):(zge F mk n)[k]?=some (F.cs (mk k)):=by simp[zge,hk]
theorem cmarks_succ(mk:Int->T)(n:Nat):zge F mk (n+1)=zge F mk n++[F.cs (mk n)]:=by simp[zge,range_succ]
@[simp] def zpm.k2(C:z5)(bytes f:Nat)(z:za)(m:Int)(Q:zQ)(Y1:zL)(v0 v3 v4:za)(h:zb):Prop:=B.pv (V.bin .lss v4 (.int .i64 12)) λv13=>B.cond v13 (B.call C f [(.int .i64 m),v4] h λv18 h=>B.zgn h (zez [(0,none,v18)] (zh2 1 [z])) λi19 h=>B.ziz h 1 bytes v3 (.sl i19 0 0 1 1 1) λv20 h=>B.pv (V.bin .add v4 (.int .i64 1)) λv15=>Y1 [v20,v15] h) (B.pv (V.zde v0) λv23=>B.pv (V.zh6 1 v3 none (some v23)) λv24=>Q v24 h)
@[simp] def zpm.l4(C:z5)(bytes f:Nat)(z:za)(m:Int)(Q:zQ)(v0:za):zG|[v3,v4],h,Y1=>zpm.k2 C bytes f z m Q Y1 v0 v3 v4 h|_,_,_=>False
def zpm(C:z5)(bytes f:Nat)(z:za)(m:Int)(v0:za)(h:zb)(Q:zQ):Prop:=B.pv (V.zde v0) λv6=>B.pv (V.bin .add v6 (.int .i64 12)) λv7=>0<1 /\ B.mks h bytes (some [z]) (.int .i64 0) v7 λv8 h=>B.ziz h 1 bytes v8 v0 λv11 h=>z3 (zpm.l4 C bytes f z m Q v0) [v11,(.int .i64 0)] h
theorem lentS_specL{bytes f:Nat}{z:za}{m:Int}{mk:Int->T}(s1:∀(i:Int)(h:zb)(Q:zQ),Q (F.c (mk i)) h->C f [.int .i64 m,.int .i64 i] h Q)
  {x:za} {L:List T} {R:List (List za)} {h:zb} {Q:zQ} (hx:SlX h 1 x (L.map F.cs) R) (hlen:L.length <= 4611686018427387000) (hbm:(L.length+12)*bytes <= 140737488355328)
  (hq:∀x' h',zc5 h h' [.sl 1 x' (L.map F.cs) (zge F mk 12)]->Q x' h'):zpm C bytes f z m x h Q:=by
 have hlx:=hx.zde;rw[length_map]at hlx;have hmul:∀n:Nat,n <= L.length+12->n*bytes <= 140737488355328:=λn hn=>Nat.le_trans (Nat.mul_le_mul_right bytes hn) hbm;have e1:IntKind.i64.wrap ((L.length:Int)+12)=(L.length:Int)+12:=wrap_i64 (by omega) (by omega);simp -dsimp[zpm,hlx,e1];refine(zc5.start h).mks (es:=1) rfl (by omega) (by omega) ?_ (by omega) λy h1 ho=>?_
 ·have:=hmul (L.length+12) (by omega)
  have e:((L.length:Int)+12)*bytes=((L.length+12)*bytes:Nat):=by simp
  rw[e];omega
 refine ho.ziz 0 rfl (hx.mono ho.le) Nat.one_pos (by simpa using hmul L.length (by omega)) (by simp[maxLen];omega) λy2 h2 ho2 _=>?_;refine z3.intro (λn vs hh=>∃k y,k+n=12 /\ vs=[y,.int .i64 k] /\ zc5 h hh [.sl 1 y (L.map F.cs++zge F mk k) []]) 12 ?_ ⟨0,y2,by simp,by simp,by simpa[zge]using ho2⟩;rintro Y n vs hh ⟨k,y3,hn,rfl,ho3⟩ hY;simp -dsimp[hlx];refine B.zbd (λhc=>?_) (λhc=>?_)<;>simp -dsimp at hc ⊢
 ·refine s1 _ _ _ ?_
  have hfill:zez [(0,none,F.c (mk k))] (zh2 1 [z])=some (F.cs (mk k)):=by
   simp[F.cell,zh2]
  rw[hfill];refine ho3.push 0 rfl rfl Nat.one_pos (by simp;have:=hmul (L.length+k+1) (by omega);omega) (by simp[maxLen];omega) λz' h4 ho4 _=>?_;simp[inc64 (n:=k) (by omega)];refine hY (12-(k+1)) _ _ (by omega) ⟨k+1,z',by omega,by simp,?_⟩;rw[cmarks_succ,<-append_assoc];exact ho4
 ·have:k=12:=by omega
  subst this;obtain⟨x',e2,e3,e4⟩:=(ho3.zkj 0 rfl).slice Nat.one_pos (lo:=0) (hi:=L.length) (a:=none) (b:=some (.int .i64 L.length)) (.inl ⟨rfl,rfl⟩) (.inr ⟨_,rfl⟩) (by omega) (by simp);simp -dsimp[hlx,e2];refine hq _ _ (ho3.zha 0 rfl (o':= .sl 1 x' (L.map F.cs) (zge F mk 12)) ?_ (λid b hf hb=>ho3.ownAt 0 rfl id b (by show zht y3=some id;rw[<-e4];exact hf) hb) (λj b hb _=>hb) (.inl e4));have h1:((L.map F.cs++zge F mk 12++[]).take L.length).drop 0=L.map F.cs:=by simp[take_append_of_le_length]
  have h2:(L.map F.cs++zge F mk 12++[]).drop L.length=zge F mk 12:=by simp[drop_append_of_le_length]
  rw[h1,h2]at e3;exact e3
theorem lentS_spec{bytes f:Nat}{z:za}{m:Int}{mk:Int->T}(hbm:bytes <= 1000)(s1:∀(i:Int)(h:zb)(Q:zQ),Q (F.c (mk i)) h->C f [.int .i64 m,.int .i64 i] h Q)
  {x:za} {L:List T} {R:List (List za)} {h:zb} {Q:zQ} (hx:SlX h 1 x (L.map F.cs) R) (hlen:L.length <= 100000000)
  (hq:∀x' h',zc5 h h' [.sl 1 x' (L.map F.cs) (zge F mk 12)]->Q x' h'):zpm C bytes f z m x h Q:=
 lentS_specL F s1 hx (by omega) (by have:=Nat.mul_le_mul (show L.length+12 <= 100000100 by omega) hbm;omega) hq
@[simp] def zqz.k2(C:z5)(f:Nat)(m:Int)(Q:zQ)(Y1:zL)(v1 v5 v6:za)(h:zb):Prop:=B.pv (V.zde v5) λv19=>B.pv (V.bin .lss v6 v19) λv20=>B.cond v20 (B.pv (V.zde v1) λv25=>B.pv (V.bin .lss v6 v25) λv26=>B.gd h v26 true (λK=>K v5 h) λv28 h=>B.gd h v26 true (λK=>K v6 h) λv29 h=>B.gd h v26 true (λK=>B.pv (V.zc9 1 v28 v29) λv=>K v h) λv30 h=>B.gd h v26 true (λK=>B.ld h v30 λv=>K v h) λv31 h=>B.gd h v26 true (λK=>K v1 h) λv32 h=>B.gd h v26 true (λK=>K v6 h) λv33 h=>B.gd h v26 true (λK=>B.pv (V.zc9 1 v32 v33) λv=>K v h) λv34 h=>B.gd h v26 true (λK=>B.ld h v34 λv=>K v h) λv35 h=>B.gd h v26 true (λK=>B.pv (V.bin .eql v31 v35) λv=>K v h) λv36 h=>B.gd h v26 true (λK=>B.pv (V.un .not v36) λv=>K v h) λv37 h=>B.pick v26 v37 (.bool false) λv38=>B.gd h v38 false (λK=>K v6 h) λv40 h=>B.gd h v38 false (λK=>K v1 h) λv41 h=>B.gd h v38 false (λK=>B.pv (V.zde v41) λv=>K v h) λv42 h=>B.gd h v38 false (λK=>B.pv (V.bin .geq v40 v42) λv=>K v h) λv43 h=>B.gd h v38 false (λK=>K v43 h) λv44 h=>B.gd h v44 true (λK=>K v5 h) λv45 h=>B.gd h v44 true (λK=>K v6 h) λv46 h=>B.gd h v44 true (λK=>B.pv (V.zc9 1 v45 v46) λv=>K v h) λv47 h=>B.gd h v44 true (λK=>B.ld h v47 λv=>K v h) λv48 h=>B.gd h v44 true (λK=>K v6 h) λv49 h=>B.gd h v44 true (λK=>K v1 h) λv50 h=>B.gd h v44 true (λK=>B.pv (V.zde v50) λv=>K v h) λv51 h=>B.gd h v44 true (λK=>B.pv (V.bin .sub v49 v51) λv=>K v h) λv52 h=>B.gd h v44 true (λK=>B.call C f [(.int .i64 m),v52] h (B.keepS h [(v47,none)] K)) λv53 h=>B.gd h v44 true (λK=>B.pv (V.bin .eql v48 v53) λv=>K v h) λv54 h=>B.gd h v44 true (λK=>B.pv (V.un .not v54) λv=>K v h) λv55 h=>B.gd h v38 false (λK=>B.pick v44 v55 (.bool false) λv=>K v h) λv56 h=>B.pick v38 (.bool true) v56 λv57=>B.cond v57 (Q (.bool false) h) (B.pv (V.bin .add v6 (.int .i64 1)) λv22=>Y1 [v22] h)) (Q (.bool true) h)
@[simp] def zqz.l4(C:z5)(f:Nat)(m:Int)(Q:zQ)(v1 v5:za):zG|[v6],h,Y1=>zqz.k2 C f m Q Y1 v1 v5 v6 h|_,_,_=>False
def zqz(C:z5)(f:Nat)(m:Int)(v0 v1:za)(h:zb)(Q:zQ):Prop:=B.pv (V.zde v0) λv8=>B.pv (V.zde v1) λv10=>B.pv (V.bin .neq v8 v10) λv11=>B.cond v11 (Q (.bool false) h) (B.pv (V.zde v1) λv14=>B.pv (V.bin .add v14 (.int .i64 12)) λv15=>B.pv (V.zh6 1 v0 none (some v15)) λv16=>z3 (zqz.l4 C f m Q v1 v16) [(.int .i64 0)] h)
theorem keptS_specL{f:Nat}{m:Int}{mk:Int->T}(s1:∀(i:Int)(h:zb)(Q:zQ),Q (F.c (mk i)) h->C f [.int .i64 m,.int .i64 i] h Q)
  {x y:za} {L M:List T} {R:List (List za)} {h:zb} {Q:zQ} (hx:SlX h 1 x (L.map F.cs) (zge F mk 12)) (hy:SlX h 1 y (M.map F.cs) R) (hlen:L.length <= 4611686018427387000)
  (hq:Q (.bool (decide (L=M))) h):zqz C f m x y h Q:=by
 have hlx:=hx.zde;have hly:=hy.zde;rw[length_map]at hlx hly;simp -dsimp[zqz,hlx,hly];refine B.zbd (λhb=>?_) (λhb=>?_)<;>simp -dsimp at hb ⊢
 ·rw[decide_eq_false λe=>hb (by rw[e])]at hq
  exact hq
 ·have e1:IntKind.i64.wrap ((M.length:Int)+12)=((M.length+12:Nat):Int):=by rw[wrap_i64 (by omega) (by omega)];omega
  obtain⟨z,e2,e3,e4⟩:=hx.slice Nat.one_pos (lo:=0) (hi:=M.length+12) (a:=none) (b:=some (.int .i64 ((M.length+12:Nat):Int))) (.inl ⟨rfl,rfl⟩) (.inr ⟨_,rfl⟩) (by omega) (by simp;omega);have h1:((L.map F.cs++zge F mk 12).take (M.length+12)).drop 0=L.map F.cs++zge F mk 12:=by rw[drop_zero,take_of_length_le];simp;omega
  rw[h1]at e3;have hlz:=e3.zde;simp only[length_append,length_map,cmarks_len]at hlz;simp only[hly,V.zh7,e1,e2,B.zf];refine z3.intro (λn vs hh=>∃k,k+n=L.length+12 /\ vs=[.int .i64 k] /\ hh=h /\ L.take k=M.take k) (L.length+12) ?_ ⟨0,by simp,by simp,rfl,by simp⟩;rintro Y n vs _ ⟨k,hn,rfl,rfl,he⟩ hY;simp -dsimp[hlz];refine B.zbd (λhc=>?_) (λhc=>?_)<;>simp -dsimp at hc ⊢
  ·have hk:k<(L.map F.cs++zge F mk 12).length:=by simp;omega
   by_cases hkL:k<L.length
   ·have ew:=zf0 hkL
    have eu:=zf0 (L:=M) (k:=k) (by omega);obtain⟨w,hw⟩:=ew;obtain⟨u,hu⟩:=eu;have hk2:k<(M.map F.cs).length:=by simp;omega
    have hkM:k<M.length:=by omega
    have hwz:(L.map F.cs++zge F mk 12)[k]?=some (F.cs w):=by rw[getElem?_append_left (by simpa using hkL)];exact get_map hw
    by_cases hwu:w=u
    ·subst hwu
     simp -dsimp[hly,hkM,e3.znf hk,hy.znf hk2,e3.cell hwz,hy.cell (get_map hu),F.eql,show ¬ M.length <= k by omega,inc64 (n:=k) (by omega)];refine hY (L.length+12-(k+1)) _ _ (by omega) ⟨k+1,by omega,by simp,rfl,?_⟩;rw[take_succ hw,take_succ hu,he]
    ·simp -dsimp[hly,hkM,e3.znf hk,hy.znf hk2,e3.cell hwz,hy.cell (get_map hu),F.eql,hwu]
     rw[decide_eq_false λe=>by subst e;rw[hw]at hu;cases hu;exact hwu rfl]at hq;exact hq
   ·have hkM:¬ k<M.length:=by omega
    have hmk:(L.map F.cs++zge F mk 12)[k]?=some (F.cs (mk ((k-M.length:Nat):Int))):=by
     rw[getElem?_append_right (by simp;omega),length_map,show k-L.length=k-M.length by omega];exact cmarks_get F mk (by omega)
    have e5:IntKind.i64.wrap ((k:Int)-M.length)=((k-M.length:Nat):Int):=by rw[wrap_i64 (by omega) (by omega)];omega
    simp -dsimp[hly,hkM,e3.znf hk,e3.cell hmk,show M.length <= k by omega,e5];refine s1 _ _ _ ⟨?_,?_⟩
    ·intro p hp
     rw[mem_singleton.1 hp];exact⟨_,e3.cell hmk,e3.cell hmk⟩
    ·simp[F.eql,inc64 (n:=k) (by omega)]
     refine hY (L.length+12-(k+1)) _ _ (by omega) ⟨k+1,by omega,by simp,rfl,?_⟩;rw[take_of_length_le (by omega),take_of_length_le (by omega)]at he ⊢;exact he
  ·rw[take_of_length_le (by omega),take_of_length_le (by omega)]at he
   rw[decide_eq_true he]at hq;exact hq
theorem keptS_spec{f:Nat}{m:Int}{mk:Int->T}(s1:∀(i:Int)(h:zb)(Q:zQ),Q (F.c (mk i)) h->C f [.int .i64 m,.int .i64 i] h Q){x y:za}{L M:List T}{R:List (List za)}{h:zb}{Q:zQ}(hx:SlX h 1 x (L.map F.cs) (zge F mk 12))(hy:SlX h 1 y (M.map F.cs) R)(hlen:L.length <= 100000000)(hq:Q (.bool (decide (L=M))) h):zqz C f m x y h Q:=keptS_specL F s1 hx hy (by omega) hq
end
@[simp] def zqp.k1(C:z5)(es f:Nat)(st:zb->za->za->(zb->Prop)->Prop)(m:Int)(Q:zQ)(Y1:zL)(v2 v3:za)(h:zb):Prop:=B.pv (V.zde v2) λv11=>B.pv (V.bin .lss v3 v11) λv12=>B.cond v12 (B.call C f [(.int .i64 m),v3] h λv18 h=>B.pv (V.zc9 es v2 v3) λv19=>st h v19 v18 λh=>B.pv (V.bin .add v3 (.int .i64 1)) λv14=>Y1 [v14] h) (Q (.tup []) h)
@[simp] def zqp.l3(C:z5)(es f:Nat)(st:zb->za->za->(zb->Prop)->Prop)(m:Int)(Q:zQ)(v2:za):zG|[v3],h,Y1=>zqp.k1 C es f st m Q Y1 v2 v3 h|_,_,_=>False
def zqp(C:z5)(es f:Nat)(st:zb->za->za->(zb->Prop)->Prop)(m:Int)(v0:za)(h:zb)(Q:zQ):Prop:=B.pv (V.zde v0) λv6=>B.pv (V.bin .add v6 (.int .i64 12)) λv7=>B.pv (V.zh6 es v0 none (some v7)) λv8=>z3 (zqp.l3 C es f st m Q v8) [(.int .i64 0)] h
theorem overG_specL{es f:Nat}{st:zb->za->za->(zb->Prop)->Prop}{m:Int}(hes:0<es){v:Int->za}(s1:∀(i:Int)(h:zb)(Q:zQ),Q (v i) h->C f [.int .i64 m,.int .i64 i] h Q)
  (s2:∀{h0 h:zb}{x:za}{L R:List (List za)}{i:Nat}{k:Int}{K:zb->Prop},zc5 h0 h [.sl es x L R]->i<L.length->(∀h' L',L'.length=L.length->zc5 h0 h' [.sl es x L' R]->K h')->st h (elp es x i 0) (v k) K)
  {h0 h:zb} {x:za} {L R:List (List za)} {Q:zQ} (ho:zc5 h0 h [.sl es x L R]) (hR:R.length=12) (hlen:L.length <= 4611686018427387000) (hq:∀h',h0.le h'->Q (.tup []) h'):zqp C es f st m x h Q:=by
 have hx:=ho.zkj 0 rfl;have hlx:=hx.zde;have e1:IntKind.i64.wrap ((L.length:Int)+12)=((L.length+12:Nat):Int):=by rw[wrap_i64 (by omega) (by omega)];omega
 obtain⟨z,e2,e3,e4⟩:=hx.slice hes (lo:=0) (hi:=L.length+12) (a:=none) (b:=some (.int .i64 ((L.length+12:Nat):Int))) (.inl ⟨rfl,rfl⟩) (.inr ⟨_,rfl⟩) (by omega) (by omega);have h1:((L++R).take (L.length+12)).drop 0=L++R:=by rw[drop_zero,take_of_length_le];simp;omega
 rw[h1]at e3;simp only[zqp,hlx,V.zh7,e1,e2,B.zf];have hoz:zc5 h0 h [.sl es z (L++R) ((L++R).drop (L.length+12))]:=ho.zha 0 rfl (o':= .sl es z (L++R) ((L++R).drop (L.length+12))) e3 (λid b hf hb=>ho.ownAt 0 rfl id b (by show zht x=some id;rw[<-e4];exact hf) hb) (λj b hb _=>hb) (.inl e4);refine z3.intro (λn vs hh=>∃(k:Nat)(L':List (List za)),k+n=L.length+12 /\ vs=[.int .i64 k] /\ L'.length=L.length+12 /\ zc5 h0 hh [.sl es z L' ((L++R).drop (L.length+12))]) (L.length+12) ?_ ⟨0,L++R,by simp,by simp,by simp[hR],hoz⟩;rintro Y n vs hh ⟨k,L',hn,rfl,hl',ho'⟩ hY;have hlz:=(ho'.zkj 0 rfl).zde;rw[hl']at hlz;simp -dsimp[hlz];refine B.zbd (λhc=>?_) (λhc=>?_)<;>simp -dsimp at hc ⊢
 ·have hk:k<L'.length:=by omega
  refine s1 _ _ _ ?_;simp -dsimp only[(ho'.zkj 0 rfl).znf hk,B.zf];refine s2 ho' hk λh' L2 hl2 ho2=>?_;simp -dsimp[inc64 (n:=k) (by omega)];exact hY (L.length+12-(k+1)) _ _ (by omega) ⟨k+1,L2,by omega,by simp,by omega,ho2⟩
 ·exact hq _ ho'.le
theorem overG_spec{es f:Nat}{st:zb->za->za->(zb->Prop)->Prop}{m:Int}(hes:0<es){v:Int->za}(s1:∀(i:Int)(h:zb)(Q:zQ),Q (v i) h->C f [.int .i64 m,.int .i64 i] h Q)(s2:∀{h0 h:zb}{x:za}{L R:List (List za)}{i:Nat}{k:Int}{K:zb->Prop},zc5 h0 h [.sl es x L R]->i<L.length->(∀h' L',L'.length=L.length->zc5 h0 h' [.sl es x L' R]->K h')->st h (elp es x i 0) (v k) K){h0 h:zb}{x:za}{L R:List (List za)}{Q:zQ}(ho:zc5 h0 h [.sl es x L R])(hR:R.length=12)(hlen:L.length <= 100000000)(hq:∀h',h0.le h'->Q (.tup []) h'):zqp C es f st m x h Q:=overG_specL hes s1 s2 ho hR (by omega) hq
theorem over_stS{v:za}(hv:v.zec=true){h0 h:zb}{x:za}{L R:List (List za)}{i:Nat}{K:zb->Prop}(ho:zc5 h0 h [.sl 1 x L R])(hi:i<L.length)(hK:∀h' L',L'.length=L.length->zc5 h0 h' [.sl 1 x L' R]->K h'):B.st h (elp 1 x i 0) v K:=by
 refine ho.st 0 rfl (c:=L[i]) (by simp[hi]) (by omega) hv λh' ho' _=>hK h' _ (by simp) ho'
def zb.zlb(h:zb)(l:List Ob):zb:=⟨λi=>bif l.any (λo=>o.zht==some i) then none else h i,by
 obtain⟨n,k⟩:=h.2
 refine⟨n,λi hi=>?_⟩
 show (bif l.any (λo=>o.zht==some i) then none else h i)=none
 cases l.any (λo=>o.zht==some i)
 ·exact k i hi
 ·rfl⟩
theorem zrv{h:zb}{l:List Ob}{i:Nat}{o:Ob}(hm:o∈l)(hf:o.zht=some i):h.zlb l i=none:=by
 have:(l.any λo=>o.zht==some i)=true:=any_eq_true.2 ⟨o,hm,by simp[hf]⟩;show (bif l.any (λo=>o.zht==some i) then none else h i)=none;rw[this];rfl
theorem zmu{h:zb}{l:List Ob}{i:Nat}(hm:∀o∈l,o.zht≠some i):h.zlb l i=h i:=by
 have:(l.any λo=>o.zht==some i)=false:=by
  rw[<-Bool.not_eq_true,any_eq_true];rintro⟨o,h1,h2⟩;exact hm o h1 (by simpa using h2)
 show (bif l.any (λo=>o.zht==some i) then none else h i)=_;rw[this];rfl
theorem without_le(h:zb)(l:List Ob):(h.zlb l).le h:=λi b e=>by
 by_cases hm:∃o∈l,o.zht=some i
 ·obtain⟨o,h1,h2⟩:=hm
  rw[zrv h1 h2]at e;cases e
 ·rw[zmu λo h1 h2=>hm ⟨o,h1,h2⟩]at e;exact e
theorem zc5.out{h0 h:zb}{l1 l2:List Ob}(ho:zc5 h0 h (l1++l2)):zc5 h0 (h.zlb l2) l1 /\ zc5 (h.zlb l2) h l2:=by
 obtain⟨a1,a2,a3⟩:=pairwise_append.1 ho.apart;have h1:h0.le (h.zlb l2):=λi b e=>by
  rw[zmu λo hm hf=>by rw[(ho.own o (mem_append_right _ hm) i hf).1]at e;cases e];exact ho.le i b e
 have zjx:∀o∈l1,∀id,o.zht=some id->(h.zlb l2) id=h id:=λo hm id hf=>zmu λo2 hm2 hf2=>a3 o hm o2 hm2 id hf hf2
 refine⟨⟨h1,λo hm=>(ho.is o (mem_append_left _ hm)).zjx λid b hf hb=>by rw[zjx o hm id hf];exact hb,λo hm id hf=>?_,a1⟩,
  ⟨without_le h l2,λo hm=>ho.is o (mem_append_right _ hm),λo hm id hf=>⟨zrv hm hf,(ho.own o (mem_append_right _ hm) id hf).2⟩,a2⟩⟩
 obtain⟨b1,b2⟩:=ho.own o (mem_append_left _ hm) id hf;exact⟨b1,λb hb=>b2 b (by rw[<-zjx o hm id hf];exact hb)⟩
theorem zc5.perm{h0 h:zb}{l l':List Ob}(ho:zc5 h0 h l)(hp:l.Perm l'):zc5 h0 h l':=⟨ho.le,λo hm=>ho.is o (hp.mem_iff.2 hm),λo hm=>ho.own o (hp.mem_iff.2 hm),(hp.pairwise_iff λ{a b} hab id hb ha=>hab id ha hb).1 ho.apart⟩
structure Part where
 Item:List UInt8
 Qty:Int
 deriving DecidableEq
theorem u8_eq(a b:UInt8):decide ((a.toNat:Int)=b.toNat)=decide (a=b):=by
 rw[decide_eq_decide];constructor
 ·intro h;exact UInt8.toNat_inj.1 (by omega)
 ·intro h;rw[h]
def bS:Scal UInt8 where
 c b:= .int .u8 b.toNat
 cell _:=rfl
 eql a b:=by rw[V.zgq,u8_eq]
 neq a b:=by rw[V.bin_neq,u8_eq]
abbrev bc:UInt8->List za:=bS.cs
def tS:Scal (List UInt8) where
 c b:= .str b
 cell _:=rfl
 eql a b:=by rw[V.bin_seql]
 neq a b:=by rw[V.bin_sneq]
abbrev tc:List UInt8->List za:=tS.cs
def iS:Scal Int where
 c b:= .int .i64 b
 cell _:=rfl
 eql a b:=by rw[V.zgq]
 neq a b:=by rw[V.bin_neq]
theorem wrap_u8(n:Int):IntKind.u8.wrap n=n % 256:=by
 simp[IntKind.wrap,IntKind.bits,IntKind.signed]
def byt(m:Int):UInt8:=UInt8.ofNat (m % 256).toNat
theorem byt_nat(m:Int):((byt m).toNat:Int)=m % 256:=by
 have h1:=Int.emod_nonneg m (show (256:Int)≠0 by omega);have h2:=Int.emod_lt_of_pos m (show (0:Int)<256 by omega);simp[byt];omega
theorem u8_byt(m:Int):IntKind.u8.wrap m=((byt m).toNat:Int):=by rw[wrap_u8,byt_nat]
theorem bin_shr{k j:IntKind}{a b:Int}(h0:0 <= b)(h1:b<k.bits):V.bin .shr (.int k a) (.int j b)=some (.int k (a.fdiv (2 ^ b.toNat))):=by
 simp only[V.bin,V.shift];rw[if_neg (by omega),Nat.min_eq_left (by omega)]
theorem wrap_u64(n:Int):IntKind.u64.wrap n=n % 18446744073709551616:=by
 simp[IntKind.wrap,IntKind.bits,IntKind.signed]
theorem zsj:∀s:List UInt8,V.zjn (s.map bc).flatten=some s
 | []=>rfl
 | a::r=>by
  have:=zsj r
  simp only[map_cons,flatten_cons,cons_append,nil_append]at this ⊢
  simp only[V.zjn,this]
  simp[V.byteOf?,bS]
theorem bytesStr_bc{h:zb}{x:za}{s:List UInt8}{R:List (List za)}(hx:SlX h 1 x (s.map bc) R)(K:za->Prop):(B.zew h x K:Prop)=K (.str s):=by
 have h1:=hx.zgl;have h2:=hx.rdv;rw[length_map]at h1 h2;simp only[B.zew,A.zew,h1,h2,zsj]
theorem arg_sliceP{T:Type}{H:zb}{bytes es:Nat}{e:Ty}{v:za}(cs:T->List za)(P:T->Prop)(hd:∀p,zii H e p->∃t,p=cs t /\ P t)(h:zii H (.sl bytes es e) [v]):
  ∃L:List T,SlIs H es v (L.map cs) /\ L.length*bytes <= reach /\ ∀t∈L,P t:=by
 obtain⟨L,h1,h2⟩:=arg_slice (T:={ t:T // P t }) (λt=>cs t.1) (λp hp=>by obtain⟨t,e,k⟩:=hd p hp;exact⟨⟨t,k⟩,e⟩) h;refine⟨L.map (·.1),?_,by simpa using h2,λt ht=>?_⟩
 ·rw[map_map];exact h1
 ·obtain⟨u,_,rfl⟩:=mem_map.1 ht;exact u.2
def cA:Code->Code | .seq a _=>a | .cond _ a _=>a | .block _ b=>b | .loop b=>b | .scope b=>b|_=> .skip
def cB:Code->Code | .seq _ b=>b | .cond _ _ b=>b|_=> .skip
def cI:Code->Nat | .block i _=>i|_=>0
def isS:Code->Bool | .seq _ _=>true|_=>false
def isC(t:Nat):Code->Bool | .cond (.tmp k) _ _=>Nat.beq k t|_=>false
def isK:Code->Bool | .block _ _=>true|_=>false
def rA:Code->Code | .rangeFunc _ _ a b=> .seq a b|_=> .skip
def isR(t:Nat)(ps zjx:List Nat):Code->Bool | .rangeFunc (.tmp k) qs a b=>Nat.beq k t&&(zo4 qs.toList ps&&(zkh a&&zjx.all λk=>zg9 (zpo qs.toList a b) k&& !zg9 ps k))|_=>false
def isL:Code->Bool | .loop _=>true|_=>false
section
variable{P:Program}{C:z5}{I:Bx}
theorem eS(hC:zkv C){c:Code}{Q:Ex->zbq->zb->Prop}{s:zbq}{h:zb}(X:zbq->zb->Prop)(ha:bwp P C I (cA c) (Ex.then X Q) s h)(hb:∀s h,X s h->bwp P C I (cB c) Q s h)(hk:isS c=true:=by kernel_rfl):bwp P C I c Q s h:=by
 cases c<;>first|exact seqB hC rfl hb ha|cases hk
theorem eC{c:Code}{Q:Ex->zbq->zb->Prop}{p q:Prop}{s:zbq}{h:zb}(t:Nat)(hr:A.cond (s t) p q)(hx:p->bwp P C I (cA c) Q s h)(hy:q->bwp P C I (cB c) Q s h)(hk:isC t c=true:=by kernel_rfl):bwp P C I c Q s h:=by
 cases c with
 | cond o x y=>
  cases o with
  | tmp k=>
   have e:k=t:=Nat.eq_of_beq_eq_true hk;subst e;exact condB rfl hx hy hr
  | _=>cases hk
 | _=>cases hk
theorem eK{c:Code}{Q:Ex->zbq->zb->Prop}{s:zbq}{h:zb}(hb:bwp P C I (cA c) (Ex.inBlock (cI c) Q) s h)(hk:isK c=true:=by kernel_rfl):bwp P C I c Q s h:=by
 cases c<;>first|exact hb|cases hk
theorem eL(hC:zkv C){c:Code}{Q:Ex->zbq->zb->Prop}{s:zbq}{h:zb}(zjx live:List Nat)(G:List za->zG)
  (hr:z3 (G (zjx.map s)) (live.map s) h)
  (hG:∀(Y:zL)(s:zbq)(h:zb),G (zjx.map s) (live.map s) h Y->bwp P C I (cA c) (Ex.then (λs h=>Y (live.map s) h) Q) s h)
  (hk:isL c=true:=by kernel_rfl) (hw:(zjx.all λk=> !zg9 (zhc P I (cA c)) k)=true:=by kernel_rfl):bwp P C I c Q s h:=by
 cases c<;>first|exact loopB hC zjx live rfl hw hG hr|cases hk
theorem rk_nil{Q:Ex->zbq->zb->Prop}{s:zbq}:∀j h,RK [] j h->Q (unj j) s h:=λ_ _ x=>x.elim
theorem rk_cons{Q:Ex->zbq->zb->Prop}{s:zbq}{k:Nat}{p:zb->Prop}{r:List (Nat×(zb->Prop))}(h1:∀h,p h->Q (unj k) s h)(h2:∀j h,RK r j h->Q (unj j) s h):∀j h,RK ((k,p)::r) j h->Q (unj j) s h:=by
 rintro j h (⟨rfl,x⟩|x)
 ·exact h1 h x
 ·exact h2 j h x
theorem e0{q p:Prop}(hR:p)(e:q=p:=by kernel_rfl):q:=e.mpr hR
theorem natsEq_eq:∀{a b:List Nat},zo4 a b=true->a=b
 | [],[],_=>rfl
 | x::a,y::b,h=>by
  simp only[zo4,Bool.and_eq_true]at h
  rw[Nat.eq_of_beq_eq_true h.1,natsEq_eq h.2]
theorem isR_spec{t:Nat}{ps zjx:List Nat}{c:Code}(h:isR t ps zjx c=true):∃qs a b,c= .rangeFunc (.tmp t) qs a b /\ qs.toList=ps /\ zkh a=true /\ ∀k∈zjx,zg9 (zpo ps a b) k=true /\ zg9 ps k=false:=by
 cases c<;>(try cases h);rename_i g qs a b;cases g<;>(try cases h);rename_i k;simp only[isR,Bool.and_eq_true,all_eq_true,Bool.not_eq_true']at h;obtain⟨h1,h2,h3,h4⟩:=h;have e1:=Nat.eq_of_beq_eq_true h1;have e2:=natsEq_eq h2;subst e1 e2;exact⟨qs,a,b,rfl,rfl,h3,h4⟩
theorem mem_memB:∀{l:List Nat}{k:Nat},k∈l->zg9 l k=true
 | x::r,k,h=>by
  simp only[zg9]
  rcases mem_cons.1 h with rfl|h
  ·rw[Nat.beq_refl];rfl
  ·rw[mem_memB h];cases Nat.beq x k<;>rfl
theorem keep_setPs{ps zjx:List Nat}{a b:Code}{s:zbq}(xs:List za)(hk:∀k∈zjx,zg9 (zpo ps a b) k=true /\ zg9 ps k=false):zjx.map (zl9 ps xs (zrh (zpo ps a b) s))=zjx.map s:=by
 refine map_congr_left λk hk'=>?_;obtain⟨h1,h2⟩:=hk k hk';rw[zmy λp hp e=>by subst e;rw[mem_memB hp]at h2;cases h2];simp only[zrh,h1,cond_true]
theorem eR1(hC:zkv C){c:Code}{Q:Ex->zbq->zb->Prop}{s:zbq}{h:zb}(t p:Nat)(zjx:List Nat)(G:List za->za->zb->(Nat->zb->Prop)->Prop){K:Nat->zb->Prop}
  (hr:zpf C (s t) (W1 (G (zjx.map s))) h K) (hK:∀j h,K j h->Q (unj j) s h)
  (hW:∀(E:Nat->zb->Prop)(s:zbq)(h:zb),G (zjx.map s) (s p) h E->bwp P C I (rA c) (λe _ h2=>E (jn e) h2) s h)
  (hk:isR t [p] zjx c=true:=by kernel_rfl):bwp P C I c Q s h:=by
 obtain⟨qs,a,b,rfl,hq,h1,h2⟩:=isR_spec hk;refine rangeB hC rfl h1 hr hK λxs h E w=>?_
 match xs,w with
 | [x],w=>
  refine⟨by rw[<-Array.length_toList,hq];rfl,?_⟩;rw[hq];refine hW E _ h ?_;rw[keep_setPs [x] h2];have:zl9 [p] [x] (zrh (zpo [p] a b) s) p=x:=by simp only[zl9,zet,Nat.beq_refl,cond_true]
  rw[this];exact w
theorem e1{c:Code}{Q:Ex->zbq->zb->Prop}{s:zbq}{h:zb}{p:Prop}(hR:p)(e:bwp P C I c Q s h=p:=by kernel_rfl):bwp P C I c Q s h:=e.mpr hR
theorem eF(hm:P.follows .mixedOrders=true){f:FuncId}{fn:Func}{c:Code}{I:Bx}{args:List za}{h:zb}{Q:zQ}
  (hx:zkv (AC P)→bwp P (AC P) I c (retB P I fn.results.toList (dn Q)) (zcr args) h) (hf:P.funcs[f]? =some fn:=by kernel_rfl) (hb:fn.body=some c:=by kernel_rfl) (h1:(fn.name== "runtime.NumGoroutine")=false:=by kernel_rfl)
  (hc:zio fn.ntmps c=true:=by kernel_rfl) (hne:Nat.beq f zla=false:=by kernel_rfl) (hl:Nat.ble args.length fn.ntmps=true:=by kernel_rfl) (hB:Nat.ble args.length I.B=true:=by kernel_rfl) (hk:chkC P I c=true:=by kernel_rfl):AC P f args h Q:=
 AC_drop (AC_introB hm hf hb (zmq hf (by rw[hb];rfl) h1) hc hne (Nat.le_of_ble_eq_true hl) (Nat.le_of_ble_eq_true hB) hk (hx (AC_cmono P)))
end
variable(C:z5)(N:Nat→Nat)
@[simp] def zdb.k1(Q:zQ)(c d:za)(h:zb):Prop:=B.call C (N 389) [c] h λb h=>B.gd h b true (λK=>K d h) λk h=>B.gd h b true (λK=>B.call C (N 389) [k] h K) λl h=>B.gd h b true (λK=>B.pv (V.un .not l) λv=>K v h) λe h=>B.pick b e (.bool false) λa=>B.gd h a false (λK=>K c h) λf h=>B.gd h a false (λK=>K d h) λg h=>B.gd h a false (λK=>B.pv (V.bin .lss f g) λv=>K v h) λi h=>B.pick a (.bool true) i λj=>Q j h
@[simp] def zdb.cps(a b:za)(h:zb)(Q:zQ):Prop:=zdb.k1 C N Q a b h
def zdb.Imp:Prop:=im2 C (N 377) (zdb.cps C N)
@[simp] def zdd.cps(C:z5)(N:zN)(a:za)(h:zb)(Q:zQ):Prop:=B.pv (V.bin .neq a a) λb=>Q b h
def zdd.Imp:Prop:=im1 C (N 389) (zdd.cps C N)
@[simp] def zdk.k1(Q:zQ)(c d:za)(h:zb):Prop:=B.call C (N 546) [c] h λb h=>B.gd h b true (λK=>K d h) λk h=>B.gd h b true (λK=>B.call C (N 546) [k] h K) λl h=>B.gd h b true (λK=>B.pv (V.un .not l) λv=>K v h) λe h=>B.pick b e (.bool false) λa=>B.gd h a false (λK=>K c h) λf h=>B.gd h a false (λK=>K d h) λg h=>B.gd h a false (λK=>B.pv (V.bin .lss f g) λv=>K v h) λi h=>B.pick a (.bool true) i λj=>Q j h
@[simp] def zdk.cps(a b:za)(h:zb)(Q:zQ):Prop:=zdk.k1 C N Q a b h
def zdk.Imp:Prop:=im2 C (N 534) (zdk.cps C N)
@[simp] def zdn.cps(C:z5)(N:zN)(a:za)(h:zb)(Q:zQ):Prop:=B.pv (V.bin .neq a a) λb=>Q b h
def zdn.Imp:Prop:=im1 C (N 546) (zdn.cps C N)
@[simp] def zdw.k1(C:z5)(N:zN)(Q:zQ)(a b:za)(h:zb):Prop:=B.pv (V.toInt .u8 a) λm=>B.pv (V.bin .shr a (.int .u64 8)) λn=>B.pv (V.toInt .u8 n) λo=>B.pv (V.bin .shr a (.int .u64 16)) λc=>B.pv (V.toInt .u8 c) λd=>B.pv (V.toInt .u8 b) λe=>B.pv (V.bin .shr b (.int .u64 8)) λf=>B.pv (V.toInt .u8 f) λg=>B.pv (V.bin .shr b (.int .u64 16)) λi=>B.pv (V.toInt .u8 i) λj=>B.zgn h (zez [(0,none,(.int .u8 35)),(1,none,m),(2,none,o),(3,none,d),(4,none,(.int .u8 47)),(5,none,e),(6,none,g),(7,none,j)] (zh2 8 [.int .u8 0])) λk h=>B.zew h (.sl k 0 0 8 1 8) λl=>Q l h
variable(C:z5)(N:Nat→Nat)
@[simp] def zdw.cps(a b:za)(h:zb)(Q:zQ):Prop:=zdw.k1 C N Q a b h
def zdw.Imp:Prop:=im2 C (N 106) (zdw.cps C N)
@[simp] def zdi.k3(C:z5)(N:zN)(Q:zQ)(a b:za)(h:zb):Prop:=B.pv (V.zde a) λd=>B.pv (V.zde b) λe=>B.pv (V.bin .neq d e) λc=>B.cond c (Q (.bool false) h) (z3 (znk.l4  Q a b) [(.int .i64 0)] h)
def zdi.cps(a b:za)(h:zb)(Q:zQ):Prop:=zdi.k3 C N Q a b h
def zdi.Imp:Prop:=im2 C (N 133) (zdi.cps C N)
@[simp] def zfe.k1(C:z5)(N:zN)(Q:zQ)(e a:za)(h:zb):Prop:=B.pv (V.bin .lss a (.int .i64 1)) λf=>B.cond f (Q (.int .i64 0) h) (B.pv (V.bin .rem e a) λb=>B.pv (V.bin .lss b (.int .i64 0)) λc=>B.cond c (B.pv (V.bin .add b a) λd=>Q d h) (Q b h))
@[simp] def zfe.cps(a b:za)(h:zb)(Q:zQ):Prop:=zfe.k1 C N Q a b h
def zfe.Imp:Prop:=im2 C (N 155) (zfe.cps C N)
@[simp] def zdq.k3(Q:zQ)(a:za)(h:zb):Prop:=B.pv (V.zde a) λc=>B.pv (V.bin .add c (.int .i64 12)) λd=>0<1 /\ B.mks h 16 (some [.str []]) (.int .i64 0) d λe h=>B.ziz h 1 16 e a λb h=>z3 (zpm.l4 C 16 (N 106) (.str []) 1 Q a) [b,(.int .i64 0)] h
def zdq.cps(a:za)(h:zb)(Q:zQ):Prop:=zdq.k3 C N Q a h
def zdq.Imp:Prop:=im1 C (N 406) (zdq.cps C N)
@[simp] def zda.k3(Q:zQ)(e a:za)(h:zb):Prop:=B.pv (V.zde a) λb=>B.pv (V.bin .add b (.int .i64 12)) λc=>B.pv (V.zh6 1 e none (some c)) λd=>z3 (zqz.l4 C (N 106) 1 Q a d) [(.int .i64 0)] h
@[simp] def zda.k4(Q:zQ)(a b:za)(h:zb):Prop:=B.pv (V.zde a) λe=>B.pv (V.zde b) λc=>B.pv (V.bin .neq e c) λd=>B.cond d (Q (.bool false) h) (zda.k3 C N Q a b h)
def zda.cps(a b:za)(h:zb)(Q:zQ):Prop:=zda.k4 C N Q a b h
def zda.Imp:Prop:=im2 C (N 407) (zda.cps C N)
@[simp] def zdv.k3(Q:zQ)(a:za)(h:zb):Prop:=B.pv (V.zde a) λb=>B.pv (V.bin .add b (.int .i64 12)) λc=>B.pv (V.zh6 1 a none (some c)) λd=>z3 (zqp.l3 C 1 (N 106) (λh p v K=>B.st h p v K) 2 Q d) [(.int .i64 0)] h
def zdv.cps(a:za)(h:zb)(Q:zQ):Prop:=zdv.k3 C N Q a h
def zdv.Imp:Prop:=im1 C (N 409) (zdv.cps C N)
@[simp] def zdj.k3(C:z5)(N:zN)(Q:zQ)(a b:za)(h:zb):Prop:=B.pv (V.zde a) λd=>B.pv (V.zde b) λe=>B.pv (V.bin .neq d e) λc=>B.cond c (Q (.bool false) h) (z3 (znk.l4  Q a b) [(.int .i64 0)] h)
def zdj.cps(a b:za)(h:zb)(Q:zQ):Prop:=zdj.k3 C N Q a b h
def zdj.Imp:Prop:=im2 C (N 499) (zdj.cps C N)
variable(C:z5)(N:Nat→Nat)
@[simp] def zd6.k1(Q:zQ)(h:zb):Prop:=B.call C (N 485) [] h λc h=>B.pv (V.zgd .eql c .zkx) λo=>B.gd h o false (λK=>K c h) λv8 h=>B.gd h o false (λK=>B.zgn h (zez [(0,none,(.str [65]))] (zh2 1 [.str []])) λi h=>K (.sl i 0 0 1 1 1) h) λv9 h=>B.gd h o false (λK=>B.call C (N 489) [v8,(.int .i64 1),v9] h K) λr h=>B.gd h o false (λK=>B.pv (V.un .not r) λv=>K v h) λs h=>B.pick o (.bool true) s λl=>B.gd h l false (λK=>K c h) λt h=>B.gd h l false (λK=>B.zgn h (zez [(0,none,(.str [65])),(1,none,(.str [66]))] (zh2 2 [.str []])) λi h=>K (.sl i 0 0 2 1 2) h) λu h=>B.gd h l false (λK=>B.call C (N 489) [t,(.int .i64 2),u] h K) λw h=>B.pick l (.bool true) w λm=>B.gd h m false (λK=>K c h) λx h=>B.gd h m false (λK=>B.zgn h (zez [(0,none,(.str [66]))] (zh2 1 [.str []])) λi h=>K (.sl i 0 0 1 1 1) h) λy h=>B.gd h m false (λK=>B.call C (N 489) [x,(.int .i64 3),y] h K) λz h=>B.pick m (.bool true) z λb=>B.gd h b false (λK=>K c h) λaa h=>B.gd h b false (λK=>B.call C (N 491) [aa,(.int .i64 3)] h K) λab h=>B.gd h b false (λK=>B.zgn h (zez [(0,none,(.int .i64 2))] (zh2 1 [.int .i64 0])) λi h=>K (.sl i 0 0 1 1 1) h) λac h=>B.gd h b false (λK=>B.call C (N 499) [ab,ac] h K) λad h=>B.gd h b false (λK=>B.pv (V.un .not ad) λv=>K v h) λae h=>B.pick b (.bool true) ae λaf=>B.cond af (Q (.bool false) h) (B.call C (N 488) [c,(.int .i64 1)] h λbt h=>B.call C (N 485) [] h λa h=>B.zgn h (zez [(0,none,(.str [65]))] (zh2 1 [.str []])) λag h=>B.call C (N 489) [a,(.int .i64 1),(.sl ag 0 0 1 1 1)] h λn h=>B.gd h n true (λK=>K a h) λah h=>B.gd h n true (λK=>B.zgn h (zez [(0,none,(.str [66]))] (zh2 1 [.str []])) λi h=>K (.sl i 0 0 1 1 1) h) λai h=>B.gd h n true (λK=>B.call C (N 489) [ah,(.int .i64 2),ai] h K) λaj h=>B.pick n aj (.bool false) λd=>B.gd h d true (λK=>K a h) λak h=>B.gd h d true (λK=>B.zgn h (zez [(0,none,(.str [66]))] (zh2 1 [.str []])) λi h=>K (.sl i 0 0 1 1 1) h) λal h=>B.gd h d true (λK=>B.call C (N 489) [ak,(.int .i64 1),al] h K) λam h=>B.gd h d true (λK=>B.pv (V.un .not am) λv=>K v h) λan h=>B.pick d an (.bool false) λe=>B.gd h e true (λK=>K a h) λao h=>B.gd h e true (λK=>B.zgn h (zez [(0,none,(.str [65]))] (zh2 1 [.str []])) λi h=>K (.sl i 0 0 1 1 1) h) λap h=>B.gd h e true (λK=>B.call C (N 489) [ao,(.int .i64 2),ap] h K) λaq h=>B.gd h e true (λK=>B.pv (V.un .not aq) λv=>K v h) λar h=>B.pick e ar (.bool false) λau=>B.zgn h (zez [(0,none,(.str [66]))] (zh2 1 [.str []])) λav h=>B.call C (N 489) [c,(.int .i64 3),(.sl av 0 0 1 1 1)] h λaw h=>B.pv (V.un .not aw) λp=>B.gd h p true (λK=>K c h) λax h=>B.gd h p true (λK=>B.call C (N 489) [ax,(.int .i64 2),.zeg] h K) λay h=>B.pick p ay (.bool false) λf=>B.gd h f true (λK=>K c h) λaz h=>B.gd h f true (λK=>B.call C (N 490) [az,(.int .i64 2)] h K) λba h=>B.gd h f true (λK=>B.zgn h (zez [(0,none,(.str [65])),(1,none,(.str [66]))] (zh2 2 [.str []])) λi h=>K (.sl i 0 0 2 1 2) h) λbb h=>B.gd h f true (λK=>B.call C (N 133) [ba,bb] h K) λbc h=>B.pick f bc (.bool false) λq=>B.gd h q true (λK=>K au h) λbd h=>B.pick q bd (.bool false) λg=>B.gd h g true (λK=>K a h) λbe h=>B.gd h g true (λK=>B.call C (N 492) [be] h K) λbf h=>B.gd h g true (λK=>B.zgn h (zez [(0,none,(.int .i64 1)),(1,none,(.int .i64 2))] (zh2 2 [.int .i64 0])) λi h=>K (.sl i 0 0 2 1 2) h) λbg h=>B.gd h g true (λK=>B.call C (N 499) [bf,bg] h K) λbh h=>B.pick g bh (.bool false) λj=>B.gd h j true (λK=>K a h) λbi h=>B.gd h j true (λK=>B.zgn h (zez [(0,none,(.str [42]))] (zh2 1 [.str []])) λi h=>K (.sl i 0 0 1 1 1) h) λbj h=>B.gd h j true (λK=>B.call C (N 489) [bi,(.int .i64 4),bj] h K) λbk h=>B.gd h j true (λK=>B.pv (V.un .not bk) λv=>K v h) λbl h=>B.pick j bl (.bool false) λk=>B.gd h k true (λK=>K a h) λbm h=>B.gd h k true (λK=>B.call C (N 491) [bm,(.int .i64 4)] h K) λbn h=>B.gd h k true (λK=>B.zgn h (zez [(0,none,(.int .i64 1)),(1,none,(.int .i64 2))] (zh2 2 [.int .i64 0])) λi h=>K (.sl i 0 0 2 1 2) h) λbo h=>B.gd h k true (λK=>B.call C (N 499) [bn,bo] h K) λbp h=>B.pick k bp (.bool false) λbq=>Q bq h)
@[simp] def zd6.cps(h:zb)(Q:zQ):Prop:=zd6.k1 C N Q h
def zd6.Imp:Prop:=im0 C (N 482) (zd6.cps C N)
@[simp] def zd5.k1(Q:zQ)(d e c:za)(h:zb):Prop:=B.call C (N 490) [d,c] h λu h=>B.call C (N 502) [e,c] h λf h=>B.call C (N 133) [u,f] h λa h=>B.gd h a true (λK=>K d h) λg h=>B.gd h a true (λK=>K c h) λi h=>B.gd h a true (λK=>B.call C (N 491) [g,i] h K) λj h=>B.gd h a true (λK=>K e h) λk h=>B.gd h a true (λK=>K c h) λl h=>B.gd h a true (λK=>B.call C (N 503) [k,l] h K) λm h=>B.gd h a true (λK=>B.call C (N 499) [j,m] h K) λn h=>B.pick a n (.bool false) λb=>B.gd h b true (λK=>K d h) λo h=>B.gd h b true (λK=>B.call C (N 492) [o] h K) λp h=>B.gd h b true (λK=>K e h) λq h=>B.gd h b true (λK=>B.call C (N 504) [q] h K) λr h=>B.gd h b true (λK=>B.call C (N 499) [p,r] h K) λs h=>B.pick b s (.bool false) λt=>Q t h
@[simp] def zd5.cps(a b c:za)(h:zb)(Q:zQ):Prop:=zd5.k1 C N Q a b c h
def zd5.Imp:Prop:=im3 C (N 483) (zd5.cps C N)
@[simp] def zd4.k1(Q:zQ)(d e w:za)(h:zb):Prop:=B.pv (A.boxN 3 w) λa=>B.al a (B.pv (V.zfc 0 a) λf=>B.call C (N 155) [f,(.int .i64 5)] h λg h=>B.pv (V.bin .eql g (.int .i64 0)) λi=>B.cond i (B.al a (B.pv (V.zfc 1 a) λj=>B.call C (N 488) [d,j] h λx h=>B.al a (B.pv (V.zfc 1 a) λk=>B.call C (N 500) [e,k] h λy h=>Q (.bool true) h))) (B.al a (B.pv (V.zfc 2 a) λl=>B.call C (N 406) [l] h λc h=>B.al a (B.pv (V.zfc 1 a) λm=>B.al a (B.pv (V.zfc 1 a) λn=>B.al a (B.pv (V.zfc 2 a) λo=>B.call C (N 489) [d,m,c] h λp h=>B.call C (N 501) [e,n,o] h λq h=>B.pv (V.zrd .eql p q) λb=>B.gd h b true (λK=>K c h) λr h=>B.al a (B.gd h b true (λK=>K .undef h) λ_ h=>B.gd h b true (λK=>B.pv (V.zfc 2 a) λv=>K v h) λs h=>B.gd h b true (λK=>B.call C (N 407) [r,s] h K) λt h=>B.pick b t (.bool false) λu=>B.call C (N 409) [c] h λz h=>Q u h)))))))
@[simp] def zd4.cps(a b c:za)(h:zb)(Q:zQ):Prop:=zd4.k1 C N Q a b c h
def zd4.Imp:Prop:=im3 C (N 484) (zd4.cps C N)
@[simp] def zcj.k1(C:z5)(N:zN)(Q:zQ)(Y1:zL)(Y2:zL)(e b c d:za)(h:zb):Prop:=B.pv (V.zc9 3 e c) λf=>B.pv (V.fieldAddr 2 f) λg=>B.ld h g λi=>B.pv (V.zde i) λj=>B.pv (V.bin .lss d j) λa=>B.gd h a true (λK=>K b h) λk h=>B.gd h a true (λK=>B.pv (V.bin .leq k (.int .i64 2000)) λv=>K v h) λl h=>B.pick a l (.bool false) λm=>B.cond m (B.pv (V.bin .add b (.int .i64 1)) λn=>B.pv (V.zc9 3 e c) λo=>B.pv (V.fieldAddr 2 o) λp=>B.ld h p λq=>B.pv (V.zc9 1 q d) λr=>B.ld h r λs=>B.pv (V.zqx s) λt=>B.pv (V.bin .quo t (.int .i64 20)) λu=>B.pv (V.bin .add n u) λw=>B.pv (V.bin .add d (.int .i64 1)) λx=>Y2 [w,x] h) (B.pv (V.bin .add c (.int .i64 1)) λy=>Y1 [b,y] h)
@[simp] def zcj.l2(Q:zQ)(Y1:zL)(a b:za):zG|[c,d],h,Y2=>zcj.k1 C N Q Y1 Y2 a c b d h|_,_,_=>False
@[simp] def zcj.k3(Q:zQ)(Y1:zL)(c a d:za)(h:zb):Prop:=B.pv (V.zde c) λj=>B.pv (V.bin .lss d j) λb=>B.gd h b true (λK=>K a h) λe h=>B.gd h b true (λK=>B.pv (V.bin .leq e (.int .i64 2000)) λv=>K v h) λf h=>B.pick b f (.bool false) λg=>B.cond g (z3 (zcj.l2 C N Q Y1 c d) [a,(.int .i64 0)] h) (B.pv (V.bin .gtr a (.int .i64 2000)) λi=>Q i h)
@[simp] def zcj.l4(Q:zQ)(a:za):zG|[b,c],h,Y1=>zcj.k3 C N Q Y1 a b c h|_,_,_=>False
@[simp] def zcj.cps(a:za)(h:zb)(Q:zQ):Prop:=z3 (zcj.l4 C N Q a) [(.int .i64 0),(.int .i64 0)] h
def zcj.Imp:Prop:=im1 C (N 486) (zcj.cps C N)
@[simp] def zz.k1(Q:zQ)(Y1:zL)(b m n a:za)(h:zb):Prop:=B.pv (V.zde b) λc=>B.pv (V.bin .lss a c) λd=>B.cond d (B.pv (V.zc9 3 b a) λe=>B.pv (V.fieldAddr 1 e) λf=>B.ld h f λg=>B.call C (N 483) [m,n,g] h λi h=>B.pv (V.un .not i) λj=>B.cond j (Q (.bool false) h) (B.pv (V.bin .add a (.int .i64 1)) λk=>Y1 [k] h)) (B.call C (N 482) [] h λl h=>Q l h)
@[simp] def zz.l2(Q:zQ)(a b c:za):zG|[d],h,Y1=>zz.k1 C N Q Y1 a b c d h|_,_,_=>False
@[simp] def zz.k3(Q:zQ)(Y2:zL)(b d e c:za)(h:zb):Prop:=B.pv (V.zde b) λf=>B.pv (V.bin .lss c f) λg=>B.cond g (B.pv (V.zc9 3 b c) λi=>B.ldn h i 3 λj=>B.call C (N 484) [d,e,j] h λk h=>B.pv (V.un .not k) λa=>B.gd h a false (λK=>K d h) λl h=>B.gd h a false (λK=>K e h) λm h=>B.gd h a false (λK=>K b h) λn h=>B.gd h a false (λK=>K c h) λo h=>B.gd h a false (λK=>B.pv (V.zc9 3 n o) λv=>K v h) λp h=>B.gd h a false (λK=>B.pv (V.fieldAddr 1 p) λv=>K v h) λq h=>B.gd h a false (λK=>B.ld h q λv=>K v h) λr h=>B.gd h a false (λK=>B.call C (N 483) [l,m,r] h K) λs h=>B.gd h a false (λK=>B.pv (V.un .not s) λv=>K v h) λt h=>B.pick a (.bool true) t λu=>B.cond u (Q (.bool false) h) (B.pv (V.bin .add c (.int .i64 1)) λw=>Y2 [w] h)) (z3 (zz.l2 C N Q b d e) [(.int .i64 0)] h)
@[simp] def zz.l4(Q:zQ)(a b c:za):zG|[d],h,Y2=>zz.k3 C N Q Y2 a b c d h|_,_,_=>False
@[simp] def zz.k5(Q:zQ)(e:za)(h:zb):Prop:=B.call C (N 485) [] h λa h=>B.pv (A.bld [] [.zeg,.int .i64 0]) λb=>B.zgn h (A.zkf 2 b) λc h=>B.pv (V.zgd .eql a .zkx) λd=>B.cond d (Q (.bool false) h) (z3 (zz.l4 C N Q e a (.ptr c 0 0)) [(.int .i64 0)] h)
@[simp] def zz.k6(Q:zQ)(c:za)(h:zb):Prop:=B.pv (V.zde c) λe=>B.pv (V.bin .gtr e (.int .i64 60)) λf=>B.cond f (B.pv (V.zh6 3 c none (some (.int .i64 60))) λd=>B.call C (N 486) [d] h λa h=>B.cond a (B.call C (N 482) [] h λb h=>Q b h) (zz.k5 C N Q d h)) (B.call C (N 486) [c] h λa h=>B.cond a (B.call C (N 482) [] h λb h=>Q b h) (zz.k5 C N Q c h))
@[simp] def zz.cps(a:za)(h:zb)(Q:zQ):Prop:=zz.k6 C N Q a h
def zz.Imp:Prop:=im1 C (N 487) (zz.cps C N)
@[simp] def ze9.cps(C:z5)(N:zN)(h:zb)(Q:zQ):Prop:=B.zky h λa h=>B.pv (A.bld [(0,none,a)] [.zo2,.int .i64 0]) λb=>B.zgn h (A.zkf 2 b) λc h=>Q (.ptr c 0 0) h
variable(C:z5)(N:Nat→Nat)
def ze9.Imp:Prop:=im0 C (N 485) (ze9.cps C N)
@[simp] def zc1.k1(Q:zQ)(a b:za)(h:zb):Prop:=B.call C (N 505) [a] h λc h=>B.cond c (B.nilCheck a λd=>B.pv (V.fieldAddr 0 d) λe=>B.ld h e λf=>B.mdel h .i f b λ_ h=>Q (.tup []) h) (Q (.tup []) h)
@[simp] def zc1.cps(a b:za)(h:zb)(Q:zQ):Prop:=zc1.k1 C N Q a b h
def zc1.Imp:Prop:=im2 C (N 488) (zc1.cps C N)
@[simp] def zy.k1(Q:zQ)(c a b:za)(h:zb):Prop:=B.nilCheck a λk=>B.pv (V.fieldAddr 1 k) λl=>B.ld h l λm=>B.call C (N 506) [c,a,m,b] h λn h=>B.pv (V.zde n) λo=>B.pv (V.bin .gtr o (.int .i64 0)) λp=>B.cond p (B.nilCheck c λq=>B.pv (V.fieldAddr 1 q) λr=>B.ld h r λs=>B.pv (V.max2 s b) λt=>B.nilCheck a λu=>B.pv (V.fieldAddr 2 u) λv=>B.st h v b λh=>B.nilCheck c λw=>B.pv (V.fieldAddr 1 w) λx=>B.st h x t λh=>Q (.bool false) h) (B.nilCheck a λy=>B.pv (V.fieldAddr 0 y) λz=>B.ld h z λaa=>B.nilCheck a λab=>B.pv (V.fieldAddr 1 ab) λac=>B.ld h ac λd=>B.call C (N 507) [aa,d] h λad h=>B.zky h λe h=>B.nilCheck a λf=>B.pv (V.fieldAddr 1 f) λg=>B.st h g e λh=>B.nilCheck a λi=>B.pv (V.fieldAddr 2 i) λj=>B.st h j (.int .i64 0) λh=>Q (.bool true) h)
@[simp] def zy.k2(Q:zQ)(b c a:za)(h:zb):Prop:=B.pv (V.bin .eql a (.int .i64 0)) λd=>B.cond d (B.nilCheck b λe=>B.pv (V.fieldAddr 1 e) λf=>B.ld h f λg=>B.pv (V.bin .add g (.int .i64 1)) λi=>zy.k1 C N Q b c i h) (zy.k1 C N Q b c a h)
@[simp] def zy.k3(Q:zQ)(Y1:zL)(v0 c f g b:za)(h:zb):Prop:=B.pv (V.bin .lss b g) λi=>B.cond i (B.pv (V.zc9 1 f b) λj=>B.ld h j λe=>B.nilCheck c λk=>B.pv (V.fieldAddr 0 k) λl=>B.ld h l λm=>B.call C (N 508) [m,e] h λn h=>B.pv (V.un .not n) λa=>B.gd h a true (λK=>K c h) λo h=>B.gd h a true (λK=>B.nilCheck o λv=>K v h) λp h=>B.gd h a true (λK=>B.pv (V.fieldAddr 0 p) λv=>K v h) λq h=>B.gd h a true (λK=>B.ld h q λv=>K v h) λr h=>B.gd h a true (λK=>B.call C (N 508) [r,(.str [42])] h K) λt h=>B.gd h a true (λK=>B.pv (V.un .not t) λv=>K v h) λu h=>B.pick a u (.bool false) λw=>B.cond w (B.nilCheck c λx=>B.pv (V.fieldAddr 1 x) λy=>B.ld h y λz=>B.mset h .s z e (.int .i64 1) λh=>B.pv (V.bin .add b (.int .i64 1)) λd=>Y1 [d] h) (B.pv (V.bin .add b (.int .i64 1)) λd=>Y1 [d] h)) (B.nilCheck c λaa=>B.pv (V.fieldAddr 2 aa) λab=>B.ld h ab λac=>zy.k2 C N Q v0 c ac h)
@[simp] def zy.l4(Q:zQ)(d e a b:za):zG|[c],h,Y1=>zy.k3 C N Q Y1 d e a b c h|_,_,_=>False
@[simp] def zy.k5(Q:zQ)(d o b e:za)(h:zb):Prop:=B.pv (V.zgd .eql e .zkx) λf=>B.cond f (B.zky h λg h=>B.zky h λj h=>B.pv (A.bld [(0,none,g),(1,none,j)] [.zo2,.zo2,.int .i64 0]) λk=>B.zgn h (A.zkf 3 k) λc h=>B.nilCheck d λl=>B.pv (V.fieldAddr 0 l) λm=>B.ld h m λn=>B.mset h .i n o (.ptr c 0 0) λh=>B.pv (V.zde b) λa=>z3 (zy.l4 C N Q d (.ptr c 0 0) b a) [(.int .i64 0)] h) (B.pv (V.zde b) λa=>z3 (zy.l4 C N Q d e b a) [(.int .i64 0)] h)
@[simp] def zy.k6(Q:zQ)(a b g:za)(h:zb):Prop:=B.nilCheck a λc=>B.pv (V.fieldAddr 0 c) λd=>B.ld h d λe=>B.pv (A.lkp h (some .i) (some (.zkx)) false e b) λf=>zy.k5 C N Q a b g f h
@[simp] def zy.cps(a d e:za)(h:zb)(Q:zQ):Prop:=B.call C (N 505) [a] h λb h=>B.pv (V.un .not b) λc=>B.cond c (Q (.bool false) h) (zy.k6 C N Q a d e h)
def zy.Imp:Prop:=im3 C (N 489) (zy.cps C N)
@[simp] def zc2.k1(Q:zQ)(b c:za)(h:zb):Prop:=B.call C (N 505) [b] h λw h=>B.pv (V.un .not w) λa=>B.gd h a false (λK=>K b h) λx h=>B.gd h a false (λK=>B.nilCheck x λv=>K v h) λd h=>B.gd h a false (λK=>B.pv (V.fieldAddr 0 d) λv=>K v h) λe h=>B.gd h a false (λK=>B.ld h e λv=>K v h) λf h=>B.gd h a false (λK=>K c h) λg h=>B.gd h a false (λK=>B.pv (A.lkp h (some .i) (some (.zkx)) false f g) λv=>K v h) λj h=>B.gd h a false (λK=>B.pv (V.zgd .eql j .zkx) λv=>K v h) λk h=>B.pick a (.bool true) k λl=>B.cond l (Q .zeg h) (B.nilCheck b λm=>B.pv (V.fieldAddr 0 m) λn=>B.ld h n λo=>B.pv (A.lkp h (some .i) (some (.zkx)) false o c) λp=>B.nilCheck p λq=>B.pv (V.fieldAddr 0 q) λr=>B.ld h r λs=>B.call C (N 509) [s] h λt h=>B.call C (N 510) [t] h λu h=>Q u h)
@[simp] def zc2.cps(a b:za)(h:zb)(Q:zQ):Prop:=zc2.k1 C N Q a b h
def zc2.Imp:Prop:=im2 C (N 490) (zc2.cps C N)
@[simp] def zco.k1(Q:zQ)(c e:za)(h:zb):Prop:=B.call C (N 505) [c] h λv7 h=>B.pv (V.un .not v7) λb=>B.gd h b false (λK=>K c h) λf h=>B.gd h b false (λK=>B.nilCheck f λv=>K v h) λg h=>B.gd h b false (λK=>B.pv (V.fieldAddr 0 g) λv=>K v h) λj h=>B.gd h b false (λK=>B.ld h j λv=>K v h) λk h=>B.gd h b false (λK=>K e h) λl h=>B.gd h b false (λK=>B.pv (A.lkp h (some .i) (some (.zkx)) false k l) λv=>K v h) λm h=>B.gd h b false (λK=>B.pv (V.zgd .eql m .zkx) λv=>K v h) λn h=>B.pick b (.bool true) n λa=>B.gd h a false (λK=>K c h) λo h=>B.gd h a false (λK=>B.nilCheck o λv=>K v h) λp h=>B.gd h a false (λK=>B.pv (V.fieldAddr 0 p) λv=>K v h) λq h=>B.gd h a false (λK=>B.ld h q λv=>K v h) λr h=>B.gd h a false (λK=>K e h) λs h=>B.gd h a false (λK=>B.pv (A.lkp h (some .i) (some (.zkx)) false r s) λv=>K v h) λt h=>B.gd h a false (λK=>B.nilCheck t λv=>K v h) λu h=>B.gd h a false (λK=>B.pv (V.fieldAddr 2 u) λv=>K v h) λw h=>B.gd h a false (λK=>B.ld h w λv=>K v h) λx h=>B.gd h a false (λK=>B.pv (V.bin .eql x (.int .i64 0)) λv=>K v h) λy h=>B.pick a (.bool true) y λz=>B.cond z (Q .zeg h) (B.nilCheck c λaa=>B.pv (V.fieldAddr 0 aa) λab=>B.ld h ab λac=>B.pv (A.lkp h (some .i) (some (.zkx)) false ac e) λd=>B.nilCheck d λad=>B.pv (V.fieldAddr 1 ad) λae=>B.ld h ae λaf=>B.nilCheck d λag=>B.pv (V.fieldAddr 2 ag) λah=>B.ld h ah λai=>B.call C (N 506) [c,d,af,ai] h λaj h=>Q aj h)
@[simp] def zco.cps(a b:za)(h:zb)(Q:zQ):Prop:=zco.k1 C N Q a b h
def zco.Imp:Prop:=im2 C (N 491) (zco.cps C N)
@[simp] def zw.k1(Q:zQ)(Y1:zL)(Y2:zL)(l m a b:za)(h:zb):Prop:=B.zeq h b λd h=>B.pv (V.ext 0 d) λe=>B.cond e (B.pv (A.zfm h b) λf=>B.pv (V.ext 0 f) λc=>B.call C (N 512) [l,c] h λg h=>B.call C (N 513) [g,m] h λi h=>B.cond i (B.zgn h (zez [(0,none,c)] (zh2 1 [.int .i64 0])) λj h=>B.ziz h 1 8 a (.sl j 0 0 1 1 1) λk h=>Y2 [k] h) (Y2 [a] h)) (B.call C (N 511) [a] h λn h=>Q a h)
@[simp] def zw.l2(Q:zQ)(Y1:zL)(b c a:za):zG|[d],h,Y2=>zw.k1 C N Q Y1 Y2 b c d a h|_,_,_=>False
@[simp] def zw.k3(Q:zQ)(Y1:zL)(i a b j k c:za)(h:zb):Prop:=B.call C (N 513) [b,a] h λd h=>B.pv (V.un .not d) λe=>B.cond e (B.pv (V.bin .add c (.int .i64 1)) λf=>Y1 [f] h) (B.rangeMap h b λg h=>z3 (zw.l2 C N Q Y1 i a g) [.zeg] h)
@[simp] def zw.k4(Q:zQ)(Y1:zL)(d a e b:za)(h:zb):Prop:=B.pv (V.zc9 1 a b) λf=>B.ld h f λc=>B.call C (N 512) [d,c] h λg h=>zw.k3 C N Q Y1 d c g a e b h
@[simp] def zw.l5(Q:zQ)(e c a:za):zG|[b],h,Y1=>B.pv (V.bin .lss b a) λd=>B.cond d (zw.k4 C N Q Y1 e c a b h) (Q .zeg h)|_,_,_=>False
@[simp] def zw.k6(Q:zQ)(b:za)(h:zb):Prop:=B.nilCheck b λc=>B.pv (V.fieldAddr 0 c) λd=>B.ld h d λe=>B.call C (N 514) [e] h λf h=>B.call C (N 515) [f] h λa h=>B.pv (V.zde a) λg=>z3 (zw.l5 C N Q b a g) [(.int .i64 0)] h
@[simp] def zw.cps(a:za)(h:zb)(Q:zQ):Prop:=B.call C (N 505) [a] h λc h=>B.pv (V.un .not c) λb=>B.cond b (Q .zeg h) (zw.k6 C N Q a h)
def zw.Imp:Prop:=im1 C (N 492) (zw.cps C N)
@[simp] def zcw.k1(C:z5)(N:zN)(Q:zQ)(b:za)(h:zb):Prop:=B.pv (V.zgd .neq b .zkx) λa=>B.gd h a true (λK=>K b h) λe h=>B.gd h a true (λK=>B.nilCheck e λv=>K v h) λf h=>B.gd h a true (λK=>B.pv (V.fieldAddr 0 f) λv=>K v h) λg h=>B.gd h a true (λK=>B.ld h g λv=>K v h) λi h=>B.gd h a true (λK=>B.pv (V.eqMap .neq i .zo2) λv=>K v h) λc h=>B.pick a c (.bool false) λd=>Q d h
@[simp] def zcw.cps(a:za)(h:zb)(Q:zQ):Prop:=zcw.k1 C N Q a h
def zcw.Imp:Prop:=im1 C (N 505) (zcw.cps C N)
@[simp] def zbg.k1(Q:zQ)(Y1:zL)(l a b:za)(h:zb):Prop:=B.zeq h b λd h=>B.pv (V.ext 0 d) λe=>B.cond e (B.pv (A.zfm h b) λc=>B.pv (V.ext 0 c) λf=>B.pv (V.ext 1 c) λg=>B.zkt h C l [g] λi h=>B.cond i (B.zgn h (zez [(0,none,f)] (zh2 1 [.int .i64 0])) λj h=>B.ziz h 1 8 a (.sl j 0 0 1 1 1) λk h=>Y1 [k] h) (Y1 [a] h)) (B.call C (N 511) [a] h λm h=>Q a h)
@[simp] def zbg.l2(Q:zQ)(c a:za):zG|[b],h,Y1=>zbg.k1 C N Q Y1 c b a h|_,_,_=>False
@[simp] def zbg.k3(Q:zQ)(f g a:za)(h:zb):Prop:=B.nilCheck f λb=>B.pv (V.fieldAddr 0 b) λc=>B.ld h c λd=>B.rangeMap h d λe h=>z3 (zbg.l2 C N Q g e) [a] h
@[simp] def zbg.k4(Q:zQ)(a b c d:za)(h:zb):Prop:=B.zgn h (A.zjm b) λe h=>B.zgn h (A.zjm c) λf h=>B.zgn h (A.zjm d) λg h=>zbg.k3 C N Q a (.fn (N 523) [] [(.ptr e 0 0),(.ptr f 0 0),(.ptr g 0 0)]) .zeg h
@[simp] def zbg.cps(a b c d:za)(h:zb)(Q:zQ):Prop:=zbg.k4 C N Q a b c d h
def zbg.Imp:Prop:=im4 C (N 506) (zbg.cps C N)
@[simp] def zb5.cps(C:z5)(N:zN)(a b:za)(h:zb)(Q:zQ):Prop:=B.pv (A.lkp h (some .s) (some (.int .i64 0)) false a b) λc=>B.pv (V.bin .gtr c (.int .i64 0)) λd=>Q d h
def zb5.Imp:Prop:=im2 C (N 508) (zb5.cps C N)
@[simp] def zca.k1(Q:zQ)(d e:za)(h:zb):Prop:=B.zgn h (A.zjm d) λf h=>B.zky h λg h=>B.zgn h (some [.zo2]) λa h=>B.st h (.ptr a 0 0) g λh=>B.zgn h (some [.nilf]) λb h=>B.st h (.ptr b 0 0) (.fn (N 526) [] [(.ptr f 0 0),(.ptr a 0 0),(.ptr b 0 0)]) λh=>B.ld h (.ptr b 0 0) λi=>B.zkt h C i [e] λj h=>B.ld h (.ptr a 0 0) λc=>Q c h
@[simp] def zca.cps(a b:za)(h:zb)(Q:zQ):Prop:=zca.k1 C N Q a b h
def zca.Imp:Prop:=im2 C (N 512) (zca.cps C N)
@[simp] def zb6.cps(C:z5)(N:zN)(a b:za)(h:zb)(Q:zQ):Prop:=B.pv (A.lkp h (some .i) (some (.int .i64 0)) false a b) λc=>B.pv (V.bin .gtr c (.int .i64 0)) λd=>Q d h
def zb6.Imp:Prop:=im2 C (N 513) (zb6.cps C N)
@[simp] def zcy.k1(Q:zQ)(e v1 f v3:za)(h:zb):Prop:=B.ld h v1 λv7=>B.pv (A.zgd h 3 .neq e v7) λd=>B.gd h d true (λK=>K e h) λg h=>B.gd h d true (λK=>B.nilCheck g λv=>K v h) λi h=>B.gd h d true (λK=>B.pv (V.fieldAddr 0 i) λv=>K v h) λj h=>B.gd h d true (λK=>B.ld h j λv=>K v h) λk h=>B.gd h d true (λK=>B.ld h f λv=>K v h) λl h=>B.gd h d true (λK=>B.call C (N 528) [k,l] h K) λm h=>B.gd h d true (λK=>K m h) λa h=>B.gd h a false (λK=>K e h) λn h=>B.gd h a false (λK=>B.nilCheck n λv=>K v h) λo h=>B.gd h a false (λK=>B.pv (V.fieldAddr 2 o) λv=>K v h) λp h=>B.gd h a false (λK=>B.ld h p λv=>K v h) λq h=>B.gd h a false (λK=>B.pv (V.bin .gtr q (.int .i64 0)) λv=>K v h) λr h=>B.gd h a false (λK=>K r h) λb h=>B.gd h b true (λK=>K e h) λs h=>B.gd h b true (λK=>B.nilCheck s λv=>K v h) λt h=>B.gd h b true (λK=>B.pv (V.fieldAddr 2 t) λv=>K v h) λu h=>B.gd h b true (λK=>B.ld h u λv=>K v h) λw h=>B.gd h b true (λK=>B.ld h v3 λv=>K v h) λx h=>B.gd h b true (λK=>B.pv (V.bin .lss w x) λv=>K v h) λy h=>B.gd h a false (λK=>B.pick b y (.bool false) λv=>K v h) λz h=>B.gd h a false (λK=>K z h) λc h=>B.gd h c true (λK=>K e h) λaa h=>B.gd h c true (λK=>B.nilCheck aa λv=>K v h) λab h=>B.gd h c true (λK=>B.pv (V.fieldAddr 1 ab) λv=>K v h) λac h=>B.gd h c true (λK=>B.ld h ac λv=>K v h) λad h=>B.gd h c true (λK=>B.ld h f λv=>K v h) λae h=>B.gd h c true (λK=>B.call C (N 528) [ad,ae] h K) λaf h=>B.gd h a false (λK=>B.pick c af (.bool false) λv=>K v h) λag h=>B.gd h d true (λK=>B.pick a (.bool true) ag λv=>K v h) λah h=>B.pick d ah (.bool false) λai=>Q ai h
@[simp] def zcy.cps(a b c d:za)(h:zb)(Q:zQ):Prop:=zcy.k1 C N Q a b c d h
def zcy.Imp:Prop:=im4 C (N 523) (zcy.cps C N)
@[simp] def zbj.k1(Q:zQ)(Y1:zL)(d o p e a:za)(h:zb):Prop:=B.pv (V.bin .lss a e) λf=>B.cond f (B.pv (V.zc9 1 p a) λg=>B.ld h g λb=>B.ld h d λj=>B.call C (N 513) [j,b] h λk h=>B.pv (V.un .not k) λl=>B.cond l (B.ld h d λm=>B.mset h .i m b (.int .i64 1) λh=>B.ld h o λn=>B.zkt h C n [b] λq h=>B.pv (V.bin .add a (.int .i64 1)) λc=>Y1 [c] h) (B.pv (V.bin .add a (.int .i64 1)) λc=>Y1 [c] h)) (Q (.tup []) h)
@[simp] def zbj.l2(Q:zQ)(c d e a:za):zG|[b],h,Y1=>zbj.k1 C N Q Y1 c d e a b h|_,_,_=>False
@[simp] def zbj.k3(Q:zQ)(c d e f:za)(h:zb):Prop:=B.ld h d λg=>B.call C (N 491) [g,c] h λa h=>B.pv (V.zde a) λb=>z3 (zbj.l2 C N Q e f a b) [(.int .i64 0)] h
@[simp] def zbj.cps(a b c d:za)(h:zb)(Q:zQ):Prop:=zbj.k3 C N Q a b c d h
def zbj.Imp:Prop:=im4 C (N 526) (zbj.cps C N)
@[simp] def zdl.k1(Q:zQ)(Y1:zL)(g a:za)(h:zb):Prop:=B.zeq h a λb h=>B.pv (V.ext 0 b) λc=>B.cond c (B.pv (A.zfm h a) λd=>B.pv (V.ext 0 d) λe=>B.call C (N 508) [g,e] h λf h=>B.cond f (Q (.bool true) h) (Y1 [] h)) (Q (.bool false) h)
@[simp] def zdl.l2(Q:zQ)(b a:za):zG|[],h,Y1=>zdl.k1 C N Q Y1 b a h|_,_,_=>False
@[simp] def zdl.k3(Q:zQ)(b c:za)(h:zb):Prop:=B.call C (N 508) [b,(.str [42])] h λa h=>B.gd h a false (λK=>K c h) λd h=>B.gd h a false (λK=>B.call C (N 508) [d,(.str [42])] h K) λe h=>B.pick a (.bool true) e λf=>B.cond f (Q (.bool true) h) (B.rangeMap h b λg h=>z3 (zdl.l2 C N Q c g) [] h)
@[simp] def zdl.k4(Q:zQ)(b c:za)(h:zb):Prop:=B.pv (A.zli h b) λi=>B.pv (V.bin .eql i (.int .i64 0)) λa=>B.gd h a false (λK=>K c h) λd h=>B.gd h a false (λK=>B.pv (A.zli h d) λv=>K v h) λe h=>B.gd h a false (λK=>B.pv (V.bin .eql e (.int .i64 0)) λv=>K v h) λf h=>B.pick a (.bool true) f λg=>B.cond g (Q (.bool false) h) (zdl.k3 C N Q b c h)
@[simp] def zdl.cps(a b:za)(h:zb)(Q:zQ):Prop:=zdl.k4 C N Q a b h
def zdl.Imp:Prop:=im2 C (N 528) (zdl.cps C N)
@[simp] def zg.k1(C:z5)(N:zN)(Q:zQ)(Y1:zL)(e b:za)(h:zb):Prop:=B.zeq h b λf h=>B.pv (V.ext 0 f) λg=>B.cond g (B.pv (A.zfm h b) λa=>B.pv (V.ext 0 a) λc=>B.pv (V.ext 1 a) λd=>B.mset h .s e c d λh=>Y1 [] h) (Q (.tup []) h)
variable(C:z5)(N:Nat→Nat)
@[simp] def zg.l2(Q:zQ)(a b:za):zG|[],h,Y1=>zg.k1 C N Q Y1 a b h|_,_,_=>False
@[simp] def zg.cps(a b:za)(h:zb)(Q:zQ):Prop:=B.rangeMap h b λc h=>z3 (zg.l2 C N Q a c) [] h
def zg.Imp:Prop:=im2 C (N 507) (zg.cps C N)
@[simp] def zbk.cps(C:z5)(N:zN)(a:za)(h:zb)(Q:zQ):Prop:=B.zgn h (A.zjm a) λb h=>Q (.fn (N 524) [] [(.ptr b 0 0)]) h
def zbk.Imp:Prop:=im1 C (N 509) (zbk.cps C N)
@[simp] def z4.cps(C:z5)(N:zN)(a:za)(h:zb)(Q:zQ):Prop:=B.zgn h (A.zjm a) λb h=>Q (.fn (N 525) [] [(.ptr b 0 0)]) h
def z4.Imp:Prop:=im1 C (N 514) (z4.cps C N)
@[simp] def zq.k1(C:z5)(N:zN)(Q:zQ)(Y1:zL)(d a:za)(h:zb):Prop:=B.zeq h a λe h=>B.pv (V.ext 0 e) λf=>B.cond f (B.pv (A.zfm h a) λg=>B.pv (V.ext 0 g) λi=>B.zkt h C d [i] λb h=>B.pv (V.un .not b) λc=>B.cond c (Q (.tup []) h) (Y1 [] h)) (Q (.tup []) h)
@[simp] def zq.l2(Q:zQ)(a b:za):zG|[],h,Y1=>zq.k1 C N Q Y1 a b h|_,_,_=>False
@[simp] def zq.cps(a b:za)(h:zb)(Q:zQ):Prop:=B.ld h b λc=>B.rangeMap h c λd h=>z3 (zq.l2 C N Q a d) [] h
def zq.Imp:Prop:=im2 C (N 524) (zq.cps C N)
@[simp] def zm.k1(C:z5)(N:zN)(Q:zQ)(Y1:zL)(d a:za)(h:zb):Prop:=B.zeq h a λe h=>B.pv (V.ext 0 e) λf=>B.cond f (B.pv (A.zfm h a) λg=>B.pv (V.ext 0 g) λi=>B.zkt h C d [i] λb h=>B.pv (V.un .not b) λc=>B.cond c (Q (.tup []) h) (Y1 [] h)) (Q (.tup []) h)
@[simp] def zm.l2(Q:zQ)(a b:za):zG|[],h,Y1=>zm.k1 C N Q Y1 a b h|_,_,_=>False
@[simp] def zm.cps(a b:za)(h:zb)(Q:zQ):Prop:=B.ld h b λc=>B.rangeMap h c λd h=>z3 (zm.l2 C N Q a d) [] h
def zm.Imp:Prop:=im2 C (N 525) (zm.cps C N)
variable(C:z5)(N:Nat→Nat)
@[simp] def zdx.k1(Q:zQ)(a:za)(h:zb):Prop:=B.cond (.bool false) (B.pv (V.toInt .u32 a) λb=>B.call C (N 304) [b] h λc h=>Q c h) (B.call C (N 305) [a] h λd h=>Q d h)
@[simp] def zdx.cps(a:za)(h:zb)(Q:zQ):Prop:=zdx.k1 C N Q a h
def zdx.Imp:Prop:=im1 C (N 287) (zdx.cps C N)
@[simp] def zbi.k1(C:z5)(N:zN)(Q:zQ)(e f:za)(h:zb):Prop:=B.pv (V.toInt .u8 e) λa=>B.pv (V.znz (.str [0,1,2,2,3,3,3,3,4,4,4,4,4,4,4,4,5,5,5,5,5,5,5,5,5,5,5,5,5,5,5,5,6,6,6,6,6,6,6,6,6,6,6,6,6,6,6,6,6,6,6,6,6,6,6,6,6,6,6,6,6,6,6,6,7,7,7,7,7,7,7,7,7,7,7,7,7,7,7,7,7,7,7,7,7,7,7,7,7,7,7,7,7,7,7,7,7,7,7,7,7,7,7,7,7,7,7,7,7,7,7,7,7,7,7,7,7,7,7,7,7,7,7,7,7,7,7,7,8,8,8,8,8,8,8,8,8,8,8,8,8,8,8,8,8,8,8,8,8,8,8,8,8,8,8,8,8,8,8,8,8,8,8,8,8,8,8,8,8,8,8,8,8,8,8,8,8,8,8,8,8,8,8,8,8,8,8,8,8,8,8,8,8,8,8,8,8,8,8,8,8,8,8,8,8,8,8,8,8,8,8,8,8,8,8,8,8,8,8,8,8,8,8,8,8,8,8,8,8,8,8,8,8,8,8,8,8,8,8,8,8,8,8,8,8,8,8,8,8,8,8,8,8,8,8,8]) a) λb=>B.pv (V.toInt .i64 b) λc=>B.pv (V.bin .add f c) λd=>Q d h
@[simp] def zbi.k2(Q:zQ)(a b:za)(h:zb):Prop:=B.pv (V.bin .geq a (.int .u64 256)) λc=>B.cond c (B.pv (V.bin .shr a (.int .u64 8)) λd=>B.pv (V.bin .add b (.int .i64 8)) λe=>zbi.k1 C N Q d e h) (zbi.k1 C N Q a b h)
@[simp] def zbi.k3(Q:zQ)(a b:za)(h:zb):Prop:=B.pv (V.bin .geq a (.int .u64 65536)) λe=>B.cond e (B.pv (V.bin .shr a (.int .u64 16)) λc=>B.pv (V.bin .add b (.int .i64 16)) λd=>zbi.k2 C N Q c d h) (zbi.k2 C N Q a b h)
@[simp] def zbi.k4(Q:zQ)(a b:za)(h:zb):Prop:=B.pv (V.bin .geq a (.int .u64 4294967296)) λc=>B.cond c (B.pv (V.bin .shr a (.int .u64 32)) λd=>zbi.k3 C N Q d (.int .i64 32) h) (zbi.k3 C N Q a b h)
@[simp] def zbi.cps(a:za)(h:zb)(Q:zQ):Prop:=zbi.k4 C N Q a (.int .i64 0) h
def zbi.Imp:Prop:=im1 C (N 305) (zbi.cps C N)
variable(C:z5)(N:Nat→Nat)
@[simp] def zcx.k1(Q:zQ)(a q:za)(h:zb):Prop:=B.call C (N 516) [a,q] h λc h=>B.pv (V.bin .geq c (.int .i64 0)) λr=>B.cond r (B.nilCheck a λd=>B.pv (V.fieldAddr 0 d) λe=>B.ld h e λf=>B.pv (V.zh6 4 f none (some c)) λg=>B.nilCheck a λi=>B.pv (V.fieldAddr 0 i) λb=>B.ld h b λj=>B.pv (V.bin .add c (.int .i64 1)) λk=>B.pv (V.zh6 4 j (some k) none) λl=>B.ziz h 4 64 .sz g (B.keepS h [(b,none)] (λm h=>B.ziz h 4 64 m l λn h=>B.nilCheck a λo=>B.pv (V.fieldAddr 0 o) λp=>B.st h p n λh=>Q (.tup []) h))) (Q (.tup []) h)
@[simp] def zcx.cps(a b:za)(h:zb)(Q:zQ):Prop:=zcx.k1 C N Q a b h
def zcx.Imp:Prop:=im2 C (N 500) (zcx.cps C N)
@[simp] def zj.k1(C:z5)(N:zN)(Q:zQ)(e:za)(h:zb):Prop:=B.nilCheck e λa=>B.pv (V.fieldAddr 2 a) λb=>B.st h b .zeg λh=>B.nilCheck e λc=>B.pv (V.fieldAddr 3 c) λd=>B.st h d (.int .i64 0) λh=>Q (.bool true) h
@[simp] def zj.k2(Q:zQ)(Y1:zL)(b o a:za)(h:zb):Prop:=B.pv (V.zde o) λc=>B.pv (V.bin .lss a c) λd=>B.cond d (B.nilCheck b λe=>B.pv (V.fieldAddr 1 e) λf=>B.ld h f λg=>B.pv (V.zc9 1 o a) λi=>B.ld h i λj=>B.call C (N 517) [g,j] h λk h=>B.nilCheck b λl=>B.pv (V.fieldAddr 1 l) λm=>B.st h m k λh=>B.pv (V.bin .add a (.int .i64 1)) λn=>Y1 [n] h) (zj.k1 C N Q b h)
@[simp] def zj.l3(Q:zQ)(b c:za):zG|[a],h,Y1=>zj.k2 C N Q Y1 b c a h|_,_,_=>False
@[simp] def zj.k4(Q:zQ)(n b o a p:za)(h:zb):Prop:=B.cond p (B.nilCheck b λc=>B.pv (V.fieldAddr 2 c) λd=>B.st h d o λh=>B.nilCheck b λe=>B.pv (V.fieldAddr 3 e) λf=>B.st h f a λh=>B.nilCheck n λg=>B.pv (V.fieldAddr 1 g) λi=>B.ld h i λj=>B.pv (V.max2 j a) λk=>B.nilCheck n λl=>B.pv (V.fieldAddr 1 l) λm=>B.st h m k λh=>Q (.bool false) h) (z3 (zj.l3 C N Q b o) [(.int .i64 0)] h)
@[simp] def zj.k5(Q:zQ)(Y2:zL)(e v7 v8 u d b c:za)(h:zb):Prop:=B.nilCheck e λw=>B.pv (V.fieldAddr 0 w) λx=>B.ld h x λy=>B.pv (V.zde y) λz=>B.pv (V.bin .lss c z) λaa=>B.cond aa (B.gd h b false (λK=>K c h) λab h=>B.gd h b false (λK=>K v7 h) λf h=>B.gd h b false (λK=>B.pv (V.bin .neq ab f) λv=>K v h) λg h=>B.gd h b false (λK=>K g h) λa h=>B.gd h a true (λK=>K e h) λi h=>B.gd h a true (λK=>B.nilCheck i λv=>K v h) λj h=>B.gd h a true (λK=>B.pv (V.fieldAddr 0 j) λv=>K v h) λk h=>B.gd h a true (λK=>B.ld h k λv=>K v h) λl h=>B.gd h a true (λK=>K c h) λm h=>B.gd h a true (λK=>B.pv (V.zc9 4 l m) λv=>K v h) λn h=>B.gd h a true (λK=>B.ldn h n 4 λv=>K v h) λo h=>B.gd h a true (λK=>K u h) λp h=>B.gd h a true (λK=>K d h) λq h=>B.gd h a true (λK=>B.call C (N 518) [o,p,q] h K) λr h=>B.gd h b false (λK=>B.pick a r (.bool false) λv=>K v h) λs h=>B.pick b (.bool true) s λt=>B.pv (V.bin .add c (.int .i64 1)) λac=>Y2 [t,ac] h) (zj.k4 C N Q e v8 u d b h)
@[simp] def zj.l6(Q:zQ)(d e f g a:za):zG|[b,c],h,Y2=>zj.k5 C N Q Y2 d e f g a b c h|_,_,_=>False
@[simp] def zj.k7(Q:zQ)(b c d e a:za)(h:zb):Prop:=B.pv (V.bin .eql a (.int .i64 0)) λf=>B.cond f (B.nilCheck b λg=>B.pv (V.fieldAddr 1 g) λi=>B.ld h i λj=>B.pv (V.bin .add j (.int .i64 1)) λk=>z3 (zj.l6 C N Q b c d e k) [(.bool false),(.int .i64 0)] h) (z3 (zj.l6 C N Q b c d e a) [(.bool false),(.int .i64 0)] h)
@[simp] def zj.k8(Q:zQ)(Y3:zL)(v0 e v7 d f b:za)(h:zb):Prop:=B.pv (V.zde e) λg=>B.pv (V.bin .lss b g) λi=>B.cond i (B.nilCheck d λj=>B.pv (V.fieldAddr 1 j) λk=>B.ld h k λl=>B.pv (V.zc9 1 e b) λm=>B.ld h m λn=>B.call C (N 519) [l,n] h λo h=>B.pv (V.un .not o) λa=>B.gd h a true (λK=>K d h) λp h=>B.gd h a true (λK=>B.nilCheck p λv=>K v h) λq h=>B.gd h a true (λK=>B.pv (V.fieldAddr 1 q) λv=>K v h) λr h=>B.gd h a true (λK=>B.ld h r λv=>K v h) λs h=>B.gd h a true (λK=>B.call C (N 519) [s,(.str [42])] h K) λt h=>B.gd h a true (λK=>B.pv (V.un .not t) λv=>K v h) λu h=>B.pick a u (.bool false) λw=>B.cond w (B.pv (V.zc9 1 e b) λx=>B.ld h x λy=>B.call C (N 517) [f,y] h λz h=>B.pv (V.bin .add b (.int .i64 1)) λc=>Y3 [z,c] h) (B.pv (V.bin .add b (.int .i64 1)) λc=>Y3 [f,c] h)) (B.nilCheck d λaa=>B.pv (V.fieldAddr 3 aa) λab=>B.ld h ab λac=>zj.k7 C N Q v0 v7 d f ac h)
@[simp] def zj.l9(Q:zQ)(b c d e:za):zG|[f,a],h,Y3=>zj.k8 C N Q Y3 b c d e f a h|_,_,_=>False
@[simp] def zj.k10(Q:zQ)(e f g a:za)(h:zb):Prop:=B.nilCheck a λb=>B.pv (V.fieldAddr 2 b) λc=>B.ld h c λd=>z3 (zj.l9 C N Q e f g a) [d,(.int .i64 0)] h
@[simp] def zj.k11(Q:zQ)(a g b:za)(h:zb):Prop:=B.nilCheck a λc=>B.pv (V.fieldAddr 0 c) λd=>B.ld h d λe=>B.pv (V.zc9 4 e b) λf=>zj.k10 C N Q a g b f h
@[simp] def zj.k12(Q:zQ)(a s b c:za)(h:zb):Prop:=B.pv (V.bin .lss c (.int .i64 0)) λd=>B.cond d (B.nilCheck a λe=>B.pv (V.fieldAddr 0 e) λf=>B.ld h f λg=>B.pv (A.bld [(0,none,s)] [.int .i64 0,.zeg,.zeg,.int .i64 0]) λi=>B.zgn h (zez [(0,some 4,i)] (zh2 1 [.int .i64 0,.zeg,.zeg,.int .i64 0])) λj h=>B.ziz h 4 64 g (.sl j 0 0 1 4 1) λk h=>B.nilCheck a λl=>B.pv (V.fieldAddr 0 l) λm=>B.st h m k λh=>B.nilCheck a λn=>B.pv (V.fieldAddr 0 n) λo=>B.ld h o λp=>B.pv (V.zde p) λq=>B.pv (V.bin .sub q (.int .i64 1)) λr=>zj.k11 C N Q a b r h) (zj.k11 C N Q a b c h)
@[simp] def zj.cps(a b d:za)(h:zb)(Q:zQ):Prop:=B.call C (N 516) [a,b] h λc h=>zj.k12 C N Q a b d c h
def zj.Imp:Prop:=im3 C (N 501) (zj.cps C N)
@[simp] def zcg.k1(Q:zQ)(a l:za)(h:zb):Prop:=B.call C (N 516) [a,l] h λb h=>B.pv (V.bin .lss b (.int .i64 0)) λc=>B.cond c (Q .zeg h) (B.nilCheck a λd=>B.pv (V.fieldAddr 0 d) λe=>B.ld h e λf=>B.pv (V.zc9 4 f b) λg=>B.pv (V.fieldAddr 1 g) λi=>B.ld h i λj=>B.ziz h 1 16 .sz j λk h=>Q k h)
@[simp] def zcg.cps(a b:za)(h:zb)(Q:zQ):Prop:=zcg.k1 C N Q a b h
def zcg.Imp:Prop:=im2 C (N 502) (zcg.cps C N)
@[simp] def z7.k1(Q:zQ)(Y1:zL)(c e f b:za)(h:zb):Prop:=B.nilCheck c λg=>B.pv (V.fieldAddr 0 g) λi=>B.ld h i λj=>B.pv (V.zde j) λk=>B.pv (V.bin .lss b k) λl=>B.cond l (B.pv (V.bin .neq b e) λa=>B.gd h a true (λK=>K c h) λm h=>B.gd h a true (λK=>B.nilCheck m λv=>K v h) λn h=>B.gd h a true (λK=>B.pv (V.fieldAddr 0 n) λv=>K v h) λo h=>B.gd h a true (λK=>B.ld h o λv=>K v h) λp h=>B.gd h a true (λK=>K b h) λq h=>B.gd h a true (λK=>B.pv (V.zc9 4 p q) λv=>K v h) λr h=>B.gd h a true (λK=>B.ldn h r 4 λv=>K v h) λs h=>B.gd h a true (λK=>K c h) λt h=>B.gd h a true (λK=>B.nilCheck t λv=>K v h) λu h=>B.gd h a true (λK=>B.pv (V.fieldAddr 0 u) λv=>K v h) λw h=>B.gd h a true (λK=>B.ld h w λv=>K v h) λx h=>B.gd h a true (λK=>K e h) λy h=>B.gd h a true (λK=>B.pv (V.zc9 4 x y) λv=>K v h) λz h=>B.gd h a true (λK=>B.pv (V.fieldAddr 2 z) λv=>K v h) λaa h=>B.gd h a true (λK=>B.ld h aa λv=>K v h) λab h=>B.gd h a true (λK=>K c h) λac h=>B.gd h a true (λK=>B.nilCheck ac λv=>K v h) λad h=>B.gd h a true (λK=>B.pv (V.fieldAddr 0 ad) λv=>K v h) λae h=>B.gd h a true (λK=>B.ld h ae λv=>K v h) λaf h=>B.gd h a true (λK=>K e h) λag h=>B.gd h a true (λK=>B.pv (V.zc9 4 af ag) λv=>K v h) λah h=>B.gd h a true (λK=>B.pv (V.fieldAddr 3 ah) λv=>K v h) λai h=>B.gd h a true (λK=>B.ld h ai λv=>K v h) λaj h=>B.gd h a true (λK=>B.call C (N 518) [s,ab,aj] h K) λak h=>B.pick a ak (.bool false) λal=>B.cond al (B.nilCheck c λam=>B.pv (V.fieldAddr 0 am) λan=>B.ld h an λao=>B.pv (V.zc9 4 ao b) λap=>B.pv (V.fieldAddr 0 ap) λaq=>B.ld h aq λar=>B.call C (N 520) [f,ar] h λau h=>B.pv (V.bin .add b (.int .i64 1)) λd=>Y1 [au,d] h) (B.pv (V.bin .add b (.int .i64 1)) λd=>Y1 [f,d] h)) (Q f h)
@[simp] def z7.l2(Q:zQ)(a b:za):zG|[c,d],h,Y1=>z7.k1 C N Q Y1 a b c d h|_,_,_=>False
@[simp] def z7.k3(Q:zQ)(c b:za)(h:zb):Prop:=B.pv (V.bin .lss b (.int .i64 0)) λa=>B.gd h a false (λK=>K c h) λd h=>B.gd h a false (λK=>B.nilCheck d λv=>K v h) λe h=>B.gd h a false (λK=>B.pv (V.fieldAddr 0 e) λv=>K v h) λf h=>B.gd h a false (λK=>B.ld h f λv=>K v h) λg h=>B.gd h a false (λK=>K b h) λi h=>B.gd h a false (λK=>B.pv (V.zc9 4 g i) λv=>K v h) λj h=>B.gd h a false (λK=>B.pv (V.fieldAddr 3 j) λv=>K v h) λk h=>B.gd h a false (λK=>B.ld h k λv=>K v h) λl h=>B.gd h a false (λK=>B.pv (V.bin .eql l (.int .i64 0)) λv=>K v h) λm h=>B.pick a (.bool true) m λn=>B.cond n (Q .zeg h) (z3 (z7.l2 C N Q c b) [.zeg,(.int .i64 0)] h)
@[simp] def z7.cps(a c:za)(h:zb)(Q:zQ):Prop:=B.call C (N 516) [a,c] h λb h=>z7.k3 C N Q a b h
def z7.Imp:Prop:=im2 C (N 503) (z7.cps C N)
@[simp] def zo.k1(Q:zQ)(Y1:zL)(Y2:zL)(r s t d e a:za)(h:zb):Prop:=B.pv (V.zde d) λf=>B.pv (V.bin .lss a f) λg=>B.cond g (B.pv (V.zc9 1 d a) λi=>B.ld h i λj=>B.pv (V.zc9 1 s t) λc=>B.ld h c λk=>B.call C (N 521) [r,j] h (B.keepS h [(c,none)] (λl h=>B.call C (N 522) [l,k] h λm h=>B.cond m (B.pv (V.zc9 1 d a) λn=>B.ld h n λo=>B.zgn h (zez [(0,none,o)] (zh2 1 [.int .i64 0])) λp h=>B.ziz h 1 8 e (.sl p 0 0 1 1 1) λq h=>B.pv (V.bin .add a (.int .i64 1)) λb=>Y2 [q,b] h) (B.pv (V.bin .add a (.int .i64 1)) λb=>Y2 [e,b] h)))) (Q e h)
@[simp] def zo.l2(Q:zQ)(Y1:zL)(a b c d:za):zG|[e,f],h,Y2=>zo.k1 C N Q Y1 Y2 a b c d e f h|_,_,_=>False
@[simp] def zo.k3(Q:zQ)(Y1:zL)(j b a c:za)(h:zb):Prop:=B.pv (V.zc9 1 b a) λd=>B.ld h d λe=>B.call C (N 522) [c,e] h λf h=>B.pv (V.un .not f) λg=>B.cond g (B.pv (V.bin .add a (.int .i64 1)) λi=>Y1 [i] h) (z3 (zo.l2 C N Q Y1 j b a c) [.zeg,(.int .i64 0)] h)
@[simp] def zo.k4(Q:zQ)(Y1:zL)(c a b:za)(h:zb):Prop:=B.pv (V.zde a) λd=>B.pv (V.bin .lss b d) λe=>B.cond e (B.pv (V.zc9 1 a b) λf=>B.ld h f λg=>B.call C (N 521) [c,g] h λi h=>zo.k3 C N Q Y1 c a b i h) (Q .zeg h)
@[simp] def zo.l5(Q:zQ)(a b:za):zG|[c],h,Y1=>zo.k4 C N Q Y1 a b c h|_,_,_=>False
@[simp] def zo.k6(Q:zQ)(Y3:zL)(a c b:za)(h:zb):Prop:=B.nilCheck a λd=>B.pv (V.fieldAddr 0 d) λe=>B.ld h e λf=>B.pv (V.zde f) λg=>B.pv (V.bin .lss b g) λi=>B.cond i (B.nilCheck a λj=>B.pv (V.fieldAddr 0 j) λk=>B.ld h k λl=>B.pv (V.zc9 4 l b) λm=>B.pv (V.fieldAddr 0 m) λn=>B.ld h n λo=>B.call C (N 520) [c,o] h λp h=>B.pv (V.bin .add b (.int .i64 1)) λq=>Y3 [p,q] h) (z3 (zo.l5 C N Q a c) [(.int .i64 0)] h)
@[simp] def zo.l7(Q:zQ)(a:za):zG|[b,c],h,Y3=>zo.k6 C N Q Y3 a b c h|_,_,_=>False
@[simp] def zo.cps(a:za)(h:zb)(Q:zQ):Prop:=z3 (zo.l7 C N Q a) [.zeg,(.int .i64 0)] h
def zo.Imp:Prop:=im1 C (N 504) (zo.cps C N)
@[simp] def zbn.k1(C:z5)(N:zN)(Q:zQ)(Y1:zL)(b o a:za)(h:zb):Prop:=B.nilCheck b λp=>B.pv (V.fieldAddr 0 p) λq=>B.ld h q λc=>B.pv (V.zde c) λd=>B.pv (V.bin .lss a d) λe=>B.cond e (B.nilCheck b λf=>B.pv (V.fieldAddr 0 f) λg=>B.ld h g λi=>B.pv (V.zc9 4 i a) λj=>B.pv (V.fieldAddr 0 j) λk=>B.ld h k λl=>B.pv (V.bin .eql l o) λm=>B.cond m (Q a h) (B.pv (V.bin .add a (.int .i64 1)) λn=>Y1 [n] h)) (Q (.int .i64 (-1)) h)
@[simp] def zbn.l2(Q:zQ)(a b:za):zG|[c],h,Y1=>zbn.k1 C N Q Y1 a b c h|_,_,_=>False
@[simp] def zbn.cps(a b:za)(h:zb)(Q:zQ):Prop:=z3 (zbn.l2 C N Q a b) [(.int .i64 0)] h
def zbn.Imp:Prop:=im2 C (N 516) (zbn.cps C N)
@[simp] def zdp.k1(C:z5)(N:zN)(Q:zQ)(b d c:za)(h:zb):Prop:=B.pv (V.zde b) λe=>B.pv (V.bin .lss c e) λa=>B.gd h a true (λK=>K b h) λf h=>B.gd h a true (λK=>K c h) λg h=>B.gd h a true (λK=>B.pv (V.zc9 1 f g) λv=>K v h) λi h=>B.gd h a true (λK=>B.ld h i λv=>K v h) λj h=>B.gd h a true (λK=>K d h) λk h=>B.gd h a true (λK=>B.pv (V.bin .eql j k) λv=>K v h) λl h=>B.pick a l (.bool false) λm=>B.cond m (Q b h) (B.pv (V.zh6 1 b none (some c)) λn=>B.ziz h 1 16 .sz n λo h=>B.zgn h (zez [(0,none,d)] (zh2 1 [.str []])) λp h=>B.ziz h 1 16 o (.sl p 0 0 1 1 1) λq h=>B.pv (V.zh6 1 b (some c) none) λr=>B.ziz h 1 16 q r λs h=>Q s h)
@[simp] def zdp.k2(Q:zQ)(Y1:zL)(c d b:za)(h:zb):Prop:=B.pv (V.zde c) λn=>B.pv (V.bin .lss b n) λa=>B.gd h a true (λK=>K c h) λe h=>B.gd h a true (λK=>K b h) λf h=>B.gd h a true (λK=>B.pv (V.zc9 1 e f) λv=>K v h) λg h=>B.gd h a true (λK=>B.ld h g λv=>K v h) λi h=>B.gd h a true (λK=>K d h) λj h=>B.gd h a true (λK=>B.pv (V.bin .lss i j) λv=>K v h) λk h=>B.pick a k (.bool false) λl=>B.cond l (B.pv (V.bin .add b (.int .i64 1)) λm=>Y1 [m] h) (zdp.k1 C N Q c d b h)
@[simp] def zdp.l3(Q:zQ)(a b:za):zG|[c],h,Y1=>zdp.k2 C N Q Y1 a b c h|_,_,_=>False
@[simp] def zdp.cps(a b:za)(h:zb)(Q:zQ):Prop:=z3 (zdp.l3 C N Q a b) [(.int .i64 0)] h
def zdp.Imp:Prop:=im2 C (N 517) (zdp.cps C N)
@[simp] def zdu.k1(Q:zQ)(r e s:za)(h:zb):Prop:=B.pv (A.boxN 4 r) λb=>B.al b (B.pv (V.zfc 1 b) λt=>B.call C (N 527) [t,e] h λa h=>B.al b (B.gd h a false (λK=>K .undef h) λ_ h=>B.gd h a false (λK=>B.pv (V.zfc 3 b) λv=>K v h) λf h=>B.gd h a false (λK=>B.pv (V.bin .gtr f (.int .i64 0)) λv=>K v h) λg h=>B.gd h a false (λK=>K g h) λc h=>B.al b (B.gd h c true (λK=>K .undef h) λ_ h=>B.gd h c true (λK=>B.pv (V.zfc 3 b) λv=>K v h) λi h=>B.gd h c true (λK=>K s h) λj h=>B.gd h c true (λK=>B.pv (V.bin .lss i j) λv=>K v h) λk h=>B.gd h a false (λK=>B.pick c k (.bool false) λv=>K v h) λl h=>B.gd h a false (λK=>K l h) λd h=>B.al b (B.gd h d true (λK=>K .undef h) λ_ h=>B.gd h d true (λK=>B.pv (V.zfc 2 b) λv=>K v h) λm h=>B.gd h d true (λK=>K e h) λn h=>B.gd h d true (λK=>B.call C (N 527) [m,n] h K) λo h=>B.gd h a false (λK=>B.pick d o (.bool false) λv=>K v h) λp h=>B.pick a (.bool true) p λq=>Q q h))))
@[simp] def zdu.cps(a b c:za)(h:zb)(Q:zQ):Prop:=zdu.k1 C N Q a b c h
def zdu.Imp:Prop:=im3 C (N 518) (zdu.cps C N)
@[simp] def zd1.k1(C:z5)(N:zN)(Q:zQ)(Y1:zL)(b g a:za)(h:zb):Prop:=B.pv (V.zde b) λi=>B.pv (V.bin .lss a i) λj=>B.cond j (B.pv (V.zc9 1 b a) λc=>B.ld h c λd=>B.pv (V.bin .eql d g) λe=>B.cond e (Q (.bool true) h) (B.pv (V.bin .add a (.int .i64 1)) λf=>Y1 [f] h)) (Q (.bool false) h)
@[simp] def zd1.l2(Q:zQ)(a b:za):zG|[c],h,Y1=>zd1.k1 C N Q Y1 a b c h|_,_,_=>False
@[simp] def zd1.cps(a b:za)(h:zb)(Q:zQ):Prop:=z3 (zd1.l2 C N Q a b) [(.int .i64 0)] h
def zd1.Imp:Prop:=im2 C (N 519) (zd1.cps C N)
@[simp] def zb0.k1(C:z5)(N:zN)(Q:zQ)(b d c:za)(h:zb):Prop:=B.pv (V.zde b) λe=>B.pv (V.bin .lss c e) λa=>B.gd h a true (λK=>K b h) λf h=>B.gd h a true (λK=>K c h) λg h=>B.gd h a true (λK=>B.pv (V.zc9 1 f g) λv=>K v h) λi h=>B.gd h a true (λK=>B.ld h i λv=>K v h) λj h=>B.gd h a true (λK=>K d h) λk h=>B.gd h a true (λK=>B.pv (V.bin .eql j k) λv=>K v h) λl h=>B.pick a l (.bool false) λm=>B.cond m (Q b h) (B.pv (V.zh6 1 b none (some c)) λn=>B.ziz h 1 8 .sz n λo h=>B.zgn h (zez [(0,none,d)] (zh2 1 [.int .i64 0])) λp h=>B.ziz h 1 8 o (.sl p 0 0 1 1 1) λq h=>B.pv (V.zh6 1 b (some c) none) λr=>B.ziz h 1 8 q r λs h=>Q s h)
@[simp] def zb0.k2(Q:zQ)(Y1:zL)(c d b:za)(h:zb):Prop:=B.pv (V.zde c) λn=>B.pv (V.bin .lss b n) λa=>B.gd h a true (λK=>K c h) λe h=>B.gd h a true (λK=>K b h) λf h=>B.gd h a true (λK=>B.pv (V.zc9 1 e f) λv=>K v h) λg h=>B.gd h a true (λK=>B.ld h g λv=>K v h) λi h=>B.gd h a true (λK=>K d h) λj h=>B.gd h a true (λK=>B.pv (V.bin .lss i j) λv=>K v h) λk h=>B.pick a k (.bool false) λl=>B.cond l (B.pv (V.bin .add b (.int .i64 1)) λm=>Y1 [m] h) (zb0.k1 C N Q c d b h)
@[simp] def zb0.l3(Q:zQ)(a b:za):zG|[c],h,Y1=>zb0.k2 C N Q Y1 a b c h|_,_,_=>False
@[simp] def zb0.cps(a b:za)(h:zb)(Q:zQ):Prop:=z3 (zb0.l3 C N Q a b) [(.int .i64 0)] h
def zb0.Imp:Prop:=im2 C (N 520) (zb0.cps C N)
@[simp] def zr.k1(Q:zQ)(Y1:zL)(Y2:zL)(Y3:zL)(m b n l c a:za)(h:zb):Prop:=B.pv (V.zde c) λd=>B.pv (V.bin .lss a d) λe=>B.cond e (B.pv (V.zc9 1 c a) λf=>B.ld h f λg=>B.call C (N 520) [b,g] h λi h=>B.pv (V.bin .add a (.int .i64 1)) λj=>Y3 [i,j] h) (B.pv (V.bin .add l (.int .i64 1)) λk=>Y2 [b,k] h)
@[simp] def zr.l2(Q:zQ)(Y1:zL)(Y2:zL)(a b c d:za):zG|[e,f],h,Y3=>zr.k1 C N Q Y1 Y2 Y3 a e b c d f h|_,_,_=>False
@[simp] def zr.k3(Q:zQ)(Y1:zL)(Y2:zL)(a b g c:za)(h:zb):Prop:=B.pv (V.zc9 1 b c) λd=>B.ld h d λe=>B.call C (N 503) [a,e] h λf h=>z3 (zr.l2 C N Q Y1 Y2 a g c f) [b,(.int .i64 0)] h
@[simp] def zr.l4(Q:zQ)(Y1:zL)(e a:za):zG|[b,c],h,Y2=>B.pv (V.bin .lss c a) λd=>B.cond d (zr.k3 C N Q Y1 Y2 e b a c h) (Y1 [b,a] h)|_,_,_=>False
@[simp] def zr.k5(Q:zQ)(Y1:zL)(e a f:za)(h:zb):Prop:=B.pv (V.zde a) λb=>B.pv (V.bin .neq f b) λc=>B.cond c (B.pv (V.zde a) λd=>z3 (zr.l4 C N Q Y1 e d) [a,(.int .i64 0)] h) (Q a h)
@[simp] def zr.l6(Q:zQ)(a:za):zG|[b,c],h,Y1=>zr.k5 C N Q Y1 a b c h|_,_,_=>False
@[simp] def zr.cps(a c:za)(h:zb)(Q:zQ):Prop:=B.call C (N 503) [a,c] h λb h=>z3 (zr.l6 C N Q a) [b,(.int .i64 (-1))] h
def zr.Imp:Prop:=im2 C (N 521) (zr.cps C N)
@[simp] def zdm.k1(C:z5)(N:zN)(Q:zQ)(Y1:zL)(b g a:za)(h:zb):Prop:=B.pv (V.zde b) λi=>B.pv (V.bin .lss a i) λj=>B.cond j (B.pv (V.zc9 1 b a) λc=>B.ld h c λd=>B.pv (V.bin .eql d g) λe=>B.cond e (Q (.bool true) h) (B.pv (V.bin .add a (.int .i64 1)) λf=>Y1 [f] h)) (Q (.bool false) h)
@[simp] def zdm.l2(Q:zQ)(a b:za):zG|[c],h,Y1=>zdm.k1 C N Q Y1 a b c h|_,_,_=>False
@[simp] def zdm.cps(a b:za)(h:zb)(Q:zQ):Prop:=z3 (zdm.l2 C N Q a b) [(.int .i64 0)] h
def zdm.Imp:Prop:=im2 C (N 522) (zdm.cps C N)
@[simp] def zc4.k1(Q:zQ)(Y1:zL)(b j a:za)(h:zb):Prop:=B.pv (V.zde b) λc=>B.pv (V.bin .lss a c) λd=>B.cond d (B.pv (V.zc9 1 b a) λe=>B.ld h e λf=>B.call C (N 519) [j,f] h λg h=>B.cond g (Q (.bool true) h) (B.pv (V.bin .add a (.int .i64 1)) λi=>Y1 [i] h)) (Q (.bool false) h)
@[simp] def zc4.l2(Q:zQ)(a b:za):zG|[c],h,Y1=>zc4.k1 C N Q Y1 a b c h|_,_,_=>False
@[simp] def zc4.k3(Q:zQ)(b c:za)(h:zb):Prop:=B.call C (N 519) [b,(.str [42])] h λa h=>B.gd h a false (λK=>K c h) λd h=>B.gd h a false (λK=>B.call C (N 519) [d,(.str [42])] h K) λe h=>B.pick a (.bool true) e λf=>B.cond f (Q (.bool true) h) (z3 (zc4.l2 C N Q b c) [(.int .i64 0)] h)
@[simp] def zc4.k4(Q:zQ)(b c:za)(h:zb):Prop:=B.pv (V.zde b) λi=>B.pv (V.bin .eql i (.int .i64 0)) λa=>B.gd h a false (λK=>K c h) λd h=>B.gd h a false (λK=>B.pv (V.zde d) λv=>K v h) λe h=>B.gd h a false (λK=>B.pv (V.bin .eql e (.int .i64 0)) λv=>K v h) λf h=>B.pick a (.bool true) f λg=>B.cond g (Q (.bool false) h) (zc4.k3 C N Q b c h)
@[simp] def zc4.cps(a b:za)(h:zb)(Q:zQ):Prop:=zc4.k4 C N Q a b h
def zc4.Imp:Prop:=im2 C (N 527) (zc4.cps C N)
@[simp] def zf8.k1(C:z5)(E:zbb)(f1 f2:Nat)(Q:zQ)(a:za)(h:zb):Prop:=B.pv (V.zde a) λb=>B.pv (V.toInt .u64 b) λc=>B.call C f1 [c] h λd h=>B.call C f2 [a,(.int .i64 0),b,d] h λe h=>Q (.tup []) h
@[simp] def zf8.cps(C:z5)(E:zbb)(f1 f2:Nat)(a:za)(h:zb)(Q:zQ):Prop:=zf8.k1 C E f1 f2 Q a h
@[simp] def zn.k1(C:z5)(E:zbb)(f1 f2 f3 f4 f5 f6 f7 f8 f9 f10:Nat)(Q:zQ)(Y1:zL)(d c e f v8 v9 s g:za)(h:zb):Prop:=B.pv (V.bin .gtr c (.int .i64 0)) λa=>B.gd h a true (λK=>K d h) λt h=>B.gd h a true (λK=>K c h) λu h=>B.gd h a true (λK=>B.pv (V.bin .sub u (.int .i64 1)) λv=>K v h) λw h=>B.gd h a true (λK=>B.pv (V.zc9 E.es t w) λv=>K v h) λx h=>B.gd h a true (λK=>E.ld h x λv=>K v h) λy h=>B.gd h a true (λK=>K d h) λz h=>B.gd h a true (λK=>K g h) λaa h=>B.gd h a true (λK=>B.pv (V.zc9 E.es z aa) λv=>K v h) λab h=>B.gd h a true (λK=>E.ld h ab λv=>K v h) λac h=>B.gd h a true (λK=>B.call C f1 [y,ac] h K) λad h=>B.gd h a true (λK=>B.pv (V.un .not ad) λv=>K v h) λae h=>B.pick a ae (.bool false) λaf=>B.cond af (B.call C f2 [d,c,e,g] h λag h=>Y1 [ag,e,f,v8,v9] h) (B.call C f3 [d,c,e,g] h λm h=>B.pv (V.ext 0 m) λb=>B.pv (V.ext 1 m) λi=>B.pv (V.bin .sub b c) λj=>B.pv (V.bin .sub e b) λk=>B.pv (V.bin .quo s (.int .i64 8)) λl=>B.pv (V.bin .lss j k) λn=>B.cond n (B.pv (V.bin .geq j l) λo=>B.call C f4 [d,c,b,f] h λaj h=>B.pv (V.bin .add b (.int .i64 1)) λp=>Y1 [p,e,f,o,i] h) (B.pv (V.bin .geq k l) λq=>B.pv (V.bin .add b (.int .i64 1)) λr=>B.call C f4 [d,r,e,f] h λak h=>Y1 [c,b,f,q,i] h))
@[simp] def zn.k2(C:z5)(E:zbb)(f1 f2 f3 f4 f5 f6 f7 f8 f9 f10:Nat)(Q:zQ)(Y1:zL)(e f g j b i c d k:za)(h:zb):Prop:=B.gd h b true (λK=>K i h) λl h=>B.pick b l (.bool false) λa=>B.gd h a true (λK=>K k h) λm h=>B.gd h a true (λK=>B.pv (V.bin .eql m (.int .i64 1)) λv=>K v h) λn h=>B.pick a n (.bool false) λo=>B.cond o (B.call C f5 [e,f,g] h λp h=>B.cond p (Q (.tup []) h) (zn.k1 C E f1 f2 f3 f4 f5 f6 f7 f8 f9 f10 Q Y1 e f g j b i c d h)) (zn.k1 C E f1 f2 f3 f4 f5 f6 f7 f8 f9 f10 Q Y1 e f g j b i c d h)
@[simp] def zn.k3(C:z5)(E:zbb)(f1 f2 f3 f4 f5 f6 f7 f8 f9 f10:Nat)(Q:zQ)(Y1:zL)(f a b g i j c d e:za)(h:zb):Prop:=B.pv (V.bin .eql e (.int .i64 2)) λk=>B.cond k (B.call C f6 [f,a,b] h λo h=>B.pv (V.bin .sub b (.int .i64 1)) λl=>B.pv (V.bin .sub d a) λm=>B.pv (V.bin .sub l m) λn=>zn.k2 C E f1 f2 f3 f4 f5 f6 f7 f8 f9 f10 Q Y1 f a b g i j c n (.int .i64 1) h) (zn.k2 C E f1 f2 f3 f4 f5 f6 f7 f8 f9 f10 Q Y1 f a b g i j c d e h)
@[simp] def zn.k4(C:z5)(E:zbb)(f1 f2 f3 f4 f5 f6 f7 f8 f9 f10:Nat)(Q:zQ)(Y1:zL)(b c d i j k e:za)(h:zb):Prop:=B.call C f7 [b,c,d] h λa h=>B.pv (V.ext 0 a) λf=>B.pv (V.ext 1 a) λg=>zn.k3 C E f1 f2 f3 f4 f5 f6 f7 f8 f9 f10 Q Y1 b c d i j k e f g h
@[simp] def zn.k5(C:z5)(E:zbb)(f1 f2 f3 f4 f5 f6 f7 f8 f9 f10:Nat)(Q:zQ)(Y1:zL)(b c d f e g a:za)(h:zb):Prop:=B.pv (V.un .not e) λi=>B.cond i (B.call C f8 [b,c,d] h λk h=>B.pv (V.bin .sub f (.int .i64 1)) λj=>zn.k4 C E f1 f2 f3 f4 f5 f6 f7 f8 f9 f10 Q Y1 b c d j e g a h) (zn.k4 C E f1 f2 f3 f4 f5 f6 f7 f8 f9 f10 Q Y1 b c d f e g a h)
@[simp] def zn.k6(C:z5)(E:zbb)(f1 f2 f3 f4 f5 f6 f7 f8 f9 f10:Nat)(Q:zQ)(Y1:zL)(a b c d g i e:za)(h:zb):Prop:=B.pv (V.bin .eql d (.int .i64 0)) λf=>B.cond f (B.call C f9 [a,b,c] h λj h=>Q (.tup []) h) (zn.k5 C E f1 f2 f3 f4 f5 f6 f7 f8 f9 f10 Q Y1 a b c d g i e h)
@[simp] def zn.k7(C:z5)(E:zbb)(f1 f2 f3 f4 f5 f6 f7 f8 f9 f10:Nat)(Q:zQ)(Y1:zL)(b c d f g i a:za)(h:zb):Prop:=B.pv (V.bin .leq a (.int .i64 12)) λe=>B.cond e (B.call C f10 [b,c,d] h λj h=>Q (.tup []) h) (zn.k6 C E f1 f2 f3 f4 f5 f6 f7 f8 f9 f10 Q Y1 b c d f g i a h)
@[simp] def zn.l8(C:z5)(E:zbb)(f1 f2 f3 f4 f5 f6 f7 f8 f9 f10:Nat)(Q:zQ)(d:za):zG|[a,b,e,f,g],h,Y1=>B.pv (V.bin .sub b a) λc=>zn.k7 C E f1 f2 f3 f4 f5 f6 f7 f8 f9 f10 Q Y1 d a b e f g c h|_,_,_=>False
@[simp] def zn.cps(C:z5)(E:zbb)(f1 f2 f3 f4 f5 f6 f7 f8 f9 f10:Nat)(a b c d:za)(h:zb)(Q:zQ):Prop:=z3 (zn.l8 C E f1 f2 f3 f4 f5 f6 f7 f8 f9 f10 Q a) [b,c,d,(.bool true),(.bool true)] h
@[simp] def z6.k1(C:z5)(E:zbb)(f1:Nat)(Q:zQ)(Y1:zL)(Y2:zL)(c v1 v2 v6 b:za)(h:zb):Prop:=B.pv (V.bin .gtr b v1) λa=>B.gd h a true (λK=>K c h) λd h=>B.gd h a true (λK=>K b h) λe h=>B.gd h a true (λK=>B.pv (V.zc9 E.es d e) λv=>K v h) λf h=>B.gd h a true (λK=>E.ld h f λv=>K v h) λg h=>B.gd h a true (λK=>K c h) λi h=>B.gd h a true (λK=>K b h) λj h=>B.gd h a true (λK=>B.pv (V.bin .sub j (.int .i64 1)) λv=>K v h) λk h=>B.gd h a true (λK=>B.pv (V.zc9 E.es i k) λv=>K v h) λl h=>B.gd h a true (λK=>E.ld h l λv=>K v h) λm h=>B.gd h a true (λK=>B.call C f1 [g,m] h K) λn h=>B.pick a n (.bool false) λo=>B.cond o (B.pv (V.bin .sub b (.int .i64 1)) λp=>B.pv (V.bin .sub b (.int .i64 1)) λq=>B.pv (V.zc9 E.es c q) λr=>E.ld h r λs=>B.pv (V.zc9 E.es c b) λt=>E.ld h t λu=>B.pv (V.zc9 E.es c b) λw=>E.st h w s λh=>B.pv (V.zc9 E.es c p) λx=>E.st h x u λh=>B.pv (V.bin .sub b (.int .i64 1)) λy=>Y2 [y] h) (B.pv (V.bin .add v6 (.int .i64 1)) λz=>Y1 [z] h)
@[simp] def z6.l2(C:z5)(E:zbb)(f1:Nat)(Q:zQ)(Y1:zL)(a b c d:za):zG|[e],h,Y2=>z6.k1 C E f1 Q Y1 Y2 a b c d e h|_,_,_=>False
@[simp] def z6.l3(C:z5)(E:zbb)(f1:Nat)(Q:zQ)(d e b:za):zG|[a],h,Y1=>B.pv (V.bin .lss a b) λc=>B.cond c (z3 (z6.l2 C E f1 Q Y1 d e b a) [a] h) (Q (.tup []) h)|_,_,_=>False
@[simp] def z6.cps(C:z5)(E:zbb)(f1:Nat)(b a c:za)(h:zb)(Q:zQ):Prop:=B.pv (V.bin .add a (.int .i64 1)) λd=>z3 (z6.l3 C E f1 Q b a c) [d] h
@[simp] def zx.k1(C:z5)(E:zbb)(f1:Nat)(Q:zQ)(Y1:zL)(b c o a:za)(h:zb):Prop:=B.pv (V.bin .geq a (.int .i64 0)) λd=>B.cond d (B.pv (V.bin .add c a) λe=>B.pv (V.bin .add c a) λf=>B.pv (V.zc9 E.es b f) λg=>E.ld h g λi=>B.pv (V.zc9 E.es b c) λj=>E.ld h j λk=>B.pv (V.zc9 E.es b c) λl=>E.st h l i λh=>B.pv (V.zc9 E.es b e) λm=>E.st h m k λh=>B.call C f1 [b,o,a,c] h λp h=>B.pv (V.bin .sub a (.int .i64 1)) λn=>Y1 [n] h) (Q (.tup []) h)
@[simp] def zx.l2(C:z5)(E:zbb)(f1:Nat)(Q:zQ)(b c d:za):zG|[a],h,Y1=>zx.k1 C E f1 Q Y1 b c d a h|_,_,_=>False
@[simp] def zx.k3(C:z5)(E:zbb)(f1:Nat)(Q:zQ)(Y2:zL)(b c i d a:za)(h:zb):Prop:=B.pv (V.bin .geq a (.int .i64 0)) λe=>B.cond e (B.call C f1 [b,a,d,c] h λj h=>B.pv (V.bin .sub a (.int .i64 1)) λf=>Y2 [f] h) (B.pv (V.bin .sub d (.int .i64 1)) λg=>z3 (zx.l2 C E f1 Q b c i) [g] h)
@[simp] def zx.l4(C:z5)(E:zbb)(f1:Nat)(Q:zQ)(a b c d:za):zG|[e],h,Y2=>zx.k3 C E f1 Q Y2 a b c d e h|_,_,_=>False
@[simp] def zx.k5(C:z5)(E:zbb)(f1:Nat)(Q:zQ)(d e f a:za)(h:zb):Prop:=B.pv (V.bin .sub a (.int .i64 1)) λb=>B.pv (V.bin .quo b (.int .i64 2)) λc=>z3 (zx.l4 C E f1 Q d e f a) [c] h
@[simp] def zx.cps(C:z5)(E:zbb)(f1:Nat)(c a d:za)(h:zb)(Q:zQ):Prop:=B.pv (V.bin .sub d a) λb=>zx.k5 C E f1 Q c a (.int .i64 0) b h
@[simp] def zi.k1(C:z5)(E:zbb)(f1 f2:Nat)(Q:zQ)(Y1:zL)(a d o p q c b:za)(h:zb):Prop:=B.pv (V.bin .add d b) λe=>B.pv (V.bin .add d b) λf=>B.pv (V.zc9 E.es a f) λg=>E.ld h g λi=>B.pv (V.zc9 E.es a c) λj=>E.ld h j λk=>B.pv (V.zc9 E.es a c) λl=>E.st h l i λh=>B.pv (V.zc9 E.es a e) λm=>E.st h m k λh=>B.pv (V.bin .add c (.int .i64 1)) λn=>Y1 [n] h
@[simp] def zi.k2(C:z5)(E:zbb)(f1 f2:Nat)(Q:zQ)(Y1:zL)(c d b e f g a:za)(h:zb):Prop:=B.pv (V.bin .geq a b) λi=>B.cond i (B.pv (V.bin .sub a b) λj=>zi.k1 C E f1 f2 Q Y1 c d b e f g j h) (zi.k1 C E f1 f2 Q Y1 c d b e f g a h)
@[simp] def zi.k3(C:z5)(E:zbb)(f1 f2:Nat)(Q:zQ)(Y1:zL)(g i j a b k:za)(h:zb):Prop:=B.call C f1 [a] h λc h=>B.pv (V.bin .sub b (.int .u64 1)) λd=>B.pv (V.bin .and c d) λe=>B.pv (V.toInt .i64 e) λf=>zi.k2 C E f1 f2 Q Y1 g i j a b k f h
@[simp] def zi.k4(C:z5)(E:zbb)(f1 f2:Nat)(Q:zQ)(Y1:zL)(j a b k l c:za)(h:zb):Prop:=B.pv (V.bin .quo b (.int .i64 4)) λd=>B.pv (V.bin .mul d (.int .i64 2)) λe=>B.pv (V.bin .add a e) λf=>B.pv (V.bin .add f (.int .i64 1)) λg=>B.pv (V.bin .leq c g) λi=>B.cond i (zi.k3 C E f1 f2 Q Y1 j a b k l c h) (Q (.tup []) h)
@[simp] def zi.l5(C:z5)(E:zbb)(f1 f2:Nat)(Q:zQ)(a b c d e:za):zG|[f],h,Y1=>zi.k4 C E f1 f2 Q Y1 a b c d e f h|_,_,_=>False
@[simp] def zi.k6(C:z5)(E:zbb)(f1 f2:Nat)(Q:zQ)(g a b i j:za)(h:zb):Prop:=B.pv (V.bin .quo b (.int .i64 4)) λc=>B.pv (V.bin .mul c (.int .i64 2)) λd=>B.pv (V.bin .add a d) λe=>B.pv (V.bin .sub e (.int .i64 1)) λf=>z3 (zi.l5 C E f1 f2 Q g a b i j) [f] h
@[simp] def zi.k7(C:z5)(E:zbb)(f1 f2:Nat)(Q:zQ)(e f a:za)(h:zb):Prop:=B.pv (V.toInt .u64 a) λb=>B.zgn h (some [.int .u64 0]) λc h=>B.st h (.ptr c 0 0) b λh=>B.call C f2 [a] h λd h=>zi.k6 C E f1 f2 Q e f a (.ptr c 0 0) d h
@[simp] def zi.k8(C:z5)(E:zbb)(f1 f2:Nat)(Q:zQ)(d b e:za)(h:zb):Prop:=B.pv (V.bin .sub e b) λa=>B.pv (V.bin .geq a (.int .i64 8)) λc=>B.cond c (zi.k7 C E f1 f2 Q d b a h) (Q (.tup []) h)
@[simp] def zi.cps(C:z5)(E:zbb)(f1 f2:Nat)(a b c:za)(h:zb)(Q:zQ):Prop:=zi.k8 C E f1 f2 Q a b c h
@[simp] def zp.k1(C:z5)(E:zbb)(f1 f2:Nat)(Q:zQ)(e a:za)(h:zb):Prop:=B.ld h e λb=>B.pv (V.bin .eql b (.int .i64 0)) λc=>B.cond c (Q (.tup [a,(.int .i64 1)]) h) (B.pv (V.bin .eql b (.int .i64 12)) λd=>B.cond d (Q (.tup [a,(.int .i64 2)]) h) (Q (.tup [a,(.int .i64 0)]) h))
@[simp] def zp.k2(C:z5)(E:zbb)(f1 f2:Nat)(Q:zQ)(b g a e c f:za)(h:zb):Prop:=B.pv (V.bin .geq g (.int .i64 8)) λi=>B.cond i (B.pv (V.bin .geq g (.int .i64 50)) λj=>B.cond j (B.call C f1 [b,e,a] h λk h=>B.call C f1 [b,c,a] h λl h=>B.call C f1 [b,f,a] h λm h=>B.call C f2 [b,k,l,m,a] h λd h=>zp.k1 C E f1 f2 Q a d h) (B.call C f2 [b,e,c,f,a] h λd h=>zp.k1 C E f1 f2 Q a d h)) (zp.k1 C E f1 f2 Q a c h)
@[simp] def zp.k3(C:z5)(E:zbb)(f1 f2:Nat)(Q:zQ)(g i a j b c:za)(h:zb):Prop:=B.pv (V.bin .quo a (.int .i64 4)) λd=>B.pv (V.bin .mul d (.int .i64 3)) λe=>B.pv (V.bin .add i e) λf=>zp.k2 C E f1 f2 Q g a j b c f h
@[simp] def zp.k4(C:z5)(E:zbb)(f1 f2:Nat)(Q:zQ)(g a b i c:za)(h:zb):Prop:=B.pv (V.bin .quo b (.int .i64 4)) λd=>B.pv (V.bin .mul d (.int .i64 2)) λe=>B.pv (V.bin .add a e) λf=>zp.k3 C E f1 f2 Q g a b i c f h
@[simp] def zp.k5(C:z5)(E:zbb)(f1 f2:Nat)(Q:zQ)(f a b g:za)(h:zb):Prop:=B.pv (V.bin .quo b (.int .i64 4)) λc=>B.pv (V.bin .mul c (.int .i64 1)) λd=>B.pv (V.bin .add a d) λe=>zp.k4 C E f1 f2 Q f a b g e h
@[simp] def zp.cps(C:z5)(E:zbb)(f1 f2:Nat)(c a d:za)(h:zb)(Q:zQ):Prop:=B.pv (V.bin .sub d a) λb=>B.zgn h (some [.int .i64 0]) λe h=>zp.k5 C E f1 f2 Q c a b (.ptr e 0 0) h
@[simp] def zbx.k1(C:z5)(E:zbb)(Q:zQ)(Y1:zL)(a b c:za)(h:zb):Prop:=B.pv (V.bin .lss b c) λd=>B.cond d (B.pv (V.zc9 E.es a c) λe=>E.ld h e λf=>B.pv (V.zc9 E.es a b) λg=>E.ld h g λi=>B.pv (V.zc9 E.es a b) λj=>E.st h j f λh=>B.pv (V.zc9 E.es a c) λk=>E.st h k i λh=>B.pv (V.bin .add b (.int .i64 1)) λl=>B.pv (V.bin .sub c (.int .i64 1)) λm=>Y1 [l,m] h) (Q (.tup []) h)
@[simp] def zbx.l2(C:z5)(E:zbb)(Q:zQ)(a:za):zG|[b,c],h,Y1=>zbx.k1 C E Q Y1 a b c h|_,_,_=>False
@[simp] def zbx.cps(C:z5)(E:zbb)(b c d:za)(h:zb)(Q:zQ):Prop:=B.pv (V.bin .sub d (.int .i64 1)) λa=>z3 (zbx.l2 C E Q b) [c,a] h
@[simp] def zd.k1(C:z5)(E:zbb)(f1:Nat)(Q:zQ)(Y1:zL)(Y2:zL)(b y x v w a:za)(h:zb):Prop:=B.pv (V.bin .lss a x) λd=>B.cond d (B.pv (V.zc9 E.es b a) λe=>E.ld h e λf=>B.pv (V.bin .sub a (.int .i64 1)) λg=>B.pv (V.zc9 E.es b g) λi=>E.ld h i λj=>B.call C f1 [f,j] h λk h=>B.pv (V.un .not k) λl=>B.cond l (B.pv (V.bin .add w (.int .i64 1)) λc=>Y1 [v,c] h) (B.pv (V.bin .sub a (.int .i64 1)) λm=>B.pv (V.bin .sub a (.int .i64 1)) λn=>B.pv (V.zc9 E.es b n) λo=>E.ld h o λp=>B.pv (V.zc9 E.es b a) λq=>E.ld h q λr=>B.pv (V.zc9 E.es b a) λs=>E.st h s p λh=>B.pv (V.zc9 E.es b m) λt=>E.st h t r λh=>B.pv (V.bin .add a (.int .i64 1)) λu=>Y2 [u] h)) (B.pv (V.bin .add w (.int .i64 1)) λc=>Y1 [v,c] h)
@[simp] def zd.l2(C:z5)(E:zbb)(f1:Nat)(Q:zQ)(Y1:zL)(b c d e f:za):zG|[a],h,Y2=>zd.k1 C E f1 Q Y1 Y2 b c d e f a h|_,_,_=>False
@[simp] def zd.k3(C:z5)(E:zbb)(f1:Nat)(Q:zQ)(Y1:zL)(i j c a d:za)(h:zb):Prop:=B.pv (V.bin .sub c a) λe=>B.pv (V.bin .geq e (.int .i64 2)) λf=>B.cond f (B.pv (V.bin .add a (.int .i64 1)) λb=>z3 (zd.l2 C E f1 Q Y1 i j c a d) [b] h) (B.pv (V.bin .add d (.int .i64 1)) λg=>Y1 [a,g] h)
@[simp] def zd.k4(C:z5)(E:zbb)(f1:Nat)(Q:zQ)(Y1:zL)(Y3:zL)(a c d e f b:za)(h:zb):Prop:=B.pv (V.bin .geq b (.int .i64 1)) λg=>B.cond g (B.pv (V.zc9 E.es a b) λi=>E.ld h i λj=>B.pv (V.bin .sub b (.int .i64 1)) λk=>B.pv (V.zc9 E.es a k) λl=>E.ld h l λm=>B.call C f1 [j,m] h λn h=>B.pv (V.un .not n) λo=>B.cond o (zd.k3 C E f1 Q Y1 a c d e f h) (B.pv (V.bin .sub b (.int .i64 1)) λp=>B.pv (V.bin .sub b (.int .i64 1)) λq=>B.pv (V.zc9 E.es a q) λr=>E.ld h r λs=>B.pv (V.zc9 E.es a b) λt=>E.ld h t λu=>B.pv (V.zc9 E.es a b) λv=>E.st h v s λh=>B.pv (V.zc9 E.es a p) λw=>E.st h w u λh=>B.pv (V.bin .sub b (.int .i64 1)) λx=>Y3 [x] h)) (zd.k3 C E f1 Q Y1 a c d e f h)
@[simp] def zd.l5(C:z5)(E:zbb)(f1:Nat)(Q:zQ)(Y1:zL)(a b c d e:za):zG|[f],h,Y3=>zd.k4 C E f1 Q Y1 Y3 a b c d e f h|_,_,_=>False
@[simp] def zd.k6(C:z5)(E:zbb)(f1:Nat)(Q:zQ)(Y1:zL)(c b d a e:za)(h:zb):Prop:=B.pv (V.bin .sub a b) λf=>B.pv (V.bin .geq f (.int .i64 2)) λg=>B.cond g (B.pv (V.bin .sub a (.int .i64 1)) λi=>z3 (zd.l5 C E f1 Q Y1 c b d a e) [i] h) (zd.k3 C E f1 Q Y1 c b d a e h)
@[simp] def zd.k7(C:z5)(E:zbb)(f1:Nat)(Q:zQ)(Y1:zL)(a l m b n:za)(h:zb):Prop:=B.pv (V.bin .sub b (.int .i64 1)) λc=>B.pv (V.bin .sub b (.int .i64 1)) λd=>B.pv (V.zc9 E.es a d) λe=>E.ld h e λf=>B.pv (V.zc9 E.es a b) λg=>E.ld h g λi=>B.pv (V.zc9 E.es a b) λj=>E.st h j f λh=>B.pv (V.zc9 E.es a c) λk=>E.st h k i λh=>zd.k6 C E f1 Q Y1 a l m b n h
@[simp] def zd.k8(C:z5)(E:zbb)(f1:Nat)(Q:zQ)(Y1:zL)(e a b f g:za)(h:zb):Prop:=B.pv (V.bin .sub b a) λc=>B.pv (V.bin .lss c (.int .i64 50)) λd=>B.cond d (Q (.bool false) h) (zd.k7 C E f1 Q Y1 e a b f g h)
@[simp] def zd.k9(C:z5)(E:zbb)(f1:Nat)(Q:zQ)(Y1:zL)(Y4:zL)(c t d b u:za)(h:zb):Prop:=B.pv (V.bin .lss b d) λa=>B.gd h a true (λK=>K c h) λe h=>B.gd h a true (λK=>K b h) λf h=>B.gd h a true (λK=>B.pv (V.zc9 E.es e f) λv=>K v h) λg h=>B.gd h a true (λK=>E.ld h g λv=>K v h) λi h=>B.gd h a true (λK=>K c h) λj h=>B.gd h a true (λK=>K b h) λk h=>B.gd h a true (λK=>B.pv (V.bin .sub k (.int .i64 1)) λv=>K v h) λl h=>B.gd h a true (λK=>B.pv (V.zc9 E.es j l) λv=>K v h) λm h=>B.gd h a true (λK=>E.ld h m λv=>K v h) λn h=>B.gd h a true (λK=>B.call C f1 [i,n] h K) λo h=>B.gd h a true (λK=>B.pv (V.un .not o) λv=>K v h) λp h=>B.pick a p (.bool false) λq=>B.cond q (B.pv (V.bin .add b (.int .i64 1)) λr=>Y4 [r] h) (B.pv (V.bin .eql b d) λs=>B.cond s (Q (.bool true) h) (zd.k8 C E f1 Q Y1 c t d b u h))
@[simp] def zd.l10(C:z5)(E:zbb)(f1:Nat)(Q:zQ)(Y1:zL)(a b c d:za):zG|[e],h,Y4=>zd.k9 C E f1 Q Y1 Y4 a b c e d h|_,_,_=>False
@[simp] def zd.k11(C:z5)(E:zbb)(f1:Nat)(Q:zQ)(Y1:zL)(c d e f a:za)(h:zb):Prop:=B.pv (V.bin .lss a (.int .i64 5)) λb=>B.cond b (z3 (zd.l10 C E f1 Q Y1 c d e a) [f] h) (Q (.bool false) h)
@[simp] def zd.l12(C:z5)(E:zbb)(f1:Nat)(Q:zQ)(a b c:za):zG|[d,e],h,Y1=>zd.k11 C E f1 Q Y1 a b c d e h|_,_,_=>False
@[simp] def zd.cps(C:z5)(E:zbb)(f1:Nat)(c a d:za)(h:zb)(Q:zQ):Prop:=B.pv (V.bin .add a (.int .i64 1)) λb=>z3 (zd.l12 C E f1 Q c a d) [b,(.int .i64 0)] h
@[simp] def zk.k1(C:z5)(E:zbb)(f1:Nat)(Q:zQ)(Y1:zL)(c n b a:za)(h:zb):Prop:=B.pv (V.bin .gtr b a) λd=>B.cond d (Q b h) (B.pv (V.zc9 E.es c a) λe=>E.ld h e λf=>B.pv (V.zc9 E.es c b) λg=>E.ld h g λi=>B.pv (V.zc9 E.es c b) λj=>E.st h j f λh=>B.pv (V.zc9 E.es c a) λk=>E.st h k i λh=>B.pv (V.bin .add b (.int .i64 1)) λl=>B.pv (V.bin .sub a (.int .i64 1)) λm=>Y1 [l,m] h)
@[simp] def zk.k2(C:z5)(E:zbb)(f1:Nat)(Q:zQ)(Y1:zL)(Y2:zL)(c d e b:za)(h:zb):Prop:=B.pv (V.bin .leq e b) λa=>B.gd h a true (λK=>K c h) λf h=>B.gd h a true (λK=>K d h) λg h=>B.gd h a true (λK=>B.pv (V.zc9 E.es f g) λv=>K v h) λi h=>B.gd h a true (λK=>E.ld h i λv=>K v h) λj h=>B.gd h a true (λK=>K c h) λk h=>B.gd h a true (λK=>K b h) λl h=>B.gd h a true (λK=>B.pv (V.zc9 E.es k l) λv=>K v h) λm h=>B.gd h a true (λK=>E.ld h m λv=>K v h) λn h=>B.gd h a true (λK=>B.call C f1 [j,n] h K) λo h=>B.pick a o (.bool false) λp=>B.cond p (B.pv (V.bin .sub b (.int .i64 1)) λq=>Y2 [q] h) (zk.k1 C E f1 Q Y1 c d e b h)
@[simp] def zk.l3(C:z5)(E:zbb)(f1:Nat)(Q:zQ)(Y1:zL)(b c d:za):zG|[a],h,Y2=>zk.k2 C E f1 Q Y1 Y2 b c d a h|_,_,_=>False
@[simp] def zk.k4(C:z5)(E:zbb)(f1:Nat)(Q:zQ)(Y1:zL)(Y3:zL)(d e b c:za)(h:zb):Prop:=B.pv (V.bin .leq b c) λa=>B.gd h a true (λK=>K d h) λf h=>B.gd h a true (λK=>K e h) λg h=>B.gd h a true (λK=>B.pv (V.zc9 E.es f g) λv=>K v h) λi h=>B.gd h a true (λK=>E.ld h i λv=>K v h) λj h=>B.gd h a true (λK=>K d h) λk h=>B.gd h a true (λK=>K b h) λl h=>B.gd h a true (λK=>B.pv (V.zc9 E.es k l) λv=>K v h) λm h=>B.gd h a true (λK=>E.ld h m λv=>K v h) λn h=>B.gd h a true (λK=>B.call C f1 [j,n] h K) λo h=>B.gd h a true (λK=>B.pv (V.un .not o) λv=>K v h) λp h=>B.pick a p (.bool false) λq=>B.cond q (B.pv (V.bin .add b (.int .i64 1)) λr=>Y3 [r] h) (z3 (zk.l3 C E f1 Q Y1 d e b) [c] h)
@[simp] def zk.l5(C:z5)(E:zbb)(f1:Nat)(Q:zQ)(Y1:zL)(b c a:za):zG|[d],h,Y3=>zk.k4 C E f1 Q Y1 Y3 b c d a h|_,_,_=>False
@[simp] def zk.l6(C:z5)(E:zbb)(f1:Nat)(Q:zQ)(b c:za):zG|[d,a],h,Y1=>z3 (zk.l5 C E f1 Q Y1 b c a) [d] h|_,_,_=>False
@[simp] def zk.k7(C:z5)(E:zbb)(f1:Nat)(Q:zQ)(d a e:za)(h:zb):Prop:=B.pv (V.bin .add a (.int .i64 1)) λb=>B.pv (V.bin .sub e (.int .i64 1)) λc=>z3 (zk.l6 C E f1 Q d a) [b,c] h
@[simp] def zk.k8(C:z5)(E:zbb)(f1:Nat)(Q:zQ)(a b k c:za)(h:zb):Prop:=B.pv (V.zc9 E.es a c) λd=>E.ld h d λe=>B.pv (V.zc9 E.es a b) λf=>E.ld h f λg=>B.pv (V.zc9 E.es a b) λi=>E.st h i e λh=>B.pv (V.zc9 E.es a c) λj=>E.st h j g λh=>zk.k7 C E f1 Q a b k h
@[simp] def zk.cps(C:z5)(E:zbb)(f1:Nat)(a b c d:za)(h:zb)(Q:zQ):Prop:=zk.k8 C E f1 Q a b c d h
@[simp] def ze.k1(C:z5)(E:zbb)(f1:Nat)(Q:zQ)(b j a:za)(h:zb):Prop:=B.pv (V.zc9 E.es b j) λc=>E.ld h c λd=>B.pv (V.zc9 E.es b a) λe=>E.ld h e λf=>B.pv (V.zc9 E.es b a) λg=>E.st h g d λh=>B.pv (V.zc9 E.es b j) λi=>E.st h i f λh=>Q (.tup [a,(.bool false)]) h
@[simp] def ze.k2(C:z5)(E:zbb)(f1:Nat)(Q:zQ)(Y1:zL)(c n b a:za)(h:zb):Prop:=B.pv (V.bin .gtr b a) λd=>B.cond d (ze.k1 C E f1 Q c n a h) (B.pv (V.zc9 E.es c a) λe=>E.ld h e λf=>B.pv (V.zc9 E.es c b) λg=>E.ld h g λi=>B.pv (V.zc9 E.es c b) λj=>E.st h j f λh=>B.pv (V.zc9 E.es c a) λk=>E.st h k i λh=>B.pv (V.bin .add b (.int .i64 1)) λl=>B.pv (V.bin .sub a (.int .i64 1)) λm=>Y1 [l,m] h)
@[simp] def ze.k3(C:z5)(E:zbb)(f1:Nat)(Q:zQ)(Y1:zL)(Y2:zL)(d r c b:za)(h:zb):Prop:=B.pv (V.bin .leq c b) λa=>B.gd h a true (λK=>K d h) λe h=>B.gd h a true (λK=>K b h) λf h=>B.gd h a true (λK=>B.pv (V.zc9 E.es e f) λv=>K v h) λg h=>B.gd h a true (λK=>E.ld h g λv=>K v h) λi h=>B.gd h a true (λK=>K d h) λj h=>B.gd h a true (λK=>K r h) λk h=>B.gd h a true (λK=>B.pv (V.zc9 E.es j k) λv=>K v h) λl h=>B.gd h a true (λK=>E.ld h l λv=>K v h) λm h=>B.gd h a true (λK=>B.call C f1 [i,m] h K) λn h=>B.gd h a true (λK=>B.pv (V.un .not n) λv=>K v h) λo h=>B.pick a o (.bool false) λp=>B.cond p (B.pv (V.bin .sub b (.int .i64 1)) λq=>Y2 [q] h) (ze.k2 C E f1 Q Y1 d r c b h)
@[simp] def ze.l4(C:z5)(E:zbb)(f1:Nat)(Q:zQ)(Y1:zL)(c d a:za):zG|[b],h,Y2=>ze.k3 C E f1 Q Y1 Y2 c d a b h|_,_,_=>False
@[simp] def ze.k5(C:z5)(E:zbb)(f1:Nat)(Q:zQ)(Y1:zL)(Y3:zL)(d q b c:za)(h:zb):Prop:=B.pv (V.bin .leq b c) λa=>B.gd h a true (λK=>K d h) λe h=>B.gd h a true (λK=>K b h) λf h=>B.gd h a true (λK=>B.pv (V.zc9 E.es e f) λv=>K v h) λg h=>B.gd h a true (λK=>E.ld h g λv=>K v h) λi h=>B.gd h a true (λK=>K d h) λj h=>B.gd h a true (λK=>K q h) λk h=>B.gd h a true (λK=>B.pv (V.zc9 E.es j k) λv=>K v h) λl h=>B.gd h a true (λK=>E.ld h l λv=>K v h) λm h=>B.gd h a true (λK=>B.call C f1 [i,m] h K) λn h=>B.pick a n (.bool false) λo=>B.cond o (B.pv (V.bin .add b (.int .i64 1)) λp=>Y3 [p] h) (z3 (ze.l4 C E f1 Q Y1 d q b) [c] h)
@[simp] def ze.l6(C:z5)(E:zbb)(f1:Nat)(Q:zQ)(Y1:zL)(c d a:za):zG|[b],h,Y3=>ze.k5 C E f1 Q Y1 Y3 c d b a h|_,_,_=>False
@[simp] def ze.l7(C:z5)(E:zbb)(f1:Nat)(Q:zQ)(c d:za):zG|[a,b],h,Y1=>z3 (ze.l6 C E f1 Q Y1 c d b) [a] h|_,_,_=>False
@[simp] def ze.k8(C:z5)(E:zbb)(f1:Nat)(Q:zQ)(e f a b:za)(h:zb):Prop:=B.pv (V.bin .add a (.int .i64 1)) λc=>B.pv (V.bin .sub b (.int .i64 1)) λd=>z3 (ze.l7 C E f1 Q e f) [c,d] h
@[simp] def ze.k9(C:z5)(E:zbb)(f1:Nat)(Q:zQ)(a k b c:za)(h:zb):Prop:=B.pv (V.zc9 E.es a c) λd=>E.ld h d λe=>B.pv (V.zc9 E.es a b) λf=>E.ld h f λg=>B.pv (V.zc9 E.es a b) λi=>E.st h i e λh=>B.pv (V.zc9 E.es a c) λj=>E.st h j g λh=>ze.k8 C E f1 Q a k b c h
@[simp] def ze.k10(C:z5)(E:zbb)(f1:Nat)(Q:zQ)(b d c a:za)(h:zb):Prop:=B.pv (V.bin .gtr c a) λe=>B.cond e (B.pv (V.zc9 E.es b d) λf=>E.ld h f λg=>B.pv (V.zc9 E.es b a) λi=>E.ld h i λj=>B.pv (V.zc9 E.es b a) λk=>E.st h k g λh=>B.pv (V.zc9 E.es b d) λl=>E.st h l j λh=>Q (.tup [a,(.bool true)]) h) (ze.k9 C E f1 Q b d c a h)
@[simp] def ze.k11(C:z5)(E:zbb)(f1:Nat)(Q:zQ)(Y4:zL)(d e c b:za)(h:zb):Prop:=B.pv (V.bin .leq c b) λa=>B.gd h a true (λK=>K d h) λf h=>B.gd h a true (λK=>K b h) λg h=>B.gd h a true (λK=>B.pv (V.zc9 E.es f g) λv=>K v h) λi h=>B.gd h a true (λK=>E.ld h i λv=>K v h) λj h=>B.gd h a true (λK=>K d h) λk h=>B.gd h a true (λK=>K e h) λl h=>B.gd h a true (λK=>B.pv (V.zc9 E.es k l) λv=>K v h) λm h=>B.gd h a true (λK=>E.ld h m λv=>K v h) λn h=>B.gd h a true (λK=>B.call C f1 [j,n] h K) λo h=>B.gd h a true (λK=>B.pv (V.un .not o) λv=>K v h) λp h=>B.pick a p (.bool false) λq=>B.cond q (B.pv (V.bin .sub b (.int .i64 1)) λr=>Y4 [r] h) (ze.k10 C E f1 Q d e c b h)
@[simp] def ze.l12(C:z5)(E:zbb)(f1:Nat)(Q:zQ)(c d a:za):zG|[b],h,Y4=>ze.k11 C E f1 Q Y4 c d a b h|_,_,_=>False
@[simp] def ze.k13(C:z5)(E:zbb)(f1:Nat)(Q:zQ)(Y5:zL)(d e b c:za)(h:zb):Prop:=B.pv (V.bin .leq b c) λa=>B.gd h a true (λK=>K d h) λf h=>B.gd h a true (λK=>K b h) λg h=>B.gd h a true (λK=>B.pv (V.zc9 E.es f g) λv=>K v h) λi h=>B.gd h a true (λK=>E.ld h i λv=>K v h) λj h=>B.gd h a true (λK=>K d h) λk h=>B.gd h a true (λK=>K e h) λl h=>B.gd h a true (λK=>B.pv (V.zc9 E.es k l) λv=>K v h) λm h=>B.gd h a true (λK=>E.ld h m λv=>K v h) λn h=>B.gd h a true (λK=>B.call C f1 [j,n] h K) λo h=>B.pick a o (.bool false) λp=>B.cond p (B.pv (V.bin .add b (.int .i64 1)) λq=>Y5 [q] h) (z3 (ze.l12 C E f1 Q d e b) [c] h)
@[simp] def ze.l14(C:z5)(E:zbb)(f1:Nat)(Q:zQ)(c d a:za):zG|[b],h,Y5=>ze.k13 C E f1 Q Y5 c d b a h|_,_,_=>False
@[simp] def ze.k15(C:z5)(E:zbb)(f1:Nat)(Q:zQ)(d a e:za)(h:zb):Prop:=B.pv (V.bin .add a (.int .i64 1)) λb=>B.pv (V.bin .sub e (.int .i64 1)) λc=>z3 (ze.l14 C E f1 Q d a c) [b] h
@[simp] def ze.k16(C:z5)(E:zbb)(f1:Nat)(Q:zQ)(a b k c:za)(h:zb):Prop:=B.pv (V.zc9 E.es a c) λd=>E.ld h d λe=>B.pv (V.zc9 E.es a b) λf=>E.ld h f λg=>B.pv (V.zc9 E.es a b) λi=>E.st h i e λh=>B.pv (V.zc9 E.es a c) λj=>E.st h j g λh=>ze.k15 C E f1 Q a b k h
@[simp] def ze.cps(C:z5)(E:zbb)(f1:Nat)(a b c d:za)(h:zb)(Q:zQ):Prop:=ze.k16 C E f1 Q a b c d h
@[simp] def z8.k1(C:z5)(E:zbb)(f1:Nat)(Q:zQ)(Y1:zL)(a x b d c:za)(h:zb):Prop:=B.pv (V.bin .add b d) λe=>B.pv (V.zc9 E.es a e) λf=>E.ld h f λg=>B.pv (V.bin .add b c) λi=>B.pv (V.zc9 E.es a i) λj=>E.ld h j λk=>B.call C f1 [g,k] h λl h=>B.pv (V.un .not l) λm=>B.cond m (Q (.tup []) h) (B.pv (V.bin .add b d) λn=>B.pv (V.bin .add b c) λo=>B.pv (V.bin .add b c) λp=>B.pv (V.zc9 E.es a p) λq=>E.ld h q λr=>B.pv (V.bin .add b d) λs=>B.pv (V.zc9 E.es a s) λt=>E.ld h t λu=>B.pv (V.zc9 E.es a n) λv=>E.st h v r λh=>B.pv (V.zc9 E.es a o) λw=>E.st h w u λh=>Y1 [c] h)
@[simp] def z8.k2(C:z5)(E:zbb)(f1:Nat)(Q:zQ)(Y1:zL)(c e d f b:za)(h:zb):Prop:=B.pv (V.bin .add b (.int .i64 1)) λg=>B.pv (V.bin .lss g e) λa=>B.gd h a true (λK=>K c h) λi h=>B.gd h a true (λK=>K d h) λj h=>B.gd h a true (λK=>K b h) λk h=>B.gd h a true (λK=>B.pv (V.bin .add j k) λv=>K v h) λl h=>B.gd h a true (λK=>B.pv (V.zc9 E.es i l) λv=>K v h) λm h=>B.gd h a true (λK=>E.ld h m λv=>K v h) λn h=>B.gd h a true (λK=>K c h) λo h=>B.gd h a true (λK=>K d h) λp h=>B.gd h a true (λK=>K b h) λq h=>B.gd h a true (λK=>B.pv (V.bin .add p q) λv=>K v h) λr h=>B.gd h a true (λK=>B.pv (V.bin .add r (.int .i64 1)) λv=>K v h) λs h=>B.gd h a true (λK=>B.pv (V.zc9 E.es o s) λv=>K v h) λt h=>B.gd h a true (λK=>E.ld h t λv=>K v h) λu h=>B.gd h a true (λK=>B.call C f1 [n,u] h K) λw h=>B.pick a w (.bool false) λx=>B.cond x (B.pv (V.bin .add b (.int .i64 1)) λy=>z8.k1 C E f1 Q Y1 c e d f y h) (z8.k1 C E f1 Q Y1 c e d f b h)
@[simp] def z8.k3(C:z5)(E:zbb)(f1:Nat)(Q:zQ)(Y1:zL)(f b g c:za)(h:zb):Prop:=B.pv (V.bin .mul (.int .i64 2) c) λd=>B.pv (V.bin .add d (.int .i64 1)) λa=>B.pv (V.bin .geq a b) λe=>B.cond e (Q (.tup []) h) (z8.k2 C E f1 Q Y1 f b g c a h)
@[simp] def z8.l4(C:z5)(E:zbb)(f1:Nat)(Q:zQ)(a b c:za):zG|[d],h,Y1=>z8.k3 C E f1 Q Y1 a b c d h|_,_,_=>False
@[simp] def z8.cps(C:z5)(E:zbb)(f1:Nat)(a b c d:za)(h:zb)(Q:zQ):Prop:=z3 (z8.l4 C E f1 Q a c d) [b] h
@[simp] def zeh.cps(C:z5)(E:zbb)(f1:Nat)(d a e:za)(h:zb)(Q:zQ):Prop:=B.pv (V.bin .sub a (.int .i64 1)) λf=>B.pv (V.bin .add a (.int .i64 1)) λb=>B.call C f1 [d,f,a,b,e] h λc h=>Q c h
@[simp] def zel.k1(C:z5)(E:zbb)(f1:Nat)(Q:zQ)(d k l m e:za)(h:zb):Prop:=B.call C f1 [d,k,l,e] h λa h=>B.pv (V.ext 0 a) λf=>B.pv (V.ext 1 a) λg=>B.call C f1 [d,g,m,e] h λb h=>B.pv (V.ext 0 b) λi=>B.pv (V.ext 1 b) λn=>B.call C f1 [d,f,i,e] h λc h=>B.pv (V.ext 0 c) λo=>B.pv (V.ext 1 c) λj=>Q j h
@[simp] def zel.cps(C:z5)(E:zbb)(f1:Nat)(a b c d e:za)(h:zb)(Q:zQ):Prop:=zel.k1 C E f1 Q a b c d e h
@[simp] def zek.k1(C:z5)(E:zbb)(f1:Nat)(Q:zQ)(c a b d:za)(h:zb):Prop:=B.pv (V.zc9 E.es c b) λe=>E.ld h e λf=>B.pv (V.zc9 E.es c a) λg=>E.ld h g λi=>B.call C f1 [f,i] h λj h=>B.cond j (B.nilCheck d λk=>B.ld h k λl=>B.pv (V.bin .add l (.int .i64 1)) λm=>B.nilCheck d λn=>B.st h n m λh=>Q (.tup [b,a]) h) (Q (.tup [a,b]) h)
@[simp] def zek.cps(C:z5)(E:zbb)(f1:Nat)(a b c d:za)(h:zb)(Q:zQ):Prop:=zek.k1 C E f1 Q a b c d h
@[simp] def zcp.k1(C:z5)(E:zbb)(Q:zQ)(Z1:Nat->zb->Prop)(a d:za)(h:zb):Prop:=B.ld h a λe=>B.zgn h (zez [(0,E.kp,d)] (zh2 1 E.z)) λb h=>B.ziz h E.es E.bytes e (.sl b 0 0 1 E.es 1) λc h=>B.st h a c λh=>Z1 0 h
@[simp] def zcp.r2(C:z5)(E:zbb)(Q:zQ)(a:za)(b:za)(h:zb)(Z1:Nat->zb->Prop):Prop:=zcp.k1 C E Q Z1 a b h
@[simp] def zcp.k3(C:z5)(E:zbb)(Q:zQ)(c d:za)(h:zb):Prop:=B.zgn h (A.zjm c) λa h=>zpf C d (W1 λe h Z1=>zcp.r2 C E Q (.ptr a 0 0) e h Z1) h (RK [(0,λh=>B.ld h (.ptr a 0 0) λb=>Q b h)])
@[simp] def zcp.cps(C:z5)(E:zbb)(a b:za)(h:zb)(Q:zQ):Prop:=zcp.k3 C E Q a b h
@[simp] def zch.k1(C:z5)(N:zN)(Q:zQ)(a:za)(h:zb):Prop:=B.nilCheck a λu=>B.ld h u λv=>B.nilCheck a λw=>B.ld h w λx=>B.pv (V.bin .shl x (.int .u64 13)) λy=>B.pv (V.bin .xor v y) λb=>B.nilCheck a λc=>B.st h c b λh=>B.nilCheck a λd=>B.ld h d λe=>B.nilCheck a λf=>B.ld h f λg=>B.pv (V.bin .shr g (.int .u64 7)) λi=>B.pv (V.bin .xor e i) λj=>B.nilCheck a λk=>B.st h k j λh=>B.nilCheck a λl=>B.ld h l λm=>B.nilCheck a λn=>B.ld h n λo=>B.pv (V.bin .shl o (.int .u64 17)) λp=>B.pv (V.bin .xor m p) λq=>B.nilCheck a λr=>B.st h r q λh=>B.nilCheck a λs=>B.ld h s λt=>Q t h
variable(C:z5)(N:Nat→Nat)
@[simp] def zch.cps(a:za)(h:zb)(Q:zQ):Prop:=zch.k1 C N Q a h
def zch.Imp:Prop:=im1 C (N 298) (zch.cps C N)
@[simp] def zc3.cps(a:za)(h:zb)(Q:zQ):Prop:=B.pv (V.toInt .u64 a) λb=>B.call C (N 287) [b] h λc h=>B.pv (V.bin .shl (.int .u64 1) c) λd=>Q d h
def zc3.Imp:Prop:=im1 C (N 299) (zc3.cps C N)
def zbm.cps(a:za)(h:zb)(Q:zQ):Prop:=zf8.cps C (zdf 16 (.str []) 0) (N 287) (N 375) a h Q
def zbm.Imp:Prop:=im1 C (N 364) (zbm.cps C N)
def zcl.cps(a b c d:za)(h:zb)(Q:zQ):Prop:=zn.cps C (zdf 16 (.str []) 0) (N 377) (N 378) (N 379) (N 375) (N 380) (N 381) (N 382) (N 383) (N 384) (N 385) a b c d h Q
def zcl.Imp:Prop:=im4 C (N 375) (zcl.cps C N)
def zbo.cps(a b c d:za)(h:zb)(Q:zQ):Prop:=zk.cps C (zdf 16 (.str []) 0) (N 377) a b c d h Q
def zbo.Imp:Prop:=im4 C (N 378) (zbo.cps C N)
def zb7.cps(a b c d:za)(h:zb)(Q:zQ):Prop:=ze.cps C (zdf 16 (.str []) 0) (N 377) a b c d h Q
def zb7.Imp:Prop:=im4 C (N 379) (zb7.cps C N)
def zbc.cps(a b c:za)(h:zb)(Q:zQ):Prop:=zd.cps C (zdf 16 (.str []) 0) (N 377) a b c h Q
def zbc.Imp:Prop:=im3 C (N 380) (zbc.cps C N)
def zbw.cps(C:z5)(N:zN)(a b c:za)(h:zb)(Q:zQ):Prop:=zbx.cps C (zdf 16 (.str []) 0) a b c h Q
def zbw.Imp:Prop:=im3 C (N 381) (zbw.cps C N)
def zb2.cps(a b c:za)(h:zb)(Q:zQ):Prop:=zp.cps C (zdf 16 (.str []) 0) (N 387) (N 388) a b c h Q
def zb2.Imp:Prop:=im3 C (N 382) (zb2.cps C N)
def zbu.cps(a b c:za)(h:zb)(Q:zQ):Prop:=zi.cps C (zdf 16 (.str []) 0) (N 298) (N 299) a b c h Q
def zbu.Imp:Prop:=im3 C (N 383) (zbu.cps C N)
def zcf.cps(a b c:za)(h:zb)(Q:zQ):Prop:=zx.cps C (zdf 16 (.str []) 0) (N 386) a b c h Q
def zcf.Imp:Prop:=im3 C (N 384) (zcf.cps C N)
def zbt.cps(a b c:za)(h:zb)(Q:zQ):Prop:=z6.cps C (zdf 16 (.str []) 0) (N 377) a b c h Q
def zbt.Imp:Prop:=im3 C (N 385) (zbt.cps C N)
def zcd.cps(a b c d:za)(h:zb)(Q:zQ):Prop:=z8.cps C (zdf 16 (.str []) 0) (N 377) a b c d h Q
def zcd.Imp:Prop:=im4 C (N 386) (zcd.cps C N)
def zbp.cps(a b c:za)(h:zb)(Q:zQ):Prop:=zeh.cps C (zdf 16 (.str []) 0) (N 388) a b c h Q
def zbp.Imp:Prop:=im3 C (N 387) (zbp.cps C N)
def zcu.cps(a b c d e:za)(h:zb)(Q:zQ):Prop:=zel.cps C (zdf 16 (.str []) 0) (N 390) a b c d e h Q
def zcu.Imp:Prop:=im5 C (N 388) (zcu.cps C N)
def zct.cps(a b c d:za)(h:zb)(Q:zQ):Prop:=zek.cps C (zdf 16 (.str []) 0) (N 377) a b c d h Q
def zct.Imp:Prop:=im4 C (N 390) (zct.cps C N)
@[simp] def zb9.cps(b:za)(h:zb)(Q:zQ):Prop:=B.call C (N 529) [b] h λa h=>B.call C (N 364) [a] h λc h=>Q a h
def zb9.Imp:Prop:=im1 C (N 510) (zb9.cps C N)
def zbl.cps(a:za)(h:zb)(Q:zQ):Prop:=zf8.cps C (zdf 8 (.int .i64 0) 0) (N 287) (N 531) a h Q
def zbl.Imp:Prop:=im1 C (N 511) (zbl.cps C N)
@[simp] def zci.cps(b:za)(h:zb)(Q:zQ):Prop:=B.call C (N 530) [b] h λa h=>B.call C (N 511) [a] h λc h=>Q a h
def zci.Imp:Prop:=im1 C (N 515) (zci.cps C N)
@[simp] def zdc.cps(a:za)(h:zb)(Q:zQ):Prop:=B.call C (N 532) [.zeg,a] h λb h=>Q b h
def zdc.Imp:Prop:=im1 C (N 529) (zdc.cps C N)
@[simp] def zdh.cps(a:za)(h:zb)(Q:zQ):Prop:=B.call C (N 533) [.zeg,a] h λb h=>Q b h
def zdh.Imp:Prop:=im1 C (N 530) (zdh.cps C N)
def zcs.cps(a b c d:za)(h:zb)(Q:zQ):Prop:=zn.cps C (zdf 8 (.int .i64 0) 0) (N 534) (N 535) (N 536) (N 531) (N 537) (N 538) (N 539) (N 540) (N 541) (N 542) a b c d h Q
def zcs.Imp:Prop:=im4 C (N 531) (zcs.cps C N)
def zb8.cps(C:z5)(N:zN)(a b:za)(h:zb)(Q:zQ):Prop:=zcp.cps C (zdf 16 (.str []) 0) a b h Q
def zb8.Imp:Prop:=im2 C (N 532) (zb8.cps C N)
def zcn.cps(C:z5)(N:zN)(a b:za)(h:zb)(Q:zQ):Prop:=zcp.cps C (zdf 8 (.int .i64 0) 0) a b h Q
def zcn.Imp:Prop:=im2 C (N 533) (zcn.cps C N)
def zbr.cps(a b c d:za)(h:zb)(Q:zQ):Prop:=zk.cps C (zdf 8 (.int .i64 0) 0) (N 534) a b c d h Q
def zbr.Imp:Prop:=im4 C (N 535) (zbr.cps C N)
def zce.cps(a b c d:za)(h:zb)(Q:zQ):Prop:=ze.cps C (zdf 8 (.int .i64 0) 0) (N 534) a b c d h Q
def zce.Imp:Prop:=im4 C (N 536) (zce.cps C N)
def zbf.cps(a b c:za)(h:zb)(Q:zQ):Prop:=zd.cps C (zdf 8 (.int .i64 0) 0) (N 534) a b c h Q
def zbf.Imp:Prop:=im3 C (N 537) (zbf.cps C N)
def zb1.cps(C:z5)(N:zN)(a b c:za)(h:zb)(Q:zQ):Prop:=zbx.cps C (zdf 8 (.int .i64 0) 0) a b c h Q
def zb1.Imp:Prop:=im3 C (N 538) (zb1.cps C N)
def zb4.cps(a b c:za)(h:zb)(Q:zQ):Prop:=zp.cps C (zdf 8 (.int .i64 0) 0) (N 544) (N 545) a b c h Q
def zb4.Imp:Prop:=im3 C (N 539) (zb4.cps C N)
def zbz.cps(a b c:za)(h:zb)(Q:zQ):Prop:=zi.cps C (zdf 8 (.int .i64 0) 0) (N 298) (N 299) a b c h Q
def zbz.Imp:Prop:=im3 C (N 540) (zbz.cps C N)
def zcm.cps(a b c:za)(h:zb)(Q:zQ):Prop:=zx.cps C (zdf 8 (.int .i64 0) 0) (N 543) a b c h Q
def zcm.Imp:Prop:=im3 C (N 541) (zcm.cps C N)
def zby.cps(a b c:za)(h:zb)(Q:zQ):Prop:=z6.cps C (zdf 8 (.int .i64 0) 0) (N 534) a b c h Q
def zby.Imp:Prop:=im3 C (N 542) (zby.cps C N)
def zck.cps(a b c d:za)(h:zb)(Q:zQ):Prop:=z8.cps C (zdf 8 (.int .i64 0) 0) (N 534) a b c d h Q
def zck.Imp:Prop:=im4 C (N 543) (zck.cps C N)
def zbs.cps(a b c:za)(h:zb)(Q:zQ):Prop:=zeh.cps C (zdf 8 (.int .i64 0) 0) (N 545) a b c h Q
def zbs.Imp:Prop:=im3 C (N 544) (zbs.cps C N)
def zc0.cps(a b c d e:za)(h:zb)(Q:zQ):Prop:=zel.cps C (zdf 8 (.int .i64 0) 0) (N 547) a b c d e h Q
def zc0.Imp:Prop:=im5 C (N 545) (zc0.cps C N)
def zcz.cps(a b c d:za)(h:zb)(Q:zQ):Prop:=zek.cps C (zdf 8 (.int .i64 0) 0) (N 534) a b c d h Q
def zcz.Imp:Prop:=im4 C (N 547) (zcz.cps C N)
end Go.Ab
namespace Go.Ab.S24
open List
open Go.Ab Go.Proofs
noncomputable abbrev P:Program:=Try.prog
def lkz:List (Nat×List Nat)->Nat->List Nat|[],_=>[]|(a,b)::r,k=>bif Nat.beq a k then b else lkz r k
def pz(e:List (Nat×List Nat)):Nat->List (Nat×List Nat)|0=>[]|n+1=>pz e n++[(n,lkz e n)]
@[reducible] def LkT(P:Program)(I:Bx)(f:Func)(F:z5->(zQ)->zbq->zb->Prop):Prop:=∀{C:z5}(hC:zkv C)(Q:zQ)(s:zbq)(h:zb),F C Q s h->bwp P C I (f.body.getD .skip) (retB P I f.results.toList Q) s h
theorem eT{P:Program}{C:z5}{I:Bx}(hC:zkv C){c:Code}{Q:Ex->zbq->zb->Prop}{s:zbq}{h:zb}(X:zbq->zb->Prop){p:Prop}(hR:p)(hb:∀s h,X s h->bwp P C I (cB c) Q s h)(e:bwp P C I (cA c) (Ex.then X Q) s h=p:=by kernel_rfl)(hk:isS c=true:=by kernel_rfl):bwp P C I c Q s h:=eS hC X (e1 hR e) hb hk
@[reducible] def on1(F:za->zG):List za->zG|[a],u,v,w=>F a u v w|_,_,_,_=>False
@[reducible] def on2(F:za->za->zG):List za->zG|[a,b],u,v,w=>F a b u v w|_,_,_,_=>False
@[reducible] def on3(F:za->za->za->zG):List za->zG|[a,b,c],u,v,w=>F a b c u v w|_,_,_,_=>False
@[reducible] def on4(F:za->za->za->za->zG):List za->zG|[a,b,c,d],u,v,w=>F a b c d u v w|_,_,_,_=>False
@[reducible] def on5(F:za->za->za->za->za->zG):List za->zG|[a,b,c,d,e],u,v,w=>F a b c d e u v w|_,_,_,_=>False
def N(k:Nat):Nat:=[0,0,0,0,0,0,0,0,0,0,0,0,0,0,0,0,0,0,0,0,0,0,0,0,0,0,0,0,0,0,0,0,0,0,0,0,0,0,0,0,0,0,0,0,0,0,0,0,0,0,0,0,0,0,0,0,0,0,0,0,0,0,0,0,0,0,0,0,0,0,0,0,0,0,0,0,0,0,0,0,0,0,0,0,0,0,0,0,0,0,0,0,0,0,0,0,0,0,0,0,0,0,0,0,0,0,43,0,0,0,0,0,0,0,0,0,0,0,0,0,0,0,0,0,0,0,0,0,0,0,0,0,0,21,0,0,0,0,0,0,0,0,0,0,0,0,0,0,0,0,0,0,0,0,0,19,0,0,0,0,0,0,0,0,0,0,0,0,0,0,0,0,0,0,0,0,0,0,0,0,0,0,0,0,0,0,0,0,0,0,0,0,0,0,0,0,0,0,0,0,0,0,0,0,0,0,0,0,0,0,0,0,0,0,0,0,0,0,0,0,0,0,0,0,0,0,0,0,0,0,0,0,0,0,0,0,0,0,0,0,0,0,0,0,0,0,0,0,0,0,0,0,0,0,0,0,0,0,0,0,0,0,0,0,0,0,0,0,0,0,0,0,0,0,0,0,0,0,0,0,0,0,0,0,0,0,0,59,0,0,0,0,0,0,0,0,0,0,86,85,0,0,0,0,73,74,0,0,0,0,0,0,0,0,0,0,0,0,0,0,0,0,0,0,0,0,0,0,0,0,0,0,0,0,0,0,0,0,0,0,0,0,0,0,0,0,0,0,0,0,0,0,0,0,0,0,0,0,0,0,0,0,0,0,53,0,0,0,0,0,0,0,0,0,0,62,0,81,82,83,80,79,78,77,76,75,90,91,92,93,95,0,0,0,0,0,0,0,0,0,0,0,0,0,0,0,24,26,0,27,0,0,0,0,0,0,0,0,0,0,0,0,0,0,0,0,0,0,0,0,0,0,0,0,0,0,0,0,0,0,0,0,0,0,0,0,0,0,0,0,0,0,0,0,0,0,0,0,0,0,0,0,0,0,0,0,0,0,0,0,0,0,0,0,0,0,0,0,0,0,0,0,9,12,11,10,8,3,13,14,15,16,17,4,18,5,20,6,7,22,23,25,28,29,30,31,33,34,32,36,35,41,39,40,38,37,42,45,46,44,47,48,49,50,54,56,57,60,51,52,55,58,61,63,70,71,72,69,68,67,66,65,64,84,87,88,89,94,0,0,0,0,0,0,0,0,0,0,0,0,0,0,0,0,0,0,0,0,0,0,0,0,0,0,0,0,0,0,0,0,0,0,0,0,0,0,0,0,0,0,0,0,0,0,0,0,0,0,0,0,0,0,0,0,0].getD k 0
theorem mixed:P.follows .mixedOrders=true:=by kernel_rfl
def zz.I:Bx:=⟨[],[],61,[]⟩
theorem zz.L:LkT P zz.I Try.f3 λC Q s h=>zz.cps C N (s 0) h Q:=λ{C} k Q s h r=>eT k (λs h=>zz.k6 C N Q (s 0) h) r (λs h r=>eT k (λs h=>B.call C (N 486) [(s 0)] h λa h=>B.cond a (B.call C (N 482) [] h λb h=>Q b h) (zz.k5 C N Q (s 0) h)) r (λs h r=>eT k (λs h=>zz.k5 C N Q (s 0) h) r (λs h r=>eT k (λs h=>B.pv (V.zgd .eql (s 3) .zkx) λc=>B.cond c (Q (.bool false) h) (z3 (zz.l4 C N Q (s 0) (s 3) (s 4)) [(.int .i64 0)] h)) r (λs h r=>eT k (λs h=>z3 (zz.l4 C N Q (s 0) (s 3) (s 4)) [(.int .i64 0)] h) r (λs h r=>eS k (λs h=>z3 (zz.l2 C N Q (s 0) (s 3) (s 4)) [(.int .i64 0)] h) (eT k (λs h=>z3 (zz.l4 C N Q (s 0) (s 3) (s 4)) [(s 5)] h) r (λs h r=>eK (eL k [0,3,4] [5] (on3 (zz.l4 C N Q)) r (λY2 s h r=>e1 r)))) (λs h r=>eS k (λs h=>B.call C (N 482) [] h λd h=>Q d h) (eT k (λs h=>z3 (zz.l2 C N Q (s 0) (s 3) (s 4)) [(s 6)] h) r (λs h r=>eK (eL k [0,3,4] [6] (on3 (zz.l2 C N Q)) r (λY1 s h r=>e1 r)))) (λs h r=>e1 r)))))))
theorem zz.imp:zz.Imp (AC P) N:=λa h Q r=>eF mixed (fn:=Try.f3) (λk=>zz.L k (dn Q) (zcr [a]) h r)
def zcj.I:Bx:=⟨[],[],45,[]⟩
theorem zcj.L:LkT P zcj.I Try.f8 λC Q s h=>zcj.cps C N (s 0) h Q:=λ{C} k Q s h r=>eT k (λs h=>z3 (zcj.l4 C N Q (s 0)) [(.int .i64 0),(.int .i64 0)] h) r (λs h r=>eT k (λs h=>z3 (zcj.l4 C N Q (s 0)) [(s 3),(.int .i64 0)] h) r (λs h r=>eS k (λs h=>B.pv (V.bin .gtr (s 3) (.int .i64 2000)) λa=>Q a h) (eT k (λs h=>z3 (zcj.l4 C N Q (s 0)) [(s 3),(s 4)] h) r (λs h r=>eK (eL k [0] [3,4] (on1 (zcj.l4 C N Q)) r (λY1 s h r=>eT k (λs h=>z3 (zcj.l2 C N Q Y1 (s 0) (s 4)) [(s 3),(.int .i64 0)] h) r (λs h r=>eS k (λs h=>B.pv (V.bin .add (s 4) (.int .i64 1)) λb=>Y1 [(s 3),b] h) (eK (eT k (λs h=>z3 (zcj.l2 C N Q Y1 (s 0) (s 4)) [(s 3),(s 5)] h) r (λs h r=>eK (eL k [0,4] [3,5] (on2 (zcj.l2 C N Q Y1)) r (λY2 s h r=>e1 r))))) (λs h r=>e1 r)))))) (λs h r=>e1 r)))
theorem zcj.imp:zcj.Imp (AC P) N:=λa h Q r=>eF mixed (fn:=Try.f8) (λk=>zcj.L k (dn Q) (zcr [a]) h r)
def zd6.I:Bx:=⟨[],[],88,[]⟩
theorem zd6.L:LkT P zd6.I Try.f9 λC Q s h=>zd6.cps C N h Q:=λ{C} k Q s h r=>e1 r
theorem zd6.imp:zd6.Imp (AC P) N:=λh Q r=>eF mixed (fn:=Try.f9) (λk=>zd6.L k (dn Q) (zcr []) h r)
def ze9.I:Bx:=⟨[],[],4,[]⟩
theorem ze9.L:LkT P ze9.I Try.f10 λC Q s h=>ze9.cps C N h Q:=λ{C} k Q s h r=>e1 r
theorem ze9.imp:ze9.Imp (AC P) N:=λh Q r=>eF mixed (fn:=Try.f10) (λk=>ze9.L k (dn Q) (zcr []) h r)
def zd4.I:Bx:=⟨[5],[9,14,18,21,25,30,32,38],45,[(6,[(0,[]),(1,[]),(2,[]),(3,[]),(5,[]),(6,[]),(7,[]),(8,[]),(9,[]),(4,[7,9]),(10,[]),(11,[]),(12,[]),(13,[]),(14,[]),(15,[]),(16,[]),(17,[]),(18,[])])]⟩
theorem zd4.L:LkT P zd4.I Try.f11 λC Q s h=>zd4.cps C N (s 0) (s 1) (s 2) h Q:=λ{C} k Q s h r=>e1 r
theorem zd4.imp:zd4.Imp (AC P) N:=λa b c h Q r=>eF mixed (fn:=Try.f11) (λk=>zd4.L k (dn Q) (zcr [a,b,c]) h r)
def zd5.I:Bx:=⟨[],[],30,[]⟩
theorem zd5.L:LkT P zd5.I Try.f12 λC Q s h=>zd5.cps C N (s 0) (s 1) (s 2) h Q:=λ{C} k Q s h r=>e1 r
theorem zd5.imp:zd5.Imp (AC P) N:=λa b c h Q r=>eF mixed (fn:=Try.f12) (λk=>zd5.L k (dn Q) (zcr [a,b,c]) h r)
def zc1.I:Bx:=⟨[],[],11,[]⟩
theorem zc1.L:LkT P zc1.I Try.f13 λC Q s h=>zc1.cps C N (s 0) (s 1) h Q:=λ{C} k Q s h r=>e1 r
theorem zc1.imp:zc1.Imp (AC P) N:=λa b h Q r=>eF mixed (fn:=Try.f13) (λk=>zc1.L k (dn Q) (zcr [a,b]) h r)
def zy.I:Bx:=⟨[],[],109,[(19,pz [] 9)]⟩
theorem zy.L:LkT P zy.I Try.f14 λC Q s h=>zy.cps C N (s 0) (s 1) (s 2) h Q:=λ{C} k Q s h r=>eT k (λs h=>B.call C (N 505) [(s 0)] h λa h=>B.pv (V.un .not a) λb=>B.cond b (Q (.bool false) h) (zy.k6 C N Q (s 0) (s 1) (s 2) h)) r (λs h r=>eT k (λs h=>zy.k6 C N Q (s 0) (s 1) (s 2) h) r (λs h r=>eT k (λs h=>zy.k5 C N Q (s 0) (s 1) (s 2) (s 7) h) r (λs h r=>eT k (λs h=>B.pv (V.zde (s 2)) λc=>z3 (zy.l4 C N Q (s 0) (s 7) (s 2) c) [(.int .i64 0)] h) r (λs h r=>eS k (λs h=>B.nilCheck (s 7) λd=>B.pv (V.fieldAddr 2 d) λe=>B.ld h e λf=>zy.k2 C N Q (s 0) (s 7) f h) (eT k (λs h=>z3 (zy.l4 C N Q (s 0) (s 7) (s 32) (s 33)) [(s 34)] h) r (λs h r=>eK (eL k [0,7,32,33] [34] (on4 (zy.l4 C N Q)) r (λY1 s h r=>e1 r)))) (λs h r=>eT k (λs h=>zy.k2 C N Q (s 0) (s 7) (s 10) h) r (λs h r=>eT k (λs h=>zy.k1 C N Q (s 0) (s 7) (s 10) h) r (λs h r=>e1 r)))))))
theorem zy.imp:zy.Imp (AC P) N:=λa b c h Q r=>eF mixed (fn:=Try.f14) (λk=>zy.L k (dn Q) (zcr [a,b,c]) h r)
def zc2.I:Bx:=⟨[],[],28,[]⟩
theorem zc2.L:LkT P zc2.I Try.f15 λC Q s h=>zc2.cps C N (s 0) (s 1) h Q:=λ{C} k Q s h r=>e1 r
theorem zc2.imp:zc2.Imp (AC P) N:=λa b h Q r=>eF mixed (fn:=Try.f15) (λk=>zc2.L k (dn Q) (zcr [a,b]) h r)
def zco.I:Bx:=⟨[],[],47,[(4,pz [] 12)]⟩
theorem zco.L:LkT P zco.I Try.f16 λC Q s h=>zco.cps C N (s 0) (s 1) h Q:=λ{C} k Q s h r=>e1 r
theorem zco.imp:zco.Imp (AC P) N:=λa b h Q r=>eF mixed (fn:=Try.f16) (λk=>zco.L k (dn Q) (zcr [a,b]) h r)
def zw.I:Bx:=⟨[],[],48,[]⟩
theorem zw.L:LkT P zw.I Try.f17 λC Q s h=>zw.cps C N (s 0) h Q:=λ{C} k Q s h r=>eT k (λs h=>B.call C (N 505) [(s 0)] h λe h=>B.pv (V.un .not e) λb=>B.cond b (Q .zeg h) (zw.k6 C N Q (s 0) h)) r (λs h r=>eT k (λs h=>zw.k6 C N Q (s 0) h) r (λs h r=>eS k (λs h=>Q .zeg h) (eT k (λs h=>z3 (zw.l5 C N Q (s 0) (s 16) (s 17)) [(s 18)] h) r (λs h r=>eK (eL k [0,16,17] [18] (on3 (zw.l5 C N Q)) r (λY1 s h r=>eT k (λs h=>B.cond (s 19) (zw.k4 C N Q Y1 (s 0) (s 16) (s 17) (s 18) h) (Q .zeg h)) r (λs h r=>eT k (λs h=>zw.k4 C N Q Y1 (s 0) (s 16) (s 17) (s 18) h) r (λs h r=>eS k (λs h=>B.pv (V.bin .add (s 18) (.int .i64 1)) λc=>Y1 [c] h) (eK (eT k (λs h=>B.call C (N 512) [(s 0),(s 4)] h λd h=>zw.k3 C N Q Y1 (s 0) (s 4) d (s 16) (s 17) (s 18) h) r (λs h r=>eT k (λs h=>zw.k3 C N Q Y1 (s 0) (s 4) (s 5) (s 16) (s 17) (s 18) h) r (λs h r=>eT k (λs h=>B.rangeMap h (s 5) λa h=>z3 (zw.l2 C N Q Y1 (s 0) (s 4) a) [.zeg] h) r (λs h r=>eT k (λs h=>B.rangeMap h (s 5) λa h=>z3 (zw.l2 C N Q Y1 (s 0) (s 4) a) [(s 6)] h) r (λs h r=>eS k (λs h=>B.call C (N 511) [(s 6)] h λf h=>Q (s 6) h) (eT k (λs h=>z3 (zw.l2 C N Q Y1 (s 0) (s 4) (s 30)) [(s 6)] h) r (λs h r=>eK (eL k [0,4,30] [6] (on3 (zw.l2 C N Q Y1)) r (λY2 s h r=>e1 r)))) (λs h r=>e1 r))))))) (λs h r=>e1 r))))))) (λs h r=>e1 r)))
theorem zw.imp:zw.Imp (AC P) N:=λa h Q r=>eF mixed (fn:=Try.f17) (λk=>zw.L k (dn Q) (zcr [a]) h r)
def zfe.I:Bx:=⟨[],[],16,[]⟩
theorem zfe.L:LkT P zfe.I Try.f19 λC Q s h=>zfe.cps C N (s 0) (s 1) h Q:=λ{C} k Q s h r=>e1 r
theorem zfe.imp:zfe.Imp (AC P) N:=λa b h Q r=>eF mixed (fn:=Try.f19) (λk=>zfe.L k (dn Q) (zcr [a,b]) h r)
def zdi.I:Bx:=⟨[],[],26,[(6,pz [] 9)]⟩
theorem zdi.L:LkT P zdi.I Try.f21 λC Q s h=>zdi.cps C N (s 0) (s 1) h Q:=λ{C} k Q s h r=>eT k (λs h=>zdi.k3 C N Q (s 0) (s 1) h) r (λs h r=>eT k (λs h=>z3 (znk.l4  Q (s 0) (s 1)) [(.int .i64 0)] h) r (λs h r=>eS k (λs h=>Q (.bool true) h) (eT k (λs h=>z3 (znk.l4  Q (s 0) (s 1)) [(s 5)] h) r (λs h r=>eK (eL k [0,1] [5] (on2 (znk.l4  Q)) r (λY1 s h r=>e1 r)))) (λs h r=>e1 r)))
theorem zdi.imp:zdi.Imp (AC P) N:=λa b h Q r=>eF mixed (fn:=Try.f21) (λk=>zdi.L k (dn Q) (zcr [a,b]) h r)
def zdj.I:Bx:=⟨[],[],26,[(6,pz [] 9)]⟩
theorem zdj.L:LkT P zdj.I Try.f22 λC Q s h=>zdj.cps C N (s 0) (s 1) h Q:=λ{C} k Q s h r=>eT k (λs h=>zdj.k3 C N Q (s 0) (s 1) h) r (λs h r=>eT k (λs h=>z3 (znk.l4  Q (s 0) (s 1)) [(.int .i64 0)] h) r (λs h r=>eS k (λs h=>Q (.bool true) h) (eT k (λs h=>z3 (znk.l4  Q (s 0) (s 1)) [(s 5)] h) r (λs h r=>eK (eL k [0,1] [5] (on2 (znk.l4  Q)) r (λY1 s h r=>e1 r)))) (λs h r=>e1 r)))
theorem zdj.imp:zdj.Imp (AC P) N:=λa b h Q r=>eF mixed (fn:=Try.f22) (λk=>zdj.L k (dn Q) (zcr [a,b]) h r)
def zcx.I:Bx:=⟨[],[],29,[(2,[(0,[]),(2,[]),(3,[]),(4,[]),(5,[]),(6,[]),(7,[]),(9,[]),(10,[]),(11,[]),(12,[]),(13,[]),(14,[]),(15,[]),(1,[]),(8,[12]),(16,[]),(17,[]),(18,[]),(19,[])])]⟩
theorem zcx.L:LkT P zcx.I Try.f23 λC Q s h=>zcx.cps C N (s 0) (s 1) h Q:=λ{C} k Q s h r=>e1 r
theorem zcx.imp:zcx.Imp (AC P) N:=λa b h Q r=>eF mixed (fn:=Try.f23) (λk=>zcx.L k (dn Q) (zcr [a,b]) h r)
def zdq.I:Bx:=⟨[],[],25,[]⟩
theorem zdq.L:LkT P zdq.I Try.f24 λC Q s h=>zdq.cps C N (s 0) h Q:=λ{C} k Q s h r=>eT k (λs h=>zdq.k3 C N Q (s 0) h) r (λs h r=>eT k (λs h=>B.ziz h 1 16 (s 3) (s 0) λa h=>z3 (zpm.l4 C 16 (N 106) (.str []) 1 Q (s 0)) [a,(.int .i64 0)] h) r (λs h r=>eT k (λs h=>z3 (zpm.l4 C 16 (N 106) (.str []) 1 Q (s 0)) [(s 3),(.int .i64 0)] h) r (λs h r=>eS k (λs h=>B.pv (V.zde (s 0)) λb=>B.pv (V.zh6 1 (s 3) none (some b)) λc=>Q c h) (eT k (λs h=>z3 (zpm.l4 C 16 (N 106) (.str []) 1 Q (s 0)) [(s 3),(s 4)] h) r (λs h r=>eK (eL k [0] [3,4] (on1 (zpm.l4 C 16 (N 106) (.str []) 1 Q)) r (λY1 s h r=>e1 r)))) (λs h r=>e1 r))))
theorem zdq.imp:zdq.Imp (AC P) N:=λa h Q r=>eF mixed (fn:=Try.f24) (λk=>zdq.L k (dn Q) (zcr [a]) h r)
def zj.I:Bx:=⟨[],[],157,[(10,pz [] 18),(28,pz [] 13)]⟩
theorem zj.L:LkT P zj.I Try.f25 λC Q s h=>zj.cps C N (s 0) (s 1) (s 2) h Q:=λ{C} k Q s h r=>eT k (λs h=>B.call C (N 516) [(s 0),(s 1)] h λa h=>zj.k12 C N Q (s 0) (s 1) (s 2) a h) r (λs h r=>eT k (λs h=>zj.k12 C N Q (s 0) (s 1) (s 2) (s 7) h) r (λs h r=>eT k (λs h=>zj.k11 C N Q (s 0) (s 2) (s 7) h) r (λs h r=>eT k (λs h=>zj.k10 C N Q (s 0) (s 2) (s 7) (s 8) h) r (λs h r=>eT k (λs h=>z3 (zj.l9 C N Q (s 0) (s 2) (s 7) (s 8)) [(s 9),(.int .i64 0)] h) r (λs h r=>eS k (λs h=>B.nilCheck (s 8) λb=>B.pv (V.fieldAddr 3 b) λc=>B.ld h c λd=>zj.k7 C N Q (s 0) (s 7) (s 8) (s 9) d h) (eT k (λs h=>z3 (zj.l9 C N Q (s 0) (s 2) (s 7) (s 8)) [(s 9),(s 10)] h) r (λs h r=>eK (eL k [0,2,7,8] [9,10] (on4 (zj.l9 C N Q)) r (λY3 s h r=>e1 r)))) (λs h r=>eT k (λs h=>zj.k7 C N Q (s 0) (s 7) (s 8) (s 9) (s 11) h) r (λs h r=>eT k (λs h=>z3 (zj.l6 C N Q (s 0) (s 7) (s 8) (s 9) (s 11)) [(.bool false),(.int .i64 0)] h) r (λs h r=>eT k (λs h=>z3 (zj.l6 C N Q (s 0) (s 7) (s 8) (s 9) (s 11)) [(s 12),(.int .i64 0)] h) r (λs h r=>eS k (λs h=>zj.k4 C N Q (s 0) (s 8) (s 9) (s 11) (s 12) h) (eT k (λs h=>z3 (zj.l6 C N Q (s 0) (s 7) (s 8) (s 9) (s 11)) [(s 12),(s 13)] h) r (λs h r=>eK (eL k [0,7,8,9,11] [12,13] (on5 (zj.l6 C N Q)) r (λY2 s h r=>e1 r)))) (λs h r=>eT k (λs h=>z3 (zj.l3 C N Q (s 8) (s 9)) [(.int .i64 0)] h) r (λs h r=>eS k (λs h=>zj.k1 C N Q (s 8) h) (eT k (λs h=>z3 (zj.l3 C N Q (s 8) (s 9)) [(s 14)] h) r (λs h r=>eK (eL k [8,9] [14] (on2 (zj.l3 C N Q)) r (λY1 s h r=>e1 r)))) (λs h r=>e1 r))))))))))))
theorem zj.imp:zj.Imp (AC P) N:=λa b c h Q r=>eF mixed (fn:=Try.f25) (λk=>zj.L k (dn Q) (zcr [a,b,c]) h r)
def zda.I:Bx:=⟨[],[],58,[(7,pz [(30,[25])] 35)]⟩
theorem zda.L:LkT P zda.I Try.f26 λC Q s h=>zda.cps C N (s 0) (s 1) h Q:=λ{C} k Q s h r=>eT k (λs h=>zda.k4 C N Q (s 0) (s 1) h) r (λs h r=>eT k (λs h=>zda.k3 C N Q (s 0) (s 1) h) r (λs h r=>eT k (λs h=>z3 (zqz.l4 C (N 106) 1 Q (s 1) (s 5)) [(.int .i64 0)] h) r (λs h r=>eS k (λs h=>Q (.bool true) h) (eT k (λs h=>z3 (zqz.l4 C (N 106) 1 Q (s 1) (s 5)) [(s 6)] h) r (λs h r=>eK (eL k [1,5] [6] (on2 (zqz.l4 C (N 106) 1 Q)) r (λY1 s h r=>e1 r)))) (λs h r=>e1 r))))
theorem zda.imp:zda.Imp (AC P) N:=λa b h Q r=>eF mixed (fn:=Try.f26) (λk=>zda.L k (dn Q) (zcr [a,b]) h r)
def zdv.I:Bx:=⟨[],[],20,[]⟩
theorem zdv.L:LkT P zdv.I Try.f27 λC Q s h=>zdv.cps C N (s 0) h Q:=λ{C} k Q s h r=>eT k (λs h=>z3 (zqp.l3 C 1 (N 106) (λh p v K=>B.st h p v K) 2 Q (s 2)) [(.int .i64 0)] h) r (λs h r=>eT k (λs h=>z3 (zqp.l3 C 1 (N 106) (λh p v K=>B.st h p v K) 2 Q (s 2)) [(s 3)] h) r (λs h r=>eK (eL k [2] [3] (λkv lv h Y1=>match kv with|[a]=>zqp.l3 C 1 (N 106) (λh p v K=>B.st h p v K) 2 Q a lv h Y1|_=>False) r (λY1 s h r=>e1 r))))
theorem zdv.imp:zdv.Imp (AC P) N:=λa h Q r=>eF mixed (fn:=Try.f27) (λk=>zdv.L k (dn Q) (zcr [a]) h r)
def zcg.I:Bx:=⟨[],[],21,[]⟩
theorem zcg.L:LkT P zcg.I Try.f28 λC Q s h=>zcg.cps C N (s 0) (s 1) h Q:=λ{C} k Q s h r=>e1 r
theorem zcg.imp:zcg.Imp (AC P) N:=λa b h Q r=>eF mixed (fn:=Try.f28) (λk=>zcg.L k (dn Q) (zcr [a,b]) h r)
def z7.I:Bx:=⟨[],[],73,[(8,pz [] 29)]⟩
theorem z7.L:LkT P z7.I Try.f29 λC Q s h=>z7.cps C N (s 0) (s 1) h Q:=λ{C} k Q s h r=>eT k (λs h=>B.call C (N 516) [(s 0),(s 1)] h λa h=>z7.k3 C N Q (s 0) a h) r (λs h r=>eT k (λs h=>z7.k3 C N Q (s 0) (s 5) h) r (λs h r=>eT k (λs h=>z3 (z7.l2 C N Q (s 0) (s 5)) [.zeg,(.int .i64 0)] h) r (λs h r=>eT k (λs h=>z3 (z7.l2 C N Q (s 0) (s 5)) [(s 6),(.int .i64 0)] h) r (λs h r=>eS k (λs h=>Q (s 6) h) (eT k (λs h=>z3 (z7.l2 C N Q (s 0) (s 5)) [(s 6),(s 7)] h) r (λs h r=>eK (eL k [0,5] [6,7] (on2 (z7.l2 C N Q)) r (λY1 s h r=>e1 r)))) (λs h r=>e1 r)))))
theorem z7.imp:z7.Imp (AC P) N:=λa b h Q r=>eF mixed (fn:=Try.f29) (λk=>z7.L k (dn Q) (zcr [a,b]) h r)
def zo.I:Bx:=⟨[],[],72,[(15,[(0,[]),(1,[]),(2,[]),(3,[]),(4,[]),(6,[]),(7,[]),(8,[]),(9,[]),(5,[9]),(10,[])])]⟩
theorem zo.L:LkT P zo.I Try.f30 λC Q s h=>zo.cps C N (s 0) h Q:=λ{C} k Q s h r=>eT k (λs h=>z3 (zo.l7 C N Q (s 0)) [.zeg,(.int .i64 0)] h) r (λs h r=>eT k (λs h=>z3 (zo.l7 C N Q (s 0)) [(s 3),(.int .i64 0)] h) r (λs h r=>eS k (λs h=>z3 (zo.l5 C N Q (s 0) (s 3)) [(.int .i64 0)] h) (eT k (λs h=>z3 (zo.l7 C N Q (s 0)) [(s 3),(s 4)] h) r (λs h r=>eK (eL k [0] [3,4] (on1 (zo.l7 C N Q)) r (λY3 s h r=>e1 r)))) (λs h r=>eS k (λs h=>Q .zeg h) (eT k (λs h=>z3 (zo.l5 C N Q (s 0) (s 3)) [(s 5)] h) r (λs h r=>eK (eL k [0,3] [5] (on2 (zo.l5 C N Q)) r (λY1 s h r=>eT k (λs h=>B.pv (V.zc9 1 (s 3) (s 5)) λa=>B.ld h a λb=>B.call C (N 521) [(s 0),b] h λc h=>zo.k3 C N Q Y1 (s 0) (s 3) (s 5) c h) r (λs h r=>eS k (λs h=>B.pv (V.bin .add (s 5) (.int .i64 1)) λd=>Y1 [d] h) (eK (eT k (λs h=>zo.k3 C N Q Y1 (s 0) (s 3) (s 5) (s 6) h) r (λs h r=>eT k (λs h=>z3 (zo.l2 C N Q Y1 (s 0) (s 3) (s 5) (s 6)) [.zeg,(.int .i64 0)] h) r (λs h r=>eT k (λs h=>z3 (zo.l2 C N Q Y1 (s 0) (s 3) (s 5) (s 6)) [(s 7),(.int .i64 0)] h) r (λs h r=>eS k (λs h=>Q (s 7) h) (eT k (λs h=>z3 (zo.l2 C N Q Y1 (s 0) (s 3) (s 5) (s 6)) [(s 7),(s 8)] h) r (λs h r=>eK (eL k [0,3,5,6] [7,8] (on4 (zo.l2 C N Q Y1)) r (λY2 s h r=>e1 r)))) (λs h r=>e1 r)))))) (λs h r=>e1 r)))))) (λs h r=>e1 r))))
theorem zo.imp:zo.Imp (AC P) N:=λa h Q r=>eF mixed (fn:=Try.f30) (λk=>zo.L k (dn Q) (zcr [a]) h r)
def zcw.I:Bx:=⟨[],[],12,[]⟩
theorem zcw.L:LkT P zcw.I Try.f31 λC Q s h=>zcw.cps C N (s 0) h Q:=λ{C} k Q s h r=>e1 r
theorem zcw.imp:zcw.Imp (AC P) N:=λa h Q r=>eF mixed (fn:=Try.f31) (λk=>zcw.L k (dn Q) (zcr [a]) h r)
def zb5.I:Bx:=⟨[],[],9,[]⟩
theorem zb5.L:LkT P zb5.I Try.f32 λC Q s h=>zb5.cps C N (s 0) (s 1) h Q:=λ{C} k Q s h r=>e1 r
theorem zb5.imp:zb5.Imp (AC P) N:=λa b h Q r=>eF mixed (fn:=Try.f32) (λk=>zb5.L k (dn Q) (zcr [a,b]) h r)
def zbg.I:Bx:=⟨[],[],34,[]⟩
theorem zbg.L:LkT P zbg.I Try.f33 λC Q s h=>zbg.cps C N (s 0) (s 1) (s 2) (s 3) h Q:=λ{C} k Q s h r=>eT k (λs h=>zbg.k3 C N Q (s 0) (.fn (N 523) [] [(s 5),(s 6),(s 7)]) .zeg h) r (λs h r=>eT k (λs h=>zbg.k3 C N Q (s 0) (s 9) .zeg h) r (λs h r=>eT k (λs h=>zbg.k3 C N Q (s 0) (s 9) (s 10) h) r (λs h r=>eS k (λs h=>B.call C (N 511) [(s 10)] h λa h=>Q (s 10) h) (eT k (λs h=>z3 (zbg.l2 C N Q (s 9) (s 18)) [(s 10)] h) r (λs h r=>eK (eL k [9,18] [10] (on2 (zbg.l2 C N Q)) r (λY1 s h r=>e1 r)))) (λs h r=>e1 r))))
theorem zbg.imp:zbg.Imp (AC P) N:=λa b c d h Q r=>eF mixed (fn:=Try.f33) (λk=>zbg.L k (dn Q) (zcr [a,b,c,d]) h r)
def zg.I:Bx:=⟨[],[],16,[]⟩
theorem zg.L:LkT P zg.I Try.f34 λC Q s h=>zg.cps C N (s 0) (s 1) h Q:=λ{C} k Q s h r=>eT k (λs h=>z3 (zg.l2 C N Q (s 0) (s 7)) [] h) r (λs h r=>eK (eL k [0,7] [] (on2 (zg.l2 C N Q)) r (λY1 s h r=>e1 r)))
theorem zg.imp:zg.Imp (AC P) N:=λa b h Q r=>eF mixed (fn:=Try.f34) (λk=>zg.L k (dn Q) (zcr [a,b]) h r)
def zb9.I:Bx:=⟨[],[],9,[]⟩
theorem zb9.L:LkT P zb9.I Try.f35 λC Q s h=>zb9.cps C N (s 0) h Q:=λ{C} k Q s h r=>e1 r
theorem zb9.imp:zb9.Imp (AC P) N:=λa h Q r=>eF mixed (fn:=Try.f35) (λk=>zb9.L k (dn Q) (zcr [a]) h r)
def zbk.I:Bx:=⟨[],[],4,[]⟩
theorem zbk.L:LkT P zbk.I Try.f36 λC Q s h=>zbk.cps C N (s 0) h Q:=λ{C} k Q s h r=>e1 r
theorem zbk.imp:zbk.Imp (AC P) N:=λa h Q r=>eF mixed (fn:=Try.f36) (λk=>zbk.L k (dn Q) (zcr [a]) h r)
def zci.I:Bx:=⟨[],[],9,[]⟩
theorem zci.L:LkT P zci.I Try.f37 λC Q s h=>zci.cps C N (s 0) h Q:=λ{C} k Q s h r=>e1 r
theorem zci.imp:zci.Imp (AC P) N:=λa h Q r=>eF mixed (fn:=Try.f37) (λk=>zci.L k (dn Q) (zcr [a]) h r)
def z4.I:Bx:=⟨[],[],4,[]⟩
theorem z4.L:LkT P z4.I Try.f38 λC Q s h=>z4.cps C N (s 0) h Q:=λ{C} k Q s h r=>e1 r
theorem z4.imp:z4.Imp (AC P) N:=λa h Q r=>eF mixed (fn:=Try.f38) (λk=>z4.L k (dn Q) (zcr [a]) h r)
def zca.I:Bx:=⟨[],[],13,[]⟩
theorem zca.L:LkT P zca.I Try.f39 λC Q s h=>zca.cps C N (s 0) (s 1) h Q:=λ{C} k Q s h r=>e1 r
theorem zca.imp:zca.Imp (AC P) N:=λa b h Q r=>eF mixed (fn:=Try.f39) (λk=>zca.L k (dn Q) (zcr [a,b]) h r)
def zb6.I:Bx:=⟨[],[],9,[]⟩
theorem zb6.L:LkT P zb6.I Try.f40 λC Q s h=>zb6.cps C N (s 0) (s 1) h Q:=λ{C} k Q s h r=>e1 r
theorem zb6.imp:zb6.Imp (AC P) N:=λa b h Q r=>eF mixed (fn:=Try.f40) (λk=>zb6.L k (dn Q) (zcr [a,b]) h r)
def zbl.I:Bx:=⟨[],[],11,[]⟩
theorem zbl.L:LkT P zbl.I Try.f41 λC Q s h=>zbl.cps C N (s 0) h Q:=λ{C} k Q s h r=>e1 r
theorem zbl.imp:zbl.Imp (AC P) N:=λa h Q r=>eF mixed (fn:=Try.f41) (λk=>zbl.L k (dn Q) (zcr [a]) h r)
def zbn.I:Bx:=⟨[],[],26,[]⟩
theorem zbn.L:LkT P zbn.I Try.f42 λC Q s h=>zbn.cps C N (s 0) (s 1) h Q:=λ{C} k Q s h r=>eT k (λs h=>z3 (zbn.l2 C N Q (s 0) (s 1)) [(.int .i64 0)] h) r (λs h r=>eS k (λs h=>Q (.int .i64 (-1)) h) (eT k (λs h=>z3 (zbn.l2 C N Q (s 0) (s 1)) [(s 5)] h) r (λs h r=>eK (eL k [0,1] [5] (on2 (zbn.l2 C N Q)) r (λY1 s h r=>e1 r)))) (λs h r=>e1 r))
theorem zbn.imp:zbn.Imp (AC P) N:=λa b h Q r=>eF mixed (fn:=Try.f42) (λk=>zbn.L k (dn Q) (zcr [a,b]) h r)
def zdw.I:Bx:=⟨[],[],23,[]⟩
theorem zdw.L:LkT P zdw.I Try.f43 λC Q s h=>zdw.cps C N (s 0) (s 1) h Q:=λ{C} k Q s h r=>e1 r
theorem zdw.imp:zdw.Imp (AC P) N:=λa b h Q r=>eF mixed (fn:=Try.f43) (λk=>zdw.L k (dn Q) (zcr [a,b]) h r)
def zd1.I:Bx:=⟨[],[],18,[]⟩
theorem zd1.L:LkT P zd1.I Try.f44 λC Q s h=>zd1.cps C N (s 0) (s 1) h Q:=λ{C} k Q s h r=>eT k (λs h=>z3 (zd1.l2 C N Q (s 0) (s 1)) [(.int .i64 0)] h) r (λs h r=>eS k (λs h=>Q (.bool false) h) (eT k (λs h=>z3 (zd1.l2 C N Q (s 0) (s 1)) [(s 5)] h) r (λs h r=>eK (eL k [0,1] [5] (on2 (zd1.l2 C N Q)) r (λY1 s h r=>e1 r)))) (λs h r=>e1 r))
theorem zd1.imp:zd1.Imp (AC P) N:=λa b h Q r=>eF mixed (fn:=Try.f44) (λk=>zd1.L k (dn Q) (zcr [a,b]) h r)
def zdp.I:Bx:=⟨[],[],48,[]⟩
theorem zdp.L:LkT P zdp.I Try.f45 λC Q s h=>zdp.cps C N (s 0) (s 1) h Q:=λ{C} k Q s h r=>eT k (λs h=>z3 (zdp.l3 C N Q (s 0) (s 1)) [(.int .i64 0)] h) r (λs h r=>eT k (λs h=>z3 (zdp.l3 C N Q (s 0) (s 1)) [(s 5)] h) r (λs h r=>eS k (λs h=>zdp.k1 C N Q (s 0) (s 1) (s 5) h) (eK (eL k [0,1] [5] (on2 (zdp.l3 C N Q)) r (λY1 s h r=>e1 r))) (λs h r=>e1 r)))
theorem zdp.imp:zdp.Imp (AC P) N:=λa b h Q r=>eF mixed (fn:=Try.f45) (λk=>zdp.L k (dn Q) (zcr [a,b]) h r)
def zdu.I:Bx:=⟨[3],[7,12,16,22],28,[]⟩
theorem zdu.L:LkT P zdu.I Try.f46 λC Q s h=>zdu.cps C N (s 0) (s 1) (s 2) h Q:=λ{C} k Q s h r=>e1 r
theorem zdu.imp:zdu.Imp (AC P) N:=λa b c h Q r=>eF mixed (fn:=Try.f46) (λk=>zdu.L k (dn Q) (zcr [a,b,c]) h r)
def zb0.I:Bx:=⟨[],[],48,[]⟩
theorem zb0.L:LkT P zb0.I Try.f47 λC Q s h=>zb0.cps C N (s 0) (s 1) h Q:=λ{C} k Q s h r=>eT k (λs h=>z3 (zb0.l3 C N Q (s 0) (s 1)) [(.int .i64 0)] h) r (λs h r=>eT k (λs h=>z3 (zb0.l3 C N Q (s 0) (s 1)) [(s 5)] h) r (λs h r=>eS k (λs h=>zb0.k1 C N Q (s 0) (s 1) (s 5) h) (eK (eL k [0,1] [5] (on2 (zb0.l3 C N Q)) r (λY1 s h r=>e1 r))) (λs h r=>e1 r)))
theorem zb0.imp:zb0.Imp (AC P) N:=λa b h Q r=>eF mixed (fn:=Try.f47) (λk=>zb0.L k (dn Q) (zcr [a,b]) h r)
def zr.I:Bx:=⟨[],[],43,[]⟩
theorem zr.L:LkT P zr.I Try.f48 λC Q s h=>zr.cps C N (s 0) (s 1) h Q:=λ{C} k Q s h r=>eT k (λs h=>B.call C (N 503) [(s 0),(s 1)] h λa h=>z3 (zr.l6 C N Q (s 0)) [a,(.int .i64 (-1))] h) r (λs h r=>eT k (λs h=>z3 (zr.l6 C N Q (s 0)) [(s 5),(.int .i64 (-1))] h) r (λs h r=>eS k (λs h=>Q (s 5) h) (eT k (λs h=>z3 (zr.l6 C N Q (s 0)) [(s 5),(s 6)] h) r (λs h r=>eK (eL k [0] [5,6] (on1 (zr.l6 C N Q)) r (λY1 s h r=>eT k (λs h=>B.pv (V.zde (s 5)) λb=>z3 (zr.l4 C N Q Y1 (s 0) b) [(s 5),(.int .i64 0)] h) r (λs h r=>eK (eT k (λs h=>z3 (zr.l4 C N Q Y1 (s 0) (s 6)) [(s 5),(.int .i64 0)] h) r (λs h r=>eT k (λs h=>z3 (zr.l4 C N Q Y1 (s 0) (s 6)) [(s 5),(s 7)] h) r (λs h r=>eK (eL k [0,6] [5,7] (on2 (zr.l4 C N Q Y1)) r (λY2 s h r=>eT k (λs h=>zr.k3 C N Q Y1 Y2 (s 0) (s 5) (s 6) (s 7) h) r (λs h r=>eS k (λs h=>B.pv (V.bin .add (s 7) (.int .i64 1)) λc=>Y2 [(s 5),c] h) (eK (eT k (λs h=>z3 (zr.l2 C N Q Y1 Y2 (s 0) (s 6) (s 7) (s 8)) [(s 5),(.int .i64 0)] h) r (λs h r=>eT k (λs h=>z3 (zr.l2 C N Q Y1 Y2 (s 0) (s 6) (s 7) (s 8)) [(s 5),(s 9)] h) r (λs h r=>eK (eL k [0,6,7,8] [5,9] (on4 (zr.l2 C N Q Y1 Y2)) r (λY3 s h r=>e1 r)))))) (λs h r=>e1 r)))))))))))) (λs h r=>e1 r)))
theorem zr.imp:zr.Imp (AC P) N:=λa b h Q r=>eF mixed (fn:=Try.f48) (λk=>zr.L k (dn Q) (zcr [a,b]) h r)
def zdm.I:Bx:=⟨[],[],18,[]⟩
theorem zdm.L:LkT P zdm.I Try.f49 λC Q s h=>zdm.cps C N (s 0) (s 1) h Q:=λ{C} k Q s h r=>eT k (λs h=>z3 (zdm.l2 C N Q (s 0) (s 1)) [(.int .i64 0)] h) r (λs h r=>eS k (λs h=>Q (.bool false) h) (eT k (λs h=>z3 (zdm.l2 C N Q (s 0) (s 1)) [(s 5)] h) r (λs h r=>eK (eL k [0,1] [5] (on2 (zdm.l2 C N Q)) r (λY1 s h r=>e1 r)))) (λs h r=>e1 r))
theorem zdm.imp:zdm.Imp (AC P) N:=λa b h Q r=>eF mixed (fn:=Try.f49) (λk=>zdm.L k (dn Q) (zcr [a,b]) h r)
def zcy.I:Bx:=⟨[],[],40,[(1,pz [] 35)]⟩
theorem zcy.L:LkT P zcy.I Try.f50 λC Q s h=>zcy.cps C N (s 0) (s 1) (s 2) (s 3) h Q:=λ{C} k Q s h r=>e1 r
theorem zcy.imp:zcy.Imp (AC P) N:=λa b c d h Q r=>eF mixed (fn:=Try.f50) (λk=>zcy.L k (dn Q) (zcr [a,b,c,d]) h r)
def zdl.I:Bx:=⟨[],[],29,[]⟩
theorem zdl.L:LkT P zdl.I Try.f51 λC Q s h=>zdl.cps C N (s 0) (s 1) h Q:=λ{C} k Q s h r=>eT k (λs h=>zdl.k4 C N Q (s 0) (s 1) h) r (λs h r=>eT k (λs h=>zdl.k3 C N Q (s 0) (s 1) h) r (λs h r=>eT k (λs h=>B.rangeMap h (s 0) λa h=>z3 (zdl.l2 C N Q (s 1) a) [] h) r (λs h r=>eS k (λs h=>Q (.bool false) h) (eT k (λs h=>z3 (zdl.l2 C N Q (s 1) (s 21)) [] h) r (λs h r=>eK (eL k [1,21] [] (on2 (zdl.l2 C N Q)) r (λY1 s h r=>e1 r)))) (λs h r=>e1 r))))
theorem zdl.imp:zdl.Imp (AC P) N:=λa b h Q r=>eF mixed (fn:=Try.f51) (λk=>zdl.L k (dn Q) (zcr [a,b]) h r)
def zdc.I:Bx:=⟨[],[],5,[]⟩
theorem zdc.L:LkT P zdc.I Try.f52 λC Q s h=>zdc.cps C N (s 0) h Q:=λ{C} k Q s h r=>e1 r
theorem zdc.imp:zdc.Imp (AC P) N:=λa h Q r=>eF mixed (fn:=Try.f52) (λk=>zdc.L k (dn Q) (zcr [a]) h r)
def zbm.I:Bx:=⟨[],[],11,[]⟩
theorem zbm.L:LkT P zbm.I Try.f53 λC Q s h=>zbm.cps C N (s 0) h Q:=λ{C} k Q s h r=>e1 r
theorem zbm.imp:zbm.Imp (AC P) N:=λa h Q r=>eF mixed (fn:=Try.f53) (λk=>zbm.L k (dn Q) (zcr [a]) h r)
def zq.I:Bx:=⟨[],[],14,[]⟩
theorem zq.L:LkT P zq.I Try.f54 λC Q s h=>zq.cps C N (s 0) (s 1) h Q:=λ{C} k Q s h r=>eT k (λs h=>z3 (zq.l2 C N Q (s 0) (s 5)) [] h) r (λs h r=>eK (eL k [0,5] [] (on2 (zq.l2 C N Q)) r (λY1 s h r=>e1 r)))
theorem zq.imp:zq.Imp (AC P) N:=λa b h Q r=>eF mixed (fn:=Try.f54) (λk=>zq.L k (dn Q) (zcr [a,b]) h r)
def zdh.I:Bx:=⟨[],[],5,[]⟩
theorem zdh.L:LkT P zdh.I Try.f55 λC Q s h=>zdh.cps C N (s 0) h Q:=λ{C} k Q s h r=>e1 r
theorem zdh.imp:zdh.Imp (AC P) N:=λa h Q r=>eF mixed (fn:=Try.f55) (λk=>zdh.L k (dn Q) (zcr [a]) h r)
def zm.I:Bx:=⟨[],[],14,[]⟩
theorem zm.L:LkT P zm.I Try.f56 λC Q s h=>zm.cps C N (s 0) (s 1) h Q:=λ{C} k Q s h r=>eT k (λs h=>z3 (zm.l2 C N Q (s 0) (s 5)) [] h) r (λs h r=>eK (eL k [0,5] [] (on2 (zm.l2 C N Q)) r (λY1 s h r=>e1 r)))
theorem zm.imp:zm.Imp (AC P) N:=λa b h Q r=>eF mixed (fn:=Try.f56) (λk=>zm.L k (dn Q) (zcr [a,b]) h r)
def zbj.I:Bx:=⟨[],[],25,[]⟩
theorem zbj.L:LkT P zbj.I Try.f57 λC Q s h=>zbj.cps C N (s 0) (s 1) (s 2) (s 3) h Q:=λ{C} k Q s h r=>eT k (λs h=>z3 (zbj.l2 C N Q (s 2) (s 3) (s 9) (s 10)) [(s 11)] h) r (λs h r=>eK (eL k [2,3,9,10] [11] (on4 (zbj.l2 C N Q)) r (λY1 s h r=>e1 r)))
theorem zbj.imp:zbj.Imp (AC P) N:=λa b c d h Q r=>eF mixed (fn:=Try.f57) (λk=>zbj.L k (dn Q) (zcr [a,b,c,d]) h r)
def zcs.I:Bx:=⟨[],[],134,[(17,pz [] 15)]⟩
theorem zcs.L:LkT P zcs.I Try.f58 λC Q s h=>zcs.cps C N (s 0) (s 1) (s 2) (s 3) h Q:=λ{C} k Q s h r=>eT k (λs h=>z3 (zn.l8 C (zdf 8 (.int .i64 0) 0) (N 534) (N 535) (N 536) (N 531) (N 537) (N 538) (N 539) (N 540) (N 541) (N 542) Q (s 0)) [(s 1),(s 2),(s 3),(s 8),(.bool true)] h) r (λs h r=>eT k (λs h=>z3 (zn.l8 C (zdf 8 (.int .i64 0) 0) (N 534) (N 535) (N 536) (N 531) (N 537) (N 538) (N 539) (N 540) (N 541) (N 542) Q (s 0)) [(s 1),(s 2),(s 3),(s 8),(s 9)] h) r (λs h r=>eK (eL k [0] [1,2,3,8,9] (on1 (zn.l8 C (zdf 8 (.int .i64 0) 0) (N 534) (N 535) (N 536) (N 531) (N 537) (N 538) (N 539) (N 540) (N 541) (N 542) Q)) r (λY1 s h r=>eK (eT k (λs h=>zn.k7 C (zdf 8 (.int .i64 0) 0) (N 534) (N 535) (N 536) (N 531) (N 537) (N 538) (N 539) (N 540) (N 541) (N 542) Q Y1 (s 0) (s 1) (s 2) (s 3) (s 8) (s 9) (s 10) h) r (λs h r=>eT k (λs h=>zn.k6 C (zdf 8 (.int .i64 0) 0) (N 534) (N 535) (N 536) (N 531) (N 537) (N 538) (N 539) (N 540) (N 541) (N 542) Q Y1 (s 0) (s 1) (s 2) (s 3) (s 8) (s 9) (s 10) h) r (λs h r=>eT k (λs h=>zn.k5 C (zdf 8 (.int .i64 0) 0) (N 534) (N 535) (N 536) (N 531) (N 537) (N 538) (N 539) (N 540) (N 541) (N 542) Q Y1 (s 0) (s 1) (s 2) (s 3) (s 8) (s 9) (s 10) h) r (λs h r=>eT k (λs h=>zn.k4 C (zdf 8 (.int .i64 0) 0) (N 534) (N 535) (N 536) (N 531) (N 537) (N 538) (N 539) (N 540) (N 541) (N 542) Q Y1 (s 0) (s 1) (s 2) (s 3) (s 8) (s 9) (s 10) h) r (λs h r=>eT k (λs h=>zn.k3 C (zdf 8 (.int .i64 0) 0) (N 534) (N 535) (N 536) (N 531) (N 537) (N 538) (N 539) (N 540) (N 541) (N 542) Q Y1 (s 0) (s 1) (s 2) (s 3) (s 8) (s 9) (s 10) (s 11) (s 12) h) r (λs h r=>eT k (λs h=>zn.k2 C (zdf 8 (.int .i64 0) 0) (N 534) (N 535) (N 536) (N 531) (N 537) (N 538) (N 539) (N 540) (N 541) (N 542) Q Y1 (s 0) (s 1) (s 2) (s 3) (s 8) (s 9) (s 10) (s 11) (s 12) h) r (λs h r=>eT k (λs h=>zn.k1 C (zdf 8 (.int .i64 0) 0) (N 534) (N 535) (N 536) (N 531) (N 537) (N 538) (N 539) (N 540) (N 541) (N 542) Q Y1 (s 0) (s 1) (s 2) (s 3) (s 8) (s 9) (s 10) (s 11) h) r (λs h r=>e1 r))))))))))))
theorem zcs.imp:zcs.Imp (AC P) N:=λa b c d h Q r=>eF mixed (fn:=Try.f58) (λk=>zcs.L k (dn Q) (zcr [a,b,c,d]) h r)
def zdx.I:Bx:=⟨[],[],8,[]⟩
theorem zdx.L:LkT P zdx.I Try.f59 λC Q s h=>zdx.cps C N (s 0) h Q:=λ{C} k Q s h r=>e1 r
theorem zdx.imp:zdx.Imp (AC P) N:=λa h Q r=>eF mixed (fn:=Try.f59) (λk=>zdx.L k (dn Q) (zcr [a]) h r)
def zc4.I:Bx:=⟨[],[],32,[]⟩
theorem zc4.L:LkT P zc4.I Try.f60 λC Q s h=>zc4.cps C N (s 0) (s 1) h Q:=λ{C} k Q s h r=>eT k (λs h=>zc4.k4 C N Q (s 0) (s 1) h) r (λs h r=>eT k (λs h=>zc4.k3 C N Q (s 0) (s 1) h) r (λs h r=>eT k (λs h=>z3 (zc4.l2 C N Q (s 0) (s 1)) [(.int .i64 0)] h) r (λs h r=>eS k (λs h=>Q (.bool false) h) (eT k (λs h=>z3 (zc4.l2 C N Q (s 0) (s 1)) [(s 5)] h) r (λs h r=>eK (eL k [0,1] [5] (on2 (zc4.l2 C N Q)) r (λY1 s h r=>e1 r)))) (λs h r=>e1 r))))
theorem zc4.imp:zc4.Imp (AC P) N:=λa b h Q r=>eF mixed (fn:=Try.f60) (λk=>zc4.L k (dn Q) (zcr [a,b]) h r)
def zb8.I:Bx:=⟨[],[],13,[]⟩
theorem zb8.L:LkT P zb8.I Try.f61 λC Q s h=>zb8.cps C N (s 0) (s 1) h Q:=λ{C} k Q s h r=>eT k (λs h=>zpf C (s 1) (W1 λb h Z1=>zcp.r2 C (zdf 16 (.str []) 0) Q (s 2) b h Z1) h (RK [(0,λh=>B.ld h (s 2) λa=>Q a h)])) r (λs h r=>eS k (λs h=>B.ld h (s 2) λa=>Q a h) (eT k (λs h=>zpf C (s 6) (W1 λb h Z1=>zcp.r2 C (zdf 16 (.str []) 0) Q (s 2) b h Z1) h (RK [(0,λh=>B.ld h (s 2) λa=>Q a h)])) r (λs h r=>eK (eR1 k 6 7 [2] (λkv b h Z1=>match kv with|[c]=>zcp.r2 C (zdf 16 (.str []) 0) Q c b h Z1|_=>False) r (rk_cons (λh r=>e0 r) rk_nil) (λZ1 s h r=>e1 r)))) (λs h r=>e1 r))
theorem zb8.imp:zb8.Imp (AC P) N:=λa b h Q r=>eF mixed (fn:=Try.f61) (λk=>zb8.L k (dn Q) (zcr [a,b]) h r)
def zcl.I:Bx:=⟨[],[],134,[(17,pz [] 15)]⟩
theorem zcl.L:LkT P zcl.I Try.f62 λC Q s h=>zcl.cps C N (s 0) (s 1) (s 2) (s 3) h Q:=λ{C} k Q s h r=>eT k (λs h=>z3 (zn.l8 C (zdf 16 (.str []) 0) (N 377) (N 378) (N 379) (N 375) (N 380) (N 381) (N 382) (N 383) (N 384) (N 385) Q (s 0)) [(s 1),(s 2),(s 3),(s 8),(.bool true)] h) r (λs h r=>eT k (λs h=>z3 (zn.l8 C (zdf 16 (.str []) 0) (N 377) (N 378) (N 379) (N 375) (N 380) (N 381) (N 382) (N 383) (N 384) (N 385) Q (s 0)) [(s 1),(s 2),(s 3),(s 8),(s 9)] h) r (λs h r=>eK (eL k [0] [1,2,3,8,9] (on1 (zn.l8 C (zdf 16 (.str []) 0) (N 377) (N 378) (N 379) (N 375) (N 380) (N 381) (N 382) (N 383) (N 384) (N 385) Q)) r (λY1 s h r=>eK (eT k (λs h=>zn.k7 C (zdf 16 (.str []) 0) (N 377) (N 378) (N 379) (N 375) (N 380) (N 381) (N 382) (N 383) (N 384) (N 385) Q Y1 (s 0) (s 1) (s 2) (s 3) (s 8) (s 9) (s 10) h) r (λs h r=>eT k (λs h=>zn.k6 C (zdf 16 (.str []) 0) (N 377) (N 378) (N 379) (N 375) (N 380) (N 381) (N 382) (N 383) (N 384) (N 385) Q Y1 (s 0) (s 1) (s 2) (s 3) (s 8) (s 9) (s 10) h) r (λs h r=>eT k (λs h=>zn.k5 C (zdf 16 (.str []) 0) (N 377) (N 378) (N 379) (N 375) (N 380) (N 381) (N 382) (N 383) (N 384) (N 385) Q Y1 (s 0) (s 1) (s 2) (s 3) (s 8) (s 9) (s 10) h) r (λs h r=>eT k (λs h=>zn.k4 C (zdf 16 (.str []) 0) (N 377) (N 378) (N 379) (N 375) (N 380) (N 381) (N 382) (N 383) (N 384) (N 385) Q Y1 (s 0) (s 1) (s 2) (s 3) (s 8) (s 9) (s 10) h) r (λs h r=>eT k (λs h=>zn.k3 C (zdf 16 (.str []) 0) (N 377) (N 378) (N 379) (N 375) (N 380) (N 381) (N 382) (N 383) (N 384) (N 385) Q Y1 (s 0) (s 1) (s 2) (s 3) (s 8) (s 9) (s 10) (s 11) (s 12) h) r (λs h r=>eT k (λs h=>zn.k2 C (zdf 16 (.str []) 0) (N 377) (N 378) (N 379) (N 375) (N 380) (N 381) (N 382) (N 383) (N 384) (N 385) Q Y1 (s 0) (s 1) (s 2) (s 3) (s 8) (s 9) (s 10) (s 11) (s 12) h) r (λs h r=>eT k (λs h=>zn.k1 C (zdf 16 (.str []) 0) (N 377) (N 378) (N 379) (N 375) (N 380) (N 381) (N 382) (N 383) (N 384) (N 385) Q Y1 (s 0) (s 1) (s 2) (s 3) (s 8) (s 9) (s 10) (s 11) h) r (λs h r=>e1 r))))))))))))
theorem zcl.imp:zcl.Imp (AC P) N:=λa b c d h Q r=>eF mixed (fn:=Try.f62) (λk=>zcl.L k (dn Q) (zcr [a,b,c,d]) h r)
def zcn.I:Bx:=⟨[],[],13,[]⟩
theorem zcn.L:LkT P zcn.I Try.f63 λC Q s h=>zcn.cps C N (s 0) (s 1) h Q:=λ{C} k Q s h r=>eT k (λs h=>zpf C (s 1) (W1 λb h Z1=>zcp.r2 C (zdf 8 (.int .i64 0) 0) Q (s 2) b h Z1) h (RK [(0,λh=>B.ld h (s 2) λa=>Q a h)])) r (λs h r=>eS k (λs h=>B.ld h (s 2) λa=>Q a h) (eT k (λs h=>zpf C (s 6) (W1 λb h Z1=>zcp.r2 C (zdf 8 (.int .i64 0) 0) Q (s 2) b h Z1) h (RK [(0,λh=>B.ld h (s 2) λa=>Q a h)])) r (λs h r=>eK (eR1 k 6 7 [2] (λkv b h Z1=>match kv with|[c]=>zcp.r2 C (zdf 8 (.int .i64 0) 0) Q c b h Z1|_=>False) r (rk_cons (λh r=>e0 r) rk_nil) (λZ1 s h r=>e1 r)))) (λs h r=>e1 r))
theorem zcn.imp:zcn.Imp (AC P) N:=λa b h Q r=>eF mixed (fn:=Try.f63) (λk=>zcn.L k (dn Q) (zcr [a,b]) h r)
def zby.I:Bx:=⟨[],[],49,[(4,pz [] 15),(6,pz [] 18)]⟩
theorem zby.L:LkT P zby.I Try.f64 λC Q s h=>zby.cps C N (s 0) (s 1) (s 2) h Q:=λ{C} k Q s h r=>eT k (λs h=>z3 (z6.l3 C (zdf 8 (.int .i64 0) 0) (N 534) Q (s 0) (s 1) (s 2)) [(s 6)] h) r (λs h r=>eK (eL k [0,1,2] [6] (on3 (z6.l3 C (zdf 8 (.int .i64 0) 0) (N 534) Q)) r (λY1 s h r=>eT k (λs h=>z3 (z6.l2 C (zdf 8 (.int .i64 0) 0) (N 534) Q Y1 (s 0) (s 1) (s 2) (s 6)) [(s 6)] h) r (λs h r=>eS k (λs h=>B.pv (V.bin .add (s 6) (.int .i64 1)) λa=>Y1 [a] h) (eK (eT k (λs h=>z3 (z6.l2 C (zdf 8 (.int .i64 0) 0) (N 534) Q Y1 (s 0) (s 1) (s 2) (s 6)) [(s 7)] h) r (λs h r=>eK (eL k [0,1,2,6] [7] (on4 (z6.l2 C (zdf 8 (.int .i64 0) 0) (N 534) Q Y1)) r (λY2 s h r=>e1 r))))) (λs h r=>e1 r)))))
theorem zby.imp:zby.Imp (AC P) N:=λa b c h Q r=>eF mixed (fn:=Try.f64) (λk=>zby.L k (dn Q) (zcr [a,b,c]) h r)
def zcm.I:Bx:=⟨[],[],56,[(10,pz [] 20)]⟩
theorem zcm.L:LkT P zcm.I Try.f65 λC Q s h=>zcm.cps C N (s 0) (s 1) (s 2) h Q:=λ{C} k Q s h r=>eT k (λs h=>B.pv (V.bin .sub (s 2) (s 1)) λa=>zx.k5 C (zdf 8 (.int .i64 0) 0) (N 543) Q (s 0) (s 6) (.int .i64 0) a h) r (λs h r=>eT k (λs h=>B.pv (V.bin .sub (s 2) (s 1)) λa=>zx.k5 C (zdf 8 (.int .i64 0) 0) (N 543) Q (s 0) (s 6) (s 7) a h) r (λs h r=>eT k (λs h=>zx.k5 C (zdf 8 (.int .i64 0) 0) (N 543) Q (s 0) (s 6) (s 7) (s 8) h) r (λs h r=>eS k (λs h=>B.pv (V.bin .sub (s 8) (.int .i64 1)) λb=>z3 (zx.l2 C (zdf 8 (.int .i64 0) 0) (N 543) Q (s 0) (s 6) (s 7)) [b] h) (eT k (λs h=>z3 (zx.l4 C (zdf 8 (.int .i64 0) 0) (N 543) Q (s 0) (s 6) (s 7) (s 8)) [(s 9)] h) r (λs h r=>eK (eL k [0,6,7,8] [9] (on4 (zx.l4 C (zdf 8 (.int .i64 0) 0) (N 543) Q)) r (λY2 s h r=>e1 r)))) (λs h r=>eT k (λs h=>z3 (zx.l2 C (zdf 8 (.int .i64 0) 0) (N 543) Q (s 0) (s 6) (s 7)) [(s 10)] h) r (λs h r=>eK (eL k [0,6,7] [10] (on3 (zx.l2 C (zdf 8 (.int .i64 0) 0) (N 543) Q)) r (λY1 s h r=>e1 r)))))))
theorem zcm.imp:zcm.Imp (AC P) N:=λa b c h Q r=>eF mixed (fn:=Try.f65) (λk=>zcm.L k (dn Q) (zcr [a,b,c]) h r)
def zbz.I:Bx:=⟨[],[],65,[(10,pz [] 20)]⟩
theorem zbz.L:LkT P zbz.I Try.f66 λC Q s h=>zbz.cps C N (s 0) (s 1) (s 2) h Q:=λ{C} k Q s h r=>eT k (λs h=>B.pv (V.bin .geq (s 6) (.int .i64 8)) λa=>B.cond a (zi.k7 C (zdf 8 (.int .i64 0) 0) (N 298) (N 299) Q (s 0) (s 1) (s 6) h) (Q (.tup []) h)) r (λs h r=>eT k (λs h=>B.cond (s 15) (zi.k7 C (zdf 8 (.int .i64 0) 0) (N 298) (N 299) Q (s 0) (s 1) (s 6) h) (Q (.tup []) h)) r (λs h r=>eC 15 r (λr=>eT k (λs h=>B.call C (N 299) [(s 6)] h λb h=>zi.k6 C (zdf 8 (.int .i64 0) 0) (N 298) (N 299) Q (s 0) (s 1) (s 6) (s 7) b h) r (λs h r=>eT k (λs h=>zi.k6 C (zdf 8 (.int .i64 0) 0) (N 298) (N 299) Q (s 0) (s 1) (s 6) (s 7) (s 8) h) r (λs h r=>eT k (λs h=>z3 (zi.l5 C (zdf 8 (.int .i64 0) 0) (N 298) (N 299) Q (s 0) (s 1) (s 6) (s 7) (s 8)) [(s 9)] h) r (λs h r=>eK (eL k [0,1,6,7,8] [9] (on5 (zi.l5 C (zdf 8 (.int .i64 0) 0) (N 298) (N 299) Q)) r (λY1 s h r=>eT k (λs h=>zi.k3 C (zdf 8 (.int .i64 0) 0) (N 298) (N 299) Q Y1 (s 0) (s 1) (s 6) (s 7) (s 8) (s 9) h) r (λs h r=>eS k (λs h=>B.pv (V.bin .add (s 9) (.int .i64 1)) λc=>Y1 [c] h) (eK (eT k (λs h=>zi.k2 C (zdf 8 (.int .i64 0) 0) (N 298) (N 299) Q Y1 (s 0) (s 1) (s 6) (s 7) (s 8) (s 9) (s 10) h) r (λs h r=>eT k (λs h=>zi.k1 C (zdf 8 (.int .i64 0) 0) (N 298) (N 299) Q Y1 (s 0) (s 1) (s 6) (s 7) (s 8) (s 9) (s 10) h) r (λs h r=>e1 r)))) (λs h r=>e1 r)))))))) (λr=>e1 r)))
theorem zbz.imp:zbz.Imp (AC P) N:=λa b c h Q r=>eF mixed (fn:=Try.f66) (λk=>zbz.L k (dn Q) (zcr [a,b,c]) h r)
def zb4.I:Bx:=⟨[],[],57,[]⟩
theorem zb4.L:LkT P zb4.I Try.f67 λC Q s h=>zb4.cps C N (s 0) (s 1) (s 2) h Q:=λ{C} k Q s h r=>eT k (λs h=>B.pv (V.bin .sub (s 2) (s 1)) λb=>B.zgn h (some [.int .i64 0]) λa h=>zp.k5 C (zdf 8 (.int .i64 0) 0) (N 544) (N 545) Q (s 0) (s 1) b (.ptr a 0 0) h) r (λs h r=>eT k (λs h=>B.zgn h (some [.int .i64 0]) λa h=>zp.k5 C (zdf 8 (.int .i64 0) 0) (N 544) (N 545) Q (s 0) (s 1) (s 8) (.ptr a 0 0) h) r (λs h r=>eT k (λs h=>zp.k5 C (zdf 8 (.int .i64 0) 0) (N 544) (N 545) Q (s 0) (s 1) (s 8) (s 9) h) r (λs h r=>eT k (λs h=>zp.k4 C (zdf 8 (.int .i64 0) 0) (N 544) (N 545) Q (s 0) (s 1) (s 8) (s 9) (s 10) h) r (λs h r=>eT k (λs h=>zp.k3 C (zdf 8 (.int .i64 0) 0) (N 544) (N 545) Q (s 0) (s 1) (s 8) (s 9) (s 10) (s 11) h) r (λs h r=>eT k (λs h=>zp.k2 C (zdf 8 (.int .i64 0) 0) (N 544) (N 545) Q (s 0) (s 8) (s 9) (s 10) (s 11) (s 12) h) r (λs h r=>eT k (λs h=>zp.k1 C (zdf 8 (.int .i64 0) 0) (N 544) (N 545) Q (s 9) (s 11) h) r (λs h r=>e1 r)))))))
theorem zb4.imp:zb4.Imp (AC P) N:=λa b c h Q r=>eF mixed (fn:=Try.f67) (λk=>zb4.L k (dn Q) (zcr [a,b,c]) h r)
def zb1.I:Bx:=⟨[],[],32,[(3,pz [] 16)]⟩
theorem zb1.L:LkT P zb1.I Try.f68 λC Q s h=>zb1.cps C N (s 0) (s 1) (s 2) h Q:=λ{C} k Q s h r=>eT k (λs h=>B.pv (V.bin .sub (s 2) (.int .i64 1)) λa=>z3 (zbx.l2 C (zdf 8 (.int .i64 0) 0) Q (s 0)) [(s 6),a] h) r (λs h r=>eT k (λs h=>z3 (zbx.l2 C (zdf 8 (.int .i64 0) 0) Q (s 0)) [(s 6),(s 7)] h) r (λs h r=>eK (eL k [0] [6,7] (on1 (zbx.l2 C (zdf 8 (.int .i64 0) 0) Q)) r (λY1 s h r=>e1 r))))
theorem zb1.imp:zb1.Imp (AC P) N:=λa b c h Q r=>eF mixed (fn:=Try.f68) (λk=>zb1.L k (dn Q) (zcr [a,b,c]) h r)
def zbf.I:Bx:=⟨[],[],133,[(5,pz [] 16),(11,pz [] 18),(16,pz [] 11),(17,pz [] 18),(22,pz [] 11),(23,pz [] 18)]⟩
theorem zbf.L:LkT P zbf.I Try.f69 λC Q s h=>zbf.cps C N (s 0) (s 1) (s 2) h Q:=λ{C} k Q s h r=>eT k (λs h=>B.pv (V.bin .add (s 1) (.int .i64 1)) λc=>z3 (zd.l12 C (zdf 8 (.int .i64 0) 0) (N 534) Q (s 0) (s 1) (s 2)) [c,(.int .i64 0)] h) r (λs h r=>eT k (λs h=>z3 (zd.l12 C (zdf 8 (.int .i64 0) 0) (N 534) Q (s 0) (s 1) (s 2)) [(s 7),(.int .i64 0)] h) r (λs h r=>eS k (λs h=>Q (.bool false) h) (eT k (λs h=>z3 (zd.l12 C (zdf 8 (.int .i64 0) 0) (N 534) Q (s 0) (s 1) (s 2)) [(s 7),(s 8)] h) r (λs h r=>eK (eL k [0,1,2] [7,8] (on3 (zd.l12 C (zdf 8 (.int .i64 0) 0) (N 534) Q)) r (λY1 s h r=>eT k (λs h=>z3 (zd.l10 C (zdf 8 (.int .i64 0) 0) (N 534) Q Y1 (s 0) (s 1) (s 2) (s 8)) [(s 7)] h) r (λs h r=>eS k (λs h=>B.pv (V.bin .add (s 8) (.int .i64 1)) λa=>Y1 [(s 7),a] h) (eK (eS k (λs h=>B.pv (V.bin .eql (s 7) (s 2)) λd=>B.cond d (Q (.bool true) h) (zd.k8 C (zdf 8 (.int .i64 0) 0) (N 534) Q Y1 (s 0) (s 1) (s 2) (s 7) (s 8) h)) (eK (eL k [0,1,2,8] [7] (on4 (zd.l10 C (zdf 8 (.int .i64 0) 0) (N 534) Q Y1)) r (λY4 s h r=>e1 r))) (λs h r=>eT k (λs h=>zd.k8 C (zdf 8 (.int .i64 0) 0) (N 534) Q Y1 (s 0) (s 1) (s 2) (s 7) (s 8) h) r (λs h r=>eT k (λs h=>zd.k7 C (zdf 8 (.int .i64 0) 0) (N 534) Q Y1 (s 0) (s 1) (s 2) (s 7) (s 8) h) r (λs h r=>eT k (λs h=>zd.k6 C (zdf 8 (.int .i64 0) 0) (N 534) Q Y1 (s 0) (s 1) (s 2) (s 7) (s 8) h) r (λs h r=>eS k (λs h=>zd.k3 C (zdf 8 (.int .i64 0) 0) (N 534) Q Y1 (s 0) (s 1) (s 2) (s 7) (s 8) h) (eT k (λs h=>B.cond (s 61) (B.pv (V.bin .sub (s 7) (.int .i64 1)) λe=>z3 (zd.l5 C (zdf 8 (.int .i64 0) 0) (N 534) Q Y1 (s 0) (s 1) (s 2) (s 7) (s 8)) [e] h) (zd.k3 C (zdf 8 (.int .i64 0) 0) (N 534) Q Y1 (s 0) (s 1) (s 2) (s 7) (s 8) h)) r (λs h r=>eC 61 r (λr=>eT k (λs h=>z3 (zd.l5 C (zdf 8 (.int .i64 0) 0) (N 534) Q Y1 (s 0) (s 1) (s 2) (s 7) (s 8)) [(s 9)] h) r (λs h r=>eK (eL k [0,1,2,7,8] [9] (on5 (zd.l5 C (zdf 8 (.int .i64 0) 0) (N 534) Q Y1)) r (λY3 s h r=>e1 r)))) (λr=>e1 r))) (λs h r=>eT k (λs h=>B.cond (s 98) (B.pv (V.bin .add (s 7) (.int .i64 1)) λb=>z3 (zd.l2 C (zdf 8 (.int .i64 0) 0) (N 534) Q Y1 (s 0) (s 1) (s 2) (s 7) (s 8)) [b] h) (B.pv (V.bin .add (s 8) (.int .i64 1)) λa=>Y1 [(s 7),a] h)) r (λs h r=>eC 98 r (λr=>eT k (λs h=>z3 (zd.l2 C (zdf 8 (.int .i64 0) 0) (N 534) Q Y1 (s 0) (s 1) (s 2) (s 7) (s 8)) [(s 10)] h) r (λs h r=>eK (eL k [0,1,2,7,8] [10] (on5 (zd.l2 C (zdf 8 (.int .i64 0) 0) (N 534) Q Y1)) r (λY2 s h r=>e1 r)))) (λr=>e1 r))))))))) (λs h r=>e1 r)))))) (λs h r=>e1 r)))
theorem zbf.imp:zbf.Imp (AC P) N:=λa b c h Q r=>eF mixed (fn:=Try.f69) (λk=>zbf.L k (dn Q) (zcr [a,b,c]) h r)
def zdk.I:Bx:=⟨[],[],17,[]⟩
theorem zdk.L:LkT P zdk.I Try.f70 λC Q s h=>zdk.cps C N (s 0) (s 1) h Q:=λ{C} k Q s h r=>e1 r
theorem zdk.imp:zdk.Imp (AC P) N:=λa b h Q r=>eF mixed (fn:=Try.f70) (λk=>zdk.L k (dn Q) (zcr [a,b]) h r)
def zbr.I:Bx:=⟨[],[],84,[(1,pz [] 16),(3,pz [] 15),(5,pz [] 14),(8,pz [] 16)]⟩
theorem zbr.L:LkT P zbr.I Try.f71 λC Q s h=>zbr.cps C N (s 0) (s 1) (s 2) (s 3) h Q:=λ{C} k Q s h r=>eT k (λs h=>zk.k8 C (zdf 8 (.int .i64 0) 0) (N 534) Q (s 0) (s 1) (s 2) (s 3) h) r (λs h r=>eT k (λs h=>zk.k7 C (zdf 8 (.int .i64 0) 0) (N 534) Q (s 0) (s 1) (s 2) h) r (λs h r=>eT k (λs h=>z3 (zk.l6 C (zdf 8 (.int .i64 0) 0) (N 534) Q (s 0) (s 1)) [(s 9),(s 10)] h) r (λs h r=>eS k (λs h=>Q (s 9) h) (eK (eL k [0,1] [9,10] (on2 (zk.l6 C (zdf 8 (.int .i64 0) 0) (N 534) Q)) r (λY1 s h r=>eK (eS k (λs h=>z3 (zk.l3 C (zdf 8 (.int .i64 0) 0) (N 534) Q Y1 (s 0) (s 1) (s 9)) [(s 10)] h) (eK (eL k [0,1,10] [9] (on3 (zk.l5 C (zdf 8 (.int .i64 0) 0) (N 534) Q Y1)) r (λY3 s h r=>e1 r))) (λs h r=>eS k (λs h=>zk.k1 C (zdf 8 (.int .i64 0) 0) (N 534) Q Y1 (s 0) (s 1) (s 9) (s 10) h) (eK (eL k [0,1,9] [10] (on3 (zk.l3 C (zdf 8 (.int .i64 0) 0) (N 534) Q Y1)) r (λY2 s h r=>e1 r))) (λs h r=>e1 r)))))) (λs h r=>e1 r))))
theorem zbr.imp:zbr.Imp (AC P) N:=λa b c d h Q r=>eF mixed (fn:=Try.f71) (λk=>zbr.L k (dn Q) (zcr [a,b,c,d]) h r)
def zce.I:Bx:=⟨[],[],168,[(1,pz [] 16),(3,pz [] 14),(5,pz [] 15),(8,pz [] 16),(10,pz [] 16),(13,pz [] 14),(15,pz [] 15),(18,pz [] 16),(21,pz [] 16)]⟩
theorem zce.L:LkT P zce.I Try.f72 λC Q s h=>zce.cps C N (s 0) (s 1) (s 2) (s 3) h Q:=λ{C} k Q s h r=>eT k (λs h=>ze.k16 C (zdf 8 (.int .i64 0) 0) (N 534) Q (s 0) (s 1) (s 2) (s 3) h) r (λs h r=>eT k (λs h=>ze.k15 C (zdf 8 (.int .i64 0) 0) (N 534) Q (s 0) (s 1) (s 2) h) r (λs h r=>eT k (λs h=>z3 (ze.l14 C (zdf 8 (.int .i64 0) 0) (N 534) Q (s 0) (s 1) (s 11)) [(s 10)] h) r (λs h r=>eS k (λs h=>z3 (ze.l12 C (zdf 8 (.int .i64 0) 0) (N 534) Q (s 0) (s 1) (s 10)) [(s 11)] h) (eK (eL k [0,1,11] [10] (on3 (ze.l14 C (zdf 8 (.int .i64 0) 0) (N 534) Q)) r (λY5 s h r=>e1 r))) (λs h r=>eS k (λs h=>ze.k10 C (zdf 8 (.int .i64 0) 0) (N 534) Q (s 0) (s 1) (s 10) (s 11) h) (eK (eL k [0,1,10] [11] (on3 (ze.l12 C (zdf 8 (.int .i64 0) 0) (N 534) Q)) r (λY4 s h r=>e1 r))) (λs h r=>eT k (λs h=>ze.k9 C (zdf 8 (.int .i64 0) 0) (N 534) Q (s 0) (s 1) (s 10) (s 11) h) r (λs h r=>eT k (λs h=>ze.k8 C (zdf 8 (.int .i64 0) 0) (N 534) Q (s 0) (s 1) (s 10) (s 11) h) r (λs h r=>eT k (λs h=>B.pv (V.bin .sub (s 11) (.int .i64 1)) λa=>z3 (ze.l7 C (zdf 8 (.int .i64 0) 0) (N 534) Q (s 0) (s 1)) [(s 10),a] h) r (λs h r=>eT k (λs h=>z3 (ze.l7 C (zdf 8 (.int .i64 0) 0) (N 534) Q (s 0) (s 1)) [(s 10),(s 11)] h) r (λs h r=>eS k (λs h=>ze.k1 C (zdf 8 (.int .i64 0) 0) (N 534) Q (s 0) (s 1) (s 11) h) (eK (eL k [0,1] [10,11] (on2 (ze.l7 C (zdf 8 (.int .i64 0) 0) (N 534) Q)) r (λY1 s h r=>eK (eS k (λs h=>z3 (ze.l4 C (zdf 8 (.int .i64 0) 0) (N 534) Q Y1 (s 0) (s 1) (s 10)) [(s 11)] h) (eK (eL k [0,1,11] [10] (on3 (ze.l6 C (zdf 8 (.int .i64 0) 0) (N 534) Q Y1)) r (λY3 s h r=>e1 r))) (λs h r=>eS k (λs h=>ze.k2 C (zdf 8 (.int .i64 0) 0) (N 534) Q Y1 (s 0) (s 1) (s 10) (s 11) h) (eK (eL k [0,1,10] [11] (on3 (ze.l4 C (zdf 8 (.int .i64 0) 0) (N 534) Q Y1)) r (λY2 s h r=>e1 r))) (λs h r=>e1 r)))))) (λs h r=>e1 r))))))))))
theorem zce.imp:zce.Imp (AC P) N:=λa b c d h Q r=>eF mixed (fn:=Try.f72) (λk=>zce.L k (dn Q) (zcr [a,b,c,d]) h r)
def zbi.I:Bx:=⟨[],[],25,[]⟩
theorem zbi.L:LkT P zbi.I Try.f74 λC Q s h=>zbi.cps C N (s 0) h Q:=λ{C} k Q s h r=>eT k (λs h=>zbi.k4 C N Q (s 0) (s 2) h) r (λs h r=>eT k (λs h=>zbi.k3 C N Q (s 0) (s 2) h) r (λs h r=>eT k (λs h=>zbi.k2 C N Q (s 0) (s 2) h) r (λs h r=>eT k (λs h=>zbi.k1 C N Q (s 0) (s 2) h) r (λs h r=>e1 r))))
theorem zbi.imp:zbi.Imp (AC P) N:=λa h Q r=>eF mixed (fn:=Try.f74) (λk=>zbi.L k (dn Q) (zcr [a]) h r)
def zbt.I:Bx:=⟨[],[],49,[(4,pz [] 15),(6,pz [] 18)]⟩
theorem zbt.L:LkT P zbt.I Try.f75 λC Q s h=>zbt.cps C N (s 0) (s 1) (s 2) h Q:=λ{C} k Q s h r=>eT k (λs h=>z3 (z6.l3 C (zdf 16 (.str []) 0) (N 377) Q (s 0) (s 1) (s 2)) [(s 6)] h) r (λs h r=>eK (eL k [0,1,2] [6] (on3 (z6.l3 C (zdf 16 (.str []) 0) (N 377) Q)) r (λY1 s h r=>eT k (λs h=>z3 (z6.l2 C (zdf 16 (.str []) 0) (N 377) Q Y1 (s 0) (s 1) (s 2) (s 6)) [(s 6)] h) r (λs h r=>eS k (λs h=>B.pv (V.bin .add (s 6) (.int .i64 1)) λa=>Y1 [a] h) (eK (eT k (λs h=>z3 (z6.l2 C (zdf 16 (.str []) 0) (N 377) Q Y1 (s 0) (s 1) (s 2) (s 6)) [(s 7)] h) r (λs h r=>eK (eL k [0,1,2,6] [7] (on4 (z6.l2 C (zdf 16 (.str []) 0) (N 377) Q Y1)) r (λY2 s h r=>e1 r))))) (λs h r=>e1 r)))))
theorem zbt.imp:zbt.Imp (AC P) N:=λa b c h Q r=>eF mixed (fn:=Try.f75) (λk=>zbt.L k (dn Q) (zcr [a,b,c]) h r)
def zcf.I:Bx:=⟨[],[],56,[(10,pz [] 20)]⟩
theorem zcf.L:LkT P zcf.I Try.f76 λC Q s h=>zcf.cps C N (s 0) (s 1) (s 2) h Q:=λ{C} k Q s h r=>eT k (λs h=>B.pv (V.bin .sub (s 2) (s 1)) λa=>zx.k5 C (zdf 16 (.str []) 0) (N 386) Q (s 0) (s 6) (.int .i64 0) a h) r (λs h r=>eT k (λs h=>B.pv (V.bin .sub (s 2) (s 1)) λa=>zx.k5 C (zdf 16 (.str []) 0) (N 386) Q (s 0) (s 6) (s 7) a h) r (λs h r=>eT k (λs h=>zx.k5 C (zdf 16 (.str []) 0) (N 386) Q (s 0) (s 6) (s 7) (s 8) h) r (λs h r=>eS k (λs h=>B.pv (V.bin .sub (s 8) (.int .i64 1)) λb=>z3 (zx.l2 C (zdf 16 (.str []) 0) (N 386) Q (s 0) (s 6) (s 7)) [b] h) (eT k (λs h=>z3 (zx.l4 C (zdf 16 (.str []) 0) (N 386) Q (s 0) (s 6) (s 7) (s 8)) [(s 9)] h) r (λs h r=>eK (eL k [0,6,7,8] [9] (on4 (zx.l4 C (zdf 16 (.str []) 0) (N 386) Q)) r (λY2 s h r=>e1 r)))) (λs h r=>eT k (λs h=>z3 (zx.l2 C (zdf 16 (.str []) 0) (N 386) Q (s 0) (s 6) (s 7)) [(s 10)] h) r (λs h r=>eK (eL k [0,6,7] [10] (on3 (zx.l2 C (zdf 16 (.str []) 0) (N 386) Q)) r (λY1 s h r=>e1 r)))))))
theorem zcf.imp:zcf.Imp (AC P) N:=λa b c h Q r=>eF mixed (fn:=Try.f76) (λk=>zcf.L k (dn Q) (zcr [a,b,c]) h r)
def zbu.I:Bx:=⟨[],[],65,[(10,pz [] 20)]⟩
theorem zbu.L:LkT P zbu.I Try.f77 λC Q s h=>zbu.cps C N (s 0) (s 1) (s 2) h Q:=λ{C} k Q s h r=>eT k (λs h=>B.pv (V.bin .geq (s 6) (.int .i64 8)) λa=>B.cond a (zi.k7 C (zdf 16 (.str []) 0) (N 298) (N 299) Q (s 0) (s 1) (s 6) h) (Q (.tup []) h)) r (λs h r=>eT k (λs h=>B.cond (s 15) (zi.k7 C (zdf 16 (.str []) 0) (N 298) (N 299) Q (s 0) (s 1) (s 6) h) (Q (.tup []) h)) r (λs h r=>eC 15 r (λr=>eT k (λs h=>B.call C (N 299) [(s 6)] h λb h=>zi.k6 C (zdf 16 (.str []) 0) (N 298) (N 299) Q (s 0) (s 1) (s 6) (s 7) b h) r (λs h r=>eT k (λs h=>zi.k6 C (zdf 16 (.str []) 0) (N 298) (N 299) Q (s 0) (s 1) (s 6) (s 7) (s 8) h) r (λs h r=>eT k (λs h=>z3 (zi.l5 C (zdf 16 (.str []) 0) (N 298) (N 299) Q (s 0) (s 1) (s 6) (s 7) (s 8)) [(s 9)] h) r (λs h r=>eK (eL k [0,1,6,7,8] [9] (on5 (zi.l5 C (zdf 16 (.str []) 0) (N 298) (N 299) Q)) r (λY1 s h r=>eT k (λs h=>zi.k3 C (zdf 16 (.str []) 0) (N 298) (N 299) Q Y1 (s 0) (s 1) (s 6) (s 7) (s 8) (s 9) h) r (λs h r=>eS k (λs h=>B.pv (V.bin .add (s 9) (.int .i64 1)) λc=>Y1 [c] h) (eK (eT k (λs h=>zi.k2 C (zdf 16 (.str []) 0) (N 298) (N 299) Q Y1 (s 0) (s 1) (s 6) (s 7) (s 8) (s 9) (s 10) h) r (λs h r=>eT k (λs h=>zi.k1 C (zdf 16 (.str []) 0) (N 298) (N 299) Q Y1 (s 0) (s 1) (s 6) (s 7) (s 8) (s 9) (s 10) h) r (λs h r=>e1 r)))) (λs h r=>e1 r)))))))) (λr=>e1 r)))
theorem zbu.imp:zbu.Imp (AC P) N:=λa b c h Q r=>eF mixed (fn:=Try.f77) (λk=>zbu.L k (dn Q) (zcr [a,b,c]) h r)
def zb2.I:Bx:=⟨[],[],57,[]⟩
theorem zb2.L:LkT P zb2.I Try.f78 λC Q s h=>zb2.cps C N (s 0) (s 1) (s 2) h Q:=λ{C} k Q s h r=>eT k (λs h=>B.pv (V.bin .sub (s 2) (s 1)) λb=>B.zgn h (some [.int .i64 0]) λa h=>zp.k5 C (zdf 16 (.str []) 0) (N 387) (N 388) Q (s 0) (s 1) b (.ptr a 0 0) h) r (λs h r=>eT k (λs h=>B.zgn h (some [.int .i64 0]) λa h=>zp.k5 C (zdf 16 (.str []) 0) (N 387) (N 388) Q (s 0) (s 1) (s 8) (.ptr a 0 0) h) r (λs h r=>eT k (λs h=>zp.k5 C (zdf 16 (.str []) 0) (N 387) (N 388) Q (s 0) (s 1) (s 8) (s 9) h) r (λs h r=>eT k (λs h=>zp.k4 C (zdf 16 (.str []) 0) (N 387) (N 388) Q (s 0) (s 1) (s 8) (s 9) (s 10) h) r (λs h r=>eT k (λs h=>zp.k3 C (zdf 16 (.str []) 0) (N 387) (N 388) Q (s 0) (s 1) (s 8) (s 9) (s 10) (s 11) h) r (λs h r=>eT k (λs h=>zp.k2 C (zdf 16 (.str []) 0) (N 387) (N 388) Q (s 0) (s 8) (s 9) (s 10) (s 11) (s 12) h) r (λs h r=>eT k (λs h=>zp.k1 C (zdf 16 (.str []) 0) (N 387) (N 388) Q (s 9) (s 11) h) r (λs h r=>e1 r)))))))
theorem zb2.imp:zb2.Imp (AC P) N:=λa b c h Q r=>eF mixed (fn:=Try.f78) (λk=>zb2.L k (dn Q) (zcr [a,b,c]) h r)
def zbw.I:Bx:=⟨[],[],32,[(3,pz [] 16)]⟩
theorem zbw.L:LkT P zbw.I Try.f79 λC Q s h=>zbw.cps C N (s 0) (s 1) (s 2) h Q:=λ{C} k Q s h r=>eT k (λs h=>B.pv (V.bin .sub (s 2) (.int .i64 1)) λa=>z3 (zbx.l2 C (zdf 16 (.str []) 0) Q (s 0)) [(s 6),a] h) r (λs h r=>eT k (λs h=>z3 (zbx.l2 C (zdf 16 (.str []) 0) Q (s 0)) [(s 6),(s 7)] h) r (λs h r=>eK (eL k [0] [6,7] (on1 (zbx.l2 C (zdf 16 (.str []) 0) Q)) r (λY1 s h r=>e1 r))))
theorem zbw.imp:zbw.Imp (AC P) N:=λa b c h Q r=>eF mixed (fn:=Try.f79) (λk=>zbw.L k (dn Q) (zcr [a,b,c]) h r)
def zbc.I:Bx:=⟨[],[],133,[(5,pz [] 16),(11,pz [] 18),(16,pz [] 11),(17,pz [] 18),(22,pz [] 11),(23,pz [] 18)]⟩
theorem zbc.L:LkT P zbc.I Try.f80 λC Q s h=>zbc.cps C N (s 0) (s 1) (s 2) h Q:=λ{C} k Q s h r=>eT k (λs h=>B.pv (V.bin .add (s 1) (.int .i64 1)) λc=>z3 (zd.l12 C (zdf 16 (.str []) 0) (N 377) Q (s 0) (s 1) (s 2)) [c,(.int .i64 0)] h) r (λs h r=>eT k (λs h=>z3 (zd.l12 C (zdf 16 (.str []) 0) (N 377) Q (s 0) (s 1) (s 2)) [(s 7),(.int .i64 0)] h) r (λs h r=>eS k (λs h=>Q (.bool false) h) (eT k (λs h=>z3 (zd.l12 C (zdf 16 (.str []) 0) (N 377) Q (s 0) (s 1) (s 2)) [(s 7),(s 8)] h) r (λs h r=>eK (eL k [0,1,2] [7,8] (on3 (zd.l12 C (zdf 16 (.str []) 0) (N 377) Q)) r (λY1 s h r=>eT k (λs h=>z3 (zd.l10 C (zdf 16 (.str []) 0) (N 377) Q Y1 (s 0) (s 1) (s 2) (s 8)) [(s 7)] h) r (λs h r=>eS k (λs h=>B.pv (V.bin .add (s 8) (.int .i64 1)) λa=>Y1 [(s 7),a] h) (eK (eS k (λs h=>B.pv (V.bin .eql (s 7) (s 2)) λd=>B.cond d (Q (.bool true) h) (zd.k8 C (zdf 16 (.str []) 0) (N 377) Q Y1 (s 0) (s 1) (s 2) (s 7) (s 8) h)) (eK (eL k [0,1,2,8] [7] (on4 (zd.l10 C (zdf 16 (.str []) 0) (N 377) Q Y1)) r (λY4 s h r=>e1 r))) (λs h r=>eT k (λs h=>zd.k8 C (zdf 16 (.str []) 0) (N 377) Q Y1 (s 0) (s 1) (s 2) (s 7) (s 8) h) r (λs h r=>eT k (λs h=>zd.k7 C (zdf 16 (.str []) 0) (N 377) Q Y1 (s 0) (s 1) (s 2) (s 7) (s 8) h) r (λs h r=>eT k (λs h=>zd.k6 C (zdf 16 (.str []) 0) (N 377) Q Y1 (s 0) (s 1) (s 2) (s 7) (s 8) h) r (λs h r=>eS k (λs h=>zd.k3 C (zdf 16 (.str []) 0) (N 377) Q Y1 (s 0) (s 1) (s 2) (s 7) (s 8) h) (eT k (λs h=>B.cond (s 61) (B.pv (V.bin .sub (s 7) (.int .i64 1)) λe=>z3 (zd.l5 C (zdf 16 (.str []) 0) (N 377) Q Y1 (s 0) (s 1) (s 2) (s 7) (s 8)) [e] h) (zd.k3 C (zdf 16 (.str []) 0) (N 377) Q Y1 (s 0) (s 1) (s 2) (s 7) (s 8) h)) r (λs h r=>eC 61 r (λr=>eT k (λs h=>z3 (zd.l5 C (zdf 16 (.str []) 0) (N 377) Q Y1 (s 0) (s 1) (s 2) (s 7) (s 8)) [(s 9)] h) r (λs h r=>eK (eL k [0,1,2,7,8] [9] (on5 (zd.l5 C (zdf 16 (.str []) 0) (N 377) Q Y1)) r (λY3 s h r=>e1 r)))) (λr=>e1 r))) (λs h r=>eT k (λs h=>B.cond (s 98) (B.pv (V.bin .add (s 7) (.int .i64 1)) λb=>z3 (zd.l2 C (zdf 16 (.str []) 0) (N 377) Q Y1 (s 0) (s 1) (s 2) (s 7) (s 8)) [b] h) (B.pv (V.bin .add (s 8) (.int .i64 1)) λa=>Y1 [(s 7),a] h)) r (λs h r=>eC 98 r (λr=>eT k (λs h=>z3 (zd.l2 C (zdf 16 (.str []) 0) (N 377) Q Y1 (s 0) (s 1) (s 2) (s 7) (s 8)) [(s 10)] h) r (λs h r=>eK (eL k [0,1,2,7,8] [10] (on5 (zd.l2 C (zdf 16 (.str []) 0) (N 377) Q Y1)) r (λY2 s h r=>e1 r)))) (λr=>e1 r))))))))) (λs h r=>e1 r)))))) (λs h r=>e1 r)))
theorem zbc.imp:zbc.Imp (AC P) N:=λa b c h Q r=>eF mixed (fn:=Try.f80) (λk=>zbc.L k (dn Q) (zcr [a,b,c]) h r)
def zdb.I:Bx:=⟨[],[],17,[]⟩
theorem zdb.L:LkT P zdb.I Try.f81 λC Q s h=>zdb.cps C N (s 0) (s 1) h Q:=λ{C} k Q s h r=>e1 r
theorem zdb.imp:zdb.Imp (AC P) N:=λa b h Q r=>eF mixed (fn:=Try.f81) (λk=>zdb.L k (dn Q) (zcr [a,b]) h r)
def zbo.I:Bx:=⟨[],[],84,[(1,pz [] 16),(3,pz [] 15),(5,pz [] 14),(8,pz [] 16)]⟩
theorem zbo.L:LkT P zbo.I Try.f82 λC Q s h=>zbo.cps C N (s 0) (s 1) (s 2) (s 3) h Q:=λ{C} k Q s h r=>eT k (λs h=>zk.k8 C (zdf 16 (.str []) 0) (N 377) Q (s 0) (s 1) (s 2) (s 3) h) r (λs h r=>eT k (λs h=>zk.k7 C (zdf 16 (.str []) 0) (N 377) Q (s 0) (s 1) (s 2) h) r (λs h r=>eT k (λs h=>z3 (zk.l6 C (zdf 16 (.str []) 0) (N 377) Q (s 0) (s 1)) [(s 9),(s 10)] h) r (λs h r=>eS k (λs h=>Q (s 9) h) (eK (eL k [0,1] [9,10] (on2 (zk.l6 C (zdf 16 (.str []) 0) (N 377) Q)) r (λY1 s h r=>eK (eS k (λs h=>z3 (zk.l3 C (zdf 16 (.str []) 0) (N 377) Q Y1 (s 0) (s 1) (s 9)) [(s 10)] h) (eK (eL k [0,1,10] [9] (on3 (zk.l5 C (zdf 16 (.str []) 0) (N 377) Q Y1)) r (λY3 s h r=>e1 r))) (λs h r=>eS k (λs h=>zk.k1 C (zdf 16 (.str []) 0) (N 377) Q Y1 (s 0) (s 1) (s 9) (s 10) h) (eK (eL k [0,1,9] [10] (on3 (zk.l3 C (zdf 16 (.str []) 0) (N 377) Q Y1)) r (λY2 s h r=>e1 r))) (λs h r=>e1 r)))))) (λs h r=>e1 r))))
theorem zbo.imp:zbo.Imp (AC P) N:=λa b c d h Q r=>eF mixed (fn:=Try.f82) (λk=>zbo.L k (dn Q) (zcr [a,b,c,d]) h r)
def zb7.I:Bx:=⟨[],[],168,[(1,pz [] 16),(3,pz [] 14),(5,pz [] 15),(8,pz [] 16),(10,pz [] 16),(13,pz [] 14),(15,pz [] 15),(18,pz [] 16),(21,pz [] 16)]⟩
theorem zb7.L:LkT P zb7.I Try.f83 λC Q s h=>zb7.cps C N (s 0) (s 1) (s 2) (s 3) h Q:=λ{C} k Q s h r=>eT k (λs h=>ze.k16 C (zdf 16 (.str []) 0) (N 377) Q (s 0) (s 1) (s 2) (s 3) h) r (λs h r=>eT k (λs h=>ze.k15 C (zdf 16 (.str []) 0) (N 377) Q (s 0) (s 1) (s 2) h) r (λs h r=>eT k (λs h=>z3 (ze.l14 C (zdf 16 (.str []) 0) (N 377) Q (s 0) (s 1) (s 11)) [(s 10)] h) r (λs h r=>eS k (λs h=>z3 (ze.l12 C (zdf 16 (.str []) 0) (N 377) Q (s 0) (s 1) (s 10)) [(s 11)] h) (eK (eL k [0,1,11] [10] (on3 (ze.l14 C (zdf 16 (.str []) 0) (N 377) Q)) r (λY5 s h r=>e1 r))) (λs h r=>eS k (λs h=>ze.k10 C (zdf 16 (.str []) 0) (N 377) Q (s 0) (s 1) (s 10) (s 11) h) (eK (eL k [0,1,10] [11] (on3 (ze.l12 C (zdf 16 (.str []) 0) (N 377) Q)) r (λY4 s h r=>e1 r))) (λs h r=>eT k (λs h=>ze.k9 C (zdf 16 (.str []) 0) (N 377) Q (s 0) (s 1) (s 10) (s 11) h) r (λs h r=>eT k (λs h=>ze.k8 C (zdf 16 (.str []) 0) (N 377) Q (s 0) (s 1) (s 10) (s 11) h) r (λs h r=>eT k (λs h=>B.pv (V.bin .sub (s 11) (.int .i64 1)) λa=>z3 (ze.l7 C (zdf 16 (.str []) 0) (N 377) Q (s 0) (s 1)) [(s 10),a] h) r (λs h r=>eT k (λs h=>z3 (ze.l7 C (zdf 16 (.str []) 0) (N 377) Q (s 0) (s 1)) [(s 10),(s 11)] h) r (λs h r=>eS k (λs h=>ze.k1 C (zdf 16 (.str []) 0) (N 377) Q (s 0) (s 1) (s 11) h) (eK (eL k [0,1] [10,11] (on2 (ze.l7 C (zdf 16 (.str []) 0) (N 377) Q)) r (λY1 s h r=>eK (eS k (λs h=>z3 (ze.l4 C (zdf 16 (.str []) 0) (N 377) Q Y1 (s 0) (s 1) (s 10)) [(s 11)] h) (eK (eL k [0,1,11] [10] (on3 (ze.l6 C (zdf 16 (.str []) 0) (N 377) Q Y1)) r (λY3 s h r=>e1 r))) (λs h r=>eS k (λs h=>ze.k2 C (zdf 16 (.str []) 0) (N 377) Q Y1 (s 0) (s 1) (s 10) (s 11) h) (eK (eL k [0,1,10] [11] (on3 (ze.l4 C (zdf 16 (.str []) 0) (N 377) Q Y1)) r (λY2 s h r=>e1 r))) (λs h r=>e1 r)))))) (λs h r=>e1 r))))))))))
theorem zb7.imp:zb7.Imp (AC P) N:=λa b c d h Q r=>eF mixed (fn:=Try.f83) (λk=>zb7.L k (dn Q) (zcr [a,b,c,d]) h r)
def zck.I:Bx:=⟨[],[],76,[(3,pz [] 20),(5,pz [] 14),(6,pz [] 24)]⟩
theorem zck.L:LkT P zck.I Try.f84 λC Q s h=>zck.cps C N (s 0) (s 1) (s 2) (s 3) h Q:=λ{C} k Q s h r=>eT k (λs h=>z3 (z8.l4 C (zdf 8 (.int .i64 0) 0) (N 534) Q (s 0) (s 2) (s 3)) [(s 8)] h) r (λs h r=>eK (eL k [0,2,3] [8] (on3 (z8.l4 C (zdf 8 (.int .i64 0) 0) (N 534) Q)) r (λY1 s h r=>eK (eT k (λs h=>B.pv (V.bin .geq (s 9) (s 2)) λa=>B.cond a (Q (.tup []) h) (z8.k2 C (zdf 8 (.int .i64 0) 0) (N 534) Q Y1 (s 0) (s 2) (s 3) (s 8) (s 9) h)) r (λs h r=>eT k (λs h=>z8.k2 C (zdf 8 (.int .i64 0) 0) (N 534) Q Y1 (s 0) (s 2) (s 3) (s 8) (s 9) h) r (λs h r=>eT k (λs h=>z8.k1 C (zdf 8 (.int .i64 0) 0) (N 534) Q Y1 (s 0) (s 2) (s 3) (s 8) (s 9) h) r (λs h r=>e1 r)))))))
theorem zck.imp:zck.Imp (AC P) N:=λa b c d h Q r=>eF mixed (fn:=Try.f84) (λk=>zck.L k (dn Q) (zcr [a,b,c,d]) h r)
def zc3.I:Bx:=⟨[],[],7,[]⟩
theorem zc3.L:LkT P zc3.I Try.f85 λC Q s h=>zc3.cps C N (s 0) h Q:=λ{C} k Q s h r=>e1 r
theorem zc3.imp:zc3.Imp (AC P) N:=λa h Q r=>eF mixed (fn:=Try.f85) (λk=>zc3.L k (dn Q) (zcr [a]) h r)
def zch.I:Bx:=⟨[],[],33,[(1,pz [] 10),(2,pz [] 10),(3,pz [] 10)]⟩
theorem zch.L:LkT P zch.I Try.f86 λC Q s h=>zch.cps C N (s 0) h Q:=λ{C} k Q s h r=>e1 r
theorem zch.imp:zch.Imp (AC P) N:=λa h Q r=>eF mixed (fn:=Try.f86) (λk=>zch.L k (dn Q) (zcr [a]) h r)
def zbs.I:Bx:=⟨[],[],15,[]⟩
theorem zbs.L:LkT P zbs.I Try.f87 λC Q s h=>zbs.cps C N (s 0) (s 1) (s 2) h Q:=λ{C} k Q s h r=>e1 r
theorem zbs.imp:zbs.Imp (AC P) N:=λa b c h Q r=>eF mixed (fn:=Try.f87) (λk=>zbs.L k (dn Q) (zcr [a,b,c]) h r)
def zc0.I:Bx:=⟨[],[],36,[]⟩
theorem zc0.L:LkT P zc0.I Try.f88 λC Q s h=>zc0.cps C N (s 0) (s 1) (s 2) (s 3) (s 4) h Q:=λ{C} k Q s h r=>e1 r
theorem zc0.imp:zc0.Imp (AC P) N:=λa b c d e h Q r=>eF mixed (fn:=Try.f88) (λk=>zc0.L k (dn Q) (zcr [a,b,c,d,e]) h r)
def zdn.I:Bx:=⟨[],[],6,[]⟩
theorem zdn.L:LkT P zdn.I Try.f89 λC Q s h=>zdn.cps C N (s 0) h Q:=λ{C} k Q s h r=>e1 r
theorem zdn.imp:zdn.Imp (AC P) N:=λa h Q r=>eF mixed (fn:=Try.f89) (λk=>zdn.L k (dn Q) (zcr [a]) h r)
def zcd.I:Bx:=⟨[],[],76,[(3,pz [] 20),(5,pz [] 14),(6,pz [] 24)]⟩
theorem zcd.L:LkT P zcd.I Try.f90 λC Q s h=>zcd.cps C N (s 0) (s 1) (s 2) (s 3) h Q:=λ{C} k Q s h r=>eT k (λs h=>z3 (z8.l4 C (zdf 16 (.str []) 0) (N 377) Q (s 0) (s 2) (s 3)) [(s 8)] h) r (λs h r=>eK (eL k [0,2,3] [8] (on3 (z8.l4 C (zdf 16 (.str []) 0) (N 377) Q)) r (λY1 s h r=>eK (eT k (λs h=>B.pv (V.bin .geq (s 9) (s 2)) λa=>B.cond a (Q (.tup []) h) (z8.k2 C (zdf 16 (.str []) 0) (N 377) Q Y1 (s 0) (s 2) (s 3) (s 8) (s 9) h)) r (λs h r=>eT k (λs h=>z8.k2 C (zdf 16 (.str []) 0) (N 377) Q Y1 (s 0) (s 2) (s 3) (s 8) (s 9) h) r (λs h r=>eT k (λs h=>z8.k1 C (zdf 16 (.str []) 0) (N 377) Q Y1 (s 0) (s 2) (s 3) (s 8) (s 9) h) r (λs h r=>e1 r)))))))
theorem zcd.imp:zcd.Imp (AC P) N:=λa b c d h Q r=>eF mixed (fn:=Try.f90) (λk=>zcd.L k (dn Q) (zcr [a,b,c,d]) h r)
def zbp.I:Bx:=⟨[],[],15,[]⟩
theorem zbp.L:LkT P zbp.I Try.f91 λC Q s h=>zbp.cps C N (s 0) (s 1) (s 2) h Q:=λ{C} k Q s h r=>e1 r
theorem zbp.imp:zbp.Imp (AC P) N:=λa b c h Q r=>eF mixed (fn:=Try.f91) (λk=>zbp.L k (dn Q) (zcr [a,b,c]) h r)
def zcu.I:Bx:=⟨[],[],36,[]⟩
theorem zcu.L:LkT P zcu.I Try.f92 λC Q s h=>zcu.cps C N (s 0) (s 1) (s 2) (s 3) (s 4) h Q:=λ{C} k Q s h r=>e1 r
theorem zcu.imp:zcu.Imp (AC P) N:=λa b c d e h Q r=>eF mixed (fn:=Try.f92) (λk=>zcu.L k (dn Q) (zcr [a,b,c,d,e]) h r)
def zdd.I:Bx:=⟨[],[],6,[]⟩
theorem zdd.L:LkT P zdd.I Try.f93 λC Q s h=>zdd.cps C N (s 0) h Q:=λ{C} k Q s h r=>e1 r
theorem zdd.imp:zdd.Imp (AC P) N:=λa h Q r=>eF mixed (fn:=Try.f93) (λk=>zdd.L k (dn Q) (zcr [a]) h r)
def zcz.I:Bx:=⟨[],[],28,[(1,pz [] 9)]⟩
theorem zcz.L:LkT P zcz.I Try.f94 λC Q s h=>zcz.cps C N (s 0) (s 1) (s 2) (s 3) h Q:=λ{C} k Q s h r=>e1 r
theorem zcz.imp:zcz.Imp (AC P) N:=λa b c d h Q r=>eF mixed (fn:=Try.f94) (λk=>zcz.L k (dn Q) (zcr [a,b,c,d]) h r)
def zct.I:Bx:=⟨[],[],28,[(1,pz [] 9)]⟩
theorem zct.L:LkT P zct.I Try.f95 λC Q s h=>zct.cps C N (s 0) (s 1) (s 2) (s 3) h Q:=λ{C} k Q s h r=>e1 r
theorem zct.imp:zct.Imp (AC P) N:=λa b c d h Q r=>eF mixed (fn:=Try.f95) (λk=>zct.L k (dn Q) (zcr [a,b,c,d]) h r)
end Go.Ab.S24
namespace Go.Ab
open List
section
variable{h h0:zb}{es:Nat}{x:za}{L R:List (List za)}{l:List Ob}
end
abbrev zeo(K T:Type):=List (K×T×Nat)
def zcc{K T:Type}(ps:zeo K T):List K:=ps.map (·.1)
theorem zkb{K T:Type}(p:K×T×Nat)(r:zeo K T):zcc (p::r)=p.1::zcc r:=rfl
section
variable{K T:Type}[DecidableEq K]
def zgx:zeo K T->K->Option T|[],_=>none|p::r,k=>if p.1=k then some p.2.1 else zgx r k
def zlx:zeo K T->K->T->Nat->zeo K T|[],k,t,c=>[(k,t,c)]|p::r,k,t,c=>if p.1=k then (k,t,p.2.2)::r else p::zlx r k t c
def znh:zeo K T->K->zeo K T|[],_=>[]|p::r,k=>if p.1=k then r else p::znh r k
def clkP(ps:zeo K T)(k:K)(c:Nat):Nat:=if (zgx ps k).isSome then c else c+1
def zne:zeo K T->K->Option (Nat×T×Nat)|[],_=>none|p::r,k=>if p.1=k then some (0,p.2.1,p.2.2) else (zne r k).map fun(i,q)=>(i+1,q)
theorem zp2(k k':K)(t:T)(c:Nat):∀ps:zeo K T,zgx (zlx ps k t c) k'=if k'=k then some t else zgx ps k'
 | []=>by
  simp only[zlx,zgx]
  by_cases h:k'=k
  ·rw[if_pos h.symm,if_pos h]
  ·rw[if_neg (Ne.symm h),if_neg h]
 | p::r=>by
  have ih:=zp2 k k' t c r
  simp only[zlx]
  by_cases hp:p.1=k
  ·rw[if_pos hp]
   simp only[zgx]
   by_cases h:k'=k
   ·rw[if_pos h.symm,if_pos h]
   ·rw[if_neg (Ne.symm h),if_neg h,if_neg (by rw[hp];exact Ne.symm h)]
  ·rw[if_neg hp]
   simp only[zgx,ih]
   by_cases h:k'=k
   ·subst h;rw[if_neg hp,if_pos rfl,if_pos rfl]
   ·rw[if_neg h,if_neg h]
theorem zq5{k:K}:∀{ps:zeo K T},zgx ps k=none↔k∉zcc ps
 | []=>by simp[zgx,zcc]
 | p::r=>by
  have ih:=zq5 (k:=k) (ps:=r)
  simp only[zgx,zcc,map_cons,mem_cons,not_or]at ih ⊢
  by_cases hp:p.1=k
  ·simp[hp]
  ·simp[hp,ih,Ne.symm hp]
theorem zn0(k:K):∀ps:zeo K T,zgx ps k=(zne ps k).map (·.2.1)
 | []=>rfl
 | p::r=>by
  simp only[zgx,zne]
  split
  ·rfl
  ·rw[zn0 k r];cases zne r k<;>rfl
theorem idxP_put{k:K}{t:T}{c i:Nat}{q:T×Nat}:∀{ps:zeo K T},zne ps k=some (i,q)->zlx ps k t c=ps.set i (k,t,q.2) /\ i<ps.length
 | [],h=>by simp[zne]at h
 | p::r,h=>by
  simp only[zne]at h
  by_cases hp:p.1=k
  ·rw[if_pos hp]at h
   simp only[Option.some.injEq,Prod.mk.injEq]at h
   obtain⟨rfl,rfl⟩:=h
   simp[zlx,hp]
  ·rw[if_neg hp]at h
   cases hr:zne r k with
   | none=>simp[hr]at h
   | some x=>
    obtain⟨j,q'⟩:=x
    simp[hr]at h
    obtain⟨rfl,rfl⟩:=h
    have:=idxP_put (t:=t) (c:=c) hr
    simp[zlx,hp,this.1,this.2]
theorem idxP_del{k:K}{i:Nat}{q:T×Nat}:∀{ps:zeo K T},zne ps k=some (i,q)->znh ps k=ps.eraseIdx i
 | [],h=>by simp[zne]at h
 | p::r,h=>by
  simp only[zne]at h
  by_cases hp:p.1=k
  ·rw[if_pos hp]at h
   simp only[Option.some.injEq,Prod.mk.injEq]at h
   obtain⟨rfl,rfl⟩:=h
   simp[znh,hp]
  ·rw[if_neg hp]at h
   cases hr:zne r k with
   | none=>simp[hr]at h
   | some x=>
    obtain⟨j,q'⟩:=x
    simp[hr]at h
    obtain⟨rfl,rfl⟩:=h
    simp[znh,hp,idxP_del hr]
theorem zkq{k:K}{t:T}{c:Nat}:∀{ps:zeo K T},zne ps k=none->zlx ps k t c=ps++[(k,t,c)]
 | [],_=>rfl
 | p::r,h=>by
  simp only[zne]at h
  by_cases hp:p.1=k
  ·rw[if_pos hp]at h;cases h
  ·rw[if_neg hp]at h
   cases hr:zne r k with
   | none=>simp[zlx,hp,zkq hr]
   | some x=>simp[hr]at h
theorem zkr{k:K}:∀{ps:zeo K T},zne ps k=none->znh ps k=ps
 | [],_=>rfl
 | p::r,h=>by
  simp only[zne]at h
  by_cases hp:p.1=k
  ·rw[if_pos hp]at h;cases h
  ·rw[if_neg hp]at h
   cases hr:zne r k with
   | none=>simp[znh,hp,zkr hr]
   | some x=>simp[hr]at h
theorem zlj(k:K)(t:T)(c:Nat):∀ps:zeo K T,zcc (zlx ps k t c)=if k∈zcc ps then zcc ps else zcc ps++[k]
 | []=>by simp[zlx,zcc]
 | p::r=>by
  have ih:=zlj k t c r
  by_cases hp:p.1=k
  ·rw[zlx,if_pos hp,zkb,zkb,if_pos (by simp[hp]),hp]
  ·rw[zlx,if_neg hp,zkb,ih,zkb]
   by_cases hm:k∈zcc r
   ·rw[if_pos hm,if_pos (by simp[hm])]
   ·rw[if_neg hm,if_neg (by simp[hm,Ne.symm hp])];rfl
theorem zlh{ps:zeo K T}(h:(zcc ps).Nodup)(k:K)(t:T)(c:Nat):(zcc (zlx ps k t c)).Nodup:=by
 rw[zlj];split
 ·exact h
 ·rename_i hk
  rw[nodup_append];exact⟨h,pairwise_singleton _ _,λa ha b hb e=>hk (by rw[mem_singleton.1 hb]at e;rw[<-e];exact ha)⟩
theorem keysP_del(k:K):∀{ps:zeo K T},zcc (znh ps k)=(zcc ps).erase k
 | []=>rfl
 | p::r=>by
  have ih:=keysP_del k (ps:=r)
  simp only[znh,zcc]at ih ⊢
  by_cases hp:p.1=k
  ·simp[hp]
  ·simp[hp,ih,erase_cons]
theorem nodup_del{ps:zeo K T}(h:(zcc ps).Nodup)(k:K):(zcc (znh ps k)).Nodup:=by
 rw[keysP_del];exact h.sublist (erase_sublist)
theorem zh9{k:K}{t:T}:∀{ps:zeo K T},zgx ps k=some t->∃n,(k,t,n)∈ps
 | [],h=>by simp[zgx]at h
 | p::r,h=>by
  simp only[zgx]at h
  by_cases hp:p.1=k
  ·rw[if_pos hp]at h
   cases h
   exact⟨p.2.2,by rw[<-hp];simp⟩
  ·rw[if_neg hp]at h
   obtain⟨n,hn⟩:=zh9 h
   exact⟨n,by simp[hn]⟩
theorem mem_getP{ps:zeo K T}(hn:(zcc ps).Nodup){p:K×T×Nat}(hp:p∈ps):zgx ps p.1=some p.2.1:=by
 induction ps with
 | nil=>cases hp
 | cons q r ih=>
  simp only[zcc,map_cons,nodup_cons]at hn;simp only[zgx];rcases mem_cons.1 hp with rfl|hp
  ·rw[if_pos rfl]
  ·rw[if_neg,ih hn.2 hp]
   intro e;exact hn.1 (by rw[e];exact mem_map_of_mem hp)
end
structure KeyE(kd:KD){K:Type}[DecidableEq K](κ:K->za):Prop where
 same:∀a b,V.sameK kd (κ a) (κ b)=some (decide (a=b))
theorem keyI:KeyE .i (λn:Int=> .int .i64 n):=⟨λa b=>by
 simp only[V.sameK,if_true];congr 1⟩
theorem keyS:KeyE .s (λs:List UInt8=> .str s):=⟨λa b=>by
 simp only[V.sameK];congr 1;rw[Bool.eq_iff_iff,beq_iff_eq,decide_eq_true_eq]⟩
theorem map_eraseIdx{α β:Type}(f:α->β):∀(l:List α)(i:Nat),(l.map f).eraseIdx i=(l.eraseIdx i).map f
 | [],_=>rfl
 | _::_,0=>rfl
 | a::l,i+1=>by simp[map_eraseIdx f l i]
def zib{K T:Type}(κ:K->za)(v:T->za)(ps:zeo K T):List (za×za×Nat):=ps.map λp=>(κ p.1,v p.2.1,p.2.2)
section
variable{kd:KD}{K T:Type}[DecidableEq K]{κ:K->za}{v:T->za}
theorem zll(hκ:KeyE kd κ)(k:K):∀(ps:zeo K T)(i:Nat),V.zrp kd (κ k) (zib κ v ps) i=some ((zne ps k).map fun(j,q)=>(i+j,v q.1,q.2))
 | [],i=>rfl
 | p::r,i=>by
  simp only[zib,map_cons,V.zrp,hκ.same,zne]
  by_cases hp:k=p.1
  ·rw[if_pos hp.symm];simp[hp]
  ·rw[if_neg (Ne.symm hp)]
   have ih:=zll hκ k r (i+1)
   simp only[zib]at ih
   simp only[hp,decide_false,ih]
   cases zne r k with
   | none=>rfl
   | some x=>obtain⟨j,q⟩:=x;simp only[Option.map_some];congr 3;omega
theorem fset_enc(hκ:KeyE kd κ)(k:K)(t:T)(ps:zeo K T)(c:Nat):A.fset (some kd) (κ k) (v t) (zib κ v ps) c=some (zib κ v (zlx ps k t c),clkP ps k c,.undef):=by
 simp only[A.fset,zll hκ,clkP,zn0];cases h:zne ps k with
 | none=>simp[zkq h,zib]
 | some x=>
  obtain⟨j,q⟩:=x;have:=idxP_put (t:=t) (c:=c) h;simp only[Option.map_some,Option.isSome_some,if_true,Nat.zero_add,this.1,zib,map_set]
theorem fdel_enc(hκ:KeyE kd κ)(k:K)(ps:zeo K T)(c:Nat):A.fdel (some kd) (κ k) (zib κ v ps) c=some (zib κ v (znh ps k),c,.tup []):=by
 simp only[A.fdel,zll hκ];cases h:zne ps k with
 | none=>simp[zkr h]
 | some x=>
  obtain⟨j,q⟩:=x;have:=idxP_del h;simp only[Option.map_some,Nat.zero_add,this,zib];rw[map_eraseIdx]
end
def ze4(es:List (za×za×Nat))(c:Nat):Blk:=zf6 (.map es c)
theorem zc5.znr{h0 h:zb}{l:List Ob}(ho:zc5 h0 h l){id:Nat}(hid:h id=none){b:Blk}(hb:b.own=true):zc5 h0 (upd h id b) (l++[.blk id b]):=
 ho.join ⟨zf5 _ hid,λo hm=>by rw[mem_singleton.1 hm];exact zbv ..,λo hm j hj=>by rw[mem_singleton.1 hm]at hj;cases hj;exact⟨hid,λb hb'=>by rw[zbv]at hb';cases hb';exact hb⟩,pairwise_singleton _ _⟩
theorem zc5.zky{h0 h:zb}{l:List Ob}{K T:Type}(ho:zc5 h0 h l)(κ:K->za)(v:T->za){Q:zQ}(hq:∀id h',h id=none->zc5 h0 h' (l++[.blk id (ze4 (zib κ v []) 0)])->h.le h'->Q (.mp id) h'):B.zky h Q:=λid hid=>hq id _ hid (ho.znr hid rfl) (zf5 _ hid)
section
variable{h0 h:zb}{l:List Ob}{kd:KD}{K T:Type}[DecidableEq K]{κ:K->za}{v:T->za}
theorem zc5.setBlk(ho:zc5 h0 h l)(k:Nat){id:Nat}{b b':Blk}(hk:l[k]?=some (.blk id b))(hb:b'.own=true):zc5 h0 (upd h id b') (l.set k (.blk id b')):=
 ho.zha k hk (zbv ..) (λj c hj hc=>by cases hj;rw[zbv]at hc;cases hc;exact hb) (λj c e1 e2=>by rw[zt];exact e1;intro e;subst e;exact e2 rfl) (.inl rfl)
theorem zif{id:Nat}{es:List (za×za×Nat)}{c:Nat}(hb:h id=some (ze4 es c)):A.zmd h (.mp id)=some (es,c):=by simp[A.zmd,hb,ze4,zf6]
theorem objT_blk{id:Nat}{es es':List (za×za×Nat)}{c c':Nat}{u:za}{f:List (za×za×Nat)->Nat->Option (List (za×za×Nat)×Nat×za)}{Q:zQ}(hb:h id=some (ze4 es c))(hf:f es c=some (es',c',u))
  (hq:Q u (upd h id (ze4 es' c'))):A.zpk h (.mp id) f Q:=by
 unfold ze4 zf6 at *;simp only[A.zpk,hb,hf];exact hq
theorem lkp_blk{id:Nat}{c:Nat}{ps:zeo K T}(hκ:KeyE kd κ)(hb:h id=some (ze4 (zib κ v ps) c))(z:T)(k:K)(ok:Bool):
  A.lkp h (some kd) (some (v z)) ok (.mp id) (κ k)=some (bif ok then .tup [v ((zgx ps k).getD z),.bool (zgx ps k).isSome] else v ((zgx ps k).getD z)):=by
 simp only[A.lkp,A.entries,zif hb,zll hκ,zn0];cases zne ps k with
 | none=>rfl
 | some x=>rfl
theorem zc5.mset(ho:zc5 h0 h l)(i:Nat){id c:Nat}{ps:zeo K T}(hi:l[i]?=some (.blk id (ze4 (zib κ v ps) c)))(hκ:KeyE kd κ)(k:K)(t:T){Q:zb->Prop}
  (hq:∀h',zc5 h0 h' (l.set i (.blk id (ze4 (zib κ v (zlx ps k t c)) (clkP ps k c))))->But (.mp id) h h'->(∀j,j≠id->h' j=h j)->Q h'):B.mset h kd (.mp id) (κ k) (v t) Q:=
 objT_blk (ho.at i hi) (fset_enc hκ k t ps c) (hq _ (ho.setBlk i hi rfl) (λj b e1 e2=>by rw[zt];exact e1;intro e;subst e;exact e2 rfl) λj hj=>zt _ _ hj)
end
def zfw{K T:Type}(ps:zeo K T)(c:Nat):Prop:=(∀p∈ps,p.2.2<c) /\ (ps.map (·.2.2)).Nodup
section
variable{K T:Type}{ps D:zeo K T}{c:Nat}
theorem zfw.nil(c:Nat):zfw ([]:zeo K T) c:=⟨λ_ h=>(by cases h),List.Pairwise.nil⟩
theorem zfw.put[DecidableEq K](hb:zfw ps c)(k:K)(t:T):zfw (zlx ps k t c) (clkP ps k c):=by
 unfold clkP;rw[zn0];cases h:zne ps k with
 | none=>
  rw[zkq h];simp only[Option.map_none,Option.isSome_none,Bool.false_eq_true,if_false];refine⟨λp hp=>?_,?_⟩
  ·rcases mem_append.1 hp with hp|hp
   ·have:=hb.1 p hp;omega
   ·rw[mem_singleton.1 hp];exact Nat.lt_succ_self _
  ·rw[map_append,nodup_append]
   refine⟨hb.2,pairwise_singleton _ _,λa ha b hb2=>?_⟩;obtain⟨p,hp,rfl⟩:=mem_map.1 ha;rw[map_singleton,mem_singleton]at hb2;have:=hb.1 p hp;subst hb2;exact Nat.ne_of_lt this
 | some x=>
  obtain⟨j,q⟩:=x;have he:=idxP_put (t:=t) (c:=c) h;simp only[Option.map_some,Option.isSome_some,if_true,he.1];have hq:(ps.map (·.2.2))[j]?=some q.2:=by
   have:∀(ps:zeo K T)(j:Nat)(q:T×Nat),zne ps k=some (j,q)->(ps.map (·.2.2))[j]?=some q.2:=by
    intro ps
    induction ps with
    | nil=>intro j q h;cases h
    | cons p r ih=>
     intro j q h;simp only[zne]at h;split at h
     ·cases h;rfl
     ·cases e:zne r k with
      | none=>rw[e]at h;cases h
      | some y=>
       obtain⟨j',q'⟩:=y;rw[e]at h;simp only[Option.map_some,Option.some.injEq,Prod.mk.injEq]at h;obtain⟨rfl,rfl⟩:=h;simpa using ih _ _ e
   exact this _ _ _ h
  have hm:(ps.set j (k,t,q.2)).map (·.2.2)=ps.map (·.2.2):=by
   rw[map_set];apply ext_getElem?;intro i;rw[getElem?_set];split
   ·rename_i e;subst e
    split
    ·exact hq.symm
    ·rename_i e2;simp at e2;omega
   ·rfl
  refine⟨λp hp=>?_,by rw[hm];exact hb.2⟩;have:p.2.2∈(ps.set j (k,t,q.2)).map (·.2.2):=mem_map.2 ⟨p,hp,rfl⟩;rw[hm]at this;obtain⟨p',hp',e⟩:=mem_map.1 this;rw[<-e];exact hb.1 p' hp'
theorem zfw.del[DecidableEq K](hb:zfw ps c)(k:K):zfw (znh ps k) c:=by
 cases h:zne ps k with
 | none=>rw[zkr h];exact hb
 | some x=>
  obtain⟨j,q⟩:=x;rw[idxP_del h];have hs:=eraseIdx_sublist ps j;exact⟨λp hp=>hb.1 p (hs.subset hp),(hs.map _).nodup hb.2⟩
theorem zfw.inj(hb:zfw ps c){p q:K×T×Nat}(hp:p∈ps)(hq:q∈ps)(e:p.2.2=q.2.2):p=q:=by
 obtain⟨i,hi,rfl⟩:=mem_iff_getElem.1 hp;obtain⟨j,hj,rfl⟩:=mem_iff_getElem.1 hq;have:i=j:=by
  refine(getElem_inj (h₀:=by simpa using hi) (h₁:=by simpa using hj) hb.2).1 ?_;simpa using e
 subst this;rfl
theorem zfw.all(hb:zfw ps c)(h1:∀p∈D,p∈ps)(h2:(D.map (·.2.2)).Nodup)(h3:∀p∈ps,p.2.2∈D.map (·.2.2)):D.Perm ps:=by
 have nd:∀{l:zeo K T},(l.map (·.2.2)).Nodup->l.Nodup:=λh=>List.Pairwise.of_map (S:=(· ≠ ·)) (λp:K×T×Nat=>p.2.2) (λa b h e=>h (by rw[e])) h;refine(perm_ext_iff_of_nodup (nd h2) (nd hb.2)).2 λp=>⟨h1 p,λhp=>?_⟩;obtain⟨q,hq,e⟩:=mem_map.1 (h3 p hp)
 rwa [hb.inj (h1 q hq) hp e]at hq
end
def ze6(m since:Nat)(seen:List Nat)(last:Nat):Blk:=zf6 (.mapIter (some m) since seen last)
section
variable{h0 h:zb}{l:List Ob}{K T:Type}{κ:K->za}{v:T->za}{ps:zeo K T}{m c:Nat}{Q:zQ}
theorem zc5.nextMapB(ho:zc5 h0 h l)(j:Nat){it since last:Nat}{seen:List Nat}(hbm:h m=some (ze4 (zib κ v ps) c))(hj:l[j]?=some (.blk it (ze6 m since seen last)))(hb:zfw ps c)(hs:c <= since)(hsl:since <= last)
  (hdone:(∀p∈ps,p.2.2∈seen)->Q (.tup [.bool false]) h)
  (hstep:∀p∈ps,p.2.2∉seen->∀h',zc5 h0 h' (l.set j (.blk it (ze6 m since (seen++[p.2.2]) c)))->(∀k,k≠it->h' k=h k)->A.zfm h' (.ptr it 0 0)=some (.tup [κ p.1,v p.2.1])->Q (.tup [.bool true,κ p.1,v p.2.1]) h'):
  B.zeq h (.ptr it 0 0) Q:=by
 have hbi:h it=some (ze6 m since seen last):=ho.at j hj;have hne:m≠it:=λe=>by
  subst e;rw[hbm]at hbi;have:=Option.some.inj hbi;unfold ze4 ze6 zf6 at this;cases this
 show A.zeq h (.ptr it 0 0) Q;have hall:((zib κ v ps).all λe=>Nat.blt e.2.2 since)=true:=by
  rw[all_eq_true];intro e he;obtain⟨p,hp,rfl⟩:=mem_map.1 he;have:=hb.1 p hp;rw[Nat.blt_eq];show p.2.2<since;omega
 have hle:Nat.ble since last=true:=by rw[Nat.ble_eq];exact hsl
 have hst:A.steps h (.ptr it 0 0)=some (it,match (zib κ v ps).filter (λe=> !seen.contains e.2.2) with
   | []=>[(ze6 m since seen last,.tup [.bool false])]
   | l=>l.map λe=>({ ze6 m since seen last with obj:=some (.mapIter (some m) since (seen++[e.2.2]) c) },.tup [.bool true,e.1,e.2.1])):=by
  simp only[A.steps,hbi];unfold ze6 zf6;simp only[zif hbm,hall,hle,Bool.and_self,cond_true];rfl
 simp only[A.zeq,hst];intro p hp
 have hf:∀e,e∈(zib κ v ps).filter (λe=> !seen.contains e.2.2)↔∃q∈ps,q.2.2∉seen /\ e=(κ q.1,v q.2.1,q.2.2):=λe=>by
  rw[mem_filter];constructor
  ·rintro⟨he,hc⟩
   obtain⟨q,hq,rfl⟩:=mem_map.1 he;refine⟨q,hq,?_,rfl⟩;simpa using hc
  ·rintro⟨q,hq,hn,rfl⟩
   exact⟨mem_map.2 ⟨q,hq,rfl⟩,by simpa using hn⟩
 cases hfl:(zib κ v ps).filter (λe=> !seen.contains e.2.2) with
 | nil=>
  rw[hfl]at hp;rw[mem_singleton.1 hp];have:upd h it (ze6 m since seen last)=h:=upd_self hbi;rw[this];refine hdone λq hq=>?_;by_cases hn:q.2.2∈seen
  ·exact hn
  ·have:=(hf _).2 ⟨q,hq,hn,rfl⟩
   rw[hfl]at this;cases this
 | cons e0 es0=>
  rw[hfl]at hp;obtain⟨e,he,rfl⟩:=mem_map.1 hp;rw[<-hfl]at he;obtain⟨q,hq,hn,rfl⟩:=(hf _).1 he;have hblk:({ ze6 m since seen last with obj:=some (.mapIter (some m) since (seen++[q.2.2]) c) }:Blk)=ze6 m since (seen++[q.2.2]) c:=rfl;show Q _ (upd h it { ze6 m since seen last with obj:=some (.mapIter (some m) since (seen++[q.2.2]) c) });rw[hblk];refine hstep q hq hn _ (ho.setBlk j hj rfl) (λk hk=>zt _ _ hk) ?_;have hbm':upd h it (ze6 m since (seen++[q.2.2]) c) m=some (ze4 (zib κ v ps) c):=by rw[zt _ _ hne];exact hbm
  have hfind:(zib κ v ps).find? (λe=>Nat.beq e.2.2 q.2.2)=some (κ q.1,v q.2.1,q.2.2):=by
   have key:∀(ps:zeo K T),(ps.map (·.2.2)).Nodup->q∈ps->(zib κ v ps).find? (λe=>Nat.beq e.2.2 q.2.2)=some (κ q.1,v q.2.1,q.2.2):=by
    intro ps
    induction ps with
    | nil=>intro _ h;cases h
    | cons a r ih=>
     intro hnd hm;simp only[map_cons,nodup_cons]at hnd;simp only[zib,map_cons,find?_cons];rcases mem_cons.1 hm with rfl|hm
     ·simp[Nat.beq_refl]
     ·have hne:a.2.2≠q.2.2:=λe=>hnd.1 (by rw[e];exact mem_map.2 ⟨q,hm,rfl⟩)
      have:Nat.beq a.2.2 q.2.2=false:=by
       cases e:Nat.beq a.2.2 q.2.2 with
       | false=>rfl
       | true=>exact absurd (Nat.eq_of_beq_eq_true e) hne
      rw[this];exact ih hnd.2 hm
   exact key ps hb.2 hq
  simp only[A.zfm,upd_get];unfold ze6 zf6;have hbm'':=hbm';unfold ze6 zf6 at hbm'';simp only[zif hbm'',getLast?_append,getLast?_singleton,Option.some_or,Nat.beq_refl,cond_true,hfind]
theorem zc5.rangeLoop{J:zeo K T->List Ob->Prop}{Lp:za->zG}{REST:za->za->zb->(zL)->Prop}(ho:zc5 h0 h l)(hbm:h0 m=some (ze4 (zib κ v ps) c))(hb:zfw ps c)(hJ:J [] l)
  (heq:∀it hh Y,B.zeq hh it (λv h2=>REST it v h2 Y)->Lp it [] hh Y)
  (hdone:∀it hh D l b Y,J D l->D.Perm ps->zc5 h0 hh (l++[.blk it b])->REST (.ptr it 0 0) (.tup [.bool false]) hh Y)
  (hstep:∀it hh D l b Y,∀p∈ps,J D l->(∀q∈D,q∈ps)->p∉D->zc5 h0 hh (l++[.blk it b])->A.zfm hh (.ptr it 0 0)=some (.tup [κ p.1,v p.2.1]) ->
   (∀h' l',J (D++[p]) l'->zc5 h0 h' (l'++[.blk it b])->Y [] h')->REST (.ptr it 0 0) (.tup [.bool true,κ p.1,v p.2.1]) hh Y):
  B.rangeMap h (.mp m) λv h=>z3 (Lp v) [] h:=by
 show A.rangeMap h (.mp m) _;simp only[A.rangeMap,zif (ho.le _ _ hbm)];intro it hit;have ho:zc5 h0 (upd h it (zf6 (.mapIter (some m) c [] c))) (l++[.blk it (ze6 m c (([]:zeo K T).map (·.2.2)) c)]):=ho.znr (b:=ze6 m c [] c) hit rfl;refine z3.intro (λt vs hh=>vs=[] /\ ∃(D:zeo K T)(l':List Ob),D.length+t=ps.length /\ J D l' /\ (∀q∈D,q∈ps) /\ (D.map (·.2.2)).Nodup /\ zc5 h0 hh (l'++[.blk it (ze6 m c (D.map (·.2.2)) c)])) ps.length ?_ ⟨rfl,[],l,by simp,hJ,by simp,List.Pairwise.nil,ho⟩;rintro Y t vs hh ⟨rfl,D,l',ht,hJ',hD,hnd,o⟩ hY;refine heq _ _ _ ?_;refine o.nextMapB l'.length (seen:=D.map (·.2.2)) (since:=c) (last:=c) (o.le _ _ hbm) (by simp) hb (Nat.le_refl _) (Nat.le_refl _) (λhall=>?_) λp hp hns h' o' hk he=>?_
 ·exact hdone it hh D l' _ Y hJ' (hb.all hD hnd hall) o
 ·have o'':zc5 h0 h' (l'++[.blk it (ze6 m c ((D++[p]).map (·.2.2)) c)]):=by
   have:=o';rw[set_append_right _ _ (Nat.le_refl _),Nat.sub_self]at this;simpa using this
  have hpD:p∉D:=λhm=>hns (mem_map.2 ⟨p,hm,rfl⟩);have nd2:((D++[p]).map (·.2.2)).Nodup:=by
   rw[map_append,nodup_append];exact⟨hnd,by simp,λx hx y hy e=>hns (by rw[map_cons,map_nil,mem_singleton]at hy;rw[<-hy,<-e];exact hx)⟩
  have sub:∀q∈D++[p],q∈ps:=λq hq=>by
   rcases mem_append.1 hq with h|h
   ·exact hD q h
   ·rw[mem_singleton.1 h];exact hp
  have hl:(D++[p]).length <= ps.length:=List.Nodup.length_le_of_subset (List.Pairwise.of_map (S:=(· ≠ ·)) (λp:K×T×Nat=>p.2.2) (λa b h e=>h (by rw[e])) nd2) sub;rw[length_append]at hl;have hl:D.length+1 <= ps.length:=hl;exact hstep it h' D l' _ Y p hp hJ' hD hpD o'' he λh2 l2 hJ2 o2=>hY (t-1) _ _ (by omega) ⟨rfl,D++[p],l2,by rw[length_append,length_singleton];omega,hJ2,sub,nd2,o2⟩
end
section
variable{h0 h:zb}{l:List Ob}{K T:Type}{κ:K->za}{v:T->za}{ps:zeo K T}{m c:Nat}{Q:zQ}
theorem zc5.zr4{J:zeo K T->List Ob->List za->Prop}{vs0:List za}{Lp:za->zG}{REST:za->List za->za->zb->(zL)->Prop}(ho:zc5 h0 h l)(hbm:h0 m=some (ze4 (zib κ v ps) c))(hb:zfw ps c)(hJ:J [] l vs0)
  (heq:∀it vs hh Y D l,J D l vs->B.zeq hh it (λv h2=>REST it vs v h2 Y)->Lp it vs hh Y)
  (hdone:∀it hh D l b Y vs,J D l vs->D.Perm ps->zc5 h0 hh (l++[.blk it b])->REST (.ptr it 0 0) vs (.tup [.bool false]) hh Y)
  (hstep:∀it hh D l b Y vs,∀p∈ps,J D l vs->(∀q∈D,q∈ps)->p∉D->D.length<ps.length->zc5 h0 hh (l++[.blk it b])->A.zfm hh (.ptr it 0 0)=some (.tup [κ p.1,v p.2.1]) ->
   (∀h' l' vs',J (D++[p]) l' vs'->zc5 h0 h' (l'++[.blk it b])->Y vs' h')->REST (.ptr it 0 0) vs (.tup [.bool true,κ p.1,v p.2.1]) hh Y):
  B.rangeMap h (.mp m) λv h=>z3 (Lp v) vs0 h:=by
 show A.rangeMap h (.mp m) _;simp only[A.rangeMap,zif (ho.le _ _ hbm)];intro it hit;have ho:zc5 h0 (upd h it (zf6 (.mapIter (some m) c [] c))) (l++[.blk it (ze6 m c (([]:zeo K T).map (·.2.2)) c)]):=ho.znr (b:=ze6 m c [] c) hit rfl;refine z3.intro (λt vs hh=>∃(D:zeo K T)(l':List Ob),D.length+t=ps.length /\ J D l' vs /\ (∀q∈D,q∈ps) /\ (D.map (·.2.2)).Nodup /\ zc5 h0 hh (l'++[.blk it (ze6 m c (D.map (·.2.2)) c)])) ps.length ?_ ⟨[],l,by simp,hJ,by simp,List.Pairwise.nil,ho⟩;rintro Y t vs hh ⟨D,l',ht,hJ',hD,hnd,o⟩ hY;refine heq _ _ _ _ _ _ hJ' ?_;refine o.nextMapB l'.length (seen:=D.map (·.2.2)) (since:=c) (last:=c) (o.le _ _ hbm) (by simp) hb (Nat.le_refl _) (Nat.le_refl _) (λhall=>?_) λp hp hns h' o' hk he=>?_
 ·exact hdone it hh D l' _ Y vs hJ' (hb.all hD hnd hall) o
 ·have o'':zc5 h0 h' (l'++[.blk it (ze6 m c ((D++[p]).map (·.2.2)) c)]):=by
   have:=o';rw[set_append_right _ _ (Nat.le_refl _),Nat.sub_self]at this;simpa using this
  have hpD:p∉D:=λhm=>hns (mem_map.2 ⟨p,hm,rfl⟩);have nd2:((D++[p]).map (·.2.2)).Nodup:=by
   rw[map_append,nodup_append];exact⟨hnd,by simp,λx hx y hy e=>hns (by rw[map_cons,map_nil,mem_singleton]at hy;rw[<-hy,<-e];exact hx)⟩
  have sub:∀q∈D++[p],q∈ps:=λq hq=>by
   rcases mem_append.1 hq with h|h
   ·exact hD q h
   ·rw[mem_singleton.1 h];exact hp
  have hl:(D++[p]).length <= ps.length:=List.Nodup.length_le_of_subset (List.Pairwise.of_map (S:=(· ≠ ·)) (λp:K×T×Nat=>p.2.2) (λa b h e=>h (by rw[e])) nd2) sub;rw[length_append]at hl;have hl:D.length+1 <= ps.length:=hl;exact hstep it h' D l' _ Y vs p hp hJ' hD hpD hl o'' he λh2 l2 vs2 hJ2 o2=>hY (t-1) _ _ (by omega) ⟨D++[p],l2,by rw[length_append,length_singleton];omega,hJ2,sub,nd2,o2⟩
end
variable{C:z5}{N:zN}
abbrev Nam:=List UInt8
abbrev nV:Nam->za:=λs=> .str s
abbrev wV:Int->za:=λn=> .int .i64 n
def zpr(h:zb)(m:Nat)(ps:zeo Nam Int):Prop:=∃c,h m=some (ze4 (zib nV wV ps) c) /\ zfw ps c /\ (∀p∈ps,p.2.1=1) /\ (zcc ps).Nodup
theorem zpr.mono{h H:zb}{m:Nat}{ps:zeo Nam Int}(hs:zpr h m ps)(hle:h.le H):zpr H m ps:=by
 obtain⟨c,h1,h2⟩:=hs;exact⟨c,hle _ _ h1,h2⟩
theorem ones_get{ps:zeo Nam Int}(h1:∀p∈ps,p.2.1=1)(k:Nam):decide (0<(zgx ps k).getD 0)=decide (k∈zcc ps):=by
 cases e:zgx ps k with
 | none=>have:=zq5.1 e;simp[this]
 | some v=>
  obtain⟨n,hn⟩:=zh9 e;have:=h1 _ hn;have hk:k∈zcc ps:=mem_map.2 ⟨_,hn,rfl⟩;simp at this;simp[hk,this]
def zb5.Spec(C:z5)(N:zN):Prop:=∀(h:zb)(m:Nat)(ps:zeo Nam Int)(k:Nam)(Q:zQ),zpr h m ps->Q (.bool (decide (k∈zcc ps))) h->C (N 508) [.mp m,.str k] h Q
theorem zb5.spec(i:zb5.Imp C N):zb5.Spec C N:=by
 intro h m ps k Q hs hq;obtain⟨c,h1,h2,h3,h4⟩:=hs;apply i;have e:A.lkp h (some .s) (some (.int .i64 0)) false (.mp m) (.str k)=some (.int .i64 ((zgx ps k).getD 0)):=lkp_blk (v:=wV) keyS h1 0 k false;simp -dsimp only[zb5.cps,e,B.zf,V.zm9];rw[ones_get h3];exact zbh hq
def zj8(a b:zeo Nam Int):Bool:= !a.isEmpty&&(!b.isEmpty&&(decide ([42]∈zcc a)||(decide ([42]∈zcc b)||a.any λp=>decide (p.1∈zcc b))))
def zdl.Spec(C:z5)(N:zN):Prop:=∀(h:zb)(m n:Nat)(a b:zeo Nam Int)(Q:zQ),zpr h m a->zpr h n b->Q (.bool (zj8 a b)) h->C (N 528) [.mp m,.mp n] h Q
theorem zr8{h:zb}{m c:Nat}{ps:zeo Nam Int}(hb:h m=some (ze4 (zib nV wV ps) c)):A.zli h (.mp m)=some (.int .i64 ps.length):=by
 simp[A.zli,A.entries,zif hb,zib]
theorem zdl.spec(i:zdl.Imp C N)(hC:zkv C)(s1:zb5.Spec C N):zdl.Spec C N:=by
 intro h m n a b Q ha hb hq;have ha':=ha;have hb':=hb;obtain⟨c,h1,h2,h3,h4⟩:=ha;obtain⟨d,g1,g2,g3,g4⟩:=hb;apply i;simp +contextual -dsimp[zr8 h1,zr8 g1];refine B.zbd (λhc=>?_) (λhc=>?_)<;>simp +contextual -dsimp at hc ⊢
 ·have e:zj8 a b=false:=by
   unfold zj8;rcases hc with rfl|rfl<;>simp
  rw[e]at hq;exact zbh hq
 ·obtain⟨hna,hnb⟩:=hc
  have ea:a.isEmpty=false:=by cases a with
   | nil=>exact absurd rfl hna
   | cons _ _=>rfl
  have eb:b.isEmpty=false:=by cases b with
   | nil=>exact absurd rfl hnb
   | cons _ _=>rfl
  refine s1 h m a [42] _ ha' ?_;simp +contextual -dsimp;refine B.gdb_call (λ_ _ hq=>s1 h n b [42] _ hb' hq) ?_;simp +contextual -dsimp;refine B.zbd (λhc=>?_) (λhc=>?_)<;>simp +contextual -dsimp at hc ⊢
  ·have e:zj8 a b=true:=by
    unfold zj8;rw[ea,eb];rcases hc with hc|hc<;>simp[hc]
   rw[e]at hq;exact zbh hq
  ·obtain⟨ha2,hb2⟩:=hc
   have hme:zj8 a b=a.any λp=>decide (p.1∈zcc b):=by
    unfold zj8;rw[ea,eb];simp[ha2,hb2]
   rw[hme]at hq;refine zc5.rangeLoop (κ:=nV) (v:=wV) (ps:=a) (c:=c) (J:=λD l=>l=[] /\ ∀p∈D,p.1∉zcc b)
    (REST:=λit v h Y=>B.pv (V.ext 0 v) λv23=>B.cond v23
     (B.pv (A.zfm h it) λv24=>B.pv (V.ext 0 v24) λv25=>B.call C (N 508) [.mp n,v25] h λv28 h=>B.cond v28 (dn Q (.bool true) h) (Y [] h)) (dn Q (.bool false) h)) (zc5.start h) h1 h2 ⟨rfl,by simp⟩ ?_ ?_ ?_
   ·intro it hh Y hn
    exact hn
   ·rintro it hh D l bb Y ⟨rfl,hD⟩ hp ho
    simp -dsimp only[V.zg5,getElem?_cons_zero,B.zf,B.cond_false];have e:(a.any λp=>decide (p.1∈zcc b))=false:=by
     rw[any_eq_false];intro p hpm;have:=hD p (hp.mem_iff.2 hpm);simpa using this
    rw[e]at hq;exact dn_le ho.le hq
   ·rintro it hh D l bb Y p hpm ⟨rfl,hD⟩ hsub hpD ho he hY
    simp -dsimp only[V.zg5,getElem?_cons_zero,B.zf,B.cond_true,he];refine s1 hh n b p.1 _ (hb'.mono ho.le) ?_;refine B.zbd (λhc=>?_) (λhc=>?_)
    ·have e:(a.any λp=>decide (p.1∈zcc b))=true:=any_eq_true.2 ⟨p,hpm,hc⟩
     rw[e]at hq;exact dn_le ho.le hq
    ·refine hY hh [] ⟨rfl,λq hq'=>?_⟩ ho
     rcases mem_append.1 hq' with h|h
     ·exact hD q h
     ·rw[mem_singleton.1 h];exact of_decide_eq_false hc
variable{C:z5}{N:zN}
structure Wk where
 p:Nat
 hm:Nat
 wm:Nat
 hc:Nat
 wc:Nat
 held:zeo Nam Int
 zfb:zeo Nam Int
 zha:Int
structure Lk where
 l:Nat
 m:Nat
 c:Nat
 last:Int
 W:zeo Int Wk
abbrev pV(w:Wk):za:= .ptr w.p 0 0
def Wk.obs(w:Wk):List Ob:=[.blk w.p (zdo [.mp w.hm,.mp w.wm,.int .i64 w.zha]),.blk w.hm (ze4 (zib nV wV w.held) w.hc),.blk w.wm (ze4 (zib nV wV w.zfb) w.wc)]
def Lk.obs(s:Lk):List Ob:= .blk s.l (zdo [.mp s.m,.int .i64 s.last]):: .blk s.m (ze4 (zib wV pV s.W) s.c)::s.W.flatMap λe=>e.2.1.obs
def zov(ps:zeo Nam Int)(c:Nat):Prop:=zfw ps c /\ (∀p∈ps,p.2.1=1) /\ (zcc ps).Nodup
structure Wk.Ok(w:Wk):Prop where
 held:zov w.held w.hc
 zfb:zov w.zfb w.wc
structure Lk.Ok(s:Lk):Prop where
 zsk:zfw s.W s.c
 nodup:(zcc s.W).Nodup
 zgo:∀e∈s.W,e.2.1.Ok
 far:(s.W.map (·.2.1.p)).Nodup
def Wk.At(h:zb)(w:Wk):Prop:=h w.p=some (zdo [.mp w.hm,.mp w.wm,.int .i64 w.zha]) /\ zpr h w.hm w.held /\ zpr h w.wm w.zfb
def Lk.At(h:zb)(s:Lk):Prop:=h s.l=some (zdo [.mp s.m,.int .i64 s.last]) /\ h s.m=some (ze4 (zib wV pV s.W) s.c) /\ ∀e∈s.W,e.2.1.At h
theorem Wk.At.mono{h H:zb}{w:Wk}(ha:w.At h)(hle:h.le H):w.At H:=⟨hle _ _ ha.1,ha.2.1.mono hle,ha.2.2.mono hle⟩
theorem Lk.At.mono{h H:zb}{s:Lk}(ha:s.At h)(hle:h.le H):s.At H:=⟨hle _ _ ha.1,hle _ _ ha.2.1,λe he=>(ha.2.2 e he).mono hle⟩
theorem Lk.at_of{h0 h:zb}{s:Lk}(ho:zc5 h0 h s.obs)(hs:s.Ok):s.At h:=by
 have hm:∀o∈s.obs,o.at h:=ho.is;refine⟨hm _ (mem_cons_self ..),hm _ (mem_cons_of_mem _ (mem_cons_self ..)),λe he=>?_⟩;have hw:∀o∈e.2.1.obs,o.at h:=λo h1=>hm o (mem_cons_of_mem _ (mem_cons_of_mem _ (mem_flatMap.2 ⟨e,he,h1⟩)));exact⟨hw _ (mem_cons_self ..),⟨_,hw _ (mem_cons_of_mem _ (mem_cons_self ..)),(hs.zgo e he).held⟩,⟨_,hw _ (mem_cons_of_mem _ (mem_cons_of_mem _ (mem_cons_self ..))),(hs.zgo e he).zfb⟩⟩
theorem eqPtr_own{h:zb}{i j:Nat}{a b:List za}(hi:h i=some (zdo a))(hj:h j=some (zdo b)):A.zgd h 3 .neq (.ptr i 0 0) (.ptr j 0 0)=some (.bool (decide (i≠j))):=by
 have oi:A.ownG h i 0=true:=by simp[A.ownG,hi,zdo]
 have oj:A.ownG h j 0=true:=by simp[A.ownG,hj,zdo]
 unfold A.zgd;cases e:Nat.beq i j with
 | true=>have:=Nat.eq_of_beq_eq_true e;subst this;simp[V.eqv,show Nat.blt 0 3=true from rfl]
 | false=>have:=Nat.ne_of_beq_eq_false e;simp[V.eqv,oi,oj,this,e,show Nat.blt 0 3=true from rfl]
def zk1(o:Wk)(ps:zeo Nam Int)(t:Int):Bool:=zj8 o.held ps||(decide (0<o.zha)&&(decide (o.zha<t)&&zj8 o.zfb ps))
def zcy.Spec(C:z5)(N:zN):Prop:=∀(h:zb)(o:Wk)(p b i j q:Nat)(cs:List za)(ps:zeo Nam Int)(t:Int)(Q:zQ),o.At h->h p=some (zdo cs)->zpr h b ps->h i=some (zdo [.ptr p 0 0])->h j=some (zdo [.mp b])->h q=some (zdo [.int .i64 t])->Q (.bool (decide (o.p≠p)&&zk1 o ps t)) h->C (N 523) [.ptr o.p 0 0,.ptr i 0 0,.ptr j 0 0,.ptr q 0 0] h Q
theorem zeb{h:zb}{i k:Nat}{cs:List za}{v:za}(hi:h i=some (zdo cs))(hk:cs[k]?=some v):A.ldv h (.ptr i 0 k)=some v:=by
 have hl:k<cs.length:=(List.getElem?_eq_some_iff.1 hk).1;simp only[A.ldv,hi,zdo,List.lookup,beq_self_eq_true,if_pos hl,hk]
theorem zcy.spec(i:zcy.Imp C N)(s1:zdl.Spec C N):zcy.Spec C N:=by
 intro h o p b i1 i2 i3 cs ps t Q ho hp hb h1 h2 h3 hq;obtain⟨o1,o2,o3⟩:=ho;apply i;have e1:=zeb (k:=0) h1 rfl;have e2:=zeb (k:=0) h2 rfl;have e3:=zeb (k:=0) h3 rfl;have f1:=zeb (k:=0) o1 rfl;have f2:=zeb (k:=1) o1 rfl;have f3:=zeb (k:=2) o1 rfl;have ee:=eqPtr_own o1 hp;simp +contextual -dsimp[e1,e2,e3,f1,f2,f3,ee,V.fieldAddr];by_cases e:o.p=p
 ·simp +contextual -dsimp[e]at hq ⊢
  exact zbh hq
 ·have eb:decide (o.p=p)=false:=decide_eq_false e
  have eq:(decide (o.p≠p)&&zk1 o ps t)=zk1 o ps t:=by simp[e]
  rw[eq]at hq;simp +contextual -dsimp[eb]at hq ⊢;refine s1 _ _ _ _ _ _ o2 hb ?_;cases em:zj8 o.held ps with
  | true=>
   rw[show zk1 o ps t=true by simp[zk1,em]]at hq;simp +contextual -dsimp[eb];exact zbh hq
  | false=>
   simp +contextual -dsimp[eb,f3,e3];cases ec:decide (0<o.zha)&&decide (o.zha<t) with
   | false=>
    rw[show zk1 o ps t=false by simp only[zk1,em,<-Bool.and_assoc,ec,Bool.false_and,Bool.or_self]]at hq;simp +contextual -dsimp[eb];exact zbh hq
   | true=>
    rw[show zk1 o ps t=zj8 o.zfb ps by simp only[zk1,em,<-Bool.and_assoc,ec,Bool.true_and,Bool.false_or]]at hq;simp +contextual -dsimp[eb,f2,e2];refine s1 _ _ _ _ _ _ o3 hb ?_;simp +contextual -dsimp[eb];exact zbh hq
@[simp] def zcv.k1(C:z5)(E:zbb)(C0:z5)(fL:Nat)(Q:zQ)(Y1:zL)(Y2:zL)(v0 v1 v2 v3 v8 v9:za)(h:zb):Prop:=B.pv (V.bin .gtr v9 v1) λv20=>B.gd h v20 true (λK=>K v0 h) λv23 h=>B.gd h v20 true (λK=>K v9 h) λv24 h=>B.gd h v20 true (λK=>B.pv (V.zc9 E.es v23 v24) λv=>K v h) λv25 h=>B.gd h v20 true (λK=>E.ld h v25 λv=>K v h) λv26 h=>B.gd h v20 true (λK=>K v0 h) λv27 h=>B.gd h v20 true (λK=>K v9 h) λv28 h=>B.gd h v20 true (λK=>B.pv (V.bin .sub v28 (.int .i64 1)) λv=>K v h) λv29 h=>B.gd h v20 true (λK=>B.pv (V.zc9 E.es v27 v29) λv=>K v h) λv30 h=>B.gd h v20 true (λK=>E.ld h v30 λv=>K v h) λv31 h=>B.gd h v20 true (λK=>B.call C0 fL [v26,v31] h K) λv33 h=>B.pick v20 v33 (.bool false) λv34=>B.cond v34 (B.pv (V.bin .sub v9 (.int .i64 1)) λv41=>B.pv (V.bin .sub v9 (.int .i64 1)) λv44=>B.pv (V.zc9 E.es v0 v44) λv45=>E.ld h v45 λv46=>B.pv (V.zc9 E.es v0 v9) λv49=>E.ld h v49 λv50=>B.pv (V.zc9 E.es v0 v9) λv51=>E.st h v51 v46 λh=>B.pv (V.zc9 E.es v0 v41) λv52=>E.st h v52 v50 λh=>B.pv (V.bin .sub v9 (.int .i64 1)) λv36=>Y2 [v36] h) (B.pv (V.bin .add v8 (.int .i64 1)) λv16=>Y1 [v16] h)
@[simp] def zcv.l2(C:z5)(E:zbb)(C0:z5)(fL:Nat)(Q:zQ)(Y1:zL)(v0 v1 v2 v3 v8:za):zG|[v9],h,Y2=>zcv.k1 C E C0 fL Q Y1 Y2 v0 v1 v2 v3 v8 v9 h|_,_,_=>False
@[simp] def zcv.l3(C:z5)(E:zbb)(C0:z5)(fL:Nat)(Q:zQ)(v0 v1 v2 v3:za):zG|[v8],h,Y1=>B.pv (V.bin .lss v8 v2) λv14=>B.cond v14 (z3 (zcv.l2 C E C0 fL Q Y1 v0 v1 v2 v3 v8) [v8] h) (Q (.tup []) h)|_,_,_=>False
@[simp] def zcv.cps(C:z5)(E:zbb)(C0:z5)(fL:Nat)(v0 v1 v2 v3:za)(h:zb)(Q:zQ):Prop:=B.pv (V.bin .add v1 (.int .i64 1)) λv11=>z3 (zcv.l3 C E C0 fL Q v0 v1 v2 v3) [v11] h
@[simp] def z9.k1(C:z5)(E:zbb)(C0:z5)(fL:Nat)(f1 f2 f3 f4 f5 f6 f7 f8 f9:Nat)(Q:zQ)(Y1:zL)(v0 v1 v2 v3 v4 v10 v11 v12 v13:za)(h:zb):Prop:=B.pv (V.bin .gtr v1 (.int .i64 0)) λv82=>B.gd h v82 true (λK=>K v0 h) λv85 h=>B.gd h v82 true (λK=>K v1 h) λv86 h=>B.gd h v82 true (λK=>B.pv (V.bin .sub v86 (.int .i64 1)) λv=>K v h) λv87 h=>B.gd h v82 true (λK=>B.pv (V.zc9 E.es v85 v87) λv=>K v h) λv88 h=>B.gd h v82 true (λK=>E.ld h v88 λv=>K v h) λv89 h=>B.gd h v82 true (λK=>K v0 h) λv90 h=>B.gd h v82 true (λK=>K v13 h) λv91 h=>B.gd h v82 true (λK=>B.pv (V.zc9 E.es v90 v91) λv=>K v h) λv92 h=>B.gd h v82 true (λK=>E.ld h v92 λv=>K v h) λv93 h=>B.gd h v82 true (λK=>B.call C0 fL [v89,v93] h K) λv95 h=>B.gd h v82 true (λK=>B.pv (V.un .not v95) λv=>K v h) λv96 h=>B.pick v82 v96 (.bool false) λv97=>B.cond v97 (B.call C f1 [v0,v1,v2,v13,v4] h λv103 h=>Y1 [v103,v2,v3,v10,v11] h) (B.call C f2 [v0,v1,v2,v13,v4] h λv111 h=>B.pv (V.ext 0 v111) λv112=>B.pv (V.ext 1 v111) λv113=>B.pv (V.bin .sub v112 v1) λv117=>B.pv (V.bin .sub v2 v112) λv120=>B.pv (V.bin .quo v12 (.int .i64 8)) λv122=>B.pv (V.bin .lss v117 v120) λv125=>B.cond v125 (B.pv (V.bin .geq v117 v122) λv128=>B.call C f3 [v0,v1,v112,v3,v4] h λv134 h=>B.pv (V.bin .add v112 (.int .i64 1)) λv136=>Y1 [v136,v2,v3,v128,v113] h) (B.pv (V.bin .geq v120 v122) λv139=>B.pv (V.bin .add v112 (.int .i64 1)) λv142=>B.call C f3 [v0,v142,v2,v3,v4] h λv146 h=>Y1 [v1,v112,v3,v139,v113] h))
@[simp] def z9.k2(C:z5)(E:zbb)(C0:z5)(fL:Nat)(f1 f2 f3 f4 f5 f6 f7 f8 f9:Nat)(Q:zQ)(Y1:zL)(v0 v1 v2 v3 v4 v10 v11 v12 v13 v14:za)(h:zb):Prop:=B.gd h v10 true (λK=>K v11 h) λv70 h=>B.pick v10 v70 (.bool false) λv71=>B.gd h v71 true (λK=>K v14 h) λv73 h=>B.gd h v71 true (λK=>B.pv (V.bin .eql v73 (.int .i64 1)) λv=>K v h) λv74 h=>B.pick v71 v74 (.bool false) λv75=>B.cond v75 (B.call C f4 [v0,v1,v2,v4] h λv80 h=>B.cond v80 (Q (.tup []) h) (z9.k1 C E C0 fL f1 f2 f3 f4 f5 f6 f7 f8 f9 Q Y1 v0 v1 v2 v3 v4 v10 v11 v12 v13 h)) (z9.k1 C E C0 fL f1 f2 f3 f4 f5 f6 f7 f8 f9 Q Y1 v0 v1 v2 v3 v4 v10 v11 v12 v13 h)
@[simp] def z9.k3(C:z5)(E:zbb)(C0:z5)(fL:Nat)(f1 f2 f3 f4 f5 f6 f7 f8 f9:Nat)(Q:zQ)(Y1:zL)(v0 v1 v2 v3 v4 v10 v11 v12 v13 v14:za)(h:zb):Prop:=B.pv (V.bin .eql v14 (.int .i64 2)) λv56=>B.cond v56 (B.call C f5 [v0,v1,v2,v4] h λv61 h=>B.pv (V.bin .sub v2 (.int .i64 1)) λv63=>B.pv (V.bin .sub v13 v1) λv66=>B.pv (V.bin .sub v63 v66) λv67=>z9.k2 C E C0 fL f1 f2 f3 f4 f5 f6 f7 f8 f9 Q Y1 v0 v1 v2 v3 v4 v10 v11 v12 v67 (.int .i64 1) h) (z9.k2 C E C0 fL f1 f2 f3 f4 f5 f6 f7 f8 f9 Q Y1 v0 v1 v2 v3 v4 v10 v11 v12 v13 v14 h)
@[simp] def z9.k4(C:z5)(E:zbb)(C0:z5)(fL:Nat)(f1 f2 f3 f4 f5 f6 f7 f8 f9:Nat)(Q:zQ)(Y1:zL)(v0 v1 v2 v3 v4 v10 v11 v12:za)(h:zb):Prop:=B.call C f6 [v0,v1,v2,v4] h λv52 h=>B.pv (V.ext 0 v52) λv53=>B.pv (V.ext 1 v52) λv54=>z9.k3 C E C0 fL f1 f2 f3 f4 f5 f6 f7 f8 f9 Q Y1 v0 v1 v2 v3 v4 v10 v11 v12 v53 v54 h
@[simp] def z9.k5(C:z5)(E:zbb)(C0:z5)(fL:Nat)(f1 f2 f3 f4 f5 f6 f7 f8 f9:Nat)(Q:zQ)(Y1:zL)(v0 v1 v2 v3 v4 v10 v11 v12:za)(h:zb):Prop:=B.pv (V.un .not v10) λv39=>B.cond v39 (B.call C f7 [v0,v1,v2,v4] h λv44 h=>B.pv (V.bin .sub v3 (.int .i64 1)) λv46=>z9.k4 C E C0 fL f1 f2 f3 f4 f5 f6 f7 f8 f9 Q Y1 v0 v1 v2 v46 v4 v10 v11 v12 h) (z9.k4 C E C0 fL f1 f2 f3 f4 f5 f6 f7 f8 f9 Q Y1 v0 v1 v2 v3 v4 v10 v11 v12 h)
@[simp] def z9.k6(C:z5)(E:zbb)(C0:z5)(fL:Nat)(f1 f2 f3 f4 f5 f6 f7 f8 f9:Nat)(Q:zQ)(Y1:zL)(v0 v1 v2 v3 v4 v10 v11 v12:za)(h:zb):Prop:=B.pv (V.bin .eql v3 (.int .i64 0)) λv32=>B.cond v32 (B.call C f8 [v0,v1,v2,v4] h λv37 h=>Q (.tup []) h) (z9.k5 C E C0 fL f1 f2 f3 f4 f5 f6 f7 f8 f9 Q Y1 v0 v1 v2 v3 v4 v10 v11 v12 h)
@[simp] def z9.k7(C:z5)(E:zbb)(C0:z5)(fL:Nat)(f1 f2 f3 f4 f5 f6 f7 f8 f9:Nat)(Q:zQ)(Y1:zL)(v0 v1 v2 v3 v4 v10 v11 v12:za)(h:zb):Prop:=B.pv (V.bin .leq v12 (.int .i64 12)) λv25=>B.cond v25 (B.call C f9 [v0,v1,v2,v4] h λv30 h=>Q (.tup []) h) (z9.k6 C E C0 fL f1 f2 f3 f4 f5 f6 f7 f8 f9 Q Y1 v0 v1 v2 v3 v4 v10 v11 v12 h)
@[simp] def z9.l8(C:z5)(E:zbb)(C0:z5)(fL:Nat)(f1 f2 f3 f4 f5 f6 f7 f8 f9:Nat)(Q:zQ)(v0 v4:za):zG|[v1,v2,v3,v10,v11],h,Y1=>B.pv (V.bin .sub v2 v1) λv23=>z9.k7 C E C0 fL f1 f2 f3 f4 f5 f6 f7 f8 f9 Q Y1 v0 v1 v2 v3 v4 v10 v11 v23 h|_,_,_=>False
@[simp] def z9.cps(C:z5)(E:zbb)(C0:z5)(fL:Nat)(f1 f2 f3 f4 f5 f6 f7 f8 f9:Nat)(v0 v1 v2 v3 v4:za)(h:zb)(Q:zQ):Prop:=z3 (z9.l8 C E C0 fL f1 f2 f3 f4 f5 f6 f7 f8 f9 Q v0 v4) [v1,v2,v3,(.bool true),(.bool true)] h
@[simp] def zc7.k1(C:z5)(E:zbb)(C0:z5)(fL:Nat)(f1:Nat)(Q:zQ)(Y1:zL)(v0 v3 v8 v9 v12:za)(h:zb):Prop:=B.pv (V.bin .geq v12 (.int .i64 0)) λv33=>B.cond v33 (B.pv (V.bin .add v8 v12) λv41=>B.pv (V.bin .add v8 v12) λv45=>B.pv (V.zc9 E.es v0 v45) λv46=>E.ld h v46 λv47=>B.pv (V.zc9 E.es v0 v8) λv50=>E.ld h v50 λv51=>B.pv (V.zc9 E.es v0 v8) λv52=>E.st h v52 v47 λh=>B.pv (V.zc9 E.es v0 v41) λv53=>E.st h v53 v51 λh=>B.call C f1 [v0,v9,v12,v8,v3] h λv59 h=>B.pv (V.bin .sub v12 (.int .i64 1)) λv35=>Y1 [v35] h) (Q (.tup []) h)
@[simp] def zc7.l2(C:z5)(E:zbb)(C0:z5)(fL:Nat)(f1:Nat)(Q:zQ)(v0 v3 v8 v9:za):zG|[v12],h,Y1=>zc7.k1 C E C0 fL f1 Q Y1 v0 v3 v8 v9 v12 h|_,_,_=>False
@[simp] def zc7.k3(C:z5)(E:zbb)(C0:z5)(fL:Nat)(f1:Nat)(Q:zQ)(Y2:zL)(v0 v3 v8 v9 v10 v11:za)(h:zb):Prop:=B.pv (V.bin .geq v11 (.int .i64 0)) λv21=>B.cond v21 (B.call C f1 [v0,v11,v10,v8,v3] h λv29 h=>B.pv (V.bin .sub v11 (.int .i64 1)) λv23=>Y2 [v23] h) (B.pv (V.bin .sub v10 (.int .i64 1)) λv31=>z3 (zc7.l2 C E C0 fL f1 Q v0 v3 v8 v9) [v31] h)
@[simp] def zc7.l4(C:z5)(E:zbb)(C0:z5)(fL:Nat)(f1:Nat)(Q:zQ)(v0 v3 v8 v9 v10:za):zG|[v11],h,Y2=>zc7.k3 C E C0 fL f1 Q Y2 v0 v3 v8 v9 v10 v11 h|_,_,_=>False
@[simp] def zc7.k5(C:z5)(E:zbb)(C0:z5)(fL:Nat)(f1:Nat)(Q:zQ)(v0 v3 v8 v9 v10:za)(h:zb):Prop:=B.pv (V.bin .sub v10 (.int .i64 1)) λv18=>B.pv (V.bin .quo v18 (.int .i64 2)) λv19=>z3 (zc7.l4 C E C0 fL f1 Q v0 v3 v8 v9 v10) [v19] h
@[simp] def zc7.cps(C:z5)(E:zbb)(C0:z5)(fL:Nat)(f1:Nat)(v0 v1 v2 v3:za)(h:zb)(Q:zQ):Prop:=B.pv (V.bin .sub v2 v1) λv16=>zc7.k5 C E C0 fL f1 Q v0 v3 v1 (.int .i64 0) v16 h
@[simp] def z0.k1(C:z5)(E:zbb)(C0:z5)(fL:Nat)(f1 f2:Nat)(Q:zQ)(Y1:zL)(v0 v1 v8 v9 v10 v11 v12:za)(h:zb):Prop:=B.pv (V.bin .add v1 v12) λv54=>B.pv (V.bin .add v1 v12) λv58=>B.pv (V.zc9 E.es v0 v58) λv59=>E.ld h v59 λv60=>B.pv (V.zc9 E.es v0 v11) λv63=>E.ld h v63 λv64=>B.pv (V.zc9 E.es v0 v11) λv65=>E.st h v65 v60 λh=>B.pv (V.zc9 E.es v0 v54) λv66=>E.st h v66 v64 λh=>B.pv (V.bin .add v11 (.int .i64 1)) λv37=>Y1 [v37] h
@[simp] def z0.k2(C:z5)(E:zbb)(C0:z5)(fL:Nat)(f1 f2:Nat)(Q:zQ)(Y1:zL)(v0 v1 v8 v9 v10 v11 v12:za)(h:zb):Prop:=B.pv (V.bin .geq v12 v8) λv45=>B.cond v45 (B.pv (V.bin .sub v12 v8) λv48=>z0.k1 C E C0 fL f1 f2 Q Y1 v0 v1 v8 v9 v10 v11 v48 h) (z0.k1 C E C0 fL f1 f2 Q Y1 v0 v1 v8 v9 v10 v11 v12 h)
@[simp] def z0.k3(C:z5)(E:zbb)(C0:z5)(fL:Nat)(f1 f2:Nat)(Q:zQ)(Y1:zL)(v0 v1 v8 v9 v10 v11:za)(h:zb):Prop:=B.call C0 f1 [v9] h λv38 h=>B.pv (V.bin .sub v10 (.int .u64 1)) λv40=>B.pv (V.bin .and v38 v40) λv41=>B.pv (V.toInt .i64 v41) λv42=>z0.k2 C E C0 fL f1 f2 Q Y1 v0 v1 v8 v9 v10 v11 v42 h
@[simp] def z0.k4(C:z5)(E:zbb)(C0:z5)(fL:Nat)(f1 f2:Nat)(Q:zQ)(Y1:zL)(v0 v1 v8 v9 v10 v11:za)(h:zb):Prop:=B.pv (V.bin .quo v8 (.int .i64 4)) λv31=>B.pv (V.bin .mul v31 (.int .i64 2)) λv32=>B.pv (V.bin .add v1 v32) λv33=>B.pv (V.bin .add v33 (.int .i64 1)) λv34=>B.pv (V.bin .leq v11 v34) λv35=>B.cond v35 (z0.k3 C E C0 fL f1 f2 Q Y1 v0 v1 v8 v9 v10 v11 h) (Q (.tup []) h)
@[simp] def z0.l5(C:z5)(E:zbb)(C0:z5)(fL:Nat)(f1 f2:Nat)(Q:zQ)(v0 v1 v8 v9 v10:za):zG|[v11],h,Y1=>z0.k4 C E C0 fL f1 f2 Q Y1 v0 v1 v8 v9 v10 v11 h|_,_,_=>False
@[simp] def z0.k6(C:z5)(E:zbb)(C0:z5)(fL:Nat)(f1 f2:Nat)(Q:zQ)(v0 v1 v8 v9 v10:za)(h:zb):Prop:=B.pv (V.bin .quo v8 (.int .i64 4)) λv24=>B.pv (V.bin .mul v24 (.int .i64 2)) λv25=>B.pv (V.bin .add v1 v25) λv26=>B.pv (V.bin .sub v26 (.int .i64 1)) λv27=>z3 (z0.l5 C E C0 fL f1 f2 Q v0 v1 v8 v9 v10) [v27] h
@[simp] def z0.k7(C:z5)(E:zbb)(C0:z5)(fL:Nat)(f1 f2:Nat)(Q:zQ)(v0 v1 v8:za)(h:zb):Prop:=B.pv (V.toInt .u64 v8) λv19=>B.zgn h (some [.int .u64 0]) λi9 h=>B.st h (.ptr i9 0 0) v19 λh=>B.call C0 f2 [v8] h λv21 h=>z0.k6 C E C0 fL f1 f2 Q v0 v1 v8 (.ptr i9 0 0) v21 h
@[simp] def z0.k8(C:z5)(E:zbb)(C0:z5)(fL:Nat)(f1 f2:Nat)(Q:zQ)(v0 v1 v2:za)(h:zb):Prop:=B.pv (V.bin .sub v2 v1) λv15=>B.pv (V.bin .geq v15 (.int .i64 8)) λv17=>B.cond v17 (z0.k7 C E C0 fL f1 f2 Q v0 v1 v15 h) (Q (.tup []) h)
@[simp] def z0.cps(C:z5)(E:zbb)(C0:z5)(fL:Nat)(f1 f2:Nat)(v0 v1 v2 v3:za)(h:zb)(Q:zQ):Prop:=z0.k8 C E C0 fL f1 f2 Q v0 v1 v2 h
@[simp] def zba.k1(C:z5)(E:zbb)(C0:z5)(fL:Nat)(f1 f2:Nat)(Q:zQ)(v11 v13:za)(h:zb):Prop:=B.ld h v11 λv55=>B.pv (V.bin .eql v55 (.int .i64 0)) λv58=>B.cond v58 (Q (.tup [v13,(.int .i64 1)]) h) (B.pv (V.bin .eql v55 (.int .i64 12)) λv61=>B.cond v61 (Q (.tup [v13,(.int .i64 2)]) h) (Q (.tup [v13,(.int .i64 0)]) h))
@[simp] def zba.k2(C:z5)(E:zbb)(C0:z5)(fL:Nat)(f1 f2:Nat)(Q:zQ)(v0 v3 v10 v11 v12 v13 v14:za)(h:zb):Prop:=B.pv (V.bin .geq v10 (.int .i64 50)) λv36=>B.cond v36 (B.call C f2 [v0,v12,v11,v3] h λv40 h=>B.call C f2 [v0,v13,v11,v3] h λv44 h=>B.call C f2 [v0,v14,v11,v3] h λv48 h=>B.call C f1 [v0,v40,v44,v48,v11,v3] h λv54 h=>zba.k1 C E C0 fL f1 f2 Q v11 v54 h) (B.call C f1 [v0,v12,v13,v14,v11,v3] h λv54 h=>zba.k1 C E C0 fL f1 f2 Q v11 v54 h)
@[simp] def zba.k3(C:z5)(E:zbb)(C0:z5)(fL:Nat)(f1 f2:Nat)(Q:zQ)(v0 v3 v10 v11 v12 v13 v14:za)(h:zb):Prop:=B.pv (V.bin .geq v10 (.int .i64 8)) λv34=>B.cond v34 (zba.k2 C E C0 fL f1 f2 Q v0 v3 v10 v11 v12 v13 v14 h) (zba.k1 C E C0 fL f1 f2 Q v11 v13 h)
@[simp] def zba.k4(C:z5)(E:zbb)(C0:z5)(fL:Nat)(f1 f2:Nat)(Q:zQ)(v0 v1 v3 v10 v11 v12 v13:za)(h:zb):Prop:=B.pv (V.bin .quo v10 (.int .i64 4)) λv30=>B.pv (V.bin .mul v30 (.int .i64 3)) λv31=>B.pv (V.bin .add v1 v31) λv32=>zba.k3 C E C0 fL f1 f2 Q v0 v3 v10 v11 v12 v13 v32 h
@[simp] def zba.k5(C:z5)(E:zbb)(C0:z5)(fL:Nat)(f1 f2:Nat)(Q:zQ)(v0 v1 v3 v10 v11 v12:za)(h:zb):Prop:=B.pv (V.bin .quo v10 (.int .i64 4)) λv25=>B.pv (V.bin .mul v25 (.int .i64 2)) λv26=>B.pv (V.bin .add v1 v26) λv27=>zba.k4 C E C0 fL f1 f2 Q v0 v1 v3 v10 v11 v12 v27 h
@[simp] def zba.k6(C:z5)(E:zbb)(C0:z5)(fL:Nat)(f1 f2:Nat)(Q:zQ)(v0 v1 v3 v10 v11:za)(h:zb):Prop:=B.pv (V.bin .quo v10 (.int .i64 4)) λv20=>B.pv (V.bin .mul v20 (.int .i64 1)) λv21=>B.pv (V.bin .add v1 v21) λv22=>zba.k5 C E C0 fL f1 f2 Q v0 v1 v3 v10 v11 v22 h
@[simp] def zba.cps(C:z5)(E:zbb)(C0:z5)(fL:Nat)(f1 f2:Nat)(v0 v1 v2 v3:za)(h:zb)(Q:zQ):Prop:=B.pv (V.bin .sub v2 v1) λv17=>B.zgn h (some [.int .i64 0]) λi11 h=>zba.k6 C E C0 fL f1 f2 Q v0 v1 v3 v17 (.ptr i11 0 0) h
@[simp] def zdy.k1(C:z5)(E:zbb)(C0:z5)(fL:Nat)(Q:zQ)(Y1:zL)(v0 v8 v9:za)(h:zb):Prop:=B.pv (V.bin .lss v8 v9) λv15=>B.cond v15 (B.pv (V.zc9 E.es v0 v9) λv22=>E.ld h v22 λv23=>B.pv (V.zc9 E.es v0 v8) λv26=>E.ld h v26 λv27=>B.pv (V.zc9 E.es v0 v8) λv28=>E.st h v28 v23 λh=>B.pv (V.zc9 E.es v0 v9) λv29=>E.st h v29 v27 λh=>B.pv (V.bin .add v8 (.int .i64 1)) λv31=>B.pv (V.bin .sub v9 (.int .i64 1)) λv33=>Y1 [v31,v33] h) (Q (.tup []) h)
@[simp] def zdy.l2(C:z5)(E:zbb)(C0:z5)(fL:Nat)(Q:zQ)(v0:za):zG|[v8,v9],h,Y1=>zdy.k1 C E C0 fL Q Y1 v0 v8 v9 h|_,_,_=>False
@[simp] def zdy.cps(C:z5)(E:zbb)(C0:z5)(fL:Nat)(v0 v1 v2 v3:za)(h:zb)(Q:zQ):Prop:=B.pv (V.bin .sub v2 (.int .i64 1)) λv12=>z3 (zdy.l2 C E C0 fL Q v0) [v1,v12] h
@[simp] def zh.k1(C:z5)(E:zbb)(C0:z5)(fL:Nat)(Q:zQ)(Y1:zL)(Y2:zL)(v0 v1 v2 v3 v9 v10 v12:za)(h:zb):Prop:=B.pv (V.bin .lss v12 v2) λv109=>B.cond v109 (B.pv (V.zc9 E.es v0 v12) λv115=>E.ld h v115 λv116=>B.pv (V.bin .sub v12 (.int .i64 1)) λv119=>B.pv (V.zc9 E.es v0 v119) λv120=>E.ld h v120 λv121=>B.call C0 fL [v116,v121] h λv123 h=>B.pv (V.un .not v123) λv124=>B.cond v124 (B.pv (V.bin .add v10 (.int .i64 1)) λv18=>Y1 [v9,v18] h) (B.pv (V.bin .sub v12 (.int .i64 1)) λv129=>B.pv (V.bin .sub v12 (.int .i64 1)) λv132=>B.pv (V.zc9 E.es v0 v132) λv133=>E.ld h v133 λv134=>B.pv (V.zc9 E.es v0 v12) λv137=>E.ld h v137 λv138=>B.pv (V.zc9 E.es v0 v12) λv139=>E.st h v139 v134 λh=>B.pv (V.zc9 E.es v0 v129) λv140=>E.st h v140 v138 λh=>B.pv (V.bin .add v12 (.int .i64 1)) λv111=>Y2 [v111] h)) (B.pv (V.bin .add v10 (.int .i64 1)) λv18=>Y1 [v9,v18] h)
@[simp] def zh.l2(C:z5)(E:zbb)(C0:z5)(fL:Nat)(Q:zQ)(Y1:zL)(v0 v1 v2 v3 v9 v10:za):zG|[v12],h,Y2=>zh.k1 C E C0 fL Q Y1 Y2 v0 v1 v2 v3 v9 v10 v12 h|_,_,_=>False
@[simp] def zh.k3(C:z5)(E:zbb)(C0:z5)(fL:Nat)(Q:zQ)(Y1:zL)(v0 v1 v2 v3 v9 v10:za)(h:zb):Prop:=B.pv (V.bin .sub v2 v9) λv103=>B.pv (V.bin .geq v103 (.int .i64 2)) λv104=>B.cond v104 (B.pv (V.bin .add v9 (.int .i64 1)) λv106=>z3 (zh.l2 C E C0 fL Q Y1 v0 v1 v2 v3 v9 v10) [v106] h) (B.pv (V.bin .add v10 (.int .i64 1)) λv18=>Y1 [v9,v18] h)
@[simp] def zh.k4(C:z5)(E:zbb)(C0:z5)(fL:Nat)(Q:zQ)(Y1:zL)(Y3:zL)(v0 v1 v2 v3 v9 v10 v11:za)(h:zb):Prop:=B.pv (V.bin .geq v11 (.int .i64 1)) λv69=>B.cond v69 (B.pv (V.zc9 E.es v0 v11) λv75=>E.ld h v75 λv76=>B.pv (V.bin .sub v11 (.int .i64 1)) λv79=>B.pv (V.zc9 E.es v0 v79) λv80=>E.ld h v80 λv81=>B.call C0 fL [v76,v81] h λv83 h=>B.pv (V.un .not v83) λv84=>B.cond v84 (zh.k3 C E C0 fL Q Y1 v0 v1 v2 v3 v9 v10 h) (B.pv (V.bin .sub v11 (.int .i64 1)) λv89=>B.pv (V.bin .sub v11 (.int .i64 1)) λv92=>B.pv (V.zc9 E.es v0 v92) λv93=>E.ld h v93 λv94=>B.pv (V.zc9 E.es v0 v11) λv97=>E.ld h v97 λv98=>B.pv (V.zc9 E.es v0 v11) λv99=>E.st h v99 v94 λh=>B.pv (V.zc9 E.es v0 v89) λv100=>E.st h v100 v98 λh=>B.pv (V.bin .sub v11 (.int .i64 1)) λv71=>Y3 [v71] h)) (zh.k3 C E C0 fL Q Y1 v0 v1 v2 v3 v9 v10 h)
@[simp] def zh.l5(C:z5)(E:zbb)(C0:z5)(fL:Nat)(Q:zQ)(Y1:zL)(v0 v1 v2 v3 v9 v10:za):zG|[v11],h,Y3=>zh.k4 C E C0 fL Q Y1 Y3 v0 v1 v2 v3 v9 v10 v11 h|_,_,_=>False
@[simp] def zh.k6(C:z5)(E:zbb)(C0:z5)(fL:Nat)(Q:zQ)(Y1:zL)(v0 v1 v2 v3 v9 v10:za)(h:zb):Prop:=B.pv (V.bin .sub v9 v1) λv64=>B.pv (V.bin .geq v64 (.int .i64 2)) λv65=>B.cond v65 (B.pv (V.bin .sub v9 (.int .i64 1)) λv67=>z3 (zh.l5 C E C0 fL Q Y1 v0 v1 v2 v3 v9 v10) [v67] h) (zh.k3 C E C0 fL Q Y1 v0 v1 v2 v3 v9 v10 h)
@[simp] def zh.k7(C:z5)(E:zbb)(C0:z5)(fL:Nat)(Q:zQ)(Y1:zL)(v0 v1 v2 v3 v9 v10:za)(h:zb):Prop:=B.pv (V.bin .sub v9 (.int .i64 1)) λv50=>B.pv (V.bin .sub v9 (.int .i64 1)) λv53=>B.pv (V.zc9 E.es v0 v53) λv54=>E.ld h v54 λv55=>B.pv (V.zc9 E.es v0 v9) λv58=>E.ld h v58 λv59=>B.pv (V.zc9 E.es v0 v9) λv60=>E.st h v60 v55 λh=>B.pv (V.zc9 E.es v0 v50) λv61=>E.st h v61 v59 λh=>zh.k6 C E C0 fL Q Y1 v0 v1 v2 v3 v9 v10 h
@[simp] def zh.k8(C:z5)(E:zbb)(C0:z5)(fL:Nat)(Q:zQ)(Y1:zL)(v0 v1 v2 v3 v9 v10:za)(h:zb):Prop:=B.pv (V.bin .sub v2 v1) λv44=>B.pv (V.bin .lss v44 (.int .i64 50)) λv45=>B.cond v45 (Q (.bool false) h) (zh.k7 C E C0 fL Q Y1 v0 v1 v2 v3 v9 v10 h)
@[simp] def zh.k9(C:z5)(E:zbb)(C0:z5)(fL:Nat)(Q:zQ)(Y1:zL)(Y4:zL)(v0 v1 v2 v3 v9 v10:za)(h:zb):Prop:=B.pv (V.bin .lss v9 v2) λv21=>B.gd h v21 true (λK=>K v0 h) λv24 h=>B.gd h v21 true (λK=>K v9 h) λv25 h=>B.gd h v21 true (λK=>B.pv (V.zc9 E.es v24 v25) λv=>K v h) λv26 h=>B.gd h v21 true (λK=>E.ld h v26 λv=>K v h) λv27 h=>B.gd h v21 true (λK=>K v0 h) λv28 h=>B.gd h v21 true (λK=>K v9 h) λv29 h=>B.gd h v21 true (λK=>B.pv (V.bin .sub v29 (.int .i64 1)) λv=>K v h) λv30 h=>B.gd h v21 true (λK=>B.pv (V.zc9 E.es v28 v30) λv=>K v h) λv31 h=>B.gd h v21 true (λK=>E.ld h v31 λv=>K v h) λv32 h=>B.gd h v21 true (λK=>B.call C0 fL [v27,v32] h K) λv34 h=>B.gd h v21 true (λK=>B.pv (V.un .not v34) λv=>K v h) λv35 h=>B.pick v21 v35 (.bool false) λv36=>B.cond v36 (B.pv (V.bin .add v9 (.int .i64 1)) λv38=>Y4 [v38] h) (B.pv (V.bin .eql v9 v2) λv41=>B.cond v41 (Q (.bool true) h) (zh.k8 C E C0 fL Q Y1 v0 v1 v2 v3 v9 v10 h))
@[simp] def zh.l10(C:z5)(E:zbb)(C0:z5)(fL:Nat)(Q:zQ)(Y1:zL)(v0 v1 v2 v3 v10:za):zG|[v9],h,Y4=>zh.k9 C E C0 fL Q Y1 Y4 v0 v1 v2 v3 v9 v10 h|_,_,_=>False
@[simp] def zh.k11(C:z5)(E:zbb)(C0:z5)(fL:Nat)(Q:zQ)(Y1:zL)(v0 v1 v2 v3 v9 v10:za)(h:zb):Prop:=B.pv (V.bin .lss v10 (.int .i64 5)) λv16=>B.cond v16 (z3 (zh.l10 C E C0 fL Q Y1 v0 v1 v2 v3 v10) [v9] h) (Q (.bool false) h)
@[simp] def zh.l12(C:z5)(E:zbb)(C0:z5)(fL:Nat)(Q:zQ)(v0 v1 v2 v3:za):zG|[v9,v10],h,Y1=>zh.k11 C E C0 fL Q Y1 v0 v1 v2 v3 v9 v10 h|_,_,_=>False
@[simp] def zh.cps(C:z5)(E:zbb)(C0:z5)(fL:Nat)(v0 v1 v2 v3:za)(h:zb)(Q:zQ):Prop:=B.pv (V.bin .add v1 (.int .i64 1)) λv14=>z3 (zh.l12 C E C0 fL Q v0 v1 v2 v3) [v14,(.int .i64 0)] h
@[simp] def zu.k1(C:z5)(E:zbb)(C0:z5)(fL:Nat)(Q:zQ)(Y1:zL)(v0 v1 v4 v11 v12:za)(h:zb):Prop:=B.pv (V.bin .gtr v11 v12) λv70=>B.cond v70 (Q v11 h) (B.pv (V.zc9 E.es v0 v12) λv77=>E.ld h v77 λv78=>B.pv (V.zc9 E.es v0 v11) λv81=>E.ld h v81 λv82=>B.pv (V.zc9 E.es v0 v11) λv83=>E.st h v83 v78 λh=>B.pv (V.zc9 E.es v0 v12) λv84=>E.st h v84 v82 λh=>B.pv (V.bin .add v11 (.int .i64 1)) λv86=>B.pv (V.bin .sub v12 (.int .i64 1)) λv88=>Y1 [v86,v88] h)
@[simp] def zu.k2(C:z5)(E:zbb)(C0:z5)(fL:Nat)(Q:zQ)(Y1:zL)(Y2:zL)(v0 v1 v4 v11 v12:za)(h:zb):Prop:=B.pv (V.bin .leq v11 v12) λv52=>B.gd h v52 true (λK=>K v0 h) λv55 h=>B.gd h v52 true (λK=>K v1 h) λv56 h=>B.gd h v52 true (λK=>B.pv (V.zc9 E.es v55 v56) λv=>K v h) λv57 h=>B.gd h v52 true (λK=>E.ld h v57 λv=>K v h) λv58 h=>B.gd h v52 true (λK=>K v0 h) λv59 h=>B.gd h v52 true (λK=>K v12 h) λv60 h=>B.gd h v52 true (λK=>B.pv (V.zc9 E.es v59 v60) λv=>K v h) λv61 h=>B.gd h v52 true (λK=>E.ld h v61 λv=>K v h) λv62 h=>B.gd h v52 true (λK=>B.call C0 fL [v58,v62] h K) λv64 h=>B.pick v52 v64 (.bool false) λv65=>B.cond v65 (B.pv (V.bin .sub v12 (.int .i64 1)) λv67=>Y2 [v67] h) (zu.k1 C E C0 fL Q Y1 v0 v1 v4 v11 v12 h)
@[simp] def zu.l3(C:z5)(E:zbb)(C0:z5)(fL:Nat)(Q:zQ)(Y1:zL)(v0 v1 v4 v11:za):zG|[v12],h,Y2=>zu.k2 C E C0 fL Q Y1 Y2 v0 v1 v4 v11 v12 h|_,_,_=>False
@[simp] def zu.k4(C:z5)(E:zbb)(C0:z5)(fL:Nat)(Q:zQ)(Y1:zL)(Y3:zL)(v0 v1 v4 v11 v12:za)(h:zb):Prop:=B.pv (V.bin .leq v11 v12) λv33=>B.gd h v33 true (λK=>K v0 h) λv36 h=>B.gd h v33 true (λK=>K v1 h) λv37 h=>B.gd h v33 true (λK=>B.pv (V.zc9 E.es v36 v37) λv=>K v h) λv38 h=>B.gd h v33 true (λK=>E.ld h v38 λv=>K v h) λv39 h=>B.gd h v33 true (λK=>K v0 h) λv40 h=>B.gd h v33 true (λK=>K v11 h) λv41 h=>B.gd h v33 true (λK=>B.pv (V.zc9 E.es v40 v41) λv=>K v h) λv42 h=>B.gd h v33 true (λK=>E.ld h v42 λv=>K v h) λv43 h=>B.gd h v33 true (λK=>B.call C0 fL [v39,v43] h K) λv45 h=>B.gd h v33 true (λK=>B.pv (V.un .not v45) λv=>K v h) λv46 h=>B.pick v33 v46 (.bool false) λv47=>B.cond v47 (B.pv (V.bin .add v11 (.int .i64 1)) λv49=>Y3 [v49] h) (z3 (zu.l3 C E C0 fL Q Y1 v0 v1 v4 v11) [v12] h)
@[simp] def zu.l5(C:z5)(E:zbb)(C0:z5)(fL:Nat)(Q:zQ)(Y1:zL)(v0 v1 v4 v12:za):zG|[v11],h,Y3=>zu.k4 C E C0 fL Q Y1 Y3 v0 v1 v4 v11 v12 h|_,_,_=>False
@[simp] def zu.l6(C:z5)(E:zbb)(C0:z5)(fL:Nat)(Q:zQ)(v0 v1 v4:za):zG|[v11,v12],h,Y1=>z3 (zu.l5 C E C0 fL Q Y1 v0 v1 v4 v12) [v11] h|_,_,_=>False
@[simp] def zu.k7(C:z5)(E:zbb)(C0:z5)(fL:Nat)(Q:zQ)(v0 v1 v2 v4:za)(h:zb):Prop:=B.pv (V.bin .add v1 (.int .i64 1)) λv28=>B.pv (V.bin .sub v2 (.int .i64 1)) λv30=>z3 (zu.l6 C E C0 fL Q v0 v1 v4) [v28,v30] h
@[simp] def zu.k8(C:z5)(E:zbb)(C0:z5)(fL:Nat)(Q:zQ)(v0 v1 v2 v3 v4:za)(h:zb):Prop:=B.pv (V.zc9 E.es v0 v3) λv19=>E.ld h v19 λv20=>B.pv (V.zc9 E.es v0 v1) λv23=>E.ld h v23 λv24=>B.pv (V.zc9 E.es v0 v1) λv25=>E.st h v25 v20 λh=>B.pv (V.zc9 E.es v0 v3) λv26=>E.st h v26 v24 λh=>zu.k7 C E C0 fL Q v0 v1 v2 v4 h
@[simp] def zu.cps(C:z5)(E:zbb)(C0:z5)(fL:Nat)(v0 v1 v2 v3 v4:za)(h:zb)(Q:zQ):Prop:=zu.k8 C E C0 fL Q v0 v1 v2 v3 v4 h
@[simp] def zl.k1(C:z5)(E:zbb)(C0:z5)(fL:Nat)(Q:zQ)(v0 v1 v13:za)(h:zb):Prop:=B.pv (V.zc9 E.es v0 v1) λv169=>E.ld h v169 λv170=>B.pv (V.zc9 E.es v0 v13) λv173=>E.ld h v173 λv174=>B.pv (V.zc9 E.es v0 v13) λv175=>E.st h v175 v170 λh=>B.pv (V.zc9 E.es v0 v1) λv176=>E.st h v176 v174 λh=>Q (.tup [v13,(.bool false)]) h
@[simp] def zl.k2(C:z5)(E:zbb)(C0:z5)(fL:Nat)(Q:zQ)(Y1:zL)(v0 v1 v4 v12 v13:za)(h:zb):Prop:=B.pv (V.bin .gtr v12 v13) λv144=>B.cond v144 (zl.k1 C E C0 fL Q v0 v1 v13 h) (B.pv (V.zc9 E.es v0 v13) λv151=>E.ld h v151 λv152=>B.pv (V.zc9 E.es v0 v12) λv155=>E.ld h v155 λv156=>B.pv (V.zc9 E.es v0 v12) λv157=>E.st h v157 v152 λh=>B.pv (V.zc9 E.es v0 v13) λv158=>E.st h v158 v156 λh=>B.pv (V.bin .add v12 (.int .i64 1)) λv160=>B.pv (V.bin .sub v13 (.int .i64 1)) λv162=>Y1 [v160,v162] h)
@[simp] def zl.k3(C:z5)(E:zbb)(C0:z5)(fL:Nat)(Q:zQ)(Y1:zL)(Y2:zL)(v0 v1 v4 v12 v13:za)(h:zb):Prop:=B.pv (V.bin .leq v12 v13) λv125=>B.gd h v125 true (λK=>K v0 h) λv128 h=>B.gd h v125 true (λK=>K v13 h) λv129 h=>B.gd h v125 true (λK=>B.pv (V.zc9 E.es v128 v129) λv=>K v h) λv130 h=>B.gd h v125 true (λK=>E.ld h v130 λv=>K v h) λv131 h=>B.gd h v125 true (λK=>K v0 h) λv132 h=>B.gd h v125 true (λK=>K v1 h) λv133 h=>B.gd h v125 true (λK=>B.pv (V.zc9 E.es v132 v133) λv=>K v h) λv134 h=>B.gd h v125 true (λK=>E.ld h v134 λv=>K v h) λv135 h=>B.gd h v125 true (λK=>B.call C0 fL [v131,v135] h K) λv137 h=>B.gd h v125 true (λK=>B.pv (V.un .not v137) λv=>K v h) λv138 h=>B.pick v125 v138 (.bool false) λv139=>B.cond v139 (B.pv (V.bin .sub v13 (.int .i64 1)) λv141=>Y2 [v141] h) (zl.k2 C E C0 fL Q Y1 v0 v1 v4 v12 v13 h)
@[simp] def zl.l4(C:z5)(E:zbb)(C0:z5)(fL:Nat)(Q:zQ)(Y1:zL)(v0 v1 v4 v12:za):zG|[v13],h,Y2=>zl.k3 C E C0 fL Q Y1 Y2 v0 v1 v4 v12 v13 h|_,_,_=>False
@[simp] def zl.k5(C:z5)(E:zbb)(C0:z5)(fL:Nat)(Q:zQ)(Y1:zL)(Y3:zL)(v0 v1 v4 v12 v13:za)(h:zb):Prop:=B.pv (V.bin .leq v12 v13) λv107=>B.gd h v107 true (λK=>K v0 h) λv110 h=>B.gd h v107 true (λK=>K v12 h) λv111 h=>B.gd h v107 true (λK=>B.pv (V.zc9 E.es v110 v111) λv=>K v h) λv112 h=>B.gd h v107 true (λK=>E.ld h v112 λv=>K v h) λv113 h=>B.gd h v107 true (λK=>K v0 h) λv114 h=>B.gd h v107 true (λK=>K v1 h) λv115 h=>B.gd h v107 true (λK=>B.pv (V.zc9 E.es v114 v115) λv=>K v h) λv116 h=>B.gd h v107 true (λK=>E.ld h v116 λv=>K v h) λv117 h=>B.gd h v107 true (λK=>B.call C0 fL [v113,v117] h K) λv119 h=>B.pick v107 v119 (.bool false) λv120=>B.cond v120 (B.pv (V.bin .add v12 (.int .i64 1)) λv122=>Y3 [v122] h) (z3 (zl.l4 C E C0 fL Q Y1 v0 v1 v4 v12) [v13] h)
@[simp] def zl.l6(C:z5)(E:zbb)(C0:z5)(fL:Nat)(Q:zQ)(Y1:zL)(v0 v1 v4 v13:za):zG|[v12],h,Y3=>zl.k5 C E C0 fL Q Y1 Y3 v0 v1 v4 v12 v13 h|_,_,_=>False
@[simp] def zl.l7(C:z5)(E:zbb)(C0:z5)(fL:Nat)(Q:zQ)(v0 v1 v4:za):zG|[v12,v13],h,Y1=>z3 (zl.l6 C E C0 fL Q Y1 v0 v1 v4 v13) [v12] h|_,_,_=>False
@[simp] def zl.k8(C:z5)(E:zbb)(C0:z5)(fL:Nat)(Q:zQ)(v0 v1 v4 v12 v13:za)(h:zb):Prop:=B.pv (V.bin .add v12 (.int .i64 1)) λv102=>B.pv (V.bin .sub v13 (.int .i64 1)) λv104=>z3 (zl.l7 C E C0 fL Q v0 v1 v4) [v102,v104] h
@[simp] def zl.k9(C:z5)(E:zbb)(C0:z5)(fL:Nat)(Q:zQ)(v0 v1 v4 v12 v13:za)(h:zb):Prop:=B.pv (V.zc9 E.es v0 v13) λv93=>E.ld h v93 λv94=>B.pv (V.zc9 E.es v0 v12) λv97=>E.ld h v97 λv98=>B.pv (V.zc9 E.es v0 v12) λv99=>E.st h v99 v94 λh=>B.pv (V.zc9 E.es v0 v13) λv100=>E.st h v100 v98 λh=>zl.k8 C E C0 fL Q v0 v1 v4 v12 v13 h
@[simp] def zl.k10(C:z5)(E:zbb)(C0:z5)(fL:Nat)(Q:zQ)(v0 v1 v4 v12 v13:za)(h:zb):Prop:=B.pv (V.bin .gtr v12 v13) λv71=>B.cond v71 (B.pv (V.zc9 E.es v0 v1) λv78=>E.ld h v78 λv79=>B.pv (V.zc9 E.es v0 v13) λv82=>E.ld h v82 λv83=>B.pv (V.zc9 E.es v0 v13) λv84=>E.st h v84 v79 λh=>B.pv (V.zc9 E.es v0 v1) λv85=>E.st h v85 v83 λh=>Q (.tup [v13,(.bool true)]) h) (zl.k9 C E C0 fL Q v0 v1 v4 v12 v13 h)
@[simp] def zl.k11(C:z5)(E:zbb)(C0:z5)(fL:Nat)(Q:zQ)(Y4:zL)(v0 v1 v4 v12 v13:za)(h:zb):Prop:=B.pv (V.bin .leq v12 v13) λv52=>B.gd h v52 true (λK=>K v0 h) λv55 h=>B.gd h v52 true (λK=>K v13 h) λv56 h=>B.gd h v52 true (λK=>B.pv (V.zc9 E.es v55 v56) λv=>K v h) λv57 h=>B.gd h v52 true (λK=>E.ld h v57 λv=>K v h) λv58 h=>B.gd h v52 true (λK=>K v0 h) λv59 h=>B.gd h v52 true (λK=>K v1 h) λv60 h=>B.gd h v52 true (λK=>B.pv (V.zc9 E.es v59 v60) λv=>K v h) λv61 h=>B.gd h v52 true (λK=>E.ld h v61 λv=>K v h) λv62 h=>B.gd h v52 true (λK=>B.call C0 fL [v58,v62] h K) λv64 h=>B.gd h v52 true (λK=>B.pv (V.un .not v64) λv=>K v h) λv65 h=>B.pick v52 v65 (.bool false) λv66=>B.cond v66 (B.pv (V.bin .sub v13 (.int .i64 1)) λv68=>Y4 [v68] h) (zl.k10 C E C0 fL Q v0 v1 v4 v12 v13 h)
@[simp] def zl.l12(C:z5)(E:zbb)(C0:z5)(fL:Nat)(Q:zQ)(v0 v1 v4 v12:za):zG|[v13],h,Y4=>zl.k11 C E C0 fL Q Y4 v0 v1 v4 v12 v13 h|_,_,_=>False
@[simp] def zl.k13(C:z5)(E:zbb)(C0:z5)(fL:Nat)(Q:zQ)(Y5:zL)(v0 v1 v4 v12 v13:za)(h:zb):Prop:=B.pv (V.bin .leq v12 v13) λv34=>B.gd h v34 true (λK=>K v0 h) λv37 h=>B.gd h v34 true (λK=>K v12 h) λv38 h=>B.gd h v34 true (λK=>B.pv (V.zc9 E.es v37 v38) λv=>K v h) λv39 h=>B.gd h v34 true (λK=>E.ld h v39 λv=>K v h) λv40 h=>B.gd h v34 true (λK=>K v0 h) λv41 h=>B.gd h v34 true (λK=>K v1 h) λv42 h=>B.gd h v34 true (λK=>B.pv (V.zc9 E.es v41 v42) λv=>K v h) λv43 h=>B.gd h v34 true (λK=>E.ld h v43 λv=>K v h) λv44 h=>B.gd h v34 true (λK=>B.call C0 fL [v40,v44] h K) λv46 h=>B.pick v34 v46 (.bool false) λv47=>B.cond v47 (B.pv (V.bin .add v12 (.int .i64 1)) λv49=>Y5 [v49] h) (z3 (zl.l12 C E C0 fL Q v0 v1 v4 v12) [v13] h)
@[simp] def zl.l14(C:z5)(E:zbb)(C0:z5)(fL:Nat)(Q:zQ)(v0 v1 v4 v13:za):zG|[v12],h,Y5=>zl.k13 C E C0 fL Q Y5 v0 v1 v4 v12 v13 h|_,_,_=>False
@[simp] def zl.k15(C:z5)(E:zbb)(C0:z5)(fL:Nat)(Q:zQ)(v0 v1 v2 v4:za)(h:zb):Prop:=B.pv (V.bin .add v1 (.int .i64 1)) λv29=>B.pv (V.bin .sub v2 (.int .i64 1)) λv31=>z3 (zl.l14 C E C0 fL Q v0 v1 v4 v31) [v29] h
@[simp] def zl.k16(C:z5)(E:zbb)(C0:z5)(fL:Nat)(Q:zQ)(v0 v1 v2 v3 v4:za)(h:zb):Prop:=B.pv (V.zc9 E.es v0 v3) λv20=>E.ld h v20 λv21=>B.pv (V.zc9 E.es v0 v1) λv24=>E.ld h v24 λv25=>B.pv (V.zc9 E.es v0 v1) λv26=>E.st h v26 v21 λh=>B.pv (V.zc9 E.es v0 v3) λv27=>E.st h v27 v25 λh=>zl.k15 C E C0 fL Q v0 v1 v2 v4 h
@[simp] def zl.cps(C:z5)(E:zbb)(C0:z5)(fL:Nat)(v0 v1 v2 v3 v4:za)(h:zb)(Q:zQ):Prop:=zl.k16 C E C0 fL Q v0 v1 v2 v3 v4 h
@[simp] def zc6.k1(C:z5)(E:zbb)(C0:z5)(fL:Nat)(Q:zQ)(Y1:zL)(v0 v2 v3 v4 v10 v11:za)(h:zb):Prop:=B.pv (V.bin .add v3 v10) λv47=>B.pv (V.zc9 E.es v0 v47) λv48=>E.ld h v48 λv49=>B.pv (V.bin .add v3 v11) λv53=>B.pv (V.zc9 E.es v0 v53) λv54=>E.ld h v54 λv55=>B.call C0 fL [v49,v55] h λv57 h=>B.pv (V.un .not v57) λv58=>B.cond v58 (Q (.tup []) h) (B.pv (V.bin .add v3 v10) λv62=>B.pv (V.bin .add v3 v11) λv66=>B.pv (V.bin .add v3 v11) λv70=>B.pv (V.zc9 E.es v0 v70) λv71=>E.ld h v71 λv72=>B.pv (V.bin .add v3 v10) λv76=>B.pv (V.zc9 E.es v0 v76) λv77=>E.ld h v77 λv78=>B.pv (V.zc9 E.es v0 v62) λv79=>E.st h v79 v72 λh=>B.pv (V.zc9 E.es v0 v66) λv80=>E.st h v80 v78 λh=>Y1 [v11] h)
@[simp] def zc6.k2(C:z5)(E:zbb)(C0:z5)(fL:Nat)(Q:zQ)(Y1:zL)(v0 v2 v3 v4 v10 v11:za)(h:zb):Prop:=B.pv (V.bin .add v11 (.int .i64 1)) λv20=>B.pv (V.bin .lss v20 v2) λv22=>B.gd h v22 true (λK=>K v0 h) λv25 h=>B.gd h v22 true (λK=>K v3 h) λv26 h=>B.gd h v22 true (λK=>K v11 h) λv27 h=>B.gd h v22 true (λK=>B.pv (V.bin .add v26 v27) λv=>K v h) λv28 h=>B.gd h v22 true (λK=>B.pv (V.zc9 E.es v25 v28) λv=>K v h) λv29 h=>B.gd h v22 true (λK=>E.ld h v29 λv=>K v h) λv30 h=>B.gd h v22 true (λK=>K v0 h) λv31 h=>B.gd h v22 true (λK=>K v3 h) λv32 h=>B.gd h v22 true (λK=>K v11 h) λv33 h=>B.gd h v22 true (λK=>B.pv (V.bin .add v32 v33) λv=>K v h) λv34 h=>B.gd h v22 true (λK=>B.pv (V.bin .add v34 (.int .i64 1)) λv=>K v h) λv35 h=>B.gd h v22 true (λK=>B.pv (V.zc9 E.es v31 v35) λv=>K v h) λv36 h=>B.gd h v22 true (λK=>E.ld h v36 λv=>K v h) λv37 h=>B.gd h v22 true (λK=>B.call C0 fL [v30,v37] h K) λv39 h=>B.pick v22 v39 (.bool false) λv40=>B.cond v40 (B.pv (V.bin .add v11 (.int .i64 1)) λv42=>zc6.k1 C E C0 fL Q Y1 v0 v2 v3 v4 v10 v42 h) (zc6.k1 C E C0 fL Q Y1 v0 v2 v3 v4 v10 v11 h)
@[simp] def zc6.k3(C:z5)(E:zbb)(C0:z5)(fL:Nat)(Q:zQ)(Y1:zL)(v0 v2 v3 v4 v10:za)(h:zb):Prop:=B.pv (V.bin .mul (.int .i64 2) v10) λv14=>B.pv (V.bin .add v14 (.int .i64 1)) λv15=>B.pv (V.bin .geq v15 v2) λv18=>B.cond v18 (Q (.tup []) h) (zc6.k2 C E C0 fL Q Y1 v0 v2 v3 v4 v10 v15 h)
@[simp] def zc6.l4(C:z5)(E:zbb)(C0:z5)(fL:Nat)(Q:zQ)(v0 v2 v3 v4:za):zG|[v10],h,Y1=>zc6.k3 C E C0 fL Q Y1 v0 v2 v3 v4 v10 h|_,_,_=>False
@[simp] def zc6.cps(C:z5)(E:zbb)(C0:z5)(fL:Nat)(v0 v1 v2 v3 v4:za)(h:zb)(Q:zQ):Prop:=z3 (zc6.l4 C E C0 fL Q v0 v2 v3 v4) [v1] h
@[simp] def zea.k1(C:z5)(E:zbb)(C0:z5)(fL:Nat)(f1:Nat)(Q:zQ)(v0 v1 v2 v3:za)(h:zb):Prop:=B.pv (V.bin .sub v1 (.int .i64 1)) λv11=>B.pv (V.bin .add v1 (.int .i64 1)) λv14=>B.call C f1 [v0,v11,v1,v14,v2,v3] h λv17 h=>Q v17 h
@[simp] def zea.cps(C:z5)(E:zbb)(C0:z5)(fL:Nat)(f1:Nat)(v0 v1 v2 v3:za)(h:zb)(Q:zQ):Prop:=zea.k1 C E C0 fL f1 Q v0 v1 v2 v3 h
@[simp] def zfr.k1(C:z5)(E:zbb)(C0:z5)(fL:Nat)(f1:Nat)(Q:zQ)(v0 v1 v2 v3 v4 v5:za)(h:zb):Prop:=B.call C f1 [v0,v1,v2,v4,v5] h λv19 h=>B.pv (V.ext 0 v19) λv20=>B.pv (V.ext 1 v19) λv21=>B.call C f1 [v0,v21,v3,v4,v5] h λv28 h=>B.pv (V.ext 0 v28) λv29=>B.pv (V.ext 1 v28) λv30=>B.call C f1 [v0,v20,v29,v4,v5] h λv37 h=>B.pv (V.ext 0 v37) λv38=>B.pv (V.ext 1 v37) λv39=>Q v39 h
@[simp] def zfr.cps(C:z5)(E:zbb)(C0:z5)(fL:Nat)(f1:Nat)(v0 v1 v2 v3 v4 v5:za)(h:zb)(Q:zQ):Prop:=zfr.k1 C E C0 fL f1 Q v0 v1 v2 v3 v4 v5 h
@[simp] def zfq.k1(C:z5)(E:zbb)(C0:z5)(fL:Nat)(Q:zQ)(v0 v1 v2 v3 v4:za)(h:zb):Prop:=B.pv (V.zc9 E.es v0 v2) λv15=>E.ld h v15 λv16=>B.pv (V.zc9 E.es v0 v1) λv19=>E.ld h v19 λv20=>B.call C0 fL [v16,v20] h λv22 h=>B.cond v22 (B.nilCheck v3 λv24=>B.ld h v24 λv25=>B.pv (V.bin .add v25 (.int .i64 1)) λv26=>B.nilCheck v3 λv27=>B.st h v27 v26 λh=>Q (.tup [v2,v1]) h) (Q (.tup [v1,v2]) h)
@[simp] def zfq.cps(C:z5)(E:zbb)(C0:z5)(fL:Nat)(v0 v1 v2 v3 v4:za)(h:zb)(Q:zQ):Prop:=zfq.k1 C E C0 fL Q v0 v1 v2 v3 v4 h
structure znb{T:Type}(less:T->T->Bool):Prop where
 asym:∀{a b},less a b=true->less b a=false
 zo1:∀{a b c},less a b=false->less b c=false->less a c=false
section
variable{T:Type}{less:T->T->Bool}
theorem znb.irr(W:znb less)(a:T):less a a=false:=by
 cases h:less a a with
 | false=>rfl
 | true=>have:=W.asym h;rw[h]at this;cases this
theorem znb.trans(W:znb less){a b c:T}(h1:less a b=true)(h2:less b c=true):less a c=true:=by
 cases h:less a c with
 | true=>rfl
 | false=>have:=W.zo1 h (W.asym h2);rw[h1]at this;cases this
def lt'(less:T->T->Bool)(x y:T×Nat):Prop:=less x.1 y.1=true \/ (less y.1 x.1=false /\ x.2<y.2)
theorem lt'_trans(W:znb less){x y z:T×Nat}(h1:lt' less x y)(h2:lt' less y z):lt' less x z:=by
 unfold lt' at *;rcases h1 with h1|⟨h1,n1⟩<;>rcases h2 with h2|⟨h2,n2⟩
 ·exact .inl (W.trans h1 h2)
 ·left
  cases h:less x.1 z.1 with
  | true=>rfl
  | false=>have:=W.zo1 h h2;rw[h1]at this;cases this
 ·left
  cases h:less x.1 z.1 with
  | true=>rfl
  | false=>have:=W.zo1 h1 h;rw[h2]at this;cases this
 ·exact .inr ⟨W.zo1 h2 h1,by omega⟩
theorem lt'_gt{x y:T×Nat}(hn:y.2<x.2):lt' less x y↔less x.1 y.1=true:=⟨λh=>h.elim id λ⟨_,h⟩=>by omega,.inl⟩
theorem lt'_le(W:znb less){x y:T×Nat}(hn:x.2<y.2):lt' less x y↔less y.1 x.1=false:=⟨λh=>h.elim (λh=>W.asym h) λ⟨h,_⟩=>h,λh=> .inr ⟨h,hn⟩⟩
end
variable{C:z5}{N:zN}
theorem zgr{a:Nat}(h:a<4611686018427387904):V.bin .add (.int .i64 (a:Int)) (.int .i64 1)=some (.int .i64 ((a+1:Nat):Int)):=by
 rw[V.zh7,wrap_i64 (by omega) (by omega)];simp
theorem sub1{a:Nat}(h:1 <= a)(ha:a<4611686018427387904):V.bin .sub (.int .i64 (a:Int)) (.int .i64 1)=some (.int .i64 ((a-1:Nat):Int)):=by
 rw[V.zju,wrap_i64 (by omega) (by omega)];congr 2;omega
theorem zp1{a b:Nat}:V.bin .lss (.int .i64 (a:Int)) (.int .i64 (b:Int))=some (.bool (decide (a<b))):=by rw[V.zev];congr 3;exact propext (by omega)
theorem leqN{a b:Nat}:V.bin .leq (.int .i64 (a:Int)) (.int .i64 (b:Int))=some (.bool (decide (a <= b))):=by rw[V.bin_leq];congr 3;exact propext (by omega)
theorem gtrN{a b:Nat}:V.bin .gtr (.int .i64 (a:Int)) (.int .i64 (b:Int))=some (.bool (decide (b<a))):=by rw[V.zm9];congr 3;exact propext (by omega)
structure zd8(E:zbb){X:Type}(cs:X->List za)(v:X->za):Prop where
 pos:0<E.es
 small:E.bytes <= 1000
 zlen:E.z.length=E.es
 len:∀t,(cs t).length=E.es
 new:∀t,zez [(0,E.kp,v t)] (zh2 1 E.z)=some (cs t)
 ld:∀{h:zb}{x:za}{L R:List (List za)}{i:Nat}{t:X}{K:za->Prop},SlX h E.es x L R->L[i]?=some (cs t)->K (v t)->E.ld h (elp E.es x i 0) K
 kpt:∀{h:zb}{x:za}{L R:List (List za)}{i:Nat}{t:X},SlX h E.es x L R->L[i]?=some (cs t)->Kp h (elp E.es x i 0) E.kp
 st:∀{h0 h:zb}{x:za}{L R:List (List za)}{i:Nat}{c:List za}{t:X}{K:zb->Prop},zc5 h0 h [.sl E.es x L R]->L[i]?=some c ->
  (∀h',zc5 h0 h' [.sl E.es x (L.set i (cs t)) R]->K h')->E.st h (elp E.es x i 0) (v t) K
theorem zd8.comp{E:zbb}{X Y:Type}{cs:X->List za}{v:X->za}(S:zd8 E cs v)(f:Y->X):zd8 E (λy=>cs (f y)) (λy=>v (f y)):=⟨S.pos,S.small,S.zlen,λt=>S.len _,λt=>S.new _,λh1 h2 h3=>S.ld h1 h2 h3,λh1 h2=>S.kpt h1 h2,λh1 h2 h3=>S.st h1 h2 h3⟩
theorem seqS{X:Type}{bytes f:Nat}{z:za}{v:X->za}(hb:bytes <= 1000)(hc:∀t,(v t).zec=true):zd8 (zdf bytes z f) (λt=>[v t]) v where
 pos:=Nat.one_pos
 small:=hb
 zlen:=rfl
 len _:=rfl
 new t:=by simp[zdf,hc,zh2]
 ld hs hcc hk:=by
  simp only[zdf,B.zed]at hs ⊢;rw[hs.cell hcc];exact hk
 kpt hs hcc:=⟨_,hs.cell hcc⟩
 st {h0 h x L R i c t K} ho hcc hk:=by
  have hs:SlX h 1 x L R:=ho.zkj 0 rfl;have hcl:c.length=1:=hs.len c (mem_append_left _ (mem_of_getElem? hcc));obtain⟨u,rfl⟩:=length_eq_one_iff.1 hcl;exact ho.st 0 rfl hcc (by show 0<1;omega) (hc _) λh' h1 _=>hk h' h1
def Rw(E:zbb){X:Type}(cs:X->List za)(h0 h:zb)(x:za)(G:List X)(R:List (List za)):Prop:=zc5 h0 h [.sl E.es x (G.map cs) R]
section
variable{E:zbb}{X:Type}{cs:X->List za}{v:X->za}{h0 h:zb}{x:za}{G:List X}{R:List (List za)}
theorem Rw.idx(ho:Rw E cs h0 h x G R){i:Nat}(hi:i<G.length):V.zc9 E.es x (.int .i64 (i:Int))=some (elp E.es x i 0):=(zc5.zkj ho 0 rfl).znf (by simpa using hi)
theorem Rw.lenE(ho:Rw E cs h0 h x G R):V.zde x=some (.int .i64 G.length):=by have:=(zc5.zkj ho 0 rfl).zde;simpa using this
theorem Rw.le(ho:Rw E cs h0 h x G R):h0.le h:=zc5.le ho
theorem Rw.ld(ho:Rw E cs h0 h x G R)(S:zd8 E cs v){i:Nat}{t:X}(hg:G[i]?=some t){K:za->Prop}(hk:K (v t)):E.ld h (elp E.es x i 0) K:=
 S.ld (zc5.zkj ho 0 rfl) (by rw[getElem?_map,hg];rfl) hk
theorem Rw.st(ho:Rw E cs h0 h x G R)(S:zd8 E cs v){i:Nat}{t:X}(hi:i<G.length){K:zb->Prop}(hk:∀h',Rw E cs h0 h' x (G.set i t) R->K h'):E.st h (elp E.es x i 0) (v t) K:=
 S.st ho (c:=cs G[i]) (by rw[getElem?_map,getElem?_eq_getElem hi];rfl) λh' h1=>hk h' (by unfold Rw;rwa [map_set])
theorem set_mid{P Q:List X}{a b:X}{i:Nat}(hi:i=P.length):(P++a::Q).set i b=P++b::Q:=by subst hi;simp
theorem get_mid{P Q:List X}{a:X}{i:Nat}(hi:i=P.length):(P++a::Q)[i]?=some a:=by subst hi;simp
theorem set_mid2{P Q T:List X}{a b c:X}{j:Nat}(hj:j=P.length+1+Q.length):(P++a::(Q++b::T)).set j c=P++a::(Q++c::T):=by
 have:=set_mid (P:=P++a::Q) (Q:=T) (a:=b) (b:=c) (i:=j) (by simp;omega);simpa using this
theorem get_mid2{P Q T:List X}{a b:X}{j:Nat}(hj:j=P.length+1+Q.length):(P++a::(Q++b::T))[j]?=some b:=by
 have:=get_mid (P:=P++a::Q) (Q:=T) (a:=b) (i:=j) (by simp;omega);simpa using this
theorem Rw.swapDn{P Q T:List X}{a b:X}{i j:Nat}(ho:Rw E cs h0 h x (P++a::(Q++b::T)) R)(S:zd8 E cs v)(hi:i=P.length)(hj:j=P.length+1+Q.length){K:zb->Prop}
  (hk:∀h',Rw E cs h0 h' x (P++b::(Q++a::T)) R->K h'):E.st h (elp E.es x j 0) (v a) λh=>E.st h (elp E.es x i 0) (v b) K:=by
 refine ho.st S (by simp;omega) λh1 o1=>?_;rw[set_mid2 hj]at o1;refine o1.st S (by simp;omega) λh2 o2=>hk h2 ?_
 rwa [set_mid hi]at o2
end
section
variable{E:zbb}{T:Type}{cs:T->List za}{v:T->za}{c:T->T->Int}{h0 h:zb}{x f:za}{R:List (List za)}{Q:zQ}
def zeu(c:T->T->Int)(a b:T):Bool:=decide (c a b<0)
theorem nil_or_snoc{X:Type}(L:List X):L=[] \/ ∃L0 y,L=L0++[y]:=by
 rcases eq_nil_or_concat L with h|⟨A,b,h⟩
 ·exact .inl h
 ·exact .inr ⟨A,b,by rw[h,concat_eq_append]⟩
end
variable{C:z5}{N:zN}
section
variable{E:zbb}{X:Type}{cs:X->List za}{v:X->za}{h0 h:zb}{x f:za}{R:List (List za)}{Q:zQ}
end
variable{C:z5}{N:zN}
section
variable{E:zbb}{T:Type}{cs:T->List za}{v:T->za}{c:T->T->Int}{h0 h:zb}{x f:za}{R:List (List za)}{Q:zQ}
end
variable{C:z5}{N:zN}
section
variable{E:zbb}{T:Type}{cs:T->List za}{v:T->za}{c:T->T->Int}{h0 h:zb}{x f:za}{R:List (List za)}{Q:zQ}
end
variable{C:z5}{N:zN}
section
variable{E:zbb}{T:Type}{cs:T->List za}{v:T->za}{c:T->T->Int}{h0 h:zb}{x f:za}{R:List (List za)}{Q:zQ}
end
variable{C:z5}{N:zN}
section
variable{E:zbb}{T:Type}{cs:T->List za}{v:T->za}{c:T->T->Int}{h0 h:zb}{x f:za}{R:List (List za)}{Q:zQ}
end
variable{C:z5}{N:zN}
section
variable{E:zbb}{T:Type}{cs:T->List za}{v:T->za}{c:T->T->Int}{h0 h:zb}{x f:za}{R:List (List za)}{Q:zQ}
end
variable{C:z5}{N:zN}
section
variable{E:zbb}{T:Type}{cs:T->List za}{v:T->za}{c:T->T->Int}{h0 h:zb}{x f:za}{R:List (List za)}{Q:zQ}
end
section
variable{T:Type}{c:T->T->Int}
end
end Go.Ab
