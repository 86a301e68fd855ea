/- What is proved: a part of the way to the statement: AcJ. No conditions. -/
import Derived.Test.YtlcijlhcilgknaaGreatQ3
import Derived.Test.YtlcijlhcilgknaaGreatQ5
import Derived.KernelRfl
import Derived.Test.YtlcijlhcilgknaaGreatQ2
set_option linter.unusedVariables false
set_option linter.unusedSimpArgs false
namespace Go.Ab
theorem arg_slice{T:Type}{H:zb}{bytes es:Nat}{e:Ty}{v:za}(cs:T->List za)(hd:∀p,zj9 H e p->∃t,p=cs t)(h:zj9 H (.sl bytes es e) [v]):
  ∃L:List T,SlIs H es v (L.map cs) /\ L.length*bytes <= reach:=by
 rcases h with h|h|⟨id,parts,h1,h2,h3,h4⟩
 ·cases h;exact⟨[],SlX.zbp H es,by simp⟩
 ·cases h;exact⟨[],SlX.sz H es,by simp⟩
 ·cases h1
  have:∃L:List T,parts=L.map cs:=by
   clear h2 h3
   induction parts with
   | nil=>exact⟨[],rfl⟩
   | cons p r ih=>
    obtain⟨L,rfl⟩:=ih λq hq=>h4 q (by simp[hq]);obtain⟨t,rfl⟩:=hd p (h4 p (by simp)).1;exact⟨t::L,rfl⟩
  obtain⟨L,rfl⟩:=this;have hl:∀p∈L.map cs++[],p.length=es:=λp hp=>(h4 p (by simpa using hp)).2;have hfl:(L.map cs).flatten.length=L.length*es:=by
   have:=zoa (css:=L.map cs) (n:=es) λp hp=>(h4 p hp).2;simpa using this
  refine⟨L,⟨hl,.inr ⟨id,0,0,(L.map cs).length,roOf (L.map cs).flatten,(L.map cs).flatten.length,rfl,by simp,h2,zju ..,?_,Nat.le_refl _,?_⟩⟩,by simpa using h3⟩
  ·rw[hfl];simp
  ·simp only[roOf,List.drop_zero,List.append_nil,List.length_nil,Nat.add_zero,List.length_map]
   rw[<-hfl,List.take_length]
variable{C:zh}{N:zN}
structure z6 where
 es:Nat
 bytes:Nat
 z:List za
 f:Nat
 kp:Option Nat
 ld:zb->za->(za->Prop)->Prop
 st:zb->za->za->(zb->Prop)->Prop
 eq:zb->za->za->(zQ)->Prop
section
variable(E:z6)
@[simp] def zw.k3(C:zh)(Q:zQ)(Y1 Y2:zL)(v0 v5 v14 v15:za)(h:zb):Prop:=B.pv (V.zb4 1 v0 v14) λv161=>B.ld h v161 λv162=>B.pv (V.zbg v162) λv163=>B.pv (V.bin .lss v15 v163) λv164=>B.cond v164 (B.pv (V.zb4 1 v0 v14) λv169=>B.ld h v169 λv170=>B.pv (V.zb4 E.es v170 v15) λv172=>E.ld h v172 λv173=>B.call C E.f [v14,v15] h (B.zoy h [(v169,none),(v172,E.kp)] (λv176 h=>E.eq h v173 v176 λv177 h=>B.pv (V.un .not v177) λv178=>B.gd h v178 false (λK=>K v5 h) λv180 h=>B.gd h v178 false (λK=>K v14 h) λv181 h=>B.gd h v178 false (λK=>B.pv (V.zb4 1 v180 v181) λv=>K v h) λv182 h=>B.gd h v178 false (λK=>B.ld h v182 λv=>K v h) λv183 h=>B.gd h v178 false (λK=>K v15 h) λv184 h=>B.gd h v178 false (λK=>B.pv (V.zb4 E.es v183 v184) λv=>K v h) λv185 h=>B.gd h v178 false (λK=>E.ld h v185 λv=>K v h) λv186 h=>B.gd h v178 false (λK=>K v14 h) λv187 h=>B.gd h v178 false (λK=>K v15 h) λv188 h=>B.gd h v178 false (λK=>B.call C E.f [v187,v188] h (B.zoy h [(v182,none),(v185,E.kp)] K)) λv189 h=>B.gd h v178 false (λK=>E.eq h v186 v189 K) λv190 h=>B.gd h v178 false (λK=>B.pv (V.un .not v190) λv=>K v h) λv191 h=>B.pick v178 (.bool true) v191 λv192=>B.cond v192 (Q (.bool false) h) (B.pv (V.bin .add v15 (.int .i64 1)) λv166=>Y2 [v166] h)))) (B.pv (V.bin .add v14 (.int .i64 1)) λv157=>Y1 [v157] h)
@[simp] def zw.l5(C:zh)(Q:zQ)(Y1:zL)(v0 v5 v14:za):zG|[v15],h,Y2=>zw.k3 E C Q Y1 Y2 v0 v5 v14 v15 h|_,_,_=>False
@[simp] def zw.k12(C:zh)(Q:zQ)(Y1:zL)(v0 v5 v14:za)(h:zb):Prop:=B.pv (V.zbg v0) λv154=>B.pv (V.bin .lss v14 v154) λv155=>B.cond v155 (zd (zw.l5 E C Q Y1 v0 v5 v14) [(.int .i64 0)] h) (Q (.bool true) h)
@[simp] def zw.l15(C:zh)(Q:zQ)(v0 v5:za):zG|[v14],h,Y1=>zw.k12 E C Q Y1 v0 v5 v14 h|_,_,_=>False
@[simp] def zw.k22(C:zh)(Q:zQ)(Y3:zL)(v0 v5 v11 v12:za)(h:zb):Prop:=B.pv (V.zb4 1 v0 v11) λv147=>B.ld h v147 λv148=>B.ziw h E.es E.bytes v148 v12 λv150 h=>B.pv (V.zb4 1 v5 v11) λv151=>B.st h v151 v150 λh=>B.pv (V.bin .add v11 (.int .i64 1)) λv128=>Y3 [v128] h
@[simp] def zw.k24(C:zh)(Q:zQ)(Y3 Y4:zL)(v0 v5 v11 v12 v13:za)(h:zb):Prop:=B.pv (V.bin .lss v13 (.int .i64 64)) λv131=>B.cond v131 (B.pv (V.zbg v0) λv138=>B.pv (V.bin .add v11 v138) λv139=>B.call C E.f [v139,v13] h λv141 h=>B.pv (V.zb4 E.es v12 v13) λv142=>E.st h v142 v141 λh=>B.pv (V.bin .add v13 (.int .i64 1)) λv133=>Y4 [v133] h) (zw.k22 E C Q Y3 v0 v5 v11 v12 h)
@[simp] def zw.l26(C:zh)(Q:zQ)(Y3:zL)(v0 v5 v11 v12:za):zG|[v13],h,Y4=>zw.k24 E C Q Y3 Y4 v0 v5 v11 v12 v13 h|_,_,_=>False
@[simp] def zw.k37(C:zh)(Q:zQ)(Y3:zL)(v0 v5 v11:za)(h:zb):Prop:=B.pv (V.zbg v0) λv125=>B.pv (V.bin .lss v11 v125) λv126=>B.cond v126 (0<E.es /\ B.mks h E.bytes (some E.z) (.int .i64 64) (.int .i64 64) λv129 h=>zd (zw.l26 E C Q Y3 v0 v5 v11 v129) [(.int .i64 0)] h) (zd (zw.l15 E C Q v0 v5) [(.int .i64 0)] h)
@[simp] def zw.l40(C:zh)(Q:zQ)(v0 v5:za):zG|[v11],h,Y3=>zw.k37 E C Q Y3 v0 v5 v11 h|_,_,_=>False
@[simp] def zw.k47(C:zh)(Q:zQ)(Y5 Y6:zL)(v0 v5 v9 v10:za)(h:zb):Prop:=B.pv (V.zb4 1 v5 v9) λv82=>B.ld h v82 λv83=>B.pv (V.zbg v83) λv84=>B.pv (V.bin .lss v10 v84) λv85=>B.cond v85 (B.pv (V.zb4 1 v5 v9) λv90=>B.ld h v90 λv91=>B.pv (V.zb4 E.es v91 v10) λv93=>E.ld h v93 λv94=>B.call C E.f [v9,v10] h (B.zoy h [(v90,none),(v93,E.kp)] (λv97 h=>E.eq h v94 v97 λv98 h=>B.pv (V.un .not v98) λv99=>B.gd h v99 false (λK=>K v10 h) λv101 h=>B.gd h v99 false (λK=>K v0 h) λv102 h=>B.gd h v99 false (λK=>K v9 h) λv103 h=>B.gd h v99 false (λK=>B.pv (V.zb4 1 v102 v103) λv=>K v h) λv104 h=>B.gd h v99 false (λK=>B.ld h v104 λv=>K v h) λv105 h=>B.gd h v99 false (λK=>B.pv (V.zbg v105) λv=>K v h) λv106 h=>B.gd h v99 false (λK=>B.pv (V.bin .lss v101 v106) λv=>K v h) λv107 h=>B.gd h v99 false (λK=>K v107 h) λv108 h=>B.gd h v108 true (λK=>K v0 h) λv109 h=>B.gd h v108 true (λK=>K v9 h) λv110 h=>B.gd h v108 true (λK=>B.pv (V.zb4 1 v109 v110) λv=>K v h) λv111 h=>B.gd h v108 true (λK=>B.ld h v111 λv=>K v h) λv112 h=>B.gd h v108 true (λK=>K v10 h) λv113 h=>B.gd h v108 true (λK=>B.pv (V.zb4 E.es v112 v113) λv=>K v h) λv114 h=>B.gd h v108 true (λK=>E.ld h v114 λv=>K v h) λv115 h=>B.gd h v108 true (λK=>K v9 h) λv116 h=>B.gd h v108 true (λK=>K v10 h) λv117 h=>B.gd h v108 true (λK=>B.call C E.f [v116,v117] h (B.zoy h [(v111,none),(v114,E.kp)] K)) λv118 h=>B.gd h v108 true (λK=>E.eq h v115 v118 K) λv119 h=>B.gd h v108 true (λK=>B.pv (V.un .not v119) λv=>K v h) λv120 h=>B.gd h v99 false (λK=>B.pick v108 v120 (.bool false) λv=>K v h) λv121 h=>B.pick v99 (.bool true) v121 λv122=>B.cond v122 (Q (.bool false) h) (B.pv (V.bin .add v10 (.int .i64 1)) λv87=>Y6 [v87] h)))) (B.pv (V.bin .add v9 (.int .i64 1)) λv78=>Y5 [v78] h)
@[simp] def zw.l49(C:zh)(Q:zQ)(Y5:zL)(v0 v5 v9:za):zG|[v10],h,Y6=>zw.k47 E C Q Y5 Y6 v0 v5 v9 v10 h|_,_,_=>False
@[simp] def zw.k56(C:zh)(Q:zQ)(Y5:zL)(v0 v5 v9:za)(h:zb):Prop:=B.pv (V.zbg v0) λv75=>B.pv (V.bin .lss v9 v75) λv76=>B.cond v76 (zd (zw.l49 E C Q Y5 v0 v5 v9) [(.int .i64 0)] h) (zd (zw.l40 E C Q v0 v5) [(.int .i64 0)] h)
@[simp] def zw.l59(C:zh)(Q:zQ)(v0 v5:za):zG|[v9],h,Y5=>zw.k56 E C Q Y5 v0 v5 v9 h|_,_,_=>False
@[simp] def zw.k67(C:zh)(Q:zQ)(Y7 Y8:zL)(v0 v5 v6 v7 v8:za)(h:zb):Prop:=B.pv (V.bin .lss v8 (.int .i64 64)) λv54=>B.cond v54 (B.pv (V.zb4 1 v0 v6) λv61=>B.ld h v61 λv62=>B.pv (V.zbg v62) λv63=>B.pv (V.bin .add v63 v8) λv65=>B.call C E.f [v6,v65] h λv66 h=>B.zhb h (zer [(0,E.kp,v66)] (zgc 1 E.z)) λi67 h=>B.ziw h E.es E.bytes v7 (.sl i67 0 0 1 E.es 1) λv68 h=>B.pv (V.bin .add v8 (.int .i64 1)) λv56=>Y8 [v68,v56] h) (B.pv (V.zb4 1 v5 v6) λv72=>B.st h v72 v7 λh=>B.pv (V.bin .add v6 (.int .i64 1)) λv48=>Y7 [v48] h)
@[simp] def zw.l69(C:zh)(Q:zQ)(Y7:zL)(v0 v5 v6:za):zG|[v7,v8],h,Y8=>zw.k67 E C Q Y7 Y8 v0 v5 v6 v7 v8 h|_,_,_=>False
@[simp] def zw.k79(C:zh)(Q:zQ)(Y7:zL)(v0 v5 v6:za)(h:zb):Prop:=B.pv (V.zbg v0) λv45=>B.pv (V.bin .lss v6 v45) λv46=>B.cond v46 (B.pv (V.zb4 1 v0 v6) λv51=>B.ld h v51 λv52=>zd (zw.l69 E C Q Y7 v0 v5 v6) [v52,(.int .i64 0)] h) (zd (zw.l59 E C Q v0 v5) [(.int .i64 0)] h)
@[simp] def zw.l82(C:zh)(Q:zQ)(v0 v5:za):zG|[v6],h,Y7=>zw.k79 E C Q Y7 v0 v5 v6 h|_,_,_=>False
@[simp] def zw.k91(C:zh)(Q:zQ)(Y9 Y10:zL)(v0 v3 v4:za)(h:zb):Prop:=B.pv (V.zb4 1 v0 v3) λv25=>B.ld h v25 λv26=>B.pv (V.zbg v26) λv27=>B.pv (V.bin .lss v4 v27) λv28=>B.cond v28 (B.pv (V.zb4 1 v0 v3) λv33=>B.ld h v33 λv34=>B.call C E.f [v3,v4] h (B.zoy h [(v33,none)] (λv38 h=>B.pv (V.zb4 E.es v34 v4) λv39=>E.st h v39 v38 λh=>B.pv (V.bin .add v4 (.int .i64 1)) λv30=>Y10 [v30] h))) (B.pv (V.bin .add v3 (.int .i64 1)) λv21=>Y9 [v21] h)
@[simp] def zw.l93(C:zh)(Q:zQ)(Y9:zL)(v0 v3:za):zG|[v4],h,Y10=>zw.k91 E C Q Y9 Y10 v0 v3 v4 h|_,_,_=>False
@[simp] def zw.k100(C:zh)(Q:zQ)(Y9:zL)(v0 v3:za)(h:zb):Prop:=B.pv (V.zbg v0) λv18=>B.pv (V.bin .lss v3 v18) λv19=>B.cond v19 (zd (zw.l93 E C Q Y9 v0 v3) [(.int .i64 0)] h) (B.pv (V.zbg v0) λv41=>0<1 /\ B.mks h 24 (some [.zbp]) v41 v41 λv42 h=>zd (zw.l82 E C Q v0 v42) [(.int .i64 0)] h)
@[simp] def zw.zou(C:zh)(Q:zQ)(v0:za):zG|[v3],h,Y9=>zw.k100 E C Q Y9 v0 v3 h|_,_,_=>False
def zw(C:zh)(v0:za)(h:zb)(Q:zQ):Prop:=zd (zw.zou E C Q v0) [(.int .i64 0)] h
def zth(es bytes:Nat)(z:List za)(f:Nat)(sh:List Ck):z6 where
 es:=es;bytes:=bytes;z:=z;f:=f;kp:=some es
 ld:=λh p K=>B.ldn h p es K
 st:=λh p v K=>B.stn h p es v K
 eq:=λh a b K=>B.pv (V.zpx .eql sh a b) λv=>K v h
def zc3(bytes:Nat)(z:za)(f:Nat):z6 where
 es:=1;bytes:=bytes;z:=[z];f:=f;kp:=none
 ld:=λh p K=>B.ld h p K
 st:=λh p v K=>B.st h p v K
 eq:=λh a b K=>B.pv (V.bin .eql a b) λv=>K v h
def opsD(C:zh)(es bytes:Nat)(z:List za)(f g:Nat):z6 where
 es:=es;bytes:=bytes;z:=z;f:=f;kp:=some es
 ld:=λh p K=>B.ldn h p es K
 st:=λh p v K=>B.stn h p es v K
 eq:=λh a b K=>B.call C g [a,b] h K
end
variable{C:zh}{N:zN}
def aoff:za->Nat | .sl _ _ off _ _ _=>off|_=>0
theorem zyx(g hi e:Nat):∀(zlx:List (Nat×Nat)),zlx.lookup g=some hi->(zve zlx e).lookup g=some (min hi e)
 | [],h=>by cases h
 | (g',k)::r,h=>by
  unfold zve
  rw[List.map_cons]
  by_cases e1:(g==g')=true
  ·simp only[List.lookup,e1]at h ⊢
   rw[Option.some.inj h]
  ·simp only[Bool.not_eq_true]at e1
   simp only[List.lookup,e1]at h ⊢
   exact zyx g hi e r h
theorem SlX.oldApp{h:zb}{es:Nat}{x:za}{L R:List (List za)}(hs:SlX h es x L R){id:Nat}{b:Blk}(hf:zhs x=some id)(hb:h id=some b){e:Nat}(he:aoff x+L.length*es <= e)(hb2:e <= b.cells.length)(news:List za):
  SlX (Ab.upd h id (zil b e news)) es x L []:=by
 have h0:=hs.cut;refine⟨h0.len,?_⟩;rcases h0.at_ with e1|⟨id',g,off,cp,b',hi,h1,h1',h2,h3,h4,hh,h5⟩
 ·exact .inl e1
 ·subst h1
  cases hf;rw[hb]at h2;cases h2;simp only[aoff]at he;simp only[List.length_nil,Nat.add_zero]at h4 h5 h1';have hcells:((b.cells.take e++news).drop off).take (L.length*es)=(L++[]).flatten:=by
   rw[<-h5];apply List.ext_getElem?;intro k;by_cases hk:k<L.length*es
   ·rw[List.getElem?_take_of_lt hk,List.getElem?_take_of_lt hk,List.getElem?_drop,List.getElem?_drop,List.getElem?_append_left (by simp;omega),List.getElem?_take_of_lt (by omega)]
   ·rw[List.getElem?_take_eq_none (by omega),List.getElem?_take_eq_none (by omega)]
  by_cases hg:g=b.next
  ·refine .inr ⟨_,g,off,cp,_,e+news.length,rfl,by simpa using h1',zcg ..,by simp[zil,hg,List.lookup],by simp;omega,by simp[zil];omega,?_⟩
   simpa[zil]using hcells
  ·refine .inr ⟨_,g,off,cp,_,min hi e,rfl,by simpa using h1',zcg ..,?_,by simp;omega,by simp[zil];omega,?_⟩
   ·simp only[zil,List.lookup]
    rw[show (g==b.next)=false by simpa using hg];exact zyx g hi e b.zlx h3
   ·simpa[zil]using hcells
structure Old(h:zb)(es:Nat)(x:za)(L:List (List za))(y:za)(M:List (List za)):Prop where
 at_:SlX h es x L []
 ft:zhs x=none \/ (zhs x=zhs y /\ aoff x=aoff y)
 len:L.length <= M.length
theorem Old.refl{h:zb}{es:Nat}{x:za}{L R:List (List za)}(hs:SlX h es x L R):Old h es x L x L:=⟨hs.cut,.inr ⟨rfl,rfl⟩,Nat.le_refl _⟩
theorem Old.other{h h':zb}{es:Nat}{x y z:za}{L M:List (List za)}(ho:Old h es x L y M)(hb:But z h h')(hne:∀id,zhs y=some id->zhs z≠some id):Old h' es x L y M:=
 ⟨hb.sl ho.at_ λid hf=>hne id (by rcases ho.ft with e|⟨e,_⟩<;>rw[e]at hf;cases hf;exact hf),ho.ft,ho.len⟩
theorem Old.mono{h h':zb}{es:Nat}{x y:za}{L M:List (List za)}(ho:Old h es x L y M)(hle:h.le h'):Old h' es x L y M:=⟨ho.at_.mono hle,ho.ft,ho.len⟩
section
variable{h H h0:zb}{es:Nat}{x:za}{L R:List (List za)}
theorem SlX.app2{bytes:Nat}{M:List (List za)}{K:zQ}(ho:SlX h es x L R)(hown:∀id b,zhs x=some id->h id=some b->b.own=true)(hes:0<es)(hM:∀p∈M,p.length=es)(hb:(L.length+M.length)*bytes <= 140737488355328)(hm:L.length+M.length <= maxLen)
  (hk:∀x' h',SlIs h' es x' (L++M)->(∀id b,zhs x'=some id->h' id=some b->b.own=true)->But x h h'->(zhs x'=zhs x \/ ∀id,zhs x'=some id->h id=none)->(∀u U,Old h es u U x L->Old h' es u U x' (L++M))->K x' h'):A.app h es bytes x (some M.flatten) K:=by
 have hl:=zoa hM;have hd:M.flatten.length / es=M.length:=by rw[hl,Nat.mul_div_cancel _ hes]
 have hall:∀p∈(L++M)++[],p.length=es:=λp hp=>by
  rw[List.append_nil]at hp;rcases List.mem_append.1 hp with hp|hp
  ·exact ho.len p (List.mem_append_left _ hp)
  ·exact hM p hp
 have fresh:L=[]->zhs x=none->(M≠[]->(M.flatten.length / es)*bytes <= 140737488355328 /\ M.flatten.length / es <= maxLen /\ A.new h M.flatten λid h=>K (.sl id 0 0 (M.flatten.length / es) es (M.flatten.length / es)) h):=λe hfx hne=>by
  subst e;rw[hd];simp only[List.length_nil,Nat.zero_add]at hb hm;refine⟨hb,hm,λid hid=>?_⟩;refine hk _ _ ⟨hall,.inr ⟨id,0,0,_,zgh M.flatten,M.flatten.length,by simp only[List.nil_append];exact rfl,by simp,zcg ..,zju ..,by simp[hl],Nat.le_refl _,?_⟩⟩ (λj b hj hb'=>?_) (But.of_le _ (zld _ hid)) (.inr λj hj=>?_) (λu U hu=>⟨hu.at_.mono (zld _ hid),.inl ?_,?_⟩)
  ·simp only[List.nil_append,List.append_nil,List.length_nil,Nat.add_zero,<-hl,zgh,List.drop_zero,List.take_length]
  ·cases hj
   rw[zcg]at hb';cases hb';rfl
  ·cases hj;exact hid
  ·rcases hu.ft with e|⟨e,_⟩
   ·exact e
   ·rw[e,hfx]
  ·have:=hu.len;simp at this;simp[this]
 have hnil:M=[] \/ M.flatten.length≠0:=by
  cases M with
  | nil=>exact .inl rfl
  | cons a r=>
   refine .inr ?_;rw[hl,List.length_cons,Nat.add_mul];omega
 have h0:=ho.cut;rcases h0.at_ with⟨e,_,e'|e'⟩|⟨id,g,off,cp,b,hi,h1,h1',h2,h3,h4,hh,h5⟩
 ·subst e'
  simp only[A.app];split
  ·rename_i hz
   rcases hnil with hn|hn
   ·subst hn;exact hk _ _ (by simpa using h0) (λ_ _ hj=>by cases hj) (But.of_le _ (zb.le_refl h)) (.inl rfl) (λu U hu=>by simpa using hu)
   ·exact absurd hz hn
  ·rename_i hz
   exact fresh e rfl λhn=>hz (by rw[hn];rfl)
 ·subst e'
  simp only[A.app];split
  ·rename_i hz
   rcases hnil with hn|hn
   ·subst hn;exact hk _ _ (by simpa using h0) (λ_ _ hj=>by cases hj) (But.of_le _ (zb.le_refl h)) (.inl rfl) (λu U hu=>by simpa using hu)
   ·exact absurd hz hn
  ·rename_i hz
   exact fresh e rfl λhn=>hz (by rw[hn];rfl)
 ·have hown':=hown id b (by rw[h1];rfl) h2
  subst h1;simp only[List.length_nil,Nat.add_zero,List.append_nil]at h4 h5;simp only[A.app,h2,h3,hd,hown',cond_true];have hcl:off+L.length*es <= b.cells.length:=by omega
  have htl:(b.cells.take (off+L.length*es)).length=off+L.length*es:=by simp;omega
  refine⟨trivial,trivial,h4,hb,hm,hk _ _ ⟨hall,.inr ⟨id,b.next,off,_,_,off+L.length*es+M.flatten.length,by rw[List.length_append],by simp,zcg ..,zju ..,?_,?_,?_⟩⟩ (λj b1 hj hb1=>?_) (λj b1 e1 e2=>?_) (.inl rfl) (λu U hu=>⟨?_,?_,?_⟩)⟩
  ·rw[List.length_append,List.length_nil,Nat.add_zero,Nat.add_mul,hl];omega
  ·simp only[zil,List.length_append,htl];omega
  ·simp only[zil,List.append_nil,List.length_nil,Nat.add_zero]
   rw[List.drop_append_of_le_length (by omega),List.length_append,Nat.add_mul,<-hl,List.flatten_append,<-h5];have e1:(b.cells.take (off+L.length*es)).drop off=(b.cells.drop off).take (L.length*es):=by
    rw[List.drop_take];congr 1;omega
   have e2:((b.cells.drop off).take (L.length*es)).length=L.length*es:=by simp;omega
   rw[e1,List.take_of_length_le];rw[List.length_append,e2];omega
  ·cases hj
   rw[zcg]at hb1;cases hb1;exact hown'
  ·rw[zba]
   ·exact e1
   ·intro e;subst e;exact e2 rfl
  ·by_cases hf:zhs u=some id
   ·refine hu.at_.oldApp hf h2 ?_ hcl _
    have e1:=hu.len;have e2:aoff u=off:=by
     rcases hu.ft with e|⟨_,e⟩
     ·rw[e]at hf;cases hf
     ·exact e
    rw[e2];have:=Nat.mul_le_mul_right es e1;omega
   ·exact hu.at_.upd hf
  ·rcases hu.ft with e|⟨e,e'⟩
   ·exact .inl e
   ·exact .inr ⟨e,e'⟩
  ·have:=hu.len;rw[List.length_append];omega
theorem SlX.appW2{bytes:Nat}{y:za}{M R':List (List za)}{K:zQ}(ho:SlX h es x L R)(hown:∀id b,zhs x=some id->h id=some b->b.own=true)(hs:SlX h es y M R')(hes:0<es)(hb:(L.length+M.length)*bytes <= 140737488355328)(hm:L.length+M.length <= maxLen)
  (hk:∀x' h',SlIs h' es x' (L++M)->(∀id b,zhs x'=some id->h' id=some b->b.own=true)->But x h h'->(zhs x'=zhs x \/ ∀id,zhs x'=some id->h id=none)->(∀u U,Old h es u U x L->Old h' es u U x' (L++M))->K x' h'):A.ziw h es bytes x y K:=by
 unfold A.ziw;rw[hs.zjo];simp only;rw[hs.rdv];exact ho.app2 hown hes (λp hp=>hs.len p (List.mem_append_left _ hp)) hb hm hk
end
section
variable{h0 h h':zb}{l:List Ob}
theorem zcx.ne(ho:zcx h0 h l){i j:Nat}{a b:Ob}(hi:l[i]?=some a)(hj:l[j]?=some b)(hij:i≠j):∀id,a.zhs=some id->b.zhs≠some id:=λid ha hb=>by
 rcases Nat.lt_or_gt_of_ne hij with hlt|hgt
 ·have:=List.pairwise_iff_getElem.1 ho.apart i j (List.getElem?_eq_some_iff.1 hi).1 (List.getElem?_eq_some_iff.1 hj).1 hlt
  rw[(List.getElem?_eq_some_iff.1 hi).2,(List.getElem?_eq_some_iff.1 hj).2]at this
  exact this id ha hb
 ·have:=List.pairwise_iff_getElem.1 ho.apart j i (List.getElem?_eq_some_iff.1 hj).1 (List.getElem?_eq_some_iff.1 hi).1 hgt
  rw[(List.getElem?_eq_some_iff.1 hj).2,(List.getElem?_eq_some_iff.1 hi).2]at this
  exact this id hb ha
end
def Kp(h:zb)(p:za)(o:Option Nat):Prop:=match o with|none=>∃x,A.ldv h p=some x|some n=>∃x,A.zoj h p n=some x
theorem zy0{h:zb}{ls:List (za×Option Nat)}{K:zQ}{v:za}(hl:∀p∈ls,Kp h p.1 p.2)(hk:K v h):B.zoy h ls K v h:=by
 refine⟨λp hp=>?_,hk⟩;have:=hl p hp;obtain⟨p,o⟩:=p;cases o with
 | none=>obtain⟨x,e⟩:=this;exact⟨x,e,e⟩
 | some n=>obtain⟨x,e⟩:=this;exact⟨x,e,e⟩
theorem keepS1{h:zb}{p:za}{o:Option Nat}{K:zQ}{v:za}(h1:Kp h p o)(hk:K v h):B.zoy h [(p,o)] K v h:=
 zy0 (λq hq=>by rw[List.mem_singleton.1 hq];exact h1) hk
theorem keepS2{h:zb}{p q:za}{o u:Option Nat}{K:zQ}{v:za}(h1:Kp h p o)(h2:Kp h q u)(hk:K v h):B.zoy h [(p,o),(q,u)] K v h:=
 zy0 (λr hr=>by rcases List.mem_cons.1 hr with e|hr;rw[e];exact h1;rw[List.mem_singleton.1 hr];exact h2) hk
def upf{α:Type}(f:Nat->α)(k:Nat)(v:α):Nat->α:=λj=>if j=k then v else f j
def zh6(es n:Nat)(xs:Nat->za)(D R:Nat->List (List za)):List Ob:=(List.range n).map λj=>Ob.sl es (xs j) (D j) (R j)
section
variable{es n k:Nat}{xs:Nat->za}{D R:Nat->List (List za)}
@[simp] theorem zh6.length:(zh6 es n xs D R).length=n:=by simp[zh6]
theorem zh6.get(hk:k<n):(zh6 es n xs D R)[k]?=some (.sl es (xs k) (D k) (R k)):=by simp[zh6,hk]
theorem zh6.set{x:za}{L M:List (List za)}:(zh6 es n xs D R).set k (.sl es x L M)=zh6 es n (upf xs k x) (upf D k L) (upf R k M):=by
 apply List.ext_getElem?;intro j;by_cases hj:j<n
 ·rw[zh6.get hj]
  by_cases e:k=j
  ·subst e;rw[List.getElem?_set_self (by simpa using hj)];simp[upf]
  ·rw[List.getElem?_set_ne e,zh6.get hj];simp[upf,Ne.symm e]
 ·rw[List.getElem?_eq_none (by simp;omega),List.getElem?_eq_none (by simp;omega)]
theorem zh6.congr{ys:Nat->za}{E S:Nat->List (List za)}(h:∀j,j<n->xs j=ys j /\ D j=E j /\ R j=S j):zh6 es n xs D R=zh6 es n ys E S:=
 List.map_congr_left λj hj=>by obtain⟨a,b,c⟩:=h j (by simpa using hj);rw[a,b,c]
theorem zh6.zy2{l:List Ob}(hk:k<n):(zh6 es n xs D R++l)[k]?=some (.sl es (xs k) (D k) (R k)):=by
 rw[List.getElem?_append_left (by simpa using hk)];exact zh6.get hk
theorem zh6.setA{l:List Ob}(hk:k<n){x:za}{L M:List (List za)}:(zh6 es n xs D R++l).set k (.sl es x L M)=zh6 es n (upf xs k x) (upf D k L) (upf R k M)++l:=by
 rw[List.set_append_left _ _ (by simpa using hk),zh6.set]
theorem zh6.getL{o:Ob}:(zh6 es n xs D R++[o])[n]?=some o:=by
 rw[List.getElem?_append_right (by simp)];simp
theorem zh6.setL{o o':Ob}:(zh6 es n xs D R++[o]).set n o'=zh6 es n xs D R++[o']:=by
 rw[List.set_append_right _ _ (by simp)];simp
end
theorem zcx.cutR{h0 h:zb}{es n:Nat}{xs:Nat->za}{D R:Nat->List (List za)}{l:List Ob}(ho:zcx h0 h (zh6 es n xs D R++l)):zcx h0 h (zh6 es n xs D (λ_=>[])++l):=by
 have mem:∀o∈zh6 es n xs D (λ_=>[]),∃o'∈zh6 es n xs D R,o'.zhs=o.zhs /\ (o'.at h->o.at h):=λo hm=>by
  obtain⟨j,hj,rfl⟩:=List.mem_map.1 hm;exact⟨_,List.mem_map.2 ⟨j,hj,rfl⟩,rfl,λh=>SlX.cut h⟩
 refine⟨ho.le,λo hm=>?_,λo hm=>?_,?_⟩
 ·rcases List.mem_append.1 hm with hm|hm
  ·obtain⟨o',h1,_,h3⟩:=mem o hm
   exact h3 (ho.is _ (List.mem_append_left _ h1))
  ·exact ho.is _ (List.mem_append_right _ hm)
 ·rcases List.mem_append.1 hm with hm|hm
  ·obtain⟨o',h1,h2,_⟩:=mem o hm
   rw[<-h2];exact ho.own _ (List.mem_append_left _ h1)
  ·exact ho.own _ (List.mem_append_right _ hm)
 ·obtain⟨a,b,c⟩:=List.pairwise_append.1 ho.apart
  refine List.pairwise_append.2 ⟨?_,b,λx hx y hy=>?_⟩
  ·unfold zh6 at a ⊢
   rw[List.pairwise_map]at a ⊢;exact a.imp λh=>h
  ·obtain⟨o',h1,h2,_⟩:=mem x hx
   rw[<-h2];exact c o' h1 y hy
variable{C:zh}{N:zN}
structure zuh(C:zh)(E:z6)(m:Int->Int->List za)(v:Int->Int->za):Prop where
 pos:0<E.es
 small:E.bytes <= 1000
 len:∀k i,(m k i).length=E.es
 zlen:E.z.length=E.es
 new:∀k i,zer [(0,E.kp,v k i)] (zgc 1 E.z)=some (m k i)
 call:∀(k i:Int)(h:zb)(Q:zQ),Q (v k i) h->C E.f [.int .i64 k,.int .i64 i] h Q
 ld:∀{h:zb}{x:za}{L R:List (List za)}{i:Nat}{k j:Int}{K:za->Prop},SlX h E.es x L R->L[i]?=some (m k j)->K (v k j)->E.ld h (elp E.es x i 0) K
 kpt:∀{h:zb}{x:za}{L R:List (List za)}{i:Nat}{k j:Int},SlX h E.es x L R->L[i]?=some (m k j)->Kp h (elp E.es x i 0) E.kp
 st:∀{h:zb}{x:za}{L R:List (List za)}{i:Nat}{c:List za}{k j:Int}{K:zb->Prop},SlX h E.es x L R->(∀id b,zhs x=some id->h id=some b->b.own=true)->L[i]?=some c ->
  (∀h',SlX h' E.es x (L.set i (m k j)) R->(∀id b,zhs x=some id->h' id=some b->b.own=true)->But x h h'->K h')->E.st h (elp E.es x i 0) (v k j) K
 eq:∀{h:zb}{k i:Int}{K:zQ},K (.bool true) h->E.eq h (v k i) (v k i) K
def zuj(m:Int->Int->List za)(k n:Nat):List (List za):=(List.range n).map fun(i:Nat)=>m (k:Int) (i:Int)
section
variable{m:Int->Int->List za}{k n i:Nat}
@[simp] theorem zn3:(zuj m k n).length=n:=by simp[zuj]
theorem zn4(hi:i<n):(zuj m k n)[i]?=some (m (k:Int) (i:Int)):=by simp[zuj,hi]
theorem mkTo_succ:zuj m k (n+1)=zuj m k n++[m (k:Int) (n:Int)]:=by simp[zuj,List.range_succ]
@[simp] theorem mkTo_zero:zuj m k 0=[]:=rfl
theorem mkTo_over{D:List (List za)}(hi:i<D.length):(zuj m k i++D.drop i).set i (m (k:Int) (i:Int))=zuj m k (i+1)++D.drop (i+1):=by
 rw[List.set_append_right _ _ (by simp),zn3,Nat.sub_self,mkTo_succ,List.drop_eq_getElem_cons hi,List.set_cons_zero,List.append_assoc];rfl
theorem mkTo_at{D:List (List za)}(hi:i<D.length):(zuj m k i++D.drop i)[i]?=some D[i]:=by
 rw[List.getElem?_append_right (by simp),zn3,Nat.sub_self,List.getElem?_drop];simp[hi]
end
theorem zga{α:Type}(f:Nat->α)(k:Nat)(v:α):upf f k v k=v:=by simp[upf]
theorem zi4{α:Type}(f:Nat->α){k j:Nat}(v:α)(h:j≠k):upf f k v j=f j:=by simp[upf,h]
theorem zmb{α:Type}(f:Nat->α)(k:Nat):upf f k (f k)=f:=by funext j;unfold upf;split<;>simp_all
theorem ztk{α:Type}(k:Nat)(v:α):upf (λ_=>v) k v=λ_=>v:=by funext j;unfold upf;split<;>rfl
theorem zss{α:Type}(f:Nat->α)(k:Nat)(v w:α):upf (upf f k v) k w=upf f k w:=by funext j;unfold upf;split<;>rfl
section
variable{h:zb}{x:za}{n k:Nat}{xs:Nat->za}{W:List (List za)}(hx:SlX h 1 x (zhr n λj=>[xs j]) W)
include hx
theorem znm:V.zbg x=some (.int .i64 n):=by rw[hx.zbg,fills_len]
theorem zie(hk:k<n):V.zb4 1 x (.int .i64 (k:Int))=some (elp 1 x k 0):=hx.zjk (by simpa using hk)
theorem zmd(hk:k<n):A.ldv h (elp 1 x k 0)=some (xs k):=by rw[hx.ldv (zo1 _ hk) (by omega)];rfl
theorem ls_kp(hk:k<n):Kp h (elp 1 x k 0) none:=⟨_,zmd hx hk⟩
end
structure FS(E:z6)(m:Int->Int->List za)(h0 h:zb)(v5:za)(n:Nat)(xs:Nat->za)(len:Nat->Nat)(ys:Nat->za)(F:Nat->List (List za))(gs:Nat->za):Prop where
 own:zcx h0 h (zh6 E.es n ys F (λ_=>[])++[.sl 1 v5 (zhr n λj=>[gs j]) []])
 old:∀j,j<n->Old h E.es (xs j) (zuj m j (len j)) (ys j) (F j)
section
variable{E:z6}{m:Int->Int->List za}{v:Int->Int->za}{h0 h h':zb}{x v5:za}{n k:Nat}{xs ys gs:Nat->za}{len:Nat->Nat}{F:Nat->List (List za)}{W:List (List za)}{Q:zQ}
theorem FS.grow(fs:FS E m h0 h v5 n xs len ys F gs)(hle:h.le h'):FS E m h0 h' v5 n xs len ys F gs:=⟨fs.own.grow hle,λj hj=>(fs.old j hj).mono hle⟩
theorem FS.gAt(fs:FS E m h0 h v5 n xs len ys F gs):SlX h 1 v5 (zhr n λj=>[gs j]) []:=fs.own.zg1 n zh6.getL
theorem FS.yAt(fs:FS E m h0 h v5 n xs len ys F gs)(hk:k<n):SlX h E.es (ys k) (F k) []:=fs.own.zg1 k (zh6.zy2 hk)
theorem FS.zpz(fs:FS E m h0 h v5 n xs len ys F gs)(hk:k<n){y:za}{L:List (List za)}(h1:SlX h' E.es y L [])(h2:∀id b,zhs y=some id->h' id=some b->b.own=true)
  (h3:∀j b,h j=some b->zhs (ys k)≠some j->h' j=some b) (h4:zhs y=zhs (ys k) \/ ∀id,zhs y=some id->h id=none) (h5:Old h' E.es (xs k) (zuj m k (len k)) y L):FS E m h0 h' v5 n xs len (upf ys k y) (upf F k L) gs:=by
 refine⟨?_,λj hj=>?_⟩
 ·have:=fs.own.zpz k (zh6.zy2 hk) (o':= .sl E.es y L []) h1 h2 h3 h4
  rwa [zh6.setA hk,ztk]at this
 ·by_cases e:j=k
  ·subst e;rw[zga,zga];exact h5
  ·rw[zi4 _ _ e,zi4 _ _ e]
   exact(fs.old j hj).other (z:=ys k) h3 (fs.own.ne (zh6.zy2 hj) (zh6.zy2 hk) e)
theorem FS.store(fs:FS E m h0 h v5 n xs len ys F gs)(hk:k<n){y:za}(hy:y.zbl=true){K:zb->Prop}(hK:∀h',FS E m h0 h' v5 n xs len ys F (upf gs k y)->K h'):A.st h (elp 1 v5 k 0) y K:=by
 refine fs.own.st n zh6.getL (zo1 _ hk) (by omega) hy λh' ho hb=>hK h' ⟨?_,λj hj=>?_⟩
 ·rw[zh6.setL]at ho
  have e:(zhr n λj=>[gs j]).set k ([gs k].set 0 y)=zhr n λj=>[upf gs k y j]:=by
   rw[fills_set];refine zxw λj hj=>?_;unfold upf;split<;>rfl
  rwa [e]at ho
 ·exact(fs.old j hj).other hb (fs.own.ne (zh6.zy2 hj) zh6.getL (by omega))
theorem FS.push(S:zuh C E m v)(fs:FS E m h0 h v5 n xs len ys F gs)(hk:k<n){cs:List za}(hcs:cs.length=E.es)(hl:(F k).length <= 100000100){K:zQ}
  (hK:∀y h',FS E m h0 h' v5 n xs len (upf ys k y) (upf F k (F k++[cs])) gs->K y h'):A.zhb h (some cs) λi h=>A.ziw h E.es E.bytes (ys k) (.sl i 0 0 1 E.es 1) K:=λi hi=>by
 have fg:=fs.grow (zld (zgh cs) hi)
 have hmul:=Nat.mul_le_mul (show (F k).length+1 <= 100000101 by omega) S.small
 refine(fg.yAt hk).appW2 (fg.own.zp7 k (zh6.zy2 hk)) (M:=[cs]) (R':=[]) (SlX.lit (zcg ..) (by simpa using hcs) rfl (by simp) (by simp)) S.pos (by simp only[List.length_singleton];omega) (by simp[maxLen];omega) λy h' h1 h2 h3 h4 h5=>?_
 exact hK y h' (fg.zpz hk h1 h2 h3 h4 (h5 _ _ (fg.old k hk)))
theorem flat5(S:zuh C E m v)(hx:SlX h0 1 x (zhr n λj=>[xs j]) W)(fs:FS E m h0 h v5 n xs len ys F gs)(hn:n <= 100000000)(hl:∀j,j<n->len j <= 100000000)
  (hgs:∀j,j<n->gs j=ys j) (hF:∀j i,j<n->i<len j->(F j)[i]?=some (m j i)) (hq:∀h',h0.le h'->Q (.bool true) h'):zd (zw.l15 E C Q x v5) [.int .i64 0] h:=by
 have hx':=hx.mono fs.own.le;refine zd.intro (λt vs hh=>∃k:Nat,k+t=n /\ vs=[.int .i64 k] /\ hh=h) n ?_ ⟨0,by simp,by simp,rfl⟩;rintro Y t vs hh ⟨k,ht,rfl,rfl⟩ hY;simp -dsimp[znm hx'];refine B.zl (λhb=>?_) (λhb=>?_)<;>simp -dsimp at hb ⊢
 ·refine zd.intro (λt vs h2=>∃i:Nat,i+t=len k /\ vs=[.int .i64 i] /\ h2=hh) (len k) ?_ ⟨0,by simp,by simp,rfl⟩
  rintro Z t' vs h3 ⟨i,hi,rfl,rfl⟩ hZ;have hold:=(fs.old k hb).at_;have hlk:=hl k hb;have hlx:=hold.zbg;rw[zn3]at hlx;simp -dsimp[zie hx' hb,zmd hx' hb,hlx];refine B.zl (λhc=>?_) (λhc=>?_)<;>simp -dsimp at hc ⊢
  ·have hyk:=fs.yAt hb
   have hFi:=hF k i hb hc;have e1:V.zb4 E.es (xs k) (.int .i64 (i:Int))=some (elp E.es (xs k) i 0):=hold.zjk (by simpa using hc);have e2:V.zb4 E.es (ys k) (.int .i64 (i:Int))=some (elp E.es (ys k) i 0):=hyk.zjk (List.getElem?_eq_some_iff.1 hFi).1;have e3:=zmd fs.gAt hb;rw[hgs k hb]at e3;simp -dsimp only[zie hx' hb,zmd hx' hb,e1,B.ze,B.zhd];refine S.ld hold (zn4 hc) ?_;refine S.call _ _ _ _ (keepS2 (ls_kp hx' hb) (S.kpt hold (zn4 hc)) ?_);refine S.eq ?_;simp -dsimp[zie fs.gAt hb,e3,e2];refine S.ld hyk hFi ?_;refine S.call _ _ _ _ (keepS2 (ls_kp fs.gAt hb) (S.kpt hyk hFi) ?_);simp -dsimp;refine S.eq ?_;simp -dsimp[zjf (n:=i) (by omega)];exact hZ (len k-(i+1)) _ _ (by omega) ⟨i+1,by omega,by simp,rfl⟩
  ·simp -dsimp[zjf (n:=k) (by omega)]
   exact hY (n-(k+1)) _ _ (by omega) ⟨k+1,by omega,by simp,rfl⟩
 ·exact hq _ fs.own.le
theorem flat4(S:zuh C E m v)(hx:SlX h0 1 x (zhr n λj=>[xs j]) W)(fs:FS E m h0 h v5 n xs len ys F gs)(hn:n <= 100000000)(hl:∀j,j<n->len j <= 100000000)
  (hgs:∀j,j<n->gs j=ys j) (hF:∀j i,j<n->i<len j->(F j)[i]?=some (m j i)) (hq:∀h',h0.le h'->Q (.bool true) h'):zd (zw.l40 E C Q x v5) [.int .i64 0] h:=by
 refine zd.intro (λt vs hh=>∃(k:Nat)(ys gs:Nat->za)(F:Nat->List (List za)),k+t=n /\ vs=[.int .i64 k] /\ FS E m h0 hh v5 n xs len ys F gs /\ (∀j,j<n->gs j=ys j) /\ ∀j i,j<n->i<len j->(F j)[i]?=some (m j i)) n ?_
  ⟨0,ys,gs,F,by simp,by simp,fs,hgs,hF⟩
 rintro Y t vs h ⟨k,ys,gs,F,ht,rfl,fs,hgs,hF⟩ hY;have hx':=hx.mono fs.own.le;simp -dsimp[znm hx'];refine B.zl (λhb=>?_) (λhb=>?_)<;>simp -dsimp at hb ⊢
 ·refine⟨S.pos,(zcx.start h).mks (es:=E.es) S.zlen (by omega) (by omega) (by have:=S.small;omega) (by omega) λy h1 ho1=>?_⟩
  simp only[List.nil_append]at ho1;refine zd.intro (λt vs hh=>∃i:Nat,i+t=64 /\ vs=[.int .i64 i] /\ ∃R,zcx h hh [.sl E.es y (zuj m (k+n:Nat) i++(zhr 64 λ_=>E.z).drop i) R]) 64 ?_ ⟨0,by simp,by simp,_,by simpa using ho1⟩;rintro Z t' vs hh ⟨i,hi,rfl,R,ho⟩ hZ;simp -dsimp;refine B.zl (λhc=>?_) (λhc=>?_)<;>simp -dsimp at hc ⊢
  ·have e1:IntKind.i64.wrap ((k:Int)+n)=((k+n:Nat):Int):=by rw[wrap_i64 (by omega) (by omega)];omega
   have hxx:=hx'.mono ho.le;have hi64:i<(zhr 64 λ_=>E.z).length:=by simp;omega
   have hlt:i<(zuj m (k+n:Nat) i++(zhr 64 λ_=>E.z).drop i).length:=by simp;omega
   simp -dsimp only[znm hxx,B.ze,V.zfe,e1];refine S.call _ _ _ _ ?_;simp -dsimp only[(ho.zg1 0 rfl).zjk hlt,B.ze];refine S.st (ho.zg1 0 rfl) (ho.zp7 0 rfl) (mkTo_at hi64) λh2 h3 h4 h5=>?_;rw[mkTo_over hi64]at h3;simp -dsimp[zjf (n:=i) (by omega)];exact hZ (64-(i+1)) _ _ (by omega) ⟨i+1,by omega,by simp,R,ho.zpz 0 rfl (o':= .sl E.es y _ R) h3 h4 h5 (.inl rfl)⟩
  ·have hi64:i=64:=by omega
   subst hi64;have hd:(zhr 64 λ_=>E.z).drop 64=[]:=List.drop_of_length_le (by simp);rw[hd,List.append_nil]at ho;have fh:=fs.grow ho.le;have hold:=fh.old k hb;have hxx:=hx'.mono ho.le;have hlk:=hl k hb;have hmul:=Nat.mul_le_mul (show len k+64 <= 100000064 by omega) S.small;simp -dsimp[zie hxx hb,zmd hxx hb];refine hold.at_.appW2 (λid b e1 e2=>?_) (ho.zg1 0 rfl) S.pos (by simp only[zn3];omega) (by simp[maxLen];omega) λy' h2 h3 h4 h5 h6 h7=>?_
   ·rcases hold.ft with e|⟨e,_⟩
    ·rw[e]at e1;cases e1
    ·rw[e]at e1;exact fh.own.zp7 k (zh6.zy2 hb) id b e1 e2
   ·have f2:FS E m h0 h2 v5 n xs len (upf ys k y') (upf F k (zuj m k (len k)++zuj m (k+n:Nat) 64)) gs:=fh.zpz hb h3 h4 (λj b e1 e2=>h5 j b e1 λe3=>by
      rcases hold.ft with e|⟨e,_⟩
      ·rw[e]at e3;cases e3
      ·rw[e]at e3;exact e2 e3) (by
      rcases h6 with e|e
      ·rcases hold.ft with e'|⟨e',_⟩
       ·exact .inr λid hid=>by rw[e,e']at hid;cases hid
       ·exact .inl (e.trans e')
      ·exact .inr e) (h7 _ _ (Old.refl hold.at_))
    simp -dsimp[zie f2.gAt hb];refine f2.store hb h3.zbl λh8 f3=>?_;simp -dsimp[zjf (n:=k) (by omega)];refine hY (n-(k+1)) _ _ (by omega) ⟨k+1,_,_,_,by omega,by simp,f3,λj hj=>?_,λj i hj hi=>?_⟩
    ·by_cases e:j=k
     ·subst e;rw[zga,zga]
     ·rw[zi4 _ _ e,zi4 _ _ e];exact hgs j hj
    ·by_cases e:j=k
     ·subst e
      rw[zga,List.getElem?_append_left (by simpa using hi)];exact zn4 hi
     ·rw[zi4 _ _ e];exact hF j i hj hi
 ·exact flat5 S hx fs hn hl hgs hF hq
theorem flat3(S:zuh C E m v)(hx:SlX h0 1 x (zhr n λj=>[xs j]) W)(fs:FS E m h0 h v5 n xs len ys F gs)(hn:n <= 100000000)(hl:∀j,j<n->len j <= 100000000)
  (hgs:∀j,j<n->gs j=ys j) (hF:∀j,j<n->F j=zuj m j (len j+64)) (hq:∀h',h0.le h'->Q (.bool true) h'):zd (zw.l59 E C Q x v5) [.int .i64 0] h:=by
 have hx':=hx.mono fs.own.le;refine zd.intro (λt vs hh=>∃k:Nat,k+t=n /\ vs=[.int .i64 k] /\ hh=h) n ?_ ⟨0,by simp,by simp,rfl⟩;rintro Y t vs hh ⟨k,ht,rfl,rfl⟩ hY;simp -dsimp[znm hx'];refine B.zl (λhb=>?_) (λhb=>?_)<;>simp -dsimp at hb ⊢
 ·refine zd.intro (λt vs h2=>∃i:Nat,i+t=len k+64 /\ vs=[.int .i64 i] /\ h2=hh) (len k+64) ?_ ⟨0,by simp,by simp,rfl⟩
  rintro Z t' vs h3 ⟨i,hi,rfl,rfl⟩ hZ;have hold:=(fs.old k hb).at_;have hlk:=hl k hb;have hlx:=hold.zbg;rw[zn3]at hlx;have hyk:=fs.yAt hb;rw[hF k hb]at hyk;have hly:=hyk.zbg;rw[zn3]at hly;have e3:=zmd fs.gAt hb;rw[hgs k hb]at e3;simp -dsimp[zie fs.gAt hb,e3,hly];refine B.zl (λhc=>?_) (λhc=>?_)
  ·have hc:i<len k+64:=by simp at hc;omega
   have e2:V.zb4 E.es (ys k) (.int .i64 (i:Int))=some (elp E.es (ys k) i 0):=hyk.zjk (by simpa using hc);simp -dsimp only[zie fs.gAt hb,e3,e2,B.ze,B.zhd];refine S.ld hyk (zn4 hc) ?_;refine S.call _ _ _ _ (keepS2 (ls_kp fs.gAt hb) (S.kpt hyk (zn4 hc)) ?_);refine S.eq ?_;by_cases hd:i<len k
   ·have e1:V.zb4 E.es (xs k) (.int .i64 (i:Int))=some (elp E.es (xs k) i 0):=hold.zjk (by simpa using hd)
    simp -dsimp[zie hx' hb,zmd hx' hb,hlx,hd,e1];refine S.ld hold (zn4 hd) ?_;refine S.call _ _ _ _ (keepS2 (ls_kp hx' hb) (S.kpt hold (zn4 hd)) ?_);simp -dsimp;refine S.eq ?_;simp -dsimp[zjf (n:=i) (by omega)];exact hZ (len k+64-(i+1)) _ _ (by omega) ⟨i+1,by omega,by simp,rfl⟩
   ·simp -dsimp[zie hx' hb,zmd hx' hb,hlx,hd]
    simp -dsimp[zjf (n:=i) (by omega)];exact hZ (len k+64-(i+1)) _ _ (by omega) ⟨i+1,by omega,by simp,rfl⟩
  ·simp -dsimp[zjf (n:=k) (by omega)]
   exact hY (n-(k+1)) _ _ (by omega) ⟨k+1,by omega,by simp,rfl⟩
 ·exact flat4 S hx fs hn hl hgs (λj i hj hi=>by rw[hF j hj];exact zn4 (by omega)) hq
theorem flat2(S:zuh C E m v)(hx:SlX h0 1 x (zhr n λj=>[xs j]) W)(fs:FS E m h0 h v5 n xs len xs (λj=>zuj m j (len j)) gs)(hn:n <= 100000000)(hl:∀j,j<n->len j <= 100000000)
  (hq:∀h',h0.le h'->Q (.bool true) h'):zd (zw.l82 E C Q x v5) [.int .i64 0] h:=by
 refine zd.intro (λt vs hh=>∃(k:Nat)(ys gs:Nat->za)(F:Nat->List (List za)),k+t=n /\ vs=[.int .i64 k] /\ FS E m h0 hh v5 n xs len ys F gs /\ (∀j,j<k->gs j=ys j /\ F j=zuj m j (len j+64)) /\ ∀j,k <= j->ys j=xs j /\ F j=zuj m j (len j)) n ?_
  ⟨0,_,gs,_,by simp,by simp,fs,by simp,λj _=>⟨rfl,rfl⟩⟩
 rintro Y t vs h ⟨k,ys,gs,F,ht,rfl,fs,hlo,hhi⟩ hY;have hx':=hx.mono fs.own.le;simp -dsimp[znm hx'];refine B.zl (λhb=>?_) (λhb=>?_)<;>simp -dsimp at hb ⊢
 ·have hk:=hhi k (Nat.le_refl k)
  have hlk:=hl k hb;simp -dsimp[zie hx' hb,zmd hx' hb];refine zd.intro (λt vs hh=>∃(i:Nat)(y:za),i+t=64 /\ vs=[y,.int .i64 i] /\ FS E m h0 hh v5 n xs len (upf ys k y) (upf F k (zuj m k (len k+i))) gs) 64 ?_ ⟨0,xs k,by simp,by simp,?_⟩
  ·rintro Z t' vs hh ⟨i,y,hi,rfl,f1⟩ hZ
   have hx1:=hx.mono f1.own.le;have hold:=(f1.old k hb).at_;have hlx:=hold.zbg;rw[zn3]at hlx;have ey:upf ys k y k=y:=zga ..;simp -dsimp;refine B.zl (λhc=>?_) (λhc=>?_)<;>simp -dsimp at hc ⊢
   ·have e1:IntKind.i64.wrap ((len k:Int)+i)=((len k+i:Nat):Int):=by rw[wrap_i64 (by omega) (by omega)];omega
    simp -dsimp only[zie hx1 hb,zmd hx1 hb,hlx,B.ze,B.zhd,V.zfe,e1];refine S.call _ _ _ _ ?_;rw[S.new];have:=f1.push S hb (cs:=m k (len k+i:Nat)) (S.len _ _) (by rw[zga,zn3];omega) (K:=λv68 h=>B.pv (V.bin .add (.int .i64 (i:Int)) (.int .i64 1)) λv56=>Z [v68,v56] h) λy' h2 f2=>?_
    ·rw[ey]at this;exact this
    ·simp -dsimp[zjf (n:=i) (by omega)]
     refine hZ (64-(i+1)) _ _ (by omega) ⟨i+1,y',by omega,by simp,?_⟩;rw[zss,zss,zga,<-mkTo_succ]at f2;exact f2
   ·have hi64:i=64:=by omega
    subst hi64;simp -dsimp[zie f1.gAt hb];have hyc:=(f1.yAt hb).zbl;rw[ey]at hyc;refine f1.store hb hyc λh2 f2=>?_;simp -dsimp[zjf (n:=k) (by omega)];refine hY (n-(k+1)) _ _ (by omega) ⟨k+1,_,_,_,by omega,by simp,f2,λj hj=>?_,λj hj=>?_⟩
    ·by_cases e:j=k
     ·subst e;rw[zga,zga,zga];exact⟨rfl,rfl⟩
     ·rw[zi4 _ _ e,zi4 _ _ e,zi4 _ _ e];exact hlo j (by omega)
    ·rw[zi4 _ _ (by omega),zi4 _ _ (by omega)];exact hhi j (by omega)
  ·have e1:upf ys k (xs k)=ys:=by rw[<-hk.1,zmb]
   have e2:upf F k (zuj m k (len k+0))=F:=by rw[Nat.add_zero,<-hk.2,zmb]
   rw[e1,e2];exact fs
 ·have:k=n:=by omega
  subst this;exact flat3 S hx fs hn hl (λj hj=>(hlo j hj).1) (λj hj=>(hlo j hj).2) hq
theorem zo0(S:zuh C E m v){D R:Nat->List (List za)}(hx:SlX h0 1 x (zhr n λj=>[xs j]) W)(ho:zcx h0 h (zh6 E.es n xs D R))(hn:n <= 100000000)(hl:∀j,j<n->(D j).length <= 100000000)
  (hq:∀h',h0.le h'->Q (.bool true) h'):zw E C x h Q:=by
 refine zd.intro (λt vs hh=>∃(k:Nat)(G:Nat->List (List za)),k+t=n /\ vs=[.int .i64 k] /\ zcx h0 hh (zh6 E.es n xs G R) /\ (∀j,j<k->G j=zuj m j (D j).length) /\ ∀j,k <= j->G j=D j) n ?_
  ⟨0,D,by simp,by simp,ho,by simp,λj _=>rfl⟩
 rintro Y t vs h ⟨k,G,ht,rfl,ho,hlo,hhi⟩ hY;have hx':=hx.mono ho.le;simp -dsimp[znm hx'];refine B.zl (λhb=>?_) (λhb=>?_)<;>simp -dsimp at hb ⊢
 ·have hlk:=hl k hb
  have hgk:=hhi k (Nat.le_refl k);refine zd.intro (λt vs hh=>∃i:Nat,i+t=(D k).length /\ vs=[.int .i64 i] /\ zcx h0 hh (zh6 E.es n xs (upf G k (zuj m k i++(D k).drop i)) R)) (D k).length ?_ ⟨0,by simp,by simp,?_⟩
  ·rintro Z t' vs hh ⟨i,hi,rfl,ho1⟩ hZ
   have hx1:=hx.mono ho1.le;have hxk:=ho1.zg1 k (zh6.get hb);rw[zga]at hxk;have hlx:=hxk.zbg;have hll:(zuj m k i++(D k).drop i).length=(D k).length:=by simp;omega
   rw[hll]at hlx;simp -dsimp[zie hx1 hb,zmd hx1 hb,hlx];refine B.zl (λhc=>?_) (λhc=>?_)<;>simp -dsimp at hc ⊢
   ·have hlt:i<(zuj m k i++(D k).drop i).length:=by omega
    simp -dsimp only[zie hx1 hb,zmd hx1 hb,B.ze,B.zhd];refine S.call _ _ _ _ (keepS1 (ls_kp hx1 hb) ?_);simp -dsimp only[hxk.zjk hlt,B.ze];refine S.st hxk (ho1.zp7 k (zh6.get hb)) (mkTo_at hc) λh2 h3 h4 h5=>?_;rw[mkTo_over hc]at h3;have h6:=ho1.zpz k (zh6.get hb) (o':= .sl E.es (xs k) _ (R k)) h3 h4 h5 (.inl rfl);rw[zh6.set,zmb,zmb,zss]at h6;simp -dsimp[zjf (n:=i) (by omega)];exact hZ ((D k).length-(i+1)) _ _ (by omega) ⟨i+1,by omega,by simp,h6⟩
   ·have hie:i=(D k).length:=by omega
    subst hie;rw[List.drop_length,List.append_nil]at ho1;simp -dsimp[zjf (n:=k) (by omega)];refine hY (n-(k+1)) _ _ (by omega) ⟨k+1,_,by omega,by simp,ho1,λj hj=>?_,λj hj=>?_⟩
    ·by_cases e:j=k
     ·subst e;rw[zga]
     ·rw[zi4 _ _ e];exact hlo j (by omega)
    ·rw[zi4 _ _ (by omega)];exact hhi j (by omega)
  ·simp only[mkTo_zero,List.nil_append,List.drop_zero]
   rw[<-hgk,zmb];exact ho
 ·have:k=n:=by omega
  subst this;simp -dsimp only[znm hx',B.ze];refine⟨Nat.one_pos,?_⟩;refine ho.mks (bytes:=24) (es:=1) (n:=k) (c:=k) (z:=[.zbp]) rfl (by omega) (by omega) (by omega) (by omega) λy h1 ho1=>?_;have e1:((k:Int)).toNat=k:=by simp
  rw[e1,Nat.sub_self,zy5]at ho1;have ho2:=ho1.cutR;rw[zh6.congr (ys:=xs) (E:=λj=>zuj m j (D j).length) (S:=λ_=>[]) λj hj=>⟨rfl,hlo j hj,rfl⟩]at ho2;exact flat2 S hx ⟨ho2,λj hj=>Old.refl (ho2.zg1 j (zh6.zy2 hj))⟩ hn (λj hj=>hl j hj) hq
end
variable{C:zh}{N:zN}
structure Scal(T:Type)[DecidableEq T] where
 c:T->za
 cell:∀t,(c t).zbl=true
 eql:∀a b,V.bin .eql (c a) (c b)=some (.bool (decide (a=b)))
 neq:∀a b,V.bin .neq (c a) (c b)=some (.bool (!decide (a=b)))
theorem SlX.cell{h:zb}{x c:za}{L R:List (List za)}{i:Nat}(hs:SlX h 1 x L R)(hc:L[i]?=some [c]):A.ldv h (elp 1 x i 0)=some c:=by
 rw[hs.ldv hc (by omega)];rfl
section
variable{T:Type}[DecidableEq T](F:Scal T)
abbrev Scal.cs(t:T):List za:=[F.c t]
@[simp] def zya.k2(Q:zQ)(Y1:zL)(v0 v1 v5:za)(h:zb):Prop:=B.pv (V.zbg v0) λv13=>B.pv (V.bin .lss v5 v13) λv14=>B.cond v14 (B.pv (V.zb4 1 v0 v5) λv19=>B.ld h v19 λv20=>B.pv (V.zb4 1 v1 v5) λv23=>B.ld h v23 λv24=>B.pv (V.bin .neq v20 v24) λv25=>B.cond v25 (Q (.bool false) h) (B.pv (V.bin .add v5 (.int .i64 1)) λv16=>Y1 [v16] h)) (Q (.bool true) h)
@[simp] def zya.l4(Q:zQ)(v0 v1:za):zG|[v5],h,Y1=>zya.k2 Q Y1 v0 v1 v5 h|_,_,_=>False
def zya(v0 v1:za)(h:zb)(Q:zQ):Prop:=B.pv (V.zbg v0) λv7=>B.pv (V.zbg v1) λv9=>B.pv (V.bin .neq v7 v9) λv10=>B.cond v10 (Q (.bool false) h) (zd (zya.l4 Q v0 v1) [(.int .i64 0)] h)
theorem sameS_spec{x y:za}{L M:List T}{R S:List (List za)}{h:zb}{Q:zQ}(hx:SlX h 1 x (L.map F.cs) R)(hy:SlX h 1 y (M.map F.cs) S)(hlen:L.length<4611686018427387904)
  (hq:Q (.bool (decide (L=M))) h):zya x y h Q:=by
 have hlx:=hx.zbg;have hly:=hy.zbg;rw[List.length_map]at hlx hly;simp -dsimp[zya,hlx,hly];refine B.zl (λhb=>?_) (λhb=>?_)<;>simp -dsimp at hb ⊢
 ·rw[decide_eq_false λe=>hb (by rw[e])]at hq
  exact hq
 ·refine zd.intro (λn vs hh=>∃k,k+n=L.length /\ vs=[.int .i64 k] /\ hh=h /\ L.take k=M.take k) L.length ?_ ⟨0,by simp,by simp,rfl,by simp⟩
  rintro Y n vs _ ⟨k,hn,rfl,rfl,he⟩ hY;simp -dsimp[hlx];refine B.zl (λhc=>?_) (λhc=>?_)<;>simp -dsimp at hc ⊢
  ·obtain⟨w,hw⟩:=zgd hc
   obtain⟨u,hu⟩:=zgd (L:=M) (k:=k) (by omega);have hk:k<(L.map F.cs).length:=by simpa using hc
   have hk2:k<(M.map F.cs).length:=by simp;omega
   simp only[hx.zjk hk,hy.zjk hk2,hx.cell (get_map hw),hy.cell (get_map hu),B.ze,B.zhd,F.neq];refine B.zl (λhd=>?_) (λhd=>?_)<;>simp -dsimp at hd ⊢
   ·rw[decide_eq_false λe=>by subst e;rw[hw]at hu;cases hu;exact hd rfl]at hq
    exact hq
   ·simp[zjf (n:=k) (by omega)]
    refine hY (L.length-(k+1)) _ _ (by omega) ⟨k+1,by omega,by simp,rfl,?_⟩;rw[take_succ hw,take_succ hu,he,hd]
  ·rw[List.take_of_length_le (by omega),List.take_of_length_le (by omega)]at he
   rw[decide_eq_true he]at hq;exact hq
def zji(mk:Int->T)(n:Nat):List (List za):=(List.range n).map fun(i:Nat)=>F.cs (mk (i:Int))
@[simp] theorem cmarks_len(mk:Int->T)(n:Nat):(zji F mk n).length=n:=by simp[zji]
theorem cmarks_get(mk:Int->T){n k:Nat}(hk:k<n):(zji F mk n)[k]?=some (F.cs (mk k)):=by simp[zji,hk]
theorem cmarks_succ(mk:Int->T)(n:Nat):zji F mk (n+1)=zji F mk n++[F.cs (mk n)]:=by simp[zji,List.range_succ]
@[simp] def zv4.k2(C:zh)(bytes f:Nat)(z:za)(m:Int)(Q:zQ)(Y1:zL)(v0 v3 v4:za)(h:zb):Prop:=B.pv (V.bin .lss v4 (.int .i64 12)) λv13=>B.cond v13 (B.call C f [(.int .i64 m),v4] h λv18 h=>B.zhb h (zer [(0,none,v18)] (zgc 1 [z])) λi19 h=>B.ziw h 1 bytes v3 (.sl i19 0 0 1 1 1) λv20 h=>B.pv (V.bin .add v4 (.int .i64 1)) λv15=>Y1 [v20,v15] h) (B.pv (V.zbg v0) λv23=>B.pv (V.zhn 1 v3 none (some v23)) λv24=>Q v24 h)
@[simp] def zv4.l4(C:zh)(bytes f:Nat)(z:za)(m:Int)(Q:zQ)(v0:za):zG|[v3,v4],h,Y1=>zv4.k2 C bytes f z m Q Y1 v0 v3 v4 h|_,_,_=>False
def zv4(C:zh)(bytes f:Nat)(z:za)(m:Int)(v0:za)(h:zb)(Q:zQ):Prop:=B.pv (V.zbg v0) λv6=>B.pv (V.bin .add v6 (.int .i64 12)) λv7=>0<1 /\ B.mks h bytes (some [z]) (.int .i64 0) v7 λv8 h=>B.ziw h 1 bytes v8 v0 λv11 h=>zd (zv4.l4 C bytes f z m Q v0) [v11,(.int .i64 0)] h
theorem lentS_specL{bytes f:Nat}{z:za}{m:Int}{mk:Int->T}(s1:∀(i:Int)(h:zb)(Q:zQ),Q (F.c (mk i)) h->C f [.int .i64 m,.int .i64 i] h Q)
  {x:za} {L:List T} {R:List (List za)} {h:zb} {Q:zQ} (hx:SlX h 1 x (L.map F.cs) R) (hlen:L.length <= 4611686018427387000) (hbm:(L.length+12)*bytes <= 140737488355328)
  (hq:∀x' h',zcx h h' [.sl 1 x' (L.map F.cs) (zji F mk 12)]->Q x' h'):zv4 C bytes f z m x h Q:=by
 have hlx:=hx.zbg;rw[List.length_map]at hlx;have hmul:∀n:Nat,n <= L.length+12->n*bytes <= 140737488355328:=λn hn=>Nat.le_trans (Nat.mul_le_mul_right bytes hn) hbm;have e1:IntKind.i64.wrap ((L.length:Int)+12)=(L.length:Int)+12:=wrap_i64 (by omega) (by omega);simp -dsimp[zv4,hlx,e1];refine(zcx.start h).mks (es:=1) rfl (by omega) (by omega) ?_ (by omega) λy h1 ho=>?_
 ·have:=hmul (L.length+12) (by omega)
  have e:((L.length:Int)+12)*bytes=((L.length+12)*bytes:Nat):=by simp
  rw[e];omega
 refine ho.ziw 0 rfl (hx.mono ho.le) Nat.one_pos (by simpa using hmul L.length (by omega)) (by simp[maxLen];omega) λy2 h2 ho2 _=>?_;refine zd.intro (λn vs hh=>∃k y,k+n=12 /\ vs=[y,.int .i64 k] /\ zcx h hh [.sl 1 y (L.map F.cs++zji F mk k) []]) 12 ?_ ⟨0,y2,by simp,by simp,by simpa[zji]using ho2⟩;rintro Y n vs hh ⟨k,y3,hn,rfl,ho3⟩ hY;simp -dsimp[hlx];refine B.zl (λhc=>?_) (λhc=>?_)<;>simp -dsimp at hc ⊢
 ·refine s1 _ _ _ ?_
  have hfill:zer [(0,none,F.c (mk k))] (zgc 1 [z])=some (F.cs (mk k)):=by
   simp[F.cell,zgc]
  rw[hfill];refine ho3.push 0 rfl rfl Nat.one_pos (by simp;have:=hmul (L.length+k+1) (by omega);omega) (by simp[maxLen];omega) λz' h4 ho4 _=>?_;simp[zjf (n:=k) (by omega)];refine hY (12-(k+1)) _ _ (by omega) ⟨k+1,z',by omega,by simp,?_⟩;rw[cmarks_succ,<-List.append_assoc];exact ho4
 ·have:k=12:=by omega
  subst this;obtain⟨x',e2,e3,e4⟩:=(ho3.zg1 0 rfl).slice Nat.one_pos (lo:=0) (hi:=L.length) (a:=none) (b:=some (.int .i64 L.length)) (.inl ⟨rfl,rfl⟩) (.inr ⟨_,rfl⟩) (by omega) (by simp);simp -dsimp[hlx,e2];refine hq _ _ (ho3.zpz 0 rfl (o':= .sl 1 x' (L.map F.cs) (zji F mk 12)) ?_ (λid b hf hb=>ho3.zp7 0 rfl id b (by show zhs y3=some id;rw[<-e4];exact hf) hb) (λj b hb _=>hb) (.inl e4));have h1:((L.map F.cs++zji F mk 12++[]).take L.length).drop 0=L.map F.cs:=by simp[List.take_append_of_le_length]
  have h2:(L.map F.cs++zji F mk 12++[]).drop L.length=zji F mk 12:=by simp[List.drop_append_of_le_length]
  rw[h1,h2]at e3;exact e3
theorem lentS_spec{bytes f:Nat}{z:za}{m:Int}{mk:Int->T}(hbm:bytes <= 1000)(s1:∀(i:Int)(h:zb)(Q:zQ),Q (F.c (mk i)) h->C f [.int .i64 m,.int .i64 i] h Q)
  {x:za} {L:List T} {R:List (List za)} {h:zb} {Q:zQ} (hx:SlX h 1 x (L.map F.cs) R) (hlen:L.length <= 100000000)
  (hq:∀x' h',zcx h h' [.sl 1 x' (L.map F.cs) (zji F mk 12)]->Q x' h'):zv4 C bytes f z m x h Q:=
 lentS_specL F s1 hx (by omega) (by have:=Nat.mul_le_mul (show L.length+12 <= 100000100 by omega) hbm;omega) hq
@[simp] def zxq.k2(C:zh)(f:Nat)(m:Int)(Q:zQ)(Y1:zL)(v1 v5 v6:za)(h:zb):Prop:=B.pv (V.zbg v5) λv19=>B.pv (V.bin .lss v6 v19) λv20=>B.cond v20 (B.pv (V.zbg v1) λv25=>B.pv (V.bin .lss v6 v25) λv26=>B.gd h v26 true (λK=>K v5 h) λv28 h=>B.gd h v26 true (λK=>K v6 h) λv29 h=>B.gd h v26 true (λK=>B.pv (V.zb4 1 v28 v29) λv=>K v h) λv30 h=>B.gd h v26 true (λK=>B.ld h v30 λv=>K v h) λv31 h=>B.gd h v26 true (λK=>K v1 h) λv32 h=>B.gd h v26 true (λK=>K v6 h) λv33 h=>B.gd h v26 true (λK=>B.pv (V.zb4 1 v32 v33) λv=>K v h) λv34 h=>B.gd h v26 true (λK=>B.ld h v34 λv=>K v h) λv35 h=>B.gd h v26 true (λK=>B.pv (V.bin .eql v31 v35) λv=>K v h) λv36 h=>B.gd h v26 true (λK=>B.pv (V.un .not v36) λv=>K v h) λv37 h=>B.pick v26 v37 (.bool false) λv38=>B.gd h v38 false (λK=>K v6 h) λv40 h=>B.gd h v38 false (λK=>K v1 h) λv41 h=>B.gd h v38 false (λK=>B.pv (V.zbg v41) λv=>K v h) λv42 h=>B.gd h v38 false (λK=>B.pv (V.bin .geq v40 v42) λv=>K v h) λv43 h=>B.gd h v38 false (λK=>K v43 h) λv44 h=>B.gd h v44 true (λK=>K v5 h) λv45 h=>B.gd h v44 true (λK=>K v6 h) λv46 h=>B.gd h v44 true (λK=>B.pv (V.zb4 1 v45 v46) λv=>K v h) λv47 h=>B.gd h v44 true (λK=>B.ld h v47 λv=>K v h) λv48 h=>B.gd h v44 true (λK=>K v6 h) λv49 h=>B.gd h v44 true (λK=>K v1 h) λv50 h=>B.gd h v44 true (λK=>B.pv (V.zbg v50) λv=>K v h) λv51 h=>B.gd h v44 true (λK=>B.pv (V.bin .sub v49 v51) λv=>K v h) λv52 h=>B.gd h v44 true (λK=>B.call C f [(.int .i64 m),v52] h (B.zoy h [(v47,none)] K)) λv53 h=>B.gd h v44 true (λK=>B.pv (V.bin .eql v48 v53) λv=>K v h) λv54 h=>B.gd h v44 true (λK=>B.pv (V.un .not v54) λv=>K v h) λv55 h=>B.gd h v38 false (λK=>B.pick v44 v55 (.bool false) λv=>K v h) λv56 h=>B.pick v38 (.bool true) v56 λv57=>B.cond v57 (Q (.bool false) h) (B.pv (V.bin .add v6 (.int .i64 1)) λv22=>Y1 [v22] h)) (Q (.bool true) h)
@[simp] def zxq.l4(C:zh)(f:Nat)(m:Int)(Q:zQ)(v1 v5:za):zG|[v6],h,Y1=>zxq.k2 C f m Q Y1 v1 v5 v6 h|_,_,_=>False
def zxq(C:zh)(f:Nat)(m:Int)(v0 v1:za)(h:zb)(Q:zQ):Prop:=B.pv (V.zbg v0) λv8=>B.pv (V.zbg v1) λv10=>B.pv (V.bin .neq v8 v10) λv11=>B.cond v11 (Q (.bool false) h) (B.pv (V.zbg v1) λv14=>B.pv (V.bin .add v14 (.int .i64 12)) λv15=>B.pv (V.zhn 1 v0 none (some v15)) λv16=>zd (zxq.l4 C f m Q v1 v16) [(.int .i64 0)] h)
theorem keptS_specL{f:Nat}{m:Int}{mk:Int->T}(s1:∀(i:Int)(h:zb)(Q:zQ),Q (F.c (mk i)) h->C f [.int .i64 m,.int .i64 i] h Q)
  {x y:za} {L M:List T} {R:List (List za)} {h:zb} {Q:zQ} (hx:SlX h 1 x (L.map F.cs) (zji F mk 12)) (hy:SlX h 1 y (M.map F.cs) R) (hlen:L.length <= 4611686018427387000)
  (hq:Q (.bool (decide (L=M))) h):zxq C f m x y h Q:=by
 have hlx:=hx.zbg;have hly:=hy.zbg;rw[List.length_map]at hlx hly;simp -dsimp[zxq,hlx,hly];refine B.zl (λhb=>?_) (λhb=>?_)<;>simp -dsimp at hb ⊢
 ·rw[decide_eq_false λe=>hb (by rw[e])]at hq
  exact hq
 ·have e1:IntKind.i64.wrap ((M.length:Int)+12)=((M.length+12:Nat):Int):=by rw[wrap_i64 (by omega) (by omega)];omega
  obtain⟨z,e2,e3,e4⟩:=hx.slice Nat.one_pos (lo:=0) (hi:=M.length+12) (a:=none) (b:=some (.int .i64 ((M.length+12:Nat):Int))) (.inl ⟨rfl,rfl⟩) (.inr ⟨_,rfl⟩) (by omega) (by simp;omega);have h1:((L.map F.cs++zji F mk 12).take (M.length+12)).drop 0=L.map F.cs++zji F mk 12:=by rw[List.drop_zero,List.take_of_length_le];simp;omega
  rw[h1]at e3;have hlz:=e3.zbg;simp only[List.length_append,List.length_map,cmarks_len]at hlz;simp only[hly,V.zfe,e1,e2,B.ze];refine zd.intro (λn vs hh=>∃k,k+n=L.length+12 /\ vs=[.int .i64 k] /\ hh=h /\ L.take k=M.take k) (L.length+12) ?_ ⟨0,by simp,by simp,rfl,by simp⟩;rintro Y n vs _ ⟨k,hn,rfl,rfl,he⟩ hY;simp -dsimp[hlz];refine B.zl (λhc=>?_) (λhc=>?_)<;>simp -dsimp at hc ⊢
  ·have hk:k<(L.map F.cs++zji F mk 12).length:=by simp;omega
   by_cases hkL:k<L.length
   ·have ew:=zgd hkL
    have eu:=zgd (L:=M) (k:=k) (by omega);obtain⟨w,hw⟩:=ew;obtain⟨u,hu⟩:=eu;have hk2:k<(M.map F.cs).length:=by simp;omega
    have hkM:k<M.length:=by omega
    have hwz:(L.map F.cs++zji F mk 12)[k]?=some (F.cs w):=by rw[List.getElem?_append_left (by simpa using hkL)];exact get_map hw
    by_cases hwu:w=u
    ·subst hwu
     simp -dsimp[hly,hkM,e3.zjk hk,hy.zjk hk2,e3.cell hwz,hy.cell (get_map hu),F.eql,show ¬ M.length <= k by omega,zjf (n:=k) (by omega)];refine hY (L.length+12-(k+1)) _ _ (by omega) ⟨k+1,by omega,by simp,rfl,?_⟩;rw[take_succ hw,take_succ hu,he]
    ·simp -dsimp[hly,hkM,e3.zjk hk,hy.zjk hk2,e3.cell hwz,hy.cell (get_map hu),F.eql,hwu]
     rw[decide_eq_false λe=>by subst e;rw[hw]at hu;cases hu;exact hwu rfl]at hq;exact hq
   ·have hkM:¬ k<M.length:=by omega
    have hmk:(L.map F.cs++zji F mk 12)[k]?=some (F.cs (mk ((k-M.length:Nat):Int))):=by
     rw[List.getElem?_append_right (by simp;omega),List.length_map,show k-L.length=k-M.length by omega];exact cmarks_get F mk (by omega)
    have e5:IntKind.i64.wrap ((k:Int)-M.length)=((k-M.length:Nat):Int):=by rw[wrap_i64 (by omega) (by omega)];omega
    simp -dsimp[hly,hkM,e3.zjk hk,e3.cell hmk,show M.length <= k by omega,e5];refine s1 _ _ _ ⟨?_,?_⟩
    ·intro p hp
     rw[List.mem_singleton.1 hp];exact⟨_,e3.cell hmk,e3.cell hmk⟩
    ·simp[F.eql,zjf (n:=k) (by omega)]
     refine hY (L.length+12-(k+1)) _ _ (by omega) ⟨k+1,by omega,by simp,rfl,?_⟩;rw[List.take_of_length_le (by omega),List.take_of_length_le (by omega)]at he ⊢;exact he
  ·rw[List.take_of_length_le (by omega),List.take_of_length_le (by omega)]at he
   rw[decide_eq_true he]at hq;exact hq
theorem keptS_spec{f:Nat}{m:Int}{mk:Int->T}(s1:∀(i:Int)(h:zb)(Q:zQ),Q (F.c (mk i)) h->C f [.int .i64 m,.int .i64 i] h Q){x y:za}{L M:List T}{R:List (List za)}{h:zb}{Q:zQ}(hx:SlX h 1 x (L.map F.cs) (zji F mk 12))(hy:SlX h 1 y (M.map F.cs) R)(hlen:L.length <= 100000000)(hq:Q (.bool (decide (L=M))) h):zxq C f m x y h Q:=keptS_specL F s1 hx hy (by omega) hq
end
@[simp] def znj.k1(C:zh)(es f:Nat)(st:zb->za->za->(zb->Prop)->Prop)(m:Int)(Q:zQ)(Y1:zL)(v2 v3:za)(h:zb):Prop:=B.pv (V.zbg v2) λv11=>B.pv (V.bin .lss v3 v11) λv12=>B.cond v12 (B.call C f [(.int .i64 m),v3] h λv18 h=>B.pv (V.zb4 es v2 v3) λv19=>st h v19 v18 λh=>B.pv (V.bin .add v3 (.int .i64 1)) λv14=>Y1 [v14] h) (Q (.tup []) h)
@[simp] def znj.l3(C:zh)(es f:Nat)(st:zb->za->za->(zb->Prop)->Prop)(m:Int)(Q:zQ)(v2:za):zG|[v3],h,Y1=>znj.k1 C es f st m Q Y1 v2 v3 h|_,_,_=>False
def znj(C:zh)(es f:Nat)(st:zb->za->za->(zb->Prop)->Prop)(m:Int)(v0:za)(h:zb)(Q:zQ):Prop:=B.pv (V.zbg v0) λv6=>B.pv (V.bin .add v6 (.int .i64 12)) λv7=>B.pv (V.zhn es v0 none (some v7)) λv8=>zd (znj.l3 C es f st m Q v8) [(.int .i64 0)] h
theorem overG_specL{es f:Nat}{st:zb->za->za->(zb->Prop)->Prop}{m:Int}(hes:0<es){v:Int->za}(s1:∀(i:Int)(h:zb)(Q:zQ),Q (v i) h->C f [.int .i64 m,.int .i64 i] h Q)
  (s2:∀{h0 h:zb}{x:za}{L R:List (List za)}{i:Nat}{k:Int}{K:zb->Prop},zcx h0 h [.sl es x L R]->i<L.length->(∀h' L',L'.length=L.length->zcx h0 h' [.sl es x L' R]->K h')->st h (elp es x i 0) (v k) K)
  {h0 h:zb} {x:za} {L R:List (List za)} {Q:zQ} (ho:zcx h0 h [.sl es x L R]) (hR:R.length=12) (hlen:L.length <= 4611686018427387000) (hq:∀h',h0.le h'->Q (.tup []) h'):znj C es f st m x h Q:=by
 have hx:=ho.zg1 0 rfl;have hlx:=hx.zbg;have e1:IntKind.i64.wrap ((L.length:Int)+12)=((L.length+12:Nat):Int):=by rw[wrap_i64 (by omega) (by omega)];omega
 obtain⟨z,e2,e3,e4⟩:=hx.slice hes (lo:=0) (hi:=L.length+12) (a:=none) (b:=some (.int .i64 ((L.length+12:Nat):Int))) (.inl ⟨rfl,rfl⟩) (.inr ⟨_,rfl⟩) (by omega) (by omega);have h1:((L++R).take (L.length+12)).drop 0=L++R:=by rw[List.drop_zero,List.take_of_length_le];simp;omega
 rw[h1]at e3;simp only[znj,hlx,V.zfe,e1,e2,B.ze];have hoz:zcx h0 h [.sl es z (L++R) ((L++R).drop (L.length+12))]:=ho.zpz 0 rfl (o':= .sl es z (L++R) ((L++R).drop (L.length+12))) e3 (λid b hf hb=>ho.zp7 0 rfl id b (by show zhs x=some id;rw[<-e4];exact hf) hb) (λj b hb _=>hb) (.inl e4);refine zd.intro (λn vs hh=>∃(k:Nat)(L':List (List za)),k+n=L.length+12 /\ vs=[.int .i64 k] /\ L'.length=L.length+12 /\ zcx h0 hh [.sl es z L' ((L++R).drop (L.length+12))]) (L.length+12) ?_ ⟨0,L++R,by simp,by simp,by simp[hR],hoz⟩;rintro Y n vs hh ⟨k,L',hn,rfl,hl',ho'⟩ hY;have hlz:=(ho'.zg1 0 rfl).zbg;rw[hl']at hlz;simp -dsimp[hlz];refine B.zl (λhc=>?_) (λhc=>?_)<;>simp -dsimp at hc ⊢
 ·have hk:k<L'.length:=by omega
  refine s1 _ _ _ ?_;simp -dsimp only[(ho'.zg1 0 rfl).zjk hk,B.ze];refine s2 ho' hk λh' L2 hl2 ho2=>?_;simp -dsimp[zjf (n:=k) (by omega)];exact hY (L.length+12-(k+1)) _ _ (by omega) ⟨k+1,L2,by omega,by simp,by omega,ho2⟩
 ·exact hq _ ho'.le
theorem zqz{es f:Nat}{st:zb->za->za->(zb->Prop)->Prop}{m:Int}(hes:0<es){v:Int->za}(s1:∀(i:Int)(h:zb)(Q:zQ),Q (v i) h->C f [.int .i64 m,.int .i64 i] h Q)(s2:∀{h0 h:zb}{x:za}{L R:List (List za)}{i:Nat}{k:Int}{K:zb->Prop},zcx h0 h [.sl es x L R]->i<L.length->(∀h' L',L'.length=L.length->zcx h0 h' [.sl es x L' R]->K h')->st h (elp es x i 0) (v k) K){h0 h:zb}{x:za}{L R:List (List za)}{Q:zQ}(ho:zcx h0 h [.sl es x L R])(hR:R.length=12)(hlen:L.length <= 100000000)(hq:∀h',h0.le h'->Q (.tup []) h'):znj C es f st m x h Q:=overG_specL hes s1 s2 ho hR (by omega) hq
theorem over_stS{v:za}(hv:v.zbl=true){h0 h:zb}{x:za}{L R:List (List za)}{i:Nat}{K:zb->Prop}(ho:zcx h0 h [.sl 1 x L R])(hi:i<L.length)(hK:∀h' L',L'.length=L.length->zcx h0 h' [.sl 1 x L' R]->K h'):B.st h (elp 1 x i 0) v K:=by
 refine ho.st 0 rfl (c:=L[i]) (by simp[hi]) (by omega) hv λh' ho' _=>hK h' _ (by simp) ho'
theorem over_stN{es:Nat}{xs:List za}(hxs:xs.length=es){h0 h:zb}{x:za}{L R:List (List za)}{i:Nat}{K:zb->Prop}(ho:zcx h0 h [.sl es x L R])(hi:i<L.length)(hK:∀h' L',L'.length=L.length->zcx h0 h' [.sl es x L' R]->K h'):B.stn h (elp es x i 0) es (.agg xs) K:=by
 refine ho.stElem 0 rfl (c:=L[i]) (by simp[hi]) hxs λh' ho' _=>hK h' _ (by simp) ho'
def zb.zqg(h:zb)(l:List Ob):zb:=⟨λi=>bif l.any (λo=>o.zhs==some i) then none else h i,by
 obtain⟨n,k⟩:=h.2
 refine⟨n,λi hi=>?_⟩
 show (bif l.any (λo=>o.zhs==some i) then none else h i)=none
 cases l.any (λo=>o.zhs==some i)
 ·exact k i hi
 ·rfl⟩
theorem zyi{h:zb}{l:List Ob}{i:Nat}{o:Ob}(hm:o∈l)(hf:o.zhs=some i):h.zqg l i=none:=by
 have:(l.any λo=>o.zhs==some i)=true:=List.any_eq_true.2 ⟨o,hm,by simp[hf]⟩;show (bif l.any (λo=>o.zhs==some i) then none else h i)=none;rw[this];rfl
theorem zsr{h:zb}{l:List Ob}{i:Nat}(hm:∀o∈l,o.zhs≠some i):h.zqg l i=h i:=by
 have:(l.any λo=>o.zhs==some i)=false:=by
  rw[<-Bool.not_eq_true,List.any_eq_true];rintro⟨o,h1,h2⟩;exact hm o h1 (by simpa using h2)
 show (bif l.any (λo=>o.zhs==some i) then none else h i)=_;rw[this];rfl
theorem without_le(h:zb)(l:List Ob):(h.zqg l).le h:=λi b e=>by
 by_cases hm:∃o∈l,o.zhs=some i
 ·obtain⟨o,h1,h2⟩:=hm
  rw[zyi h1 h2]at e;cases e
 ·rw[zsr λo h1 h2=>hm ⟨o,h1,h2⟩]at e;exact e
theorem zcx.out{h0 h:zb}{l1 l2:List Ob}(ho:zcx h0 h (l1++l2)):zcx h0 (h.zqg l2) l1 /\ zcx (h.zqg l2) h l2:=by
 obtain⟨a1,a2,a3⟩:=List.pairwise_append.1 ho.apart;have h1:h0.le (h.zqg l2):=λi b e=>by
  rw[zsr λo hm hf=>by rw[(ho.own o (List.mem_append_right _ hm) i hf).1]at e;cases e];exact ho.le i b e
 have zmf:∀o∈l1,∀id,o.zhs=some id->(h.zqg l2) id=h id:=λo hm id hf=>zsr λo2 hm2 hf2=>a3 o hm o2 hm2 id hf hf2
 refine⟨⟨h1,λo hm=>(ho.is o (List.mem_append_left _ hm)).zmf λid b hf hb=>by rw[zmf o hm id hf];exact hb,λo hm id hf=>?_,a1⟩,
  ⟨without_le h l2,λo hm=>ho.is o (List.mem_append_right _ hm),λo hm id hf=>⟨zyi hm hf,(ho.own o (List.mem_append_right _ hm) id hf).2⟩,a2⟩⟩
 obtain⟨b1,b2⟩:=ho.own o (List.mem_append_left _ hm) id hf;exact⟨b1,λb hb=>b2 b (by rw[<-zmf o hm id hf];exact hb)⟩
theorem zcx.perm{h0 h:zb}{l l':List Ob}(ho:zcx h0 h l)(hp:l.Perm l'):zcx h0 h l':=⟨ho.le,λo hm=>ho.is o (hp.mem_iff.2 hm),λo hm=>ho.own o (hp.mem_iff.2 hm),(hp.pairwise_iff λ{a b} hab id hb ha=>hab id ha hb).1 ho.apart⟩
theorem elF{T:Type}[DecidableEq T](F:Flat T){bytes f:Nat}{z:List za}{mk:Int->Int->T}(hz:z.length=F.es)(hb:bytes <= 1000)(s1:∀(k i:Int)(h:zb)(Q:zQ),Q (.agg (F.cs (mk k i))) h->C f [.int .i64 k,.int .i64 i] h Q):
  zuh C (zth F.es bytes z f F.sh) (λk i=>F.cs (mk k i)) (λk i=> .agg (F.cs (mk k i))) where
 pos:=F.pos
 small:=hb
 len _ _:=F.len _
 zlen:=hz
 new k i:=by
  have hrep:zgc 1 z=z:=by unfold zgc;split<;>simp
  have h1:=F.len (mk k i);show zer [(0,some F.es,za.agg (F.cs (mk k i)))] (zgc 1 z)=_;rw[hrep];simp[h1,hz]
 call:=s1
 ld hs hc hk:=by
  simp only[zth,B.zno]at hs ⊢;rw[hs.elem hc];exact hk
 kpt hs hc:=⟨_,hs.elem hc⟩
 st {h x L R i c k j K} hs hown hc hk:=by
  refine hs.stn hown hc (F.len _) (by simp[zth]) ?_;have hcl:=hs.len c (List.mem_append_left _ (List.mem_of_getElem? hc));have e:c.take 0++F.cs (mk k j)++c.drop (0+F.es)=F.cs (mk k j):=by
   have:c.length=F.es:=hcl;simp[this]
  rw[e];exact hk
 eq hk:=by simp only[zth,F.eql,B.ze,decide_true];exact hk
theorem elS{bytes f:Nat}{z:za}{mv:Int->Int->za}(hc:∀k i,(mv k i).zbl=true)(he:∀k i,V.bin .eql (mv k i) (mv k i)=some (.bool true))(hb:bytes <= 1000)(s1:∀(k i:Int)(h:zb)(Q:zQ),Q (mv k i) h->C f [.int .i64 k,.int .i64 i] h Q):
  zuh C (zc3 bytes z f) (λk i=>[mv k i]) mv where
 pos:=Nat.one_pos
 small:=hb
 len _ _:=rfl
 zlen:=rfl
 new k i:=by simp[zc3,hc,zgc]
 call:=s1
 ld hs hc hk:=by
  simp only[zc3,B.zhd]at hs ⊢;rw[hs.cell hc];exact hk
 kpt hs hc:=⟨_,hs.cell hc⟩
 st {h x L R i c k j K} hs hown hcc hk:=by
  have hs':SlX h 1 x L R:=hs;have hcl:c.length=1:=hs'.len c (List.mem_append_left _ (List.mem_of_getElem? hcc));obtain⟨u,rfl⟩:=List.length_eq_one_iff.1 hcl;exact hs'.st hown hcc (by omega) (hc _ _) hk
 eq hk:=by simp only[zc3,he,B.ze];exact hk
structure zzg where
 From:Int
 Until:Int
 deriving DecidableEq
@[simp] def zzg.cs(w:zzg):List za:=[.int .i64 w.From,.int .i64 w.Until]
@[simp] theorem zzg.eta(w:zzg):zzg.mk w.From w.Until=w:=rfl
structure Lot where
 Id:Int
 Item:List UInt8
 From:Int
 Until:Int
 Qty:Int
 Arrived:Bool
 deriving DecidableEq
@[simp] def Lot.cs(l:Lot):List za:=[.int .i64 l.Id,.str l.Item,.int .i64 l.From,.int .i64 l.Until,.int .i64 l.Qty,.bool l.Arrived]
def lotF:Flat Lot where
 cs:=Lot.cs
 es:=6
 sh:=[.i .i64,.s,.i .i64,.i .i64,.i .i64,.b]
 len _:=rfl
 pos:=by omega
 eq a b:=by
  cases a;cases b;simp
structure Part where
 Item:List UInt8
 Qty:Int
 deriving DecidableEq
@[simp] def Part.cs(u:Part):List za:=[.str u.Item,.int .i64 u.Qty]
def partF:Flat Part where
 cs:=Part.cs
 es:=2
 sh:=[.s,.i .i64]
 len _:=rfl
 pos:=by omega
 eq a b:=by
  cases a;cases b;simp
theorem u8_eq(a b:UInt8):decide ((a.toNat:Int)=b.toNat)=decide (a=b):=by
 rw[decide_eq_decide];constructor
 ·intro h;exact UInt8.toNat_inj.1 (by omega)
 ·intro h;rw[h]
structure zmh where
 Id:Int
 Item:List UInt8
 Qty:Int
 Asked:Int
 Rank:Int
 State:UInt8
 Day:Int
 Code:List UInt8
 deriving DecidableEq
@[simp] def zmh.cs(u:zmh):List za:=[.int .i64 u.Id,.str u.Item,.int .i64 u.Qty,.int .i64 u.Asked,.int .i64 u.Rank,.int .u8 (u.State.toNat:Int),.int .i64 u.Day,.str u.Code]
def lineF:Flat zmh where
 cs:=zmh.cs
 es:=8
 sh:=[.i .i64,.s,.i .i64,.i .i64,.i .i64,.i .u8,.i .i64,.s]
 len _:=rfl
 pos:=by omega
 eq a b:=by
  cases a;cases b;simp[u8_eq]
def bS:Scal UInt8 where
 c b:= .int .u8 b.toNat
 cell _:=rfl
 eql a b:=by rw[V.zg9,u8_eq]
 neq a b:=by rw[V.bin_neq,u8_eq]
abbrev bc:UInt8->List za:=bS.cs
def tS:Scal (List UInt8) where
 c b:= .str b
 cell _:=rfl
 eql a b:=by rw[V.zrf]
 neq a b:=by rw[V.bin_sneq]
abbrev tc:List UInt8->List za:=tS.cs
theorem wrap_u8(n:Int):IntKind.u8.wrap n=n % 256:=by
 simp[IntKind.wrap,IntKind.bits,IntKind.signed]
def byt(m:Int):UInt8:=UInt8.ofNat (m % 256).toNat
theorem byt_nat(m:Int):((byt m).toNat:Int)=m % 256:=by
 have h1:=Int.emod_nonneg m (show (256:Int)≠0 by omega);have h2:=Int.emod_lt_of_pos m (show (0:Int)<256 by omega);simp[byt];omega
theorem u8_byt(m:Int):IntKind.u8.wrap m=((byt m).toNat:Int):=by rw[wrap_u8,byt_nat]
theorem bin_shr{k j:IntKind}{a b:Int}(h0:0 <= b)(h1:b<k.bits):V.bin .shr (.int k a) (.int j b)=some (.int k (a.fdiv (2 ^ b.toNat))):=by
 simp only[V.bin,V.shift];rw[if_neg (by omega),Nat.min_eq_left (by omega)]
theorem wrap_u64(n:Int):IntKind.u64.wrap n=n % 18446744073709551616:=by
 simp[IntKind.wrap,IntKind.bits,IntKind.signed]
theorem zze:∀s:List UInt8,V.zod (s.map bc).flatten=some s
 | []=>rfl
 | a::r=>by
  have:=zze r
  simp only[List.map_cons,List.flatten_cons,List.cons_append,List.nil_append]at this ⊢
  simp only[V.zod,this]
  simp[V.byteOf?,bS]
theorem bytesStr_bc{h:zb}{x:za}{s:List UInt8}{R:List (List za)}(hx:SlX h 1 x (s.map bc) R)(K:za->Prop):(B.zha h x K:Prop)=K (.str s):=by
 have h1:=hx.zjo;have h2:=hx.rdv;rw[List.length_map]at h1 h2;simp only[B.zha,A.zha,h1,h2,zze]
def inI64(n:Int):Prop:= -9223372036854775808 <= n /\ n <= 9223372036854775807
def Lot.ok(l:Lot):Prop:=inI64 l.Id /\ inI64 l.Qty
theorem u8_of{n:Int}(h1:IntKind.u8.min <= n)(h2:n <= IntKind.u8.max):((UInt8.ofNat n.toNat).toNat:Int)=n:=by
 simp[IntKind.min,IntKind.max,IntKind.bits,IntKind.signed]at h1 h2;simp;omega
abbrev tyWindow:Ty:= .st [.i .i64,.i .i64]
abbrev tyLot:Ty:= .st [.i .i64,.s,tyWindow,.i .i64,.b]
abbrev tyPart:Ty:= .st [.s,.i .i64]
abbrev tyLine:Ty:= .st [.i .i64,.s,.i .i64,.i .i64,.i .i64,.i .u8,.i .i64,.s]
theorem i64_of{n:Int}(h1:IntKind.i64.min <= n)(h2:n <= IntKind.i64.max):inI64 n:=by
 simp[IntKind.min,IntKind.max,IntKind.bits,IntKind.signed]at h1 h2;exact⟨h1,h2⟩
theorem zrg{T:Type}{H:zb}{bytes es:Nat}{e:Ty}{v:za}(cs:T->List za)(P:T->Prop)(hd:∀p,zj9 H e p->∃t,p=cs t /\ P t)(h:zj9 H (.sl bytes es e) [v]):
  ∃L:List T,SlIs H es v (L.map cs) /\ L.length*bytes <= reach /\ ∀t∈L,P t:=by
 obtain⟨L,h1,h2⟩:=arg_slice (T:={ t:T // P t }) (λt=>cs t.1) (λp hp=>by obtain⟨t,e,k⟩:=hd p hp;exact⟨⟨t,k⟩,e⟩) h;refine⟨L.map (·.1),?_,by simpa using h2,λt ht=>?_⟩
 ·rw[List.map_map];exact h1
 ·obtain⟨u,_,rfl⟩:=List.mem_map.1 ht;exact u.2
theorem dWindow{H:zb}{p:List za}(h:zj9 H tyWindow p):∃w:zzg,p=w.cs:=by
 obtain⟨a,r,rfl,⟨n,rfl,_⟩,⟨b,r2,rfl,⟨m,rfl,_⟩,hr⟩⟩:=h;cases hr;exact⟨⟨n,m⟩,rfl⟩
def cA:Code->Code | .seq a _=>a | .cond _ a _=>a | .block _ b=>b | .loop b=>b | .scope b=>b|_=> .skip
def cB:Code->Code | .seq _ b=>b | .cond _ _ b=>b|_=> .skip
def cI:Code->Nat | .block i _=>i|_=>0
def isS:Code->Bool | .seq _ _=>true|_=>false
def isC(t:Nat):Code->Bool | .cond (.tmp k) _ _=>Nat.beq k t|_=>false
def isK:Code->Bool | .block _ _=>true|_=>false
def isL:Code->Bool | .loop _=>true|_=>false
section
variable{P:Program}{C:zh}{I:Bx}
theorem eS(hC:zol C){c:Code}{Q:Ex->zch->zb->Prop}{s:zch}{h:zb}(X:zch->zb->Prop)(ha:bwp P C I (cA c) (Ex.then X Q) s h)(hb:∀s h,X s h->bwp P C I (cB c) Q s h)(hk:isS c=true:=by kernel_rfl):bwp P C I c Q s h:=by
 cases c<;>first|exact seqB hC rfl hb ha|cases hk
theorem eC{c:Code}{Q:Ex->zch->zb->Prop}{p q:Prop}{s:zch}{h:zb}(t:Nat)(hr:A.cond (s t) p q)(hx:p->bwp P C I (cA c) Q s h)(hy:q->bwp P C I (cB c) Q s h)(hk:isC t c=true:=by kernel_rfl):bwp P C I c Q s h:=by
 cases c with
 | cond o x y=>
  cases o with
  | tmp k=>
   have e:k=t:=Nat.eq_of_beq_eq_true hk;subst e;exact condB rfl hx hy hr
  | _=>cases hk
 | _=>cases hk
theorem eK{c:Code}{Q:Ex->zch->zb->Prop}{s:zch}{h:zb}(hb:bwp P C I (cA c) (Ex.inBlock (cI c) Q) s h)(hk:isK c=true:=by kernel_rfl):bwp P C I c Q s h:=by
 cases c<;>first|exact hb|cases hk
theorem eL(hC:zol C){c:Code}{Q:Ex->zch->zb->Prop}{s:zch}{h:zb}(zmf live:List Nat)(G:List za->zG)
  (hr:zd (G (zmf.map s)) (live.map s) h)
  (hG:∀(Y:zL)(s:zch)(h:zb),G (zmf.map s) (live.map s) h Y->bwp P C I (cA c) (Ex.then (λs h=>Y (live.map s) h) Q) s h)
  (hk:isL c=true:=by kernel_rfl) (hw:(zmf.all λk=> !zlw (zjl P I (cA c)) k)=true:=by kernel_rfl):bwp P C I c Q s h:=by
 cases c<;>first|exact loopB hC zmf live rfl hw hG hr|cases hk
theorem e0{q p:Prop}(hR:p)(e:q=p:=by kernel_rfl):q:=e.mpr hR
theorem e1{c:Code}{Q:Ex->zch->zb->Prop}{s:zch}{h:zb}{p:Prop}(hR:p)(e:bwp P C I c Q s h=p:=by kernel_rfl):bwp P C I c Q s h:=e.mpr hR
theorem eF(hm:P.follows .mixedOrders=true){f:FuncId}{fn:Func}{c:Code}{I:Bx}{args:List za}{h:zb}{Q:zQ}
  (hx:zol (AC P)→bwp P (AC P) I c (retB P I fn.results.toList (dn Q)) (zby args) h) (hf:P.funcs[f]? =some fn:=by kernel_rfl) (hb:fn.body=some c:=by kernel_rfl) (h1:(fn.name== "runtime.NumGoroutine")=false:=by kernel_rfl)
  (hc:zm0 fn.ntmps c=true:=by kernel_rfl) (hne:Nat.beq f zvj=false:=by kernel_rfl) (hl:Nat.ble args.length fn.ntmps=true:=by kernel_rfl) (hB:Nat.ble args.length I.B=true:=by kernel_rfl) (hk:chkC P I c=true:=by kernel_rfl):AC P f args h Q:=
 AC_drop (AC_introB hm hf hb (zsm hf (by rw[hb];rfl) h1) hc hne (Nat.le_of_ble_eq_true hl) (Nat.le_of_ble_eq_true hB) hk (hx (AC_cmono P)))
end
@[simp] def zhe.cps(C:zh)(N:zN)(a b:za)(h:zb)(Q:zQ):Prop:=B.pv (V.bin .add a (.int .i64 7)) λc=>B.pv (V.bin .mul (.int .i64 1000003) c) λd=>B.pv (V.bin .add d b) λe=>Q e h
variable(C:zh)(N:Nat→Nat)
def zhe.Imp:Prop:=im2 C (N 20) (zhe.cps C N)
@[simp] def zfw.k3(Q:zQ)(a:za)(h:zb):Prop:=B.pv (V.zbg a) λc=>B.pv (V.bin .add c (.int .i64 12)) λd=>0<6 /\ B.mks h 56 (some [.int .i64 0,.str [],.int .i64 0,.int .i64 0,.int .i64 0,.bool false]) (.int .i64 0) d λe h=>B.ziw h 6 56 e a λb h=>zd (zoi.l4 C 6 56 (N 77) [.int .i64 0,.str [],.int .i64 0,.int .i64 0,.int .i64 0,.bool false] 1 Q a) [b,(.int .i64 0)] h
def zfw.cps(a:za)(h:zb)(Q:zQ):Prop:=zfw.k3 C N Q a h
def zfw.Imp:Prop:=im1 C (N 48) (zfw.cps C N)
@[simp] def zeq.k3(Q:zQ)(f a:za)(h:zb):Prop:=B.pv (V.zbg a) λc=>B.pv (V.bin .add c (.int .i64 12)) λd=>B.pv (V.zhn 6 f none (some d)) λe=>zd (zqa.l4 C 6 (N 77) [.i .i64,.s,.i .i64,.i .i64,.i .i64,.b] 1 Q a e) [(.int .i64 0)] h
@[simp] def zeq.k4(Q:zQ)(a b:za)(h:zb):Prop:=B.pv (V.zbg a) λe=>B.pv (V.zbg b) λc=>B.pv (V.bin .neq e c) λd=>B.cond d (Q (.bool false) h) (zeq.k3 C N Q a b h)
def zeq.cps(a b:za)(h:zb)(Q:zQ):Prop:=zeq.k4 C N Q a b h
def zeq.Imp:Prop:=im2 C (N 54) (zeq.cps C N)
@[simp] def zf1.k3(Q:zQ)(a:za)(h:zb):Prop:=B.pv (V.zbg a) λb=>B.pv (V.bin .add b (.int .i64 12)) λc=>B.pv (V.zhn 6 a none (some c)) λd=>zd (znj.l3 C 6 (N 77) (λh p v K=>B.stn h p 6 v K) 2 Q d) [(.int .i64 0)] h
def zf1.cps(a:za)(h:zb)(Q:zQ):Prop:=zf1.k3 C N Q a h
def zf1.Imp:Prop:=im1 C (N 56) (zf1.cps C N)
@[simp] def zeu.k1(Q:zQ)(a:za)(h:zb):Prop:=B.nilCheck a λv4=>B.pv (V.fieldAddr 0 v4) λv5=>B.ld h v5 λv6=>B.call C (N 80) [v6] h λy h=>B.gd h y true (λK=>K a h) λv9 h=>B.gd h y true (λK=>B.nilCheck v9 λv=>K v h) λbv h=>B.gd h y true (λK=>B.pv (V.fieldAddr 1 bv) λv=>K v h) λbw h=>B.gd h y true (λK=>B.ld h bw λv=>K v h) λbx h=>B.gd h y true (λK=>B.call C (N 81) [bx] h K) λbz h=>B.pick y bz (.bool false) λk=>B.gd h k true (λK=>K a h) λca h=>B.gd h k true (λK=>B.nilCheck ca λv=>K v h) λcb h=>B.gd h k true (λK=>B.pv (V.fieldAddr 2 cb) λv=>K v h) λcc h=>B.gd h k true (λK=>B.ld h cc λv=>K v h) λcd h=>B.gd h k true (λK=>B.call C (N 82) [cd] h K) λce h=>B.pick k ce (.bool false) λl=>B.gd h l true (λK=>K a h) λcf h=>B.gd h l true (λK=>B.nilCheck cf λv=>K v h) λcg h=>B.gd h l true (λK=>B.pv (V.fieldAddr 3 cg) λv=>K v h) λch h=>B.gd h l true (λK=>B.ld h ch λv=>K v h) λci h=>B.gd h l true (λK=>B.call C (N 83) [ci] h K) λcj h=>B.pick l cj (.bool false) λm=>B.gd h m true (λK=>K a h) λck h=>B.gd h m true (λK=>B.nilCheck ck λv=>K v h) λcl h=>B.gd h m true (λK=>B.pv (V.fieldAddr 4 cl) λv=>K v h) λcm h=>B.gd h m true (λK=>B.ld h cm λv=>K v h) λcn h=>B.gd h m true (λK=>B.call C (N 84) [cn] h K) λco h=>B.pick m co (.bool false) λn=>B.gd h n true (λK=>K a h) λcp h=>B.gd h n true (λK=>B.nilCheck cp λv=>K v h) λcq h=>B.gd h n true (λK=>B.pv (V.fieldAddr 5 cq) λv=>K v h) λcr h=>B.gd h n true (λK=>B.ld h cr λv=>K v h) λcs h=>B.gd h n true (λK=>B.call C (N 85) [cs] h K) λct h=>B.pick n ct (.bool false) λo=>B.gd h o true (λK=>K a h) λcu h=>B.gd h o true (λK=>B.nilCheck cu λv=>K v h) λcv h=>B.gd h o true (λK=>B.pv (V.fieldAddr 6 cv) λv=>K v h) λcw h=>B.gd h o true (λK=>B.ld h cw λv=>K v h) λcx h=>B.gd h o true (λK=>B.call C (N 86) [cx] h K) λcy h=>B.pick o cy (.bool false) λp=>B.gd h p true (λK=>K a h) λcz h=>B.gd h p true (λK=>B.nilCheck cz λv=>K v h) λda h=>B.gd h p true (λK=>B.pv (V.fieldAddr 7 da) λv=>K v h) λdb h=>B.gd h p true (λK=>B.ld h db λv=>K v h) λdc h=>B.gd h p true (λK=>B.call C (N 87) [dc] h K) λdd h=>B.pick p dd (.bool false) λq=>B.gd h q true (λK=>K a h) λde h=>B.gd h q true (λK=>B.nilCheck de λv=>K v h) λdf h=>B.gd h q true (λK=>B.pv (V.fieldAddr 8 df) λv=>K v h) λdg h=>B.gd h q true (λK=>B.ld h dg λv=>K v h) λdh h=>B.gd h q true (λK=>B.call C (N 88) [dh] h K) λdi h=>B.pick q di (.bool false) λr=>B.gd h r true (λK=>K a h) λdj h=>B.gd h r true (λK=>B.nilCheck dj λv=>K v h) λdk h=>B.gd h r true (λK=>B.pv (V.fieldAddr 9 dk) λv=>K v h) λdl h=>B.gd h r true (λK=>B.ld h dl λv=>K v h) λdm h=>B.gd h r true (λK=>B.call C (N 89) [dm] h K) λdn h=>B.pick r dn (.bool false) λs=>B.gd h s true (λK=>K a h) λdp h=>B.gd h s true (λK=>B.nilCheck dp λv=>K v h) λdq h=>B.gd h s true (λK=>B.pv (V.fieldAddr 10 dq) λv=>K v h) λdr h=>B.gd h s true (λK=>B.ld h dr λv=>K v h) λds h=>B.gd h s true (λK=>B.call C (N 90) [ds] h K) λdt h=>B.pick s dt (.bool false) λt=>B.gd h t true (λK=>K a h) λdu h=>B.gd h t true (λK=>B.nilCheck du λv=>K v h) λdv h=>B.gd h t true (λK=>B.pv (V.fieldAddr 11 dv) λv=>K v h) λdw h=>B.gd h t true (λK=>B.ld h dw λv=>K v h) λdx h=>B.gd h t true (λK=>B.call C (N 91) [dx] h K) λdy h=>B.pick t dy (.bool false) λu=>B.gd h u true (λK=>K a h) λdz h=>B.gd h u true (λK=>B.nilCheck dz λv=>K v h) λea h=>B.gd h u true (λK=>B.pv (V.fieldAddr 12 ea) λv=>K v h) λeb h=>B.gd h u true (λK=>B.ld h eb λv=>K v h) λec h=>B.gd h u true (λK=>B.call C (N 92) [ec] h K) λed h=>B.pick u ed (.bool false) λw=>B.gd h w true (λK=>K a h) λee h=>B.gd h w true (λK=>B.nilCheck ee λv=>K v h) λef h=>B.gd h w true (λK=>B.pv (V.fieldAddr 13 ef) λv=>K v h) λeg h=>B.gd h w true (λK=>B.ld h eg λv=>K v h) λeh h=>B.gd h w true (λK=>B.call C (N 93) [eh] h K) λei h=>B.pick w ei (.bool false) λx=>B.gd h x true (λK=>K a h) λz h=>B.gd h x true (λK=>B.nilCheck z λv=>K v h) λaa h=>B.gd h x true (λK=>B.pv (V.fieldAddr 14 aa) λv=>K v h) λab h=>B.gd h x true (λK=>B.ld h ab λv=>K v h) λac h=>B.gd h x true (λK=>B.call C (N 94) [ac] h K) λad h=>B.pick x ad (.bool false) λb=>B.gd h b true (λK=>K a h) λae h=>B.gd h b true (λK=>B.nilCheck ae λv=>K v h) λaf h=>B.gd h b true (λK=>B.pv (V.fieldAddr 15 af) λv=>K v h) λag h=>B.gd h b true (λK=>B.ld h ag λv=>K v h) λah h=>B.gd h b true (λK=>B.call C (N 95) [ah] h K) λai h=>B.pick b ai (.bool false) λc=>B.gd h c true (λK=>K a h) λaj h=>B.gd h c true (λK=>B.nilCheck aj λv=>K v h) λak h=>B.gd h c true (λK=>B.pv (V.fieldAddr 16 ak) λv=>K v h) λal h=>B.gd h c true (λK=>B.ld h al λv=>K v h) λam h=>B.gd h c true (λK=>B.call C (N 96) [am] h K) λan h=>B.pick c an (.bool false) λd=>B.gd h d true (λK=>K a h) λao h=>B.gd h d true (λK=>B.nilCheck ao λv=>K v h) λap h=>B.gd h d true (λK=>B.pv (V.fieldAddr 17 ap) λv=>K v h) λaq h=>B.gd h d true (λK=>B.ld h aq λv=>K v h) λar h=>B.gd h d true (λK=>B.call C (N 97) [ar] h K) λau h=>B.pick d au (.bool false) λe=>B.gd h e true (λK=>K a h) λav h=>B.gd h e true (λK=>B.nilCheck av λv=>K v h) λaw h=>B.gd h e true (λK=>B.pv (V.fieldAddr 18 aw) λv=>K v h) λax h=>B.gd h e true (λK=>B.ld h ax λv=>K v h) λay h=>B.gd h e true (λK=>B.call C (N 98) [ay] h K) λaz h=>B.pick e az (.bool false) λf=>B.gd h f true (λK=>K a h) λba h=>B.gd h f true (λK=>B.nilCheck ba λv=>K v h) λbb h=>B.gd h f true (λK=>B.pv (V.fieldAddr 19 bb) λv=>K v h) λbc h=>B.gd h f true (λK=>B.ld h bc λv=>K v h) λbd h=>B.gd h f true (λK=>B.call C (N 99) [bd] h K) λbe h=>B.pick f be (.bool false) λg=>B.gd h g true (λK=>K a h) λbf h=>B.gd h g true (λK=>B.nilCheck bf λv=>K v h) λbg h=>B.gd h g true (λK=>B.pv (V.fieldAddr 20 bg) λv=>K v h) λbh h=>B.gd h g true (λK=>B.ld h bh λv=>K v h) λbi h=>B.gd h g true (λK=>B.call C (N 100) [bi] h K) λbj h=>B.pick g bj (.bool false) λi=>B.gd h i true (λK=>K a h) λbk h=>B.gd h i true (λK=>B.nilCheck bk λv=>K v h) λbl h=>B.gd h i true (λK=>B.pv (V.fieldAddr 21 bl) λv=>K v h) λbm h=>B.gd h i true (λK=>B.ld h bm λv=>K v h) λbn h=>B.gd h i true (λK=>B.call C (N 101) [bn] h K) λbo h=>B.pick i bo (.bool false) λj=>B.gd h j true (λK=>K a h) λbp h=>B.gd h j true (λK=>B.nilCheck bp λv=>K v h) λbq h=>B.gd h j true (λK=>B.pv (V.fieldAddr 22 bq) λv=>K v h) λbr h=>B.gd h j true (λK=>B.ld h br λv=>K v h) λbs h=>B.gd h j true (λK=>B.call C (N 102) [bs] h K) λbt h=>B.pick j bt (.bool false) λbu=>Q bu h
@[simp] def zeu.cps(a:za)(h:zb)(Q:zQ):Prop:=zeu.k1 C N Q a h
def zeu.Imp:Prop:=im1 C (N 62) (zeu.cps C N)
@[simp] def zfv.k3(C:zh)(N:zN)(Q:zQ)(a c:za)(h:zb):Prop:=B.pv (V.zbg a) λe=>B.pv (V.zbg c) λf=>B.pv (V.bin .neq e f) λd=>B.cond d (Q (.bool false) h) (zd (zp0.l4 6 [.i .i64,.s,.i .i64,.i .i64,.i .i64,.b] Q a c) [(.int .i64 0)] h)
def zfv.cps(a b:za)(h:zb)(Q:zQ):Prop:=zfv.k3 C N Q a b h
def zfv.Imp:Prop:=im2 C (N 74) (zfv.cps C N)
@[simp] def zfz.k1(Q:zQ)(a b:za)(h:zb):Prop:=B.call C (N 20) [a,b] h λc h=>B.pv (A.bld [(0,none,c)] [.int .i64 0,.str [],.int .i64 0,.int .i64 0,.int .i64 0,.bool false]) λd=>B.pv (V.zqy 0 6 d (.agg [.int .i64 0,.str [],.int .i64 0,.int .i64 0,.int .i64 0,.bool false])) λe=>B.pv (oneOf (zm5 (V.zfp 0 6 e) (some []))) λv=>Q v h
@[simp] def zfz.cps(a b:za)(h:zb)(Q:zQ):Prop:=zfz.k1 C N Q a b h
def zfz.Imp:Prop:=im2 C (N 77) (zfz.cps C N)
def zgs.cps(a:za)(h:zb)(Q:zQ):Prop:=zd (zw.zou (zc3 16 (.str []) (N 106)) C Q a) [(.int .i64 0)] h
def zgs.Imp:Prop:=im1 C (N 83) (zgs.cps C N)
def zel.cps(a:za)(h:zb)(Q:zQ):Prop:=zd (zw.zou (zc3 1 (.int .u8 0) (N 64)) C Q a) [(.int .i64 0)] h
def zel.Imp:Prop:=im1 C (N 84) (zel.cps C N)
def z9.cps(a:za)(h:zb)(Q:zQ):Prop:=zd (zw.zou (zth 2 16 [.int .i64 0,.int .i64 0] (N 18) [.i .i64,.i .i64]) C Q a) [(.int .i64 0)] h
def z9.Imp:Prop:=im1 C (N 85) (z9.cps C N)
def zb6.cps(a:za)(h:zb)(Q:zQ):Prop:=zd (zw.zou (zth 6 56 [.int .i64 0,.str [],.int .i64 0,.int .i64 0,.int .i64 0,.bool false] (N 77) [.i .i64,.s,.i .i64,.i .i64,.i .i64,.b]) C Q a) [(.int .i64 0)] h
def zb6.Imp:Prop:=im1 C (N 86) (zb6.cps C N)
def zbi.cps(a:za)(h:zb)(Q:zQ):Prop:=zd (zw.zou (zth 3 32 [.str [],.int .i64 0,.int .i64 0] (N 107) [.s,.i .i64,.i .i64]) C Q a) [(.int .i64 0)] h
def zbi.Imp:Prop:=im1 C (N 87) (zbi.cps C N)
def zbq.cps(a:za)(h:zb)(Q:zQ):Prop:=zd (zw.zou (zth 3 24 [.int .i64 0,.int .i64 0,.int .i64 0] (N 78) [.i .i64,.i .i64,.i .i64]) C Q a) [(.int .i64 0)] h
def zbq.Imp:Prop:=im1 C (N 88) (zbq.cps C N)
def zbr.cps(a:za)(h:zb)(Q:zQ):Prop:=zd (zw.zou (zth 2 24 [.str [],.int .i64 0] (N 108) [.s,.i .i64]) C Q a) [(.int .i64 0)] h
def zbr.Imp:Prop:=im1 C (N 89) (zbr.cps C N)
def zbh.cps(a:za)(h:zb)(Q:zQ):Prop:=zd (zw.zou (opsD C 4 72 [.str [],.int .i64 0,.zbp,.zbp] (N 109) (N 110)) C Q a) [(.int .i64 0)] h
def zbh.Imp:Prop:=im1 C (N 90) (zbh.cps C N)
def zbs.cps(a:za)(h:zb)(Q:zQ):Prop:=zd (zw.zou (zth 8 80 [.int .i64 0,.str [],.int .i64 0,.int .i64 0,.int .i64 0,.int .u8 0,.int .i64 0,.str []] (N 111) [.i .i64,.s,.i .i64,.i .i64,.i .i64,.i .u8,.i .i64,.s]) C Q a) [(.int .i64 0)] h
def zbs.Imp:Prop:=im1 C (N 91) (zbs.cps C N)
def zbb.cps(a:za)(h:zb)(Q:zQ):Prop:=zd (zw.zou (opsD C 6 96 [.int .i64 0,.int .i64 0,.int .i64 0,.zbp,.zbp,.zbp] (N 115) (N 116)) C Q a) [(.int .i64 0)] h
def zbb.Imp:Prop:=im1 C (N 94) (zbb.cps C N)
@[simp] def ze7.k1(C:zh)(N:zN)(Q:zQ)(a b:za)(h:zb):Prop:=B.pv (V.toInt .u8 a) λm=>B.pv (V.bin .shr a (.int .u64 8)) λn=>B.pv (V.toInt .u8 n) λo=>B.pv (V.bin .shr a (.int .u64 16)) λc=>B.pv (V.toInt .u8 c) λd=>B.pv (V.toInt .u8 b) λe=>B.pv (V.bin .shr b (.int .u64 8)) λf=>B.pv (V.toInt .u8 f) λg=>B.pv (V.bin .shr b (.int .u64 16)) λi=>B.pv (V.toInt .u8 i) λj=>B.zhb h (zer [(0,none,(.int .u8 35)),(1,none,m),(2,none,o),(3,none,d),(4,none,(.int .u8 47)),(5,none,e),(6,none,g),(7,none,j)] (zgc 8 [.int .u8 0])) λk h=>B.zha h (.sl k 0 0 8 1 8) λl=>Q l h
@[simp] def ze7.cps(a b:za)(h:zb)(Q:zQ):Prop:=ze7.k1 C N Q a b h
def ze7.Imp:Prop:=im2 C (N 106) (ze7.cps C N)
@[simp] def ze8.k1(Q:zQ)(a b:za)(h:zb):Prop:=B.call C (N 20) [a,b] h λc h=>B.pv (A.bld [(1,none,c)] [.str [],.int .i64 0]) λd=>B.pv (V.zqy 0 2 d (.agg [.str [],.int .i64 0])) λe=>B.pv (oneOf (zm5 (V.zfp 0 2 e) (some []))) λv=>Q v h
@[simp] def ze8.cps(a b:za)(h:zb)(Q:zQ):Prop:=ze8.k1 C N Q a b h
def ze8.Imp:Prop:=im2 C (N 108) (ze8.cps C N)
@[simp] def zfa.k1(Q:zQ)(a b:za)(h:zb):Prop:=B.call C (N 20) [a,b] h λc h=>B.pv (A.bld [(1,none,c)] [.str [],.int .i64 0,.zbp,.zbp]) λd=>B.pv (V.zqy 0 4 d (.agg [.str [],.int .i64 0,.zbp,.zbp])) λe=>B.pv (oneOf (zm5 (V.zfp 0 4 e) (some []))) λv=>Q v h
@[simp] def zfa.cps(a b:za)(h:zb)(Q:zQ):Prop:=zfa.k1 C N Q a b h
def zfa.Imp:Prop:=im2 C (N 109) (zfa.cps C N)
@[simp] def zfb.k1(Q:zQ)(q r:za)(h:zb):Prop:=B.pv (A.zsn 4 q) λc=>B.pv (A.zsn 4 r) λd=>B.al c (B.pv (V.zb9 0 c) λs=>B.al d (B.pv (V.zb9 0 d) λt=>B.pv (V.bin .eql s t) λe=>B.al c (B.gd h e true (λK=>K .undef h) λ_ h=>B.gd h e true (λK=>B.pv (V.zb9 1 c) λv=>K v h) λf h=>B.al d (B.gd h e true (λK=>K .undef h) λ_ h=>B.gd h e true (λK=>B.pv (V.zb9 1 d) λv=>K v h) λg h=>B.gd h e true (λK=>B.pv (V.bin .eql f g) λv=>K v h) λi h=>B.pick e i (.bool false) λa=>B.al c (B.gd h a true (λK=>K .undef h) λ_ h=>B.gd h a true (λK=>B.pv (V.zb9 2 c) λv=>K v h) λj h=>B.al d (B.gd h a true (λK=>K .undef h) λ_ h=>B.gd h a true (λK=>B.pv (V.zb9 2 d) λv=>K v h) λk h=>B.gd h a true (λK=>B.call C (N 132) [j,k] h K) λl h=>B.pick a l (.bool false) λb=>B.al c (B.gd h b true (λK=>K .undef h) λ_ h=>B.gd h b true (λK=>B.pv (V.zb9 3 c) λv=>K v h) λm h=>B.al d (B.gd h b true (λK=>K .undef h) λ_ h=>B.gd h b true (λK=>B.pv (V.zb9 3 d) λv=>K v h) λn h=>B.gd h b true (λK=>B.call C (N 133) [m,n] h K) λo h=>B.pick b o (.bool false) λp=>Q p h))))))))
@[simp] def zfb.cps(a b:za)(h:zb)(Q:zQ):Prop:=zfb.k1 C N Q a b h
def zfb.Imp:Prop:=im2 C (N 110) (zfb.cps C N)
@[simp] def ze9.k1(Q:zQ)(a b:za)(h:zb):Prop:=B.call C (N 20) [a,b] h λc h=>B.pv (A.bld [(0,none,c)] [.int .i64 0,.str [],.int .i64 0,.int .i64 0,.int .i64 0,.int .u8 0,.int .i64 0,.str []]) λd=>B.pv (V.zqy 0 8 d (.agg [.int .i64 0,.str [],.int .i64 0,.int .i64 0,.int .i64 0,.int .u8 0,.int .i64 0,.str []])) λe=>B.pv (oneOf (zm5 (V.zfp 0 8 e) (some []))) λv=>Q v h
@[simp] def ze9.cps(a b:za)(h:zb)(Q:zQ):Prop:=ze9.k1 C N Q a b h
def ze9.Imp:Prop:=im2 C (N 111) (ze9.cps C N)
@[simp] def zfg.k1(Q:zQ)(a b:za)(h:zb):Prop:=B.call C (N 20) [a,b] h λc h=>B.pv (A.bld [(0,none,c)] [.int .i64 0,.int .i64 0,.int .i64 0,.zbp,.zbp,.zbp]) λd=>B.pv (V.zqy 0 6 d (.agg [.int .i64 0,.int .i64 0,.int .i64 0,.zbp,.zbp,.zbp])) λe=>B.pv (oneOf (zm5 (V.zfp 0 6 e) (some []))) λv=>Q v h
@[simp] def zfg.cps(a b:za)(h:zb)(Q:zQ):Prop:=zfg.k1 C N Q a b h
def zfg.Imp:Prop:=im2 C (N 115) (zfg.cps C N)
@[simp] def zem.k1(Q:zQ)(z v1:za)(h:zb):Prop:=B.pv (A.zsn 6 z) λa=>B.pv (A.zsn 6 v1) λb=>B.al a (B.pv (V.zb9 0 a) λv6=>B.al b (B.pv (V.zb9 0 b) λv8=>B.pv (V.bin .eql v6 v8) λg=>B.al a (B.gd h g true (λK=>K .undef h) λ_ h=>B.gd h g true (λK=>B.pv (V.zb9 1 a) λv=>K v h) λi h=>B.al b (B.gd h g true (λK=>K .undef h) λ_ h=>B.gd h g true (λK=>B.pv (V.zb9 1 b) λv=>K v h) λj h=>B.gd h g true (λK=>B.pv (V.bin .eql i j) λv=>K v h) λk h=>B.pick g k (.bool false) λc=>B.al a (B.gd h c true (λK=>K .undef h) λ_ h=>B.gd h c true (λK=>B.pv (V.zb9 2 a) λv=>K v h) λl h=>B.al b (B.gd h c true (λK=>K .undef h) λ_ h=>B.gd h c true (λK=>B.pv (V.zb9 2 b) λv=>K v h) λm h=>B.gd h c true (λK=>B.pv (V.bin .eql l m) λv=>K v h) λn h=>B.pick c n (.bool false) λd=>B.al a (B.gd h d true (λK=>K .undef h) λ_ h=>B.gd h d true (λK=>B.pv (V.zb9 3 a) λv=>K v h) λo h=>B.al b (B.gd h d true (λK=>K .undef h) λ_ h=>B.gd h d true (λK=>B.pv (V.zb9 3 b) λv=>K v h) λp h=>B.gd h d true (λK=>B.call C (N 134) [o,p] h K) λq h=>B.pick d q (.bool false) λe=>B.al a (B.gd h e true (λK=>K .undef h) λ_ h=>B.gd h e true (λK=>B.pv (V.zb9 4 a) λv=>K v h) λr h=>B.al b (B.gd h e true (λK=>K .undef h) λ_ h=>B.gd h e true (λK=>B.pv (V.zb9 4 b) λv=>K v h) λs h=>B.gd h e true (λK=>B.call C (N 74) [r,s] h K) λt h=>B.pick e t (.bool false) λf=>B.al a (B.gd h f true (λK=>K .undef h) λ_ h=>B.gd h f true (λK=>B.pv (V.zb9 5 a) λv=>K v h) λu h=>B.al b (B.gd h f true (λK=>K .undef h) λ_ h=>B.gd h f true (λK=>B.pv (V.zb9 5 b) λv=>K v h) λw h=>B.gd h f true (λK=>B.call C (N 135) [u,w] h K) λx h=>B.pick f x (.bool false) λy=>Q y h))))))))))))
@[simp] def zem.cps(a b:za)(h:zb)(Q:zQ):Prop:=zem.k1 C N Q a b h
def zem.Imp:Prop:=im2 C (N 116) (zem.cps C N)
@[simp] def zfr.k1(C:zh)(N:zN)(Q:zQ)(a f:za)(h:zb):Prop:=B.nilCheck a λg=>B.pv (V.fieldAddr 6 g) λi=>B.ld h i λj=>B.zhb h (zer [(0,none,f)] (zgc 1 [.zbp])) λb h=>B.ziw h 1 24 j (.sl b 0 0 1 1 1) λc h=>B.nilCheck a λd=>B.pv (V.fieldAddr 6 d) λe=>B.st h e c λh=>Q (.tup []) h
@[simp] def zfr.cps(a b:za)(h:zb)(Q:zQ):Prop:=zfr.k1 C N Q a b h
def zfr.Imp:Prop:=im2 C (N 130) (zfr.cps C N)
@[simp] def zev.k3(C:zh)(N:zN)(Q:zQ)(a b:za)(h:zb):Prop:=B.pv (V.zbg a) λd=>B.pv (V.zbg b) λe=>B.pv (V.bin .neq d e) λc=>B.cond c (Q (.bool false) h) (zd (zp0.l4 2 [.s,.i .i64] Q a b) [(.int .i64 0)] h)
def zev.cps(a b:za)(h:zb)(Q:zQ):Prop:=zev.k3 C N Q a b h
def zev.Imp:Prop:=im2 C (N 132) (zev.cps C N)
@[simp] def zed.k3(C:zh)(N:zN)(Q:zQ)(a b:za)(h:zb):Prop:=B.pv (V.zbg a) λd=>B.pv (V.zbg b) λe=>B.pv (V.bin .neq d e) λc=>B.cond c (Q (.bool false) h) (zd (zya.l4  Q a b) [(.int .i64 0)] h)
def zed.cps(a b:za)(h:zb)(Q:zQ):Prop:=zed.k3 C N Q a b h
def zed.Imp:Prop:=im2 C (N 133) (zed.cps C N)
@[simp] def zd0.k1(Q:zQ)(Y1:zL)(b m a:za)(h:zb):Prop:=B.pv (V.zbg b) λc=>B.pv (V.bin .lss a c) λd=>B.cond d (B.pv (V.zb4 4 b a) λe=>B.ldn h e 4 λf=>B.pv (V.zb4 4 m a) λg=>B.ldn h g 4 λi=>B.call C (N 110) [f,i] h λj h=>B.pv (V.un .not j) λk=>B.cond k (Q (.bool false) h) (B.pv (V.bin .add a (.int .i64 1)) λl=>Y1 [l] h)) (Q (.bool true) h)
@[simp] def zd0.l2(Q:zQ)(a b:za):zG|[c],h,Y1=>zd0.k1 C N Q Y1 a b c h|_,_,_=>False
@[simp] def zd0.k3(Q:zQ)(a b:za)(h:zb):Prop:=B.pv (V.zbg a) λd=>B.pv (V.zbg b) λe=>B.pv (V.bin .neq d e) λc=>B.cond c (Q (.bool false) h) (zd (zd0.l2 C N Q a b) [(.int .i64 0)] h)
@[simp] def zd0.cps(a b:za)(h:zb)(Q:zQ):Prop:=zd0.k3 C N Q a b h
def zd0.Imp:Prop:=im2 C (N 134) (zd0.cps C N)
@[simp] def zew.k3(C:zh)(N:zN)(Q:zQ)(a b:za)(h:zb):Prop:=B.pv (V.zbg a) λd=>B.pv (V.zbg b) λe=>B.pv (V.bin .neq d e) λc=>B.cond c (Q (.bool false) h) (zd (zp0.l4 8 [.i .i64,.s,.i .i64,.i .i64,.i .i64,.i .u8,.i .i64,.s] Q a b) [(.int .i64 0)] h)
def zew.cps(a b:za)(h:zb)(Q:zQ):Prop:=zew.k3 C N Q a b h
def zew.Imp:Prop:=im2 C (N 135) (zew.cps C N)
@[simp] def zez.k3(Q:zQ)(a:za)(h:zb):Prop:=B.pv (V.zbg a) λc=>B.pv (V.bin .add c (.int .i64 12)) λd=>0<8 /\ B.mks h 80 (some [.int .i64 0,.str [],.int .i64 0,.int .i64 0,.int .i64 0,.int .u8 0,.int .i64 0,.str []]) (.int .i64 0) d λe h=>B.ziw h 8 80 e a λb h=>zd (zoi.l4 C 8 80 (N 111) [.int .i64 0,.str [],.int .i64 0,.int .i64 0,.int .i64 0,.int .u8 0,.int .i64 0,.str []] 1 Q a) [b,(.int .i64 0)] h
def zez.cps(a:za)(h:zb)(Q:zQ):Prop:=zez.k3 C N Q a h
def zez.Imp:Prop:=im1 C (N 186) (zez.cps C N)
@[simp] def zef.k3(Q:zQ)(e a:za)(h:zb):Prop:=B.pv (V.zbg a) λb=>B.pv (V.bin .add b (.int .i64 12)) λc=>B.pv (V.zhn 8 e none (some c)) λd=>zd (zqa.l4 C 8 (N 111) [.i .i64,.s,.i .i64,.i .i64,.i .i64,.i .u8,.i .i64,.s] 1 Q a d) [(.int .i64 0)] h
@[simp] def zef.k4(Q:zQ)(a b:za)(h:zb):Prop:=B.pv (V.zbg a) λe=>B.pv (V.zbg b) λc=>B.pv (V.bin .neq e c) λd=>B.cond d (Q (.bool false) h) (zef.k3 C N Q a b h)
def zef.cps(a b:za)(h:zb)(Q:zQ):Prop:=zef.k4 C N Q a b h
def zef.Imp:Prop:=im2 C (N 189) (zef.cps C N)
@[simp] def zfj.k3(Q:zQ)(a:za)(h:zb):Prop:=B.pv (V.zbg a) λb=>B.pv (V.bin .add b (.int .i64 12)) λc=>B.pv (V.zhn 8 a none (some c)) λd=>zd (znj.l3 C 8 (N 111) (λh p v K=>B.stn h p 8 v K) 2 Q d) [(.int .i64 0)] h
def zfj.cps(a:za)(h:zb)(Q:zQ):Prop:=zfj.k3 C N Q a h
def zfj.Imp:Prop:=im1 C (N 190) (zfj.cps C N)
@[simp] def ze5.k1(C:zh)(N:zN)(Q:zQ)(a f:za)(h:zb):Prop:=B.nilCheck a λg=>B.pv (V.fieldAddr 11 g) λi=>B.ld h i λj=>B.zhb h (zer [(0,none,f)] (zgc 1 [.zbp])) λb h=>B.ziw h 1 24 j (.sl b 0 0 1 1 1) λc h=>B.nilCheck a λd=>B.pv (V.fieldAddr 11 d) λe=>B.st h e c λh=>Q (.tup []) h
@[simp] def ze5.cps(a b:za)(h:zb)(Q:zQ):Prop:=ze5.k1 C N Q a b h
def ze5.Imp:Prop:=im2 C (N 207) (ze5.cps C N)
@[simp] def zey.k3(Q:zQ)(a:za)(h:zb):Prop:=B.pv (V.zbg a) λc=>B.pv (V.bin .add c (.int .i64 12)) λd=>0<2 /\ B.mks h 24 (some [.str [],.int .i64 0]) (.int .i64 0) d λe h=>B.ziw h 2 24 e a λb h=>zd (zoi.l4 C 2 24 (N 108) [.str [],.int .i64 0] 1 Q a) [b,(.int .i64 0)] h
def zey.cps(a:za)(h:zb)(Q:zQ):Prop:=zey.k3 C N Q a h
def zey.Imp:Prop:=im1 C (N 319) (zey.cps C N)
@[simp] def zee.k3(Q:zQ)(e a:za)(h:zb):Prop:=B.pv (V.zbg a) λb=>B.pv (V.bin .add b (.int .i64 12)) λc=>B.pv (V.zhn 2 e none (some c)) λd=>zd (zqa.l4 C 2 (N 108) [.s,.i .i64] 1 Q a d) [(.int .i64 0)] h
@[simp] def zee.k4(Q:zQ)(a b:za)(h:zb):Prop:=B.pv (V.zbg a) λe=>B.pv (V.zbg b) λc=>B.pv (V.bin .neq e c) λd=>B.cond d (Q (.bool false) h) (zee.k3 C N Q a b h)
def zee.cps(a b:za)(h:zb)(Q:zQ):Prop:=zee.k4 C N Q a b h
def zee.Imp:Prop:=im2 C (N 324) (zee.cps C N)
@[simp] def zcz.k1(Q:zQ)(Y1:zL)(k b a:za)(h:zb):Prop:=B.pv (V.bin .lss a (.int .i64 12)) λc=>B.cond c (B.call C (N 109) [(.int .i64 1),a] h λd h=>B.zhb h (zer [(0,some 4,d)] (zgc 1 [.str [],.int .i64 0,.zbp,.zbp])) λe h=>B.ziw h 4 72 b (.sl e 0 0 1 4 1) λf h=>B.pv (V.bin .add a (.int .i64 1)) λg=>Y1 [f,g] h) (B.pv (V.zbg k) λi=>B.pv (V.zhn 4 b none (some i)) λj=>Q j h)
@[simp] def zcz.l2(Q:zQ)(a:za):zG|[b,c],h,Y1=>zcz.k1 C N Q Y1 a b c h|_,_,_=>False
@[simp] def zcz.k3(Q:zQ)(Y2:zL)(a c b:za)(h:zb):Prop:=B.pv (V.zbg a) λd=>B.pv (V.bin .lss b d) λe=>B.cond e (B.pv (V.zb4 4 a b) λf=>B.ldn h f 4 λg=>B.call C (N 399) [g] h λi h=>B.pv (V.zqy 0 4 i (.agg [.str [],.int .i64 0,.zbp,.zbp])) λn=>B.pv (V.zfp 0 4 n) λj=>B.zhb h (zer [(0,some 4,j)] (zgc 1 [.str [],.int .i64 0,.zbp,.zbp])) λk h=>B.ziw h 4 72 c (.sl k 0 0 1 4 1) λl h=>B.pv (V.bin .add b (.int .i64 1)) λm=>Y2 [l,m] h) (zd (zcz.l2 C N Q a) [c,(.int .i64 0)] h)
@[simp] def zcz.l4(Q:zQ)(a:za):zG|[b,c],h,Y2=>zcz.k3 C N Q Y2 a b c h|_,_,_=>False
@[simp] def zcz.k5(Q:zQ)(a:za)(h:zb):Prop:=B.pv (V.zbg a) λc=>B.pv (V.bin .add c (.int .i64 12)) λd=>0<4 /\ B.mks h 72 (some [.str [],.int .i64 0,.zbp,.zbp]) (.int .i64 0) d λb h=>zd (zcz.l4 C N Q a) [b,(.int .i64 0)] h
@[simp] def zcz.cps(a:za)(h:zb)(Q:zQ):Prop:=zcz.k5 C N Q a h
def zcz.Imp:Prop:=im1 C (N 391) (zcz.cps C N)
@[simp] def zdj.k1(Q:zQ)(Y1:zL)(e g d:za)(h:zb):Prop:=B.pv (V.zbg g) λi=>B.pv (V.bin .lss d i) λj=>B.cond j (B.pv (V.zbg e) λk=>B.pv (V.bin .lss d k) λb=>B.gd h b true (λK=>K g h) λl h=>B.gd h b true (λK=>K d h) λm h=>B.gd h b true (λK=>B.pv (V.zb4 4 l m) λv=>K v h) λn h=>B.gd h b true (λK=>B.ldn h n 4 λv=>K v h) λo h=>B.gd h b true (λK=>K e h) λp h=>B.gd h b true (λK=>K d h) λq h=>B.gd h b true (λK=>B.pv (V.zb4 4 p q) λv=>K v h) λr h=>B.gd h b true (λK=>B.ldn h r 4 λv=>K v h) λs h=>B.gd h b true (λK=>B.call C (N 400) [o,s] h K) λt h=>B.gd h b true (λK=>B.pv (V.un .not t) λv=>K v h) λu h=>B.pick b u (.bool false) λc=>B.gd h c false (λK=>K d h) λw h=>B.gd h c false (λK=>K e h) λx h=>B.gd h c false (λK=>B.pv (V.zbg x) λv=>K v h) λy h=>B.gd h c false (λK=>B.pv (V.bin .geq w y) λv=>K v h) λz h=>B.gd h c false (λK=>K z h) λa h=>B.gd h a true (λK=>K g h) λaa h=>B.gd h a true (λK=>K d h) λab h=>B.gd h a true (λK=>B.pv (V.zb4 4 aa ab) λv=>K v h) λf h=>B.gd h a true (λK=>B.ldn h f 4 λv=>K v h) λac h=>B.gd h a true (λK=>K d h) λad h=>B.gd h a true (λK=>K e h) λae h=>B.gd h a true (λK=>B.pv (V.zbg ae) λv=>K v h) λaf h=>B.gd h a true (λK=>B.pv (V.bin .sub ad af) λv=>K v h) λag h=>B.gd h a true (λK=>B.call C (N 109) [(.int .i64 1),ag] h (B.zoy h [(f,some 4)] K)) λah h=>B.gd h a true (λK=>B.call C (N 110) [ac,ah] h K) λai h=>B.gd h a true (λK=>B.pv (V.un .not ai) λv=>K v h) λaj h=>B.gd h c false (λK=>B.pick a aj (.bool false) λv=>K v h) λak h=>B.pick c (.bool true) ak λal=>B.cond al (Q (.bool false) h) (B.pv (V.bin .add d (.int .i64 1)) λam=>Y1 [am] h)) (Q (.bool true) h)
@[simp] def zdj.l2(Q:zQ)(a b:za):zG|[c],h,Y1=>zdj.k1 C N Q Y1 a b c h|_,_,_=>False
@[simp] def zdj.k3(Q:zQ)(e a:za)(h:zb):Prop:=B.pv (V.zbg a) λb=>B.pv (V.bin .add b (.int .i64 12)) λc=>B.pv (V.zhn 4 e none (some c)) λd=>zd (zdj.l2 C N Q a d) [(.int .i64 0)] h
@[simp] def zdj.k4(Q:zQ)(a b:za)(h:zb):Prop:=B.pv (V.zbg a) λe=>B.pv (V.zbg b) λc=>B.pv (V.bin .neq e c) λd=>B.cond d (Q (.bool false) h) (zdj.k3 C N Q a b h)
@[simp] def zdj.cps(a b:za)(h:zb)(Q:zQ):Prop:=zdj.k4 C N Q a b h
def zdj.Imp:Prop:=im2 C (N 392) (zdj.cps C N)
@[simp] def zc4.k1(Q:zQ)(Y1:zL)(b a:za)(h:zb):Prop:=B.pv (V.zbg b) λc=>B.pv (V.bin .lss a c) λd=>B.cond d (B.call C (N 109) [(.int .i64 2),a] h λe h=>B.pv (V.zb4 4 b a) λf=>B.stn h f 4 e λh=>B.pv (V.bin .add a (.int .i64 1)) λg=>Y1 [g] h) (Q (.tup []) h)
@[simp] def zc4.l2(Q:zQ)(a:za):zG|[b],h,Y1=>zc4.k1 C N Q Y1 a b h|_,_,_=>False
@[simp] def zc4.k3(Q:zQ)(a:za)(h:zb):Prop:=B.pv (V.zbg a) λb=>B.pv (V.bin .add b (.int .i64 12)) λc=>B.pv (V.zhn 4 a none (some c)) λd=>zd (zc4.l2 C N Q d) [(.int .i64 0)] h
@[simp] def zc4.k4(Q:zQ)(Y2:zL)(a b:za)(h:zb):Prop:=B.pv (V.zbg a) λf=>B.pv (V.bin .lss b f) λg=>B.cond g (B.pv (V.zb4 4 a b) λc=>B.ldn h c 4 λd=>B.call C (N 401) [d] h λi h=>B.pv (V.bin .add b (.int .i64 1)) λe=>Y2 [e] h) (zc4.k3 C N Q a h)
@[simp] def zc4.l5(Q:zQ)(a:za):zG|[b],h,Y2=>zc4.k4 C N Q Y2 a b h|_,_,_=>False
@[simp] def zc4.cps(a:za)(h:zb)(Q:zQ):Prop:=zd (zc4.l5 C N Q a) [(.int .i64 0)] h
def zc4.Imp:Prop:=im1 C (N 393) (zc4.cps C N)
@[simp] def zd3.k1(Q:zQ)(Y1:zL)(b c a:za)(h:zb):Prop:=B.pv (V.zbg b) λj=>B.pv (V.bin .lss a j) λd=>B.cond d (B.pv (V.zb4 1 b a) λe=>B.ld h e λf=>B.call C (N 405) [c,f] h λk h=>B.pv (V.bin .add a (.int .i64 1)) λg=>Y1 [g] h) (B.call C (N 62) [c] h λi h=>Q i h)
@[simp] def zd3.l2(Q:zQ)(a b:za):zG|[c],h,Y1=>zd3.k1 C N Q Y1 a b c h|_,_,_=>False
@[simp] def zd3.k3(Q:zQ)(a:za)(h:zb):Prop:=B.pv (A.bld [] [.zbp,.zbp,.zbp,.zbp,.zbp,.zbp,.zbp,.zbp,.zbp,.zbp,.zbp,.zbp,.zbp,.zbp,.zbp,.zbp,.zbp,.zbp,.zbp,.zbp,.zbp,.zbp,.zbp]) λb=>B.zhb h (A.zo3 23 b) λc h=>zd (zd3.l2 C N Q a (.ptr c 0 0)) [(.int .i64 0)] h
@[simp] def zd3.cps(a:za)(h:zb)(Q:zQ):Prop:=zd3.k3 C N Q a h
def zd3.Imp:Prop:=im1 C (N 396) (zd3.cps C N)
@[simp] def zf3.k1(Q:zQ)(c:za)(h:zb):Prop:=B.pv (A.zsn 4 c) λa=>B.al a (B.pv (V.zb9 2 a) λd=>B.call C (N 319) [d] h λe h=>B.al a (B.pv (V.zx9 2 e a) λa=>B.al a (B.pv (V.zb9 3 a) λf=>B.call C (N 406) [f] h λg h=>B.al a (B.pv (V.zx9 3 g a) λa=>B.pv (V.zfp 0 4 a) λb=>B.pv (V.zqy 0 4 b (.agg [.str [],.int .i64 0,.zbp,.zbp])) λi=>B.pv (oneOf (zm5 (V.zfp 0 4 i) (some []))) λv=>Q v h))))
@[simp] def zf3.cps(a:za)(h:zb)(Q:zQ):Prop:=zf3.k1 C N Q a h
def zf3.Imp:Prop:=im1 C (N 399) (zf3.cps C N)
@[simp] def zf4.k1(Q:zQ)(m n:za)(h:zb):Prop:=B.pv (A.zsn 4 m) λc=>B.pv (A.zsn 4 n) λd=>B.pv (V.zfp 0 4 c) λo=>B.pv (V.zfp 0 4 d) λp=>B.call C (N 110) [o,p] h λb h=>B.al c (B.gd h b true (λK=>K .undef h) λ_ h=>B.gd h b true (λK=>B.pv (V.zb9 2 c) λv=>K v h) λe h=>B.al d (B.gd h b true (λK=>K .undef h) λ_ h=>B.gd h b true (λK=>B.pv (V.zb9 2 d) λv=>K v h) λf h=>B.gd h b true (λK=>B.call C (N 324) [e,f] h K) λg h=>B.pick b g (.bool false) λa=>B.al c (B.gd h a true (λK=>K .undef h) λ_ h=>B.gd h a true (λK=>B.pv (V.zb9 3 c) λv=>K v h) λi h=>B.al d (B.gd h a true (λK=>K .undef h) λ_ h=>B.gd h a true (λK=>B.pv (V.zb9 3 d) λv=>K v h) λj h=>B.gd h a true (λK=>B.call C (N 407) [i,j] h K) λk h=>B.pick a k (.bool false) λl=>Q l h))))
@[simp] def zf4.cps(a b:za)(h:zb)(Q:zQ):Prop:=zf4.k1 C N Q a b h
def zf4.Imp:Prop:=im2 C (N 400) (zf4.cps C N)
@[simp] def zf2.k1(Q:zQ)(b:za)(h:zb):Prop:=B.pv (A.zsn 4 b) λa=>B.al a (B.pv (V.zb9 2 a) λc=>B.call C (N 408) [c] h λe h=>B.al a (B.pv (V.zb9 3 a) λd=>B.call C (N 409) [d] h λf h=>Q (.tup []) h))
@[simp] def zf2.cps(a:za)(h:zb)(Q:zQ):Prop:=zf2.k1 C N Q a h
def zf2.Imp:Prop:=im1 C (N 401) (zf2.cps C N)
@[simp] def ze3.k1(C:zh)(N:zN)(Q:zQ)(a f:za)(h:zb):Prop:=B.nilCheck a λg=>B.pv (V.fieldAddr 3 g) λi=>B.ld h i λj=>B.zhb h (zer [(0,none,f)] (zgc 1 [.zbp])) λb h=>B.ziw h 1 24 j (.sl b 0 0 1 1 1) λc h=>B.nilCheck a λd=>B.pv (V.fieldAddr 3 d) λe=>B.st h e c λh=>Q (.tup []) h
@[simp] def ze3.cps(a b:za)(h:zb)(Q:zQ):Prop:=ze3.k1 C N Q a b h
def ze3.Imp:Prop:=im2 C (N 405) (ze3.cps C N)
@[simp] def zen.k3(Q:zQ)(a:za)(h:zb):Prop:=B.pv (V.zbg a) λc=>B.pv (V.bin .add c (.int .i64 12)) λd=>0<1 /\ B.mks h 16 (some [.str []]) (.int .i64 0) d λe h=>B.ziw h 1 16 e a λb h=>zd (zv4.l4 C 16 (N 106) (.str []) 1 Q a) [b,(.int .i64 0)] h
def zen.cps(a:za)(h:zb)(Q:zQ):Prop:=zen.k3 C N Q a h
def zen.Imp:Prop:=im1 C (N 406) (zen.cps C N)
@[simp] def zd8.k3(Q:zQ)(e a:za)(h:zb):Prop:=B.pv (V.zbg a) λb=>B.pv (V.bin .add b (.int .i64 12)) λc=>B.pv (V.zhn 1 e none (some c)) λd=>zd (zxq.l4 C (N 106) 1 Q a d) [(.int .i64 0)] h
@[simp] def zd8.k4(Q:zQ)(a b:za)(h:zb):Prop:=B.pv (V.zbg a) λe=>B.pv (V.zbg b) λc=>B.pv (V.bin .neq e c) λd=>B.cond d (Q (.bool false) h) (zd8.k3 C N Q a b h)
def zd8.cps(a b:za)(h:zb)(Q:zQ):Prop:=zd8.k4 C N Q a b h
def zd8.Imp:Prop:=im2 C (N 407) (zd8.cps C N)
@[simp] def zfi.k3(Q:zQ)(a:za)(h:zb):Prop:=B.pv (V.zbg a) λb=>B.pv (V.bin .add b (.int .i64 12)) λc=>B.pv (V.zhn 2 a none (some c)) λd=>zd (znj.l3 C 2 (N 108) (λh p v K=>B.stn h p 2 v K) 2 Q d) [(.int .i64 0)] h
def zfi.cps(a:za)(h:zb)(Q:zQ):Prop:=zfi.k3 C N Q a h
def zfi.Imp:Prop:=im1 C (N 408) (zfi.cps C N)
@[simp] def zex.k3(Q:zQ)(a:za)(h:zb):Prop:=B.pv (V.zbg a) λb=>B.pv (V.bin .add b (.int .i64 12)) λc=>B.pv (V.zhn 1 a none (some c)) λd=>zd (znj.l3 C 1 (N 106) (λh p v K=>B.st h p v K) 2 Q d) [(.int .i64 0)] h
def zex.cps(a:za)(h:zb)(Q:zQ):Prop:=zex.k3 C N Q a h
def zex.Imp:Prop:=im1 C (N 409) (zex.cps C N)
@[simp] def zfk.k1(Q:zQ)(e:za)(h:zb):Prop:=B.pv (A.zsn 6 e) λa=>B.al a (B.pv (V.zb9 3 a) λf=>B.call C (N 391) [f] h λg h=>B.al a (B.pv (V.zx9 3 g a) λa=>B.al a (B.pv (V.zb9 4 a) λi=>B.call C (N 48) [i] h λj h=>B.al a (B.pv (V.zx9 4 j a) λa=>B.al a (B.pv (V.zb9 5 a) λb=>B.call C (N 186) [b] h λc h=>B.al a (B.pv (V.zx9 5 c a) λa=>B.pv (V.zfp 0 6 a) λd=>B.pv (V.zqy 0 6 d (.agg [.int .i64 0,.int .i64 0,.int .i64 0,.zbp,.zbp,.zbp])) λk=>B.pv (oneOf (zm5 (V.zfp 0 6 k) (some []))) λv=>Q v h))))))
@[simp] def zfk.cps(a:za)(h:zb)(Q:zQ):Prop:=zfk.k1 C N Q a h
def zfk.Imp:Prop:=im1 C (N 446) (zfk.cps C N)
@[simp] def zfl.k1(Q:zQ)(q r:za)(h:zb):Prop:=B.pv (A.zsn 6 q) λc=>B.pv (A.zsn 6 r) λd=>B.pv (V.zfp 0 6 c) λs=>B.pv (V.zfp 0 6 d) λt=>B.call C (N 116) [s,t] h λe h=>B.al c (B.gd h e true (λK=>K .undef h) λ_ h=>B.gd h e true (λK=>B.pv (V.zb9 3 c) λv=>K v h) λf h=>B.al d (B.gd h e true (λK=>K .undef h) λ_ h=>B.gd h e true (λK=>B.pv (V.zb9 3 d) λv=>K v h) λg h=>B.gd h e true (λK=>B.call C (N 392) [f,g] h K) λi h=>B.pick e i (.bool false) λa=>B.al c (B.gd h a true (λK=>K .undef h) λ_ h=>B.gd h a true (λK=>B.pv (V.zb9 4 c) λv=>K v h) λj h=>B.al d (B.gd h a true (λK=>K .undef h) λ_ h=>B.gd h a true (λK=>B.pv (V.zb9 4 d) λv=>K v h) λk h=>B.gd h a true (λK=>B.call C (N 54) [j,k] h K) λl h=>B.pick a l (.bool false) λb=>B.al c (B.gd h b true (λK=>K .undef h) λ_ h=>B.gd h b true (λK=>B.pv (V.zb9 5 c) λv=>K v h) λm h=>B.al d (B.gd h b true (λK=>K .undef h) λ_ h=>B.gd h b true (λK=>B.pv (V.zb9 5 d) λv=>K v h) λn h=>B.gd h b true (λK=>B.call C (N 189) [m,n] h K) λo h=>B.pick b o (.bool false) λp=>Q p h))))))
@[simp] def zfl.cps(a b:za)(h:zb)(Q:zQ):Prop:=zfl.k1 C N Q a b h
def zfl.Imp:Prop:=im2 C (N 447) (zfl.cps C N)
@[simp] def zfh.k1(Q:zQ)(b:za)(h:zb):Prop:=B.pv (A.zsn 6 b) λa=>B.al a (B.pv (V.zb9 3 a) λc=>B.call C (N 393) [c] h λg h=>B.al a (B.pv (V.zb9 4 a) λd=>B.call C (N 56) [d] h λi h=>B.al a (B.pv (V.zb9 5 a) λe=>B.call C (N 190) [e] h λf h=>Q (.tup []) h)))
@[simp] def zfh.cps(a:za)(h:zb)(Q:zQ):Prop:=zfh.k1 C N Q a h
def zfh.Imp:Prop:=im1 C (N 448) (zfh.cps C N)
@[simp] def zdz.k1(Q:zQ)(Y1:zL)(b c a:za)(h:zb):Prop:=B.pv (V.zbg b) λj=>B.pv (V.bin .lss a j) λd=>B.cond d (B.pv (V.zb4 1 b a) λe=>B.ld h e λf=>B.call C (N 470) [c,f] h λk h=>B.pv (V.bin .add a (.int .i64 1)) λg=>Y1 [g] h) (B.call C (N 62) [c] h λi h=>Q i h)
@[simp] def zdz.l2(Q:zQ)(a b:za):zG|[c],h,Y1=>zdz.k1 C N Q Y1 a b c h|_,_,_=>False
@[simp] def zdz.k3(Q:zQ)(a:za)(h:zb):Prop:=B.pv (A.bld [] [.zbp,.zbp,.zbp,.zbp,.zbp,.zbp,.zbp,.zbp,.zbp,.zbp,.zbp,.zbp,.zbp,.zbp,.zbp,.zbp,.zbp,.zbp,.zbp,.zbp,.zbp,.zbp,.zbp]) λb=>B.zhb h (A.zo3 23 b) λc h=>zd (zdz.l2 C N Q a (.ptr c 0 0)) [(.int .i64 0)] h
@[simp] def zdz.cps(a:za)(h:zb)(Q:zQ):Prop:=zdz.k3 C N Q a h
def zdz.Imp:Prop:=im1 C (N 453) (zdz.cps C N)
@[simp] def zdc.k1(Q:zQ)(Y1:zL)(i b a:za)(h:zb):Prop:=B.pv (V.zbg b) λc=>B.pv (V.bin .lss a c) λd=>B.cond d (B.pv (V.zb4 6 b a) λe=>B.ldn h e 6 λf=>B.call C (N 473) [i,f] h λj h=>B.pv (V.bin .add a (.int .i64 1)) λg=>Y1 [g] h) (Q (.tup []) h)
@[simp] def zdc.l2(Q:zQ)(a b:za):zG|[c],h,Y1=>zdc.k1 C N Q Y1 a b c h|_,_,_=>False
@[simp] def zdc.k3(Q:zQ)(a b:za)(h:zb):Prop:=B.nilCheck a λg=>B.pv (V.fieldAddr 14 g) λi=>B.ld h i λj=>B.zhb h (zer [(0,none,b)] (zgc 1 [.zbp])) λc h=>B.ziw h 1 24 j (.sl c 0 0 1 1 1) λd h=>B.nilCheck a λe=>B.pv (V.fieldAddr 14 e) λf=>B.st h f d λh=>zd (zdc.l2 C N Q a b) [(.int .i64 0)] h
@[simp] def zdc.cps(a b:za)(h:zb)(Q:zQ):Prop:=zdc.k3 C N Q a b h
def zdc.Imp:Prop:=im2 C (N 470) (zdc.cps C N)
@[simp] def ze6.k1(Q:zQ)(b e:za)(h:zb):Prop:=B.pv (A.zsn 6 e) λa=>B.al a (B.pv (V.zb9 3 a) λf=>B.call C (N 475) [b,f] h λj h=>B.al a (B.pv (V.zb9 4 a) λc=>B.call C (N 130) [b,c] h λg h=>B.al a (B.pv (V.zb9 5 a) λd=>B.call C (N 207) [b,d] h λi h=>Q (.tup []) h)))
@[simp] def ze6.cps(a b:za)(h:zb)(Q:zQ):Prop:=ze6.k1 C N Q a b h
def ze6.Imp:Prop:=im2 C (N 473) (ze6.cps C N)
@[simp] def zdp.k1(Q:zQ)(Y1:zL)(i b a:za)(h:zb):Prop:=B.pv (V.zbg b) λc=>B.pv (V.bin .lss a c) λd=>B.cond d (B.pv (V.zb4 4 b a) λe=>B.ldn h e 4 λf=>B.call C (N 480) [i,f] h λj h=>B.pv (V.bin .add a (.int .i64 1)) λg=>Y1 [g] h) (Q (.tup []) h)
@[simp] def zdp.l2(Q:zQ)(a b:za):zG|[c],h,Y1=>zdp.k1 C N Q Y1 a b c h|_,_,_=>False
@[simp] def zdp.k3(Q:zQ)(a b:za)(h:zb):Prop:=B.nilCheck a λg=>B.pv (V.fieldAddr 10 g) λi=>B.ld h i λj=>B.zhb h (zer [(0,none,b)] (zgc 1 [.zbp])) λc h=>B.ziw h 1 24 j (.sl c 0 0 1 1 1) λd h=>B.nilCheck a λe=>B.pv (V.fieldAddr 10 e) λf=>B.st h f d λh=>zd (zdp.l2 C N Q a b) [(.int .i64 0)] h
@[simp] def zdp.cps(a b:za)(h:zb)(Q:zQ):Prop:=zdp.k3 C N Q a b h
def zdp.Imp:Prop:=im2 C (N 475) (zdp.cps C N)
@[simp] def zfs.k1(Q:zQ)(b d:za)(h:zb):Prop:=B.pv (A.zsn 4 d) λa=>B.al a (B.pv (V.zb9 2 a) λe=>B.call C (N 481) [b,e] h λg h=>B.al a (B.pv (V.zb9 3 a) λc=>B.call C (N 405) [b,c] h λf h=>Q (.tup []) h))
@[simp] def zfs.cps(a b:za)(h:zb)(Q:zQ):Prop:=zfs.k1 C N Q a b h
def zfs.Imp:Prop:=im2 C (N 480) (zfs.cps C N)
@[simp] def ze4.k1(C:zh)(N:zN)(Q:zQ)(a f:za)(h:zb):Prop:=B.nilCheck a λg=>B.pv (V.fieldAddr 9 g) λi=>B.ld h i λj=>B.zhb h (zer [(0,none,f)] (zgc 1 [.zbp])) λb h=>B.ziw h 1 24 j (.sl b 0 0 1 1 1) λc h=>B.nilCheck a λd=>B.pv (V.fieldAddr 9 d) λe=>B.st h e c λh=>Q (.tup []) h
@[simp] def ze4.cps(a b:za)(h:zb)(Q:zQ):Prop:=ze4.k1 C N Q a b h
def ze4.Imp:Prop:=im2 C (N 481) (ze4.cps C N)
end Go.Ab
set_option maxRecDepth 100000
namespace Go.Ab
variable{C:zh}{N:zN}
@[irreducible] def mark(k i:Int):Int:=IntKind.i64.wrap (IntKind.i64.wrap (1000003*IntKind.i64.wrap (k+7))+i)
def zhe.Spec(C:zh)(N:zN):Prop:=∀(k i:Int)(h:zb)(Q:zQ),Q (.int .i64 (mark k i)) h->C (N 20) [.int .i64 k,.int .i64 i] h Q
theorem zhe.spec(i:zhe.Imp C N):zhe.Spec C N:=by
 intro k j h Q hq;apply i;simp +contextual -dsimp;unfold mark at hq;exact z8 hq
structure LL where
 x:za
 n:Nat
 xs:Nat->za
 D:Nat->List (List za)
 R:Nat->List (List za)
 W:List (List za)
def LL.obs(es:Nat)(t:LL):List Ob:=zh6 es t.n t.xs t.D t.R
structure LL.ok(t:LL)(h0:zb):Prop where
 is:SlX h0 1 t.x (zhr t.n λj=>[t.xs j]) t.W
 n_le:t.n <= 100000000
 zn7:∀j,j<t.n->(t.D j).length <= 100000000
def zho(C:zh)(es g:Nat):Prop:=∀(t:LL)(h0 h:zb)(Q:zQ),t.ok h0->zcx h0 h (t.obs es)->(∀h',h0.le h'->Q (.bool true) h')->C g [t.x] h Q
def zdl(C:zh)(g:Nat):Prop:=∀(x:za)(W:List (List za))(h0 h:zb)(Q:zQ),SlX h0 1 x [] W->h0.le h->(∀h',h0.le h'->Q (.bool true) h')->C g [x] h Q
theorem zd.once{F:zG}{vs:List za}{h:zb}(hF:∀Y,F vs h Y):zd F vs h:=λY hY=>hY vs h (hF Y)
theorem flatG_nil{E:z6}{x:za}{W:List (List za)}{h0 h:zb}{Q:zQ}(hx:SlX h0 1 x [] W)(hle:h0.le h)(hq:∀h',h0.le h'->Q (.bool true) h'):zw E C x h Q:=by
 have hl:=(hx.mono hle).zbg;refine zd.once λY1=>?_;simp -dsimp[hl];refine(zcx.start h).mks (bytes:=24) (es:=1) (n:=0) (c:=0) (z:=[.zbp]) rfl (by omega) (by omega) (by omega) (by omega) λy h1 ho=>?_;have hl1:=(hx.mono (zb.le_trans hle ho.le)).zbg;refine zd.once λY2=>?_;simp -dsimp[hl1];refine zd.once λY3=>?_;simp -dsimp[hl1];refine zd.once λY4=>?_;simp -dsimp[hl1];refine zd.once λY5=>?_;simp -dsimp[hl1];exact hq _ (zb.le_trans hle ho.le)
def zu4(k i:Int):Lot:=⟨mark k i,[],0,0,0,false⟩
def zfz.Spec(C:zh)(N:zN):Prop:=∀(k i:Int)(h:zb)(Q:zQ),Q (.agg (zu4 k i).cs) h->C (N 77) [.int .i64 k,.int .i64 i] h Q
theorem zfz.spec(i:zfz.Imp C N)(s1:zhe.Spec C N):zfz.Spec C N:=by
 intro k j h Q hq;apply i;simp +contextual -dsimp;refine s1 _ _ _ _ ?_;simp +contextual -dsimp;exact z8 hq
abbrev zq1:List (List za):=marks lotF (zu4 1) 12
def zfv.Spec(C:zh)(N:zN):Prop:=∀(x y:za)(L M:List Lot)(R S:List (List za))(h:zb)(Q:zQ),SlX h 6 x (L.map Lot.cs) R->SlX h 6 y (M.map Lot.cs) S->L.length<4611686018427387904->Q (.bool (decide (L=M))) h->C (N 74) [x,y] h Q
theorem zfv.spec(i:zfv.Imp C N):zfv.Spec C N:=λx y L M R S h Q hx hy hlen hq=>i x y h Q (zuq lotF hx hy hlen (z8 hq))
def zfw.Spec(C:zh)(N:zN):Prop:=∀(x:za)(L:List Lot)(R:List (List za))(h:zb)(Q:zQ),SlX h 6 x (L.map Lot.cs) R->L.length <= 100000000->(∀x' h',zcx h h' [.sl 6 x' (L.map Lot.cs) zq1]->Q x' h')->C (N 48) [x] h Q
theorem zfw.spec(i:zfw.Imp C N)(s1:zfz.Spec C N):zfw.Spec C N:=λx L R h Q hx hlen hq=>i x h Q (zu6 lotF (z:=[.int .i64 0,.str [],.int .i64 0,.int .i64 0,.int .i64 0,.bool false]) (m:=1) (mk:=zu4 1) rfl (by omega) (s1 1) hx hlen λx' h' ho=>z8 (hq x' h' ho))
def zeq.Spec(C:zh)(N:zN):Prop:=∀(x y:za)(L M:List Lot)(R:List (List za))(h:zb)(Q:zQ),SlX h 6 x (L.map Lot.cs) zq1->SlX h 6 y (M.map Lot.cs) R->L.length <= 100000000->Q (.bool (decide (L=M))) h->C (N 54) [x,y] h Q
theorem zeq.spec(i:zeq.Imp C N)(s1:zfz.Spec C N):zeq.Spec C N:=λx y L M R h Q hx hy hlen hq=>i x y h Q (zu7 lotF (m:=1) (mk:=zu4 1) (s1 1) hx hy hlen (z8 hq))
def zf1.Spec(C:zh)(N:zN):Prop:=∀(h0 h:zb)(x:za)(L R:List (List za))(Q:zQ),zcx h0 h [.sl 6 x L R]->R.length=12->L.length <= 100000000->(∀h',h0.le h'->Q (.tup []) h')->C (N 56) [x] h Q
theorem zf1.spec(i:zf1.Imp C N)(s1:zfz.Spec C N):zf1.Spec C N:=λh0 h x L R Q ho hR hlen hq=>i x h Q (zqz (es:=6) (st:=λh p v K=>B.stn h p 6 v K) (by omega) (v:=λi=> .agg (zu4 2 i).cs) (s1 2) (λ{_ _ _ _ _ _ k _} ho hi hK=>over_stN (xs:=(zu4 2 k).cs) rfl ho hi hK) ho hR hlen λh' hle=>z8 (hq h' hle))
theorem zb6.spec(i:zb6.Imp C N)(s1:zfz.Spec C N):zho C 6 (N 86):=λt h0 h Q ht ho hq=>i t.x h Q (zo0 (elF lotF (bytes:=56) (z:=[.int .i64 0,.str [],.int .i64 0,.int .i64 0,.int .i64 0,.bool false]) rfl (by omega) s1) ht.is ho ht.n_le ht.zn7 λh' hle=>z8 (hq h' hle))
def zq2(k i:Int):Part:=⟨[],mark k i⟩
def ze8.Spec(C:zh)(N:zN):Prop:=∀(k i:Int)(h:zb)(Q:zQ),Q (.agg (zq2 k i).cs) h->C (N 108) [.int .i64 k,.int .i64 i] h Q
theorem ze8.spec(i:ze8.Imp C N)(s1:zhe.Spec C N):ze8.Spec C N:=by
 intro k j h Q hq;apply i;simp +contextual -dsimp;refine s1 _ _ _ _ ?_;simp +contextual -dsimp;exact z8 hq
abbrev znl:List (List za):=marks partF (zq2 1) 12
def zev.Spec(C:zh)(N:zN):Prop:=∀(x y:za)(L M:List Part)(R S:List (List za))(h:zb)(Q:zQ),SlX h 2 x (L.map Part.cs) R->SlX h 2 y (M.map Part.cs) S->L.length<4611686018427387904->Q (.bool (decide (L=M))) h->C (N 132) [x,y] h Q
theorem zev.spec(i:zev.Imp C N):zev.Spec C N:=λx y L M R S h Q hx hy hlen hq=>i x y h Q (zuq partF hx hy hlen (z8 hq))
def zey.Spec(C:zh)(N:zN):Prop:=∀(x:za)(L:List Part)(R:List (List za))(h:zb)(Q:zQ),SlX h 2 x (L.map Part.cs) R->L.length <= 100000000->(∀x' h',zcx h h' [.sl 2 x' (L.map Part.cs) znl]->Q x' h')->C (N 319) [x] h Q
theorem zey.spec(i:zey.Imp C N)(s1:ze8.Spec C N):zey.Spec C N:=λx L R h Q hx hlen hq=>i x h Q (zu6 partF (z:=[.str [],.int .i64 0]) (m:=1) (mk:=zq2 1) rfl (by omega) (s1 1) hx hlen λx' h' ho=>z8 (hq x' h' ho))
def zee.Spec(C:zh)(N:zN):Prop:=∀(x y:za)(L M:List Part)(R:List (List za))(h:zb)(Q:zQ),SlX h 2 x (L.map Part.cs) znl->SlX h 2 y (M.map Part.cs) R->L.length <= 100000000->Q (.bool (decide (L=M))) h->C (N 324) [x,y] h Q
theorem zee.spec(i:zee.Imp C N)(s1:ze8.Spec C N):zee.Spec C N:=λx y L M R h Q hx hy hlen hq=>i x y h Q (zu7 partF (m:=1) (mk:=zq2 1) (s1 1) hx hy hlen (z8 hq))
def zfi.Spec(C:zh)(N:zN):Prop:=∀(h0 h:zb)(x:za)(L R:List (List za))(Q:zQ),zcx h0 h [.sl 2 x L R]->R.length=12->L.length <= 100000000->(∀h',h0.le h'->Q (.tup []) h')->C (N 408) [x] h Q
theorem zfi.spec(i:zfi.Imp C N)(s1:ze8.Spec C N):zfi.Spec C N:=λh0 h x L R Q ho hR hlen hq=>i x h Q (zqz (es:=2) (st:=λh p v K=>B.stn h p 2 v K) (by omega) (v:=λi=> .agg (zq2 2 i).cs) (s1 2) (λ{_ _ _ _ _ _ k _} ho hi hK=>over_stN (xs:=(zq2 2 k).cs) rfl ho hi hK) ho hR hlen λh' hle=>z8 (hq h' hle))
theorem zbr.spec(i:zbr.Imp C N)(s1:ze8.Spec C N):zho C 2 (N 89):=λt h0 h Q ht ho hq=>i t.x h Q (zo0 (elF partF (bytes:=24) (z:=[.str [],.int .i64 0]) rfl (by omega) s1) ht.is ho ht.n_le ht.zn7 λh' hle=>z8 (hq h' hle))
def zq3(k i:Int):zmh:=⟨mark k i,[],0,0,0,0,0,[]⟩
def ze9.Spec(C:zh)(N:zN):Prop:=∀(k i:Int)(h:zb)(Q:zQ),Q (.agg (zq3 k i).cs) h->C (N 111) [.int .i64 k,.int .i64 i] h Q
theorem ze9.spec(i:ze9.Imp C N)(s1:zhe.Spec C N):ze9.Spec C N:=by
 intro k j h Q hq;apply i;simp +contextual -dsimp;refine s1 _ _ _ _ ?_;simp +contextual -dsimp;exact z8 hq
abbrev zos:List (List za):=marks lineF (zq3 1) 12
def zew.Spec(C:zh)(N:zN):Prop:=∀(x y:za)(L M:List zmh)(R S:List (List za))(h:zb)(Q:zQ),SlX h 8 x (L.map zmh.cs) R->SlX h 8 y (M.map zmh.cs) S->L.length<4611686018427387904->Q (.bool (decide (L=M))) h->C (N 135) [x,y] h Q
theorem zew.spec(i:zew.Imp C N):zew.Spec C N:=λx y L M R S h Q hx hy hlen hq=>i x y h Q (zuq lineF hx hy hlen (z8 hq))
def zez.Spec(C:zh)(N:zN):Prop:=∀(x:za)(L:List zmh)(R:List (List za))(h:zb)(Q:zQ),SlX h 8 x (L.map zmh.cs) R->L.length <= 100000000->(∀x' h',zcx h h' [.sl 8 x' (L.map zmh.cs) zos]->Q x' h')->C (N 186) [x] h Q
theorem zez.spec(i:zez.Imp C N)(s1:ze9.Spec C N):zez.Spec C N:=λx L R h Q hx hlen hq=>i x h Q (zu6 lineF (z:=[.int .i64 0,.str [],.int .i64 0,.int .i64 0,.int .i64 0,.int .u8 0,.int .i64 0,.str []]) (m:=1) (mk:=zq3 1) rfl (by omega) (s1 1) hx hlen λx' h' ho=>z8 (hq x' h' ho))
def zef.Spec(C:zh)(N:zN):Prop:=∀(x y:za)(L M:List zmh)(R:List (List za))(h:zb)(Q:zQ),SlX h 8 x (L.map zmh.cs) zos->SlX h 8 y (M.map zmh.cs) R->L.length <= 100000000->Q (.bool (decide (L=M))) h->C (N 189) [x,y] h Q
theorem zef.spec(i:zef.Imp C N)(s1:ze9.Spec C N):zef.Spec C N:=λx y L M R h Q hx hy hlen hq=>i x y h Q (zu7 lineF (m:=1) (mk:=zq3 1) (s1 1) hx hy hlen (z8 hq))
def zfj.Spec(C:zh)(N:zN):Prop:=∀(h0 h:zb)(x:za)(L R:List (List za))(Q:zQ),zcx h0 h [.sl 8 x L R]->R.length=12->L.length <= 100000000->(∀h',h0.le h'->Q (.tup []) h')->C (N 190) [x] h Q
theorem zfj.spec(i:zfj.Imp C N)(s1:ze9.Spec C N):zfj.Spec C N:=λh0 h x L R Q ho hR hlen hq=>i x h Q (zqz (es:=8) (st:=λh p v K=>B.stn h p 8 v K) (by omega) (v:=λi=> .agg (zq3 2 i).cs) (s1 2) (λ{_ _ _ _ _ _ k _} ho hi hK=>over_stN (xs:=(zq3 2 k).cs) rfl ho hi hK) ho hR hlen λh' hle=>z8 (hq h' hle))
theorem zbs.spec(i:zbs.Imp C N)(s1:ze9.Spec C N):zho C 8 (N 91):=λt h0 h Q ht ho hq=>i t.x h Q (zo0 (elF lineF (bytes:=80) (z:=[.int .i64 0,.str [],.int .i64 0,.int .i64 0,.int .i64 0,.int .u8 0,.int .i64 0,.str []]) rfl (by omega) s1) ht.is ho ht.n_le ht.zn7 λh' hle=>z8 (hq h' hle))
@[irreducible] def zpe(k i:Int):List UInt8:=[35,byt k,byt (k.fdiv 256),byt (k.fdiv 65536),47,byt i,byt (i.fdiv 256),byt (i.fdiv 65536)]
def ze7.Spec(C:zh)(N:zN):Prop:=∀(k i:Int)(h:zb)(Q:zQ),Q (.str (zpe k i)) h->C (N 106) [.int .i64 k,.int .i64 i] h Q
theorem ze7.spec(i:ze7.Imp C N):ze7.Spec C N:=by
 intro k j h Q hq;apply i;simp +contextual -dsimp[bin_shr (k:= .i64) (j:= .u64) (b:=8) (by omega) (by simp[IntKind.bits]),bin_shr (k:= .i64) (j:= .u64) (b:=16) (by omega) (by simp[IntKind.bits]),u8_byt];intro id hid;unfold zpe at hq;have hx:SlX (upd h id (zgh [.int .u8 35,.int .u8 ((byt k).toNat:Int),.int .u8 ((byt (k.fdiv 256)).toNat:Int),.int .u8 ((byt (k.fdiv 65536)).toNat:Int),.int .u8 47,.int .u8 ((byt j).toNat:Int),.int .u8 ((byt (j.fdiv 256)).toNat:Int),.int .u8 ((byt (j.fdiv 65536)).toNat:Int)])) 1 (.sl id 0 0 8 1 8) (([35,byt k,byt (k.fdiv 256),byt (k.fdiv 65536),47,byt j,byt (j.fdiv 256),byt (j.fdiv 65536)]:List UInt8).map bc) []:=
  SlX.lit (zcg ..) (by simp) rfl (by simp) rfl
 rw[bytesStr_bc hx];exact dn_le (zld _ hid) hq
abbrev zi7:List (List za):=zji tS (zpe 1) 12
def zed.Spec(C:zh)(N:zN):Prop:=∀(x y:za)(L M:List (List UInt8))(R S:List (List za))(h:zb)(Q:zQ),SlX h 1 x (L.map tc) R->SlX h 1 y (M.map tc) S->L.length<4611686018427387904->Q (.bool (decide (L=M))) h->C (N 133) [x,y] h Q
theorem zed.spec(i:zed.Imp C N):zed.Spec C N:=λx y L M R S h Q hx hy hlen hq=>i x y h Q (sameS_spec tS hx hy hlen (z8 hq))
def zen.Spec(C:zh)(N:zN):Prop:=∀(x:za)(L:List (List UInt8))(R:List (List za))(h:zb)(Q:zQ),SlX h 1 x (L.map tc) R->L.length <= 100000000->(∀x' h',zcx h h' [.sl 1 x' (L.map tc) zi7]->Q x' h')->C (N 406) [x] h Q
theorem zen.spec(i:zen.Imp C N)(s1:ze7.Spec C N):zen.Spec C N:=λx L R h Q hx hlen hq=>i x h Q (lentS_spec tS (z:= .str []) (m:=1) (mk:=zpe 1) (by omega) (s1 1) hx hlen λx' h' ho=>z8 (hq x' h' ho))
def zd8.Spec(C:zh)(N:zN):Prop:=∀(x y:za)(L M:List (List UInt8))(R:List (List za))(h:zb)(Q:zQ),SlX h 1 x (L.map tc) zi7->SlX h 1 y (M.map tc) R->L.length <= 100000000->Q (.bool (decide (L=M))) h->C (N 407) [x,y] h Q
theorem zd8.spec(i:zd8.Imp C N)(s1:ze7.Spec C N):zd8.Spec C N:=λx y L M R h Q hx hy hlen hq=>i x y h Q (keptS_spec tS (m:=1) (mk:=zpe 1) (s1 1) hx hy hlen (z8 hq))
def zex.Spec(C:zh)(N:zN):Prop:=∀(h0 h:zb)(x:za)(L R:List (List za))(Q:zQ),zcx h0 h [.sl 1 x L R]->R.length=12->L.length <= 100000000->(∀h',h0.le h'->Q (.tup []) h')->C (N 409) [x] h Q
theorem zex.spec(i:zex.Imp C N)(s1:ze7.Spec C N):zex.Spec C N:=λh0 h x L R Q ho hR hlen hq=>i x h Q (zqz (es:=1) (st:=λh p v K=>B.st h p v K) (by omega) (v:=λi=> .str (zpe 2 i)) (s1 2) (λho hi hK=>over_stS rfl ho hi hK) ho hR hlen λh' hle=>z8 (hq h' hle))
theorem zgs.spec(i:zgs.Imp C N)(s1:ze7.Spec C N):zho C 1 (N 83):=λt h0 h Q ht ho hq=>
 i t.x h Q (zo0 (elS (bytes:=16) (z:= .str []) (mv:=λk i=> .str (zpe k i)) (λ_ _=>rfl) (λ_ _=>by rw[V.zrf];simp) (by omega) s1) ht.is ho ht.n_le ht.zn7 λh' hle=>z8 (hq h' hle))
abbrev LG:=List za->zb->(zL)->Prop
@[simp] def z0(v0:za)(X:zb->Prop):LG|[v],h,Y=>B.pv (V.zbg v0) λn=>B.pv (V.bin .lss v n) λb=>B.cond b (False) (X h)|_,_,_=>False
def z5(Q:zQ)(v0 w:za)(h:zb):Prop:=zd (z0 v0 λh=>Q (.bool true) h) [.int .i64 0] h
def z4(Q:zQ)(v0 w:za)(h:zb):Prop:=zd (z0 v0 (z5 Q v0 w)) [.int .i64 0] h
def z3(Q:zQ)(v0 w:za)(h:zb):Prop:=zd (z0 v0 (z4 Q v0 w)) [.int .i64 0] h
def z2(Q:zQ)(v0 w:za)(h:zb):Prop:=zd (z0 v0 (z3 Q v0 w)) [.int .i64 0] h
def z1(Q:zQ)(v0:za)(h:zb):Prop:=B.pv (V.zbg v0) λn=>0<1 /\ B.mks h 24 (some [.zbp]) n n λw h=>z2 Q v0 w h
def zmi(v0:za)(h:zb)(Q:zQ):Prop:=zd (z0 v0 (z1 Q v0)) [.int .i64 0] h
theorem z0_nil{h0 h:zb}{x:za}{W:List (List za)}{X:zb->Prop}(hx:SlX h0 1 x [] W)(hX:X h):zd (z0 x X) [.int .i64 0] h:=by
 refine zd.intro (λn vs hh=>vs=[.int .i64 0] /\ hh=h) 0 ?_ ⟨rfl,rfl⟩;rintro Y n vs hh ⟨rfl,rfl⟩ hY;have l:=hx.zbg;simp -dsimp[l];exact hX
theorem zg5{C:zh}{g:Nat}(i:∀(v0:za)(h:zb)(Q:zQ),zmi v0 h (dn Q)->C g [v0] h Q):zdl C g:=λx W h0 h Q hx hle hq=>by
 refine i x h Q (z0_nil (hx.mono hle) ?_)
 have l:=(hx.mono hle).zbg
 unfold z1
 rw[l]
 refine⟨by omega,?_⟩
 refine(zcx.start h).mks (bytes:=24) (es:=1) (n:=0) (c:=0) (z:=[.zbp]) rfl (by omega) (by omega) (by omega) (by omega) λy h1 ho=>?_
 have h1x:=hx.mono (zb.le_trans hle ho.le)
 exact z0_nil h1x (z0_nil h1x (z0_nil h1x (z0_nil h1x (z8 (hq _ (zb.le_trans hle ho.le))))))
def zhf.zly(C:zh)(N:zN):Prop:=∀(v0:za)(h:zb)(Q:zQ),zmi v0 h (dn Q)->C (N 80) [v0] h Q
theorem zhf.zp8{C:zh}{N:zN}(i:zhf.zly C N):zdl C (N 80):=zg5 i
def zhz.zly(C:zh)(N:zN):Prop:=∀(v0:za)(h:zb)(Q:zQ),zmi v0 h (dn Q)->C (N 81) [v0] h Q
theorem zhz.zp8{C:zh}{N:zN}(i:zhz.zly C N):zdl C (N 81):=zg5 i
def zhl.zly(C:zh)(N:zN):Prop:=∀(v0:za)(h:zb)(Q:zQ),zmi v0 h (dn Q)->C (N 82) [v0] h Q
theorem zhl.zp8{C:zh}{N:zN}(i:zhl.zly C N):zdl C (N 82):=zg5 i
def zel.zly(C:zh)(N:zN):Prop:=∀(v0:za)(h:zb)(Q:zQ),zmi v0 h (dn Q)->C (N 84) [v0] h Q
theorem zel.zp8{C:zh}{N:zN}(i:zel.zly C N):zdl C (N 84):=zg5 i
def z9.zly(C:zh)(N:zN):Prop:=∀(v0:za)(h:zb)(Q:zQ),zmi v0 h (dn Q)->C (N 85) [v0] h Q
theorem z9.zp8{C:zh}{N:zN}(i:z9.zly C N):zdl C (N 85):=zg5 i
def zbi.zly(C:zh)(N:zN):Prop:=∀(v0:za)(h:zb)(Q:zQ),zmi v0 h (dn Q)->C (N 87) [v0] h Q
theorem zbi.zp8{C:zh}{N:zN}(i:zbi.zly C N):zdl C (N 87):=zg5 i
def zbq.zly(C:zh)(N:zN):Prop:=∀(v0:za)(h:zb)(Q:zQ),zmi v0 h (dn Q)->C (N 88) [v0] h Q
theorem zbq.zp8{C:zh}{N:zN}(i:zbq.zly C N):zdl C (N 88):=zg5 i
def zbh.zly(C:zh)(N:zN):Prop:=∀(v0:za)(h:zb)(Q:zQ),zmi v0 h (dn Q)->C (N 90) [v0] h Q
theorem zbh.zp8{C:zh}{N:zN}(i:zbh.zly C N):zdl C (N 90):=zg5 i
def zh0.zly(C:zh)(N:zN):Prop:=∀(v0:za)(h:zb)(Q:zQ),zmi v0 h (dn Q)->C (N 92) [v0] h Q
theorem zh0.zp8{C:zh}{N:zN}(i:zh0.zly C N):zdl C (N 92):=zg5 i
def zhh.zly(C:zh)(N:zN):Prop:=∀(v0:za)(h:zb)(Q:zQ),zmi v0 h (dn Q)->C (N 93) [v0] h Q
theorem zhh.zp8{C:zh}{N:zN}(i:zhh.zly C N):zdl C (N 93):=zg5 i
def zbb.zly(C:zh)(N:zN):Prop:=∀(v0:za)(h:zb)(Q:zQ),zmi v0 h (dn Q)->C (N 94) [v0] h Q
theorem zbb.zp8{C:zh}{N:zN}(i:zbb.zly C N):zdl C (N 94):=zg5 i
def zhy.zly(C:zh)(N:zN):Prop:=∀(v0:za)(h:zb)(Q:zQ),zmi v0 h (dn Q)->C (N 95) [v0] h Q
theorem zhy.zp8{C:zh}{N:zN}(i:zhy.zly C N):zdl C (N 95):=zg5 i
def zhg.zly(C:zh)(N:zN):Prop:=∀(v0:za)(h:zb)(Q:zQ),zmi v0 h (dn Q)->C (N 96) [v0] h Q
theorem zhg.zp8{C:zh}{N:zN}(i:zhg.zly C N):zdl C (N 96):=zg5 i
def zhm.zly(C:zh)(N:zN):Prop:=∀(v0:za)(h:zb)(Q:zQ),zmi v0 h (dn Q)->C (N 97) [v0] h Q
theorem zhm.zp8{C:zh}{N:zN}(i:zhm.zly C N):zdl C (N 97):=zg5 i
def zgv.zly(C:zh)(N:zN):Prop:=∀(v0:za)(h:zb)(Q:zQ),zmi v0 h (dn Q)->C (N 98) [v0] h Q
theorem zgv.zp8{C:zh}{N:zN}(i:zgv.zly C N):zdl C (N 98):=zg5 i
def zhk.zly(C:zh)(N:zN):Prop:=∀(v0:za)(h:zb)(Q:zQ),zmi v0 h (dn Q)->C (N 99) [v0] h Q
theorem zhk.zp8{C:zh}{N:zN}(i:zhk.zly C N):zdl C (N 99):=zg5 i
def zgu.zly(C:zh)(N:zN):Prop:=∀(v0:za)(h:zb)(Q:zQ),zmi v0 h (dn Q)->C (N 100) [v0] h Q
theorem zgu.zp8{C:zh}{N:zN}(i:zgu.zly C N):zdl C (N 100):=zg5 i
def zhj.zly(C:zh)(N:zN):Prop:=∀(v0:za)(h:zb)(Q:zQ),zmi v0 h (dn Q)->C (N 101) [v0] h Q
theorem zhj.zp8{C:zh}{N:zN}(i:zhj.zly C N):zdl C (N 101):=zg5 i
def zhi.zly(C:zh)(N:zN):Prop:=∀(v0:za)(h:zb)(Q:zQ),zmi v0 h (dn Q)->C (N 102) [v0] h Q
theorem zhi.zp8{C:zh}{N:zN}(i:zhi.zly C N):zdl C (N 102):=zg5 i
section
variable{P:Program}{C:zh}{I:Bx}
theorem eZ(hC:zol C){c:Code}{Q:Ex->zch->zb->Prop}{s:zch}{h:zb}(zmf live:List Nat)(G:List za->LG)(hr:zd (G (zmf.map s)) (live.map s) h)(hG:∀(Y:zL)(s:zch)(h:zb),bwp P C I (cA (cA (cA c))) (Ex.then (λ_ _=>False) (Ex.then (λs h=>Y (live.map s) h) (Ex.inBlock (cI c) Q))) s h=G (zmf.map s) (live.map s) h Y)(hk:isK c=true)(hl:isL (cA c)=true)(hw:(zmf.all λk=> !zlw (zjl P I (cA (cA c))) k)=true)(hs:isS (cA (cA c))=true):bwp P C I c Q s h:=eK (eL hC zmf live G hr (λY s h hR=>eS hC (λ_ _=>False) ((hG Y s h).mpr hR) (λ_ _ f=>f.elim) hs) hl hw) hk
theorem eU(hC:zol C){c:Code}{Q:Ex->zch->zb->Prop}{s:zch}{h:zb}(zmf live:List Nat)(G:List za->LG)(X:zch->zb->Prop)(hr:zd (G (zmf.map s)) [.int .i64 0] h)(hX:∀s h,X s h->bwp P C I (cB c) Q s h)
  (h1:bwp P C I (cA (cA c)) (Ex.then (λs h=>zd (G (zmf.map s)) (live.map s) h) (Ex.then X Q)) s h=zd (G (zmf.map s)) [.int .i64 0] h:=by kernel_rfl)
  (hG:∀(Y:zL)(s:zch)(h:zb),bwp P C I (cA (cA (cA (cB (cA c))))) (Ex.then (λ_ _=>False) (Ex.then (λs h=>Y (live.map s) h) (Ex.inBlock (cI (cB (cA c))) (Ex.then X Q)))) s h=G (zmf.map s) (live.map s) h Y:=by intros;kernel_rfl)
  (hk:(isS c&&isS (cA c)&&isK (cB (cA c))&&isL (cA (cB (cA c)))&&isS (cA (cA (cB (cA c))))&&zmf.all λk=> !zlw (zjl P I (cA (cA (cB (cA c))))) k)=true:=by kernel_rfl):bwp P C I c Q s h:=by
 simp only[Bool.and_eq_true]at hk;obtain⟨⟨⟨⟨⟨k1,k2⟩,k3⟩,k4⟩,k5⟩,k6⟩:=hk;exact eS hC X (eS hC (λs h=>zd (G (zmf.map s)) (live.map s) h) (h1.mpr hr) (λs h hR=>eZ hC zmf live G hR hG k3 k4 k6 k5) k2) hX k1
abbrev F0(P:Program)(fn:Func)(I:Bx):Prop:=∀{C:zh}(hC:zol C)(Q:zQ)(s:zch)(h:zb),zmi (s 0) h Q->bwp P C I (fn.body.getD .skip) (retB P I fn.results.toList Q) s h
abbrev g1(f:za->LG):List za->LG:=λkv lv h Y=>match kv with|[a]=>f a lv h Y|_=>False
abbrev g2(f:za->za->LG):List za->LG:=λkv lv h Y=>match kv with|[a,b]=>f a b lv h Y|_=>False
structure Lp(P:Program)(C:zh)(I:Bx)(c:Code)(Q:Ex->zch->zb->Prop)(zmf:List Nat)(l:Nat)(G:List za->LG)(X:zch->zb->Prop):Prop where
 h1:∀s h,bwp P C I (cA (cA c)) (Ex.then (λs h=>zd (G (zmf.map s)) ([l].map s) h) (Ex.then X Q)) s h=zd (G (zmf.map s)) [.int .i64 0] h:=by intros;kernel_rfl
 hG:∀(Y:zL)(s:zch)(h:zb),bwp P C I (cA (cA (cA (cB (cA c))))) (Ex.then (λ_ _=>False) (Ex.then (λs h=>Y ([l].map s) h) (Ex.inBlock (cI (cB (cA c))) (Ex.then X Q)))) s h=G (zmf.map s) ([l].map s) h Y:=by intros;kernel_rfl
 hk:(isS c&&isS (cA c)&&isK (cB (cA c))&&isL (cA (cB (cA c)))&&isS (cA (cA (cB (cA c))))&&zmf.all λk=> !zlw (zjl P I (cA (cA (cB (cA c))))) k)=true:=by kernel_rfl
theorem Lp.use{c:Code}{Q:Ex->zch->zb->Prop}{zmf:List Nat}{l:Nat}{G:List za->LG}{X:zch->zb->Prop}(p:Lp P C I c Q zmf l G X)(hC:zol C){s:zch}{h:zb}(hr:zd (G (zmf.map s)) [.int .i64 0] h)(hX:∀s h,X s h->bwp P C I (cB c) Q s h):bwp P C I c Q s h:=eU hC zmf [l] G X hr hX (p.h1 s h) p.hG p.hk
theorem eF0(hC:zol C){c:Code}{R:Ex->zch->zb->Prop}{Q:zQ}{s:zch}{h:zb}(w a b d e f:Nat)(hR:zmi (s 0) h Q)
  (e0:∀s h,bwp P C I (cA c) (Ex.then (λs h=>zmi (s 0) h Q) R) s h=zmi (s 0) h Q:=by intros;kernel_rfl)
  (p1:Lp P C I (cB c) R [0] a (g1 λv=>z0 v (z1 Q v)) (λs h=>z1 Q (s 0) h):=by exact {})
  (e2:∀s h,bwp P C I (cA (cB (cB c))) (Ex.then (λs h=>z2 Q (s 0) (s w) h) R) s h=z1 Q (s 0) h:=by intros;kernel_rfl)
  (p2:Lp P C I (cB (cB (cB c))) R [0,w] b (g2 λv w=>z0 v (z3 Q v w)) (λs h=>z3 Q (s 0) (s w) h):=by exact {})
  (p3:Lp P C I (cB (cB (cB (cB c)))) R [0,w] d (g2 λv w=>z0 v (z4 Q v w)) (λs h=>z4 Q (s 0) (s w) h):=by exact {})
  (p4:Lp P C I (cB (cB (cB (cB (cB c))))) R [0,w] e (g2 λv w=>z0 v (z5 Q v w)) (λs h=>z5 Q (s 0) (s w) h):=by exact {})
  (p5:Lp P C I (cB (cB (cB (cB (cB (cB c)))))) R [0,w] f (g2 λv w=>z0 v λh=>Q (.bool true) h) (λs h=>Q (.bool true) h):=by exact {})
  (e6:∀s h,bwp P C I (cB (cB (cB (cB (cB (cB (cB c))))))) R s h=Q (.bool true) h:=by intros;kernel_rfl)
  (k1:isS c=true:=by kernel_rfl) (k2:isS (cB (cB c))=true:=by kernel_rfl):bwp P C I c R s h:=
 eS hC (λs h=>zmi (s 0) h Q) ((e0 s h).mpr hR) (λs h hR=>p1.use hC hR λs h hR=>eS hC (λs h=>z2 Q (s 0) (s w) h) ((e2 s h).mpr hR) (λs h hR=>p2.use hC hR λs h hR=>p3.use hC hR λs h hR=>p4.use hC hR λs h hR=>p5.use hC hR λs h hR=>(e6 s h).mpr hR) k2) k1
end
variable(C:zh)(N:Nat→Nat)
@[simp] def zeh.k1(Q:zQ)(c d:za)(h:zb):Prop:=B.call C (N 389) [c] h λb h=>B.gd h b true (λK=>K d h) λk h=>B.gd h b true (λK=>B.call C (N 389) [k] h K) λl h=>B.gd h b true (λK=>B.pv (V.un .not l) λv=>K v h) λe h=>B.pick b e (.bool false) λa=>B.gd h a false (λK=>K c h) λf h=>B.gd h a false (λK=>K d h) λg h=>B.gd h a false (λK=>B.pv (V.bin .lss f g) λv=>K v h) λi h=>B.pick a (.bool true) i λj=>Q j h
@[simp] def zeh.cps(a b:za)(h:zb)(Q:zQ):Prop:=zeh.k1 C N Q a b h
def zeh.Imp:Prop:=im2 C (N 377) (zeh.cps C N)
@[simp] def zea.cps(C:zh)(N:zN)(a:za)(h:zb)(Q:zQ):Prop:=B.pv (V.bin .neq a a) λb=>Q b h
def zea.Imp:Prop:=im1 C (N 389) (zea.cps C N)
@[simp] def zc7.k1(Q:zQ)(b c:za)(h:zb):Prop:=B.call C (N 389) [b] h λf h=>B.call C (N 389) [c] h λa h=>B.cond f (B.cond a (Q (.int .i64 0) h) (Q (.int .i64 (-1)) h)) (B.cond a (Q (.int .i64 1) h) (B.pv (V.bin .lss b c) λd=>B.cond d (Q (.int .i64 (-1)) h) (B.pv (V.bin .gtr b c) λe=>B.cond e (Q (.int .i64 1) h) (Q (.int .i64 0) h))))
@[simp] def zc7.cps(a b:za)(h:zb)(Q:zQ):Prop:=zc7.k1 C N Q a b h
def zc7.Imp:Prop:=im2 C (N 580) (zc7.cps C N)
variable(C:zh)(N:Nat→Nat)
@[simp] def zds.k1(Q:zQ)(Y1:zL)(o p a b:za)(h:zb):Prop:=B.zhw h b λd h=>B.pv (V.ext 0 d) λe=>B.cond e (B.pv (A.zj6 h b) λf=>B.pv (V.ext 0 f) λc=>B.ziu h C o [c] λg h=>B.pv (A.lkp h (some .s) (some (.int .i64 0)) false p g) λi=>B.pv (V.bin .gtr i (.int .i64 0)) λj=>B.cond j (B.zhb h (zer [(0,none,c)] (zgc 1 [.str []])) λk h=>B.ziw h 1 16 a (.sl k 0 0 1 1 1) λl h=>Y1 [l] h) (Y1 [a] h)) (B.call C (N 364) [a] h λq h=>B.call C (N 365) [a] h λm h=>B.call C (N 567) [m] h λn h=>Q n h)
@[simp] def zds.l2(Q:zQ)(b c a:za):zG|[d],h,Y1=>zds.k1 C N Q Y1 b c d a h|_,_,_=>False
@[simp] def zds.k3(Q:zQ)(Y2:zL)(i j f g k l a:za)(h:zb):Prop:=B.pv (V.bin .lss a l) λm=>B.cond m (B.pv (V.zb4 1 k a) λn=>B.ld h n λb=>B.pv (A.lkp h (some .s) (some (.str [])) true i b) λd=>B.pv (V.ext 0 d) λv=>B.pv (V.ext 1 d) λo=>B.cond o (B.ziu h C j [b] λe h=>B.pv (A.lkp h (some .s) (some (.int .i64 0)) false f e) λp=>B.pv (V.bin .add p (.int .i64 1)) λq=>B.mset h .s f e q λh=>B.pv (V.bin .add a (.int .i64 1)) λc=>Y2 [g,c] h) (B.zhb h (zer [(0,none,b)] (zgc 1 [.str []])) λr h=>B.ziw h 1 16 g (.sl r 0 0 1 1 1) λt h=>B.pv (V.bin .add a (.int .i64 1)) λc=>Y2 [t,c] h)) (B.rangeMap h i λu h=>zd (zds.l2 C N Q j f u) [g] h)
@[simp] def zds.l4(Q:zQ)(d e f a b:za):zG|[g,c],h,Y2=>zds.k3 C N Q Y2 d e f g a b c h|_,_,_=>False
@[simp] def zds.k5(Q:zQ)(g b:za)(h:zb):Prop:=B.call C (N 568) [g] h λa h=>B.pv (V.ext 0 a) λc=>B.pv (V.ext 1 a) λd=>B.zsg h λe h=>B.pv (V.zbg b) λf=>zd (zds.l4 C N Q c d e b f) [.zbp,(.int .i64 0)] h
@[simp] def zds.cps(a b:za)(h:zb)(Q:zQ):Prop:=zds.k5 C N Q a b h
def zds.Imp:Prop:=im2 C (N 553) (zds.cps C N)
@[simp] def ze0.k1(Q:zQ)(Y1:zL)(c a:za)(h:zb):Prop:=B.zhw h a λd h=>B.pv (V.ext 0 d) λe=>B.cond e (B.pv (A.zj6 h a) λf=>B.pv (V.ext 1 f) λb=>B.call C (N 364) [b] h λk h=>B.call C (N 567) [b] h λg h=>B.zhb h (zer [(0,none,g)] (zgc 1 [.zbp])) λi h=>B.ziw h 1 24 c (.sl i 0 0 1 1 1) λj h=>Y1 [j] h) (B.call C (N 566) [c,(.fn (N 565) [] [])] h λl h=>Q c h)
@[simp] def ze0.l2(Q:zQ)(a:za):zG|[b],h,Y1=>ze0.k1 C N Q Y1 b a h|_,_,_=>False
@[simp] def ze0.k3(Q:zQ)(Y2:zL)(d c b:za)(h:zb):Prop:=B.zhw h b λe h=>B.pv (V.ext 0 e) λf=>B.cond f (B.pv (A.zj6 h b) λg=>B.pv (V.ext 0 g) λa=>B.ziu h C d [a] λi h=>B.ziu h C d [a] λj h=>B.pv (A.lkp h (some .s) (some (.zbp)) false c j) λk=>B.zhb h (zer [(0,none,a)] (zgc 1 [.str []])) λl h=>B.ziw h 1 16 k (.sl l 0 0 1 1 1) λm h=>B.mset h .s c i m λh=>Y2 [] h) (B.rangeMap h c λn h=>zd (ze0.l2 C N Q n) [.zbp] h)
@[simp] def ze0.l4(Q:zQ)(b c a:za):zG|[],h,Y2=>ze0.k3 C N Q Y2 b c a h|_,_,_=>False
@[simp] def ze0.k5(Q:zQ)(f:za)(h:zb):Prop:=B.call C (N 568) [f] h λa h=>B.pv (V.ext 0 a) λb=>B.pv (V.ext 1 a) λc=>B.zsg h λd h=>B.rangeMap h b λe h=>zd (ze0.l4 C N Q c d e) [] h
@[simp] def ze0.cps(a:za)(h:zb)(Q:zQ):Prop:=ze0.k5 C N Q a h
def ze0.Imp:Prop:=im1 C (N 554) (ze0.cps C N)
@[simp] def zci.k1(Q:zQ)(Y1:zL)(s f g b e a:za)(h:zb):Prop:=B.pv (V.bin .lss b g) λi=>B.cond i (B.pv (V.zb4 8 f b) λj=>B.ldn h j 8 λk=>B.pv (V.zqy 0 8 k (.agg [.int .i64 0,.str [],.int .i64 0,.int .i64 0,.int .i64 0,.int .u8 0,.int .i64 0,.str []])) λc=>B.al c (B.pv (V.zb9 1 c) λl=>B.call C (N 442) [s,l] h λm h=>B.cond m (B.al a (B.pv (V.zb9 5 a) λn=>B.pv (V.zfp 0 8 c) λo=>B.zhb h (zer [(0,some 8,o)] (zgc 1 [.int .i64 0,.str [],.int .i64 0,.int .i64 0,.int .i64 0,.int .u8 0,.int .i64 0,.str []])) λp h=>B.ziw h 8 80 n (.sl p 0 0 1 8 1) λq h=>B.al a (B.pv (V.zx9 5 q a) λa=>B.pv (V.bin .add b (.int .i64 1)) λd=>Y1 [d,a] h))) (B.pv (V.bin .add b (.int .i64 1)) λd=>Y1 [d,a] h))) (B.pv (V.zfp 0 6 a) λr=>B.pv (V.zqy 0 6 r e) λe=>B.pv (oneOf (zm5 (V.zfp 0 6 e) (some []))) λv=>Q v h)
@[simp] def zci.l2(Q:zQ)(d a b e:za):zG|[c,f],h,Y1=>zci.k1 C N Q Y1 d a b c e f h|_,_,_=>False
@[simp] def zci.k3(Q:zQ)(Y2:zL)(f g i b j u a:za)(h:zb):Prop:=B.pv (V.bin .lss b i) λk=>B.cond k (B.pv (V.zb4 6 g b) λl=>B.ldn h l 6 λm=>B.pv (V.zqy 0 6 m (.agg [.int .i64 0,.str [],.int .i64 0,.int .i64 0,.int .i64 0,.bool false])) λe=>B.al e (B.pv (V.zb9 1 e) λn=>B.call C (N 442) [f,n] h λo h=>B.cond o (B.al a (B.pv (V.zb9 4 a) λp=>B.pv (V.zfp 0 6 e) λq=>B.zhb h (zer [(0,some 6,q)] (zgc 1 [.int .i64 0,.str [],.int .i64 0,.int .i64 0,.int .i64 0,.bool false])) λr h=>B.ziw h 6 56 p (.sl r 0 0 1 6 1) λs h=>B.al a (B.pv (V.zx9 4 s a) λa=>B.pv (V.bin .add b (.int .i64 1)) λc=>Y2 [c,a] h))) (B.pv (V.bin .add b (.int .i64 1)) λc=>Y2 [c,a] h))) (B.al j (B.pv (V.zb9 5 j) λd=>B.pv (V.zbg d) λt=>zd (zci.l2 C N Q f d t u) [(.int .i64 0),a] h))
@[simp] def zci.l4(Q:zQ)(d a b e f:za):zG|[c,g],h,Y2=>zci.k3 C N Q Y2 d a b c e f g h|_,_,_=>False
@[simp] def zci.k5(Q:zQ)(Y3:zL)(g i j c f y b:za)(h:zb):Prop:=B.pv (V.bin .lss c j) λk=>B.cond k (B.pv (V.zb4 4 i c) λl=>B.ldn h l 4 λm=>B.pv (V.zqy 0 4 m (.agg [.str [],.int .i64 0,.zbp,.zbp])) λa=>B.al a (B.pv (V.zb9 0 a) λn=>B.call C (N 442) [g,n] h λo h=>B.cond o (B.al a (B.pv (V.zb9 2 a) λp=>B.al a (B.pv (V.zb9 3 a) λq=>B.call C (N 569) [p] h λr h=>B.al a (B.call C (N 567) [q] h λs h=>B.pv (V.zx9 2 r a) λa=>B.al a (B.pv (V.zx9 3 s a) λa=>B.al b (B.pv (V.zb9 3 b) λt=>B.pv (V.zfp 0 4 a) λu=>B.zhb h (zer [(0,some 4,u)] (zgc 1 [.str [],.int .i64 0,.zbp,.zbp])) λv h=>B.ziw h 4 72 t (.sl v 0 0 1 4 1) λw h=>B.al b (B.pv (V.zx9 3 w b) λb=>B.pv (V.bin .add c (.int .i64 1)) λd=>Y3 [d,b] h))))))) (B.pv (V.bin .add c (.int .i64 1)) λd=>Y3 [d,b] h))) (B.al f (B.pv (V.zb9 4 f) λe=>B.pv (V.zbg e) λx=>zd (zci.l4 C N Q g e x f y) [(.int .i64 0),b] h))
@[simp] def zci.l6(Q:zQ)(d a b e f:za):zG|[c,g],h,Y3=>zci.k5 C N Q Y3 d a b c e f g h|_,_,_=>False
@[simp] def zci.k7(Q:zQ)(i a j:za)(h:zb):Prop:=B.al a (B.pv (V.zb9 0 a) λc=>B.al a (B.pv (V.zb9 1 a) λd=>B.al a (B.pv (V.zb9 2 a) λe=>B.pv (A.bld [(0,none,c),(1,none,d),(2,none,e)] [.int .i64 0,.int .i64 0,.int .i64 0,.zbp,.zbp,.zbp]) λf=>B.pv (V.zqy 0 6 f (.agg [.int .i64 0,.int .i64 0,.int .i64 0,.zbp,.zbp,.zbp])) λk=>B.al a (B.pv (V.zb9 3 a) λb=>B.pv (V.zbg b) λg=>zd (zci.l6 C N Q i b g a j) [(.int .i64 0),k] h))))
@[simp] def zci.cps(a b:za)(h:zb)(Q:zQ):Prop:=B.pv (A.zsn 6 a) λc=>zci.k7 C N Q b c (.agg [.int .i64 0,.int .i64 0,.int .i64 0,.zbp,.zbp,.zbp]) h
def zci.Imp:Prop:=im2 C (N 558) (zci.cps C N)
@[simp] def zq.k1(C:zh)(N:zN)(Q:zQ)(b:za)(h:zb):Prop:=B.pv (V.fieldAddr 0 b) λc=>B.ld h c λd=>B.pv (V.bin .lss d (.int .u8 1)) λa=>B.gd h a false (λK=>B.pv (V.fieldAddr 0 b) λv=>K v h) λe h=>B.gd h a false (λK=>B.ld h e λv=>K v h) λf h=>B.gd h a false (λK=>B.pv (V.bin .gtr f (.int .u8 15)) λv=>K v h) λg h=>B.pick a (.bool true) g λi=>B.cond i (Q .zbp h) (B.zhb h (zer [(0,none,(.str [42]))] (zgc 1 [.str []])) λj h=>Q (.sl j 0 0 1 1 1) h)
@[simp] def zq.k2(Q:zQ)(a k b:za)(h:zb):Prop:=B.cond k (B.al b (B.pv (V.zb9 3 b) λc=>B.pv (V.fieldAddr 2 a) λd=>B.ld h d λe=>B.zhb h (zer [(0,none,e)] (zgc 1 [.str []])) λf h=>B.call C (N 553) [c,(.sl f 0 0 1 1 1)] h λg h=>B.zhb h (zer [(0,none,(.str [35,108,111,116]))] (zgc 1 [.str []])) λi h=>B.call C (N 570) [g,(.sl i 0 0 1 1 1)] h λj h=>Q j h)) (zq.k1 C N Q a h)
@[simp] def zq.k3(Q:zQ)(a k b:za)(h:zb):Prop:=B.cond k (B.al b (B.pv (V.zb9 3 b) λc=>B.pv (V.fieldAddr 2 a) λd=>B.ld h d λe=>B.zhb h (zer [(0,none,e)] (zgc 1 [.str []])) λf h=>B.call C (N 553) [c,(.sl f 0 0 1 1 1)] h λg h=>B.zhb h (zer [(0,none,(.str [35,108,105,110,101]))] (zgc 1 [.str []])) λi h=>B.call C (N 570) [g,(.sl i 0 0 1 1 1)] h λj h=>Q j h)) (zq.k1 C N Q a h)
@[simp] def zq.k4(Q:zQ)(a i b:za)(h:zb):Prop:=B.cond i (B.al b (B.pv (V.zb9 3 b) λc=>B.pv (V.fieldAddr 2 a) λd=>B.ld h d λe=>B.zhb h (zer [(0,none,e)] (zgc 1 [.str []])) λf h=>B.call C (N 553) [c,(.sl f 0 0 1 1 1)] h λg h=>Q g h)) (zq.k1 C N Q a h)
@[simp] def zq.k5(Q:zQ)(c a:za)(h:zb):Prop:=B.al a (B.pv (V.zb9 4 a) λd=>B.call C (N 572) [d,(.fn (N 571) [] [c])] h λb h=>B.pv (V.bin .geq b (.int .i64 0)) λe=>B.cond e (B.al a (B.pv (V.zb9 3 a) λf=>B.al a (B.pv (V.zb9 4 a) λg=>B.pv (V.zb4 6 g b) λi=>B.pv (V.fieldAddr 1 i) λj=>B.ld h j λk=>B.zhb h (zer [(0,none,k)] (zgc 1 [.str []])) λl h=>B.call C (N 553) [f,(.sl l 0 0 1 1 1)] h λm h=>Q m h))) (zq.k1 C N Q c h))
@[simp] def zq.k6(Q:zQ)(c d a:za)(h:zb):Prop:=B.cond d (B.al a (B.pv (V.zb9 5 a) λe=>B.call C (N 206) [e,(.fn (N 573) [] [c])] h λb h=>B.pv (V.bin .geq b (.int .i64 0)) λf=>B.cond f (B.al a (B.pv (V.zb9 3 a) λg=>B.al a (B.pv (V.zb9 5 a) λi=>B.pv (V.zb4 8 i b) λj=>B.pv (V.fieldAddr 1 j) λk=>B.ld h k λl=>B.zhb h (zer [(0,none,l)] (zgc 1 [.str []])) λm h=>B.call C (N 553) [g,(.sl m 0 0 1 1 1)] h λn h=>Q n h))) (zq.k1 C N Q c h))) (zq.k1 C N Q c h)
@[simp] def zq.k7(Q:zQ)(d a e:za)(h:zb):Prop:=B.pv (V.bin .eql a (.int .u8 10)) λb=>B.cond b (zq.k6 C N Q d b e h) (B.pv (V.bin .eql a (.int .u8 11)) λc=>B.cond c (zq.k6 C N Q d c e h) (B.pv (V.bin .eql a (.int .u8 14)) λf=>zq.k6 C N Q d f e h))
@[simp] def zq.k8(Q:zQ)(b a c:za)(h:zb):Prop:=B.pv (V.bin .eql a (.int .u8 6)) λd=>B.cond d (B.cond d (zq.k5 C N Q b c h) (zq.k7 C N Q b a c h)) (B.pv (V.bin .eql a (.int .u8 7)) λe=>B.cond e (B.cond e (zq.k5 C N Q b c h) (zq.k7 C N Q b a c h)) (B.pv (V.bin .eql a (.int .u8 8)) λf=>B.cond f (zq.k5 C N Q b c h) (zq.k7 C N Q b a c h)))
@[simp] def zq.k9(Q:zQ)(b e a c:za)(h:zb):Prop:=B.pv (V.bin .eql a (.int .u8 13)) λd=>B.cond d (B.cond d (zq.k4 C N Q b e c h) (zq.k8 C N Q b a c h)) (B.pv (V.bin .eql a (.int .u8 15)) λf=>B.cond f (zq.k4 C N Q b e c h) (zq.k8 C N Q b a c h))
@[simp] def zq.k10(Q:zQ)(b c a d:za)(h:zb):Prop:=B.pv (V.bin .eql a (.int .u8 4)) λf=>B.cond f (B.cond f (zq.k2 C N Q b c d h) (B.pv (V.bin .eql a (.int .u8 9)) λe=>B.cond e (zq.k3 C N Q b c d h) (zq.k9 C N Q b c a d h))) (B.pv (V.bin .eql a (.int .u8 5)) λg=>B.cond g (zq.k2 C N Q b c d h) (B.pv (V.bin .eql a (.int .u8 9)) λe=>B.cond e (zq.k3 C N Q b c d h) (zq.k9 C N Q b c a d h)))
@[simp] def zq.k11(Q:zQ)(a b:za)(h:zb):Prop:=B.al b (B.pv (V.zb9 3 b) λf=>B.call C (N 575) [f,(.fn (N 574) [] [a])] h λc h=>B.pv (V.fieldAddr 0 a) λd=>B.ld h d λe=>zq.k10 C N Q a c e b h)
@[simp] def zq.cps(a b:za)(h:zb)(Q:zQ):Prop:=B.pv (A.zsn 6 a) λc=>B.zhb h (A.zo3 11 b) λd h=>zq.k11 C N Q (.ptr d 0 0) c h
def zq.Imp:Prop:=im2 C (N 559) (zq.cps C N)
@[simp] def zgt.cps(a b:za)(h:zb)(Q:zQ):Prop:=B.call C (N 578) [a,b] h λc h=>Q c h
def zgt.Imp:Prop:=im2 C (N 565) (zgt.cps C N)
@[simp] def zx.k1(C:zh)(N:zN)(Q:zQ)(Y1:zL)(Y2:zL)(q r m n o c d e a b:za)(h:zb):Prop:=B.pv (V.bin .lss a e) λf=>B.cond f (B.pv (V.zb4 1 d a) λg=>B.ld h g λi=>B.al b (B.pv (V.zb9 0 b) λj=>B.ziu h C m [j,i] λp h=>B.pv (V.bin .add a (.int .i64 1)) λk=>Y2 [k] h)) (B.pv (V.bin .add c (.int .i64 1)) λl=>Y1 [l] h)
@[simp] def zx.l2(Q:zQ)(Y1:zL)(i j k a b c d e f:za):zG|[g],h,Y2=>zx.k1 C N Q Y1 Y2 i j k a b c d e g f h|_,_,_=>False
@[simp] def zx.k3(Q:zQ)(Y1:zL)(g i j c d e a:za)(h:zb):Prop:=B.al a (B.pv (V.zb9 3 a) λb=>B.pv (V.zbg b) λf=>zd (zx.l2 C N Q Y1 g i j c d e b f a) [(.int .i64 0)] h)
@[simp] def zx.k4(Q:zQ)(Y1:zL)(Y3:zL)(q r d e f g i j a b:za)(h:zb):Prop:=B.pv (V.bin .lss a j) λk=>B.cond k (B.pv (V.zb4 2 i a) λl=>B.ldn h l 2 λm=>B.pv (V.zqy 0 2 m (.agg [.str [],.int .i64 0])) λc=>B.al b (B.pv (V.zb9 0 b) λn=>B.al c (B.pv (V.zb9 0 c) λo=>B.ziu h C d [n,o] λs h=>B.pv (V.bin .add a (.int .i64 1)) λp=>Y3 [p] h))) (zx.k3 C N Q Y1 q r d e f g b h)
@[simp] def zx.l5(Q:zQ)(Y1:zL)(i j k a b c d e f:za):zG|[g],h,Y3=>zx.k4 C N Q Y1 Y3 i j k a b c d e g f h|_,_,_=>False
@[simp] def zx.k6(Q:zQ)(Y1:zL)(g i j c d e a:za)(h:zb):Prop:=B.al a (B.pv (V.zb9 2 a) λb=>B.pv (V.zbg b) λf=>zd (zx.l5 C N Q Y1 g i j c d e b f a) [(.int .i64 0)] h)
@[simp] def zx.k7(Q:zQ)(Y1:zL)(g i j a c b:za)(h:zb):Prop:=B.pv (V.zb4 4 a b) λd=>B.ldn h d 4 λe=>B.pv (V.zqy 0 4 e (.agg [.str [],.int .i64 0,.zbp,.zbp])) λf=>zx.k6 C N Q Y1 g i j a c b f h
@[simp] def zx.k8(Q:zQ)(Y1:zL)(c d j e a b:za)(h:zb):Prop:=B.pv (V.bin .lss b a) λf=>B.cond f (zx.k7 C N Q Y1 c d j e a b h) (B.ld h c λg=>B.ld h d λi=>Q (.tup [g,i]) h)
@[simp] def zx.l9(Q:zQ)(d e f a b:za):zG|[c],h,Y1=>zx.k8 C N Q Y1 d e f a b c h|_,_,_=>False
@[simp] def zx.k10(Q:zQ)(c a:za)(h:zb):Prop:=B.zhb h (some [.nilf]) λb h=>B.st h (.ptr b 0 0) (.fn (N 577) [] [a]) λh=>B.pv (V.zbg c) λd=>zd (zx.l9 C N Q a (.ptr b 0 0) (.fn (N 576) [] [a,(.ptr b 0 0)]) c d) [(.int .i64 0)] h
@[simp] def zx.k11(Q:zQ)(Y4:zL)(n c d e a:za)(h:zb):Prop:=B.pv (V.bin .lss a e) λf=>B.cond f (B.pv (V.zb4 4 d a) λg=>B.ldn h g 4 λi=>B.pv (V.zqy 0 4 i (.agg [.str [],.int .i64 0,.zbp,.zbp])) λb=>B.ld h c λj=>B.al b (B.pv (V.zb9 0 b) λk=>B.al b (B.pv (V.zb9 0 b) λl=>B.mset h .s j k l λh=>B.pv (V.bin .add a (.int .i64 1)) λm=>Y4 [m] h))) (zx.k10 C N Q n c h)
@[simp] def zx.l12(Q:zQ)(d e a b:za):zG|[c],h,Y4=>zx.k11 C N Q Y4 d e a b c h|_,_,_=>False
@[simp] def zx.k13(Q:zQ)(a:za)(h:zb):Prop:=B.zsg h λb h=>B.zhb h (some [.nilm]) λc h=>B.st h (.ptr c 0 0) b λh=>B.pv (V.zbg a) λd=>zd (zx.l12 C N Q a (.ptr c 0 0) a d) [(.int .i64 0)] h
@[simp] def zx.cps(a:za)(h:zb)(Q:zQ):Prop:=zx.k13 C N Q a h
def zx.Imp:Prop:=im1 C (N 568) (zx.cps C N)
@[simp] def zf5.k1(Q:zQ)(d e:za)(h:zb):Prop:=B.zhb h (zer [(0,none,d),(1,none,e)] (zgc 2 [.zbp])) λf h=>B.call C (N 373) [(.sl f 0 0 2 1 2)] h λa h=>B.call C (N 364) [a] h λg h=>B.call C (N 365) [a] h λb h=>B.call C (N 567) [b] h λc h=>Q c h
@[simp] def zf5.cps(a b:za)(h:zb)(Q:zQ):Prop:=zf5.k1 C N Q a b h
def zf5.Imp:Prop:=im2 C (N 570) (zf5.cps C N)
@[simp] def zfn.k1(C:zh)(N:zN)(Q:zQ)(b c:za)(h:zb):Prop:=B.pv (A.zsn 6 b) λa=>B.al a (B.pv (V.zb9 0 a) λd=>B.pv (V.fieldAddr 7 c) λe=>B.ld h e λf=>B.pv (V.bin .eql d f) λg=>Q g h)
@[simp] def zfn.cps(a b:za)(h:zb)(Q:zQ):Prop:=zfn.k1 C N Q a b h
def zfn.Imp:Prop:=im2 C (N 571) (zfn.cps C N)
@[simp] def zfm.k1(C:zh)(N:zN)(Q:zQ)(b c:za)(h:zb):Prop:=B.pv (A.zsn 8 b) λa=>B.al a (B.pv (V.zb9 0 a) λd=>B.pv (V.fieldAddr 8 c) λe=>B.ld h e λf=>B.pv (V.bin .eql d f) λg=>Q g h)
@[simp] def zfm.cps(a b:za)(h:zb)(Q:zQ):Prop:=zfm.k1 C N Q a b h
def zfm.Imp:Prop:=im2 C (N 573) (zfm.cps C N)
@[simp] def zfo.k1(C:zh)(N:zN)(Q:zQ)(b c:za)(h:zb):Prop:=B.pv (A.zsn 4 b) λa=>B.al a (B.pv (V.zb9 0 a) λd=>B.pv (V.fieldAddr 2 c) λe=>B.ld h e λf=>B.pv (V.bin .eql d f) λg=>Q g h)
@[simp] def zfo.cps(a b:za)(h:zb)(Q:zQ):Prop:=zfo.k1 C N Q a b h
def zfo.Imp:Prop:=im2 C (N 574) (zfo.cps C N)
@[simp] def zd4.k1(C:zh)(N:zN)(Q:zQ)(l d a c:za)(h:zb):Prop:=B.ld h a λm=>B.pv (A.lkp h (some .s) (some (.str [])) true m d) λb=>B.pv (V.ext 0 b) λn=>B.pv (V.ext 1 b) λe=>B.cond e (B.ld h a λf=>B.ld h c λg=>B.ld h c λi=>B.ziu h C g [l] (B.zoy h [(a,none),(c,none)] (λj h=>B.ziu h C i [d] (B.zoy h [(a,none)] (λk h=>B.mset h .s f j k λh=>Q (.tup []) h))))) (Q (.tup []) h)
@[simp] def zd4.cps(a b c d:za)(h:zb)(Q:zQ):Prop:=zd4.k1 C N Q a b c d h
def zd4.Imp:Prop:=im4 C (N 576) (zd4.cps C N)
@[simp] def zc2.k1(C:zh)(N:zN)(Q:zQ)(Y1:zL)(a b:za)(h:zb):Prop:=B.ld h b λd=>B.pv (A.lkp h (some .s) (some (.str [])) false d a) λe=>B.pv (V.bin .neq e a) λf=>B.cond f (B.ld h b λg=>B.pv (A.lkp h (some .s) (some (.str [])) false g a) λc=>Y1 [c] h) (Q a h)
@[simp] def zc2.l2(Q:zQ)(a:za):zG|[b],h,Y1=>zc2.k1 C N Q Y1 b a h|_,_,_=>False
@[simp] def zc2.cps(a b:za)(h:zb)(Q:zQ):Prop:=zd (zc2.l2 C N Q b) [a] h
def zc2.Imp:Prop:=im2 C (N 577) (zc2.cps C N)
variable(C:zh)(N:Nat→Nat)
@[simp] def zdy.k1(Q:zQ)(c l:za)(h:zb):Prop:=B.call C (N 564) [c] h λd h=>B.pv (V.bin .gtr d (.int .i64 300)) λa=>B.gd h a false (λK=>K c h) λe h=>B.gd h a false (λK=>B.pv (V.zbg e) λv=>K v h) λf h=>B.gd h a false (λK=>B.pv (V.bin .gtr f (.int .i64 70)) λv=>K v h) λg h=>B.pick a (.bool true) g λb=>B.gd h b false (λK=>K l h) λi h=>B.gd h b false (λK=>B.pv (V.bin .gtr i (.int .i64 200)) λv=>K v h) λj h=>B.pick b (.bool true) j λk=>Q k h
@[simp] def zdy.k2(Q:zQ)(Y1:zL)(p d b c:za)(h:zb):Prop:=B.pv (V.zbg d) λq=>B.pv (V.bin .lss c q) λa=>B.gd h a true (λK=>K b h) λe h=>B.gd h a true (λK=>B.pv (V.bin .leq e (.int .i64 200)) λv=>K v h) λf h=>B.pick a f (.bool false) λg=>B.cond g (B.pv (V.bin .add b (.int .i64 1)) λi=>B.pv (V.zb4 1 d c) λj=>B.ld h j λk=>B.pv (V.zkf k) λl=>B.pv (V.bin .quo l (.int .i64 20)) λm=>B.pv (V.bin .add i m) λn=>B.pv (V.bin .add c (.int .i64 1)) λo=>Y1 [n,o] h) (zdy.k1 C N Q p b h)
@[simp] def zdy.l3(Q:zQ)(a b:za):zG|[c,d],h,Y1=>zdy.k2 C N Q Y1 a b c d h|_,_,_=>False
@[simp] def zdy.cps(a b:za)(h:zb)(Q:zQ):Prop:=zd (zdy.l3 C N Q a b) [(.int .i64 0),(.int .i64 0)] h
def zdy.Imp:Prop:=im2 C (N 555) (zdy.cps C N)
@[simp] def zf6.k1(Q:zQ)(h:zb):Prop:=B.call C (N 562) [] h λv2 h=>B.pv (A.bld [(0,none,(.int .i64 3)),(1,none,(.str [68]))] [.int .i64 0,.str [],.int .i64 0,.int .i64 0,.int .i64 0,.bool false]) λv3=>B.zhb h (zer [(0,some 6,v3)] (zgc 1 [.int .i64 0,.str [],.int .i64 0,.int .i64 0,.int .i64 0,.bool false])) λi4 h=>B.pv (A.bld [(3,none,v2),(4,none,(.sl i4 0 0 1 6 1))] [.int .i64 0,.int .i64 0,.int .i64 0,.zbp,.zbp,.zbp]) λv5=>B.pv (V.zqy 0 6 v5 (.agg [.int .i64 0,.int .i64 0,.int .i64 0,.zbp,.zbp,.zbp])) λf=>B.call C (N 562) [] h λv6 h=>B.call C (N 554) [v6] h λv7 h=>B.zhb h (zer [(0,none,(.str [65])),(1,none,(.str [75]))] (zgc 2 [.str []])) λi8 h=>B.zhb h (zer [(0,none,(.str [66])),(1,none,(.str [67]))] (zgc 2 [.str []])) λi9 h=>B.zhb h (zer [(0,none,(.str [68]))] (zgc 1 [.str []])) λg h=>B.zhb h (zer [(0,none,(.sl i8 0 0 2 1 2)),(1,none,(.sl i9 0 0 2 1 2)),(2,none,(.sl g 0 0 1 1 1))] (zgc 3 [.zbp])) λj h=>B.call C (N 563) [v7,(.sl j 0 0 3 1 3)] h λb h=>B.gd h b true (λK=>B.call C (N 562) [] h K) λk h=>B.gd h b true (λK=>B.zhb h (zer [(0,none,(.str [75])),(1,none,(.str [90]))] (zgc 2 [.str []])) λi h=>K (.sl i 0 0 2 1 2) h) λl h=>B.gd h b true (λK=>B.call C (N 553) [k,l] h K) λm h=>B.gd h b true (λK=>B.zhb h (zer [(0,none,(.str [65])),(1,none,(.str [75])),(2,none,(.str [90]))] (zgc 3 [.str []])) λi h=>K (.sl i 0 0 3 1 3) h) λn h=>B.gd h b true (λK=>B.call C (N 133) [m,n] h K) λo h=>B.pick b o (.bool false) λc=>B.gd h c true (λK=>B.pv (V.zfp 0 6 f) λv=>K v h) λp h=>B.gd h c true (λK=>B.pv (A.bld [(0,none,(.int .u8 4)),(2,none,(.str [67]))] [.int .u8 0,.int .i64 0,.str [],.int .i64 0,.int .i64 0,.int .i64 0,.int .i64 0,.int .i64 0,.int .i64 0,.zbp,.zbp]) λv=>K v h) λq h=>B.gd h c true (λK=>B.call C (N 559) [p,q] h K) λr h=>B.gd h c true (λK=>B.zhb h (zer [(0,none,(.str [35,108,111,116])),(1,none,(.str [66])),(2,none,(.str [67]))] (zgc 3 [.str []])) λi h=>K (.sl i 0 0 3 1 3) h) λs h=>B.gd h c true (λK=>B.call C (N 133) [r,s] h K) λt h=>B.pick c t (.bool false) λd=>B.gd h d true (λK=>B.pv (V.zfp 0 6 f) λv=>K v h) λu h=>B.gd h d true (λK=>B.pv (A.bld [(0,none,(.int .u8 11)),(8,none,(.int .i64 3))] [.int .u8 0,.int .i64 0,.str [],.int .i64 0,.int .i64 0,.int .i64 0,.int .i64 0,.int .i64 0,.int .i64 0,.zbp,.zbp]) λv=>K v h) λw h=>B.gd h d true (λK=>B.call C (N 559) [u,w] h K) λx h=>B.gd h d true (λK=>B.zhb h (zer [(0,none,(.str [42]))] (zgc 1 [.str []])) λi h=>K (.sl i 0 0 1 1 1) h) λy h=>B.gd h d true (λK=>B.call C (N 133) [x,y] h K) λz h=>B.pick d z (.bool false) λe=>B.gd h e true (λK=>B.pv (V.zfp 0 6 f) λv=>K v h) λaa h=>B.gd h e true (λK=>B.pv (A.bld [(0,none,(.int .u8 12))] [.int .u8 0,.int .i64 0,.str [],.int .i64 0,.int .i64 0,.int .i64 0,.int .i64 0,.int .i64 0,.int .i64 0,.zbp,.zbp]) λv=>K v h) λab h=>B.gd h e true (λK=>B.call C (N 559) [aa,ab] h K) λac h=>B.gd h e true (λK=>B.zhb h (zer [(0,none,(.str [42]))] (zgc 1 [.str []])) λi h=>K (.sl i 0 0 1 1 1) h) λad h=>B.gd h e true (λK=>B.call C (N 133) [ac,ad] h K) λae h=>B.pick e ae (.bool false) λa=>B.gd h a true (λK=>B.pv (V.zfp 0 6 f) λv=>K v h) λaf h=>B.gd h a true (λK=>B.zhb h (zer [(0,none,(.str [68]))] (zgc 1 [.str []])) λi h=>K (.sl i 0 0 1 1 1) h) λag h=>B.gd h a true (λK=>B.call C (N 558) [af,ag] h K) λah h=>B.gd h a true (λK=>B.pv (V.zb9 4 ah) λv=>K v h) λai h=>B.gd h a true (λK=>B.pv (V.zbg ai) λv=>K v h) λaj h=>B.gd h a true (λK=>B.pv (V.bin .eql aj (.int .i64 1)) λv=>K v h) λak h=>B.pick a ak (.bool false) λal=>Q al h
@[simp] def zf6.cps(h:zb)(Q:zQ):Prop:=zf6.k1 C N Q h
def zf6.Imp:Prop:=im0 C (N 556) (zf6.cps C N)
@[simp] def zc8.k1(Q:zQ)(f b:za)(h:zb):Prop:=B.pv (V.bin .gtr f (.int .i64 2000)) λa=>B.al b (B.gd h a false (λK=>K .undef h) λ_ h=>B.gd h a false (λK=>B.pv (V.zb9 3 b) λv=>K v h) λc h=>B.gd h a false (λK=>B.call C (N 555) [c,.zbp] h K) λd h=>B.pick a (.bool true) d λe=>Q e h)
@[simp] def zc8.k2(Q:zQ)(Y1:zL)(d c a:za)(h:zb):Prop:=B.al a (B.pv (V.zb9 5 a) λe=>B.pv (V.zbg e) λf=>B.pv (V.bin .lss c f) λb=>B.gd h b true (λK=>K d h) λg h=>B.gd h b true (λK=>B.pv (V.bin .leq g (.int .i64 2000)) λv=>K v h) λi h=>B.pick b i (.bool false) λj=>B.cond j (B.pv (V.bin .add d (.int .i64 1)) λk=>B.al a (B.pv (V.zb9 5 a) λl=>B.pv (V.zb4 8 l c) λm=>B.pv (V.fieldAddr 1 m) λn=>B.ld h n λo=>B.pv (V.zkf o) λp=>B.pv (V.bin .quo p (.int .i64 20)) λq=>B.pv (V.bin .add k q) λr=>B.al a (B.pv (V.zb9 5 a) λs=>B.pv (V.zb4 8 s c) λt=>B.pv (V.fieldAddr 7 t) λu=>B.ld h u λw=>B.pv (V.zkf w) λx=>B.pv (V.bin .quo x (.int .i64 20)) λy=>B.pv (V.bin .add r y) λz=>B.pv (V.bin .add c (.int .i64 1)) λaa=>Y1 [z,aa] h))) (zc8.k1 C N Q d a h))
@[simp] def zc8.l3(Q:zQ)(a:za):zG|[b,c],h,Y1=>zc8.k2 C N Q Y1 b c a h|_,_,_=>False
@[simp] def zc8.k4(Q:zQ)(Y2:zL)(c d a:za)(h:zb):Prop:=B.al a (B.pv (V.zb9 4 a) λr=>B.pv (V.zbg r) λs=>B.pv (V.bin .lss d s) λb=>B.gd h b true (λK=>K c h) λe h=>B.gd h b true (λK=>B.pv (V.bin .leq e (.int .i64 2000)) λv=>K v h) λf h=>B.pick b f (.bool false) λg=>B.cond g (B.pv (V.bin .add c (.int .i64 1)) λi=>B.al a (B.pv (V.zb9 4 a) λj=>B.pv (V.zb4 6 j d) λk=>B.pv (V.fieldAddr 1 k) λl=>B.ld h l λm=>B.pv (V.zkf m) λn=>B.pv (V.bin .quo n (.int .i64 20)) λo=>B.pv (V.bin .add i o) λp=>B.pv (V.bin .add d (.int .i64 1)) λq=>Y2 [p,q] h)) (zd (zc8.l3 C N Q a) [c,(.int .i64 0)] h))
@[simp] def zc8.l5(Q:zQ)(a:za):zG|[b,c],h,Y2=>zc8.k4 C N Q Y2 b c a h|_,_,_=>False
@[simp] def zc8.cps(a:za)(h:zb)(Q:zQ):Prop:=B.pv (A.zsn 6 a) λb=>zd (zc8.l5 C N Q b) [(.int .i64 0),(.int .i64 0)] h
def zc8.Imp:Prop:=im1 C (N 560) (zc8.cps C N)
@[simp] def zgi.k1(C:zh)(N:zN)(Q:zQ)(h:zb):Prop:=B.pv (A.bld [(0,none,(.str [65])),(1,none,(.int .i64 1))] [.str [],.int .i64 0,.zbp,.zbp]) λa=>B.zhb h (zer [(0,none,(.str [67]))] (zgc 1 [.str []])) λb h=>B.pv (A.bld [(0,none,(.str [66])),(1,none,(.int .i64 1)),(3,none,(.sl b 0 0 1 1 1))] [.str [],.int .i64 0,.zbp,.zbp]) λc=>B.pv (A.bld [(0,none,(.str [67])),(1,none,(.int .i64 1))] [.str [],.int .i64 0,.zbp,.zbp]) λd=>B.pv (A.bld [(0,none,(.str [68])),(1,none,(.int .i64 1))] [.str [],.int .i64 0,.zbp,.zbp]) λe=>B.pv (A.bld [(0,none,(.str [65])),(1,none,(.int .i64 2))] [.str [],.int .i64 0]) λf=>B.zhb h (zer [(0,some 2,f)] (zgc 1 [.str [],.int .i64 0])) λg h=>B.pv (A.bld [(0,none,(.str [75])),(2,none,(.sl g 0 0 1 2 1))] [.str [],.int .i64 0,.zbp,.zbp]) λi=>B.zhb h (zer [(0,some 4,a),(4,some 4,c),(8,some 4,d),(12,some 4,e),(16,some 4,i)] (zgc 5 [.str [],.int .i64 0,.zbp,.zbp])) λj h=>Q (.sl j 0 0 5 4 5) h
@[simp] def zgi.cps(h:zb)(Q:zQ):Prop:=zgi.k1 C N Q h
def zgi.Imp:Prop:=im0 C (N 562) (zgi.cps C N)
@[simp] def zeo.k1(Q:zQ)(Y1:zL)(b m a:za)(h:zb):Prop:=B.pv (V.zbg b) λc=>B.pv (V.bin .lss a c) λd=>B.cond d (B.pv (V.zb4 1 b a) λe=>B.ld h e λf=>B.pv (V.zb4 1 m a) λg=>B.ld h g λi=>B.call C (N 133) [f,i] h λj h=>B.pv (V.un .not j) λk=>B.cond k (Q (.bool false) h) (B.pv (V.bin .add a (.int .i64 1)) λl=>Y1 [l] h)) (Q (.bool true) h)
@[simp] def zeo.l2(Q:zQ)(a b:za):zG|[c],h,Y1=>zeo.k1 C N Q Y1 a b c h|_,_,_=>False
@[simp] def zeo.k3(Q:zQ)(a b:za)(h:zb):Prop:=B.pv (V.zbg a) λd=>B.pv (V.zbg b) λe=>B.pv (V.bin .neq d e) λc=>B.cond c (Q (.bool false) h) (zd (zeo.l2 C N Q a b) [(.int .i64 0)] h)
@[simp] def zeo.cps(a b:za)(h:zb)(Q:zQ):Prop:=zeo.k3 C N Q a b h
def zeo.Imp:Prop:=im2 C (N 563) (zeo.cps C N)
@[simp] def zce.k1(C:zh)(N:zN)(Q:zQ)(Y1:zL)(Y2:zL)(e b c d:za)(h:zb):Prop:=B.pv (V.zb4 4 e c) λf=>B.pv (V.fieldAddr 3 f) λg=>B.ld h g λi=>B.pv (V.zbg i) λj=>B.pv (V.bin .lss d j) λa=>B.gd h a true (λK=>K b h) λk h=>B.gd h a true (λK=>B.pv (V.bin .leq k (.int .i64 2000)) λv=>K v h) λl h=>B.pick a l (.bool false) λm=>B.cond m (B.pv (V.zb4 4 e c) λn=>B.pv (V.fieldAddr 3 n) λo=>B.ld h o λp=>B.pv (V.zb4 1 p d) λq=>B.ld h q λr=>B.pv (V.zkf r) λs=>B.pv (V.bin .quo s (.int .i64 20)) λt=>B.pv (V.bin .add b t) λu=>B.pv (V.bin .add d (.int .i64 1)) λw=>Y2 [u,w] h) (B.pv (V.bin .add c (.int .i64 1)) λx=>Y1 [b,x] h)
@[simp] def zce.l2(Q:zQ)(Y1:zL)(a b:za):zG|[c,d],h,Y2=>zce.k1 C N Q Y1 Y2 a c b d h|_,_,_=>False
@[simp] def zce.k3(Q:zQ)(Y1:zL)(Y3:zL)(b c d e:za)(h:zb):Prop:=B.pv (V.zb4 4 b d) λf=>B.pv (V.fieldAddr 2 f) λg=>B.ld h g λi=>B.pv (V.zbg i) λj=>B.pv (V.bin .lss e j) λa=>B.gd h a true (λK=>K c h) λk h=>B.gd h a true (λK=>B.pv (V.bin .leq k (.int .i64 2000)) λv=>K v h) λl h=>B.pick a l (.bool false) λm=>B.cond m (B.pv (V.zb4 4 b d) λn=>B.pv (V.fieldAddr 2 n) λo=>B.ld h o λp=>B.pv (V.zb4 2 p e) λq=>B.pv (V.fieldAddr 0 q) λr=>B.ld h r λs=>B.pv (V.zkf s) λt=>B.pv (V.bin .quo t (.int .i64 20)) λu=>B.pv (V.bin .add c u) λw=>B.pv (V.bin .add e (.int .i64 1)) λx=>Y3 [w,x] h) (zd (zce.l2 C N Q Y1 b d) [c,(.int .i64 0)] h)
@[simp] def zce.l4(Q:zQ)(Y1:zL)(a b:za):zG|[c,d],h,Y3=>zce.k3 C N Q Y1 Y3 a c b d h|_,_,_=>False
@[simp] def zce.k5(Q:zQ)(Y1:zL)(a u b:za)(h:zb):Prop:=B.pv (V.bin .add u (.int .i64 1)) λc=>B.pv (V.zb4 4 a b) λd=>B.pv (V.fieldAddr 0 d) λe=>B.ld h e λf=>B.pv (V.zkf f) λg=>B.pv (V.bin .quo g (.int .i64 20)) λi=>B.pv (V.bin .add c i) λj=>B.pv (V.zb4 4 a b) λk=>B.pv (V.fieldAddr 2 k) λl=>B.ld h l λm=>B.pv (V.zbg m) λn=>B.pv (V.bin .add j n) λo=>B.pv (V.zb4 4 a b) λp=>B.pv (V.fieldAddr 3 p) λq=>B.ld h q λr=>B.pv (V.zbg r) λs=>B.pv (V.bin .add o s) λt=>zd (zce.l4 C N Q Y1 a b) [t,(.int .i64 0)] h
@[simp] def zce.k6(Q:zQ)(Y1:zL)(c b d:za)(h:zb):Prop:=B.pv (V.zbg c) λi=>B.pv (V.bin .lss d i) λa=>B.gd h a true (λK=>K b h) λe h=>B.gd h a true (λK=>B.pv (V.bin .leq e (.int .i64 2000)) λv=>K v h) λf h=>B.pick a f (.bool false) λg=>B.cond g (zce.k5 C N Q Y1 c b d h) (Q b h)
@[simp] def zce.l7(Q:zQ)(a:za):zG|[b,c],h,Y1=>zce.k6 C N Q Y1 a b c h|_,_,_=>False
@[simp] def zce.cps(a:za)(h:zb)(Q:zQ):Prop:=zd (zce.l7 C N Q a) [(.int .i64 0),(.int .i64 0)] h
def zce.Imp:Prop:=im1 C (N 564) (zce.cps C N)
@[simp] def zd9.k1(Q:zQ)(v0 v1 n:za)(h:zb):Prop:=B.pv (A.zsn 6 v0) λk=>B.pv (A.zsn 11 v1) λj=>B.pv (V.zfp 0 6 k) λq=>B.call C (N 560) [q] h λl h=>B.gd h l false (λK=>K n h) λr h=>B.gd h l false (λK=>B.call C (N 555) [.zbp,r] h K) λs h=>B.pick l (.bool true) s λc=>B.al j (B.gd h c false (λK=>K .undef h) λ_ h=>B.gd h c false (λK=>B.pv (V.zb9 2 j) λv=>K v h) λt h=>B.gd h c false (λK=>B.pv (V.zkf t) λv=>K v h) λu h=>B.gd h c false (λK=>B.pv (V.bin .gtr u (.int .i64 1000)) λv=>K v h) λw h=>B.pick c (.bool true) w λx=>B.cond x (B.call C (N 556) [] h λy h=>Q y h) (B.pv (V.zfp 0 6 k) λz=>B.call C (N 446) [z] h λaa h=>B.call C (N 406) [n] h λg h=>B.pv (V.zqy 0 6 aa (.agg [.int .i64 0,.int .i64 0,.int .i64 0,.zbp,.zbp,.zbp])) λd=>B.pv (V.zfp 0 6 d) λab=>B.pv (V.zfp 0 11 j) λac=>B.pv (V.zfp 0 6 d) λad=>B.pv (V.zfp 0 11 j) λae=>B.al d (B.al j (B.call C (N 559) [ab,ac] h λo h=>B.call C (N 559) [ad,ae] h λaf h=>B.pv (V.zfp 0 6 d) λag=>B.pv (V.zfp 0 6 d) λah=>B.al d (B.call C (N 558) [ag,g] h λai h=>B.call C (N 558) [ah,g] h λaj h=>B.pv (V.zqy 0 6 ai (.agg [.int .i64 0,.int .i64 0,.int .i64 0,.zbp,.zbp,.zbp])) λm=>B.pv (V.zqy 0 6 aj (.agg [.int .i64 0,.int .i64 0,.int .i64 0,.zbp,.zbp,.zbp])) λak=>B.pv (V.zfp 0 6 d) λam=>B.pv (V.zfp 0 6 k) λan=>B.call C (N 447) [am,an] h λao h=>B.pv (V.un .not ao) λe=>B.gd h e false (λK=>K g h) λap h=>B.gd h e false (λK=>K n h) λaq h=>B.gd h e false (λK=>B.call C (N 407) [ap,aq] h K) λar h=>B.gd h e false (λK=>B.pv (V.un .not ar) λv=>K v h) λau h=>B.pick e (.bool true) au λav=>B.cond av (Q (.bool false) h) (B.pv (V.zfp 0 6 d) λaw=>B.call C (N 448) [aw] h λbt h=>B.call C (N 409) [g] h λbu h=>B.pv (V.zfp 0 6 k) λax=>B.pv (V.zfp 0 11 j) λay=>B.call C (N 596) [ax,ay] h λaz h=>B.call C (N 133) [o,az] h λb h=>B.gd h b true (λK=>B.pv (V.zfp 0 6 m) λv=>K v h) λba h=>B.gd h b true (λK=>B.pv (V.zfp 0 6 k) λv=>K v h) λbb h=>B.gd h b true (λK=>K n h) λbc h=>B.al m (B.gd h b true (λK=>B.call C (N 597) [bb,bc] h K) λbd h=>B.gd h b true (λK=>B.call C (N 116) [ba,bd] h K) λbe h=>B.pick b be (.bool false) λf=>B.gd h f true (λK=>K o h) λbf h=>B.gd h f true (λK=>K af h) λbg h=>B.gd h f true (λK=>B.zhb h (zer [(0,none,bf),(1,none,bg)] (zgc 2 [.zbp])) λi h=>K (.sl i 0 0 2 1 2) h) λbh h=>B.gd h f true (λK=>B.call C (N 396) [bh] h K) λbi h=>B.pick f bi (.bool false) λa=>B.gd h a true (λK=>B.pv (V.zfp 0 6 m) λv=>K v h) λbj h=>B.gd h a true (λK=>B.zhb h (zer [(0,some 6,bj)] (zgc 1 [.int .i64 0,.int .i64 0,.int .i64 0,.zbp,.zbp,.zbp])) λi h=>K (.sl i 0 0 1 6 1) h) λbk h=>B.gd h a true (λK=>B.pv (V.zfp 0 6 ak) λv=>K v h) λbl h=>B.gd h a true (λK=>B.zhb h (zer [(0,some 6,bl)] (zgc 1 [.int .i64 0,.int .i64 0,.int .i64 0,.zbp,.zbp,.zbp])) λi h=>K (.sl i 0 0 1 6 1) h) λbm h=>B.gd h a true (λK=>B.zhb h (zer [(0,none,bk),(1,none,bm)] (zgc 2 [.zbp])) λi h=>K (.sl i 0 0 2 1 2) h) λbn h=>B.gd h a true (λK=>B.call C (N 453) [bn] h K) λbo h=>B.pick a bo (.bool false) λp=>B.gd h p true (λK=>B.call C (N 556) [] h K) λbp h=>B.pick p bp (.bool false) λbq=>Q bq h)))))))
@[simp] def zd9.cps(a b c:za)(h:zb)(Q:zQ):Prop:=zd9.k1 C N Q a b c h
def zd9.Imp:Prop:=im3 C (N 598) (zd9.cps C N)
variable(C:zh)(N:Nat→Nat)
@[simp] def zft.k1(Q:zQ)(a:za)(h:zb):Prop:=B.cond (.bool false) (B.pv (V.toInt .u32 a) λb=>B.call C (N 304) [b] h λc h=>Q c h) (B.call C (N 305) [a] h λd h=>Q d h)
@[simp] def zft.cps(a:za)(h:zb)(Q:zQ):Prop:=zft.k1 C N Q a h
def zft.Imp:Prop:=im1 C (N 287) (zft.cps C N)
@[simp] def zcd.k1(C:zh)(N:zN)(Q:zQ)(e f:za)(h:zb):Prop:=B.pv (V.toInt .u8 e) λa=>B.pv (V.zt3 (.str [0,1,2,2,3,3,3,3,4,4,4,4,4,4,4,4,5,5,5,5,5,5,5,5,5,5,5,5,5,5,5,5,6,6,6,6,6,6,6,6,6,6,6,6,6,6,6,6,6,6,6,6,6,6,6,6,6,6,6,6,6,6,6,6,7,7,7,7,7,7,7,7,7,7,7,7,7,7,7,7,7,7,7,7,7,7,7,7,7,7,7,7,7,7,7,7,7,7,7,7,7,7,7,7,7,7,7,7,7,7,7,7,7,7,7,7,7,7,7,7,7,7,7,7,7,7,7,7,8,8,8,8,8,8,8,8,8,8,8,8,8,8,8,8,8,8,8,8,8,8,8,8,8,8,8,8,8,8,8,8,8,8,8,8,8,8,8,8,8,8,8,8,8,8,8,8,8,8,8,8,8,8,8,8,8,8,8,8,8,8,8,8,8,8,8,8,8,8,8,8,8,8,8,8,8,8,8,8,8,8,8,8,8,8,8,8,8,8,8,8,8,8,8,8,8,8,8,8,8,8,8,8,8,8,8,8,8,8,8,8,8,8,8,8,8,8,8,8,8,8,8,8,8,8,8,8]) a) λb=>B.pv (V.toInt .i64 b) λc=>B.pv (V.bin .add f c) λd=>Q d h
@[simp] def zcd.k2(Q:zQ)(a b:za)(h:zb):Prop:=B.pv (V.bin .geq a (.int .u64 256)) λc=>B.cond c (B.pv (V.bin .shr a (.int .u64 8)) λd=>B.pv (V.bin .add b (.int .i64 8)) λe=>zcd.k1 C N Q d e h) (zcd.k1 C N Q a b h)
@[simp] def zcd.k3(Q:zQ)(a b:za)(h:zb):Prop:=B.pv (V.bin .geq a (.int .u64 65536)) λe=>B.cond e (B.pv (V.bin .shr a (.int .u64 16)) λc=>B.pv (V.bin .add b (.int .i64 16)) λd=>zcd.k2 C N Q c d h) (zcd.k2 C N Q a b h)
@[simp] def zcd.k4(Q:zQ)(a b:za)(h:zb):Prop:=B.pv (V.bin .geq a (.int .u64 4294967296)) λc=>B.cond c (B.pv (V.bin .shr a (.int .u64 32)) λd=>zcd.k3 C N Q d (.int .i64 32) h) (zcd.k3 C N Q a b h)
@[simp] def zcd.cps(a:za)(h:zb)(Q:zQ):Prop:=zcd.k4 C N Q a (.int .i64 0) h
def zcd.Imp:Prop:=im1 C (N 305) (zcd.cps C N)
variable(C:zh)(N:Nat→Nat)
@[simp] def zdb.k1(Q:zQ)(Y1:zL)(Y2:zL)(m n b o l c a:za)(h:zb):Prop:=B.pv (V.zbg c) λd=>B.pv (V.bin .lss a d) λe=>B.cond e (B.pv (V.zb4 1 c a) λf=>B.ld h f λg=>B.call C (N 603) [b,g] h λi h=>B.pv (V.bin .add a (.int .i64 1)) λj=>Y2 [i,j] h) (B.pv (V.bin .add l (.int .i64 1)) λk=>Y1 [b,k] h)
@[simp] def zdb.l2(Q:zQ)(Y1:zL)(a b c d e:za):zG|[f,g],h,Y2=>zdb.k1 C N Q Y1 Y2 a b f c d e g h|_,_,_=>False
@[simp] def zdb.k3(Q:zQ)(Y1:zL)(c a e d b m:za)(h:zb):Prop:=B.pv (V.zb4 1 a b) λf=>B.ld h f λg=>B.call C (N 600) [d,g] h λi h=>B.cond i (B.pv (V.zb4 1 a b) λj=>B.ld h j λk=>B.call C (N 601) [c,k] h λl h=>zd (zdb.l2 C N Q Y1 c a d b l) [e,(.int .i64 0)] h) (zd (zdb.l2 C N Q Y1 c a d b m) [e,(.int .i64 0)] h)
@[simp] def zdb.k4(Q:zQ)(Y1:zL)(f a g i b:za)(h:zb):Prop:=B.pv (V.zb4 1 a b) λc=>B.ld h c λd=>B.zhb h (zer [(0,none,d)] (zgc 1 [.str []])) λe h=>zdb.k3 C N Q Y1 f a g i b (.sl e 0 0 1 1 1) h
@[simp] def zdb.l5(Q:zQ)(f a g:za):zG|[b,c],h,Y1=>B.pv (V.zbg a) λd=>B.pv (V.bin .lss c d) λe=>B.cond e (zdb.k4 C N Q Y1 f a b g c h) (Q b h)|_,_,_=>False
@[simp] def zdb.cps(a c:za)(h:zb)(Q:zQ):Prop:=B.call C (N 602) [a] h λb h=>zd (zdb.l5 C N Q a c b) [.zbp,(.int .i64 0)] h
def zdb.Imp:Prop:=im2 C (N 594) (zdb.cps C N)
@[simp] def zu.k1(Q:zQ)(j k a b:za)(h:zb):Prop:=B.pv (V.un .not k) λc=>B.cond c (Q j h) (B.al a (B.pv (V.zb9 3 a) λd=>B.al b (B.pv (V.zb9 2 b) λe=>B.zhb h (zer [(0,none,e)] (zgc 1 [.str []])) λf h=>B.call C (N 594) [d,(.sl f 0 0 1 1 1)] h λg h=>B.call C (N 603) [g,(.str [35,108,111,116])] h λi h=>Q i h)))
@[simp] def zu.k2(Q:zQ)(j k a b:za)(h:zb):Prop:=B.pv (V.un .not k) λc=>B.cond c (Q j h) (B.al a (B.pv (V.zb9 3 a) λd=>B.al b (B.pv (V.zb9 2 b) λe=>B.zhb h (zer [(0,none,e)] (zgc 1 [.str []])) λf h=>B.call C (N 594) [d,(.sl f 0 0 1 1 1)] h λg h=>B.call C (N 603) [g,(.str [35,108,105,110,101])] h λi h=>Q i h)))
@[simp] def zu.k3(Q:zQ)(i j a b:za)(h:zb):Prop:=B.pv (V.un .not j) λc=>B.cond c (Q i h) (B.al a (B.pv (V.zb9 3 a) λd=>B.al b (B.pv (V.zb9 2 b) λe=>B.zhb h (zer [(0,none,e)] (zgc 1 [.str []])) λf h=>B.call C (N 594) [d,(.sl f 0 0 1 1 1)] h λg h=>Q g h)))
@[simp] def zu.k4(Q:zQ)(Y1:zL)(v b a c:za)(h:zb):Prop:=B.al a (B.pv (V.zb9 4 a) λd=>B.pv (V.zbg d) λe=>B.pv (V.bin .lss b e) λf=>B.cond f (B.al a (B.pv (V.zb9 4 a) λg=>B.pv (V.zb4 6 g b) λi=>B.pv (V.fieldAddr 0 i) λj=>B.ld h j λk=>B.al c (B.pv (V.zb9 7 c) λl=>B.pv (V.bin .eql k l) λm=>B.cond m (B.al a (B.pv (V.zb9 3 a) λn=>B.al a (B.pv (V.zb9 4 a) λo=>B.pv (V.zb4 6 o b) λp=>B.pv (V.fieldAddr 1 p) λq=>B.ld h q λr=>B.zhb h (zer [(0,none,r)] (zgc 1 [.str []])) λs h=>B.call C (N 594) [n,(.sl s 0 0 1 1 1)] h λt h=>Q t h))) (B.pv (V.bin .add b (.int .i64 1)) λu=>Y1 [u] h)))) (Q v h))
@[simp] def zu.l5(Q:zQ)(a b c:za):zG|[d],h,Y1=>zu.k4 C N Q Y1 a d b c h|_,_,_=>False
@[simp] def zu.k6(Q:zQ)(Y2:zL)(v b a s:za)(h:zb):Prop:=B.al a (B.pv (V.zb9 5 a) λt=>B.pv (V.zbg t) λu=>B.pv (V.bin .lss b u) λc=>B.cond c (B.al a (B.pv (V.zb9 5 a) λd=>B.pv (V.zb4 8 d b) λe=>B.pv (V.fieldAddr 0 e) λf=>B.ld h f λg=>B.al s (B.pv (V.zb9 8 s) λi=>B.pv (V.bin .eql g i) λj=>B.cond j (B.al a (B.pv (V.zb9 3 a) λk=>B.al a (B.pv (V.zb9 5 a) λl=>B.pv (V.zb4 8 l b) λm=>B.pv (V.fieldAddr 1 m) λn=>B.ld h n λo=>B.zhb h (zer [(0,none,o)] (zgc 1 [.str []])) λp h=>B.call C (N 594) [k,(.sl p 0 0 1 1 1)] h λq h=>Q q h))) (B.pv (V.bin .add b (.int .i64 1)) λr=>Y2 [r] h)))) (Q v h))
@[simp] def zu.l7(Q:zQ)(a b c:za):zG|[d],h,Y2=>zu.k6 C N Q Y2 a d b c h|_,_,_=>False
@[simp] def zu.k8(Q:zQ)(d a e f:za)(h:zb):Prop:=B.pv (V.bin .eql a (.int .u8 10)) λb=>B.cond b (B.cond b (zd (zu.l7 C N Q d e f) [(.int .i64 0)] h) (Q .zbp h)) (B.pv (V.bin .eql a (.int .u8 11)) λc=>B.cond c (B.cond c (zd (zu.l7 C N Q d e f) [(.int .i64 0)] h) (Q .zbp h)) (B.pv (V.bin .eql a (.int .u8 14)) λg=>B.cond g (zd (zu.l7 C N Q d e f) [(.int .i64 0)] h) (Q .zbp h)))
@[simp] def zu.k9(Q:zQ)(b a c d:za)(h:zb):Prop:=B.pv (V.bin .eql a (.int .u8 6)) λe=>B.cond e (B.cond e (zd (zu.l5 C N Q b c d) [(.int .i64 0)] h) (zu.k8 C N Q b a c d h)) (B.pv (V.bin .eql a (.int .u8 7)) λf=>B.cond f (B.cond f (zd (zu.l5 C N Q b c d) [(.int .i64 0)] h) (zu.k8 C N Q b a c d h)) (B.pv (V.bin .eql a (.int .u8 8)) λg=>B.cond g (zd (zu.l5 C N Q b c d) [(.int .i64 0)] h) (zu.k8 C N Q b a c d h)))
@[simp] def zu.k10(Q:zQ)(b f a c d:za)(h:zb):Prop:=B.pv (V.bin .eql a (.int .u8 13)) λe=>B.cond e (B.cond e (zu.k3 C N Q b f c d h) (zu.k9 C N Q b a c d h)) (B.pv (V.bin .eql a (.int .u8 15)) λg=>B.cond g (zu.k3 C N Q b f c d h) (zu.k9 C N Q b a c d h))
@[simp] def zu.k11(Q:zQ)(b c a d e:za)(h:zb):Prop:=B.pv (V.bin .eql a (.int .u8 4)) λg=>B.cond g (B.cond g (zu.k1 C N Q b c d e h) (B.pv (V.bin .eql a (.int .u8 9)) λf=>B.cond f (zu.k2 C N Q b c d e h) (zu.k10 C N Q b c a d e h))) (B.pv (V.bin .eql a (.int .u8 5)) λi=>B.cond i (zu.k1 C N Q b c d e h) (B.pv (V.bin .eql a (.int .u8 9)) λf=>B.cond f (zu.k2 C N Q b c d e h) (zu.k10 C N Q b c a d e h)))
@[simp] def zu.k12(Q:zQ)(b c a d e:za)(h:zb):Prop:=B.pv (V.bin .eql a (.int .u8 1)) λf=>B.cond f (B.cond f (Q b h) (zu.k11 C N Q b c a d e h)) (B.pv (V.bin .eql a (.int .u8 2)) λg=>B.cond g (B.cond g (Q b h) (zu.k11 C N Q b c a d e h)) (B.pv (V.bin .eql a (.int .u8 3)) λi=>B.cond i (B.cond i (Q b h) (zu.k11 C N Q b c a d e h)) (B.pv (V.bin .eql a (.int .u8 12)) λj=>B.cond j (Q b h) (zu.k11 C N Q b c a d e h))))
@[simp] def zu.k13(Q:zQ)(i b a:za)(h:zb):Prop:=B.al b (B.pv (V.zb9 3 b) λc=>B.al a (B.pv (V.zb9 2 a) λd=>B.call C (N 602) [c] h λe h=>B.call C (N 600) [e,d] h λf h=>B.al a (B.pv (V.zb9 0 a) λg=>zu.k12 C N Q i f g b a h)))
@[simp] def zu.k14(Q:zQ)(a b:za)(h:zb):Prop:=B.pv (A.zsn 6 a) λc=>B.pv (A.zsn 11 b) λd=>B.zhb h (zer [(0,none,(.str [42]))] (zgc 1 [.str []])) λe h=>zu.k13 C N Q (.sl e 0 0 1 1 1) c d h
@[simp] def zu.cps(a b:za)(h:zb)(Q:zQ):Prop:=zu.k14 C N Q a b h
def zu.Imp:Prop:=im2 C (N 596) (zu.cps C N)
@[simp] def zcy.k1(Q:zQ)(Y1:zL)(w c b e a:za)(h:zb):Prop:=B.al b (B.pv (V.zb9 5 b) λj=>B.pv (V.zbg j) λk=>B.pv (V.bin .lss c k) λl=>B.cond l (B.al b (B.pv (V.zb9 5 b) λm=>B.pv (V.zb4 8 m c) λn=>B.pv (V.fieldAddr 1 n) λo=>B.ld h o λp=>B.call C (N 600) [w,p] h λq h=>B.cond q (B.al a (B.pv (V.zb9 5 a) λr=>B.al b (B.pv (V.zb9 5 b) λs=>B.pv (V.zb4 8 s c) λt=>B.ldn h t 8 λu=>B.zhb h (zer [(0,some 8,u)] (zgc 1 [.int .i64 0,.str [],.int .i64 0,.int .i64 0,.int .i64 0,.int .u8 0,.int .i64 0,.str []])) λf h=>B.ziw h 8 80 r (.sl f 0 0 1 8 1) λg h=>B.al a (B.pv (V.zx9 5 g a) λa=>B.pv (V.bin .add c (.int .i64 1)) λd=>Y1 [d,a] h)))) (B.pv (V.bin .add c (.int .i64 1)) λd=>Y1 [d,a] h))) (B.pv (V.zfp 0 6 a) λi=>B.pv (V.zqy 0 6 i e) λe=>B.pv (oneOf (zm5 (V.zfp 0 6 e) (some []))) λv=>Q v h))
@[simp] def zcy.l2(Q:zQ)(a b c:za):zG|[d,e],h,Y1=>zcy.k1 C N Q Y1 a d b c e h|_,_,_=>False
@[simp] def zcy.k3(Q:zQ)(Y2:zL)(e c b u a:za)(h:zb):Prop:=B.al b (B.pv (V.zb9 4 b) λf=>B.pv (V.zbg f) λg=>B.pv (V.bin .lss c g) λi=>B.cond i (B.al b (B.pv (V.zb9 4 b) λj=>B.pv (V.zb4 6 j c) λk=>B.pv (V.fieldAddr 1 k) λl=>B.ld h l λm=>B.call C (N 600) [e,m] h λn h=>B.cond n (B.al a (B.pv (V.zb9 4 a) λo=>B.al b (B.pv (V.zb9 4 b) λp=>B.pv (V.zb4 6 p c) λq=>B.ldn h q 6 λr=>B.zhb h (zer [(0,some 6,r)] (zgc 1 [.int .i64 0,.str [],.int .i64 0,.int .i64 0,.int .i64 0,.bool false])) λs h=>B.ziw h 6 56 o (.sl s 0 0 1 6 1) λt h=>B.al a (B.pv (V.zx9 4 t a) λa=>B.pv (V.bin .add c (.int .i64 1)) λd=>Y2 [d,a] h)))) (B.pv (V.bin .add c (.int .i64 1)) λd=>Y2 [d,a] h))) (zd (zcy.l2 C N Q e b u) [(.int .i64 0),a] h))
@[simp] def zcy.l4(Q:zQ)(a b c:za):zG|[d,e],h,Y2=>zcy.k3 C N Q Y2 a d b c e h|_,_,_=>False
@[simp] def zcy.k5(Q:zQ)(Y3:zL)(f d c c4 b:za)(h:zb):Prop:=B.al c (B.pv (V.zb9 3 c) λg=>B.pv (V.zbg g) λi=>B.pv (V.bin .lss d i) λj=>B.cond j (B.al c (B.pv (V.zb9 3 c) λk=>B.pv (V.zb4 4 k d) λl=>B.pv (V.fieldAddr 0 l) λm=>B.ld h m λn=>B.call C (N 600) [f,n] h λo h=>B.cond o (B.al c (B.pv (V.zb9 3 c) λp=>B.pv (V.zb4 4 p d) λq=>B.ldn h q 4 λr=>B.pv (V.zqy 0 4 r (.agg [.str [],.int .i64 0,.zbp,.zbp])) λa=>B.al a (B.pv (V.zb9 2 a) λs=>B.ziw h 2 24 .sz s λt h=>B.al a (B.pv (V.zx9 2 t a) λa=>B.al a (B.pv (V.zb9 3 a) λu=>B.ziw h 1 16 .sz u λv h=>B.al a (B.pv (V.zx9 3 v a) λa=>B.al b (B.pv (V.zb9 3 b) λw=>B.pv (V.zfp 0 4 a) λx=>B.zhb h (zer [(0,some 4,x)] (zgc 1 [.str [],.int .i64 0,.zbp,.zbp])) λy h=>B.ziw h 4 72 w (.sl y 0 0 1 4 1) λz h=>B.al b (B.pv (V.zx9 3 z b) λb=>B.pv (V.bin .add d (.int .i64 1)) λe=>Y3 [e,b] h)))))))) (B.pv (V.bin .add d (.int .i64 1)) λe=>Y3 [e,b] h))) (zd (zcy.l4 C N Q f c c4) [(.int .i64 0),b] h))
@[simp] def zcy.l6(Q:zQ)(a b c:za):zG|[d,e],h,Y3=>zcy.k5 C N Q Y3 a d b c e h|_,_,_=>False
@[simp] def zcy.k7(Q:zQ)(f a g:za)(h:zb):Prop:=B.al a (B.pv (V.zb9 0 a) λb=>B.al a (B.pv (V.zb9 1 a) λc=>B.al a (B.pv (V.zb9 2 a) λd=>B.pv (A.bld [(0,none,b),(1,none,c),(2,none,d)] [.int .i64 0,.int .i64 0,.int .i64 0,.zbp,.zbp,.zbp]) λe=>B.pv (V.zqy 0 6 e (.agg [.int .i64 0,.int .i64 0,.int .i64 0,.zbp,.zbp,.zbp])) λi=>zd (zcy.l6 C N Q f a g) [(.int .i64 0),i] h)))
@[simp] def zcy.cps(a b:za)(h:zb)(Q:zQ):Prop:=B.pv (A.zsn 6 a) λc=>zcy.k7 C N Q b c (.agg [.int .i64 0,.int .i64 0,.int .i64 0,.zbp,.zbp,.zbp]) h
def zcy.Imp:Prop:=im2 C (N 597) (zcy.cps C N)
@[simp] def zf0.k1(C:zh)(N:zN)(Q:zQ)(Y1:zL)(b g a:za)(h:zb):Prop:=B.pv (V.zbg b) λi=>B.pv (V.bin .lss a i) λj=>B.cond j (B.pv (V.zb4 1 b a) λc=>B.ld h c λd=>B.pv (V.bin .eql d g) λe=>B.cond e (Q (.bool true) h) (B.pv (V.bin .add a (.int .i64 1)) λf=>Y1 [f] h)) (Q (.bool false) h)
@[simp] def zf0.l2(Q:zQ)(a b:za):zG|[c],h,Y1=>zf0.k1 C N Q Y1 a b c h|_,_,_=>False
@[simp] def zf0.cps(a b:za)(h:zb)(Q:zQ):Prop:=zd (zf0.l2 C N Q a b) [(.int .i64 0)] h
def zf0.Imp:Prop:=im2 C (N 600) (zf0.cps C N)
@[simp] def zcb.k1(Q:zQ)(Y1:zL)(Y2:zL)(Y3:zL)(q r d s p a c b:za)(h:zb):Prop:=B.gd h a true (λK=>K b h) λe h=>B.gd h a true (λK=>K c h) λf h=>B.gd h a true (λK=>B.pv (V.zbg f) λv=>K v h) λg h=>B.gd h a true (λK=>B.pv (V.bin .lss e g) λv=>K v h) λi h=>B.pick a i (.bool false) λj=>B.cond j (B.pv (V.zb4 1 c b) λk=>B.ld h k λl=>B.call C (N 603) [d,l] h λm h=>B.pv (V.bin .add b (.int .i64 1)) λn=>Y3 [m,n] h) (B.pv (V.bin .add p (.int .i64 1)) λo=>Y2 [d,o] h)
@[simp] def zcb.l2(Q:zQ)(Y1:zL)(Y2:zL)(c d e f g a:za):zG|[i,b],h,Y3=>zcb.k1 C N Q Y1 Y2 Y3 c d i e f g a b h|_,_,_=>False
@[simp] def zcb.k3(Q:zQ)(Y1:zL)(Y2:zL)(b c d k e:za)(h:zb):Prop:=B.pv (V.zb4 4 b e) λf=>B.ldn h f 4 λg=>B.call C (N 604) [g,c,d] h λa h=>B.pv (V.ext 0 a) λi=>B.pv (V.ext 1 a) λj=>zd (zcb.l2 C N Q Y1 Y2 b c k e i j) [d,(.int .i64 0)] h
@[simp] def zcb.l4(Q:zQ)(Y1:zL)(a g b:za):zG|[c,d],h,Y2=>B.pv (V.zbg a) λe=>B.pv (V.bin .lss d e) λf=>B.cond f (zcb.k3 C N Q Y1 Y2 a g c b d h) (Y1 [c,b] h)|_,_,_=>False
@[simp] def zcb.k5(Q:zQ)(Y1:zL)(e f a g:za)(h:zb):Prop:=B.pv (V.zbg a) λb=>B.pv (V.bin .neq g b) λc=>B.cond c (B.pv (V.zbg a) λd=>zd (zcb.l4 C N Q Y1 e f d) [a,(.int .i64 0)] h) (Q a h)
@[simp] def zcb.l6(Q:zQ)(a b:za):zG|[c,d],h,Y1=>zcb.k5 C N Q Y1 a b c d h|_,_,_=>False
@[simp] def zcb.k7(Q:zQ)(a d:za)(h:zb):Prop:=B.call C (N 602) [a] h λb h=>B.zhb h (zer [(0,none,d)] (zgc 1 [.str []])) λc h=>zd (zcb.l6 C N Q a b) [(.sl c 0 0 1 1 1),(.int .i64 0)] h
@[simp] def zcb.cps(a b:za)(h:zb)(Q:zQ):Prop:=zcb.k7 C N Q a b h
def zcb.Imp:Prop:=im2 C (N 601) (zcb.cps C N)
@[simp] def zec.k1(Q:zQ)(Y1:zL)(b c a:za)(h:zb):Prop:=B.pv (V.zbg b) λj=>B.pv (V.bin .lss a j) λk=>B.cond k (B.pv (V.zb4 4 b a) λd=>B.pv (V.fieldAddr 0 d) λe=>B.ld h e λf=>B.call C (N 603) [c,f] h λg h=>B.pv (V.bin .add a (.int .i64 1)) λi=>Y1 [g,i] h) (Q c h)
@[simp] def zec.l2(Q:zQ)(a:za):zG|[b,c],h,Y1=>zec.k1 C N Q Y1 a b c h|_,_,_=>False
@[simp] def zec.cps(a:za)(h:zb)(Q:zQ):Prop:=zd (zec.l2 C N Q a) [.zbp,(.int .i64 0)] h
def zec.Imp:Prop:=im1 C (N 602) (zec.cps C N)
@[simp] def zeb.k1(C:zh)(N:zN)(Q:zQ)(b d c:za)(h:zb):Prop:=B.pv (V.zbg b) λe=>B.pv (V.bin .lss c e) λa=>B.gd h a true (λK=>K b h) λf h=>B.gd h a true (λK=>K c h) λg h=>B.gd h a true (λK=>B.pv (V.zb4 1 f g) λv=>K v h) λi h=>B.gd h a true (λK=>B.ld h i λv=>K v h) λj h=>B.gd h a true (λK=>K d h) λk h=>B.gd h a true (λK=>B.pv (V.bin .eql j k) λv=>K v h) λl h=>B.pick a l (.bool false) λm=>B.cond m (Q b h) (B.pv (V.zhn 1 b none (some c)) λn=>B.ziw h 1 16 .sz n λo h=>B.zhb h (zer [(0,none,d)] (zgc 1 [.str []])) λp h=>B.ziw h 1 16 o (.sl p 0 0 1 1 1) λq h=>B.pv (V.zhn 1 b (some c) none) λr=>B.ziw h 1 16 q r λs h=>Q s h)
@[simp] def zeb.k2(Q:zQ)(Y1:zL)(c d b:za)(h:zb):Prop:=B.pv (V.zbg c) λn=>B.pv (V.bin .lss b n) λa=>B.gd h a true (λK=>K c h) λe h=>B.gd h a true (λK=>K b h) λf h=>B.gd h a true (λK=>B.pv (V.zb4 1 e f) λv=>K v h) λg h=>B.gd h a true (λK=>B.ld h g λv=>K v h) λi h=>B.gd h a true (λK=>K d h) λj h=>B.gd h a true (λK=>B.pv (V.bin .lss i j) λv=>K v h) λk h=>B.pick a k (.bool false) λl=>B.cond l (B.pv (V.bin .add b (.int .i64 1)) λm=>Y1 [m] h) (zeb.k1 C N Q c d b h)
@[simp] def zeb.l3(Q:zQ)(a b:za):zG|[c],h,Y1=>zeb.k2 C N Q Y1 a b c h|_,_,_=>False
@[simp] def zeb.cps(a b:za)(h:zb)(Q:zQ):Prop:=zd (zeb.l3 C N Q a b) [(.int .i64 0)] h
def zeb.Imp:Prop:=im2 C (N 603) (zeb.cps C N)
@[simp] def zb0.k1(Q:zQ)(Y1:zL)(x y e c a b:za)(h:zb):Prop:=B.pv (V.zbg e) λf=>B.pv (V.bin .lss b f) λg=>B.cond g (B.pv (V.zb4 1 e b) λi=>B.ld h i λj=>B.call C (N 600) [x,j] h λk h=>B.cond k (B.pv (V.zb4 1 e b) λl=>B.ld h l λm=>B.zhb h (zer [(0,none,m)] (zgc 1 [.str []])) λn h=>B.ziw h 1 16 c (.sl n 0 0 1 1 1) λo h=>B.gd h a false (λK=>K y h) λp h=>B.gd h a false (λK=>K e h) λq h=>B.gd h a false (λK=>K b h) λr h=>B.gd h a false (λK=>B.pv (V.zb4 1 q r) λv=>K v h) λs h=>B.gd h a false (λK=>B.ld h s λv=>K v h) λt h=>B.gd h a false (λK=>B.call C (N 600) [p,t] h K) λu h=>B.pick a (.bool true) u λw=>B.pv (V.bin .add b (.int .i64 1)) λd=>Y1 [o,w,d] h) (B.pv (V.bin .add b (.int .i64 1)) λd=>Y1 [c,a,d] h)) (Q (.tup [a,c]) h)
@[simp] def zb0.l2(Q:zQ)(d e f:za):zG|[a,b,c],h,Y1=>zb0.k1 C N Q Y1 d e f a b c h|_,_,_=>False
@[simp] def zb0.k3(Q:zQ)(d e f a:za)(h:zb):Prop:=B.al a (B.pv (V.zb9 3 a) λb=>B.ziw h 1 16 f b λc h=>zd (zb0.l2 C N Q d e c) [.zbp,(.bool false),(.int .i64 0)] h)
@[simp] def zb0.k4(Q:zQ)(Y2:zL)(o p c b a:za)(h:zb):Prop:=B.al a (B.pv (V.zb9 2 a) λd=>B.pv (V.zbg d) λe=>B.pv (V.bin .lss b e) λf=>B.cond f (B.al a (B.pv (V.zb9 2 a) λg=>B.pv (V.zb4 2 g b) λi=>B.pv (V.fieldAddr 0 i) λj=>B.ld h j λk=>B.zhb h (zer [(0,none,k)] (zgc 1 [.str []])) λl h=>B.ziw h 1 16 c (.sl l 0 0 1 1 1) λm h=>B.pv (V.bin .add b (.int .i64 1)) λn=>Y2 [m,n] h)) (zb0.k3 C N Q o p c a h))
@[simp] def zb0.l5(Q:zQ)(a b c:za):zG|[d,e],h,Y2=>zb0.k4 C N Q Y2 a b d e c h|_,_,_=>False
@[simp] def zb0.k6(Q:zQ)(d e a:za)(h:zb):Prop:=B.al a (B.pv (V.zb9 0 a) λb=>B.zhb h (zer [(0,none,b)] (zgc 1 [.str []])) λc h=>zd (zb0.l5 C N Q d e a) [(.sl c 0 0 1 1 1),(.int .i64 0)] h)
@[simp] def zb0.cps(a b c:za)(h:zb)(Q:zQ):Prop:=B.pv (A.zsn 4 a) λd=>zb0.k6 C N Q b c d h
def zb0.Imp:Prop:=im3 C (N 604) (zb0.cps C N)
@[simp] def zo7.cps(C:zh)(E:z6)(a:za)(h:zb)(Q:zQ):Prop:=B.pv (V.eqSl .eql a .zbp) λb=>B.cond b (Q .zbp h) (B.ziw h E.es E.bytes .sz a λc h=>Q c h)
@[simp] def zbo.k1(C:zh)(E:z6)(Q:zQ)(Y1:zL)(Y2:zL)(c v1 v2 v3 v8 b:za)(h:zb):Prop:=B.pv (V.bin .gtr b v1) λa=>B.gd h a true (λK=>K v3 h) λd h=>B.gd h a true (λK=>K c h) λe h=>B.gd h a true (λK=>K b h) λf h=>B.gd h a true (λK=>B.pv (V.zb4 E.es e f) λv=>K v h) λg h=>B.gd h a true (λK=>E.ld h g λv=>K v h) λi h=>B.gd h a true (λK=>K c h) λj h=>B.gd h a true (λK=>K b h) λk h=>B.gd h a true (λK=>B.pv (V.bin .sub k (.int .i64 1)) λv=>K v h) λl h=>B.gd h a true (λK=>B.pv (V.zb4 E.es j l) λv=>K v h) λm h=>B.gd h a true (λK=>E.ld h m λv=>K v h) λn h=>B.gd h a true (λK=>B.ziu h C d [i,n] K) λo h=>B.gd h a true (λK=>B.pv (V.bin .lss o (.int .i64 0)) λv=>K v h) λp h=>B.pick a p (.bool false) λq=>B.cond q (B.pv (V.bin .sub b (.int .i64 1)) λr=>B.pv (V.bin .sub b (.int .i64 1)) λs=>B.pv (V.zb4 E.es c s) λt=>E.ld h t λu=>B.pv (V.zb4 E.es c b) λw=>E.ld h w λx=>B.pv (V.zb4 E.es c b) λy=>E.st h y u λh=>B.pv (V.zb4 E.es c r) λz=>E.st h z x λh=>B.pv (V.bin .sub b (.int .i64 1)) λaa=>Y2 [aa] h) (B.pv (V.bin .add v8 (.int .i64 1)) λab=>Y1 [ab] h)
@[simp] def zbo.l2(C:zh)(E:z6)(Q:zQ)(Y1:zL)(a b c d e:za):zG|[f],h,Y2=>zbo.k1 C E Q Y1 Y2 a b c d e f h|_,_,_=>False
@[simp] def zbo.l3(C:zh)(E:z6)(Q:zQ)(d e b f:za):zG|[a],h,Y1=>B.pv (V.bin .lss a b) λc=>B.cond c (zd (zbo.l2 C E Q Y1 d e b f a) [a] h) (Q (.tup []) h)|_,_,_=>False
@[simp] def zbo.cps(C:zh)(E:z6)(c a d e:za)(h:zb)(Q:zQ):Prop:=B.pv (V.bin .add a (.int .i64 1)) λb=>zd (zbo.l3 C E Q c a d e) [b] h
@[simp] def zcn.k1(C:zh)(E:z6)(Q:zQ)(Y1:zL)(f g i a:za)(h:zb):Prop:=B.pv (V.bin .lss a i) λj=>B.cond j (B.pv (V.zb4 E.es f a) λb=>E.ld h b λc=>B.ziu h C g [c] λd h=>B.cond d (Q a h) (B.pv (V.bin .add a (.int .i64 1)) λe=>Y1 [e] h)) (Q (.int .i64 (-1)) h)
@[simp] def zcn.l2(C:zh)(E:z6)(Q:zQ)(a b c:za):zG|[d],h,Y1=>zcn.k1 C E Q Y1 a b c d h|_,_,_=>False
@[simp] def zcn.cps(C:zh)(E:z6)(a b:za)(h:zb)(Q:zQ):Prop:=B.pv (V.zbg a) λc=>zd (zcn.l2 C E Q a b c) [(.int .i64 0)] h
@[simp] def zmk.cps(C:zh)(E:z6)(f1:Nat)(a b:za)(h:zb)(Q:zQ):Prop:=B.call C f1 [a,b] h λc h=>B.pv (V.bin .geq c (.int .i64 0)) λd=>Q d h
@[simp] def zib.k1(C:zh)(E:z6)(f1 f2:Nat)(Q:zQ)(a e:za)(h:zb):Prop:=B.pv (V.zbg a) λb=>B.pv (V.toInt .u64 b) λc=>B.call C f1 [c] h λd h=>B.call C f2 [a,(.int .i64 0),b,d,e] h λf h=>Q (.tup []) h
@[simp] def zib.cps(C:zh)(E:z6)(f1 f2:Nat)(a b:za)(h:zb)(Q:zQ):Prop:=zib.k1 C E f1 f2 Q a b h
@[simp] def zp.k1(C:zh)(E:z6)(f1 f2 f3 f4 f5 f6 f7 f8 f9:Nat)(Q:zQ)(Y1:zL)(d c e f g u w x i:za)(h:zb):Prop:=B.pv (V.bin .gtr c (.int .i64 0)) λa=>B.gd h a true (λK=>K g h) λy h=>B.gd h a true (λK=>K d h) λz h=>B.gd h a true (λK=>K c h) λaa h=>B.gd h a true (λK=>B.pv (V.bin .sub aa (.int .i64 1)) λv=>K v h) λab h=>B.gd h a true (λK=>B.pv (V.zb4 E.es z ab) λv=>K v h) λac h=>B.gd h a true (λK=>E.ld h ac λv=>K v h) λad h=>B.gd h a true (λK=>K d h) λae h=>B.gd h a true (λK=>K i h) λaf h=>B.gd h a true (λK=>B.pv (V.zb4 E.es ae af) λv=>K v h) λag h=>B.gd h a true (λK=>E.ld h ag λv=>K v h) λah h=>B.gd h a true (λK=>B.ziu h C y [ad,ah] K) λai h=>B.gd h a true (λK=>B.pv (V.bin .lss ai (.int .i64 0)) λv=>K v h) λaj h=>B.gd h a true (λK=>B.pv (V.un .not aj) λv=>K v h) λak h=>B.pick a ak (.bool false) λal=>B.cond al (B.call C f1 [d,c,e,i,g] h λo h=>Y1 [o,e,f,u,w] h) (B.call C f2 [d,c,e,i,g] h λj h=>B.pv (V.ext 0 j) λb=>B.pv (V.ext 1 j) λk=>B.pv (V.bin .sub b c) λl=>B.pv (V.bin .sub e b) λm=>B.pv (V.bin .quo x (.int .i64 8)) λn=>B.pv (V.bin .lss l m) λp=>B.cond p (B.pv (V.bin .geq l n) λq=>B.call C f3 [d,c,b,f,g] h λam h=>B.pv (V.bin .add b (.int .i64 1)) λr=>Y1 [r,e,f,q,k] h) (B.pv (V.bin .geq m n) λs=>B.pv (V.bin .add b (.int .i64 1)) λt=>B.call C f3 [d,t,e,f,g] h λan h=>Y1 [c,b,f,s,k] h))
@[simp] def zp.k2(C:zh)(E:z6)(f1 f2 f3 f4 f5 f6 f7 f8 f9:Nat)(Q:zQ)(Y1:zL)(f g i k j a b d e l:za)(h:zb):Prop:=B.gd h a true (λK=>K b h) λm h=>B.pick a m (.bool false) λc=>B.gd h c true (λK=>K l h) λn h=>B.gd h c true (λK=>B.pv (V.bin .eql n (.int .i64 1)) λv=>K v h) λo h=>B.pick c o (.bool false) λp=>B.cond p (B.call C f4 [f,g,i,j] h λq h=>B.cond q (Q (.tup []) h) (zp.k1 C E f1 f2 f3 f4 f5 f6 f7 f8 f9 Q Y1 f g i k j a b d e h)) (zp.k1 C E f1 f2 f3 f4 f5 f6 f7 f8 f9 Q Y1 f g i k j a b d e h)
@[simp] def zp.k3(C:zh)(E:z6)(f1 f2 f3 f4 f5 f6 f7 f8 f9:Nat)(Q:zQ)(Y1:zL)(i a b k j c d e f g:za)(h:zb):Prop:=B.pv (V.bin .eql g (.int .i64 2)) λl=>B.cond l (B.call C f5 [i,a,b,j] h λp h=>B.pv (V.bin .sub b (.int .i64 1)) λm=>B.pv (V.bin .sub f a) λn=>B.pv (V.bin .sub m n) λo=>zp.k2 C E f1 f2 f3 f4 f5 f6 f7 f8 f9 Q Y1 i a b k j c d e o (.int .i64 1) h) (zp.k2 C E f1 f2 f3 f4 f5 f6 f7 f8 f9 Q Y1 i a b k j c d e f g h)
@[simp] def zp.k4(C:zh)(E:z6)(f1 f2 f3 f4 f5 f6 f7 f8 f9:Nat)(Q:zQ)(Y1:zL)(b c d l e f g i:za)(h:zb):Prop:=B.call C f6 [b,c,d,e] h λa h=>B.pv (V.ext 0 a) λj=>B.pv (V.ext 1 a) λk=>zp.k3 C E f1 f2 f3 f4 f5 f6 f7 f8 f9 Q Y1 b c d l e f g i j k h
@[simp] def zp.k5(C:zh)(E:z6)(f1 f2 f3 f4 f5 f6 f7 f8 f9:Nat)(Q:zQ)(Y1:zL)(d e f i g a b c:za)(h:zb):Prop:=B.pv (V.un .not a) λj=>B.cond j (B.call C f7 [d,e,f,g] h λl h=>B.pv (V.bin .sub i (.int .i64 1)) λk=>zp.k4 C E f1 f2 f3 f4 f5 f6 f7 f8 f9 Q Y1 d e f k g a b c h) (zp.k4 C E f1 f2 f3 f4 f5 f6 f7 f8 f9 Q Y1 d e f i g a b c h)
@[simp] def zp.k6(C:zh)(E:z6)(f1 f2 f3 f4 f5 f6 f7 f8 f9:Nat)(Q:zQ)(Y1:zL)(a b c d e f g i:za)(h:zb):Prop:=B.pv (V.bin .eql d (.int .i64 0)) λj=>B.cond j (B.call C f8 [a,b,c,e] h λk h=>Q (.tup []) h) (zp.k5 C E f1 f2 f3 f4 f5 f6 f7 f8 f9 Q Y1 a b c d e f g i h)
@[simp] def zp.k7(C:zh)(E:z6)(f1 f2 f3 f4 f5 f6 f7 f8 f9:Nat)(Q:zQ)(Y1:zL)(b c d j e f g a:za)(h:zb):Prop:=B.pv (V.bin .leq a (.int .i64 12)) λi=>B.cond i (B.call C f9 [b,c,d,e] h λk h=>Q (.tup []) h) (zp.k6 C E f1 f2 f3 f4 f5 f6 f7 f8 f9 Q Y1 b c d j e f g a h)
@[simp] def zp.l8(C:zh)(E:z6)(f1 f2 f3 f4 f5 f6 f7 f8 f9:Nat)(Q:zQ)(f g:za):zG|[a,b,i,c,d],h,Y1=>B.pv (V.bin .sub b a) λe=>zp.k7 C E f1 f2 f3 f4 f5 f6 f7 f8 f9 Q Y1 f a b i g c d e h|_,_,_=>False
@[simp] def zp.cps(C:zh)(E:z6)(f1 f2 f3 f4 f5 f6 f7 f8 f9:Nat)(a b c d e:za)(h:zb)(Q:zQ):Prop:=zd (zp.l8 C E f1 f2 f3 f4 f5 f6 f7 f8 f9 Q a e) [b,c,d,(.bool true),(.bool true)] h
@[simp] def zbj.k1(C:zh)(E:z6)(f1:Nat)(Q:zQ)(Y1:zL)(b o c p a:za)(h:zb):Prop:=B.pv (V.bin .geq a (.int .i64 0)) λd=>B.cond d (B.pv (V.bin .add c a) λe=>B.pv (V.bin .add c a) λf=>B.pv (V.zb4 E.es b f) λg=>E.ld h g λi=>B.pv (V.zb4 E.es b c) λj=>E.ld h j λk=>B.pv (V.zb4 E.es b c) λl=>E.st h l i λh=>B.pv (V.zb4 E.es b e) λm=>E.st h m k λh=>B.call C f1 [b,p,a,c,o] h λq h=>B.pv (V.bin .sub a (.int .i64 1)) λn=>Y1 [n] h) (Q (.tup []) h)
@[simp] def zbj.l2(C:zh)(E:z6)(f1:Nat)(Q:zQ)(b c d e:za):zG|[a],h,Y1=>zbj.k1 C E f1 Q Y1 b c d e a h|_,_,_=>False
@[simp] def zbj.k3(C:zh)(E:z6)(f1:Nat)(Q:zQ)(Y2:zL)(c d e j b a:za)(h:zb):Prop:=B.pv (V.bin .geq a (.int .i64 0)) λf=>B.cond f (B.call C f1 [c,a,b,e,d] h λk h=>B.pv (V.bin .sub a (.int .i64 1)) λg=>Y2 [g] h) (B.pv (V.bin .sub b (.int .i64 1)) λi=>zd (zbj.l2 C E f1 Q c d e j) [i] h)
@[simp] def zbj.l4(C:zh)(E:z6)(f1:Nat)(Q:zQ)(c d e f a:za):zG|[b],h,Y2=>zbj.k3 C E f1 Q Y2 c d e f a b h|_,_,_=>False
@[simp] def zbj.k5(C:zh)(E:z6)(f1:Nat)(Q:zQ)(d e f g a:za)(h:zb):Prop:=B.pv (V.bin .sub a (.int .i64 1)) λb=>B.pv (V.bin .quo b (.int .i64 2)) λc=>zd (zbj.l4 C E f1 Q d e f g a) [c] h
@[simp] def zbj.cps(C:zh)(E:z6)(f1:Nat)(c a d e:za)(h:zb)(Q:zQ):Prop:=B.pv (V.bin .sub d a) λb=>zbj.k5 C E f1 Q c e a (.int .i64 0) b h
@[simp] def zn.k1(C:zh)(E:z6)(f1 f2:Nat)(Q:zQ)(Y1:zL)(b d p q o a c:za)(h:zb):Prop:=B.pv (V.bin .add d c) λe=>B.pv (V.bin .add d c) λf=>B.pv (V.zb4 E.es b f) λg=>E.ld h g λi=>B.pv (V.zb4 E.es b a) λj=>E.ld h j λk=>B.pv (V.zb4 E.es b a) λl=>E.st h l i λh=>B.pv (V.zb4 E.es b e) λm=>E.st h m k λh=>B.pv (V.bin .add a (.int .i64 1)) λn=>Y1 [n] h
@[simp] def zn.k2(C:zh)(E:z6)(f1 f2:Nat)(Q:zQ)(Y1:zL)(e f b g c d a:za)(h:zb):Prop:=B.pv (V.bin .geq a b) λi=>B.cond i (B.pv (V.bin .sub a b) λj=>zn.k1 C E f1 f2 Q Y1 e f b g c d j h) (zn.k1 C E f1 f2 Q Y1 e f b g c d a h)
@[simp] def zn.k3(C:zh)(E:z6)(f1 f2:Nat)(Q:zQ)(Y1:zL)(i j k b a c:za)(h:zb):Prop:=B.call C f1 [b] h λd h=>B.pv (V.bin .sub a (.int .u64 1)) λe=>B.pv (V.bin .and d e) λf=>B.pv (V.toInt .i64 f) λg=>zn.k2 C E f1 f2 Q Y1 i j k b a c g h
@[simp] def zn.k4(C:zh)(E:z6)(f1 f2:Nat)(Q:zQ)(Y1:zL)(k b c l d a:za)(h:zb):Prop:=B.pv (V.bin .quo c (.int .i64 4)) λe=>B.pv (V.bin .mul e (.int .i64 2)) λf=>B.pv (V.bin .add b f) λg=>B.pv (V.bin .add g (.int .i64 1)) λi=>B.pv (V.bin .leq a i) λj=>B.cond j (zn.k3 C E f1 f2 Q Y1 k b c l d a h) (Q (.tup []) h)
@[simp] def zn.l5(C:zh)(E:z6)(f1 f2:Nat)(Q:zQ)(c d e f a:za):zG|[b],h,Y1=>zn.k4 C E f1 f2 Q Y1 c d e f a b h|_,_,_=>False
@[simp] def zn.k6(C:zh)(E:z6)(f1 f2:Nat)(Q:zQ)(i a b j c:za)(h:zb):Prop:=B.pv (V.bin .quo b (.int .i64 4)) λd=>B.pv (V.bin .mul d (.int .i64 2)) λe=>B.pv (V.bin .add a e) λf=>B.pv (V.bin .sub f (.int .i64 1)) λg=>zd (zn.l5 C E f1 f2 Q i a b j c) [g] h
@[simp] def zn.k7(C:zh)(E:z6)(f1 f2:Nat)(Q:zQ)(e f a:za)(h:zb):Prop:=B.pv (V.toInt .u64 a) λb=>B.zhb h (some [.int .u64 0]) λc h=>B.st h (.ptr c 0 0) b λh=>B.call C f2 [a] h λd h=>zn.k6 C E f1 f2 Q e f a (.ptr c 0 0) d h
@[simp] def zn.k8(C:zh)(E:z6)(f1 f2:Nat)(Q:zQ)(d b e:za)(h:zb):Prop:=B.pv (V.bin .sub e b) λa=>B.pv (V.bin .geq a (.int .i64 8)) λc=>B.cond c (zn.k7 C E f1 f2 Q d b a h) (Q (.tup []) h)
@[simp] def zn.cps(C:zh)(E:z6)(f1 f2:Nat)(a b c d:za)(h:zb)(Q:zQ):Prop:=zn.k8 C E f1 f2 Q a b c h
@[simp] def zr.k1(C:zh)(E:z6)(f1 f2:Nat)(Q:zQ)(c a:za)(h:zb):Prop:=B.ld h c λb=>B.pv (V.bin .eql b (.int .i64 0)) λd=>B.cond d (Q (.tup [a,(.int .i64 1)]) h) (B.pv (V.bin .eql b (.int .i64 12)) λe=>B.cond e (Q (.tup [a,(.int .i64 2)]) h) (Q (.tup [a,(.int .i64 0)]) h))
@[simp] def zr.k2(C:zh)(E:z6)(f1 f2:Nat)(Q:zQ)(b c i a e f g:za)(h:zb):Prop:=B.pv (V.bin .geq i (.int .i64 50)) λj=>B.cond j (B.call C f2 [b,e,a,c] h λk h=>B.call C f2 [b,f,a,c] h λl h=>B.call C f2 [b,g,a,c] h λm h=>B.call C f1 [b,k,l,m,a,c] h λd h=>zr.k1 C E f1 f2 Q a d h) (B.call C f1 [b,e,f,g,a,c] h λd h=>zr.k1 C E f1 f2 Q a d h)
@[simp] def zr.k3(C:zh)(E:z6)(f1 f2:Nat)(Q:zQ)(g i a b d c e:za)(h:zb):Prop:=B.pv (V.bin .geq a (.int .i64 8)) λf=>B.cond f (zr.k2 C E f1 f2 Q g i a b d c e h) (zr.k1 C E f1 f2 Q b c h)
@[simp] def zr.k4(C:zh)(E:z6)(f1 f2:Nat)(Q:zQ)(i j k a b c d:za)(h:zb):Prop:=B.pv (V.bin .quo a (.int .i64 4)) λe=>B.pv (V.bin .mul e (.int .i64 3)) λf=>B.pv (V.bin .add j f) λg=>zr.k3 C E f1 f2 Q i k a b c d g h
@[simp] def zr.k5(C:zh)(E:z6)(f1 f2:Nat)(Q:zQ)(i b j a c d:za)(h:zb):Prop:=B.pv (V.bin .quo a (.int .i64 4)) λe=>B.pv (V.bin .mul e (.int .i64 2)) λf=>B.pv (V.bin .add b f) λg=>zr.k4 C E f1 f2 Q i b j a c d g h
@[simp] def zr.k6(C:zh)(E:z6)(f1 f2:Nat)(Q:zQ)(g b i a c:za)(h:zb):Prop:=B.pv (V.bin .quo a (.int .i64 4)) λd=>B.pv (V.bin .mul d (.int .i64 1)) λe=>B.pv (V.bin .add b e) λf=>zr.k5 C E f1 f2 Q g b i a c f h
@[simp] def zr.cps(C:zh)(E:z6)(f1 f2:Nat)(d a e f:za)(h:zb)(Q:zQ):Prop:=B.pv (V.bin .sub e a) λb=>B.zhb h (some [.int .i64 0]) λc h=>zr.k6 C E f1 f2 Q d a f b (.ptr c 0 0) h
@[simp] def zc5.k1(C:zh)(E:z6)(Q:zQ)(Y1:zL)(a b c:za)(h:zb):Prop:=B.pv (V.bin .lss b c) λd=>B.cond d (B.pv (V.zb4 E.es a c) λe=>E.ld h e λf=>B.pv (V.zb4 E.es a b) λg=>E.ld h g λi=>B.pv (V.zb4 E.es a b) λj=>E.st h j f λh=>B.pv (V.zb4 E.es a c) λk=>E.st h k i λh=>B.pv (V.bin .add b (.int .i64 1)) λl=>B.pv (V.bin .sub c (.int .i64 1)) λm=>Y1 [l,m] h) (Q (.tup []) h)
@[simp] def zc5.l2(C:zh)(E:z6)(Q:zQ)(a:za):zG|[b,c],h,Y1=>zc5.k1 C E Q Y1 a b c h|_,_,_=>False
@[simp] def zc5.cps(C:zh)(E:z6)(b c d e:za)(h:zb)(Q:zQ):Prop:=B.pv (V.bin .sub d (.int .i64 1)) λa=>zd (zc5.l2 C E Q b) [c,a] h
@[simp] def zf.k1(C:zh)(E:z6)(Q:zQ)(Y1:zL)(Y2:zL)(b v1 y z x d a:za)(h:zb):Prop:=B.pv (V.bin .lss a y) λe=>B.cond e (B.pv (V.zb4 E.es b a) λf=>E.ld h f λg=>B.pv (V.bin .sub a (.int .i64 1)) λi=>B.pv (V.zb4 E.es b i) λj=>E.ld h j λk=>B.ziu h C z [g,k] λl h=>B.pv (V.bin .lss l (.int .i64 0)) λm=>B.pv (V.un .not m) λn=>B.cond n (B.pv (V.bin .add d (.int .i64 1)) λc=>Y1 [x,c] h) (B.pv (V.bin .sub a (.int .i64 1)) λo=>B.pv (V.bin .sub a (.int .i64 1)) λp=>B.pv (V.zb4 E.es b p) λq=>E.ld h q λr=>B.pv (V.zb4 E.es b a) λs=>E.ld h s λt=>B.pv (V.zb4 E.es b a) λu=>E.st h u r λh=>B.pv (V.zb4 E.es b o) λv=>E.st h v t λh=>B.pv (V.bin .add a (.int .i64 1)) λw=>Y2 [w] h)) (B.pv (V.bin .add d (.int .i64 1)) λc=>Y1 [x,c] h)
@[simp] def zf.l2(C:zh)(E:z6)(Q:zQ)(Y1:zL)(c d e f g a:za):zG|[b],h,Y2=>zf.k1 C E Q Y1 Y2 c d e f g a b h|_,_,_=>False
@[simp] def zf.k3(C:zh)(E:z6)(Q:zQ)(Y1:zL)(i j f k a b:za)(h:zb):Prop:=B.pv (V.bin .sub f a) λc=>B.pv (V.bin .geq c (.int .i64 2)) λd=>B.cond d (B.pv (V.bin .add a (.int .i64 1)) λe=>zd (zf.l2 C E Q Y1 i j f k a b) [e] h) (B.pv (V.bin .add b (.int .i64 1)) λg=>Y1 [a,g] h)
@[simp] def zf.k4(C:zh)(E:z6)(Q:zQ)(Y1:zL)(Y3:zL)(b f g d i c a:za)(h:zb):Prop:=B.pv (V.bin .geq a (.int .i64 1)) λj=>B.cond j (B.pv (V.zb4 E.es b a) λk=>E.ld h k λl=>B.pv (V.bin .sub a (.int .i64 1)) λm=>B.pv (V.zb4 E.es b m) λn=>E.ld h n λo=>B.ziu h C d [l,o] λp h=>B.pv (V.bin .lss p (.int .i64 0)) λq=>B.pv (V.un .not q) λr=>B.cond r (zf.k3 C E Q Y1 b f g d i c h) (B.pv (V.bin .sub a (.int .i64 1)) λs=>B.pv (V.bin .sub a (.int .i64 1)) λt=>B.pv (V.zb4 E.es b t) λu=>E.ld h u λv=>B.pv (V.zb4 E.es b a) λw=>E.ld h w λx=>B.pv (V.zb4 E.es b a) λy=>E.st h y v λh=>B.pv (V.zb4 E.es b s) λe=>E.st h e x λh=>B.pv (V.bin .sub a (.int .i64 1)) λz=>Y3 [z] h)) (zf.k3 C E Q Y1 b f g d i c h)
@[simp] def zf.l5(C:zh)(E:z6)(Q:zQ)(Y1:zL)(c d e f g a:za):zG|[b],h,Y3=>zf.k4 C E Q Y1 Y3 c d e f g a b h|_,_,_=>False
@[simp] def zf.k6(C:zh)(E:z6)(Q:zQ)(Y1:zL)(d c e f a b:za)(h:zb):Prop:=B.pv (V.bin .sub a c) λg=>B.pv (V.bin .geq g (.int .i64 2)) λi=>B.cond i (B.pv (V.bin .sub a (.int .i64 1)) λj=>zd (zf.l5 C E Q Y1 d c e f a b) [j] h) (zf.k3 C E Q Y1 d c e f a b h)
@[simp] def zf.k7(C:zh)(E:z6)(Q:zQ)(Y1:zL)(a m n o b c:za)(h:zb):Prop:=B.pv (V.bin .sub b (.int .i64 1)) λd=>B.pv (V.bin .sub b (.int .i64 1)) λe=>B.pv (V.zb4 E.es a e) λf=>E.ld h f λg=>B.pv (V.zb4 E.es a b) λi=>E.ld h i λj=>B.pv (V.zb4 E.es a b) λk=>E.st h k g λh=>B.pv (V.zb4 E.es a d) λl=>E.st h l j λh=>zf.k6 C E Q Y1 a m n o b c h
@[simp] def zf.k8(C:zh)(E:z6)(Q:zQ)(Y1:zL)(f a b g i c:za)(h:zb):Prop:=B.pv (V.bin .sub b a) λd=>B.pv (V.bin .lss d (.int .i64 50)) λe=>B.cond e (Q (.bool false) h) (zf.k7 C E Q Y1 f a b g i c h)
@[simp] def zf.k9(C:zh)(E:z6)(Q:zQ)(Y1:zL)(Y4:zL)(c y d e b f:za)(h:zb):Prop:=B.pv (V.bin .lss b d) λa=>B.gd h a true (λK=>K e h) λg h=>B.gd h a true (λK=>K c h) λi h=>B.gd h a true (λK=>K b h) λj h=>B.gd h a true (λK=>B.pv (V.zb4 E.es i j) λv=>K v h) λk h=>B.gd h a true (λK=>E.ld h k λv=>K v h) λl h=>B.gd h a true (λK=>K c h) λm h=>B.gd h a true (λK=>K b h) λn h=>B.gd h a true (λK=>B.pv (V.bin .sub n (.int .i64 1)) λv=>K v h) λo h=>B.gd h a true (λK=>B.pv (V.zb4 E.es m o) λv=>K v h) λp h=>B.gd h a true (λK=>E.ld h p λv=>K v h) λq h=>B.gd h a true (λK=>B.ziu h C g [l,q] K) λr h=>B.gd h a true (λK=>B.pv (V.bin .lss r (.int .i64 0)) λv=>K v h) λs h=>B.gd h a true (λK=>B.pv (V.un .not s) λv=>K v h) λt h=>B.pick a t (.bool false) λu=>B.cond u (B.pv (V.bin .add b (.int .i64 1)) λw=>Y4 [w] h) (B.pv (V.bin .eql b d) λx=>B.cond x (Q (.bool true) h) (zf.k8 C E Q Y1 c y d e b f h))
@[simp] def zf.l10(C:zh)(E:z6)(Q:zQ)(Y1:zL)(b c d e a:za):zG|[f],h,Y4=>zf.k9 C E Q Y1 Y4 b c d e f a h|_,_,_=>False
@[simp] def zf.k11(C:zh)(E:z6)(Q:zQ)(Y1:zL)(c d e f g a:za)(h:zb):Prop:=B.pv (V.bin .lss a (.int .i64 5)) λb=>B.cond b (zd (zf.l10 C E Q Y1 c d e f a) [g] h) (Q (.bool false) h)
@[simp] def zf.l12(C:zh)(E:z6)(Q:zQ)(b c d e:za):zG|[f,a],h,Y1=>zf.k11 C E Q Y1 b c d e f a h|_,_,_=>False
@[simp] def zf.cps(C:zh)(E:z6)(c a d e:za)(h:zb)(Q:zQ):Prop:=B.pv (V.bin .add a (.int .i64 1)) λb=>zd (zf.l12 C E Q c a d e) [b,(.int .i64 0)] h
@[simp] def zm.k1(C:zh)(E:z6)(Q:zQ)(Y1:zL)(c n o a b:za)(h:zb):Prop:=B.pv (V.bin .gtr a b) λd=>B.cond d (Q a h) (B.pv (V.zb4 E.es c b) λe=>E.ld h e λf=>B.pv (V.zb4 E.es c a) λg=>E.ld h g λi=>B.pv (V.zb4 E.es c a) λj=>E.st h j f λh=>B.pv (V.zb4 E.es c b) λk=>E.st h k i λh=>B.pv (V.bin .add a (.int .i64 1)) λl=>B.pv (V.bin .sub b (.int .i64 1)) λm=>Y1 [l,m] h)
@[simp] def zm.k2(C:zh)(E:z6)(Q:zQ)(Y1:zL)(Y2:zL)(d e f c b:za)(h:zb):Prop:=B.pv (V.bin .leq c b) λa=>B.gd h a true (λK=>K f h) λg h=>B.gd h a true (λK=>K d h) λi h=>B.gd h a true (λK=>K e h) λj h=>B.gd h a true (λK=>B.pv (V.zb4 E.es i j) λv=>K v h) λk h=>B.gd h a true (λK=>E.ld h k λv=>K v h) λl h=>B.gd h a true (λK=>K d h) λm h=>B.gd h a true (λK=>K b h) λn h=>B.gd h a true (λK=>B.pv (V.zb4 E.es m n) λv=>K v h) λo h=>B.gd h a true (λK=>E.ld h o λv=>K v h) λp h=>B.gd h a true (λK=>B.ziu h C g [l,p] K) λq h=>B.gd h a true (λK=>B.pv (V.bin .lss q (.int .i64 0)) λv=>K v h) λr h=>B.pick a r (.bool false) λs=>B.cond s (B.pv (V.bin .sub b (.int .i64 1)) λt=>Y2 [t] h) (zm.k1 C E Q Y1 d e f c b h)
@[simp] def zm.l3(C:zh)(E:z6)(Q:zQ)(Y1:zL)(c d e a:za):zG|[b],h,Y2=>zm.k2 C E Q Y1 Y2 c d e a b h|_,_,_=>False
@[simp] def zm.k4(C:zh)(E:z6)(Q:zQ)(Y1:zL)(Y3:zL)(d e f b c:za)(h:zb):Prop:=B.pv (V.bin .leq b c) λa=>B.gd h a true (λK=>K f h) λg h=>B.gd h a true (λK=>K d h) λi h=>B.gd h a true (λK=>K e h) λj h=>B.gd h a true (λK=>B.pv (V.zb4 E.es i j) λv=>K v h) λk h=>B.gd h a true (λK=>E.ld h k λv=>K v h) λl h=>B.gd h a true (λK=>K d h) λm h=>B.gd h a true (λK=>K b h) λn h=>B.gd h a true (λK=>B.pv (V.zb4 E.es m n) λv=>K v h) λo h=>B.gd h a true (λK=>E.ld h o λv=>K v h) λp h=>B.gd h a true (λK=>B.ziu h C g [l,p] K) λq h=>B.gd h a true (λK=>B.pv (V.bin .lss q (.int .i64 0)) λv=>K v h) λr h=>B.gd h a true (λK=>B.pv (V.un .not r) λv=>K v h) λs h=>B.pick a s (.bool false) λt=>B.cond t (B.pv (V.bin .add b (.int .i64 1)) λu=>Y3 [u] h) (zd (zm.l3 C E Q Y1 d e f b) [c] h)
@[simp] def zm.l5(C:zh)(E:z6)(Q:zQ)(Y1:zL)(c d e a:za):zG|[b],h,Y3=>zm.k4 C E Q Y1 Y3 c d e b a h|_,_,_=>False
@[simp] def zm.l6(C:zh)(E:z6)(Q:zQ)(c d e:za):zG|[a,b],h,Y1=>zd (zm.l5 C E Q Y1 c d e b) [a] h|_,_,_=>False
@[simp] def zm.k7(C:zh)(E:z6)(Q:zQ)(d a e f:za)(h:zb):Prop:=B.pv (V.bin .add a (.int .i64 1)) λb=>B.pv (V.bin .sub e (.int .i64 1)) λc=>zd (zm.l6 C E Q d a f) [b,c] h
@[simp] def zm.k8(C:zh)(E:z6)(Q:zQ)(a b k c l:za)(h:zb):Prop:=B.pv (V.zb4 E.es a c) λd=>E.ld h d λe=>B.pv (V.zb4 E.es a b) λf=>E.ld h f λg=>B.pv (V.zb4 E.es a b) λi=>E.st h i e λh=>B.pv (V.zb4 E.es a c) λj=>E.st h j g λh=>zm.k7 C E Q a b k l h
@[simp] def zm.cps(C:zh)(E:z6)(a b c d e:za)(h:zb)(Q:zQ):Prop:=zm.k8 C E Q a b c d e h
@[simp] def zg.k1(C:zh)(E:z6)(Q:zQ)(b j a:za)(h:zb):Prop:=B.pv (V.zb4 E.es b j) λc=>E.ld h c λd=>B.pv (V.zb4 E.es b a) λe=>E.ld h e λf=>B.pv (V.zb4 E.es b a) λg=>E.st h g d λh=>B.pv (V.zb4 E.es b j) λi=>E.st h i f λh=>Q (.tup [a,(.bool false)]) h
@[simp] def zg.k2(C:zh)(E:z6)(Q:zQ)(Y1:zL)(c n o b a:za)(h:zb):Prop:=B.pv (V.bin .gtr b a) λd=>B.cond d (zg.k1 C E Q c n a h) (B.pv (V.zb4 E.es c a) λe=>E.ld h e λf=>B.pv (V.zb4 E.es c b) λg=>E.ld h g λi=>B.pv (V.zb4 E.es c b) λj=>E.st h j f λh=>B.pv (V.zb4 E.es c a) λk=>E.st h k i λh=>B.pv (V.bin .add b (.int .i64 1)) λl=>B.pv (V.bin .sub a (.int .i64 1)) λm=>Y1 [l,m] h)
@[simp] def zg.k3(C:zh)(E:z6)(Q:zQ)(Y1:zL)(Y2:zL)(d t u c b:za)(h:zb):Prop:=B.pv (V.bin .leq c b) λa=>B.gd h a true (λK=>K u h) λe h=>B.gd h a true (λK=>K d h) λf h=>B.gd h a true (λK=>K b h) λg h=>B.gd h a true (λK=>B.pv (V.zb4 E.es f g) λv=>K v h) λi h=>B.gd h a true (λK=>E.ld h i λv=>K v h) λj h=>B.gd h a true (λK=>K d h) λk h=>B.gd h a true (λK=>K t h) λl h=>B.gd h a true (λK=>B.pv (V.zb4 E.es k l) λv=>K v h) λm h=>B.gd h a true (λK=>E.ld h m λv=>K v h) λn h=>B.gd h a true (λK=>B.ziu h C e [j,n] K) λo h=>B.gd h a true (λK=>B.pv (V.bin .lss o (.int .i64 0)) λv=>K v h) λp h=>B.gd h a true (λK=>B.pv (V.un .not p) λv=>K v h) λq h=>B.pick a q (.bool false) λr=>B.cond r (B.pv (V.bin .sub b (.int .i64 1)) λs=>Y2 [s] h) (zg.k2 C E Q Y1 d t u c b h)
@[simp] def zg.l4(C:zh)(E:z6)(Q:zQ)(Y1:zL)(c d e a:za):zG|[b],h,Y2=>zg.k3 C E Q Y1 Y2 c d e a b h|_,_,_=>False
@[simp] def zg.k5(C:zh)(E:z6)(Q:zQ)(Y1:zL)(Y3:zL)(d s t b c:za)(h:zb):Prop:=B.pv (V.bin .leq b c) λa=>B.gd h a true (λK=>K t h) λe h=>B.gd h a true (λK=>K d h) λf h=>B.gd h a true (λK=>K b h) λg h=>B.gd h a true (λK=>B.pv (V.zb4 E.es f g) λv=>K v h) λi h=>B.gd h a true (λK=>E.ld h i λv=>K v h) λj h=>B.gd h a true (λK=>K d h) λk h=>B.gd h a true (λK=>K s h) λl h=>B.gd h a true (λK=>B.pv (V.zb4 E.es k l) λv=>K v h) λm h=>B.gd h a true (λK=>E.ld h m λv=>K v h) λn h=>B.gd h a true (λK=>B.ziu h C e [j,n] K) λo h=>B.gd h a true (λK=>B.pv (V.bin .lss o (.int .i64 0)) λv=>K v h) λp h=>B.pick a p (.bool false) λq=>B.cond q (B.pv (V.bin .add b (.int .i64 1)) λr=>Y3 [r] h) (zd (zg.l4 C E Q Y1 d s t b) [c] h)
@[simp] def zg.l6(C:zh)(E:z6)(Q:zQ)(Y1:zL)(c d e a:za):zG|[b],h,Y3=>zg.k5 C E Q Y1 Y3 c d e b a h|_,_,_=>False
@[simp] def zg.l7(C:zh)(E:z6)(Q:zQ)(c d e:za):zG|[a,b],h,Y1=>zd (zg.l6 C E Q Y1 c d e b) [a] h|_,_,_=>False
@[simp] def zg.k8(C:zh)(E:z6)(Q:zQ)(e f g c d:za)(h:zb):Prop:=B.pv (V.bin .add c (.int .i64 1)) λa=>B.pv (V.bin .sub d (.int .i64 1)) λb=>zd (zg.l7 C E Q e f g) [a,b] h
@[simp] def zg.k9(C:zh)(E:z6)(Q:zQ)(a k l b c:za)(h:zb):Prop:=B.pv (V.zb4 E.es a c) λe=>E.ld h e λf=>B.pv (V.zb4 E.es a b) λg=>E.ld h g λi=>B.pv (V.zb4 E.es a b) λj=>E.st h j f λh=>B.pv (V.zb4 E.es a c) λd=>E.st h d i λh=>zg.k8 C E Q a k l b c h
@[simp] def zg.k10(C:zh)(E:z6)(Q:zQ)(b d m c a:za)(h:zb):Prop:=B.pv (V.bin .gtr c a) λe=>B.cond e (B.pv (V.zb4 E.es b d) λf=>E.ld h f λg=>B.pv (V.zb4 E.es b a) λi=>E.ld h i λj=>B.pv (V.zb4 E.es b a) λk=>E.st h k g λh=>B.pv (V.zb4 E.es b d) λl=>E.st h l j λh=>Q (.tup [a,(.bool true)]) h) (zg.k9 C E Q b d m c a h)
@[simp] def zg.k11(C:zh)(E:z6)(Q:zQ)(Y4:zL)(d e f c b:za)(h:zb):Prop:=B.pv (V.bin .leq c b) λa=>B.gd h a true (λK=>K f h) λg h=>B.gd h a true (λK=>K d h) λi h=>B.gd h a true (λK=>K b h) λj h=>B.gd h a true (λK=>B.pv (V.zb4 E.es i j) λv=>K v h) λk h=>B.gd h a true (λK=>E.ld h k λv=>K v h) λl h=>B.gd h a true (λK=>K d h) λm h=>B.gd h a true (λK=>K e h) λn h=>B.gd h a true (λK=>B.pv (V.zb4 E.es m n) λv=>K v h) λo h=>B.gd h a true (λK=>E.ld h o λv=>K v h) λp h=>B.gd h a true (λK=>B.ziu h C g [l,p] K) λq h=>B.gd h a true (λK=>B.pv (V.bin .lss q (.int .i64 0)) λv=>K v h) λr h=>B.gd h a true (λK=>B.pv (V.un .not r) λv=>K v h) λs h=>B.pick a s (.bool false) λt=>B.cond t (B.pv (V.bin .sub b (.int .i64 1)) λu=>Y4 [u] h) (zg.k10 C E Q d e f c b h)
@[simp] def zg.l12(C:zh)(E:z6)(Q:zQ)(c d e a:za):zG|[b],h,Y4=>zg.k11 C E Q Y4 c d e a b h|_,_,_=>False
@[simp] def zg.k13(C:zh)(E:z6)(Q:zQ)(Y5:zL)(d e f b c:za)(h:zb):Prop:=B.pv (V.bin .leq b c) λa=>B.gd h a true (λK=>K f h) λg h=>B.gd h a true (λK=>K d h) λi h=>B.gd h a true (λK=>K b h) λj h=>B.gd h a true (λK=>B.pv (V.zb4 E.es i j) λv=>K v h) λk h=>B.gd h a true (λK=>E.ld h k λv=>K v h) λl h=>B.gd h a true (λK=>K d h) λm h=>B.gd h a true (λK=>K e h) λn h=>B.gd h a true (λK=>B.pv (V.zb4 E.es m n) λv=>K v h) λo h=>B.gd h a true (λK=>E.ld h o λv=>K v h) λp h=>B.gd h a true (λK=>B.ziu h C g [l,p] K) λq h=>B.gd h a true (λK=>B.pv (V.bin .lss q (.int .i64 0)) λv=>K v h) λr h=>B.pick a r (.bool false) λs=>B.cond s (B.pv (V.bin .add b (.int .i64 1)) λt=>Y5 [t] h) (zd (zg.l12 C E Q d e f b) [c] h)
@[simp] def zg.l14(C:zh)(E:z6)(Q:zQ)(c d e a:za):zG|[b],h,Y5=>zg.k13 C E Q Y5 c d e b a h|_,_,_=>False
@[simp] def zg.k15(C:zh)(E:z6)(Q:zQ)(d a e f:za)(h:zb):Prop:=B.pv (V.bin .add a (.int .i64 1)) λb=>B.pv (V.bin .sub e (.int .i64 1)) λc=>zd (zg.l14 C E Q d a f c) [b] h
@[simp] def zg.k16(C:zh)(E:z6)(Q:zQ)(a b k c l:za)(h:zb):Prop:=B.pv (V.zb4 E.es a c) λd=>E.ld h d λe=>B.pv (V.zb4 E.es a b) λf=>E.ld h f λg=>B.pv (V.zb4 E.es a b) λi=>E.st h i e λh=>B.pv (V.zb4 E.es a c) λj=>E.st h j g λh=>zg.k15 C E Q a b k l h
@[simp] def zg.cps(C:zh)(E:z6)(a b c d e:za)(h:zb)(Q:zQ):Prop:=zg.k16 C E Q a b c d e h
@[simp] def zbu.k1(C:zh)(E:z6)(Q:zQ)(Y1:zL)(b z c y d a:za)(h:zb):Prop:=B.pv (V.bin .add c d) λe=>B.pv (V.zb4 E.es b e) λf=>E.ld h f λg=>B.pv (V.bin .add c a) λi=>B.pv (V.zb4 E.es b i) λj=>E.ld h j λk=>B.ziu h C y [g,k] λl h=>B.pv (V.bin .lss l (.int .i64 0)) λm=>B.pv (V.un .not m) λn=>B.cond n (Q (.tup []) h) (B.pv (V.bin .add c d) λo=>B.pv (V.bin .add c a) λp=>B.pv (V.bin .add c a) λq=>B.pv (V.zb4 E.es b q) λr=>E.ld h r λs=>B.pv (V.bin .add c d) λt=>B.pv (V.zb4 E.es b t) λu=>E.ld h u λv=>B.pv (V.zb4 E.es b o) λw=>E.st h w s λh=>B.pv (V.zb4 E.es b p) λx=>E.st h x v λh=>Y1 [a] h)
@[simp] def zbu.k2(C:zh)(E:z6)(Q:zQ)(Y1:zL)(c f d g e b:za)(h:zb):Prop:=B.pv (V.bin .add b (.int .i64 1)) λi=>B.pv (V.bin .lss i f) λa=>B.gd h a true (λK=>K g h) λj h=>B.gd h a true (λK=>K c h) λk h=>B.gd h a true (λK=>K d h) λl h=>B.gd h a true (λK=>K b h) λm h=>B.gd h a true (λK=>B.pv (V.bin .add l m) λv=>K v h) λn h=>B.gd h a true (λK=>B.pv (V.zb4 E.es k n) λv=>K v h) λo h=>B.gd h a true (λK=>E.ld h o λv=>K v h) λp h=>B.gd h a true (λK=>K c h) λq h=>B.gd h a true (λK=>K d h) λr h=>B.gd h a true (λK=>K b h) λs h=>B.gd h a true (λK=>B.pv (V.bin .add r s) λv=>K v h) λt h=>B.gd h a true (λK=>B.pv (V.bin .add t (.int .i64 1)) λv=>K v h) λu h=>B.gd h a true (λK=>B.pv (V.zb4 E.es q u) λv=>K v h) λw h=>B.gd h a true (λK=>E.ld h w λv=>K v h) λx h=>B.gd h a true (λK=>B.ziu h C j [p,x] K) λy h=>B.gd h a true (λK=>B.pv (V.bin .lss y (.int .i64 0)) λv=>K v h) λz h=>B.pick a z (.bool false) λaa=>B.cond aa (B.pv (V.bin .add b (.int .i64 1)) λab=>zbu.k1 C E Q Y1 c f d g e ab h) (zbu.k1 C E Q Y1 c f d g e b h)
@[simp] def zbu.k3(C:zh)(E:z6)(Q:zQ)(Y1:zL)(f c g i a:za)(h:zb):Prop:=B.pv (V.bin .mul (.int .i64 2) a) λd=>B.pv (V.bin .add d (.int .i64 1)) λb=>B.pv (V.bin .geq b c) λe=>B.cond e (Q (.tup []) h) (zbu.k2 C E Q Y1 f c g i a b h)
@[simp] def zbu.l4(C:zh)(E:z6)(Q:zQ)(b c d e:za):zG|[a],h,Y1=>zbu.k3 C E Q Y1 b c d e a h|_,_,_=>False
@[simp] def zbu.cps(C:zh)(E:z6)(a b c d e:za)(h:zb)(Q:zQ):Prop:=zd (zbu.l4 C E Q a c d e) [b] h
@[simp] def ze2.k1(C:zh)(E:z6)(f1:Nat)(Q:zQ)(e a f g:za)(h:zb):Prop:=B.pv (V.bin .sub a (.int .i64 1)) λb=>B.pv (V.bin .add a (.int .i64 1)) λc=>B.call C f1 [e,b,a,c,f,g] h λd h=>Q d h
@[simp] def ze2.cps(C:zh)(E:z6)(f1:Nat)(a b c d:za)(h:zb)(Q:zQ):Prop:=ze2.k1 C E f1 Q a b c d h
@[simp] def zgo.k1(C:zh)(E:z6)(f1:Nat)(Q:zQ)(d l m n e f:za)(h:zb):Prop:=B.call C f1 [d,l,m,e,f] h λa h=>B.pv (V.ext 0 a) λg=>B.pv (V.ext 1 a) λi=>B.call C f1 [d,i,n,e,f] h λb h=>B.pv (V.ext 0 b) λj=>B.pv (V.ext 1 b) λo=>B.call C f1 [d,g,j,e,f] h λc h=>B.pv (V.ext 0 c) λp=>B.pv (V.ext 1 c) λk=>Q k h
@[simp] def zgo.cps(C:zh)(E:z6)(f1:Nat)(a b c d e f:za)(h:zb)(Q:zQ):Prop:=zgo.k1 C E f1 Q a b c d e f h
@[simp] def zgn.k1(C:zh)(E:z6)(Q:zQ)(c a b d p:za)(h:zb):Prop:=B.pv (V.zb4 E.es c b) λe=>E.ld h e λf=>B.pv (V.zb4 E.es c a) λg=>E.ld h g λi=>B.ziu h C p [f,i] λj h=>B.pv (V.bin .lss j (.int .i64 0)) λk=>B.cond k (B.nilCheck d λl=>B.ld h l λm=>B.pv (V.bin .add m (.int .i64 1)) λn=>B.nilCheck d λo=>B.st h o n λh=>Q (.tup [b,a]) h) (Q (.tup [a,b]) h)
@[simp] def zgn.cps(C:zh)(E:z6)(a b c d e:za)(h:zb)(Q:zQ):Prop:=zgn.k1 C E Q a b c d e h
@[simp] def zku.k1(C:zh)(E:z6)(f1 f2:Nat)(Q:zQ)(a:za)(h:zb):Prop:=B.pv (V.zbg a) λb=>B.pv (V.toInt .u64 b) λc=>B.call C f1 [c] h λd h=>B.call C f2 [a,(.int .i64 0),b,d] h λe h=>Q (.tup []) h
@[simp] def zku.cps(C:zh)(E:z6)(f1 f2:Nat)(a:za)(h:zb)(Q:zQ):Prop:=zku.k1 C E f1 f2 Q a h
@[simp] def zc6.k1(C:zh)(E:z6)(Q:zQ)(Y1:zL)(Y2:zL)(e b d a:za)(h:zb):Prop:=B.pv (V.zbg d) λf=>B.pv (V.bin .lss a f) λg=>B.cond g (B.pv (V.zb4 E.es d a) λi=>E.ld h i λj=>B.pv (V.bin .sub a (.int .i64 1)) λk=>B.pv (V.zb4 E.es d k) λl=>E.ld h l λm=>B.pv (V.bin .neq j m) λn=>B.cond n (B.pv (V.zb4 E.es d a) λo=>E.ld h o λp=>B.pv (V.zb4 E.es e b) λq=>E.st h q p λh=>B.pv (V.bin .add b (.int .i64 1)) λr=>B.pv (V.bin .add a (.int .i64 1)) λc=>Y2 [r,c] h) (B.pv (V.bin .add a (.int .i64 1)) λc=>Y2 [b,c] h)) (B.pv (V.zhn E.es e (some b) none) λs=>B.clr h E.z s λ_ h=>B.pv (V.zhn E.es e none (some b)) λt=>Q t h)
@[simp] def zc6.l2(C:zh)(E:z6)(Q:zQ)(Y1:zL)(a b:za):zG|[c,d],h,Y2=>zc6.k1 C E Q Y1 Y2 a c b d h|_,_,_=>False
@[simp] def zc6.k3(C:zh)(E:z6)(Q:zQ)(Y1:zL)(b a:za)(h:zb):Prop:=B.pv (V.zb4 E.es b a) λc=>E.ld h c λd=>B.pv (V.bin .sub a (.int .i64 1)) λe=>B.pv (V.zb4 E.es b e) λf=>E.ld h f λg=>B.pv (V.bin .eql d g) λi=>B.cond i (B.pv (V.zhn E.es b (some a) none) λj=>zd (zc6.l2 C E Q Y1 b j) [a,(.int .i64 1)] h) (B.pv (V.bin .add a (.int .i64 1)) λk=>Y1 [k] h)
@[simp] def zc6.l4(C:zh)(E:z6)(Q:zQ)(a:za):zG|[b],h,Y1=>B.pv (V.zbg a) λc=>B.pv (V.bin .lss b c) λd=>B.cond d (zc6.k3 C E Q Y1 a b h) (Q a h)|_,_,_=>False
@[simp] def zc6.k5(C:zh)(E:z6)(Q:zQ)(a:za)(h:zb):Prop:=B.pv (V.zbg a) λb=>B.pv (V.bin .lss b (.int .i64 2)) λc=>B.cond c (Q a h) (zd (zc6.l4 C E Q a) [(.int .i64 1)] h)
@[simp] def zc6.cps(C:zh)(E:z6)(a:za)(h:zb)(Q:zQ):Prop:=zc6.k5 C E Q a h
@[simp] def zbe.k1(C:zh)(E:z6)(f1 f2 f3 f4 f5 f6 f7 f8 f9 f10:Nat)(Q:zQ)(Y1:zL)(d c e f v8 v9 s g:za)(h:zb):Prop:=B.pv (V.bin .gtr c (.int .i64 0)) λa=>B.gd h a true (λK=>K d h) λt h=>B.gd h a true (λK=>K c h) λu h=>B.gd h a true (λK=>B.pv (V.bin .sub u (.int .i64 1)) λv=>K v h) λw h=>B.gd h a true (λK=>B.pv (V.zb4 E.es t w) λv=>K v h) λx h=>B.gd h a true (λK=>E.ld h x λv=>K v h) λy h=>B.gd h a true (λK=>K d h) λz h=>B.gd h a true (λK=>K g h) λaa h=>B.gd h a true (λK=>B.pv (V.zb4 E.es z aa) λv=>K v h) λab h=>B.gd h a true (λK=>E.ld h ab λv=>K v h) λac h=>B.gd h a true (λK=>B.call C f1 [y,ac] h K) λad h=>B.gd h a true (λK=>B.pv (V.un .not ad) λv=>K v h) λae h=>B.pick a ae (.bool false) λaf=>B.cond af (B.call C f2 [d,c,e,g] h λag h=>Y1 [ag,e,f,v8,v9] h) (B.call C f3 [d,c,e,g] h λm h=>B.pv (V.ext 0 m) λb=>B.pv (V.ext 1 m) λi=>B.pv (V.bin .sub b c) λj=>B.pv (V.bin .sub e b) λk=>B.pv (V.bin .quo s (.int .i64 8)) λl=>B.pv (V.bin .lss j k) λn=>B.cond n (B.pv (V.bin .geq j l) λo=>B.call C f4 [d,c,b,f] h λaj h=>B.pv (V.bin .add b (.int .i64 1)) λp=>Y1 [p,e,f,o,i] h) (B.pv (V.bin .geq k l) λq=>B.pv (V.bin .add b (.int .i64 1)) λr=>B.call C f4 [d,r,e,f] h λak h=>Y1 [c,b,f,q,i] h))
@[simp] def zbe.k2(C:zh)(E:z6)(f1 f2 f3 f4 f5 f6 f7 f8 f9 f10:Nat)(Q:zQ)(Y1:zL)(e f g j b i c d k:za)(h:zb):Prop:=B.gd h b true (λK=>K i h) λl h=>B.pick b l (.bool false) λa=>B.gd h a true (λK=>K k h) λm h=>B.gd h a true (λK=>B.pv (V.bin .eql m (.int .i64 1)) λv=>K v h) λn h=>B.pick a n (.bool false) λo=>B.cond o (B.call C f5 [e,f,g] h λp h=>B.cond p (Q (.tup []) h) (zbe.k1 C E f1 f2 f3 f4 f5 f6 f7 f8 f9 f10 Q Y1 e f g j b i c d h)) (zbe.k1 C E f1 f2 f3 f4 f5 f6 f7 f8 f9 f10 Q Y1 e f g j b i c d h)
@[simp] def zbe.k3(C:zh)(E:z6)(f1 f2 f3 f4 f5 f6 f7 f8 f9 f10:Nat)(Q:zQ)(Y1:zL)(f a b g i j c d e:za)(h:zb):Prop:=B.pv (V.bin .eql e (.int .i64 2)) λk=>B.cond k (B.call C f6 [f,a,b] h λo h=>B.pv (V.bin .sub b (.int .i64 1)) λl=>B.pv (V.bin .sub d a) λm=>B.pv (V.bin .sub l m) λn=>zbe.k2 C E f1 f2 f3 f4 f5 f6 f7 f8 f9 f10 Q Y1 f a b g i j c n (.int .i64 1) h) (zbe.k2 C E f1 f2 f3 f4 f5 f6 f7 f8 f9 f10 Q Y1 f a b g i j c d e h)
@[simp] def zbe.k4(C:zh)(E:z6)(f1 f2 f3 f4 f5 f6 f7 f8 f9 f10:Nat)(Q:zQ)(Y1:zL)(b c d i j k e:za)(h:zb):Prop:=B.call C f7 [b,c,d] h λa h=>B.pv (V.ext 0 a) λf=>B.pv (V.ext 1 a) λg=>zbe.k3 C E f1 f2 f3 f4 f5 f6 f7 f8 f9 f10 Q Y1 b c d i j k e f g h
@[simp] def zbe.k5(C:zh)(E:z6)(f1 f2 f3 f4 f5 f6 f7 f8 f9 f10:Nat)(Q:zQ)(Y1:zL)(b c d f e g a:za)(h:zb):Prop:=B.pv (V.un .not e) λi=>B.cond i (B.call C f8 [b,c,d] h λk h=>B.pv (V.bin .sub f (.int .i64 1)) λj=>zbe.k4 C E f1 f2 f3 f4 f5 f6 f7 f8 f9 f10 Q Y1 b c d j e g a h) (zbe.k4 C E f1 f2 f3 f4 f5 f6 f7 f8 f9 f10 Q Y1 b c d f e g a h)
@[simp] def zbe.k6(C:zh)(E:z6)(f1 f2 f3 f4 f5 f6 f7 f8 f9 f10:Nat)(Q:zQ)(Y1:zL)(a b c d g i e:za)(h:zb):Prop:=B.pv (V.bin .eql d (.int .i64 0)) λf=>B.cond f (B.call C f9 [a,b,c] h λj h=>Q (.tup []) h) (zbe.k5 C E f1 f2 f3 f4 f5 f6 f7 f8 f9 f10 Q Y1 a b c d g i e h)
@[simp] def zbe.k7(C:zh)(E:z6)(f1 f2 f3 f4 f5 f6 f7 f8 f9 f10:Nat)(Q:zQ)(Y1:zL)(b c d f g i a:za)(h:zb):Prop:=B.pv (V.bin .leq a (.int .i64 12)) λe=>B.cond e (B.call C f10 [b,c,d] h λj h=>Q (.tup []) h) (zbe.k6 C E f1 f2 f3 f4 f5 f6 f7 f8 f9 f10 Q Y1 b c d f g i a h)
@[simp] def zbe.l8(C:zh)(E:z6)(f1 f2 f3 f4 f5 f6 f7 f8 f9 f10:Nat)(Q:zQ)(d:za):zG|[a,b,e,f,g],h,Y1=>B.pv (V.bin .sub b a) λc=>zbe.k7 C E f1 f2 f3 f4 f5 f6 f7 f8 f9 f10 Q Y1 d a b e f g c h|_,_,_=>False
@[simp] def zbe.cps(C:zh)(E:z6)(f1 f2 f3 f4 f5 f6 f7 f8 f9 f10:Nat)(a b c d:za)(h:zb)(Q:zQ):Prop:=zd (zbe.l8 C E f1 f2 f3 f4 f5 f6 f7 f8 f9 f10 Q a) [b,c,d,(.bool true),(.bool true)] h
@[simp] def zco.k1(C:zh)(E:z6)(f1:Nat)(Q:zQ)(Y1:zL)(Y2:zL)(c v1 v2 v6 b:za)(h:zb):Prop:=B.pv (V.bin .gtr b v1) λa=>B.gd h a true (λK=>K c h) λd h=>B.gd h a true (λK=>K b h) λe h=>B.gd h a true (λK=>B.pv (V.zb4 E.es d e) λv=>K v h) λf h=>B.gd h a true (λK=>E.ld h f λv=>K v h) λg h=>B.gd h a true (λK=>K c h) λi h=>B.gd h a true (λK=>K b h) λj h=>B.gd h a true (λK=>B.pv (V.bin .sub j (.int .i64 1)) λv=>K v h) λk h=>B.gd h a true (λK=>B.pv (V.zb4 E.es i k) λv=>K v h) λl h=>B.gd h a true (λK=>E.ld h l λv=>K v h) λm h=>B.gd h a true (λK=>B.call C f1 [g,m] h K) λn h=>B.pick a n (.bool false) λo=>B.cond o (B.pv (V.bin .sub b (.int .i64 1)) λp=>B.pv (V.bin .sub b (.int .i64 1)) λq=>B.pv (V.zb4 E.es c q) λr=>E.ld h r λs=>B.pv (V.zb4 E.es c b) λt=>E.ld h t λu=>B.pv (V.zb4 E.es c b) λw=>E.st h w s λh=>B.pv (V.zb4 E.es c p) λx=>E.st h x u λh=>B.pv (V.bin .sub b (.int .i64 1)) λy=>Y2 [y] h) (B.pv (V.bin .add v6 (.int .i64 1)) λz=>Y1 [z] h)
@[simp] def zco.l2(C:zh)(E:z6)(f1:Nat)(Q:zQ)(Y1:zL)(a b c d:za):zG|[e],h,Y2=>zco.k1 C E f1 Q Y1 Y2 a b c d e h|_,_,_=>False
@[simp] def zco.l3(C:zh)(E:z6)(f1:Nat)(Q:zQ)(d e b:za):zG|[a],h,Y1=>B.pv (V.bin .lss a b) λc=>B.cond c (zd (zco.l2 C E f1 Q Y1 d e b a) [a] h) (Q (.tup []) h)|_,_,_=>False
@[simp] def zco.cps(C:zh)(E:z6)(f1:Nat)(b a c:za)(h:zb)(Q:zQ):Prop:=B.pv (V.bin .add a (.int .i64 1)) λd=>zd (zco.l3 C E f1 Q b a c) [d] h
@[simp] def zca.k1(C:zh)(E:z6)(f1:Nat)(Q:zQ)(Y1:zL)(b c o a:za)(h:zb):Prop:=B.pv (V.bin .geq a (.int .i64 0)) λd=>B.cond d (B.pv (V.bin .add c a) λe=>B.pv (V.bin .add c a) λf=>B.pv (V.zb4 E.es b f) λg=>E.ld h g λi=>B.pv (V.zb4 E.es b c) λj=>E.ld h j λk=>B.pv (V.zb4 E.es b c) λl=>E.st h l i λh=>B.pv (V.zb4 E.es b e) λm=>E.st h m k λh=>B.call C f1 [b,o,a,c] h λp h=>B.pv (V.bin .sub a (.int .i64 1)) λn=>Y1 [n] h) (Q (.tup []) h)
@[simp] def zca.l2(C:zh)(E:z6)(f1:Nat)(Q:zQ)(b c d:za):zG|[a],h,Y1=>zca.k1 C E f1 Q Y1 b c d a h|_,_,_=>False
@[simp] def zca.k3(C:zh)(E:z6)(f1:Nat)(Q:zQ)(Y2:zL)(b c i d a:za)(h:zb):Prop:=B.pv (V.bin .geq a (.int .i64 0)) λe=>B.cond e (B.call C f1 [b,a,d,c] h λj h=>B.pv (V.bin .sub a (.int .i64 1)) λf=>Y2 [f] h) (B.pv (V.bin .sub d (.int .i64 1)) λg=>zd (zca.l2 C E f1 Q b c i) [g] h)
@[simp] def zca.l4(C:zh)(E:z6)(f1:Nat)(Q:zQ)(a b c d:za):zG|[e],h,Y2=>zca.k3 C E f1 Q Y2 a b c d e h|_,_,_=>False
@[simp] def zca.k5(C:zh)(E:z6)(f1:Nat)(Q:zQ)(d e f a:za)(h:zb):Prop:=B.pv (V.bin .sub a (.int .i64 1)) λb=>B.pv (V.bin .quo b (.int .i64 2)) λc=>zd (zca.l4 C E f1 Q d e f a) [c] h
@[simp] def zca.cps(C:zh)(E:z6)(f1:Nat)(c a d:za)(h:zb)(Q:zQ):Prop:=B.pv (V.bin .sub d a) λb=>zca.k5 C E f1 Q c a (.int .i64 0) b h
@[simp] def zy.k1(C:zh)(E:z6)(f1 f2:Nat)(Q:zQ)(Y1:zL)(a d o p q c b:za)(h:zb):Prop:=B.pv (V.bin .add d b) λe=>B.pv (V.bin .add d b) λf=>B.pv (V.zb4 E.es a f) λg=>E.ld h g λi=>B.pv (V.zb4 E.es a c) λj=>E.ld h j λk=>B.pv (V.zb4 E.es a c) λl=>E.st h l i λh=>B.pv (V.zb4 E.es a e) λm=>E.st h m k λh=>B.pv (V.bin .add c (.int .i64 1)) λn=>Y1 [n] h
@[simp] def zy.k2(C:zh)(E:z6)(f1 f2:Nat)(Q:zQ)(Y1:zL)(c d b e f g a:za)(h:zb):Prop:=B.pv (V.bin .geq a b) λi=>B.cond i (B.pv (V.bin .sub a b) λj=>zy.k1 C E f1 f2 Q Y1 c d b e f g j h) (zy.k1 C E f1 f2 Q Y1 c d b e f g a h)
@[simp] def zy.k3(C:zh)(E:z6)(f1 f2:Nat)(Q:zQ)(Y1:zL)(g i j a b k:za)(h:zb):Prop:=B.call C f1 [a] h λc h=>B.pv (V.bin .sub b (.int .u64 1)) λd=>B.pv (V.bin .and c d) λe=>B.pv (V.toInt .i64 e) λf=>zy.k2 C E f1 f2 Q Y1 g i j a b k f h
@[simp] def zy.k4(C:zh)(E:z6)(f1 f2:Nat)(Q:zQ)(Y1:zL)(j a b k l c:za)(h:zb):Prop:=B.pv (V.bin .quo b (.int .i64 4)) λd=>B.pv (V.bin .mul d (.int .i64 2)) λe=>B.pv (V.bin .add a e) λf=>B.pv (V.bin .add f (.int .i64 1)) λg=>B.pv (V.bin .leq c g) λi=>B.cond i (zy.k3 C E f1 f2 Q Y1 j a b k l c h) (Q (.tup []) h)
@[simp] def zy.l5(C:zh)(E:z6)(f1 f2:Nat)(Q:zQ)(a b c d e:za):zG|[f],h,Y1=>zy.k4 C E f1 f2 Q Y1 a b c d e f h|_,_,_=>False
@[simp] def zy.k6(C:zh)(E:z6)(f1 f2:Nat)(Q:zQ)(g a b i j:za)(h:zb):Prop:=B.pv (V.bin .quo b (.int .i64 4)) λc=>B.pv (V.bin .mul c (.int .i64 2)) λd=>B.pv (V.bin .add a d) λe=>B.pv (V.bin .sub e (.int .i64 1)) λf=>zd (zy.l5 C E f1 f2 Q g a b i j) [f] h
@[simp] def zy.k7(C:zh)(E:z6)(f1 f2:Nat)(Q:zQ)(e f a:za)(h:zb):Prop:=B.pv (V.toInt .u64 a) λb=>B.zhb h (some [.int .u64 0]) λc h=>B.st h (.ptr c 0 0) b λh=>B.call C f2 [a] h λd h=>zy.k6 C E f1 f2 Q e f a (.ptr c 0 0) d h
@[simp] def zy.k8(C:zh)(E:z6)(f1 f2:Nat)(Q:zQ)(d b e:za)(h:zb):Prop:=B.pv (V.bin .sub e b) λa=>B.pv (V.bin .geq a (.int .i64 8)) λc=>B.cond c (zy.k7 C E f1 f2 Q d b a h) (Q (.tup []) h)
@[simp] def zy.cps(C:zh)(E:z6)(f1 f2:Nat)(a b c:za)(h:zb)(Q:zQ):Prop:=zy.k8 C E f1 f2 Q a b c h
@[simp] def zbm.k1(C:zh)(E:z6)(f1 f2:Nat)(Q:zQ)(e a:za)(h:zb):Prop:=B.ld h e λb=>B.pv (V.bin .eql b (.int .i64 0)) λc=>B.cond c (Q (.tup [a,(.int .i64 1)]) h) (B.pv (V.bin .eql b (.int .i64 12)) λd=>B.cond d (Q (.tup [a,(.int .i64 2)]) h) (Q (.tup [a,(.int .i64 0)]) h))
@[simp] def zbm.k2(C:zh)(E:z6)(f1 f2:Nat)(Q:zQ)(b g a e c f:za)(h:zb):Prop:=B.pv (V.bin .geq g (.int .i64 8)) λi=>B.cond i (B.pv (V.bin .geq g (.int .i64 50)) λj=>B.cond j (B.call C f1 [b,e,a] h λk h=>B.call C f1 [b,c,a] h λl h=>B.call C f1 [b,f,a] h λm h=>B.call C f2 [b,k,l,m,a] h λd h=>zbm.k1 C E f1 f2 Q a d h) (B.call C f2 [b,e,c,f,a] h λd h=>zbm.k1 C E f1 f2 Q a d h)) (zbm.k1 C E f1 f2 Q a c h)
@[simp] def zbm.k3(C:zh)(E:z6)(f1 f2:Nat)(Q:zQ)(g i a j b c:za)(h:zb):Prop:=B.pv (V.bin .quo a (.int .i64 4)) λd=>B.pv (V.bin .mul d (.int .i64 3)) λe=>B.pv (V.bin .add i e) λf=>zbm.k2 C E f1 f2 Q g a j b c f h
@[simp] def zbm.k4(C:zh)(E:z6)(f1 f2:Nat)(Q:zQ)(g a b i c:za)(h:zb):Prop:=B.pv (V.bin .quo b (.int .i64 4)) λd=>B.pv (V.bin .mul d (.int .i64 2)) λe=>B.pv (V.bin .add a e) λf=>zbm.k3 C E f1 f2 Q g a b i c f h
@[simp] def zbm.k5(C:zh)(E:z6)(f1 f2:Nat)(Q:zQ)(f a b g:za)(h:zb):Prop:=B.pv (V.bin .quo b (.int .i64 4)) λc=>B.pv (V.bin .mul c (.int .i64 1)) λd=>B.pv (V.bin .add a d) λe=>zbm.k4 C E f1 f2 Q f a b g e h
@[simp] def zbm.cps(C:zh)(E:z6)(f1 f2:Nat)(c a d:za)(h:zb)(Q:zQ):Prop:=B.pv (V.bin .sub d a) λb=>B.zhb h (some [.int .i64 0]) λe h=>zbm.k5 C E f1 f2 Q c a b (.ptr e 0 0) h
@[simp] def zd2.k1(C:zh)(E:z6)(Q:zQ)(Y1:zL)(a b c:za)(h:zb):Prop:=B.pv (V.bin .lss b c) λd=>B.cond d (B.pv (V.zb4 E.es a c) λe=>E.ld h e λf=>B.pv (V.zb4 E.es a b) λg=>E.ld h g λi=>B.pv (V.zb4 E.es a b) λj=>E.st h j f λh=>B.pv (V.zb4 E.es a c) λk=>E.st h k i λh=>B.pv (V.bin .add b (.int .i64 1)) λl=>B.pv (V.bin .sub c (.int .i64 1)) λm=>Y1 [l,m] h) (Q (.tup []) h)
@[simp] def zd2.l2(C:zh)(E:z6)(Q:zQ)(a:za):zG|[b,c],h,Y1=>zd2.k1 C E Q Y1 a b c h|_,_,_=>False
@[simp] def zd2.cps(C:zh)(E:z6)(b c d:za)(h:zb)(Q:zQ):Prop:=B.pv (V.bin .sub d (.int .i64 1)) λa=>zd (zd2.l2 C E Q b) [c,a] h
@[simp] def zi.k1(C:zh)(E:z6)(f1:Nat)(Q:zQ)(Y1:zL)(Y2:zL)(b y x v w a:za)(h:zb):Prop:=B.pv (V.bin .lss a x) λd=>B.cond d (B.pv (V.zb4 E.es b a) λe=>E.ld h e λf=>B.pv (V.bin .sub a (.int .i64 1)) λg=>B.pv (V.zb4 E.es b g) λi=>E.ld h i λj=>B.call C f1 [f,j] h λk h=>B.pv (V.un .not k) λl=>B.cond l (B.pv (V.bin .add w (.int .i64 1)) λc=>Y1 [v,c] h) (B.pv (V.bin .sub a (.int .i64 1)) λm=>B.pv (V.bin .sub a (.int .i64 1)) λn=>B.pv (V.zb4 E.es b n) λo=>E.ld h o λp=>B.pv (V.zb4 E.es b a) λq=>E.ld h q λr=>B.pv (V.zb4 E.es b a) λs=>E.st h s p λh=>B.pv (V.zb4 E.es b m) λt=>E.st h t r λh=>B.pv (V.bin .add a (.int .i64 1)) λu=>Y2 [u] h)) (B.pv (V.bin .add w (.int .i64 1)) λc=>Y1 [v,c] h)
@[simp] def zi.l2(C:zh)(E:z6)(f1:Nat)(Q:zQ)(Y1:zL)(b c d e f:za):zG|[a],h,Y2=>zi.k1 C E f1 Q Y1 Y2 b c d e f a h|_,_,_=>False
@[simp] def zi.k3(C:zh)(E:z6)(f1:Nat)(Q:zQ)(Y1:zL)(i j c a d:za)(h:zb):Prop:=B.pv (V.bin .sub c a) λe=>B.pv (V.bin .geq e (.int .i64 2)) λf=>B.cond f (B.pv (V.bin .add a (.int .i64 1)) λb=>zd (zi.l2 C E f1 Q Y1 i j c a d) [b] h) (B.pv (V.bin .add d (.int .i64 1)) λg=>Y1 [a,g] h)
@[simp] def zi.k4(C:zh)(E:z6)(f1:Nat)(Q:zQ)(Y1:zL)(Y3:zL)(a c d e f b:za)(h:zb):Prop:=B.pv (V.bin .geq b (.int .i64 1)) λg=>B.cond g (B.pv (V.zb4 E.es a b) λi=>E.ld h i λj=>B.pv (V.bin .sub b (.int .i64 1)) λk=>B.pv (V.zb4 E.es a k) λl=>E.ld h l λm=>B.call C f1 [j,m] h λn h=>B.pv (V.un .not n) λo=>B.cond o (zi.k3 C E f1 Q Y1 a c d e f h) (B.pv (V.bin .sub b (.int .i64 1)) λp=>B.pv (V.bin .sub b (.int .i64 1)) λq=>B.pv (V.zb4 E.es a q) λr=>E.ld h r λs=>B.pv (V.zb4 E.es a b) λt=>E.ld h t λu=>B.pv (V.zb4 E.es a b) λv=>E.st h v s λh=>B.pv (V.zb4 E.es a p) λw=>E.st h w u λh=>B.pv (V.bin .sub b (.int .i64 1)) λx=>Y3 [x] h)) (zi.k3 C E f1 Q Y1 a c d e f h)
@[simp] def zi.l5(C:zh)(E:z6)(f1:Nat)(Q:zQ)(Y1:zL)(a b c d e:za):zG|[f],h,Y3=>zi.k4 C E f1 Q Y1 Y3 a b c d e f h|_,_,_=>False
@[simp] def zi.k6(C:zh)(E:z6)(f1:Nat)(Q:zQ)(Y1:zL)(c b d a e:za)(h:zb):Prop:=B.pv (V.bin .sub a b) λf=>B.pv (V.bin .geq f (.int .i64 2)) λg=>B.cond g (B.pv (V.bin .sub a (.int .i64 1)) λi=>zd (zi.l5 C E f1 Q Y1 c b d a e) [i] h) (zi.k3 C E f1 Q Y1 c b d a e h)
@[simp] def zi.k7(C:zh)(E:z6)(f1:Nat)(Q:zQ)(Y1:zL)(a l m b n:za)(h:zb):Prop:=B.pv (V.bin .sub b (.int .i64 1)) λc=>B.pv (V.bin .sub b (.int .i64 1)) λd=>B.pv (V.zb4 E.es a d) λe=>E.ld h e λf=>B.pv (V.zb4 E.es a b) λg=>E.ld h g λi=>B.pv (V.zb4 E.es a b) λj=>E.st h j f λh=>B.pv (V.zb4 E.es a c) λk=>E.st h k i λh=>zi.k6 C E f1 Q Y1 a l m b n h
@[simp] def zi.k8(C:zh)(E:z6)(f1:Nat)(Q:zQ)(Y1:zL)(e a b f g:za)(h:zb):Prop:=B.pv (V.bin .sub b a) λc=>B.pv (V.bin .lss c (.int .i64 50)) λd=>B.cond d (Q (.bool false) h) (zi.k7 C E f1 Q Y1 e a b f g h)
@[simp] def zi.k9(C:zh)(E:z6)(f1:Nat)(Q:zQ)(Y1:zL)(Y4:zL)(c t d b u:za)(h:zb):Prop:=B.pv (V.bin .lss b d) λa=>B.gd h a true (λK=>K c h) λe h=>B.gd h a true (λK=>K b h) λf h=>B.gd h a true (λK=>B.pv (V.zb4 E.es e f) λv=>K v h) λg h=>B.gd h a true (λK=>E.ld h g λv=>K v h) λi h=>B.gd h a true (λK=>K c h) λj h=>B.gd h a true (λK=>K b h) λk h=>B.gd h a true (λK=>B.pv (V.bin .sub k (.int .i64 1)) λv=>K v h) λl h=>B.gd h a true (λK=>B.pv (V.zb4 E.es j l) λv=>K v h) λm h=>B.gd h a true (λK=>E.ld h m λv=>K v h) λn h=>B.gd h a true (λK=>B.call C f1 [i,n] h K) λo h=>B.gd h a true (λK=>B.pv (V.un .not o) λv=>K v h) λp h=>B.pick a p (.bool false) λq=>B.cond q (B.pv (V.bin .add b (.int .i64 1)) λr=>Y4 [r] h) (B.pv (V.bin .eql b d) λs=>B.cond s (Q (.bool true) h) (zi.k8 C E f1 Q Y1 c t d b u h))
@[simp] def zi.l10(C:zh)(E:z6)(f1:Nat)(Q:zQ)(Y1:zL)(a b c d:za):zG|[e],h,Y4=>zi.k9 C E f1 Q Y1 Y4 a b c e d h|_,_,_=>False
@[simp] def zi.k11(C:zh)(E:z6)(f1:Nat)(Q:zQ)(Y1:zL)(c d e f a:za)(h:zb):Prop:=B.pv (V.bin .lss a (.int .i64 5)) λb=>B.cond b (zd (zi.l10 C E f1 Q Y1 c d e a) [f] h) (Q (.bool false) h)
@[simp] def zi.l12(C:zh)(E:z6)(f1:Nat)(Q:zQ)(a b c:za):zG|[d,e],h,Y1=>zi.k11 C E f1 Q Y1 a b c d e h|_,_,_=>False
@[simp] def zi.cps(C:zh)(E:z6)(f1:Nat)(c a d:za)(h:zb)(Q:zQ):Prop:=B.pv (V.bin .add a (.int .i64 1)) λb=>zd (zi.l12 C E f1 Q c a d) [b,(.int .i64 0)] h
@[simp] def zz.k1(C:zh)(E:z6)(f1:Nat)(Q:zQ)(Y1:zL)(c n b a:za)(h:zb):Prop:=B.pv (V.bin .gtr b a) λd=>B.cond d (Q b h) (B.pv (V.zb4 E.es c a) λe=>E.ld h e λf=>B.pv (V.zb4 E.es c b) λg=>E.ld h g λi=>B.pv (V.zb4 E.es c b) λj=>E.st h j f λh=>B.pv (V.zb4 E.es c a) λk=>E.st h k i λh=>B.pv (V.bin .add b (.int .i64 1)) λl=>B.pv (V.bin .sub a (.int .i64 1)) λm=>Y1 [l,m] h)
@[simp] def zz.k2(C:zh)(E:z6)(f1:Nat)(Q:zQ)(Y1:zL)(Y2:zL)(c d e b:za)(h:zb):Prop:=B.pv (V.bin .leq e b) λa=>B.gd h a true (λK=>K c h) λf h=>B.gd h a true (λK=>K d h) λg h=>B.gd h a true (λK=>B.pv (V.zb4 E.es f g) λv=>K v h) λi h=>B.gd h a true (λK=>E.ld h i λv=>K v h) λj h=>B.gd h a true (λK=>K c h) λk h=>B.gd h a true (λK=>K b h) λl h=>B.gd h a true (λK=>B.pv (V.zb4 E.es k l) λv=>K v h) λm h=>B.gd h a true (λK=>E.ld h m λv=>K v h) λn h=>B.gd h a true (λK=>B.call C f1 [j,n] h K) λo h=>B.pick a o (.bool false) λp=>B.cond p (B.pv (V.bin .sub b (.int .i64 1)) λq=>Y2 [q] h) (zz.k1 C E f1 Q Y1 c d e b h)
@[simp] def zz.l3(C:zh)(E:z6)(f1:Nat)(Q:zQ)(Y1:zL)(b c d:za):zG|[a],h,Y2=>zz.k2 C E f1 Q Y1 Y2 b c d a h|_,_,_=>False
@[simp] def zz.k4(C:zh)(E:z6)(f1:Nat)(Q:zQ)(Y1:zL)(Y3:zL)(d e b c:za)(h:zb):Prop:=B.pv (V.bin .leq b c) λa=>B.gd h a true (λK=>K d h) λf h=>B.gd h a true (λK=>K e h) λg h=>B.gd h a true (λK=>B.pv (V.zb4 E.es f g) λv=>K v h) λi h=>B.gd h a true (λK=>E.ld h i λv=>K v h) λj h=>B.gd h a true (λK=>K d h) λk h=>B.gd h a true (λK=>K b h) λl h=>B.gd h a true (λK=>B.pv (V.zb4 E.es k l) λv=>K v h) λm h=>B.gd h a true (λK=>E.ld h m λv=>K v h) λn h=>B.gd h a true (λK=>B.call C f1 [j,n] h K) λo h=>B.gd h a true (λK=>B.pv (V.un .not o) λv=>K v h) λp h=>B.pick a p (.bool false) λq=>B.cond q (B.pv (V.bin .add b (.int .i64 1)) λr=>Y3 [r] h) (zd (zz.l3 C E f1 Q Y1 d e b) [c] h)
@[simp] def zz.l5(C:zh)(E:z6)(f1:Nat)(Q:zQ)(Y1:zL)(b c a:za):zG|[d],h,Y3=>zz.k4 C E f1 Q Y1 Y3 b c d a h|_,_,_=>False
@[simp] def zz.l6(C:zh)(E:z6)(f1:Nat)(Q:zQ)(b c:za):zG|[d,a],h,Y1=>zd (zz.l5 C E f1 Q Y1 b c a) [d] h|_,_,_=>False
@[simp] def zz.k7(C:zh)(E:z6)(f1:Nat)(Q:zQ)(d a e:za)(h:zb):Prop:=B.pv (V.bin .add a (.int .i64 1)) λb=>B.pv (V.bin .sub e (.int .i64 1)) λc=>zd (zz.l6 C E f1 Q d a) [b,c] h
@[simp] def zz.k8(C:zh)(E:z6)(f1:Nat)(Q:zQ)(a b k c:za)(h:zb):Prop:=B.pv (V.zb4 E.es a c) λd=>E.ld h d λe=>B.pv (V.zb4 E.es a b) λf=>E.ld h f λg=>B.pv (V.zb4 E.es a b) λi=>E.st h i e λh=>B.pv (V.zb4 E.es a c) λj=>E.st h j g λh=>zz.k7 C E f1 Q a b k h
@[simp] def zz.cps(C:zh)(E:z6)(f1:Nat)(a b c d:za)(h:zb)(Q:zQ):Prop:=zz.k8 C E f1 Q a b c d h
@[simp] def zk.k1(C:zh)(E:z6)(f1:Nat)(Q:zQ)(b j a:za)(h:zb):Prop:=B.pv (V.zb4 E.es b j) λc=>E.ld h c λd=>B.pv (V.zb4 E.es b a) λe=>E.ld h e λf=>B.pv (V.zb4 E.es b a) λg=>E.st h g d λh=>B.pv (V.zb4 E.es b j) λi=>E.st h i f λh=>Q (.tup [a,(.bool false)]) h
@[simp] def zk.k2(C:zh)(E:z6)(f1:Nat)(Q:zQ)(Y1:zL)(c n b a:za)(h:zb):Prop:=B.pv (V.bin .gtr b a) λd=>B.cond d (zk.k1 C E f1 Q c n a h) (B.pv (V.zb4 E.es c a) λe=>E.ld h e λf=>B.pv (V.zb4 E.es c b) λg=>E.ld h g λi=>B.pv (V.zb4 E.es c b) λj=>E.st h j f λh=>B.pv (V.zb4 E.es c a) λk=>E.st h k i λh=>B.pv (V.bin .add b (.int .i64 1)) λl=>B.pv (V.bin .sub a (.int .i64 1)) λm=>Y1 [l,m] h)
@[simp] def zk.k3(C:zh)(E:z6)(f1:Nat)(Q:zQ)(Y1:zL)(Y2:zL)(d r c b:za)(h:zb):Prop:=B.pv (V.bin .leq c b) λa=>B.gd h a true (λK=>K d h) λe h=>B.gd h a true (λK=>K b h) λf h=>B.gd h a true (λK=>B.pv (V.zb4 E.es e f) λv=>K v h) λg h=>B.gd h a true (λK=>E.ld h g λv=>K v h) λi h=>B.gd h a true (λK=>K d h) λj h=>B.gd h a true (λK=>K r h) λk h=>B.gd h a true (λK=>B.pv (V.zb4 E.es j k) λv=>K v h) λl h=>B.gd h a true (λK=>E.ld h l λv=>K v h) λm h=>B.gd h a true (λK=>B.call C f1 [i,m] h K) λn h=>B.gd h a true (λK=>B.pv (V.un .not n) λv=>K v h) λo h=>B.pick a o (.bool false) λp=>B.cond p (B.pv (V.bin .sub b (.int .i64 1)) λq=>Y2 [q] h) (zk.k2 C E f1 Q Y1 d r c b h)
@[simp] def zk.l4(C:zh)(E:z6)(f1:Nat)(Q:zQ)(Y1:zL)(c d a:za):zG|[b],h,Y2=>zk.k3 C E f1 Q Y1 Y2 c d a b h|_,_,_=>False
@[simp] def zk.k5(C:zh)(E:z6)(f1:Nat)(Q:zQ)(Y1:zL)(Y3:zL)(d q b c:za)(h:zb):Prop:=B.pv (V.bin .leq b c) λa=>B.gd h a true (λK=>K d h) λe h=>B.gd h a true (λK=>K b h) λf h=>B.gd h a true (λK=>B.pv (V.zb4 E.es e f) λv=>K v h) λg h=>B.gd h a true (λK=>E.ld h g λv=>K v h) λi h=>B.gd h a true (λK=>K d h) λj h=>B.gd h a true (λK=>K q h) λk h=>B.gd h a true (λK=>B.pv (V.zb4 E.es j k) λv=>K v h) λl h=>B.gd h a true (λK=>E.ld h l λv=>K v h) λm h=>B.gd h a true (λK=>B.call C f1 [i,m] h K) λn h=>B.pick a n (.bool false) λo=>B.cond o (B.pv (V.bin .add b (.int .i64 1)) λp=>Y3 [p] h) (zd (zk.l4 C E f1 Q Y1 d q b) [c] h)
@[simp] def zk.l6(C:zh)(E:z6)(f1:Nat)(Q:zQ)(Y1:zL)(c d a:za):zG|[b],h,Y3=>zk.k5 C E f1 Q Y1 Y3 c d b a h|_,_,_=>False
@[simp] def zk.l7(C:zh)(E:z6)(f1:Nat)(Q:zQ)(c d:za):zG|[a,b],h,Y1=>zd (zk.l6 C E f1 Q Y1 c d b) [a] h|_,_,_=>False
@[simp] def zk.k8(C:zh)(E:z6)(f1:Nat)(Q:zQ)(e f a b:za)(h:zb):Prop:=B.pv (V.bin .add a (.int .i64 1)) λc=>B.pv (V.bin .sub b (.int .i64 1)) λd=>zd (zk.l7 C E f1 Q e f) [c,d] h
@[simp] def zk.k9(C:zh)(E:z6)(f1:Nat)(Q:zQ)(a k b c:za)(h:zb):Prop:=B.pv (V.zb4 E.es a c) λd=>E.ld h d λe=>B.pv (V.zb4 E.es a b) λf=>E.ld h f λg=>B.pv (V.zb4 E.es a b) λi=>E.st h i e λh=>B.pv (V.zb4 E.es a c) λj=>E.st h j g λh=>zk.k8 C E f1 Q a k b c h
@[simp] def zk.k10(C:zh)(E:z6)(f1:Nat)(Q:zQ)(b d c a:za)(h:zb):Prop:=B.pv (V.bin .gtr c a) λe=>B.cond e (B.pv (V.zb4 E.es b d) λf=>E.ld h f λg=>B.pv (V.zb4 E.es b a) λi=>E.ld h i λj=>B.pv (V.zb4 E.es b a) λk=>E.st h k g λh=>B.pv (V.zb4 E.es b d) λl=>E.st h l j λh=>Q (.tup [a,(.bool true)]) h) (zk.k9 C E f1 Q b d c a h)
@[simp] def zk.k11(C:zh)(E:z6)(f1:Nat)(Q:zQ)(Y4:zL)(d e c b:za)(h:zb):Prop:=B.pv (V.bin .leq c b) λa=>B.gd h a true (λK=>K d h) λf h=>B.gd h a true (λK=>K b h) λg h=>B.gd h a true (λK=>B.pv (V.zb4 E.es f g) λv=>K v h) λi h=>B.gd h a true (λK=>E.ld h i λv=>K v h) λj h=>B.gd h a true (λK=>K d h) λk h=>B.gd h a true (λK=>K e h) λl h=>B.gd h a true (λK=>B.pv (V.zb4 E.es k l) λv=>K v h) λm h=>B.gd h a true (λK=>E.ld h m λv=>K v h) λn h=>B.gd h a true (λK=>B.call C f1 [j,n] h K) λo h=>B.gd h a true (λK=>B.pv (V.un .not o) λv=>K v h) λp h=>B.pick a p (.bool false) λq=>B.cond q (B.pv (V.bin .sub b (.int .i64 1)) λr=>Y4 [r] h) (zk.k10 C E f1 Q d e c b h)
@[simp] def zk.l12(C:zh)(E:z6)(f1:Nat)(Q:zQ)(c d a:za):zG|[b],h,Y4=>zk.k11 C E f1 Q Y4 c d a b h|_,_,_=>False
@[simp] def zk.k13(C:zh)(E:z6)(f1:Nat)(Q:zQ)(Y5:zL)(d e b c:za)(h:zb):Prop:=B.pv (V.bin .leq b c) λa=>B.gd h a true (λK=>K d h) λf h=>B.gd h a true (λK=>K b h) λg h=>B.gd h a true (λK=>B.pv (V.zb4 E.es f g) λv=>K v h) λi h=>B.gd h a true (λK=>E.ld h i λv=>K v h) λj h=>B.gd h a true (λK=>K d h) λk h=>B.gd h a true (λK=>K e h) λl h=>B.gd h a true (λK=>B.pv (V.zb4 E.es k l) λv=>K v h) λm h=>B.gd h a true (λK=>E.ld h m λv=>K v h) λn h=>B.gd h a true (λK=>B.call C f1 [j,n] h K) λo h=>B.pick a o (.bool false) λp=>B.cond p (B.pv (V.bin .add b (.int .i64 1)) λq=>Y5 [q] h) (zd (zk.l12 C E f1 Q d e b) [c] h)
@[simp] def zk.l14(C:zh)(E:z6)(f1:Nat)(Q:zQ)(c d a:za):zG|[b],h,Y5=>zk.k13 C E f1 Q Y5 c d b a h|_,_,_=>False
@[simp] def zk.k15(C:zh)(E:z6)(f1:Nat)(Q:zQ)(d a e:za)(h:zb):Prop:=B.pv (V.bin .add a (.int .i64 1)) λb=>B.pv (V.bin .sub e (.int .i64 1)) λc=>zd (zk.l14 C E f1 Q d a c) [b] h
@[simp] def zk.k16(C:zh)(E:z6)(f1:Nat)(Q:zQ)(a b k c:za)(h:zb):Prop:=B.pv (V.zb4 E.es a c) λd=>E.ld h d λe=>B.pv (V.zb4 E.es a b) λf=>E.ld h f λg=>B.pv (V.zb4 E.es a b) λi=>E.st h i e λh=>B.pv (V.zb4 E.es a c) λj=>E.st h j g λh=>zk.k15 C E f1 Q a b k h
@[simp] def zk.cps(C:zh)(E:z6)(f1:Nat)(a b c d:za)(h:zb)(Q:zQ):Prop:=zk.k16 C E f1 Q a b c d h
@[simp] def zct.k1(C:zh)(E:z6)(f1:Nat)(Q:zQ)(Y1:zL)(a x b d c:za)(h:zb):Prop:=B.pv (V.bin .add b d) λe=>B.pv (V.zb4 E.es a e) λf=>E.ld h f λg=>B.pv (V.bin .add b c) λi=>B.pv (V.zb4 E.es a i) λj=>E.ld h j λk=>B.call C f1 [g,k] h λl h=>B.pv (V.un .not l) λm=>B.cond m (Q (.tup []) h) (B.pv (V.bin .add b d) λn=>B.pv (V.bin .add b c) λo=>B.pv (V.bin .add b c) λp=>B.pv (V.zb4 E.es a p) λq=>E.ld h q λr=>B.pv (V.bin .add b d) λs=>B.pv (V.zb4 E.es a s) λt=>E.ld h t λu=>B.pv (V.zb4 E.es a n) λv=>E.st h v r λh=>B.pv (V.zb4 E.es a o) λw=>E.st h w u λh=>Y1 [c] h)
@[simp] def zct.k2(C:zh)(E:z6)(f1:Nat)(Q:zQ)(Y1:zL)(c e d f b:za)(h:zb):Prop:=B.pv (V.bin .add b (.int .i64 1)) λg=>B.pv (V.bin .lss g e) λa=>B.gd h a true (λK=>K c h) λi h=>B.gd h a true (λK=>K d h) λj h=>B.gd h a true (λK=>K b h) λk h=>B.gd h a true (λK=>B.pv (V.bin .add j k) λv=>K v h) λl h=>B.gd h a true (λK=>B.pv (V.zb4 E.es i l) λv=>K v h) λm h=>B.gd h a true (λK=>E.ld h m λv=>K v h) λn h=>B.gd h a true (λK=>K c h) λo h=>B.gd h a true (λK=>K d h) λp h=>B.gd h a true (λK=>K b h) λq h=>B.gd h a true (λK=>B.pv (V.bin .add p q) λv=>K v h) λr h=>B.gd h a true (λK=>B.pv (V.bin .add r (.int .i64 1)) λv=>K v h) λs h=>B.gd h a true (λK=>B.pv (V.zb4 E.es o s) λv=>K v h) λt h=>B.gd h a true (λK=>E.ld h t λv=>K v h) λu h=>B.gd h a true (λK=>B.call C f1 [n,u] h K) λw h=>B.pick a w (.bool false) λx=>B.cond x (B.pv (V.bin .add b (.int .i64 1)) λy=>zct.k1 C E f1 Q Y1 c e d f y h) (zct.k1 C E f1 Q Y1 c e d f b h)
@[simp] def zct.k3(C:zh)(E:z6)(f1:Nat)(Q:zQ)(Y1:zL)(f b g c:za)(h:zb):Prop:=B.pv (V.bin .mul (.int .i64 2) c) λd=>B.pv (V.bin .add d (.int .i64 1)) λa=>B.pv (V.bin .geq a b) λe=>B.cond e (Q (.tup []) h) (zct.k2 C E f1 Q Y1 f b g c a h)
@[simp] def zct.l4(C:zh)(E:z6)(f1:Nat)(Q:zQ)(a b c:za):zG|[d],h,Y1=>zct.k3 C E f1 Q Y1 a b c d h|_,_,_=>False
@[simp] def zct.cps(C:zh)(E:z6)(f1:Nat)(a b c d:za)(h:zb)(Q:zQ):Prop:=zd (zct.l4 C E f1 Q a c d) [b] h
@[simp] def zhu.cps(C:zh)(E:z6)(f1:Nat)(d a e:za)(h:zb)(Q:zQ):Prop:=B.pv (V.bin .sub a (.int .i64 1)) λf=>B.pv (V.bin .add a (.int .i64 1)) λb=>B.call C f1 [d,f,a,b,e] h λc h=>Q c h
@[simp] def zhq.k1(C:zh)(E:z6)(f1:Nat)(Q:zQ)(d k l m e:za)(h:zb):Prop:=B.call C f1 [d,k,l,e] h λa h=>B.pv (V.ext 0 a) λf=>B.pv (V.ext 1 a) λg=>B.call C f1 [d,g,m,e] h λb h=>B.pv (V.ext 0 b) λi=>B.pv (V.ext 1 b) λn=>B.call C f1 [d,f,i,e] h λc h=>B.pv (V.ext 0 c) λo=>B.pv (V.ext 1 c) λj=>Q j h
@[simp] def zhq.cps(C:zh)(E:z6)(f1:Nat)(a b c d e:za)(h:zb)(Q:zQ):Prop:=zhq.k1 C E f1 Q a b c d e h
@[simp] def zhp.k1(C:zh)(E:z6)(f1:Nat)(Q:zQ)(c a b d:za)(h:zb):Prop:=B.pv (V.zb4 E.es c b) λe=>E.ld h e λf=>B.pv (V.zb4 E.es c a) λg=>E.ld h g λi=>B.call C f1 [f,i] h λj h=>B.cond j (B.nilCheck d λk=>B.ld h k λl=>B.pv (V.bin .add l (.int .i64 1)) λm=>B.nilCheck d λn=>B.st h n m λh=>Q (.tup [b,a]) h) (Q (.tup [a,b]) h)
@[simp] def zhp.cps(C:zh)(E:z6)(f1:Nat)(a b c d:za)(h:zb)(Q:zQ):Prop:=zhp.k1 C E f1 Q a b c d h
@[simp] def zjp.k1(C:zh)(E:z6)(Q:zQ)(a m:za)(h:zb):Prop:=B.pv (V.capSl a) λc=>B.pv (V.zbg a) λd=>B.pv (V.bin .sub c d) λe=>B.pv (V.bin .sub m e) λb=>B.pv (V.bin .gtr b (.int .i64 0)) λf=>B.cond f (B.pv (V.capSl a) λg=>B.pv (V.zhn E.es a none (some g)) λi=>B.appZ h E.es E.bytes E.z i b λj h=>B.pv (V.zbg a) λk=>B.pv (V.zhn E.es j none (some k)) λl=>Q l h) (Q a h)
@[simp] def zjp.cps(C:zh)(E:z6)(b a:za)(h:zb)(Q:zQ):Prop:=B.pv (V.bin .lss a (.int .i64 0)) λc=>B.cond c (False) (zjp.k1 C E Q b a h)
@[simp] def zps.cps(C:zh)(E:z6)(f1:Nat)(a b:za)(h:zb)(Q:zQ):Prop:=B.call C f1 [a,b] h λc h=>B.pv (V.bin .geq c (.int .i64 0)) λd=>Q d h
@[simp] def zg2.k1(C:zh)(E:z6)(Q:zQ)(Y1:zL)(f g i a:za)(h:zb):Prop:=B.pv (V.bin .lss a i) λj=>B.cond j (B.pv (V.zb4 E.es f a) λb=>E.ld h b λc=>B.pv (V.bin .eql g c) λd=>B.cond d (Q a h) (B.pv (V.bin .add a (.int .i64 1)) λe=>Y1 [e] h)) (Q (.int .i64 (-1)) h)
@[simp] def zg2.l2(C:zh)(E:z6)(Q:zQ)(a b c:za):zG|[d],h,Y1=>zg2.k1 C E Q Y1 a b c d h|_,_,_=>False
@[simp] def zg2.cps(C:zh)(E:z6)(a b:za)(h:zb)(Q:zQ):Prop:=B.pv (V.zbg a) λc=>zd (zg2.l2 C E Q a b c) [(.int .i64 0)] h
@[simp] def zfq.k1(C:zh)(E:z6)(f1:Nat)(Q:zQ)(d e:za)(h:zb):Prop:=B.pv (V.zbg d) λa=>B.pv (V.zbg e) λb=>B.pv (V.bin .lss a b) λc=>B.cond c (Q (.int .i64 (-1)) h) (Q (.int .i64 0) h)
@[simp] def zfq.k2(C:zh)(E:z6)(f1:Nat)(Q:zQ)(Y1:zL)(o c p d a:za)(h:zb):Prop:=B.pv (V.bin .lss a d) λe=>B.cond e (B.pv (V.zb4 E.es p a) λf=>E.ld h f λg=>B.pv (V.zbg c) λi=>B.pv (V.bin .geq a i) λj=>B.cond j (Q (.int .i64 1) h) (B.pv (V.zb4 E.es c a) λk=>E.ld h k λl=>B.call C f1 [g,l] h λb h=>B.pv (V.bin .neq b (.int .i64 0)) λm=>B.cond m (Q b h) (B.pv (V.bin .add a (.int .i64 1)) λn=>Y1 [n] h))) (zfq.k1 C E f1 Q o c h)
@[simp] def zfq.l3(C:zh)(E:z6)(f1:Nat)(Q:zQ)(c d e a:za):zG|[b],h,Y1=>zfq.k2 C E f1 Q Y1 c d e a b h|_,_,_=>False
@[simp] def zfq.cps(C:zh)(E:z6)(f1:Nat)(a c:za)(h:zb)(Q:zQ):Prop:=B.pv (V.zbg a) λb=>zd (zfq.l3 C E f1 Q a c a b) [(.int .i64 0)] h
def z7.cps(C:zh)(N:zN)(a b:za)(h:zb)(Q:zQ):Prop:=zcn.cps C (zth 8 80 [.int .i64 0,.str [],.int .i64 0,.int .i64 0,.int .i64 0,.int .u8 0,.int .i64 0,.str []] 0 []) a b h Q
variable(C:zh)(N:Nat→Nat)
def z7.Imp:Prop:=im2 C (N 206) (z7.cps C N)
@[simp] def zdk.k1(C:zh)(N:zN)(Q:zQ)(a:za)(h:zb):Prop:=B.nilCheck a λu=>B.ld h u λv=>B.nilCheck a λw=>B.ld h w λx=>B.pv (V.bin .shl x (.int .u64 13)) λy=>B.pv (V.bin .xor v y) λb=>B.nilCheck a λc=>B.st h c b λh=>B.nilCheck a λd=>B.ld h d λe=>B.nilCheck a λf=>B.ld h f λg=>B.pv (V.bin .shr g (.int .u64 7)) λi=>B.pv (V.bin .xor e i) λj=>B.nilCheck a λk=>B.st h k j λh=>B.nilCheck a λl=>B.ld h l λm=>B.nilCheck a λn=>B.ld h n λo=>B.pv (V.bin .shl o (.int .u64 17)) λp=>B.pv (V.bin .xor m p) λq=>B.nilCheck a λr=>B.st h r q λh=>B.nilCheck a λs=>B.ld h s λt=>Q t h
@[simp] def zdk.cps(a:za)(h:zb)(Q:zQ):Prop:=zdk.k1 C N Q a h
def zdk.Imp:Prop:=im1 C (N 298) (zdk.cps C N)
@[simp] def zd1.cps(a:za)(h:zb)(Q:zQ):Prop:=B.pv (V.toInt .u64 a) λb=>B.call C (N 287) [b] h λc h=>B.pv (V.bin .shl (.int .u64 1) c) λd=>Q d h
def zd1.Imp:Prop:=im1 C (N 299) (zd1.cps C N)
def zb5.cps(a:za)(h:zb)(Q:zQ):Prop:=zku.cps C (zc3 16 (.str []) 0) (N 287) (N 375) a h Q
def zb5.Imp:Prop:=im1 C (N 364) (zb5.cps C N)
def zbv.cps(C:zh)(N:zN)(a:za)(h:zb)(Q:zQ):Prop:=zc6.cps C (zc3 16 (.str []) 0) a h Q
def zbv.Imp:Prop:=im1 C (N 365) (zbv.cps C N)
def zbn.cps(C:zh)(N:zN)(a b:za)(h:zb)(Q:zQ):Prop:=zcn.cps C (zth 4 72 [.str [],.int .i64 0,.zbp,.zbp] 0 []) a b h Q
def zbn.Imp:Prop:=im2 C (N 367) (zbn.cps C N)
@[simp] def zo.k1(C:zh)(N:zN)(Q:zQ)(Y1:zL)(b c d a:za)(h:zb):Prop:=B.pv (V.bin .lss a d) λe=>B.cond e (B.pv (V.zb4 1 c a) λf=>B.ld h f λg=>B.ziw h 1 16 b g λi h=>B.pv (V.bin .add a (.int .i64 1)) λj=>Y1 [i,j] h) (Q b h)
@[simp] def zo.l2(Q:zQ)(a b:za):zG|[d,c],h,Y1=>zo.k1 C N Q Y1 d a b c h|_,_,_=>False
@[simp] def zo.k3(Q:zQ)(Y2:zL)(c d o e a:za)(h:zb):Prop:=B.pv (V.bin .lss a e) λf=>B.cond f (B.pv (V.zb4 1 o a) λg=>B.ld h g λi=>B.pv (V.zbg i) λj=>B.pv (V.bin .add d j) λb=>B.pv (V.bin .lss b (.int .i64 0)) λk=>B.cond k (False) (B.pv (V.bin .add a (.int .i64 1)) λl=>Y2 [b,l] h)) (B.call C (N 376) [.zbp,d] h λm h=>B.pv (V.zbg c) λn=>zd (zo.l2 C N Q c n) [m,(.int .i64 0)] h)
@[simp] def zo.l4(Q:zQ)(c d a:za):zG|[e,b],h,Y2=>zo.k3 C N Q Y2 c e d a b h|_,_,_=>False
@[simp] def zo.cps(a:za)(h:zb)(Q:zQ):Prop:=B.pv (V.zbg a) λb=>zd (zo.l4 C N Q a a b) [(.int .i64 0),(.int .i64 0)] h
def zo.Imp:Prop:=im1 C (N 373) (zo.cps C N)
def zdm.cps(a b c d:za)(h:zb)(Q:zQ):Prop:=zbe.cps C (zc3 16 (.str []) 0) (N 377) (N 378) (N 379) (N 375) (N 380) (N 381) (N 382) (N 383) (N 384) (N 385) a b c d h Q
def zdm.Imp:Prop:=im4 C (N 375) (zdm.cps C N)
def zcf.cps(C:zh)(N:zN)(a b:za)(h:zb)(Q:zQ):Prop:=zjp.cps C (zc3 16 (.str []) 0) a b h Q
def zcf.Imp:Prop:=im2 C (N 376) (zcf.cps C N)
def zcj.cps(a b c d:za)(h:zb)(Q:zQ):Prop:=zz.cps C (zc3 16 (.str []) 0) (N 377) a b c d h Q
def zcj.Imp:Prop:=im4 C (N 378) (zcj.cps C N)
def zc9.cps(a b c d:za)(h:zb)(Q:zQ):Prop:=zk.cps C (zc3 16 (.str []) 0) (N 377) a b c d h Q
def zc9.Imp:Prop:=im4 C (N 379) (zc9.cps C N)
def zb7.cps(a b c:za)(h:zb)(Q:zQ):Prop:=zi.cps C (zc3 16 (.str []) 0) (N 377) a b c h Q
def zb7.Imp:Prop:=im3 C (N 380) (zb7.cps C N)
def zcu.cps(C:zh)(N:zN)(a b c:za)(h:zb)(Q:zQ):Prop:=zd2.cps C (zc3 16 (.str []) 0) a b c h Q
def zcu.Imp:Prop:=im3 C (N 381) (zcu.cps C N)
def zc0.cps(a b c:za)(h:zb)(Q:zQ):Prop:=zbm.cps C (zc3 16 (.str []) 0) (N 387) (N 388) a b c h Q
def zc0.Imp:Prop:=im3 C (N 382) (zc0.cps C N)
def zcr.cps(a b c:za)(h:zb)(Q:zQ):Prop:=zy.cps C (zc3 16 (.str []) 0) (N 298) (N 299) a b c h Q
def zcr.Imp:Prop:=im3 C (N 383) (zcr.cps C N)
def zdh.cps(a b c:za)(h:zb)(Q:zQ):Prop:=zca.cps C (zc3 16 (.str []) 0) (N 386) a b c h Q
def zdh.Imp:Prop:=im3 C (N 384) (zdh.cps C N)
def zcp.cps(a b c:za)(h:zb)(Q:zQ):Prop:=zco.cps C (zc3 16 (.str []) 0) (N 377) a b c h Q
def zcp.Imp:Prop:=im3 C (N 385) (zcp.cps C N)
def zdf.cps(a b c d:za)(h:zb)(Q:zQ):Prop:=zct.cps C (zc3 16 (.str []) 0) (N 377) a b c d h Q
def zdf.Imp:Prop:=im4 C (N 386) (zdf.cps C N)
def zcl.cps(a b c:za)(h:zb)(Q:zQ):Prop:=zhu.cps C (zc3 16 (.str []) 0) (N 388) a b c h Q
def zcl.Imp:Prop:=im3 C (N 387) (zcl.cps C N)
def zdv.cps(a b c d e:za)(h:zb)(Q:zQ):Prop:=zhq.cps C (zc3 16 (.str []) 0) (N 390) a b c d e h Q
def zdv.Imp:Prop:=im5 C (N 388) (zdv.cps C N)
def zdt.cps(a b c d:za)(h:zb)(Q:zQ):Prop:=zhp.cps C (zc3 16 (.str []) 0) (N 377) a b c d h Q
def zdt.Imp:Prop:=im4 C (N 390) (zdt.cps C N)
def zbw.cps(a b:za)(h:zb)(Q:zQ):Prop:=zps.cps C (zc3 16 (.str []) 0) (N 445) a b h Q
def zbw.Imp:Prop:=im2 C (N 442) (zbw.cps C N)
def zcc.cps(C:zh)(N:zN)(a b:za)(h:zb)(Q:zQ):Prop:=zg2.cps C (zc3 16 (.str []) 0) a b h Q
def zcc.Imp:Prop:=im2 C (N 445) (zcc.cps C N)
def zb2.cps(a b:za)(h:zb)(Q:zQ):Prop:=zib.cps C (zc3 24 (.zbp) 0) (N 287) (N 579) a b h Q
def zb2.Imp:Prop:=im2 C (N 566) (zb2.cps C N)
def zbt.cps(C:zh)(N:zN)(a:za)(h:zb)(Q:zQ):Prop:=zo7.cps C (zc3 16 (.str []) 0) a h Q
def zbt.Imp:Prop:=im1 C (N 567) (zbt.cps C N)
def zbx.cps(C:zh)(N:zN)(a:za)(h:zb)(Q:zQ):Prop:=zo7.cps C (zth 2 24 [.str [],.int .i64 0] 0 []) a h Q
def zbx.Imp:Prop:=im1 C (N 569) (zbx.cps C N)
def zbd.cps(C:zh)(N:zN)(a b:za)(h:zb)(Q:zQ):Prop:=zcn.cps C (zth 6 56 [.int .i64 0,.str [],.int .i64 0,.int .i64 0,.int .i64 0,.bool false] 0 []) a b h Q
def zbd.Imp:Prop:=im2 C (N 572) (zbd.cps C N)
def zbc.cps(a b:za)(h:zb)(Q:zQ):Prop:=zmk.cps C (zth 4 72 [.str [],.int .i64 0,.zbp,.zbp] 0 []) (N 367) a b h Q
def zbc.Imp:Prop:=im2 C (N 575) (zbc.cps C N)
def zbz.cps(a b:za)(h:zb)(Q:zQ):Prop:=zfq.cps C (zc3 16 (.str []) 0) (N 580) a b h Q
def zbz.Imp:Prop:=im2 C (N 578) (zbz.cps C N)
def zdn.cps(a b c d e:za)(h:zb)(Q:zQ):Prop:=zp.cps C (zc3 24 (.zbp) 0) (N 581) (N 582) (N 579) (N 583) (N 584) (N 585) (N 586) (N 587) (N 588) a b c d e h Q
def zdn.Imp:Prop:=im5 C (N 579) (zdn.cps C N)
def zck.cps(C:zh)(N:zN)(a b c d e:za)(h:zb)(Q:zQ):Prop:=zm.cps C (zc3 24 (.zbp) 0) a b c d e h Q
def zck.Imp:Prop:=im5 C (N 581) (zck.cps C N)
def zda.cps(C:zh)(N:zN)(a b c d e:za)(h:zb)(Q:zQ):Prop:=zg.cps C (zc3 24 (.zbp) 0) a b c d e h Q
def zda.Imp:Prop:=im5 C (N 582) (zda.cps C N)
def zb8.cps(C:zh)(N:zN)(a b c d:za)(h:zb)(Q:zQ):Prop:=zf.cps C (zc3 24 (.zbp) 0) a b c d h Q
def zb8.Imp:Prop:=im4 C (N 583) (zb8.cps C N)
def zcv.cps(C:zh)(N:zN)(a b c d:za)(h:zb)(Q:zQ):Prop:=zc5.cps C (zc3 24 (.zbp) 0) a b c d h Q
def zcv.Imp:Prop:=im4 C (N 584) (zcv.cps C N)
def zc1.cps(a b c d:za)(h:zb)(Q:zQ):Prop:=zr.cps C (zc3 24 (.zbp) 0) (N 589) (N 590) a b c d h Q
def zc1.Imp:Prop:=im4 C (N 585) (zc1.cps C N)
def zcs.cps(a b c d:za)(h:zb)(Q:zQ):Prop:=zn.cps C (zc3 24 (.zbp) 0) (N 298) (N 299) a b c d h Q
def zcs.Imp:Prop:=im4 C (N 586) (zcs.cps C N)
def zdi.cps(a b c d:za)(h:zb)(Q:zQ):Prop:=zbj.cps C (zc3 24 (.zbp) 0) (N 591) a b c d h Q
def zdi.Imp:Prop:=im4 C (N 587) (zdi.cps C N)
def zcq.cps(C:zh)(N:zN)(a b c d:za)(h:zb)(Q:zQ):Prop:=zbo.cps C (zc3 24 (.zbp) 0) a b c d h Q
def zcq.Imp:Prop:=im4 C (N 588) (zcq.cps C N)
def zdw.cps(a b c d e f:za)(h:zb)(Q:zQ):Prop:=zgo.cps C (zc3 24 (.zbp) 0) (N 592) a b c d e f h Q
def zdw.Imp:Prop:=im6 C (N 589) (zdw.cps C N)
def zcm.cps(a b c d:za)(h:zb)(Q:zQ):Prop:=ze2.cps C (zc3 24 (.zbp) 0) (N 589) a b c d h Q
def zcm.Imp:Prop:=im4 C (N 590) (zcm.cps C N)
def zdg.cps(C:zh)(N:zN)(a b c d e:za)(h:zb)(Q:zQ):Prop:=zbu.cps C (zc3 24 (.zbp) 0) a b c d e h Q
def zdg.Imp:Prop:=im5 C (N 591) (zdg.cps C N)
def zdu.cps(C:zh)(N:zN)(a b c d e:za)(h:zb)(Q:zQ):Prop:=zgn.cps C (zc3 24 (.zbp) 0) a b c d e h Q
def zdu.Imp:Prop:=im5 C (N 592) (zdu.cps C N)
end Go.Ab
