/- What is proved: a part of the way to the statement: AcJ. No conditions. -/
import Derived.Test.YtneeejngeoaaoaaGreatQ3
import Derived.Test.YtneeejngeoaaoaaGreatQ5
import Derived.KernelRfl
import Derived.Test.YtneeejngeoaaoaaGreatQ2
set_option linter.unusedVariables false
set_option linter.unusedSimpArgs false
set_option maxRecDepth 100000
namespace Go.Ab
open List
theorem arg_slice{T:Type}{H:zb}{bytes es:Nat}{e:Ty}{v:za}(cs:T->List za)(hd:∀p,zjz H e p->∃t,p=cs t)(h:zjz H (.sl bytes es e) [v]):
  ∃L:List T,SlIs H es v (L.map cs) /\ L.length*bytes <= reach:=by
 rcases h with h|h|⟨id,parts,h1,h2,h3,h4⟩
 ·cases h;exact⟨[],SlX.zdo H es,by simp⟩
 ·cases h;exact⟨[],SlX.sz H es,by simp⟩
 ·cases h1
  have:∃L:List T,parts=L.map cs:=by
   clear h2 h3
   induction parts with
   | nil=>exact⟨[],rfl⟩
   | cons p r ih=>
    obtain⟨L,rfl⟩:=ih λq hq=>h4 q (by simp[hq]);obtain⟨t,rfl⟩:=hd p (h4 p (by simp)).1;exact⟨t::L,rfl⟩
  obtain⟨L,rfl⟩:=this;have hl:∀p∈L.map cs++[],p.length=es:=λp hp=>(h4 p (by simpa using hp)).2;have hfl:(L.map cs).flatten.length=L.length*es:=by
   have:=znw (css:=L.map cs) (n:=es) λp hp=>(h4 p hp).2;simpa using this
  refine⟨L,⟨hl,.inr ⟨id,0,0,(L.map cs).length,roOf (L.map cs).flatten,(L.map cs).flatten.length,rfl,by simp,h2,ziq ..,?_,Nat.le_refl _,?_⟩⟩,by simpa using h3⟩
  ·rw[hfl];simp
  ·simp only[roOf,drop_zero,append_nil,length_nil,Nat.add_zero,length_map]
   rw[<-hfl,take_length]
variable{C:z6}{N:zN}
structure zbj where
 es:Nat
 bytes:Nat
 z:List za
 f:Nat
 kp:Option Nat
 ld:zb->za->(za->Prop)->Prop
 st:zb->za->za->(zb->Prop)->Prop
 eq:zb->za->za->(zQ)->Prop
section
variable(E:zbj)
@[simp] def zek.k3(C:z6)(Q:zQ)(Y1 Y2:zL)(v0 v5 v14 v15:za)(h:zb):Prop:=B.pv (V.zcp 1 v0 v14) λv161=>B.ld h v161 λv162=>B.pv (V.zcj v162) λv163=>B.pv (V.bin .lss v15 v163) λv164=>B.cond v164 (B.pv (V.zcp 1 v0 v14) λv169=>B.ld h v169 λv170=>B.pv (V.zcp E.es v170 v15) λv172=>E.ld h v172 λv173=>B.call C E.f [v14,v15] h (B.zlb h [(v169,none),(v172,E.kp)] (λv176 h=>E.eq h v173 v176 λv177 h=>B.pv (V.un .not v177) λv178=>B.gd h v178 false (λK=>K v5 h) λv180 h=>B.gd h v178 false (λK=>K v14 h) λv181 h=>B.gd h v178 false (λK=>B.pv (V.zcp 1 v180 v181) λv=>K v h) λv182 h=>B.gd h v178 false (λK=>B.ld h v182 λv=>K v h) λv183 h=>B.gd h v178 false (λK=>K v15 h) λv184 h=>B.gd h v178 false (λK=>B.pv (V.zcp E.es v183 v184) λv=>K v h) λv185 h=>B.gd h v178 false (λK=>E.ld h v185 λv=>K v h) λv186 h=>B.gd h v178 false (λK=>K v14 h) λv187 h=>B.gd h v178 false (λK=>K v15 h) λv188 h=>B.gd h v178 false (λK=>B.call C E.f [v187,v188] h (B.zlb h [(v182,none),(v185,E.kp)] K)) λv189 h=>B.gd h v178 false (λK=>E.eq h v186 v189 K) λv190 h=>B.gd h v178 false (λK=>B.pv (V.un .not v190) λv=>K v h) λv191 h=>B.pick v178 (.bool true) v191 λv192=>B.cond v192 (Q (.bool false) h) (B.pv (V.bin .add v15 (.int .i64 1)) λv166=>Y2 [v166] h)))) (B.pv (V.bin .add v14 (.int .i64 1)) λv157=>Y1 [v157] h)
@[simp] def zek.l5(C:z6)(Q:zQ)(Y1:zL)(v0 v5 v14:za):zG|[v15],h,Y2=>zek.k3 E C Q Y1 Y2 v0 v5 v14 v15 h|_,_,_=>False
@[simp] def zek.k12(C:z6)(Q:zQ)(Y1:zL)(v0 v5 v14:za)(h:zb):Prop:=B.pv (V.zcj v0) λv154=>B.pv (V.bin .lss v14 v154) λv155=>B.cond v155 (zq (zek.l5 E C Q Y1 v0 v5 v14) [(.int .i64 0)] h) (Q (.bool true) h)
@[simp] def zek.l15(C:z6)(Q:zQ)(v0 v5:za):zG|[v14],h,Y1=>zek.k12 E C Q Y1 v0 v5 v14 h|_,_,_=>False
@[simp] def zek.k22(C:z6)(Q:zQ)(Y3:zL)(v0 v5 v11 v12:za)(h:zb):Prop:=B.pv (V.zcp 1 v0 v11) λv147=>B.ld h v147 λv148=>B.zjc h E.es E.bytes v148 v12 λv150 h=>B.pv (V.zcp 1 v5 v11) λv151=>B.st h v151 v150 λh=>B.pv (V.bin .add v11 (.int .i64 1)) λv128=>Y3 [v128] h
@[simp] def zek.k24(C:z6)(Q:zQ)(Y3 Y4:zL)(v0 v5 v11 v12 v13:za)(h:zb):Prop:=B.pv (V.bin .lss v13 (.int .i64 64)) λv131=>B.cond v131 (B.pv (V.zcj v0) λv138=>B.pv (V.bin .add v11 v138) λv139=>B.call C E.f [v139,v13] h λv141 h=>B.pv (V.zcp E.es v12 v13) λv142=>E.st h v142 v141 λh=>B.pv (V.bin .add v13 (.int .i64 1)) λv133=>Y4 [v133] h) (zek.k22 E C Q Y3 v0 v5 v11 v12 h)
@[simp] def zek.l26(C:z6)(Q:zQ)(Y3:zL)(v0 v5 v11 v12:za):zG|[v13],h,Y4=>zek.k24 E C Q Y3 Y4 v0 v5 v11 v12 v13 h|_,_,_=>False
@[simp] def zek.k37(C:z6)(Q:zQ)(Y3:zL)(v0 v5 v11:za)(h:zb):Prop:=B.pv (V.zcj v0) λv125=>B.pv (V.bin .lss v11 v125) λv126=>B.cond v126 (0<E.es /\ B.mks h E.bytes (some E.z) (.int .i64 64) (.int .i64 64) λv129 h=>zq (zek.l26 E C Q Y3 v0 v5 v11 v129) [(.int .i64 0)] h) (zq (zek.l15 E C Q v0 v5) [(.int .i64 0)] h)
@[simp] def zek.l40(C:z6)(Q:zQ)(v0 v5:za):zG|[v11],h,Y3=>zek.k37 E C Q Y3 v0 v5 v11 h|_,_,_=>False
@[simp] def zek.k47(C:z6)(Q:zQ)(Y5 Y6:zL)(v0 v5 v9 v10:za)(h:zb):Prop:=B.pv (V.zcp 1 v5 v9) λv82=>B.ld h v82 λv83=>B.pv (V.zcj v83) λv84=>B.pv (V.bin .lss v10 v84) λv85=>B.cond v85 (B.pv (V.zcp 1 v5 v9) λv90=>B.ld h v90 λv91=>B.pv (V.zcp E.es v91 v10) λv93=>E.ld h v93 λv94=>B.call C E.f [v9,v10] h (B.zlb h [(v90,none),(v93,E.kp)] (λv97 h=>E.eq h v94 v97 λv98 h=>B.pv (V.un .not v98) λv99=>B.gd h v99 false (λK=>K v10 h) λv101 h=>B.gd h v99 false (λK=>K v0 h) λv102 h=>B.gd h v99 false (λK=>K v9 h) λv103 h=>B.gd h v99 false (λK=>B.pv (V.zcp 1 v102 v103) λv=>K v h) λv104 h=>B.gd h v99 false (λK=>B.ld h v104 λv=>K v h) λv105 h=>B.gd h v99 false (λK=>B.pv (V.zcj v105) λv=>K v h) λv106 h=>B.gd h v99 false (λK=>B.pv (V.bin .lss v101 v106) λv=>K v h) λv107 h=>B.gd h v99 false (λK=>K v107 h) λv108 h=>B.gd h v108 true (λK=>K v0 h) λv109 h=>B.gd h v108 true (λK=>K v9 h) λv110 h=>B.gd h v108 true (λK=>B.pv (V.zcp 1 v109 v110) λv=>K v h) λv111 h=>B.gd h v108 true (λK=>B.ld h v111 λv=>K v h) λv112 h=>B.gd h v108 true (λK=>K v10 h) λv113 h=>B.gd h v108 true (λK=>B.pv (V.zcp E.es v112 v113) λv=>K v h) λv114 h=>B.gd h v108 true (λK=>E.ld h v114 λv=>K v h) λv115 h=>B.gd h v108 true (λK=>K v9 h) λv116 h=>B.gd h v108 true (λK=>K v10 h) λv117 h=>B.gd h v108 true (λK=>B.call C E.f [v116,v117] h (B.zlb h [(v111,none),(v114,E.kp)] K)) λv118 h=>B.gd h v108 true (λK=>E.eq h v115 v118 K) λv119 h=>B.gd h v108 true (λK=>B.pv (V.un .not v119) λv=>K v h) λv120 h=>B.gd h v99 false (λK=>B.pick v108 v120 (.bool false) λv=>K v h) λv121 h=>B.pick v99 (.bool true) v121 λv122=>B.cond v122 (Q (.bool false) h) (B.pv (V.bin .add v10 (.int .i64 1)) λv87=>Y6 [v87] h)))) (B.pv (V.bin .add v9 (.int .i64 1)) λv78=>Y5 [v78] h)
@[simp] def zek.l49(C:z6)(Q:zQ)(Y5:zL)(v0 v5 v9:za):zG|[v10],h,Y6=>zek.k47 E C Q Y5 Y6 v0 v5 v9 v10 h|_,_,_=>False
@[simp] def zek.k56(C:z6)(Q:zQ)(Y5:zL)(v0 v5 v9:za)(h:zb):Prop:=B.pv (V.zcj v0) λv75=>B.pv (V.bin .lss v9 v75) λv76=>B.cond v76 (zq (zek.l49 E C Q Y5 v0 v5 v9) [(.int .i64 0)] h) (zq (zek.l40 E C Q v0 v5) [(.int .i64 0)] h)
@[simp] def zek.l59(C:z6)(Q:zQ)(v0 v5:za):zG|[v9],h,Y5=>zek.k56 E C Q Y5 v0 v5 v9 h|_,_,_=>False
@[simp] def zek.k67(C:z6)(Q:zQ)(Y7 Y8:zL)(v0 v5 v6 v7 v8:za)(h:zb):Prop:=B.pv (V.bin .lss v8 (.int .i64 64)) λv54=>B.cond v54 (B.pv (V.zcp 1 v0 v6) λv61=>B.ld h v61 λv62=>B.pv (V.zcj v62) λv63=>B.pv (V.bin .add v63 v8) λv65=>B.call C E.f [v6,v65] h λv66 h=>B.zha h (zeu [(0,E.kp,v66)] (zhu 1 E.z)) λi67 h=>B.zjc h E.es E.bytes v7 (.sl i67 0 0 1 E.es 1) λv68 h=>B.pv (V.bin .add v8 (.int .i64 1)) λv56=>Y8 [v68,v56] h) (B.pv (V.zcp 1 v5 v6) λv72=>B.st h v72 v7 λh=>B.pv (V.bin .add v6 (.int .i64 1)) λv48=>Y7 [v48] h)
@[simp] def zek.l69(C:z6)(Q:zQ)(Y7:zL)(v0 v5 v6:za):zG|[v7,v8],h,Y8=>zek.k67 E C Q Y7 Y8 v0 v5 v6 v7 v8 h|_,_,_=>False
@[simp] def zek.k79(C:z6)(Q:zQ)(Y7:zL)(v0 v5 v6:za)(h:zb):Prop:=B.pv (V.zcj v0) λv45=>B.pv (V.bin .lss v6 v45) λv46=>B.cond v46 (B.pv (V.zcp 1 v0 v6) λv51=>B.ld h v51 λv52=>zq (zek.l69 E C Q Y7 v0 v5 v6) [v52,(.int .i64 0)] h) (zq (zek.l59 E C Q v0 v5) [(.int .i64 0)] h)
@[simp] def zek.l82(C:z6)(Q:zQ)(v0 v5:za):zG|[v6],h,Y7=>zek.k79 E C Q Y7 v0 v5 v6 h|_,_,_=>False
@[simp] def zek.k91(C:z6)(Q:zQ)(Y9 Y10:zL)(v0 v3 v4:za)(h:zb):Prop:=B.pv (V.zcp 1 v0 v3) λv25=>B.ld h v25 λv26=>B.pv (V.zcj v26) λv27=>B.pv (V.bin .lss v4 v27) λv28=>B.cond v28 (B.pv (V.zcp 1 v0 v3) λv33=>B.ld h v33 λv34=>B.call C E.f [v3,v4] h (B.zlb h [(v33,none)] (λv38 h=>B.pv (V.zcp E.es v34 v4) λv39=>E.st h v39 v38 λh=>B.pv (V.bin .add v4 (.int .i64 1)) λv30=>Y10 [v30] h))) (B.pv (V.bin .add v3 (.int .i64 1)) λv21=>Y9 [v21] h)
@[simp] def zek.l93(C:z6)(Q:zQ)(Y9:zL)(v0 v3:za):zG|[v4],h,Y10=>zek.k91 E C Q Y9 Y10 v0 v3 v4 h|_,_,_=>False
@[simp] def zek.k100(C:z6)(Q:zQ)(Y9:zL)(v0 v3:za)(h:zb):Prop:=B.pv (V.zcj v0) λv18=>B.pv (V.bin .lss v3 v18) λv19=>B.cond v19 (zq (zek.l93 E C Q Y9 v0 v3) [(.int .i64 0)] h) (B.pv (V.zcj v0) λv41=>0<1 /\ B.mks h 24 (some [.zdo]) v41 v41 λv42 h=>zq (zek.l82 E C Q v0 v42) [(.int .i64 0)] h)
@[simp] def zek.l103(C:z6)(Q:zQ)(v0:za):zG|[v3],h,Y9=>zek.k100 E C Q Y9 v0 v3 h|_,_,_=>False
def zek(C:z6)(v0:za)(h:zb)(Q:zQ):Prop:=zq (zek.l103 E C Q v0) [(.int .i64 0)] h
def zdd(bytes:Nat)(z:za)(f:Nat):zbj where
 es:=1;bytes:=bytes;z:=[z];f:=f;kp:=none
 ld:=λh p K=>B.ld h p K
 st:=λh p v K=>B.st h p v K
 eq:=λh a b K=>B.pv (V.bin .eql a b) λv=>K v h
end
variable{C:z6}{N:zN}
def aoff:za->Nat | .sl _ _ off _ _ _=>off|_=>0
theorem zu0(g hi e:Nat):∀(zjb:List (Nat×Nat)),zjb.lookup g=some hi->(zq8 zjb e).lookup g=some (min hi e)
 | [],h=>by cases h
 | (g',k)::r,h=>by
  unfold zq8
  rw[map_cons]
  by_cases e1:(g==g')=true
  ·simp only[List.lookup,e1]at h ⊢
   rw[Option.some.inj h]
  ·simp only[Bool.not_eq_true]at e1
   simp only[List.lookup,e1]at h ⊢
   exact zu0 g hi e r h
theorem SlX.oldApp{h:zb}{es:Nat}{x:za}{L R:List (List za)}(hs:SlX h es x L R){id:Nat}{b:Blk}(hf:zgv x=some id)(hb:h id=some b){e:Nat}(he:aoff x+L.length*es <= e)(hb2:e <= b.cells.length)(news:List za):
  SlX (Ab.upd h id (zgw b e news)) es x L []:=by
 have h0:=hs.cut;refine⟨h0.len,?_⟩;rcases h0.at_ with e1|⟨id',g,off,cp,b',hi,h1,h1',h2,h3,h4,hh,h5⟩
 ·exact .inl e1
 ·subst h1
  cases hf;rw[hb]at h2;cases h2;simp only[aoff]at he;simp only[length_nil,Nat.add_zero]at h4 h5 h1';have hcells:((b.cells.take e++news).drop off).take (L.length*es)=(L++[]).flatten:=by
   rw[<-h5];apply ext_getElem?;intro k;by_cases hk:k<L.length*es
   ·rw[getElem?_take_of_lt hk,getElem?_take_of_lt hk,getElem?_drop,getElem?_drop,getElem?_append_left (by simp;omega),getElem?_take_of_lt (by omega)]
   ·rw[getElem?_take_eq_none (by omega),getElem?_take_eq_none (by omega)]
  by_cases hg:g=b.next
  ·refine .inr ⟨_,g,off,cp,_,e+news.length,rfl,by simpa using h1',zbs ..,by simp[zgw,hg,List.lookup],by simp;omega,by simp[zgw];omega,?_⟩
   simpa[zgw]using hcells
  ·refine .inr ⟨_,g,off,cp,_,min hi e,rfl,by simpa using h1',zbs ..,?_,by simp;omega,by simp[zgw];omega,?_⟩
   ·simp only[zgw,List.lookup]
    rw[show (g==b.next)=false by simpa using hg];exact zu0 g hi e b.zjb h3
   ·simpa[zgw]using hcells
structure Old(h:zb)(es:Nat)(x:za)(L:List (List za))(y:za)(M:List (List za)):Prop where
 at_:SlX h es x L []
 ft:zgv x=none \/ (zgv x=zgv y /\ aoff x=aoff y)
 len:L.length <= M.length
theorem Old.refl{h:zb}{es:Nat}{x:za}{L R:List (List za)}(hs:SlX h es x L R):Old h es x L x L:=⟨hs.cut,.inr ⟨rfl,rfl⟩,Nat.le_refl _⟩
theorem Old.other{h h':zb}{es:Nat}{x y z:za}{L M:List (List za)}(ho:Old h es x L y M)(hb:But z h h')(hne:∀id,zgv y=some id->zgv z≠some id):Old h' es x L y M:=
 ⟨hb.sl ho.at_ λid hf=>hne id (by rcases ho.ft with e|⟨e,_⟩<;>rw[e]at hf;cases hf;exact hf),ho.ft,ho.len⟩
theorem Old.mono{h h':zb}{es:Nat}{x y:za}{L M:List (List za)}(ho:Old h es x L y M)(hle:h.le h'):Old h' es x L y M:=⟨ho.at_.mono hle,ho.ft,ho.len⟩
section
variable{h H h0:zb}{es:Nat}{x:za}{L R:List (List za)}
theorem SlX.app2{bytes:Nat}{M:List (List za)}{K:zQ}(ho:SlX h es x L R)(hown:∀id b,zgv x=some id->h id=some b->b.own=true)(hes:0<es)(hM:∀p∈M,p.length=es)(hb:(L.length+M.length)*bytes <= 140737488355328)(hm:L.length+M.length <= maxLen)
  (hk:∀x' h',SlIs h' es x' (L++M)->(∀id b,zgv x'=some id->h' id=some b->b.own=true)->But x h h'->(zgv x'=zgv x \/ ∀id,zgv x'=some id->h id=none)->(∀u U,Old h es u U x L->Old h' es u U x' (L++M))->K x' h'):A.app h es bytes x (some M.flatten) K:=by
 have hl:=znw hM;have hd:M.flatten.length / es=M.length:=by rw[hl,Nat.mul_div_cancel _ hes]
 have hall:∀p∈(L++M)++[],p.length=es:=λp hp=>by
  rw[append_nil]at hp;rcases mem_append.1 hp with hp|hp
  ·exact ho.len p (mem_append_left _ hp)
  ·exact hM p hp
 have fresh:L=[]->zgv x=none->(M≠[]->(M.flatten.length / es)*bytes <= 140737488355328 /\ M.flatten.length / es <= maxLen /\ A.new h M.flatten λid h=>K (.sl id 0 0 (M.flatten.length / es) es (M.flatten.length / es)) h):=λe hfx hne=>by
  subst e;rw[hd];simp only[length_nil,Nat.zero_add]at hb hm;refine⟨hb,hm,λid hid=>?_⟩;refine hk _ _ ⟨hall,.inr ⟨id,0,0,_,zdr M.flatten,M.flatten.length,by simp only[nil_append];exact rfl,by simp,zbs ..,ziq ..,by simp[hl],Nat.le_refl _,?_⟩⟩ (λj b hj hb'=>?_) (But.of_le _ (zgz _ hid)) (.inr λj hj=>?_) (λu U hu=>⟨hu.at_.mono (zgz _ hid),.inl ?_,?_⟩)
  ·simp only[nil_append,append_nil,length_nil,Nat.add_zero,<-hl,zdr,drop_zero,take_length]
  ·cases hj
   rw[zbs]at hb';cases hb';rfl
  ·cases hj;exact hid
  ·rcases hu.ft with e|⟨e,_⟩
   ·exact e
   ·rw[e,hfx]
  ·have:=hu.len;simp at this;simp[this]
 have hnil:M=[] \/ M.flatten.length≠0:=by
  cases M with
  | nil=>exact .inl rfl
  | cons a r=>
   refine .inr ?_;rw[hl,length_cons,Nat.add_mul];omega
 have h0:=ho.cut;rcases h0.at_ with⟨e,_,e'|e'⟩|⟨id,g,off,cp,b,hi,h1,h1',h2,h3,h4,hh,h5⟩
 ·subst e'
  simp only[A.app];split
  ·rename_i hz
   rcases hnil with hn|hn
   ·subst hn;exact hk _ _ (by simpa using h0) (λ_ _ hj=>by cases hj) (But.of_le _ (zb.le_refl h)) (.inl rfl) (λu U hu=>by simpa using hu)
   ·exact absurd hz hn
  ·rename_i hz
   exact fresh e rfl λhn=>hz (by rw[hn];rfl)
 ·subst e'
  simp only[A.app];split
  ·rename_i hz
   rcases hnil with hn|hn
   ·subst hn;exact hk _ _ (by simpa using h0) (λ_ _ hj=>by cases hj) (But.of_le _ (zb.le_refl h)) (.inl rfl) (λu U hu=>by simpa using hu)
   ·exact absurd hz hn
  ·rename_i hz
   exact fresh e rfl λhn=>hz (by rw[hn];rfl)
 ·have hown':=hown id b (by rw[h1];rfl) h2
  subst h1;simp only[length_nil,Nat.add_zero,append_nil]at h4 h5;simp only[A.app,h2,h3,hd,hown',cond_true];have hcl:off+L.length*es <= b.cells.length:=by omega
  have htl:(b.cells.take (off+L.length*es)).length=off+L.length*es:=by simp;omega
  refine⟨trivial,trivial,h4,hb,hm,hk _ _ ⟨hall,.inr ⟨id,b.next,off,_,_,off+L.length*es+M.flatten.length,by rw[length_append],by simp,zbs ..,ziq ..,?_,?_,?_⟩⟩ (λj b1 hj hb1=>?_) (λj b1 e1 e2=>?_) (.inl rfl) (λu U hu=>⟨?_,?_,?_⟩)⟩
  ·rw[length_append,length_nil,Nat.add_zero,Nat.add_mul,hl];omega
  ·simp only[zgw,length_append,htl];omega
  ·simp only[zgw,append_nil,length_nil,Nat.add_zero]
   rw[drop_append_of_le_length (by omega),length_append,Nat.add_mul,<-hl,flatten_append,<-h5];have e1:(b.cells.take (off+L.length*es)).drop off=(b.cells.drop off).take (L.length*es):=by
    rw[drop_take];congr 1;omega
   have e2:((b.cells.drop off).take (L.length*es)).length=L.length*es:=by simp;omega
   rw[e1,take_of_length_le];rw[length_append,e2];omega
  ·cases hj
   rw[zbs]at hb1;cases hb1;exact hown'
  ·rw[zx]
   ·exact e1
   ·intro e;subst e;exact e2 rfl
  ·by_cases hf:zgv u=some id
   ·refine hu.at_.oldApp hf h2 ?_ hcl _
    have e1:=hu.len;have e2:aoff u=off:=by
     rcases hu.ft with e|⟨_,e⟩
     ·rw[e]at hf;cases hf
     ·exact e
    rw[e2];have:=Nat.mul_le_mul_right es e1;omega
   ·exact hu.at_.upd hf
  ·rcases hu.ft with e|⟨e,e'⟩
   ·exact .inl e
   ·exact .inr ⟨e,e'⟩
  ·have:=hu.len;rw[length_append];omega
theorem SlX.appW2{bytes:Nat}{y:za}{M R':List (List za)}{K:zQ}(ho:SlX h es x L R)(hown:∀id b,zgv x=some id->h id=some b->b.own=true)(hs:SlX h es y M R')(hes:0<es)(hb:(L.length+M.length)*bytes <= 140737488355328)(hm:L.length+M.length <= maxLen)
  (hk:∀x' h',SlIs h' es x' (L++M)->(∀id b,zgv x'=some id->h' id=some b->b.own=true)->But x h h'->(zgv x'=zgv x \/ ∀id,zgv x'=some id->h id=none)->(∀u U,Old h es u U x L->Old h' es u U x' (L++M))->K x' h'):A.zjc h es bytes x y K:=by
 unfold A.zjc;rw[hs.zhk];simp only;rw[hs.rdv];exact ho.app2 hown hes (λp hp=>hs.len p (mem_append_left _ hp)) hb hm hk
end
section
variable{h0 h h':zb}{l:List Ob}
theorem zcy.ne(ho:zcy h0 h l){i j:Nat}{a b:Ob}(hi:l[i]?=some a)(hj:l[j]?=some b)(hij:i≠j):∀id,a.zgv=some id->b.zgv≠some id:=λid ha hb=>by
 rcases Nat.lt_or_gt_of_ne hij with hlt|hgt
 ·have:=pairwise_iff_getElem.1 ho.apart i j (List.getElem?_eq_some_iff.1 hi).1 (List.getElem?_eq_some_iff.1 hj).1 hlt
  rw[(List.getElem?_eq_some_iff.1 hi).2,(List.getElem?_eq_some_iff.1 hj).2]at this
  exact this id ha hb
 ·have:=pairwise_iff_getElem.1 ho.apart j i (List.getElem?_eq_some_iff.1 hj).1 (List.getElem?_eq_some_iff.1 hi).1 hgt
  rw[(List.getElem?_eq_some_iff.1 hj).2,(List.getElem?_eq_some_iff.1 hi).2]at this
  exact this id hb ha
end
def Kp(h:zb)(p:za)(o:Option Nat):Prop:=match o with|none=>∃x,A.ldv h p=some x|some n=>∃x,A.znu h p n=some x
theorem zu3{h:zb}{ls:List (za×Option Nat)}{K:zQ}{v:za}(hl:∀p∈ls,Kp h p.1 p.2)(hk:K v h):B.zlb h ls K v h:=by
 refine⟨λp hp=>?_,hk⟩;have:=hl p hp;obtain⟨p,o⟩:=p;cases o with
 | none=>obtain⟨x,e⟩:=this;exact⟨x,e,e⟩
 | some n=>obtain⟨x,e⟩:=this;exact⟨x,e,e⟩
theorem keepS1{h:zb}{p:za}{o:Option Nat}{K:zQ}{v:za}(h1:Kp h p o)(hk:K v h):B.zlb h [(p,o)] K v h:=
 zu3 (λq hq=>by rw[mem_singleton.1 hq];exact h1) hk
theorem keepS2{h:zb}{p q:za}{o u:Option Nat}{K:zQ}{v:za}(h1:Kp h p o)(h2:Kp h q u)(hk:K v h):B.zlb h [(p,o),(q,u)] K v h:=
 zu3 (λr hr=>by rcases mem_cons.1 hr with e|hr;rw[e];exact h1;rw[mem_singleton.1 hr];exact h2) hk
def upf{α:Type}(f:Nat->α)(k:Nat)(v:α):Nat->α:=λj=>if j=k then v else f j
def zht(es n:Nat)(xs:Nat->za)(D R:Nat->List (List za)):List Ob:=(List.range n).map λj=>Ob.sl es (xs j) (D j) (R j)
section
variable{es n k:Nat}{xs:Nat->za}{D R:Nat->List (List za)}
@[simp] theorem zht.length:(zht es n xs D R).length=n:=by simp[zht]
theorem zht.get(hk:k<n):(zht es n xs D R)[k]?=some (.sl es (xs k) (D k) (R k)):=by simp[zht,hk]
theorem zht.set{x:za}{L M:List (List za)}:(zht es n xs D R).set k (.sl es x L M)=zht es n (upf xs k x) (upf D k L) (upf R k M):=by
 apply ext_getElem?;intro j;by_cases hj:j<n
 ·rw[zht.get hj]
  by_cases e:k=j
  ·subst e;rw[getElem?_set_self (by simpa using hj)];simp[upf]
  ·rw[getElem?_set_ne e,zht.get hj];simp[upf,Ne.symm e]
 ·rw[getElem?_eq_none (by simp;omega),getElem?_eq_none (by simp;omega)]
theorem zht.congr{ys:Nat->za}{E S:Nat->List (List za)}(h:∀j,j<n->xs j=ys j /\ D j=E j /\ R j=S j):zht es n xs D R=zht es n ys E S:=
 map_congr_left λj hj=>by obtain⟨a,b,c⟩:=h j (by simpa using hj);rw[a,b,c]
theorem zht.getA{l:List Ob}(hk:k<n):(zht es n xs D R++l)[k]?=some (.sl es (xs k) (D k) (R k)):=by
 rw[getElem?_append_left (by simpa using hk)];exact zht.get hk
theorem zht.setA{l:List Ob}(hk:k<n){x:za}{L M:List (List za)}:(zht es n xs D R++l).set k (.sl es x L M)=zht es n (upf xs k x) (upf D k L) (upf R k M)++l:=by
 rw[set_append_left _ _ (by simpa using hk),zht.set]
theorem zht.getL{o:Ob}:(zht es n xs D R++[o])[n]?=some o:=by
 rw[getElem?_append_right (by simp)];simp
theorem zht.setL{o o':Ob}:(zht es n xs D R++[o]).set n o'=zht es n xs D R++[o']:=by
 rw[set_append_right _ _ (by simp)];simp
end
theorem zcy.cutR{h0 h:zb}{es n:Nat}{xs:Nat->za}{D R:Nat->List (List za)}{l:List Ob}(ho:zcy h0 h (zht es n xs D R++l)):zcy h0 h (zht es n xs D (λ_=>[])++l):=by
 have mem:∀o∈zht es n xs D (λ_=>[]),∃o'∈zht es n xs D R,o'.zgv=o.zgv /\ (o'.at h->o.at h):=λo hm=>by
  obtain⟨j,hj,rfl⟩:=mem_map.1 hm;exact⟨_,mem_map.2 ⟨j,hj,rfl⟩,rfl,λh=>SlX.cut h⟩
 refine⟨ho.le,λo hm=>?_,λo hm=>?_,?_⟩
 ·rcases mem_append.1 hm with hm|hm
  ·obtain⟨o',h1,_,h3⟩:=mem o hm
   exact h3 (ho.is _ (mem_append_left _ h1))
  ·exact ho.is _ (mem_append_right _ hm)
 ·rcases mem_append.1 hm with hm|hm
  ·obtain⟨o',h1,h2,_⟩:=mem o hm
   rw[<-h2];exact ho.own _ (mem_append_left _ h1)
  ·exact ho.own _ (mem_append_right _ hm)
 ·obtain⟨a,b,c⟩:=pairwise_append.1 ho.apart
  refine pairwise_append.2 ⟨?_,b,λx hx y hy=>?_⟩
  ·unfold zht at a ⊢
   rw[pairwise_map]at a ⊢;exact a.imp λh=>h
  ·obtain⟨o',h1,h2,_⟩:=mem x hx
   rw[<-h2];exact c o' h1 y hy
variable{C:z6}{N:zN}
structure zt5(C:z6)(E:zbj)(m:Int->Int->List za)(v:Int->Int->za):Prop where
 pos:0<E.es
 small:E.bytes <= 1000
 len:∀k i,(m k i).length=E.es
 zlen:E.z.length=E.es
 new:∀k i,zeu [(0,E.kp,v k i)] (zhu 1 E.z)=some (m k i)
 call:∀(k i:Int)(h:zb)(Q:zQ),Q (v k i) h->C E.f [.int .i64 k,.int .i64 i] h Q
 ld:∀{h:zb}{x:za}{L R:List (List za)}{i:Nat}{k j:Int}{K:za->Prop},SlX h E.es x L R->L[i]?=some (m k j)->K (v k j)->E.ld h (elp E.es x i 0) K
 kpt:∀{h:zb}{x:za}{L R:List (List za)}{i:Nat}{k j:Int},SlX h E.es x L R->L[i]?=some (m k j)->Kp h (elp E.es x i 0) E.kp
 st:∀{h:zb}{x:za}{L R:List (List za)}{i:Nat}{c:List za}{k j:Int}{K:zb->Prop},SlX h E.es x L R->(∀id b,zgv x=some id->h id=some b->b.own=true)->L[i]?=some c ->
  (∀h',SlX h' E.es x (L.set i (m k j)) R->(∀id b,zgv x=some id->h' id=some b->b.own=true)->But x h h'->K h')->E.st h (elp E.es x i 0) (v k j) K
 eq:∀{h:zb}{k i:Int}{K:zQ},K (.bool true) h->E.eq h (v k i) (v k i) K
def zqi(m:Int->Int->List za)(k n:Nat):List (List za):=(List.range n).map fun(i:Nat)=>m (k:Int) (i:Int)
section
variable{m:Int->Int->List za}{k n i:Nat}
@[simp] theorem zkz:(zqi m k n).length=n:=by simp[zqi]
theorem zk0(hi:i<n):(zqi m k n)[i]?=some (m (k:Int) (i:Int)):=by simp[zqi,hi]
theorem mkTo_succ:zqi m k (n+1)=zqi m k n++[m (k:Int) (n:Int)]:=by simp[zqi,range_succ]
@[simp] theorem mkTo_zero:zqi m k 0=[]:=rfl
theorem mkTo_over{D:List (List za)}(hi:i<D.length):(zqi m k i++D.drop i).set i (m (k:Int) (i:Int))=zqi m k (i+1)++D.drop (i+1):=by
 rw[set_append_right _ _ (by simp),zkz,Nat.sub_self,mkTo_succ,drop_eq_getElem_cons hi,set_cons_zero,append_assoc];rfl
theorem mkTo_at{D:List (List za)}(hi:i<D.length):(zqi m k i++D.drop i)[i]?=some D[i]:=by
 rw[getElem?_append_right (by simp),zkz,Nat.sub_self,getElem?_drop];simp[hi]
end
theorem zgy{α:Type}(f:Nat->α)(k:Nat)(v:α):upf f k v k=v:=by simp[upf]
theorem zmh{α:Type}(f:Nat->α){k j:Nat}(v:α)(h:j≠k):upf f k v j=f j:=by simp[upf,h]
theorem zpw{α:Type}(f:Nat->α)(k:Nat):upf f k (f k)=f:=by funext j;unfold upf;split<;>simp_all
theorem zss{α:Type}(k:Nat)(v:α):upf (λ_=>v) k v=λ_=>v:=by funext j;unfold upf;split<;>rfl
theorem upf_upf{α:Type}(f:Nat->α)(k:Nat)(v w:α):upf (upf f k v) k w=upf f k w:=by funext j;unfold upf;split<;>rfl
section
variable{h:zb}{x:za}{n k:Nat}{xs:Nat->za}{W:List (List za)}(hx:SlX h 1 x (zhf n λj=>[xs j]) W)
include hx
theorem zrn:V.zcj x=some (.int .i64 n):=by rw[hx.zcj,fills_len]
theorem zkj(hk:k<n):V.zcp 1 x (.int .i64 (k:Int))=some (elp 1 x k 0):=hx.zmd (by simpa using hk)
theorem zq1(hk:k<n):A.ldv h (elp 1 x k 0)=some (xs k):=by rw[hx.ldv (zne _ hk) (by omega)];rfl
theorem ls_kp(hk:k<n):Kp h (elp 1 x k 0) none:=⟨_,zq1 hx hk⟩
end
structure FS(E:zbj)(m:Int->Int->List za)(h0 h:zb)(v5:za)(n:Nat)(xs:Nat->za)(len:Nat->Nat)(ys:Nat->za)(F:Nat->List (List za))(gs:Nat->za):Prop where
 own:zcy h0 h (zht E.es n ys F (λ_=>[])++[.sl 1 v5 (zhf n λj=>[gs j]) []])
 old:∀j,j<n->Old h E.es (xs j) (zqi m j (len j)) (ys j) (F j)
section
variable{E:zbj}{m:Int->Int->List za}{v:Int->Int->za}{h0 h h':zb}{x v5:za}{n k:Nat}{xs ys gs:Nat->za}{len:Nat->Nat}{F:Nat->List (List za)}{W:List (List za)}{Q:zQ}
theorem FS.grow(fs:FS E m h0 h v5 n xs len ys F gs)(hle:h.le h'):FS E m h0 h' v5 n xs len ys F gs:=⟨fs.own.grow hle,λj hj=>(fs.old j hj).mono hle⟩
theorem FS.gAt(fs:FS E m h0 h v5 n xs len ys F gs):SlX h 1 v5 (zhf n λj=>[gs j]) []:=fs.own.zhs n zht.getL
theorem FS.yAt(fs:FS E m h0 h v5 n xs len ys F gs)(hk:k<n):SlX h E.es (ys k) (F k) []:=fs.own.zhs k (zht.getA hk)
theorem FS.zh9(fs:FS E m h0 h v5 n xs len ys F gs)(hk:k<n){y:za}{L:List (List za)}(h1:SlX h' E.es y L [])(h2:∀id b,zgv y=some id->h' id=some b->b.own=true)
  (h3:∀j b,h j=some b->zgv (ys k)≠some j->h' j=some b) (h4:zgv y=zgv (ys k) \/ ∀id,zgv y=some id->h id=none) (h5:Old h' E.es (xs k) (zqi m k (len k)) y L):FS E m h0 h' v5 n xs len (upf ys k y) (upf F k L) gs:=by
 refine⟨?_,λj hj=>?_⟩
 ·have:=fs.own.zh9 k (zht.getA hk) (o':= .sl E.es y L []) h1 h2 h3 h4
  rwa [zht.setA hk,zss]at this
 ·by_cases e:j=k
  ·subst e;rw[zgy,zgy];exact h5
  ·rw[zmh _ _ e,zmh _ _ e]
   exact(fs.old j hj).other (z:=ys k) h3 (fs.own.ne (zht.getA hj) (zht.getA hk) e)
theorem FS.store(fs:FS E m h0 h v5 n xs len ys F gs)(hk:k<n){y:za}(hy:y.zdx=true){K:zb->Prop}(hK:∀h',FS E m h0 h' v5 n xs len ys F (upf gs k y)->K h'):A.st h (elp 1 v5 k 0) y K:=by
 refine fs.own.st n zht.getL (zne _ hk) (by omega) hy λh' ho hb=>hK h' ⟨?_,λj hj=>?_⟩
 ·rw[zht.setL]at ho
  have e:(zhf n λj=>[gs j]).set k ([gs k].set 0 y)=zhf n λj=>[upf gs k y j]:=by
   rw[fills_set];refine fills_congr λj hj=>?_;unfold upf;split<;>rfl
  rwa [e]at ho
 ·exact(fs.old j hj).other hb (fs.own.ne (zht.getA hj) zht.getL (by omega))
theorem FS.push(S:zt5 C E m v)(fs:FS E m h0 h v5 n xs len ys F gs)(hk:k<n){cs:List za}(hcs:cs.length=E.es)(hl:(F k).length <= 100000100){K:zQ}
  (hK:∀y h',FS E m h0 h' v5 n xs len (upf ys k y) (upf F k (F k++[cs])) gs->K y h'):A.zha h (some cs) λi h=>A.zjc h E.es E.bytes (ys k) (.sl i 0 0 1 E.es 1) K:=λi hi=>by
 have fg:=fs.grow (zgz (zdr cs) hi)
 have hmul:=Nat.mul_le_mul (show (F k).length+1 <= 100000101 by omega) S.small
 refine(fg.yAt hk).appW2 (fg.own.ownAt k (zht.getA hk)) (M:=[cs]) (R':=[]) (SlX.lit (zbs ..) (by simpa using hcs) rfl (by simp) (by simp)) S.pos (by simp only[length_singleton];omega) (by simp[maxLen];omega) λy h' h1 h2 h3 h4 h5=>?_
 exact hK y h' (fg.zh9 hk h1 h2 h3 h4 (h5 _ _ (fg.old k hk)))
theorem flat5(S:zt5 C E m v)(hx:SlX h0 1 x (zhf n λj=>[xs j]) W)(fs:FS E m h0 h v5 n xs len ys F gs)(hn:n <= 100000000)(hl:∀j,j<n->len j <= 100000000)
  (hgs:∀j,j<n->gs j=ys j) (hF:∀j i,j<n->i<len j->(F j)[i]?=some (m j i)) (hq:∀h',h0.le h'->Q (.bool true) h'):zq (zek.l15 E C Q x v5) [.int .i64 0] h:=by
 have hx':=hx.mono fs.own.le;refine zq.intro (λt vs hh=>∃k:Nat,k+t=n /\ vs=[.int .i64 k] /\ hh=h) n ?_ ⟨0,by simp,by simp,rfl⟩;rintro Y t vs hh ⟨k,ht,rfl,rfl⟩ hY;simp -dsimp[zrn hx'];refine B.zbc (λhb=>?_) (λhb=>?_)<;>simp -dsimp at hb ⊢
 ·refine zq.intro (λt vs h2=>∃i:Nat,i+t=len k /\ vs=[.int .i64 i] /\ h2=hh) (len k) ?_ ⟨0,by simp,by simp,rfl⟩
  rintro Z t' vs h3 ⟨i,hi,rfl,rfl⟩ hZ;have hold:=(fs.old k hb).at_;have hlk:=hl k hb;have hlx:=hold.zcj;rw[zkz]at hlx;simp -dsimp[zkj hx' hb,zq1 hx' hb,hlx];refine B.zbc (λhc=>?_) (λhc=>?_)<;>simp -dsimp at hc ⊢
  ·have hyk:=fs.yAt hb
   have hFi:=hF k i hb hc;have e1:V.zcp E.es (xs k) (.int .i64 (i:Int))=some (elp E.es (xs k) i 0):=hold.zmd (by simpa using hc);have e2:V.zcp E.es (ys k) (.int .i64 (i:Int))=some (elp E.es (ys k) i 0):=hyk.zmd (List.getElem?_eq_some_iff.1 hFi).1;have e3:=zq1 fs.gAt hb;rw[hgs k hb]at e3;simp -dsimp only[zkj hx' hb,zq1 hx' hb,e1,B.ze,B.zeo];refine S.ld hold (zk0 hc) ?_;refine S.call _ _ _ _ (keepS2 (ls_kp hx' hb) (S.kpt hold (zk0 hc)) ?_);refine S.eq ?_;simp -dsimp[zkj fs.gAt hb,e3,e2];refine S.ld hyk hFi ?_;refine S.call _ _ _ _ (keepS2 (ls_kp fs.gAt hb) (S.kpt hyk hFi) ?_);simp -dsimp;refine S.eq ?_;simp -dsimp[znb (n:=i) (by omega)];exact hZ (len k-(i+1)) _ _ (by omega) ⟨i+1,by omega,by simp,rfl⟩
  ·simp -dsimp[znb (n:=k) (by omega)]
   exact hY (n-(k+1)) _ _ (by omega) ⟨k+1,by omega,by simp,rfl⟩
 ·exact hq _ fs.own.le
theorem flat4(S:zt5 C E m v)(hx:SlX h0 1 x (zhf n λj=>[xs j]) W)(fs:FS E m h0 h v5 n xs len ys F gs)(hn:n <= 100000000)(hl:∀j,j<n->len j <= 100000000)
  (hgs:∀j,j<n->gs j=ys j) (hF:∀j i,j<n->i<len j->(F j)[i]?=some (m j i)) (hq:∀h',h0.le h'->Q (.bool true) h'):zq (zek.l40 E C Q x v5) [.int .i64 0] h:=by
 refine zq.intro (λt vs hh=>∃(k:Nat)(ys gs:Nat->za)(F:Nat->List (List za)),k+t=n /\ vs=[.int .i64 k] /\ FS E m h0 hh v5 n xs len ys F gs /\ (∀j,j<n->gs j=ys j) /\ ∀j i,j<n->i<len j->(F j)[i]?=some (m j i)) n ?_
  ⟨0,ys,gs,F,by simp,by simp,fs,hgs,hF⟩
 rintro Y t vs h ⟨k,ys,gs,F,ht,rfl,fs,hgs,hF⟩ hY;have hx':=hx.mono fs.own.le;simp -dsimp[zrn hx'];refine B.zbc (λhb=>?_) (λhb=>?_)<;>simp -dsimp at hb ⊢
 ·refine⟨S.pos,(zcy.start h).mks (es:=E.es) S.zlen (by omega) (by omega) (by have:=S.small;omega) (by omega) λy h1 ho1=>?_⟩
  simp only[nil_append]at ho1;refine zq.intro (λt vs hh=>∃i:Nat,i+t=64 /\ vs=[.int .i64 i] /\ ∃R,zcy h hh [.sl E.es y (zqi m (k+n:Nat) i++(zhf 64 λ_=>E.z).drop i) R]) 64 ?_ ⟨0,by simp,by simp,_,by simpa using ho1⟩;rintro Z t' vs hh ⟨i,hi,rfl,R,ho⟩ hZ;simp -dsimp;refine B.zbc (λhc=>?_) (λhc=>?_)<;>simp -dsimp at hc ⊢
  ·have e1:IntKind.i64.wrap ((k:Int)+n)=((k+n:Nat):Int):=by rw[wrap_i64 (by omega) (by omega)];omega
   have hxx:=hx'.mono ho.le;have hi64:i<(zhf 64 λ_=>E.z).length:=by simp;omega
   have hlt:i<(zqi m (k+n:Nat) i++(zhf 64 λ_=>E.z).drop i).length:=by simp;omega
   simp -dsimp only[zrn hxx,B.ze,V.zh8,e1];refine S.call _ _ _ _ ?_;simp -dsimp only[(ho.zhs 0 rfl).zmd hlt,B.ze];refine S.st (ho.zhs 0 rfl) (ho.ownAt 0 rfl) (mkTo_at hi64) λh2 h3 h4 h5=>?_;rw[mkTo_over hi64]at h3;simp -dsimp[znb (n:=i) (by omega)];exact hZ (64-(i+1)) _ _ (by omega) ⟨i+1,by omega,by simp,R,ho.zh9 0 rfl (o':= .sl E.es y _ R) h3 h4 h5 (.inl rfl)⟩
  ·have hi64:i=64:=by omega
   subst hi64;have hd:(zhf 64 λ_=>E.z).drop 64=[]:=drop_of_length_le (by simp);rw[hd,append_nil]at ho;have fh:=fs.grow ho.le;have hold:=fh.old k hb;have hxx:=hx'.mono ho.le;have hlk:=hl k hb;have hmul:=Nat.mul_le_mul (show len k+64 <= 100000064 by omega) S.small;simp -dsimp[zkj hxx hb,zq1 hxx hb];refine hold.at_.appW2 (λid b e1 e2=>?_) (ho.zhs 0 rfl) S.pos (by simp only[zkz];omega) (by simp[maxLen];omega) λy' h2 h3 h4 h5 h6 h7=>?_
   ·rcases hold.ft with e|⟨e,_⟩
    ·rw[e]at e1;cases e1
    ·rw[e]at e1;exact fh.own.ownAt k (zht.getA hb) id b e1 e2
   ·have f2:FS E m h0 h2 v5 n xs len (upf ys k y') (upf F k (zqi m k (len k)++zqi m (k+n:Nat) 64)) gs:=fh.zh9 hb h3 h4 (λj b e1 e2=>h5 j b e1 λe3=>by
      rcases hold.ft with e|⟨e,_⟩
      ·rw[e]at e3;cases e3
      ·rw[e]at e3;exact e2 e3) (by
      rcases h6 with e|e
      ·rcases hold.ft with e'|⟨e',_⟩
       ·exact .inr λid hid=>by rw[e,e']at hid;cases hid
       ·exact .inl (e.trans e')
      ·exact .inr e) (h7 _ _ (Old.refl hold.at_))
    simp -dsimp[zkj f2.gAt hb];refine f2.store hb h3.zdx λh8 f3=>?_;simp -dsimp[znb (n:=k) (by omega)];refine hY (n-(k+1)) _ _ (by omega) ⟨k+1,_,_,_,by omega,by simp,f3,λj hj=>?_,λj i hj hi=>?_⟩
    ·by_cases e:j=k
     ·subst e;rw[zgy,zgy]
     ·rw[zmh _ _ e,zmh _ _ e];exact hgs j hj
    ·by_cases e:j=k
     ·subst e
      rw[zgy,getElem?_append_left (by simpa using hi)];exact zk0 hi
     ·rw[zmh _ _ e];exact hF j i hj hi
 ·exact flat5 S hx fs hn hl hgs hF hq
theorem flat3(S:zt5 C E m v)(hx:SlX h0 1 x (zhf n λj=>[xs j]) W)(fs:FS E m h0 h v5 n xs len ys F gs)(hn:n <= 100000000)(hl:∀j,j<n->len j <= 100000000)
  (hgs:∀j,j<n->gs j=ys j) (hF:∀j,j<n->F j=zqi m j (len j+64)) (hq:∀h',h0.le h'->Q (.bool true) h'):zq (zek.l59 E C Q x v5) [.int .i64 0] h:=by
 have hx':=hx.mono fs.own.le;refine zq.intro (λt vs hh=>∃k:Nat,k+t=n /\ vs=[.int .i64 k] /\ hh=h) n ?_ ⟨0,by simp,by simp,rfl⟩;rintro Y t vs hh ⟨k,ht,rfl,rfl⟩ hY;simp -dsimp[zrn hx'];refine B.zbc (λhb=>?_) (λhb=>?_)<;>simp -dsimp at hb ⊢
 ·refine zq.intro (λt vs h2=>∃i:Nat,i+t=len k+64 /\ vs=[.int .i64 i] /\ h2=hh) (len k+64) ?_ ⟨0,by simp,by simp,rfl⟩
  rintro Z t' vs h3 ⟨i,hi,rfl,rfl⟩ hZ;have hold:=(fs.old k hb).at_;have hlk:=hl k hb;have hlx:=hold.zcj;rw[zkz]at hlx;have hyk:=fs.yAt hb;rw[hF k hb]at hyk;have hly:=hyk.zcj;rw[zkz]at hly;have e3:=zq1 fs.gAt hb;rw[hgs k hb]at e3;simp -dsimp[zkj fs.gAt hb,e3,hly];refine B.zbc (λhc=>?_) (λhc=>?_)
  ·have hc:i<len k+64:=by simp at hc;omega
   have e2:V.zcp E.es (ys k) (.int .i64 (i:Int))=some (elp E.es (ys k) i 0):=hyk.zmd (by simpa using hc);simp -dsimp only[zkj fs.gAt hb,e3,e2,B.ze,B.zeo];refine S.ld hyk (zk0 hc) ?_;refine S.call _ _ _ _ (keepS2 (ls_kp fs.gAt hb) (S.kpt hyk (zk0 hc)) ?_);refine S.eq ?_;by_cases hd:i<len k
   ·have e1:V.zcp E.es (xs k) (.int .i64 (i:Int))=some (elp E.es (xs k) i 0):=hold.zmd (by simpa using hd)
    simp -dsimp[zkj hx' hb,zq1 hx' hb,hlx,hd,e1];refine S.ld hold (zk0 hd) ?_;refine S.call _ _ _ _ (keepS2 (ls_kp hx' hb) (S.kpt hold (zk0 hd)) ?_);simp -dsimp;refine S.eq ?_;simp -dsimp[znb (n:=i) (by omega)];exact hZ (len k+64-(i+1)) _ _ (by omega) ⟨i+1,by omega,by simp,rfl⟩
   ·simp -dsimp[zkj hx' hb,zq1 hx' hb,hlx,hd]
    simp -dsimp[znb (n:=i) (by omega)];exact hZ (len k+64-(i+1)) _ _ (by omega) ⟨i+1,by omega,by simp,rfl⟩
  ·simp -dsimp[znb (n:=k) (by omega)]
   exact hY (n-(k+1)) _ _ (by omega) ⟨k+1,by omega,by simp,rfl⟩
 ·exact flat4 S hx fs hn hl hgs (λj i hj hi=>by rw[hF j hj];exact zk0 (by omega)) hq
theorem flat2(S:zt5 C E m v)(hx:SlX h0 1 x (zhf n λj=>[xs j]) W)(fs:FS E m h0 h v5 n xs len xs (λj=>zqi m j (len j)) gs)(hn:n <= 100000000)(hl:∀j,j<n->len j <= 100000000)
  (hq:∀h',h0.le h'->Q (.bool true) h'):zq (zek.l82 E C Q x v5) [.int .i64 0] h:=by
 refine zq.intro (λt vs hh=>∃(k:Nat)(ys gs:Nat->za)(F:Nat->List (List za)),k+t=n /\ vs=[.int .i64 k] /\ FS E m h0 hh v5 n xs len ys F gs /\ (∀j,j<k->gs j=ys j /\ F j=zqi m j (len j+64)) /\ ∀j,k <= j->ys j=xs j /\ F j=zqi m j (len j)) n ?_
  ⟨0,_,gs,_,by simp,by simp,fs,by simp,λj _=>⟨rfl,rfl⟩⟩
 rintro Y t vs h ⟨k,ys,gs,F,ht,rfl,fs,hlo,hhi⟩ hY;have hx':=hx.mono fs.own.le;simp -dsimp[zrn hx'];refine B.zbc (λhb=>?_) (λhb=>?_)<;>simp -dsimp at hb ⊢
 ·have hk:=hhi k (Nat.le_refl k)
  have hlk:=hl k hb;simp -dsimp[zkj hx' hb,zq1 hx' hb];refine zq.intro (λt vs hh=>∃(i:Nat)(y:za),i+t=64 /\ vs=[y,.int .i64 i] /\ FS E m h0 hh v5 n xs len (upf ys k y) (upf F k (zqi m k (len k+i))) gs) 64 ?_ ⟨0,xs k,by simp,by simp,?_⟩
  ·rintro Z t' vs hh ⟨i,y,hi,rfl,f1⟩ hZ
   have hx1:=hx.mono f1.own.le;have hold:=(f1.old k hb).at_;have hlx:=hold.zcj;rw[zkz]at hlx;have ey:upf ys k y k=y:=zgy ..;simp -dsimp;refine B.zbc (λhc=>?_) (λhc=>?_)<;>simp -dsimp at hc ⊢
   ·have e1:IntKind.i64.wrap ((len k:Int)+i)=((len k+i:Nat):Int):=by rw[wrap_i64 (by omega) (by omega)];omega
    simp -dsimp only[zkj hx1 hb,zq1 hx1 hb,hlx,B.ze,B.zeo,V.zh8,e1];refine S.call _ _ _ _ ?_;rw[S.new];have:=f1.push S hb (cs:=m k (len k+i:Nat)) (S.len _ _) (by rw[zgy,zkz];omega) (K:=λv68 h=>B.pv (V.bin .add (.int .i64 (i:Int)) (.int .i64 1)) λv56=>Z [v68,v56] h) λy' h2 f2=>?_
    ·rw[ey]at this;exact this
    ·simp -dsimp[znb (n:=i) (by omega)]
     refine hZ (64-(i+1)) _ _ (by omega) ⟨i+1,y',by omega,by simp,?_⟩;rw[upf_upf,upf_upf,zgy,<-mkTo_succ]at f2;exact f2
   ·have hi64:i=64:=by omega
    subst hi64;simp -dsimp[zkj f1.gAt hb];have hyc:=(f1.yAt hb).zdx;rw[ey]at hyc;refine f1.store hb hyc λh2 f2=>?_;simp -dsimp[znb (n:=k) (by omega)];refine hY (n-(k+1)) _ _ (by omega) ⟨k+1,_,_,_,by omega,by simp,f2,λj hj=>?_,λj hj=>?_⟩
    ·by_cases e:j=k
     ·subst e;rw[zgy,zgy,zgy];exact⟨rfl,rfl⟩
     ·rw[zmh _ _ e,zmh _ _ e,zmh _ _ e];exact hlo j (by omega)
    ·rw[zmh _ _ (by omega),zmh _ _ (by omega)];exact hhi j (by omega)
  ·have e1:upf ys k (xs k)=ys:=by rw[<-hk.1,zpw]
   have e2:upf F k (zqi m k (len k+0))=F:=by rw[Nat.add_zero,<-hk.2,zpw]
   rw[e1,e2];exact fs
 ·have:k=n:=by omega
  subst this;exact flat3 S hx fs hn hl (λj hj=>(hlo j hj).1) (λj hj=>(hlo j hj).2) hq
theorem zu7(S:zt5 C E m v){D R:Nat->List (List za)}(hx:SlX h0 1 x (zhf n λj=>[xs j]) W)(ho:zcy h0 h (zht E.es n xs D R))(hn:n <= 100000000)(hl:∀j,j<n->(D j).length <= 100000000)
  (hq:∀h',h0.le h'->Q (.bool true) h'):zek E C x h Q:=by
 refine zq.intro (λt vs hh=>∃(k:Nat)(G:Nat->List (List za)),k+t=n /\ vs=[.int .i64 k] /\ zcy h0 hh (zht E.es n xs G R) /\ (∀j,j<k->G j=zqi m j (D j).length) /\ ∀j,k <= j->G j=D j) n ?_
  ⟨0,D,by simp,by simp,ho,by simp,λj _=>rfl⟩
 rintro Y t vs h ⟨k,G,ht,rfl,ho,hlo,hhi⟩ hY;have hx':=hx.mono ho.le;simp -dsimp[zrn hx'];refine B.zbc (λhb=>?_) (λhb=>?_)<;>simp -dsimp at hb ⊢
 ·have hlk:=hl k hb
  have hgk:=hhi k (Nat.le_refl k);refine zq.intro (λt vs hh=>∃i:Nat,i+t=(D k).length /\ vs=[.int .i64 i] /\ zcy h0 hh (zht E.es n xs (upf G k (zqi m k i++(D k).drop i)) R)) (D k).length ?_ ⟨0,by simp,by simp,?_⟩
  ·rintro Z t' vs hh ⟨i,hi,rfl,ho1⟩ hZ
   have hx1:=hx.mono ho1.le;have hxk:=ho1.zhs k (zht.get hb);rw[zgy]at hxk;have hlx:=hxk.zcj;have hll:(zqi m k i++(D k).drop i).length=(D k).length:=by simp;omega
   rw[hll]at hlx;simp -dsimp[zkj hx1 hb,zq1 hx1 hb,hlx];refine B.zbc (λhc=>?_) (λhc=>?_)<;>simp -dsimp at hc ⊢
   ·have hlt:i<(zqi m k i++(D k).drop i).length:=by omega
    simp -dsimp only[zkj hx1 hb,zq1 hx1 hb,B.ze,B.zeo];refine S.call _ _ _ _ (keepS1 (ls_kp hx1 hb) ?_);simp -dsimp only[hxk.zmd hlt,B.ze];refine S.st hxk (ho1.ownAt k (zht.get hb)) (mkTo_at hc) λh2 h3 h4 h5=>?_;rw[mkTo_over hc]at h3;have h6:=ho1.zh9 k (zht.get hb) (o':= .sl E.es (xs k) _ (R k)) h3 h4 h5 (.inl rfl);rw[zht.set,zpw,zpw,upf_upf]at h6;simp -dsimp[znb (n:=i) (by omega)];exact hZ ((D k).length-(i+1)) _ _ (by omega) ⟨i+1,by omega,by simp,h6⟩
   ·have hie:i=(D k).length:=by omega
    subst hie;rw[drop_length,append_nil]at ho1;simp -dsimp[znb (n:=k) (by omega)];refine hY (n-(k+1)) _ _ (by omega) ⟨k+1,_,by omega,by simp,ho1,λj hj=>?_,λj hj=>?_⟩
    ·by_cases e:j=k
     ·subst e;rw[zgy]
     ·rw[zmh _ _ e];exact hlo j (by omega)
    ·rw[zmh _ _ (by omega)];exact hhi j (by omega)
  ·simp only[mkTo_zero,nil_append,drop_zero]
   rw[<-hgk,zpw];exact ho
 ·have:k=n:=by omega
  subst this;simp -dsimp only[zrn hx',B.ze];refine⟨Nat.one_pos,?_⟩;refine ho.mks (bytes:=24) (es:=1) (n:=k) (c:=k) (z:=[.zdo]) rfl (by omega) (by omega) (by omega) (by omega) λy h1 ho1=>?_;have e1:((k:Int)).toNat=k:=by simp
  rw[e1,Nat.sub_self,fills_zero]at ho1;have ho2:=ho1.cutR;rw[zht.congr (ys:=xs) (E:=λj=>zqi m j (D j).length) (S:=λ_=>[]) λj hj=>⟨rfl,hlo j hj,rfl⟩]at ho2;exact flat2 S hx ⟨ho2,λj hj=>Old.refl (ho2.zhs j (zht.getA hj))⟩ hn (λj hj=>hl j hj) hq
end
variable{C:z6}{N:zN}
structure Scal(T:Type)[DecidableEq T] where
 c:T->za
 cell:∀t,(c t).zdx=true
 eql:∀a b,V.bin .eql (c a) (c b)=some (.bool (decide (a=b)))
 neq:∀a b,V.bin .neq (c a) (c b)=some (.bool (!decide (a=b)))
theorem SlX.cell{h:zb}{x c:za}{L R:List (List za)}{i:Nat}(hs:SlX h 1 x L R)(hc:L[i]?=some [c]):A.ldv h (elp 1 x i 0)=some c:=by
 rw[hs.ldv hc (by omega)];rfl
section
variable{T:Type}[DecidableEq T](F:Scal T)
abbrev Scal.cs(t:T):List za:=[F.c t]
@[simp] def zpz.k2(Q:zQ)(Y1:zL)(v0 v1 v5:za)(h:zb):Prop:=B.pv (V.zcj v0) λv13=>B.pv (V.bin .lss v5 v13) λv14=>B.cond v14 (B.pv (V.zcp 1 v0 v5) λv19=>B.ld h v19 λv20=>B.pv (V.zcp 1 v1 v5) λv23=>B.ld h v23 λv24=>B.pv (V.bin .neq v20 v24) λv25=>B.cond v25 (Q (.bool false) h) (B.pv (V.bin .add v5 (.int .i64 1)) λv16=>Y1 [v16] h)) (Q (.bool true) h)
@[simp] def zpz.l4(Q:zQ)(v0 v1:za):zG|[v5],h,Y1=>zpz.k2 Q Y1 v0 v1 v5 h|_,_,_=>False
def zpz(v0 v1:za)(h:zb)(Q:zQ):Prop:=B.pv (V.zcj v0) λv7=>B.pv (V.zcj v1) λv9=>B.pv (V.bin .neq v7 v9) λv10=>B.cond v10 (Q (.bool false) h) (zq (zpz.l4 Q v0 v1) [(.int .i64 0)] h)
theorem zuq{x y:za}{L M:List T}{R S:List (List za)}{h:zb}{Q:zQ}(hx:SlX h 1 x (L.map F.cs) R)(hy:SlX h 1 y (M.map F.cs) S)(hlen:L.length<4611686018427387904)
  (hq:Q (.bool (decide (L=M))) h):zpz x y h Q:=by
 have hlx:=hx.zcj;have hly:=hy.zcj;rw[length_map]at hlx hly;simp -dsimp[zpz,hlx,hly];refine B.zbc (λhb=>?_) (λhb=>?_)<;>simp -dsimp at hb ⊢
 ·rw[decide_eq_false λe=>hb (by rw[e])]at hq
  exact hq
 ·refine zq.intro (λn vs hh=>∃k,k+n=L.length /\ vs=[.int .i64 k] /\ hh=h /\ L.take k=M.take k) L.length ?_ ⟨0,by simp,by simp,rfl,by simp⟩
  rintro Y n vs _ ⟨k,hn,rfl,rfl,he⟩ hY;simp -dsimp[hlx];refine B.zbc (λhc=>?_) (λhc=>?_)<;>simp -dsimp at hc ⊢
  ·obtain⟨w,hw⟩:=zg3 hc
   obtain⟨u,hu⟩:=zg3 (L:=M) (k:=k) (by omega);have hk:k<(L.map F.cs).length:=by simpa using hc
   have hk2:k<(M.map F.cs).length:=by simp;omega
   simp only[hx.zmd hk,hy.zmd hk2,hx.cell (get_map hw),hy.cell (get_map hu),B.ze,B.zeo,F.neq];refine B.zbc (λhd=>?_) (λhd=>?_)<;>simp -dsimp at hd ⊢
   ·rw[decide_eq_false λe=>by subst e;rw[hw]at hu;cases hu;exact hd rfl]at hq
    exact hq
   ·simp[znb (n:=k) (by omega)]
    refine hY (L.length-(k+1)) _ _ (by omega) ⟨k+1,by omega,by simp,rfl,?_⟩;rw[take_succ hw,take_succ hu,he,hd]
  ·rw[take_of_length_le (by omega),take_of_length_le (by omega)]at he
   rw[decide_eq_true he]at hq;exact hq
def zhq(mk:Int->T)(n:Nat):List (List za):=(List.range n).map fun(i:Nat)=>F.cs (mk (i:Int))
@[simp] theorem cmarks_len(mk:Int->T)(n:Nat):(zhq F mk n).length=n:=by simp[zhq]
theorem cmarks_get(mk:Int->T){n k:Nat}(hk:k<n):(zhq F mk n)[k]?=some (F.cs (mk k)):=by simp[zhq,hk]
theorem cmarks_succ(mk:Int->T)(n:Nat):zhq F mk (n+1)=zhq F mk n++[F.cs (mk n)]:=by simp[zhq,range_succ]
@[simp] def zr5.k2(C:z6)(bytes f:Nat)(z:za)(m:Int)(Q:zQ)(Y1:zL)(v0 v3 v4:za)(h:zb):Prop:=B.pv (V.bin .lss v4 (.int .i64 12)) λv13=>B.cond v13 (B.call C f [(.int .i64 m),v4] h λv18 h=>B.zha h (zeu [(0,none,v18)] (zhu 1 [z])) λi19 h=>B.zjc h 1 bytes v3 (.sl i19 0 0 1 1 1) λv20 h=>B.pv (V.bin .add v4 (.int .i64 1)) λv15=>Y1 [v20,v15] h) (B.pv (V.zcj v0) λv23=>B.pv (V.zjp 1 v3 none (some v23)) λv24=>Q v24 h)
@[simp] def zr5.l4(C:z6)(bytes f:Nat)(z:za)(m:Int)(Q:zQ)(v0:za):zG|[v3,v4],h,Y1=>zr5.k2 C bytes f z m Q Y1 v0 v3 v4 h|_,_,_=>False
def zr5(C:z6)(bytes f:Nat)(z:za)(m:Int)(v0:za)(h:zb)(Q:zQ):Prop:=B.pv (V.zcj v0) λv6=>B.pv (V.bin .add v6 (.int .i64 12)) λv7=>0<1 /\ B.mks h bytes (some [z]) (.int .i64 0) v7 λv8 h=>B.zjc h 1 bytes v8 v0 λv11 h=>zq (zr5.l4 C bytes f z m Q v0) [v11,(.int .i64 0)] h
theorem lentS_specL{bytes f:Nat}{z:za}{m:Int}{mk:Int->T}(s1:∀(i:Int)(h:zb)(Q:zQ),Q (F.c (mk i)) h->C f [.int .i64 m,.int .i64 i] h Q)
  {x:za} {L:List T} {R:List (List za)} {h:zb} {Q:zQ} (hx:SlX h 1 x (L.map F.cs) R) (hlen:L.length <= 4611686018427387000) (hbm:(L.length+12)*bytes <= 140737488355328)
  (hq:∀x' h',zcy h h' [.sl 1 x' (L.map F.cs) (zhq F mk 12)]->Q x' h'):zr5 C bytes f z m x h Q:=by
 have hlx:=hx.zcj;rw[length_map]at hlx;have hmul:∀n:Nat,n <= L.length+12->n*bytes <= 140737488355328:=λn hn=>Nat.le_trans (Nat.mul_le_mul_right bytes hn) hbm;have e1:IntKind.i64.wrap ((L.length:Int)+12)=(L.length:Int)+12:=wrap_i64 (by omega) (by omega);simp -dsimp[zr5,hlx,e1];refine(zcy.start h).mks (es:=1) rfl (by omega) (by omega) ?_ (by omega) λy h1 ho=>?_
 ·have:=hmul (L.length+12) (by omega)
  have e:((L.length:Int)+12)*bytes=((L.length+12)*bytes:Nat):=by simp
  rw[e];omega
 refine ho.zjc 0 rfl (hx.mono ho.le) Nat.one_pos (by simpa using hmul L.length (by omega)) (by simp[maxLen];omega) λy2 h2 ho2 _=>?_;refine zq.intro (λn vs hh=>∃k y,k+n=12 /\ vs=[y,.int .i64 k] /\ zcy h hh [.sl 1 y (L.map F.cs++zhq F mk k) []]) 12 ?_ ⟨0,y2,by simp,by simp,by simpa[zhq]using ho2⟩;rintro Y n vs hh ⟨k,y3,hn,rfl,ho3⟩ hY;simp -dsimp[hlx];refine B.zbc (λhc=>?_) (λhc=>?_)<;>simp -dsimp at hc ⊢
 ·refine s1 _ _ _ ?_
  have hfill:zeu [(0,none,F.c (mk k))] (zhu 1 [z])=some (F.cs (mk k)):=by
   simp[F.cell,zhu]
  rw[hfill];refine ho3.push 0 rfl rfl Nat.one_pos (by simp;have:=hmul (L.length+k+1) (by omega);omega) (by simp[maxLen];omega) λz' h4 ho4 _=>?_;simp[znb (n:=k) (by omega)];refine hY (12-(k+1)) _ _ (by omega) ⟨k+1,z',by omega,by simp,?_⟩;rw[cmarks_succ,<-append_assoc];exact ho4
 ·have:k=12:=by omega
  subst this;obtain⟨x',e2,e3,e4⟩:=(ho3.zhs 0 rfl).slice Nat.one_pos (lo:=0) (hi:=L.length) (a:=none) (b:=some (.int .i64 L.length)) (.inl ⟨rfl,rfl⟩) (.inr ⟨_,rfl⟩) (by omega) (by simp);simp -dsimp[hlx,e2];refine hq _ _ (ho3.zh9 0 rfl (o':= .sl 1 x' (L.map F.cs) (zhq F mk 12)) ?_ (λid b hf hb=>ho3.ownAt 0 rfl id b (by show zgv y3=some id;rw[<-e4];exact hf) hb) (λj b hb _=>hb) (.inl e4));have h1:((L.map F.cs++zhq F mk 12++[]).take L.length).drop 0=L.map F.cs:=by simp[take_append_of_le_length]
  have h2:(L.map F.cs++zhq F mk 12++[]).drop L.length=zhq F mk 12:=by simp[drop_append_of_le_length]
  rw[h1,h2]at e3;exact e3
theorem lentS_spec{bytes f:Nat}{z:za}{m:Int}{mk:Int->T}(hbm:bytes <= 1000)(s1:∀(i:Int)(h:zb)(Q:zQ),Q (F.c (mk i)) h->C f [.int .i64 m,.int .i64 i] h Q)
  {x:za} {L:List T} {R:List (List za)} {h:zb} {Q:zQ} (hx:SlX h 1 x (L.map F.cs) R) (hlen:L.length <= 100000000)
  (hq:∀x' h',zcy h h' [.sl 1 x' (L.map F.cs) (zhq F mk 12)]->Q x' h'):zr5 C bytes f z m x h Q:=
 lentS_specL F s1 hx (by omega) (by have:=Nat.mul_le_mul (show L.length+12 <= 100000100 by omega) hbm;omega) hq
@[simp] def ztl.k2(C:z6)(f:Nat)(m:Int)(Q:zQ)(Y1:zL)(v1 v5 v6:za)(h:zb):Prop:=B.pv (V.zcj v5) λv19=>B.pv (V.bin .lss v6 v19) λv20=>B.cond v20 (B.pv (V.zcj v1) λv25=>B.pv (V.bin .lss v6 v25) λv26=>B.gd h v26 true (λK=>K v5 h) λv28 h=>B.gd h v26 true (λK=>K v6 h) λv29 h=>B.gd h v26 true (λK=>B.pv (V.zcp 1 v28 v29) λv=>K v h) λv30 h=>B.gd h v26 true (λK=>B.ld h v30 λv=>K v h) λv31 h=>B.gd h v26 true (λK=>K v1 h) λv32 h=>B.gd h v26 true (λK=>K v6 h) λv33 h=>B.gd h v26 true (λK=>B.pv (V.zcp 1 v32 v33) λv=>K v h) λv34 h=>B.gd h v26 true (λK=>B.ld h v34 λv=>K v h) λv35 h=>B.gd h v26 true (λK=>B.pv (V.bin .eql v31 v35) λv=>K v h) λv36 h=>B.gd h v26 true (λK=>B.pv (V.un .not v36) λv=>K v h) λv37 h=>B.pick v26 v37 (.bool false) λv38=>B.gd h v38 false (λK=>K v6 h) λv40 h=>B.gd h v38 false (λK=>K v1 h) λv41 h=>B.gd h v38 false (λK=>B.pv (V.zcj v41) λv=>K v h) λv42 h=>B.gd h v38 false (λK=>B.pv (V.bin .geq v40 v42) λv=>K v h) λv43 h=>B.gd h v38 false (λK=>K v43 h) λv44 h=>B.gd h v44 true (λK=>K v5 h) λv45 h=>B.gd h v44 true (λK=>K v6 h) λv46 h=>B.gd h v44 true (λK=>B.pv (V.zcp 1 v45 v46) λv=>K v h) λv47 h=>B.gd h v44 true (λK=>B.ld h v47 λv=>K v h) λv48 h=>B.gd h v44 true (λK=>K v6 h) λv49 h=>B.gd h v44 true (λK=>K v1 h) λv50 h=>B.gd h v44 true (λK=>B.pv (V.zcj v50) λv=>K v h) λv51 h=>B.gd h v44 true (λK=>B.pv (V.bin .sub v49 v51) λv=>K v h) λv52 h=>B.gd h v44 true (λK=>B.call C f [(.int .i64 m),v52] h (B.zlb h [(v47,none)] K)) λv53 h=>B.gd h v44 true (λK=>B.pv (V.bin .eql v48 v53) λv=>K v h) λv54 h=>B.gd h v44 true (λK=>B.pv (V.un .not v54) λv=>K v h) λv55 h=>B.gd h v38 false (λK=>B.pick v44 v55 (.bool false) λv=>K v h) λv56 h=>B.pick v38 (.bool true) v56 λv57=>B.cond v57 (Q (.bool false) h) (B.pv (V.bin .add v6 (.int .i64 1)) λv22=>Y1 [v22] h)) (Q (.bool true) h)
@[simp] def ztl.l4(C:z6)(f:Nat)(m:Int)(Q:zQ)(v1 v5:za):zG|[v6],h,Y1=>ztl.k2 C f m Q Y1 v1 v5 v6 h|_,_,_=>False
def ztl(C:z6)(f:Nat)(m:Int)(v0 v1:za)(h:zb)(Q:zQ):Prop:=B.pv (V.zcj v0) λv8=>B.pv (V.zcj v1) λv10=>B.pv (V.bin .neq v8 v10) λv11=>B.cond v11 (Q (.bool false) h) (B.pv (V.zcj v1) λv14=>B.pv (V.bin .add v14 (.int .i64 12)) λv15=>B.pv (V.zjp 1 v0 none (some v15)) λv16=>zq (ztl.l4 C f m Q v1 v16) [(.int .i64 0)] h)
theorem keptS_specL{f:Nat}{m:Int}{mk:Int->T}(s1:∀(i:Int)(h:zb)(Q:zQ),Q (F.c (mk i)) h->C f [.int .i64 m,.int .i64 i] h Q)
  {x y:za} {L M:List T} {R:List (List za)} {h:zb} {Q:zQ} (hx:SlX h 1 x (L.map F.cs) (zhq F mk 12)) (hy:SlX h 1 y (M.map F.cs) R) (hlen:L.length <= 4611686018427387000)
  (hq:Q (.bool (decide (L=M))) h):ztl C f m x y h Q:=by
 have hlx:=hx.zcj;have hly:=hy.zcj;rw[length_map]at hlx hly;simp -dsimp[ztl,hlx,hly];refine B.zbc (λhb=>?_) (λhb=>?_)<;>simp -dsimp at hb ⊢
 ·rw[decide_eq_false λe=>hb (by rw[e])]at hq
  exact hq
 ·have e1:IntKind.i64.wrap ((M.length:Int)+12)=((M.length+12:Nat):Int):=by rw[wrap_i64 (by omega) (by omega)];omega
  obtain⟨z,e2,e3,e4⟩:=hx.slice Nat.one_pos (lo:=0) (hi:=M.length+12) (a:=none) (b:=some (.int .i64 ((M.length+12:Nat):Int))) (.inl ⟨rfl,rfl⟩) (.inr ⟨_,rfl⟩) (by omega) (by simp;omega);have h1:((L.map F.cs++zhq F mk 12).take (M.length+12)).drop 0=L.map F.cs++zhq F mk 12:=by rw[drop_zero,take_of_length_le];simp;omega
  rw[h1]at e3;have hlz:=e3.zcj;simp only[length_append,length_map,cmarks_len]at hlz;simp only[hly,V.zh8,e1,e2,B.ze];refine zq.intro (λn vs hh=>∃k,k+n=L.length+12 /\ vs=[.int .i64 k] /\ hh=h /\ L.take k=M.take k) (L.length+12) ?_ ⟨0,by simp,by simp,rfl,by simp⟩;rintro Y n vs _ ⟨k,hn,rfl,rfl,he⟩ hY;simp -dsimp[hlz];refine B.zbc (λhc=>?_) (λhc=>?_)<;>simp -dsimp at hc ⊢
  ·have hk:k<(L.map F.cs++zhq F mk 12).length:=by simp;omega
   by_cases hkL:k<L.length
   ·have ew:=zg3 hkL
    have eu:=zg3 (L:=M) (k:=k) (by omega);obtain⟨w,hw⟩:=ew;obtain⟨u,hu⟩:=eu;have hk2:k<(M.map F.cs).length:=by simp;omega
    have hkM:k<M.length:=by omega
    have hwz:(L.map F.cs++zhq F mk 12)[k]?=some (F.cs w):=by rw[getElem?_append_left (by simpa using hkL)];exact get_map hw
    by_cases hwu:w=u
    ·subst hwu
     simp -dsimp[hly,hkM,e3.zmd hk,hy.zmd hk2,e3.cell hwz,hy.cell (get_map hu),F.eql,show ¬ M.length <= k by omega,znb (n:=k) (by omega)];refine hY (L.length+12-(k+1)) _ _ (by omega) ⟨k+1,by omega,by simp,rfl,?_⟩;rw[take_succ hw,take_succ hu,he]
    ·simp -dsimp[hly,hkM,e3.zmd hk,hy.zmd hk2,e3.cell hwz,hy.cell (get_map hu),F.eql,hwu]
     rw[decide_eq_false λe=>by subst e;rw[hw]at hu;cases hu;exact hwu rfl]at hq;exact hq
   ·have hkM:¬ k<M.length:=by omega
    have hmk:(L.map F.cs++zhq F mk 12)[k]?=some (F.cs (mk ((k-M.length:Nat):Int))):=by
     rw[getElem?_append_right (by simp;omega),length_map,show k-L.length=k-M.length by omega];exact cmarks_get F mk (by omega)
    have e5:IntKind.i64.wrap ((k:Int)-M.length)=((k-M.length:Nat):Int):=by rw[wrap_i64 (by omega) (by omega)];omega
    simp -dsimp[hly,hkM,e3.zmd hk,e3.cell hmk,show M.length <= k by omega,e5];refine s1 _ _ _ ⟨?_,?_⟩
    ·intro p hp
     rw[mem_singleton.1 hp];exact⟨_,e3.cell hmk,e3.cell hmk⟩
    ·simp[F.eql,znb (n:=k) (by omega)]
     refine hY (L.length+12-(k+1)) _ _ (by omega) ⟨k+1,by omega,by simp,rfl,?_⟩;rw[take_of_length_le (by omega),take_of_length_le (by omega)]at he ⊢;exact he
  ·rw[take_of_length_le (by omega),take_of_length_le (by omega)]at he
   rw[decide_eq_true he]at hq;exact hq
theorem keptS_spec{f:Nat}{m:Int}{mk:Int->T}(s1:∀(i:Int)(h:zb)(Q:zQ),Q (F.c (mk i)) h->C f [.int .i64 m,.int .i64 i] h Q){x y:za}{L M:List T}{R:List (List za)}{h:zb}{Q:zQ}(hx:SlX h 1 x (L.map F.cs) (zhq F mk 12))(hy:SlX h 1 y (M.map F.cs) R)(hlen:L.length <= 100000000)(hq:Q (.bool (decide (L=M))) h):ztl C f m x y h Q:=keptS_specL F s1 hx hy (by omega) hq
end
@[simp] def ztc.k1(C:z6)(es f:Nat)(st:zb->za->za->(zb->Prop)->Prop)(m:Int)(Q:zQ)(Y1:zL)(v2 v3:za)(h:zb):Prop:=B.pv (V.zcj v2) λv11=>B.pv (V.bin .lss v3 v11) λv12=>B.cond v12 (B.call C f [(.int .i64 m),v3] h λv18 h=>B.pv (V.zcp es v2 v3) λv19=>st h v19 v18 λh=>B.pv (V.bin .add v3 (.int .i64 1)) λv14=>Y1 [v14] h) (Q (.tup []) h)
@[simp] def ztc.l3(C:z6)(es f:Nat)(st:zb->za->za->(zb->Prop)->Prop)(m:Int)(Q:zQ)(v2:za):zG|[v3],h,Y1=>ztc.k1 C es f st m Q Y1 v2 v3 h|_,_,_=>False
def ztc(C:z6)(es f:Nat)(st:zb->za->za->(zb->Prop)->Prop)(m:Int)(v0:za)(h:zb)(Q:zQ):Prop:=B.pv (V.zcj v0) λv6=>B.pv (V.bin .add v6 (.int .i64 12)) λv7=>B.pv (V.zjp es v0 none (some v7)) λv8=>zq (ztc.l3 C es f st m Q v8) [(.int .i64 0)] h
theorem overG_specL{es f:Nat}{st:zb->za->za->(zb->Prop)->Prop}{m:Int}(hes:0<es){v:Int->za}(s1:∀(i:Int)(h:zb)(Q:zQ),Q (v i) h->C f [.int .i64 m,.int .i64 i] h Q)
  (s2:∀{h0 h:zb}{x:za}{L R:List (List za)}{i:Nat}{k:Int}{K:zb->Prop},zcy h0 h [.sl es x L R]->i<L.length->(∀h' L',L'.length=L.length->zcy h0 h' [.sl es x L' R]->K h')->st h (elp es x i 0) (v k) K)
  {h0 h:zb} {x:za} {L R:List (List za)} {Q:zQ} (ho:zcy h0 h [.sl es x L R]) (hR:R.length=12) (hlen:L.length <= 4611686018427387000) (hq:∀h',h0.le h'->Q (.tup []) h'):ztc C es f st m x h Q:=by
 have hx:=ho.zhs 0 rfl;have hlx:=hx.zcj;have e1:IntKind.i64.wrap ((L.length:Int)+12)=((L.length+12:Nat):Int):=by rw[wrap_i64 (by omega) (by omega)];omega
 obtain⟨z,e2,e3,e4⟩:=hx.slice hes (lo:=0) (hi:=L.length+12) (a:=none) (b:=some (.int .i64 ((L.length+12:Nat):Int))) (.inl ⟨rfl,rfl⟩) (.inr ⟨_,rfl⟩) (by omega) (by omega);have h1:((L++R).take (L.length+12)).drop 0=L++R:=by rw[drop_zero,take_of_length_le];simp;omega
 rw[h1]at e3;simp only[ztc,hlx,V.zh8,e1,e2,B.ze];have hoz:zcy h0 h [.sl es z (L++R) ((L++R).drop (L.length+12))]:=ho.zh9 0 rfl (o':= .sl es z (L++R) ((L++R).drop (L.length+12))) e3 (λid b hf hb=>ho.ownAt 0 rfl id b (by show zgv x=some id;rw[<-e4];exact hf) hb) (λj b hb _=>hb) (.inl e4);refine zq.intro (λn vs hh=>∃(k:Nat)(L':List (List za)),k+n=L.length+12 /\ vs=[.int .i64 k] /\ L'.length=L.length+12 /\ zcy h0 hh [.sl es z L' ((L++R).drop (L.length+12))]) (L.length+12) ?_ ⟨0,L++R,by simp,by simp,by simp[hR],hoz⟩;rintro Y n vs hh ⟨k,L',hn,rfl,hl',ho'⟩ hY;have hlz:=(ho'.zhs 0 rfl).zcj;rw[hl']at hlz;simp -dsimp[hlz];refine B.zbc (λhc=>?_) (λhc=>?_)<;>simp -dsimp at hc ⊢
 ·have hk:k<L'.length:=by omega
  refine s1 _ _ _ ?_;simp -dsimp only[(ho'.zhs 0 rfl).zmd hk,B.ze];refine s2 ho' hk λh' L2 hl2 ho2=>?_;simp -dsimp[znb (n:=k) (by omega)];exact hY (L.length+12-(k+1)) _ _ (by omega) ⟨k+1,L2,by omega,by simp,by omega,ho2⟩
 ·exact hq _ ho'.le
theorem overG_spec{es f:Nat}{st:zb->za->za->(zb->Prop)->Prop}{m:Int}(hes:0<es){v:Int->za}(s1:∀(i:Int)(h:zb)(Q:zQ),Q (v i) h->C f [.int .i64 m,.int .i64 i] h Q)(s2:∀{h0 h:zb}{x:za}{L R:List (List za)}{i:Nat}{k:Int}{K:zb->Prop},zcy h0 h [.sl es x L R]->i<L.length->(∀h' L',L'.length=L.length->zcy h0 h' [.sl es x L' R]->K h')->st h (elp es x i 0) (v k) K){h0 h:zb}{x:za}{L R:List (List za)}{Q:zQ}(ho:zcy h0 h [.sl es x L R])(hR:R.length=12)(hlen:L.length <= 100000000)(hq:∀h',h0.le h'->Q (.tup []) h'):ztc C es f st m x h Q:=overG_specL hes s1 s2 ho hR (by omega) hq
theorem over_stS{v:za}(hv:v.zdx=true){h0 h:zb}{x:za}{L R:List (List za)}{i:Nat}{K:zb->Prop}(ho:zcy h0 h [.sl 1 x L R])(hi:i<L.length)(hK:∀h' L',L'.length=L.length->zcy h0 h' [.sl 1 x L' R]->K h'):B.st h (elp 1 x i 0) v K:=by
 refine ho.st 0 rfl (c:=L[i]) (by simp[hi]) (by omega) hv λh' ho' _=>hK h' _ (by simp) ho'
def zb.zm0(h:zb)(l:List Ob):zb:=⟨λi=>bif l.any (λo=>o.zgv==some i) then none else h i,by
 obtain⟨n,k⟩:=h.2
 refine⟨n,λi hi=>?_⟩
 show (bif l.any (λo=>o.zgv==some i) then none else h i)=none
 cases l.any (λo=>o.zgv==some i)
 ·exact k i hi
 ·rfl⟩
theorem zuk{h:zb}{l:List Ob}{i:Nat}{o:Ob}(hm:o∈l)(hf:o.zgv=some i):h.zm0 l i=none:=by
 have:(l.any λo=>o.zgv==some i)=true:=any_eq_true.2 ⟨o,hm,by simp[hf]⟩;show (bif l.any (λo=>o.zgv==some i) then none else h i)=none;rw[this];rfl
theorem zo3{h:zb}{l:List Ob}{i:Nat}(hm:∀o∈l,o.zgv≠some i):h.zm0 l i=h i:=by
 have:(l.any λo=>o.zgv==some i)=false:=by
  rw[<-Bool.not_eq_true,any_eq_true];rintro⟨o,h1,h2⟩;exact hm o h1 (by simpa using h2)
 show (bif l.any (λo=>o.zgv==some i) then none else h i)=_;rw[this];rfl
theorem without_le(h:zb)(l:List Ob):(h.zm0 l).le h:=λi b e=>by
 by_cases hm:∃o∈l,o.zgv=some i
 ·obtain⟨o,h1,h2⟩:=hm
  rw[zuk h1 h2]at e;cases e
 ·rw[zo3 λo h1 h2=>hm ⟨o,h1,h2⟩]at e;exact e
theorem zcy.out{h0 h:zb}{l1 l2:List Ob}(ho:zcy h0 h (l1++l2)):zcy h0 (h.zm0 l2) l1 /\ zcy (h.zm0 l2) h l2:=by
 obtain⟨a1,a2,a3⟩:=pairwise_append.1 ho.apart;have h1:h0.le (h.zm0 l2):=λi b e=>by
  rw[zo3 λo hm hf=>by rw[(ho.own o (mem_append_right _ hm) i hf).1]at e;cases e];exact ho.le i b e
 have zia:∀o∈l1,∀id,o.zgv=some id->(h.zm0 l2) id=h id:=λo hm id hf=>zo3 λo2 hm2 hf2=>a3 o hm o2 hm2 id hf hf2
 refine⟨⟨h1,λo hm=>(ho.is o (mem_append_left _ hm)).zia λid b hf hb=>by rw[zia o hm id hf];exact hb,λo hm id hf=>?_,a1⟩,
  ⟨without_le h l2,λo hm=>ho.is o (mem_append_right _ hm),λo hm id hf=>⟨zuk hm hf,(ho.own o (mem_append_right _ hm) id hf).2⟩,a2⟩⟩
 obtain⟨b1,b2⟩:=ho.own o (mem_append_left _ hm) id hf;exact⟨b1,λb hb=>b2 b (by rw[<-zia o hm id hf];exact hb)⟩
theorem zcy.perm{h0 h:zb}{l l':List Ob}(ho:zcy h0 h l)(hp:l.Perm l'):zcy h0 h l':=⟨ho.le,λo hm=>ho.is o (hp.mem_iff.2 hm),λo hm=>ho.own o (hp.mem_iff.2 hm),(hp.pairwise_iff λ{a b} hab id hb ha=>hab id ha hb).1 ho.apart⟩
theorem elS{bytes f:Nat}{z:za}{mv:Int->Int->za}(hc:∀k i,(mv k i).zdx=true)(he:∀k i,V.bin .eql (mv k i) (mv k i)=some (.bool true))(hb:bytes <= 1000)(s1:∀(k i:Int)(h:zb)(Q:zQ),Q (mv k i) h->C f [.int .i64 k,.int .i64 i] h Q):
  zt5 C (zdd bytes z f) (λk i=>[mv k i]) mv where
 pos:=Nat.one_pos
 small:=hb
 len _ _:=rfl
 zlen:=rfl
 new k i:=by simp[zdd,hc,zhu]
 call:=s1
 ld hs hc hk:=by
  simp only[zdd,B.zeo]at hs ⊢;rw[hs.cell hc];exact hk
 kpt hs hc:=⟨_,hs.cell hc⟩
 st {h x L R i c k j K} hs hown hcc hk:=by
  have hs':SlX h 1 x L R:=hs;have hcl:c.length=1:=hs'.len c (mem_append_left _ (mem_of_getElem? hcc));obtain⟨u,rfl⟩:=length_eq_one_iff.1 hcl;exact hs'.st hown hcc (by omega) (hc _ _) hk
 eq hk:=by simp only[zdd,he,B.ze];exact hk
structure Part where
 Item:List UInt8
 Qty:Int
 deriving DecidableEq
theorem u8_eq(a b:UInt8):decide ((a.toNat:Int)=b.toNat)=decide (a=b):=by
 rw[decide_eq_decide];constructor
 ·intro h;exact UInt8.toNat_inj.1 (by omega)
 ·intro h;rw[h]
def bS:Scal UInt8 where
 c b:= .int .u8 b.toNat
 cell _:=rfl
 eql a b:=by rw[V.zhr,u8_eq]
 neq a b:=by rw[V.bin_neq,u8_eq]
abbrev bc:UInt8->List za:=bS.cs
def tS:Scal (List UInt8) where
 c b:= .str b
 cell _:=rfl
 eql a b:=by rw[V.zso]
 neq a b:=by rw[V.bin_sneq]
abbrev tc:List UInt8->List za:=tS.cs
def iS:Scal Int where
 c b:= .int .i64 b
 cell _:=rfl
 eql a b:=by rw[V.zhr]
 neq a b:=by rw[V.bin_neq]
theorem wrap_u8(n:Int):IntKind.u8.wrap n=n % 256:=by
 simp[IntKind.wrap,IntKind.bits,IntKind.signed]
def byt(m:Int):UInt8:=UInt8.ofNat (m % 256).toNat
theorem byt_nat(m:Int):((byt m).toNat:Int)=m % 256:=by
 have h1:=Int.emod_nonneg m (show (256:Int)≠0 by omega);have h2:=Int.emod_lt_of_pos m (show (0:Int)<256 by omega);simp[byt];omega
theorem u8_byt(m:Int):IntKind.u8.wrap m=((byt m).toNat:Int):=by rw[wrap_u8,byt_nat]
theorem bin_shr{k j:IntKind}{a b:Int}(h0:0 <= b)(h1:b<k.bits):V.bin .shr (.int k a) (.int j b)=some (.int k (a.fdiv (2 ^ b.toNat))):=by
 simp only[V.bin,V.shift];rw[if_neg (by omega),Nat.min_eq_left (by omega)]
theorem wrap_u64(n:Int):IntKind.u64.wrap n=n % 18446744073709551616:=by
 simp[IntKind.wrap,IntKind.bits,IntKind.signed]
theorem zve:∀s:List UInt8,V.zk5 (s.map bc).flatten=some s
 | []=>rfl
 | a::r=>by
  have:=zve r
  simp only[map_cons,flatten_cons,cons_append,nil_append]at this ⊢
  simp only[V.zk5,this]
  simp[V.byteOf?,bS]
theorem bytesStr_bc{h:zb}{x:za}{s:List UInt8}{R:List (List za)}(hx:SlX h 1 x (s.map bc) R)(K:za->Prop):(B.zfj h x K:Prop)=K (.str s):=by
 have h1:=hx.zhk;have h2:=hx.rdv;rw[length_map]at h1 h2;simp only[B.zfj,A.zfj,h1,h2,zve]
theorem arg_sliceP{T:Type}{H:zb}{bytes es:Nat}{e:Ty}{v:za}(cs:T->List za)(P:T->Prop)(hd:∀p,zjz H e p->∃t,p=cs t /\ P t)(h:zjz H (.sl bytes es e) [v]):
  ∃L:List T,SlIs H es v (L.map cs) /\ L.length*bytes <= reach /\ ∀t∈L,P t:=by
 obtain⟨L,h1,h2⟩:=arg_slice (T:={ t:T // P t }) (λt=>cs t.1) (λp hp=>by obtain⟨t,e,k⟩:=hd p hp;exact⟨⟨t,k⟩,e⟩) h;refine⟨L.map (·.1),?_,by simpa using h2,λt ht=>?_⟩
 ·rw[map_map];exact h1
 ·obtain⟨u,_,rfl⟩:=mem_map.1 ht;exact u.2
def cA:Code->Code | .seq a _=>a | .cond _ a _=>a | .block _ b=>b | .loop b=>b | .scope b=>b|_=> .skip
def cB:Code->Code | .seq _ b=>b | .cond _ _ b=>b|_=> .skip
def cI:Code->Nat | .block i _=>i|_=>0
def isS:Code->Bool | .seq _ _=>true|_=>false
def isC(t:Nat):Code->Bool | .cond (.tmp k) _ _=>Nat.beq k t|_=>false
def isK:Code->Bool | .block _ _=>true|_=>false
def rA:Code->Code | .rangeFunc _ _ a b=> .seq a b|_=> .skip
def isR(t:Nat)(ps zia:List Nat):Code->Bool | .rangeFunc (.tmp k) qs a b=>Nat.beq k t&&(zrk qs.toList ps&&(zl0 a&&zia.all λk=>zih (zr6 qs.toList a b) k&& !zih ps k))|_=>false
def isL:Code->Bool | .loop _=>true|_=>false
section
variable{P:Program}{C:z6}{I:Bx}
theorem eS(hC:zj8 C){c:Code}{Q:Ex->zbr->zb->Prop}{s:zbr}{h:zb}(X:zbr->zb->Prop)(ha:bwp P C I (cA c) (Ex.then X Q) s h)(hb:∀s h,X s h->bwp P C I (cB c) Q s h)(hk:isS c=true:=by kernel_rfl):bwp P C I c Q s h:=by
 cases c<;>first|exact seqB hC rfl hb ha|cases hk
theorem eC{c:Code}{Q:Ex->zbr->zb->Prop}{p q:Prop}{s:zbr}{h:zb}(t:Nat)(hr:A.cond (s t) p q)(hx:p->bwp P C I (cA c) Q s h)(hy:q->bwp P C I (cB c) Q s h)(hk:isC t c=true:=by kernel_rfl):bwp P C I c Q s h:=by
 cases c with
 | cond o x y=>
  cases o with
  | tmp k=>
   have e:k=t:=Nat.eq_of_beq_eq_true hk;subst e;exact condB rfl hx hy hr
  | _=>cases hk
 | _=>cases hk
theorem eK{c:Code}{Q:Ex->zbr->zb->Prop}{s:zbr}{h:zb}(hb:bwp P C I (cA c) (Ex.inBlock (cI c) Q) s h)(hk:isK c=true:=by kernel_rfl):bwp P C I c Q s h:=by
 cases c<;>first|exact hb|cases hk
theorem eL(hC:zj8 C){c:Code}{Q:Ex->zbr->zb->Prop}{s:zbr}{h:zb}(zia live:List Nat)(G:List za->zG)
  (hr:zq (G (zia.map s)) (live.map s) h)
  (hG:∀(Y:zL)(s:zbr)(h:zb),G (zia.map s) (live.map s) h Y->bwp P C I (cA c) (Ex.then (λs h=>Y (live.map s) h) Q) s h)
  (hk:isL c=true:=by kernel_rfl) (hw:(zia.all λk=> !zih (zhi P I (cA c)) k)=true:=by kernel_rfl):bwp P C I c Q s h:=by
 cases c<;>first|exact loopB hC zia live rfl hw hG hr|cases hk
theorem rk_nil{Q:Ex->zbr->zb->Prop}{s:zbr}:∀j h,RK [] j h->Q (unj j) s h:=λ_ _ x=>x.elim
theorem rk_cons{Q:Ex->zbr->zb->Prop}{s:zbr}{k:Nat}{p:zb->Prop}{r:List (Nat×(zb->Prop))}(h1:∀h,p h->Q (unj k) s h)(h2:∀j h,RK r j h->Q (unj j) s h):∀j h,RK ((k,p)::r) j h->Q (unj j) s h:=by
 rintro j h (⟨rfl,x⟩|x)
 ·exact h1 h x
 ·exact h2 j h x
theorem e0{q p:Prop}(hR:p)(e:q=p:=by kernel_rfl):q:=e.mpr hR
theorem natsEq_eq:∀{a b:List Nat},zrk a b=true->a=b
 | [],[],_=>rfl
 | x::a,y::b,h=>by
  simp only[zrk,Bool.and_eq_true]at h
  rw[Nat.eq_of_beq_eq_true h.1,natsEq_eq h.2]
theorem isR_spec{t:Nat}{ps zia:List Nat}{c:Code}(h:isR t ps zia c=true):∃qs a b,c= .rangeFunc (.tmp t) qs a b /\ qs.toList=ps /\ zl0 a=true /\ ∀k∈zia,zih (zr6 ps a b) k=true /\ zih ps k=false:=by
 cases c<;>(try cases h);rename_i g qs a b;cases g<;>(try cases h);rename_i k;simp only[isR,Bool.and_eq_true,all_eq_true,Bool.not_eq_true']at h;obtain⟨h1,h2,h3,h4⟩:=h;have e1:=Nat.eq_of_beq_eq_true h1;have e2:=natsEq_eq h2;subst e1 e2;exact⟨qs,a,b,rfl,rfl,h3,h4⟩
theorem mem_memB:∀{l:List Nat}{k:Nat},k∈l->zih l k=true
 | x::r,k,h=>by
  simp only[zih]
  rcases mem_cons.1 h with rfl|h
  ·rw[Nat.beq_refl];rfl
  ·rw[mem_memB h];cases Nat.beq x k<;>rfl
theorem keep_setPs{ps zia:List Nat}{a b:Code}{s:zbr}(xs:List za)(hk:∀k∈zia,zih (zr6 ps a b) k=true /\ zih ps k=false):zia.map (zn2 ps xs (zt6 (zr6 ps a b) s))=zia.map s:=by
 refine map_congr_left λk hk'=>?_;obtain⟨h1,h2⟩:=hk k hk';rw[zo7 λp hp e=>by subst e;rw[mem_memB hp]at h2;cases h2];simp only[zt6,h1,cond_true]
theorem eR1(hC:zj8 C){c:Code}{Q:Ex->zbr->zb->Prop}{s:zbr}{h:zb}(t p:Nat)(zia:List Nat)(G:List za->za->zb->(Nat->zb->Prop)->Prop){K:Nat->zb->Prop}
  (hr:zrx C (s t) (W1 (G (zia.map s))) h K) (hK:∀j h,K j h->Q (unj j) s h)
  (hW:∀(E:Nat->zb->Prop)(s:zbr)(h:zb),G (zia.map s) (s p) h E->bwp P C I (rA c) (λe _ h2=>E (jn e) h2) s h)
  (hk:isR t [p] zia c=true:=by kernel_rfl):bwp P C I c Q s h:=by
 obtain⟨qs,a,b,rfl,hq,h1,h2⟩:=isR_spec hk;refine rangeB hC rfl h1 hr hK λxs h E w=>?_
 match xs,w with
 | [x],w=>
  refine⟨by rw[<-Array.length_toList,hq];rfl,?_⟩;rw[hq];refine hW E _ h ?_;rw[keep_setPs [x] h2];have:zn2 [p] [x] (zt6 (zr6 [p] a b) s) p=x:=by simp only[zn2,zfg,Nat.beq_refl,cond_true]
  rw[this];exact w
theorem e1{c:Code}{Q:Ex->zbr->zb->Prop}{s:zbr}{h:zb}{p:Prop}(hR:p)(e:bwp P C I c Q s h=p:=by kernel_rfl):bwp P C I c Q s h:=e.mpr hR
theorem eF(hm:P.follows .mixedOrders=true){f:FuncId}{fn:Func}{c:Code}{I:Bx}{args:List za}{h:zb}{Q:zQ}
  (hx:zj8 (AC P)→bwp P (AC P) I c (retB P I fn.results.toList (dn Q)) (zbx args) h) (hf:P.funcs[f]? =some fn:=by kernel_rfl) (hb:fn.body=some c:=by kernel_rfl) (h1:(fn.name== "runtime.NumGoroutine")=false:=by kernel_rfl)
  (hc:zj3 fn.ntmps c=true:=by kernel_rfl) (hne:Nat.beq f zmz=false:=by kernel_rfl) (hl:Nat.ble args.length fn.ntmps=true:=by kernel_rfl) (hB:Nat.ble args.length I.B=true:=by kernel_rfl) (hk:chkC P I c=true:=by kernel_rfl):AC P f args h Q:=
 AC_drop (AC_introB hm hf hb (zoz hf (by rw[hb];rfl) h1) hc hne (Nat.le_of_ble_eq_true hl) (Nat.le_of_ble_eq_true hB) hk (hx (AC_cmono P)))
end
@[simp] def zgs.cps(C:z6)(N:zN)(a b:za)(h:zb)(Q:zQ):Prop:=B.pv (V.bin .add a (.int .i64 7)) λc=>B.pv (V.bin .mul (.int .i64 1000003) c) λd=>B.pv (V.bin .add d b) λe=>Q e h
variable(C:z6)(N:Nat→Nat)
def zgs.Imp:Prop:=im2 C (N 20) (zgs.cps C N)
@[simp] def zeh.k1(Q:zQ)(a:za)(h:zb):Prop:=B.nilCheck a λv4=>B.pv (V.fieldAddr 0 v4) λv5=>B.ld h v5 λv6=>B.call C (N 80) [v6] h λy h=>B.gd h y true (λK=>K a h) λv9 h=>B.gd h y true (λK=>B.nilCheck v9 λv=>K v h) λbv h=>B.gd h y true (λK=>B.pv (V.fieldAddr 1 bv) λv=>K v h) λbw h=>B.gd h y true (λK=>B.ld h bw λv=>K v h) λbx h=>B.gd h y true (λK=>B.call C (N 81) [bx] h K) λbz h=>B.pick y bz (.bool false) λk=>B.gd h k true (λK=>K a h) λca h=>B.gd h k true (λK=>B.nilCheck ca λv=>K v h) λcb h=>B.gd h k true (λK=>B.pv (V.fieldAddr 2 cb) λv=>K v h) λcc h=>B.gd h k true (λK=>B.ld h cc λv=>K v h) λcd h=>B.gd h k true (λK=>B.call C (N 82) [cd] h K) λce h=>B.pick k ce (.bool false) λl=>B.gd h l true (λK=>K a h) λcf h=>B.gd h l true (λK=>B.nilCheck cf λv=>K v h) λcg h=>B.gd h l true (λK=>B.pv (V.fieldAddr 3 cg) λv=>K v h) λch h=>B.gd h l true (λK=>B.ld h ch λv=>K v h) λci h=>B.gd h l true (λK=>B.call C (N 83) [ci] h K) λcj h=>B.pick l cj (.bool false) λm=>B.gd h m true (λK=>K a h) λck h=>B.gd h m true (λK=>B.nilCheck ck λv=>K v h) λcl h=>B.gd h m true (λK=>B.pv (V.fieldAddr 4 cl) λv=>K v h) λcm h=>B.gd h m true (λK=>B.ld h cm λv=>K v h) λcn h=>B.gd h m true (λK=>B.call C (N 84) [cn] h K) λco h=>B.pick m co (.bool false) λn=>B.gd h n true (λK=>K a h) λcp h=>B.gd h n true (λK=>B.nilCheck cp λv=>K v h) λcq h=>B.gd h n true (λK=>B.pv (V.fieldAddr 5 cq) λv=>K v h) λcr h=>B.gd h n true (λK=>B.ld h cr λv=>K v h) λcs h=>B.gd h n true (λK=>B.call C (N 85) [cs] h K) λct h=>B.pick n ct (.bool false) λo=>B.gd h o true (λK=>K a h) λcu h=>B.gd h o true (λK=>B.nilCheck cu λv=>K v h) λcv h=>B.gd h o true (λK=>B.pv (V.fieldAddr 6 cv) λv=>K v h) λcw h=>B.gd h o true (λK=>B.ld h cw λv=>K v h) λcx h=>B.gd h o true (λK=>B.call C (N 86) [cx] h K) λcy h=>B.pick o cy (.bool false) λp=>B.gd h p true (λK=>K a h) λcz h=>B.gd h p true (λK=>B.nilCheck cz λv=>K v h) λda h=>B.gd h p true (λK=>B.pv (V.fieldAddr 7 da) λv=>K v h) λdb h=>B.gd h p true (λK=>B.ld h db λv=>K v h) λdc h=>B.gd h p true (λK=>B.call C (N 87) [dc] h K) λdd h=>B.pick p dd (.bool false) λq=>B.gd h q true (λK=>K a h) λde h=>B.gd h q true (λK=>B.nilCheck de λv=>K v h) λdf h=>B.gd h q true (λK=>B.pv (V.fieldAddr 8 df) λv=>K v h) λdg h=>B.gd h q true (λK=>B.ld h dg λv=>K v h) λdh h=>B.gd h q true (λK=>B.call C (N 88) [dh] h K) λdi h=>B.pick q di (.bool false) λr=>B.gd h r true (λK=>K a h) λdj h=>B.gd h r true (λK=>B.nilCheck dj λv=>K v h) λdk h=>B.gd h r true (λK=>B.pv (V.fieldAddr 9 dk) λv=>K v h) λdl h=>B.gd h r true (λK=>B.ld h dl λv=>K v h) λdm h=>B.gd h r true (λK=>B.call C (N 89) [dm] h K) λdn h=>B.pick r dn (.bool false) λs=>B.gd h s true (λK=>K a h) λdp h=>B.gd h s true (λK=>B.nilCheck dp λv=>K v h) λdq h=>B.gd h s true (λK=>B.pv (V.fieldAddr 10 dq) λv=>K v h) λdr h=>B.gd h s true (λK=>B.ld h dr λv=>K v h) λds h=>B.gd h s true (λK=>B.call C (N 90) [ds] h K) λdt h=>B.pick s dt (.bool false) λt=>B.gd h t true (λK=>K a h) λdu h=>B.gd h t true (λK=>B.nilCheck du λv=>K v h) λdv h=>B.gd h t true (λK=>B.pv (V.fieldAddr 11 dv) λv=>K v h) λdw h=>B.gd h t true (λK=>B.ld h dw λv=>K v h) λdx h=>B.gd h t true (λK=>B.call C (N 91) [dx] h K) λdy h=>B.pick t dy (.bool false) λu=>B.gd h u true (λK=>K a h) λdz h=>B.gd h u true (λK=>B.nilCheck dz λv=>K v h) λea h=>B.gd h u true (λK=>B.pv (V.fieldAddr 12 ea) λv=>K v h) λeb h=>B.gd h u true (λK=>B.ld h eb λv=>K v h) λec h=>B.gd h u true (λK=>B.call C (N 92) [ec] h K) λed h=>B.pick u ed (.bool false) λw=>B.gd h w true (λK=>K a h) λee h=>B.gd h w true (λK=>B.nilCheck ee λv=>K v h) λef h=>B.gd h w true (λK=>B.pv (V.fieldAddr 13 ef) λv=>K v h) λeg h=>B.gd h w true (λK=>B.ld h eg λv=>K v h) λeh h=>B.gd h w true (λK=>B.call C (N 93) [eh] h K) λei h=>B.pick w ei (.bool false) λx=>B.gd h x true (λK=>K a h) λz h=>B.gd h x true (λK=>B.nilCheck z λv=>K v h) λaa h=>B.gd h x true (λK=>B.pv (V.fieldAddr 14 aa) λv=>K v h) λab h=>B.gd h x true (λK=>B.ld h ab λv=>K v h) λac h=>B.gd h x true (λK=>B.call C (N 94) [ac] h K) λad h=>B.pick x ad (.bool false) λb=>B.gd h b true (λK=>K a h) λae h=>B.gd h b true (λK=>B.nilCheck ae λv=>K v h) λaf h=>B.gd h b true (λK=>B.pv (V.fieldAddr 15 af) λv=>K v h) λag h=>B.gd h b true (λK=>B.ld h ag λv=>K v h) λah h=>B.gd h b true (λK=>B.call C (N 95) [ah] h K) λai h=>B.pick b ai (.bool false) λc=>B.gd h c true (λK=>K a h) λaj h=>B.gd h c true (λK=>B.nilCheck aj λv=>K v h) λak h=>B.gd h c true (λK=>B.pv (V.fieldAddr 16 ak) λv=>K v h) λal h=>B.gd h c true (λK=>B.ld h al λv=>K v h) λam h=>B.gd h c true (λK=>B.call C (N 96) [am] h K) λan h=>B.pick c an (.bool false) λd=>B.gd h d true (λK=>K a h) λao h=>B.gd h d true (λK=>B.nilCheck ao λv=>K v h) λap h=>B.gd h d true (λK=>B.pv (V.fieldAddr 17 ap) λv=>K v h) λaq h=>B.gd h d true (λK=>B.ld h aq λv=>K v h) λar h=>B.gd h d true (λK=>B.call C (N 97) [ar] h K) λau h=>B.pick d au (.bool false) λe=>B.gd h e true (λK=>K a h) λav h=>B.gd h e true (λK=>B.nilCheck av λv=>K v h) λaw h=>B.gd h e true (λK=>B.pv (V.fieldAddr 18 aw) λv=>K v h) λax h=>B.gd h e true (λK=>B.ld h ax λv=>K v h) λay h=>B.gd h e true (λK=>B.call C (N 98) [ay] h K) λaz h=>B.pick e az (.bool false) λf=>B.gd h f true (λK=>K a h) λba h=>B.gd h f true (λK=>B.nilCheck ba λv=>K v h) λbb h=>B.gd h f true (λK=>B.pv (V.fieldAddr 19 bb) λv=>K v h) λbc h=>B.gd h f true (λK=>B.ld h bc λv=>K v h) λbd h=>B.gd h f true (λK=>B.call C (N 99) [bd] h K) λbe h=>B.pick f be (.bool false) λg=>B.gd h g true (λK=>K a h) λbf h=>B.gd h g true (λK=>B.nilCheck bf λv=>K v h) λbg h=>B.gd h g true (λK=>B.pv (V.fieldAddr 20 bg) λv=>K v h) λbh h=>B.gd h g true (λK=>B.ld h bh λv=>K v h) λbi h=>B.gd h g true (λK=>B.call C (N 100) [bi] h K) λbj h=>B.pick g bj (.bool false) λi=>B.gd h i true (λK=>K a h) λbk h=>B.gd h i true (λK=>B.nilCheck bk λv=>K v h) λbl h=>B.gd h i true (λK=>B.pv (V.fieldAddr 21 bl) λv=>K v h) λbm h=>B.gd h i true (λK=>B.ld h bm λv=>K v h) λbn h=>B.gd h i true (λK=>B.call C (N 101) [bn] h K) λbo h=>B.pick i bo (.bool false) λj=>B.gd h j true (λK=>K a h) λbp h=>B.gd h j true (λK=>B.nilCheck bp λv=>K v h) λbq h=>B.gd h j true (λK=>B.pv (V.fieldAddr 22 bq) λv=>K v h) λbr h=>B.gd h j true (λK=>B.ld h br λv=>K v h) λbs h=>B.gd h j true (λK=>B.call C (N 102) [bs] h K) λbt h=>B.pick j bt (.bool false) λbu=>Q bu h
@[simp] def zeh.cps(a:za)(h:zb)(Q:zQ):Prop:=zeh.k1 C N Q a h
def zeh.Imp:Prop:=im1 C (N 62) (zeh.cps C N)
@[simp] def zl.k1(Q:zQ)(Y1:zL)(Y2:zL)(v0 v5 b c:za)(h:zb):Prop:=B.pv (V.zcp 1 v0 b) λi=>B.ld h i λj=>B.pv (V.zcj j) λk=>B.pv (V.bin .lss c k) λl=>B.cond l (B.pv (V.zcp 1 v0 b) λd=>B.ld h d λm=>B.pv (V.zcp 1 m c) λe=>B.ld h e λn=>B.call C (N 20) [b,c] h (B.zlb h [(d,none),(e,none)] (λo h=>B.pv (V.bin .eql n o) λp=>B.pv (V.un .not p) λa=>B.gd h a false (λK=>K v5 h) λq h=>B.gd h a false (λK=>K b h) λr h=>B.gd h a false (λK=>B.pv (V.zcp 1 q r) λv=>K v h) λf h=>B.gd h a false (λK=>B.ld h f λv=>K v h) λs h=>B.gd h a false (λK=>K c h) λt h=>B.gd h a false (λK=>B.pv (V.zcp 1 s t) λv=>K v h) λg h=>B.gd h a false (λK=>B.ld h g λv=>K v h) λu h=>B.gd h a false (λK=>K b h) λw h=>B.gd h a false (λK=>K c h) λx h=>B.gd h a false (λK=>B.call C (N 20) [w,x] h (B.zlb h [(f,none),(g,none)] K)) λy h=>B.gd h a false (λK=>B.pv (V.bin .eql u y) λv=>K v h) λz h=>B.gd h a false (λK=>B.pv (V.un .not z) λv=>K v h) λaa h=>B.pick a (.bool true) aa λab=>B.cond ab (Q (.bool false) h) (B.pv (V.bin .add c (.int .i64 1)) λac=>Y2 [ac] h)))) (B.pv (V.bin .add b (.int .i64 1)) λad=>Y1 [ad] h)
@[simp] def zl.l2(Q:zQ)(Y1:zL)(c d a:za):zG|[b],h,Y2=>zl.k1 C N Q Y1 Y2 c d a b h|_,_,_=>False
@[simp] def zl.k3(Q:zQ)(Y1:zL)(d e a:za)(h:zb):Prop:=B.pv (V.zcj d) λb=>B.pv (V.bin .lss a b) λc=>B.cond c (zq (zl.l2 C N Q Y1 d e a) [(.int .i64 0)] h) (Q (.bool true) h)
@[simp] def zl.l4(Q:zQ)(b c:za):zG|[a],h,Y1=>zl.k3 C N Q Y1 b c a h|_,_,_=>False
@[simp] def zl.k5(C:z6)(N:zN)(Q:zQ)(Y3:zL)(i j a g:za)(h:zb):Prop:=B.pv (V.zcp 1 i a) λb=>B.ld h b λc=>B.zjc h 1 8 c g λd h=>B.pv (V.zcp 1 j a) λe=>B.st h e d λh=>B.pv (V.bin .add a (.int .i64 1)) λf=>Y3 [f] h
@[simp] def zl.k6(Q:zQ)(Y3:zL)(Y4:zL)(k l b c a:za)(h:zb):Prop:=B.pv (V.bin .lss a (.int .i64 64)) λd=>B.cond d (B.pv (V.zcj k) λe=>B.pv (V.bin .add b e) λf=>B.call C (N 20) [f,a] h λg h=>B.pv (V.zcp 1 c a) λi=>B.st h i g λh=>B.pv (V.bin .add a (.int .i64 1)) λj=>Y4 [j] h) (zl.k5 C N Q Y3 k l b c h)
@[simp] def zl.l7(Q:zQ)(Y3:zL)(d e a b:za):zG|[c],h,Y4=>zl.k6 C N Q Y3 Y4 d e a b c h|_,_,_=>False
@[simp] def zl.k8(Q:zQ)(Y3:zL)(b f a:za)(h:zb):Prop:=B.pv (V.zcj b) λc=>B.pv (V.bin .lss a c) λd=>B.cond d (0<1 /\ B.mks h 8 (some [.int .i64 0]) (.int .i64 64) (.int .i64 64) λe h=>zq (zl.l7 C N Q Y3 b f a e) [(.int .i64 0)] h) (zq (zl.l4 C N Q b f) [(.int .i64 0)] h)
@[simp] def zl.l9(Q:zQ)(b c:za):zG|[a],h,Y3=>zl.k8 C N Q Y3 b c a h|_,_,_=>False
@[simp] def zl.k10(Q:zQ)(Y5:zL)(Y6:zL)(v0 v5 d c:za)(h:zb):Prop:=B.pv (V.zcp 1 v5 d) λaf=>B.ld h af λag=>B.pv (V.zcj ag) λah=>B.pv (V.bin .lss c ah) λai=>B.cond ai (B.pv (V.zcp 1 v5 d) λg=>B.ld h g λaj=>B.pv (V.zcp 1 aj c) λi=>B.ld h i λak=>B.call C (N 20) [d,c] h (B.zlb h [(g,none),(i,none)] (λal h=>B.pv (V.bin .eql ak al) λam=>B.pv (V.un .not am) λb=>B.gd h b false (λK=>K c h) λj h=>B.gd h b false (λK=>K v0 h) λk h=>B.gd h b false (λK=>K d h) λl h=>B.gd h b false (λK=>B.pv (V.zcp 1 k l) λv=>K v h) λm h=>B.gd h b false (λK=>B.ld h m λv=>K v h) λn h=>B.gd h b false (λK=>B.pv (V.zcj n) λv=>K v h) λo h=>B.gd h b false (λK=>B.pv (V.bin .lss j o) λv=>K v h) λp h=>B.gd h b false (λK=>K p h) λa h=>B.gd h a true (λK=>K v0 h) λq h=>B.gd h a true (λK=>K d h) λr h=>B.gd h a true (λK=>B.pv (V.zcp 1 q r) λv=>K v h) λe h=>B.gd h a true (λK=>B.ld h e λv=>K v h) λs h=>B.gd h a true (λK=>K c h) λt h=>B.gd h a true (λK=>B.pv (V.zcp 1 s t) λv=>K v h) λf h=>B.gd h a true (λK=>B.ld h f λv=>K v h) λu h=>B.gd h a true (λK=>K d h) λw h=>B.gd h a true (λK=>K c h) λx h=>B.gd h a true (λK=>B.call C (N 20) [w,x] h (B.zlb h [(e,none),(f,none)] K)) λy h=>B.gd h a true (λK=>B.pv (V.bin .eql u y) λv=>K v h) λz h=>B.gd h a true (λK=>B.pv (V.un .not z) λv=>K v h) λaa h=>B.gd h b false (λK=>B.pick a aa (.bool false) λv=>K v h) λab h=>B.pick b (.bool true) ab λac=>B.cond ac (Q (.bool false) h) (B.pv (V.bin .add c (.int .i64 1)) λan=>Y6 [an] h)))) (B.pv (V.bin .add d (.int .i64 1)) λao=>Y5 [ao] h)
@[simp] def zl.l11(Q:zQ)(Y5:zL)(b c d:za):zG|[a],h,Y6=>zl.k10 C N Q Y5 Y6 b c d a h|_,_,_=>False
@[simp] def zl.k12(Q:zQ)(Y5:zL)(a b c:za)(h:zb):Prop:=B.pv (V.zcj a) λd=>B.pv (V.bin .lss c d) λe=>B.cond e (zq (zl.l11 C N Q Y5 a b c) [(.int .i64 0)] h) (zq (zl.l9 C N Q a b) [(.int .i64 0)] h)
@[simp] def zl.l13(Q:zQ)(a b:za):zG|[c],h,Y5=>zl.k12 C N Q Y5 a b c h|_,_,_=>False
@[simp] def zl.k14(Q:zQ)(Y7:zL)(Y8:zL)(p q a c b:za)(h:zb):Prop:=B.pv (V.bin .lss b (.int .i64 64)) λd=>B.cond d (B.pv (V.zcp 1 p a) λe=>B.ld h e λf=>B.pv (V.zcj f) λg=>B.pv (V.bin .add g b) λi=>B.call C (N 20) [a,i] h λj h=>B.zha h (zeu [(0,none,j)] (zhu 1 [.int .i64 0])) λk h=>B.zjc h 1 8 c (.sl k 0 0 1 1 1) λl h=>B.pv (V.bin .add b (.int .i64 1)) λm=>Y8 [l,m] h) (B.pv (V.zcp 1 q a) λn=>B.st h n c λh=>B.pv (V.bin .add a (.int .i64 1)) λo=>Y7 [o] h)
@[simp] def zl.l15(Q:zQ)(Y7:zL)(a b c:za):zG|[d,e],h,Y8=>zl.k14 C N Q Y7 Y8 a b c d e h|_,_,_=>False
@[simp] def zl.k16(Q:zQ)(Y7:zL)(a c b:za)(h:zb):Prop:=B.pv (V.zcj a) λd=>B.pv (V.bin .lss b d) λe=>B.cond e (B.pv (V.zcp 1 a b) λf=>B.ld h f λg=>zq (zl.l15 C N Q Y7 a c b) [g,(.int .i64 0)] h) (zq (zl.l13 C N Q a c) [(.int .i64 0)] h)
@[simp] def zl.l17(Q:zQ)(a b:za):zG|[c],h,Y7=>zl.k16 C N Q Y7 a b c h|_,_,_=>False
@[simp] def zl.k18(Q:zQ)(Y9:zL)(Y10:zL)(d a b:za)(h:zb):Prop:=B.pv (V.zcp 1 d a) λe=>B.ld h e λf=>B.pv (V.zcj f) λg=>B.pv (V.bin .lss b g) λi=>B.cond i (B.pv (V.zcp 1 d a) λc=>B.ld h c λj=>B.call C (N 20) [a,b] h (B.zlb h [(c,none)] (λk h=>B.pv (V.zcp 1 j b) λl=>B.st h l k λh=>B.pv (V.bin .add b (.int .i64 1)) λm=>Y10 [m] h))) (B.pv (V.bin .add a (.int .i64 1)) λn=>Y9 [n] h)
@[simp] def zl.l19(Q:zQ)(Y9:zL)(a b:za):zG|[c],h,Y10=>zl.k18 C N Q Y9 Y10 a b c h|_,_,_=>False
@[simp] def zl.k20(Q:zQ)(Y9:zL)(a c:za)(h:zb):Prop:=B.pv (V.zcj a) λd=>B.pv (V.bin .lss c d) λe=>B.cond e (zq (zl.l19 C N Q Y9 a c) [(.int .i64 0)] h) (B.pv (V.zcj a) λb=>0<1 /\ B.mks h 24 (some [.zdo]) b b λf h=>zq (zl.l17 C N Q a f) [(.int .i64 0)] h)
@[simp] def zl.l21(Q:zQ)(a:za):zG|[b],h,Y9=>zl.k20 C N Q Y9 a b h|_,_,_=>False
@[simp] def zl.cps(a:za)(h:zb)(Q:zQ):Prop:=zq (zl.l21 C N Q a) [(.int .i64 0)] h
def zl.Imp:Prop:=im1 C (N 82) (zl.cps C N)
def zet.cps(a:za)(h:zb)(Q:zQ):Prop:=zq (zek.l103 (zdd 16 (.str []) (N 106)) C Q a) [(.int .i64 0)] h
def zet.Imp:Prop:=im1 C (N 83) (zet.cps C N)
@[simp] def zd4.k1(C:z6)(N:zN)(Q:zQ)(a b:za)(h:zb):Prop:=B.pv (V.toInt .u8 a) λm=>B.pv (V.bin .shr a (.int .u64 8)) λn=>B.pv (V.toInt .u8 n) λo=>B.pv (V.bin .shr a (.int .u64 16)) λc=>B.pv (V.toInt .u8 c) λd=>B.pv (V.toInt .u8 b) λe=>B.pv (V.bin .shr b (.int .u64 8)) λf=>B.pv (V.toInt .u8 f) λg=>B.pv (V.bin .shr b (.int .u64 16)) λi=>B.pv (V.toInt .u8 i) λj=>B.zha h (zeu [(0,none,(.int .u8 35)),(1,none,m),(2,none,o),(3,none,d),(4,none,(.int .u8 47)),(5,none,e),(6,none,g),(7,none,j)] (zhu 8 [.int .u8 0])) λk h=>B.zfj h (.sl k 0 0 8 1 8) λl=>Q l h
@[simp] def zd4.cps(a b:za)(h:zb)(Q:zQ):Prop:=zd4.k1 C N Q a b h
def zd4.Imp:Prop:=im2 C (N 106) (zd4.cps C N)
@[simp] def zdk.k3(C:z6)(N:zN)(Q:zQ)(a b:za)(h:zb):Prop:=B.pv (V.zcj a) λd=>B.pv (V.zcj b) λe=>B.pv (V.bin .neq d e) λc=>B.cond c (Q (.bool false) h) (zq (zpz.l4  Q a b) [(.int .i64 0)] h)
def zdk.cps(a b:za)(h:zb)(Q:zQ):Prop:=zdk.k3 C N Q a b h
def zdk.Imp:Prop:=im2 C (N 133) (zdk.cps C N)
@[simp] def zf9.k1(C:z6)(N:zN)(Q:zQ)(e a:za)(h:zb):Prop:=B.pv (V.bin .lss a (.int .i64 1)) λf=>B.cond f (Q (.int .i64 0) h) (B.pv (V.bin .rem e a) λb=>B.pv (V.bin .lss b (.int .i64 0)) λc=>B.cond c (B.pv (V.bin .add b a) λd=>Q d h) (Q b h))
@[simp] def zf9.cps(a b:za)(h:zb)(Q:zQ):Prop:=zf9.k1 C N Q a b h
def zf9.Imp:Prop:=im2 C (N 155) (zf9.cps C N)
@[simp] def zdf.k1(Q:zQ)(Y1:zL)(b c a:za)(h:zb):Prop:=B.pv (V.zcj b) λj=>B.pv (V.bin .lss a j) λd=>B.cond d (B.pv (V.zcp 1 b a) λe=>B.ld h e λf=>B.call C (N 405) [c,f] h λk h=>B.pv (V.bin .add a (.int .i64 1)) λg=>Y1 [g] h) (B.call C (N 62) [c] h λi h=>Q i h)
@[simp] def zdf.l2(Q:zQ)(a b:za):zG|[c],h,Y1=>zdf.k1 C N Q Y1 a b c h|_,_,_=>False
@[simp] def zdf.k3(Q:zQ)(a:za)(h:zb):Prop:=B.pv (A.bld [] [.zdo,.zdo,.zdo,.zdo,.zdo,.zdo,.zdo,.zdo,.zdo,.zdo,.zdo,.zdo,.zdo,.zdo,.zdo,.zdo,.zdo,.zdo,.zdo,.zdo,.zdo,.zdo,.zdo]) λb=>B.zha h (A.zj4 23 b) λc h=>zq (zdf.l2 C N Q a (.ptr c 0 0)) [(.int .i64 0)] h
@[simp] def zdf.cps(a:za)(h:zb)(Q:zQ):Prop:=zdf.k3 C N Q a h
def zdf.Imp:Prop:=im1 C (N 396) (zdf.cps C N)
@[simp] def zd1.k1(C:z6)(N:zN)(Q:zQ)(a f:za)(h:zb):Prop:=B.nilCheck a λg=>B.pv (V.fieldAddr 3 g) λi=>B.ld h i λj=>B.zha h (zeu [(0,none,f)] (zhu 1 [.zdo])) λb h=>B.zjc h 1 24 j (.sl b 0 0 1 1 1) λc h=>B.nilCheck a λd=>B.pv (V.fieldAddr 3 d) λe=>B.st h e c λh=>Q (.tup []) h
@[simp] def zd1.cps(a b:za)(h:zb)(Q:zQ):Prop:=zd1.k1 C N Q a b h
def zd1.Imp:Prop:=im2 C (N 405) (zd1.cps C N)
@[simp] def zd0.k3(Q:zQ)(a:za)(h:zb):Prop:=B.pv (V.zcj a) λc=>B.pv (V.bin .add c (.int .i64 12)) λd=>0<1 /\ B.mks h 16 (some [.str []]) (.int .i64 0) d λe h=>B.zjc h 1 16 e a λb h=>zq (zr5.l4 C 16 (N 106) (.str []) 1 Q a) [b,(.int .i64 0)] h
def zd0.cps(a:za)(h:zb)(Q:zQ):Prop:=zd0.k3 C N Q a h
def zd0.Imp:Prop:=im1 C (N 406) (zd0.cps C N)
@[simp] def zdm.k3(Q:zQ)(e a:za)(h:zb):Prop:=B.pv (V.zcj a) λb=>B.pv (V.bin .add b (.int .i64 12)) λc=>B.pv (V.zjp 1 e none (some c)) λd=>zq (ztl.l4 C (N 106) 1 Q a d) [(.int .i64 0)] h
@[simp] def zdm.k4(Q:zQ)(a b:za)(h:zb):Prop:=B.pv (V.zcj a) λe=>B.pv (V.zcj b) λc=>B.pv (V.bin .neq e c) λd=>B.cond d (Q (.bool false) h) (zdm.k3 C N Q a b h)
def zdm.cps(a b:za)(h:zb)(Q:zQ):Prop:=zdm.k4 C N Q a b h
def zdm.Imp:Prop:=im2 C (N 407) (zdm.cps C N)
@[simp] def zd8.k3(Q:zQ)(a:za)(h:zb):Prop:=B.pv (V.zcj a) λb=>B.pv (V.bin .add b (.int .i64 12)) λc=>B.pv (V.zjp 1 a none (some c)) λd=>zq (ztc.l3 C 1 (N 106) (λh p v K=>B.st h p v K) 2 Q d) [(.int .i64 0)] h
def zd8.cps(a:za)(h:zb)(Q:zQ):Prop:=zd8.k3 C N Q a h
def zd8.Imp:Prop:=im1 C (N 409) (zd8.cps C N)
@[simp] def zdl.k3(C:z6)(N:zN)(Q:zQ)(a b:za)(h:zb):Prop:=B.pv (V.zcj a) λd=>B.pv (V.zcj b) λe=>B.pv (V.bin .neq d e) λc=>B.cond c (Q (.bool false) h) (zq (zpz.l4  Q a b) [(.int .i64 0)] h)
def zdl.cps(a b:za)(h:zb)(Q:zQ):Prop:=zdl.k3 C N Q a b h
def zdl.Imp:Prop:=im2 C (N 499) (zdl.cps C N)
@[simp] def zdg.k1(Q:zQ)(Y1:zL)(b c a:za)(h:zb):Prop:=B.pv (V.zcj b) λj=>B.pv (V.bin .lss a j) λd=>B.cond d (B.pv (V.zcp 1 b a) λe=>B.ld h e λf=>B.call C (N 550) [c,f] h λk h=>B.pv (V.bin .add a (.int .i64 1)) λg=>Y1 [g] h) (B.call C (N 62) [c] h λi h=>Q i h)
@[simp] def zdg.l2(Q:zQ)(a b:za):zG|[c],h,Y1=>zdg.k1 C N Q Y1 a b c h|_,_,_=>False
@[simp] def zdg.k3(Q:zQ)(a:za)(h:zb):Prop:=B.pv (A.bld [] [.zdo,.zdo,.zdo,.zdo,.zdo,.zdo,.zdo,.zdo,.zdo,.zdo,.zdo,.zdo,.zdo,.zdo,.zdo,.zdo,.zdo,.zdo,.zdo,.zdo,.zdo,.zdo,.zdo]) λb=>B.zha h (A.zj4 23 b) λc h=>zq (zdg.l2 C N Q a (.ptr c 0 0)) [(.int .i64 0)] h
@[simp] def zdg.cps(a:za)(h:zb)(Q:zQ):Prop:=zdg.k3 C N Q a h
def zdg.Imp:Prop:=im1 C (N 548) (zdg.cps C N)
@[simp] def zd2.k1(C:z6)(N:zN)(Q:zQ)(a f:za)(h:zb):Prop:=B.nilCheck a λg=>B.pv (V.fieldAddr 2 g) λi=>B.ld h i λj=>B.zha h (zeu [(0,none,f)] (zhu 1 [.zdo])) λb h=>B.zjc h 1 24 j (.sl b 0 0 1 1 1) λc h=>B.nilCheck a λd=>B.pv (V.fieldAddr 2 d) λe=>B.st h e c λh=>Q (.tup []) h
@[simp] def zd2.cps(a b:za)(h:zb)(Q:zQ):Prop:=zd2.k1 C N Q a b h
def zd2.Imp:Prop:=im2 C (N 550) (zd2.cps C N)
end Go.Ab
namespace Go.Ab
open List
variable{C:z6}{N:zN}
@[irreducible] def mark(k i:Int):Int:=IntKind.i64.wrap (IntKind.i64.wrap (1000003*IntKind.i64.wrap (k+7))+i)
def zgs.Spec(C:z6)(N:zN):Prop:=∀(k i:Int)(h:zb)(Q:zQ),Q (.int .i64 (mark k i)) h->C (N 20) [.int .i64 k,.int .i64 i] h Q
theorem zgs.spec(i:zgs.Imp C N):zgs.Spec C N:=by
 intro k j h Q hq;apply i;simp +contextual -dsimp;unfold mark at hq;exact zbf hq
structure LL where
 x:za
 n:Nat
 xs:Nat->za
 D:Nat->List (List za)
 R:Nat->List (List za)
 W:List (List za)
def LL.obs(es:Nat)(t:LL):List Ob:=zht es t.n t.xs t.D t.R
structure LL.ok(t:LL)(h0:zb):Prop where
 is:SlX h0 1 t.x (zhf t.n λj=>[t.xs j]) t.W
 n_le:t.n <= 100000000
 zro:∀j,j<t.n->(t.D j).length <= 100000000
def zgb(C:z6)(es g:Nat):Prop:=∀(t:LL)(h0 h:zb)(Q:zQ),t.ok h0->zcy h0 h (t.obs es)->(∀h',h0.le h'->Q (.bool true) h')->C g [t.x] h Q
def zdc(C:z6)(g:Nat):Prop:=∀(x:za)(W:List (List za))(h0 h:zb)(Q:zQ),SlX h0 1 x [] W->h0.le h->(∀h',h0.le h'->Q (.bool true) h')->C g [x] h Q
@[irreducible] def zl7(k i:Int):List UInt8:=[35,byt k,byt (k.fdiv 256),byt (k.fdiv 65536),47,byt i,byt (i.fdiv 256),byt (i.fdiv 65536)]
def zd4.Spec(C:z6)(N:zN):Prop:=∀(k i:Int)(h:zb)(Q:zQ),Q (.str (zl7 k i)) h->C (N 106) [.int .i64 k,.int .i64 i] h Q
theorem zd4.spec(i:zd4.Imp C N):zd4.Spec C N:=by
 intro k j h Q hq;apply i;simp +contextual -dsimp[bin_shr (k:= .i64) (j:= .u64) (b:=8) (by omega) (by simp[IntKind.bits]),bin_shr (k:= .i64) (j:= .u64) (b:=16) (by omega) (by simp[IntKind.bits]),u8_byt];intro id hid;unfold zl7 at hq;have hx:SlX (upd h id (zdr [.int .u8 35,.int .u8 ((byt k).toNat:Int),.int .u8 ((byt (k.fdiv 256)).toNat:Int),.int .u8 ((byt (k.fdiv 65536)).toNat:Int),.int .u8 47,.int .u8 ((byt j).toNat:Int),.int .u8 ((byt (j.fdiv 256)).toNat:Int),.int .u8 ((byt (j.fdiv 65536)).toNat:Int)])) 1 (.sl id 0 0 8 1 8) (([35,byt k,byt (k.fdiv 256),byt (k.fdiv 65536),47,byt j,byt (j.fdiv 256),byt (j.fdiv 65536)]:List UInt8).map bc) []:=
  SlX.lit (zbs ..) (by simp) rfl (by simp) rfl
 rw[bytesStr_bc hx];exact dn_le (zgz _ hid) hq
abbrev zho:List (List za):=zhq tS (zl7 1) 12
def zdk.Spec(C:z6)(N:zN):Prop:=∀(x y:za)(L M:List (List UInt8))(R S:List (List za))(h:zb)(Q:zQ),SlX h 1 x (L.map tc) R->SlX h 1 y (M.map tc) S->L.length<4611686018427387904->Q (.bool (decide (L=M))) h->C (N 133) [x,y] h Q
theorem zdk.spec(i:zdk.Imp C N):zdk.Spec C N:=λx y L M R S h Q hx hy hlen hq=>i x y h Q (zuq tS hx hy hlen (zbf hq))
def zd0.Spec(C:z6)(N:zN):Prop:=∀(x:za)(L:List (List UInt8))(R:List (List za))(h:zb)(Q:zQ),SlX h 1 x (L.map tc) R->L.length <= 100000000->(∀x' h',zcy h h' [.sl 1 x' (L.map tc) zho]->Q x' h')->C (N 406) [x] h Q
theorem zd0.spec(i:zd0.Imp C N)(s1:zd4.Spec C N):zd0.Spec C N:=λx L R h Q hx hlen hq=>i x h Q (lentS_spec tS (z:= .str []) (m:=1) (mk:=zl7 1) (by omega) (s1 1) hx hlen λx' h' ho=>zbf (hq x' h' ho))
def zdm.Spec(C:z6)(N:zN):Prop:=∀(x y:za)(L M:List (List UInt8))(R:List (List za))(h:zb)(Q:zQ),SlX h 1 x (L.map tc) zho->SlX h 1 y (M.map tc) R->L.length <= 100000000->Q (.bool (decide (L=M))) h->C (N 407) [x,y] h Q
theorem zdm.spec(i:zdm.Imp C N)(s1:zd4.Spec C N):zdm.Spec C N:=λx y L M R h Q hx hy hlen hq=>i x y h Q (keptS_spec tS (m:=1) (mk:=zl7 1) (s1 1) hx hy hlen (zbf hq))
def zd8.Spec(C:z6)(N:zN):Prop:=∀(h0 h:zb)(x:za)(L R:List (List za))(Q:zQ),zcy h0 h [.sl 1 x L R]->R.length=12->L.length <= 100000000->(∀h',h0.le h'->Q (.tup []) h')->C (N 409) [x] h Q
theorem zd8.spec(i:zd8.Imp C N)(s1:zd4.Spec C N):zd8.Spec C N:=λh0 h x L R Q ho hR hlen hq=>i x h Q (overG_spec (es:=1) (st:=λh p v K=>B.st h p v K) (by omega) (v:=λi=> .str (zl7 2 i)) (s1 2) (λho hi hK=>over_stS rfl ho hi hK) ho hR hlen λh' hle=>zbf (hq h' hle))
theorem zet.spec(i:zet.Imp C N)(s1:zd4.Spec C N):zgb C 1 (N 83):=λt h0 h Q ht ho hq=>
 i t.x h Q (zu7 (elS (bytes:=16) (z:= .str []) (mv:=λk i=> .str (zl7 k i)) (λ_ _=>rfl) (λ_ _=>by rw[V.zso];simp) (by omega) s1) ht.is ho ht.n_le ht.zro λh' hle=>zbf (hq h' hle))
abbrev LG:=List za->zb->(zL)->Prop
@[simp] def z0(v0:za)(X:zb->Prop):LG|[v],h,Y=>B.pv (V.zcj v0) λn=>B.pv (V.bin .lss v n) λb=>B.cond b (False) (X h)|_,_,_=>False
def z5(Q:zQ)(v0 w:za)(h:zb):Prop:=zq (z0 v0 λh=>Q (.bool true) h) [.int .i64 0] h
def z4(Q:zQ)(v0 w:za)(h:zb):Prop:=zq (z0 v0 (z5 Q v0 w)) [.int .i64 0] h
def z3(Q:zQ)(v0 w:za)(h:zb):Prop:=zq (z0 v0 (z4 Q v0 w)) [.int .i64 0] h
def z2(Q:zQ)(v0 w:za)(h:zb):Prop:=zq (z0 v0 (z3 Q v0 w)) [.int .i64 0] h
def z1(Q:zQ)(v0:za)(h:zb):Prop:=B.pv (V.zcj v0) λn=>0<1 /\ B.mks h 24 (some [.zdo]) n n λw h=>z2 Q v0 w h
def zjn(v0:za)(h:zb)(Q:zQ):Prop:=zq (z0 v0 (z1 Q v0)) [.int .i64 0] h
theorem z0_nil{h0 h:zb}{x:za}{W:List (List za)}{X:zb->Prop}(hx:SlX h0 1 x [] W)(hX:X h):zq (z0 x X) [.int .i64 0] h:=by
 refine zq.intro (λn vs hh=>vs=[.int .i64 0] /\ hh=h) 0 ?_ ⟨rfl,rfl⟩;rintro Y n vs hh ⟨rfl,rfl⟩ hY;have l:=hx.zcj;simp -dsimp[l];exact hX
theorem zey{C:z6}{g:Nat}(i:∀(v0:za)(h:zb)(Q:zQ),zjn v0 h (dn Q)->C g [v0] h Q):zdc C g:=λx W h0 h Q hx hle hq=>by
 refine i x h Q (z0_nil (hx.mono hle) ?_)
 have l:=(hx.mono hle).zcj
 unfold z1
 rw[l]
 refine⟨by omega,?_⟩
 refine(zcy.start h).mks (bytes:=24) (es:=1) (n:=0) (c:=0) (z:=[.zdo]) rfl (by omega) (by omega) (by omega) (by omega) λy h1 ho=>?_
 have h1x:=hx.mono (zb.le_trans hle ho.le)
 exact z0_nil h1x (z0_nil h1x (z0_nil h1x (z0_nil h1x (zbf (hq _ (zb.le_trans hle ho.le))))))
def zfn.ziv(C:z6)(N:zN):Prop:=∀(v0:za)(h:zb)(Q:zQ),zjn v0 h (dn Q)->C (N 80) [v0] h Q
theorem zfn.zlp{C:z6}{N:zN}(i:zfn.ziv C N):zdc C (N 80):=zey i
def zgf.ziv(C:z6)(N:zN):Prop:=∀(v0:za)(h:zb)(Q:zQ),zjn v0 h (dn Q)->C (N 81) [v0] h Q
theorem zgf.zlp{C:z6}{N:zN}(i:zgf.ziv C N):zdc C (N 81):=zey i
def zfy.ziv(C:z6)(N:zN):Prop:=∀(v0:za)(h:zb)(Q:zQ),zjn v0 h (dn Q)->C (N 84) [v0] h Q
theorem zfy.zlp{C:z6}{N:zN}(i:zfy.ziv C N):zdc C (N 84):=zey i
def zev.ziv(C:z6)(N:zN):Prop:=∀(v0:za)(h:zb)(Q:zQ),zjn v0 h (dn Q)->C (N 85) [v0] h Q
theorem zev.zlp{C:z6}{N:zN}(i:zev.ziv C N):zdc C (N 85):=zey i
def zge.ziv(C:z6)(N:zN):Prop:=∀(v0:za)(h:zb)(Q:zQ),zjn v0 h (dn Q)->C (N 86) [v0] h Q
theorem zge.zlp{C:z6}{N:zN}(i:zge.ziv C N):zdc C (N 86):=zey i
def zfo.ziv(C:z6)(N:zN):Prop:=∀(v0:za)(h:zb)(Q:zQ),zjn v0 h (dn Q)->C (N 87) [v0] h Q
theorem zfo.zlp{C:z6}{N:zN}(i:zfo.ziv C N):zdc C (N 87):=zey i
def zgc.ziv(C:z6)(N:zN):Prop:=∀(v0:za)(h:zb)(Q:zQ),zjn v0 h (dn Q)->C (N 88) [v0] h Q
theorem zgc.zlp{C:z6}{N:zN}(i:zgc.ziv C N):zdc C (N 88):=zey i
def zft.ziv(C:z6)(N:zN):Prop:=∀(v0:za)(h:zb)(Q:zQ),zjn v0 h (dn Q)->C (N 89) [v0] h Q
theorem zft.zlp{C:z6}{N:zN}(i:zft.ziv C N):zdc C (N 89):=zey i
def zfw.ziv(C:z6)(N:zN):Prop:=∀(v0:za)(h:zb)(Q:zQ),zjn v0 h (dn Q)->C (N 90) [v0] h Q
theorem zfw.zlp{C:z6}{N:zN}(i:zfw.ziv C N):zdc C (N 90):=zey i
def zfv.ziv(C:z6)(N:zN):Prop:=∀(v0:za)(h:zb)(Q:zQ),zjn v0 h (dn Q)->C (N 91) [v0] h Q
theorem zfv.zlp{C:z6}{N:zN}(i:zfv.ziv C N):zdc C (N 91):=zey i
def zgg.ziv(C:z6)(N:zN):Prop:=∀(v0:za)(h:zb)(Q:zQ),zjn v0 h (dn Q)->C (N 92) [v0] h Q
theorem zgg.zlp{C:z6}{N:zN}(i:zgg.ziv C N):zdc C (N 92):=zey i
def zfq.ziv(C:z6)(N:zN):Prop:=∀(v0:za)(h:zb)(Q:zQ),zjn v0 h (dn Q)->C (N 93) [v0] h Q
theorem zfq.zlp{C:z6}{N:zN}(i:zfq.ziv C N):zdc C (N 93):=zey i
def zfa.ziv(C:z6)(N:zN):Prop:=∀(v0:za)(h:zb)(Q:zQ),zjn v0 h (dn Q)->C (N 94) [v0] h Q
theorem zfa.zlp{C:z6}{N:zN}(i:zfa.ziv C N):zdc C (N 94):=zey i
def zgd.ziv(C:z6)(N:zN):Prop:=∀(v0:za)(h:zb)(Q:zQ),zjn v0 h (dn Q)->C (N 95) [v0] h Q
theorem zgd.zlp{C:z6}{N:zN}(i:zgd.ziv C N):zdc C (N 95):=zey i
def zfp.ziv(C:z6)(N:zN):Prop:=∀(v0:za)(h:zb)(Q:zQ),zjn v0 h (dn Q)->C (N 96) [v0] h Q
theorem zfp.zlp{C:z6}{N:zN}(i:zfp.ziv C N):zdc C (N 96):=zey i
def zfx.ziv(C:z6)(N:zN):Prop:=∀(v0:za)(h:zb)(Q:zQ),zjn v0 h (dn Q)->C (N 97) [v0] h Q
theorem zfx.zlp{C:z6}{N:zN}(i:zfx.ziv C N):zdc C (N 97):=zey i
def zex.ziv(C:z6)(N:zN):Prop:=∀(v0:za)(h:zb)(Q:zQ),zjn v0 h (dn Q)->C (N 98) [v0] h Q
theorem zex.zlp{C:z6}{N:zN}(i:zex.ziv C N):zdc C (N 98):=zey i
def zfu.ziv(C:z6)(N:zN):Prop:=∀(v0:za)(h:zb)(Q:zQ),zjn v0 h (dn Q)->C (N 99) [v0] h Q
theorem zfu.zlp{C:z6}{N:zN}(i:zfu.ziv C N):zdc C (N 99):=zey i
def zew.ziv(C:z6)(N:zN):Prop:=∀(v0:za)(h:zb)(Q:zQ),zjn v0 h (dn Q)->C (N 100) [v0] h Q
theorem zew.zlp{C:z6}{N:zN}(i:zew.ziv C N):zdc C (N 100):=zey i
def zfs.ziv(C:z6)(N:zN):Prop:=∀(v0:za)(h:zb)(Q:zQ),zjn v0 h (dn Q)->C (N 101) [v0] h Q
theorem zfs.zlp{C:z6}{N:zN}(i:zfs.ziv C N):zdc C (N 101):=zey i
def zfr.ziv(C:z6)(N:zN):Prop:=∀(v0:za)(h:zb)(Q:zQ),zjn v0 h (dn Q)->C (N 102) [v0] h Q
theorem zfr.zlp{C:z6}{N:zN}(i:zfr.ziv C N):zdc C (N 102):=zey i
section
variable{P:Program}{C:z6}{I:Bx}
theorem eZ(hC:zj8 C){c:Code}{Q:Ex->zbr->zb->Prop}{s:zbr}{h:zb}(zia live:List Nat)(G:List za->LG)(hr:zq (G (zia.map s)) (live.map s) h)(hG:∀(Y:zL)(s:zbr)(h:zb),bwp P C I (cA (cA (cA c))) (Ex.then (λ_ _=>False) (Ex.then (λs h=>Y (live.map s) h) (Ex.inBlock (cI c) Q))) s h=G (zia.map s) (live.map s) h Y)(hk:isK c=true)(hl:isL (cA c)=true)(hw:(zia.all λk=> !zih (zhi P I (cA (cA c))) k)=true)(hs:isS (cA (cA c))=true):bwp P C I c Q s h:=eK (eL hC zia live G hr (λY s h hR=>eS hC (λ_ _=>False) ((hG Y s h).mpr hR) (λ_ _ f=>f.elim) hs) hl hw) hk
theorem eU(hC:zj8 C){c:Code}{Q:Ex->zbr->zb->Prop}{s:zbr}{h:zb}(zia live:List Nat)(G:List za->LG)(X:zbr->zb->Prop)(hr:zq (G (zia.map s)) [.int .i64 0] h)(hX:∀s h,X s h->bwp P C I (cB c) Q s h)
  (h1:bwp P C I (cA (cA c)) (Ex.then (λs h=>zq (G (zia.map s)) (live.map s) h) (Ex.then X Q)) s h=zq (G (zia.map s)) [.int .i64 0] h:=by kernel_rfl)
  (hG:∀(Y:zL)(s:zbr)(h:zb),bwp P C I (cA (cA (cA (cB (cA c))))) (Ex.then (λ_ _=>False) (Ex.then (λs h=>Y (live.map s) h) (Ex.inBlock (cI (cB (cA c))) (Ex.then X Q)))) s h=G (zia.map s) (live.map s) h Y:=by intros;kernel_rfl)
  (hk:(isS c&&isS (cA c)&&isK (cB (cA c))&&isL (cA (cB (cA c)))&&isS (cA (cA (cB (cA c))))&&zia.all λk=> !zih (zhi P I (cA (cA (cB (cA c))))) k)=true:=by kernel_rfl):bwp P C I c Q s h:=by
 simp only[Bool.and_eq_true]at hk;obtain⟨⟨⟨⟨⟨k1,k2⟩,k3⟩,k4⟩,k5⟩,k6⟩:=hk;exact eS hC X (eS hC (λs h=>zq (G (zia.map s)) (live.map s) h) (h1.mpr hr) (λs h hR=>eZ hC zia live G hR hG k3 k4 k6 k5) k2) hX k1
abbrev F0(P:Program)(fn:Func)(I:Bx):Prop:=∀{C:z6}(hC:zj8 C)(Q:zQ)(s:zbr)(h:zb),zjn (s 0) h Q->bwp P C I (fn.body.getD .skip) (retB P I fn.results.toList Q) s h
abbrev g1(f:za->LG):List za->LG:=λkv lv h Y=>match kv with|[a]=>f a lv h Y|_=>False
abbrev g2(f:za->za->LG):List za->LG:=λkv lv h Y=>match kv with|[a,b]=>f a b lv h Y|_=>False
structure Lp(P:Program)(C:z6)(I:Bx)(c:Code)(Q:Ex->zbr->zb->Prop)(zia:List Nat)(l:Nat)(G:List za->LG)(X:zbr->zb->Prop):Prop where
 h1:∀s h,bwp P C I (cA (cA c)) (Ex.then (λs h=>zq (G (zia.map s)) ([l].map s) h) (Ex.then X Q)) s h=zq (G (zia.map s)) [.int .i64 0] h:=by intros;kernel_rfl
 hG:∀(Y:zL)(s:zbr)(h:zb),bwp P C I (cA (cA (cA (cB (cA c))))) (Ex.then (λ_ _=>False) (Ex.then (λs h=>Y ([l].map s) h) (Ex.inBlock (cI (cB (cA c))) (Ex.then X Q)))) s h=G (zia.map s) ([l].map s) h Y:=by intros;kernel_rfl
 hk:(isS c&&isS (cA c)&&isK (cB (cA c))&&isL (cA (cB (cA c)))&&isS (cA (cA (cB (cA c))))&&zia.all λk=> !zih (zhi P I (cA (cA (cB (cA c))))) k)=true:=by kernel_rfl
theorem Lp.use{c:Code}{Q:Ex->zbr->zb->Prop}{zia:List Nat}{l:Nat}{G:List za->LG}{X:zbr->zb->Prop}(p:Lp P C I c Q zia l G X)(hC:zj8 C){s:zbr}{h:zb}(hr:zq (G (zia.map s)) [.int .i64 0] h)(hX:∀s h,X s h->bwp P C I (cB c) Q s h):bwp P C I c Q s h:=eU hC zia [l] G X hr hX (p.h1 s h) p.hG p.hk
theorem eF0(hC:zj8 C){c:Code}{R:Ex->zbr->zb->Prop}{Q:zQ}{s:zbr}{h:zb}(w a b d e f:Nat)(hR:zjn (s 0) h Q)
  (e0:∀s h,bwp P C I (cA c) (Ex.then (λs h=>zjn (s 0) h Q) R) s h=zjn (s 0) h Q:=by intros;kernel_rfl)
  (p1:Lp P C I (cB c) R [0] a (g1 λv=>z0 v (z1 Q v)) (λs h=>z1 Q (s 0) h):=by exact {})
  (e2:∀s h,bwp P C I (cA (cB (cB c))) (Ex.then (λs h=>z2 Q (s 0) (s w) h) R) s h=z1 Q (s 0) h:=by intros;kernel_rfl)
  (p2:Lp P C I (cB (cB (cB c))) R [0,w] b (g2 λv w=>z0 v (z3 Q v w)) (λs h=>z3 Q (s 0) (s w) h):=by exact {})
  (p3:Lp P C I (cB (cB (cB (cB c)))) R [0,w] d (g2 λv w=>z0 v (z4 Q v w)) (λs h=>z4 Q (s 0) (s w) h):=by exact {})
  (p4:Lp P C I (cB (cB (cB (cB (cB c))))) R [0,w] e (g2 λv w=>z0 v (z5 Q v w)) (λs h=>z5 Q (s 0) (s w) h):=by exact {})
  (p5:Lp P C I (cB (cB (cB (cB (cB (cB c)))))) R [0,w] f (g2 λv w=>z0 v λh=>Q (.bool true) h) (λs h=>Q (.bool true) h):=by exact {})
  (e6:∀s h,bwp P C I (cB (cB (cB (cB (cB (cB (cB c))))))) R s h=Q (.bool true) h:=by intros;kernel_rfl)
  (k1:isS c=true:=by kernel_rfl) (k2:isS (cB (cB c))=true:=by kernel_rfl):bwp P C I c R s h:=
 eS hC (λs h=>zjn (s 0) h Q) ((e0 s h).mpr hR) (λs h hR=>p1.use hC hR λs h hR=>eS hC (λs h=>z2 Q (s 0) (s w) h) ((e2 s h).mpr hR) (λs h hR=>p2.use hC hR λs h hR=>p3.use hC hR λs h hR=>p4.use hC hR λs h hR=>p5.use hC hR λs h hR=>(e6 s h).mpr hR) k2) k1
end
variable(C:z6)(N:Nat→Nat)
@[simp] def zdn.k1(Q:zQ)(c d:za)(h:zb):Prop:=B.call C (N 389) [c] h λb h=>B.gd h b true (λK=>K d h) λk h=>B.gd h b true (λK=>B.call C (N 389) [k] h K) λl h=>B.gd h b true (λK=>B.pv (V.un .not l) λv=>K v h) λe h=>B.pick b e (.bool false) λa=>B.gd h a false (λK=>K c h) λf h=>B.gd h a false (λK=>K d h) λg h=>B.gd h a false (λK=>B.pv (V.bin .lss f g) λv=>K v h) λi h=>B.pick a (.bool true) i λj=>Q j h
@[simp] def zdn.cps(a b:za)(h:zb)(Q:zQ):Prop:=zdn.k1 C N Q a b h
def zdn.Imp:Prop:=im2 C (N 377) (zdn.cps C N)
@[simp] def zdq.cps(C:z6)(N:zN)(a:za)(h:zb)(Q:zQ):Prop:=B.pv (V.bin .neq a a) λb=>Q b h
def zdq.Imp:Prop:=im1 C (N 389) (zdq.cps C N)
@[simp] def zdu.k1(Q:zQ)(c d:za)(h:zb):Prop:=B.call C (N 546) [c] h λb h=>B.gd h b true (λK=>K d h) λk h=>B.gd h b true (λK=>B.call C (N 546) [k] h K) λl h=>B.gd h b true (λK=>B.pv (V.un .not l) λv=>K v h) λe h=>B.pick b e (.bool false) λa=>B.gd h a false (λK=>K c h) λf h=>B.gd h a false (λK=>K d h) λg h=>B.gd h a false (λK=>B.pv (V.bin .lss f g) λv=>K v h) λi h=>B.pick a (.bool true) i λj=>Q j h
@[simp] def zdu.cps(a b:za)(h:zb)(Q:zQ):Prop:=zdu.k1 C N Q a b h
def zdu.Imp:Prop:=im2 C (N 534) (zdu.cps C N)
@[simp] def zdy.cps(C:z6)(N:zN)(a:za)(h:zb)(Q:zQ):Prop:=B.pv (V.bin .neq a a) λb=>Q b h
def zdy.Imp:Prop:=im1 C (N 546) (zdy.cps C N)
variable(C:z6)(N:Nat→Nat)
@[simp] def zec.k1(Q:zQ)(h:zb):Prop:=B.call C (N 485) [] h λc h=>B.pv (V.zif .eql c .zm8) λo=>B.gd h o false (λK=>K c h) λv8 h=>B.gd h o false (λK=>B.zha h (zeu [(0,none,(.str [65]))] (zhu 1 [.str []])) λi h=>K (.sl i 0 0 1 1 1) h) λv9 h=>B.gd h o false (λK=>B.call C (N 489) [v8,(.int .i64 1),v9] h K) λr h=>B.gd h o false (λK=>B.pv (V.un .not r) λv=>K v h) λs h=>B.pick o (.bool true) s λl=>B.gd h l false (λK=>K c h) λt h=>B.gd h l false (λK=>B.zha h (zeu [(0,none,(.str [65])),(1,none,(.str [66]))] (zhu 2 [.str []])) λi h=>K (.sl i 0 0 2 1 2) h) λu h=>B.gd h l false (λK=>B.call C (N 489) [t,(.int .i64 2),u] h K) λw h=>B.pick l (.bool true) w λm=>B.gd h m false (λK=>K c h) λx h=>B.gd h m false (λK=>B.zha h (zeu [(0,none,(.str [66]))] (zhu 1 [.str []])) λi h=>K (.sl i 0 0 1 1 1) h) λy h=>B.gd h m false (λK=>B.call C (N 489) [x,(.int .i64 3),y] h K) λz h=>B.pick m (.bool true) z λb=>B.gd h b false (λK=>K c h) λaa h=>B.gd h b false (λK=>B.call C (N 491) [aa,(.int .i64 3)] h K) λab h=>B.gd h b false (λK=>B.zha h (zeu [(0,none,(.int .i64 2))] (zhu 1 [.int .i64 0])) λi h=>K (.sl i 0 0 1 1 1) h) λac h=>B.gd h b false (λK=>B.call C (N 499) [ab,ac] h K) λad h=>B.gd h b false (λK=>B.pv (V.un .not ad) λv=>K v h) λae h=>B.pick b (.bool true) ae λaf=>B.cond af (Q (.bool false) h) (B.call C (N 488) [c,(.int .i64 1)] h λbt h=>B.call C (N 485) [] h λa h=>B.zha h (zeu [(0,none,(.str [65]))] (zhu 1 [.str []])) λag h=>B.call C (N 489) [a,(.int .i64 1),(.sl ag 0 0 1 1 1)] h λn h=>B.gd h n true (λK=>K a h) λah h=>B.gd h n true (λK=>B.zha h (zeu [(0,none,(.str [66]))] (zhu 1 [.str []])) λi h=>K (.sl i 0 0 1 1 1) h) λai h=>B.gd h n true (λK=>B.call C (N 489) [ah,(.int .i64 2),ai] h K) λaj h=>B.pick n aj (.bool false) λd=>B.gd h d true (λK=>K a h) λak h=>B.gd h d true (λK=>B.zha h (zeu [(0,none,(.str [66]))] (zhu 1 [.str []])) λi h=>K (.sl i 0 0 1 1 1) h) λal h=>B.gd h d true (λK=>B.call C (N 489) [ak,(.int .i64 1),al] h K) λam h=>B.gd h d true (λK=>B.pv (V.un .not am) λv=>K v h) λan h=>B.pick d an (.bool false) λe=>B.gd h e true (λK=>K a h) λao h=>B.gd h e true (λK=>B.zha h (zeu [(0,none,(.str [65]))] (zhu 1 [.str []])) λi h=>K (.sl i 0 0 1 1 1) h) λap h=>B.gd h e true (λK=>B.call C (N 489) [ao,(.int .i64 2),ap] h K) λaq h=>B.gd h e true (λK=>B.pv (V.un .not aq) λv=>K v h) λar h=>B.pick e ar (.bool false) λau=>B.zha h (zeu [(0,none,(.str [66]))] (zhu 1 [.str []])) λav h=>B.call C (N 489) [c,(.int .i64 3),(.sl av 0 0 1 1 1)] h λaw h=>B.pv (V.un .not aw) λp=>B.gd h p true (λK=>K c h) λax h=>B.gd h p true (λK=>B.call C (N 489) [ax,(.int .i64 2),.zdo] h K) λay h=>B.pick p ay (.bool false) λf=>B.gd h f true (λK=>K c h) λaz h=>B.gd h f true (λK=>B.call C (N 490) [az,(.int .i64 2)] h K) λba h=>B.gd h f true (λK=>B.zha h (zeu [(0,none,(.str [65])),(1,none,(.str [66]))] (zhu 2 [.str []])) λi h=>K (.sl i 0 0 2 1 2) h) λbb h=>B.gd h f true (λK=>B.call C (N 133) [ba,bb] h K) λbc h=>B.pick f bc (.bool false) λq=>B.gd h q true (λK=>K au h) λbd h=>B.pick q bd (.bool false) λg=>B.gd h g true (λK=>K a h) λbe h=>B.gd h g true (λK=>B.call C (N 492) [be] h K) λbf h=>B.gd h g true (λK=>B.zha h (zeu [(0,none,(.int .i64 1)),(1,none,(.int .i64 2))] (zhu 2 [.int .i64 0])) λi h=>K (.sl i 0 0 2 1 2) h) λbg h=>B.gd h g true (λK=>B.call C (N 499) [bf,bg] h K) λbh h=>B.pick g bh (.bool false) λj=>B.gd h j true (λK=>K a h) λbi h=>B.gd h j true (λK=>B.zha h (zeu [(0,none,(.str [42]))] (zhu 1 [.str []])) λi h=>K (.sl i 0 0 1 1 1) h) λbj h=>B.gd h j true (λK=>B.call C (N 489) [bi,(.int .i64 4),bj] h K) λbk h=>B.gd h j true (λK=>B.pv (V.un .not bk) λv=>K v h) λbl h=>B.pick j bl (.bool false) λk=>B.gd h k true (λK=>K a h) λbm h=>B.gd h k true (λK=>B.call C (N 491) [bm,(.int .i64 4)] h K) λbn h=>B.gd h k true (λK=>B.zha h (zeu [(0,none,(.int .i64 1)),(1,none,(.int .i64 2))] (zhu 2 [.int .i64 0])) λi h=>K (.sl i 0 0 2 1 2) h) λbo h=>B.gd h k true (λK=>B.call C (N 499) [bn,bo] h K) λbp h=>B.pick k bp (.bool false) λbq=>Q bq h)
@[simp] def zec.cps(h:zb)(Q:zQ):Prop:=zec.k1 C N Q h
def zec.Imp:Prop:=im0 C (N 482) (zec.cps C N)
@[simp] def zed.k1(Q:zQ)(d e c:za)(h:zb):Prop:=B.call C (N 490) [d,c] h λu h=>B.call C (N 502) [e,c] h λf h=>B.call C (N 133) [u,f] h λa h=>B.gd h a true (λK=>K d h) λg h=>B.gd h a true (λK=>K c h) λi h=>B.gd h a true (λK=>B.call C (N 491) [g,i] h K) λj h=>B.gd h a true (λK=>K e h) λk h=>B.gd h a true (λK=>K c h) λl h=>B.gd h a true (λK=>B.call C (N 503) [k,l] h K) λm h=>B.gd h a true (λK=>B.call C (N 499) [j,m] h K) λn h=>B.pick a n (.bool false) λb=>B.gd h b true (λK=>K d h) λo h=>B.gd h b true (λK=>B.call C (N 492) [o] h K) λp h=>B.gd h b true (λK=>K e h) λq h=>B.gd h b true (λK=>B.call C (N 504) [q] h K) λr h=>B.gd h b true (λK=>B.call C (N 499) [p,r] h K) λs h=>B.pick b s (.bool false) λt=>Q t h
@[simp] def zed.cps(a b c:za)(h:zb)(Q:zQ):Prop:=zed.k1 C N Q a b c h
def zed.Imp:Prop:=im3 C (N 483) (zed.cps C N)
@[simp] def zej.k1(Q:zQ)(d e w:za)(h:zb):Prop:=B.pv (A.boxN 3 w) λa=>B.al a (B.pv (V.zf6 0 a) λf=>B.call C (N 155) [f,(.int .i64 5)] h λg h=>B.pv (V.bin .eql g (.int .i64 0)) λi=>B.cond i (B.al a (B.pv (V.zf6 1 a) λj=>B.call C (N 488) [d,j] h λx h=>B.al a (B.pv (V.zf6 1 a) λk=>B.call C (N 500) [e,k] h λy h=>Q (.bool true) h))) (B.al a (B.pv (V.zf6 2 a) λl=>B.call C (N 406) [l] h λc h=>B.al a (B.pv (V.zf6 1 a) λm=>B.al a (B.pv (V.zf6 1 a) λn=>B.al a (B.pv (V.zf6 2 a) λo=>B.call C (N 489) [d,m,c] h λp h=>B.call C (N 501) [e,n,o] h λq h=>B.pv (V.zt0 .eql p q) λb=>B.gd h b true (λK=>K c h) λr h=>B.al a (B.gd h b true (λK=>K .undef h) λ_ h=>B.gd h b true (λK=>B.pv (V.zf6 2 a) λv=>K v h) λs h=>B.gd h b true (λK=>B.call C (N 407) [r,s] h K) λt h=>B.pick b t (.bool false) λu=>B.call C (N 409) [c] h λz h=>Q u h)))))))
@[simp] def zej.cps(a b c:za)(h:zb)(Q:zQ):Prop:=zej.k1 C N Q a b c h
def zej.Imp:Prop:=im3 C (N 484) (zej.cps C N)
@[simp] def zcs.k1(C:z6)(N:zN)(Q:zQ)(Y1:zL)(Y2:zL)(e b c d:za)(h:zb):Prop:=B.pv (V.zcp 3 e c) λf=>B.pv (V.fieldAddr 2 f) λg=>B.ld h g λi=>B.pv (V.zcj i) λj=>B.pv (V.bin .lss d j) λa=>B.gd h a true (λK=>K b h) λk h=>B.gd h a true (λK=>B.pv (V.bin .leq k (.int .i64 2000)) λv=>K v h) λl h=>B.pick a l (.bool false) λm=>B.cond m (B.pv (V.bin .add b (.int .i64 1)) λn=>B.pv (V.zcp 3 e c) λo=>B.pv (V.fieldAddr 2 o) λp=>B.ld h p λq=>B.pv (V.zcp 1 q d) λr=>B.ld h r λs=>B.pv (V.ztj s) λt=>B.pv (V.bin .quo t (.int .i64 20)) λu=>B.pv (V.bin .add n u) λw=>B.pv (V.bin .add d (.int .i64 1)) λx=>Y2 [w,x] h) (B.pv (V.bin .add c (.int .i64 1)) λy=>Y1 [b,y] h)
@[simp] def zcs.l2(Q:zQ)(Y1:zL)(a b:za):zG|[c,d],h,Y2=>zcs.k1 C N Q Y1 Y2 a c b d h|_,_,_=>False
@[simp] def zcs.k3(Q:zQ)(Y1:zL)(c a d:za)(h:zb):Prop:=B.pv (V.zcj c) λj=>B.pv (V.bin .lss d j) λb=>B.gd h b true (λK=>K a h) λe h=>B.gd h b true (λK=>B.pv (V.bin .leq e (.int .i64 2000)) λv=>K v h) λf h=>B.pick b f (.bool false) λg=>B.cond g (zq (zcs.l2 C N Q Y1 c d) [a,(.int .i64 0)] h) (B.pv (V.bin .gtr a (.int .i64 2000)) λi=>Q i h)
@[simp] def zcs.l4(Q:zQ)(a:za):zG|[b,c],h,Y1=>zcs.k3 C N Q Y1 a b c h|_,_,_=>False
@[simp] def zcs.cps(a:za)(h:zb)(Q:zQ):Prop:=zq (zcs.l4 C N Q a) [(.int .i64 0),(.int .i64 0)] h
def zcs.Imp:Prop:=im1 C (N 486) (zcs.cps C N)
@[simp] def zo.k1(Q:zQ)(v w x y z r s t u:za)(h:zb):Prop:=B.call C (N 483) [w,x,v] h λb h=>B.gd h b true (λK=>K y h) λd h=>B.gd h b true (λK=>K z h) λe h=>B.gd h b true (λK=>B.zha h (zeu [(0,none,d),(1,none,e)] (zhu 2 [.zdo])) λi h=>K (.sl i 0 0 2 1 2) h) λf h=>B.gd h b true (λK=>B.call C (N 396) [f] h K) λg h=>B.pick b g (.bool false) λa=>B.gd h a true (λK=>K r h) λj h=>B.gd h a true (λK=>K s h) λk h=>B.gd h a true (λK=>K t h) λl h=>B.gd h a true (λK=>K u h) λm h=>B.gd h a true (λK=>B.zha h (zeu [(0,none,j),(1,none,k),(2,none,l),(3,none,m)] (zhu 4 [.zdo])) λi h=>K (.sl i 0 0 4 1 4) h) λn h=>B.gd h a true (λK=>B.call C (N 548) [n] h K) λo h=>B.pick a o (.bool false) λc=>B.gd h c true (λK=>B.call C (N 482) [] h K) λp h=>B.pick c p (.bool false) λq=>Q q h
@[simp] def zo.k2(Q:zQ)(Y1:zL)(n o p q r c d a e b:za)(h:zb):Prop:=B.pv (V.zcj a) λf=>B.pv (V.bin .lss b f) λg=>B.cond g (B.pv (V.zcp 1 a b) λi=>B.ld h i λj=>B.pv (V.bin .add j (.int .i64 1)) λk=>B.pv (V.zcp 1 a b) λl=>B.st h l k λh=>B.pv (V.bin .add b (.int .i64 1)) λm=>Y1 [m] h) (zo.k1 C N Q n o p q r c d a e h)
@[simp] def zo.l3(Q:zQ)(f g i j k a b c d:za):zG|[e],h,Y1=>zo.k2 C N Q Y1 f g i j k a b c d e h|_,_,_=>False
@[simp] def zo.k4(Q:zQ)(Y2:zL)(o p q b r c d e f a:za)(h:zb):Prop:=B.pv (V.zcj b) λg=>B.pv (V.bin .lss a g) λi=>B.cond i (B.pv (V.zcp 1 b a) λj=>B.ld h j λk=>B.pv (V.bin .add k (.str [120])) λl=>B.pv (V.zcp 1 b a) λm=>B.st h m l λh=>B.pv (V.bin .add a (.int .i64 1)) λn=>Y2 [n] h) (zq (zo.l3 C N Q o p q b r c d e f) [(.int .i64 0)] h)
@[simp] def zo.l5(Q:zQ)(f g i j k a b c d:za):zG|[e],h,Y2=>zo.k4 C N Q Y2 f g i j k a b c d e h|_,_,_=>False
@[simp] def zo.k6(Q:zQ)(t u w g i c d e f:za)(h:zb):Prop:=B.call C (N 133) [g,i] h λj h=>B.pv (V.un .not j) λa=>B.gd h a false (λK=>K c h) λk h=>B.gd h a false (λK=>K d h) λl h=>B.gd h a false (λK=>B.call C (N 499) [k,l] h K) λm h=>B.gd h a false (λK=>B.pv (V.un .not m) λv=>K v h) λn h=>B.pick a (.bool true) n λb=>B.gd h b false (λK=>K e h) λo h=>B.gd h b false (λK=>K f h) λp h=>B.gd h b false (λK=>B.call C (N 499) [o,p] h K) λq h=>B.gd h b false (λK=>B.pv (V.un .not q) λv=>K v h) λr h=>B.pick b (.bool true) r λs=>B.cond s (Q (.bool false) h) (zq (zo.l5 C N Q t u w g i c d e f) [(.int .i64 0)] h)
@[simp] def zo.k7(Q:zQ)(b a g i j:za)(h:zb):Prop:=B.call C (N 491) [a,b] h λc h=>B.call C (N 491) [a,b] h λd h=>B.call C (N 492) [a] h λe h=>B.call C (N 492) [a] h λf h=>zo.k6 C N Q b a g i j c d e f h
@[simp] def zo.k8(Q:zQ)(Y3:zL)(d b a e c:za)(h:zb):Prop:=B.pv (V.zcj d) λf=>B.pv (V.bin .lss c f) λg=>B.cond g (B.pv (V.zcp 3 d c) λi=>B.ldn h i 3 λj=>B.call C (N 484) [a,e,j] h λk h=>B.pv (V.un .not k) λl=>B.cond l (Q (.bool false) h) (B.pv (V.bin .add c (.int .i64 1)) λm=>Y3 [m] h)) (B.call C (N 490) [a,b] h λn h=>B.call C (N 490) [a,b] h λo h=>zo.k7 C N Q b a e n o h)
@[simp] def zo.l9(Q:zQ)(a b c d:za):zG|[e],h,Y3=>zo.k8 C N Q Y3 a b c d e h|_,_,_=>False
@[simp] def zo.k10(Q:zQ)(d e:za)(h:zb):Prop:=B.call C (N 485) [] h λa h=>B.pv (A.bld [] [.zdo,.int .i64 0]) λb=>B.zha h (A.zj4 2 b) λc h=>zq (zo.l9 C N Q d e a (.ptr c 0 0)) [(.int .i64 0)] h
@[simp] def zo.k11(Q:zQ)(c e:za)(h:zb):Prop:=B.pv (V.zcj c) λf=>B.pv (V.bin .gtr f (.int .i64 60)) λg=>B.cond g (B.pv (V.zjp 3 c none (some (.int .i64 60))) λd=>B.call C (N 486) [d] h λa h=>B.cond a (B.call C (N 482) [] h λb h=>Q b h) (zo.k10 C N Q d e h)) (B.call C (N 486) [c] h λa h=>B.cond a (B.call C (N 482) [] h λb h=>Q b h) (zo.k10 C N Q c e h))
@[simp] def zo.cps(a b:za)(h:zb)(Q:zQ):Prop:=zo.k11 C N Q a b h
def zo.Imp:Prop:=im2 C (N 549) (zo.cps C N)
@[simp] def zf3.cps(C:z6)(N:zN)(h:zb)(Q:zQ):Prop:=B.zmj h λa h=>B.pv (A.bld [(0,none,a)] [.zri,.int .i64 0]) λb=>B.zha h (A.zj4 2 b) λc h=>Q (.ptr c 0 0) h
variable(C:z6)(N:Nat→Nat)
def zf3.Imp:Prop:=im0 C (N 485) (zf3.cps C N)
@[simp] def zda.k1(Q:zQ)(a b:za)(h:zb):Prop:=B.call C (N 505) [a] h λc h=>B.cond c (B.nilCheck a λd=>B.pv (V.fieldAddr 0 d) λe=>B.ld h e λf=>B.mdel h .i f b λ_ h=>Q (.tup []) h) (Q (.tup []) h)
@[simp] def zda.cps(a b:za)(h:zb)(Q:zQ):Prop:=zda.k1 C N Q a b h
def zda.Imp:Prop:=im2 C (N 488) (zda.cps C N)
@[simp] def z8.k1(Q:zQ)(c a b:za)(h:zb):Prop:=B.nilCheck a λk=>B.pv (V.fieldAddr 1 k) λl=>B.ld h l λm=>B.call C (N 506) [c,a,m,b] h λn h=>B.pv (V.zcj n) λo=>B.pv (V.bin .gtr o (.int .i64 0)) λp=>B.cond p (B.nilCheck c λq=>B.pv (V.fieldAddr 1 q) λr=>B.ld h r λs=>B.pv (V.max2 s b) λt=>B.nilCheck a λu=>B.pv (V.fieldAddr 2 u) λv=>B.st h v b λh=>B.nilCheck c λw=>B.pv (V.fieldAddr 1 w) λx=>B.st h x t λh=>Q (.bool false) h) (B.nilCheck a λy=>B.pv (V.fieldAddr 0 y) λz=>B.ld h z λaa=>B.nilCheck a λab=>B.pv (V.fieldAddr 1 ab) λac=>B.ld h ac λd=>B.call C (N 507) [aa,d] h λad h=>B.zmj h λe h=>B.nilCheck a λf=>B.pv (V.fieldAddr 1 f) λg=>B.st h g e λh=>B.nilCheck a λi=>B.pv (V.fieldAddr 2 i) λj=>B.st h j (.int .i64 0) λh=>Q (.bool true) h)
@[simp] def z8.k2(Q:zQ)(b c a:za)(h:zb):Prop:=B.pv (V.bin .eql a (.int .i64 0)) λd=>B.cond d (B.nilCheck b λe=>B.pv (V.fieldAddr 1 e) λf=>B.ld h f λg=>B.pv (V.bin .add g (.int .i64 1)) λi=>z8.k1 C N Q b c i h) (z8.k1 C N Q b c a h)
@[simp] def z8.k3(Q:zQ)(Y1:zL)(v0 c f g b:za)(h:zb):Prop:=B.pv (V.bin .lss b g) λi=>B.cond i (B.pv (V.zcp 1 f b) λj=>B.ld h j λe=>B.nilCheck c λk=>B.pv (V.fieldAddr 0 k) λl=>B.ld h l λm=>B.call C (N 508) [m,e] h λn h=>B.pv (V.un .not n) λa=>B.gd h a true (λK=>K c h) λo h=>B.gd h a true (λK=>B.nilCheck o λv=>K v h) λp h=>B.gd h a true (λK=>B.pv (V.fieldAddr 0 p) λv=>K v h) λq h=>B.gd h a true (λK=>B.ld h q λv=>K v h) λr h=>B.gd h a true (λK=>B.call C (N 508) [r,(.str [42])] h K) λt h=>B.gd h a true (λK=>B.pv (V.un .not t) λv=>K v h) λu h=>B.pick a u (.bool false) λw=>B.cond w (B.nilCheck c λx=>B.pv (V.fieldAddr 1 x) λy=>B.ld h y λz=>B.mset h .s z e (.int .i64 1) λh=>B.pv (V.bin .add b (.int .i64 1)) λd=>Y1 [d] h) (B.pv (V.bin .add b (.int .i64 1)) λd=>Y1 [d] h)) (B.nilCheck c λaa=>B.pv (V.fieldAddr 2 aa) λab=>B.ld h ab λac=>z8.k2 C N Q v0 c ac h)
@[simp] def z8.l4(Q:zQ)(d e a b:za):zG|[c],h,Y1=>z8.k3 C N Q Y1 d e a b c h|_,_,_=>False
@[simp] def z8.k5(Q:zQ)(d o b e:za)(h:zb):Prop:=B.pv (V.zif .eql e .zm8) λf=>B.cond f (B.zmj h λg h=>B.zmj h λj h=>B.pv (A.bld [(0,none,g),(1,none,j)] [.zri,.zri,.int .i64 0]) λk=>B.zha h (A.zj4 3 k) λc h=>B.nilCheck d λl=>B.pv (V.fieldAddr 0 l) λm=>B.ld h m λn=>B.mset h .i n o (.ptr c 0 0) λh=>B.pv (V.zcj b) λa=>zq (z8.l4 C N Q d (.ptr c 0 0) b a) [(.int .i64 0)] h) (B.pv (V.zcj b) λa=>zq (z8.l4 C N Q d e b a) [(.int .i64 0)] h)
@[simp] def z8.k6(Q:zQ)(a b g:za)(h:zb):Prop:=B.nilCheck a λc=>B.pv (V.fieldAddr 0 c) λd=>B.ld h d λe=>B.pv (A.lkp h (some .i) (some (.zm8)) false e b) λf=>z8.k5 C N Q a b g f h
@[simp] def z8.cps(a d e:za)(h:zb)(Q:zQ):Prop:=B.call C (N 505) [a] h λb h=>B.pv (V.un .not b) λc=>B.cond c (Q (.bool false) h) (z8.k6 C N Q a d e h)
def z8.Imp:Prop:=im3 C (N 489) (z8.cps C N)
@[simp] def zcx.k1(Q:zQ)(b c:za)(h:zb):Prop:=B.call C (N 505) [b] h λw h=>B.pv (V.un .not w) λa=>B.gd h a false (λK=>K b h) λx h=>B.gd h a false (λK=>B.nilCheck x λv=>K v h) λd h=>B.gd h a false (λK=>B.pv (V.fieldAddr 0 d) λv=>K v h) λe h=>B.gd h a false (λK=>B.ld h e λv=>K v h) λf h=>B.gd h a false (λK=>K c h) λg h=>B.gd h a false (λK=>B.pv (A.lkp h (some .i) (some (.zm8)) false f g) λv=>K v h) λj h=>B.gd h a false (λK=>B.pv (V.zif .eql j .zm8) λv=>K v h) λk h=>B.pick a (.bool true) k λl=>B.cond l (Q .zdo h) (B.nilCheck b λm=>B.pv (V.fieldAddr 0 m) λn=>B.ld h n λo=>B.pv (A.lkp h (some .i) (some (.zm8)) false o c) λp=>B.nilCheck p λq=>B.pv (V.fieldAddr 0 q) λr=>B.ld h r λs=>B.call C (N 509) [s] h λt h=>B.call C (N 510) [t] h λu h=>Q u h)
@[simp] def zcx.cps(a b:za)(h:zb)(Q:zQ):Prop:=zcx.k1 C N Q a b h
def zcx.Imp:Prop:=im2 C (N 490) (zcx.cps C N)
@[simp] def zcd.k1(Q:zQ)(c e:za)(h:zb):Prop:=B.call C (N 505) [c] h λv7 h=>B.pv (V.un .not v7) λb=>B.gd h b false (λK=>K c h) λf h=>B.gd h b false (λK=>B.nilCheck f λv=>K v h) λg h=>B.gd h b false (λK=>B.pv (V.fieldAddr 0 g) λv=>K v h) λj h=>B.gd h b false (λK=>B.ld h j λv=>K v h) λk h=>B.gd h b false (λK=>K e h) λl h=>B.gd h b false (λK=>B.pv (A.lkp h (some .i) (some (.zm8)) false k l) λv=>K v h) λm h=>B.gd h b false (λK=>B.pv (V.zif .eql m .zm8) λv=>K v h) λn h=>B.pick b (.bool true) n λa=>B.gd h a false (λK=>K c h) λo h=>B.gd h a false (λK=>B.nilCheck o λv=>K v h) λp h=>B.gd h a false (λK=>B.pv (V.fieldAddr 0 p) λv=>K v h) λq h=>B.gd h a false (λK=>B.ld h q λv=>K v h) λr h=>B.gd h a false (λK=>K e h) λs h=>B.gd h a false (λK=>B.pv (A.lkp h (some .i) (some (.zm8)) false r s) λv=>K v h) λt h=>B.gd h a false (λK=>B.nilCheck t λv=>K v h) λu h=>B.gd h a false (λK=>B.pv (V.fieldAddr 2 u) λv=>K v h) λw h=>B.gd h a false (λK=>B.ld h w λv=>K v h) λx h=>B.gd h a false (λK=>B.pv (V.bin .eql x (.int .i64 0)) λv=>K v h) λy h=>B.pick a (.bool true) y λz=>B.cond z (Q .zdo h) (B.nilCheck c λaa=>B.pv (V.fieldAddr 0 aa) λab=>B.ld h ab λac=>B.pv (A.lkp h (some .i) (some (.zm8)) false ac e) λd=>B.nilCheck d λad=>B.pv (V.fieldAddr 1 ad) λae=>B.ld h ae λaf=>B.nilCheck d λag=>B.pv (V.fieldAddr 2 ag) λah=>B.ld h ah λai=>B.call C (N 506) [c,d,af,ai] h λaj h=>Q aj h)
@[simp] def zcd.cps(a b:za)(h:zb)(Q:zQ):Prop:=zcd.k1 C N Q a b h
def zcd.Imp:Prop:=im2 C (N 491) (zcd.cps C N)
@[simp] def zy.k1(Q:zQ)(Y1:zL)(Y2:zL)(l m a b:za)(h:zb):Prop:=B.zfc h b λd h=>B.pv (V.ext 0 d) λe=>B.cond e (B.pv (A.zgp h b) λf=>B.pv (V.ext 0 f) λc=>B.call C (N 512) [l,c] h λg h=>B.call C (N 513) [g,m] h λi h=>B.cond i (B.zha h (zeu [(0,none,c)] (zhu 1 [.int .i64 0])) λj h=>B.zjc h 1 8 a (.sl j 0 0 1 1 1) λk h=>Y2 [k] h) (Y2 [a] h)) (B.call C (N 511) [a] h λn h=>Q a h)
@[simp] def zy.l2(Q:zQ)(Y1:zL)(b c a:za):zG|[d],h,Y2=>zy.k1 C N Q Y1 Y2 b c d a h|_,_,_=>False
@[simp] def zy.k3(Q:zQ)(Y1:zL)(i a b j k c:za)(h:zb):Prop:=B.call C (N 513) [b,a] h λd h=>B.pv (V.un .not d) λe=>B.cond e (B.pv (V.bin .add c (.int .i64 1)) λf=>Y1 [f] h) (B.rangeMap h b λg h=>zq (zy.l2 C N Q Y1 i a g) [.zdo] h)
@[simp] def zy.k4(Q:zQ)(Y1:zL)(d a e b:za)(h:zb):Prop:=B.pv (V.zcp 1 a b) λf=>B.ld h f λc=>B.call C (N 512) [d,c] h λg h=>zy.k3 C N Q Y1 d c g a e b h
@[simp] def zy.l5(Q:zQ)(e c a:za):zG|[b],h,Y1=>B.pv (V.bin .lss b a) λd=>B.cond d (zy.k4 C N Q Y1 e c a b h) (Q .zdo h)|_,_,_=>False
@[simp] def zy.k6(Q:zQ)(b:za)(h:zb):Prop:=B.nilCheck b λc=>B.pv (V.fieldAddr 0 c) λd=>B.ld h d λe=>B.call C (N 514) [e] h λf h=>B.call C (N 515) [f] h λa h=>B.pv (V.zcj a) λg=>zq (zy.l5 C N Q b a g) [(.int .i64 0)] h
@[simp] def zy.cps(a:za)(h:zb)(Q:zQ):Prop:=B.call C (N 505) [a] h λc h=>B.pv (V.un .not c) λb=>B.cond b (Q .zdo h) (zy.k6 C N Q a h)
def zy.Imp:Prop:=im1 C (N 492) (zy.cps C N)
@[simp] def zc5.k1(C:z6)(N:zN)(Q:zQ)(b:za)(h:zb):Prop:=B.pv (V.zif .neq b .zm8) λa=>B.gd h a true (λK=>K b h) λe h=>B.gd h a true (λK=>B.nilCheck e λv=>K v h) λf h=>B.gd h a true (λK=>B.pv (V.fieldAddr 0 f) λv=>K v h) λg h=>B.gd h a true (λK=>B.ld h g λv=>K v h) λi h=>B.gd h a true (λK=>B.pv (V.eqMap .neq i .zri) λv=>K v h) λc h=>B.pick a c (.bool false) λd=>Q d h
@[simp] def zc5.cps(a:za)(h:zb)(Q:zQ):Prop:=zc5.k1 C N Q a h
def zc5.Imp:Prop:=im1 C (N 505) (zc5.cps C N)
@[simp] def zbm.k1(Q:zQ)(Y1:zL)(l a b:za)(h:zb):Prop:=B.zfc h b λd h=>B.pv (V.ext 0 d) λe=>B.cond e (B.pv (A.zgp h b) λc=>B.pv (V.ext 0 c) λf=>B.pv (V.ext 1 c) λg=>B.zmf h C l [g] λi h=>B.cond i (B.zha h (zeu [(0,none,f)] (zhu 1 [.int .i64 0])) λj h=>B.zjc h 1 8 a (.sl j 0 0 1 1 1) λk h=>Y1 [k] h) (Y1 [a] h)) (B.call C (N 511) [a] h λm h=>Q a h)
@[simp] def zbm.l2(Q:zQ)(c a:za):zG|[b],h,Y1=>zbm.k1 C N Q Y1 c b a h|_,_,_=>False
@[simp] def zbm.k3(Q:zQ)(f g a:za)(h:zb):Prop:=B.nilCheck f λb=>B.pv (V.fieldAddr 0 b) λc=>B.ld h c λd=>B.rangeMap h d λe h=>zq (zbm.l2 C N Q g e) [a] h
@[simp] def zbm.k4(Q:zQ)(a b c d:za)(h:zb):Prop:=B.zha h (A.zk4 b) λe h=>B.zha h (A.zk4 c) λf h=>B.zha h (A.zk4 d) λg h=>zbm.k3 C N Q a (.fn (N 523) [] [(.ptr e 0 0),(.ptr f 0 0),(.ptr g 0 0)]) .zdo h
@[simp] def zbm.cps(a b c d:za)(h:zb)(Q:zQ):Prop:=zbm.k4 C N Q a b c d h
def zbm.Imp:Prop:=im4 C (N 506) (zbm.cps C N)
@[simp] def zcb.cps(C:z6)(N:zN)(a b:za)(h:zb)(Q:zQ):Prop:=B.pv (A.lkp h (some .s) (some (.int .i64 0)) false a b) λc=>B.pv (V.bin .gtr c (.int .i64 0)) λd=>Q d h
def zcb.Imp:Prop:=im2 C (N 508) (zcb.cps C N)
@[simp] def zch.k1(Q:zQ)(d e:za)(h:zb):Prop:=B.zha h (A.zk4 d) λf h=>B.zmj h λg h=>B.zha h (some [.zri]) λa h=>B.st h (.ptr a 0 0) g λh=>B.zha h (some [.nilf]) λb h=>B.st h (.ptr b 0 0) (.fn (N 526) [] [(.ptr f 0 0),(.ptr a 0 0),(.ptr b 0 0)]) λh=>B.ld h (.ptr b 0 0) λi=>B.zmf h C i [e] λj h=>B.ld h (.ptr a 0 0) λc=>Q c h
@[simp] def zch.cps(a b:za)(h:zb)(Q:zQ):Prop:=zch.k1 C N Q a b h
def zch.Imp:Prop:=im2 C (N 512) (zch.cps C N)
@[simp] def zcc.cps(C:z6)(N:zN)(a b:za)(h:zb)(Q:zQ):Prop:=B.pv (A.lkp h (some .i) (some (.int .i64 0)) false a b) λc=>B.pv (V.bin .gtr c (.int .i64 0)) λd=>Q d h
def zcc.Imp:Prop:=im2 C (N 513) (zcc.cps C N)
@[simp] def zc7.k1(Q:zQ)(e v1 f v3:za)(h:zb):Prop:=B.ld h v1 λv7=>B.pv (A.zif h 3 .neq e v7) λd=>B.gd h d true (λK=>K e h) λg h=>B.gd h d true (λK=>B.nilCheck g λv=>K v h) λi h=>B.gd h d true (λK=>B.pv (V.fieldAddr 0 i) λv=>K v h) λj h=>B.gd h d true (λK=>B.ld h j λv=>K v h) λk h=>B.gd h d true (λK=>B.ld h f λv=>K v h) λl h=>B.gd h d true (λK=>B.call C (N 528) [k,l] h K) λm h=>B.gd h d true (λK=>K m h) λa h=>B.gd h a false (λK=>K e h) λn h=>B.gd h a false (λK=>B.nilCheck n λv=>K v h) λo h=>B.gd h a false (λK=>B.pv (V.fieldAddr 2 o) λv=>K v h) λp h=>B.gd h a false (λK=>B.ld h p λv=>K v h) λq h=>B.gd h a false (λK=>B.pv (V.bin .gtr q (.int .i64 0)) λv=>K v h) λr h=>B.gd h a false (λK=>K r h) λb h=>B.gd h b true (λK=>K e h) λs h=>B.gd h b true (λK=>B.nilCheck s λv=>K v h) λt h=>B.gd h b true (λK=>B.pv (V.fieldAddr 2 t) λv=>K v h) λu h=>B.gd h b true (λK=>B.ld h u λv=>K v h) λw h=>B.gd h b true (λK=>B.ld h v3 λv=>K v h) λx h=>B.gd h b true (λK=>B.pv (V.bin .lss w x) λv=>K v h) λy h=>B.gd h a false (λK=>B.pick b y (.bool false) λv=>K v h) λz h=>B.gd h a false (λK=>K z h) λc h=>B.gd h c true (λK=>K e h) λaa h=>B.gd h c true (λK=>B.nilCheck aa λv=>K v h) λab h=>B.gd h c true (λK=>B.pv (V.fieldAddr 1 ab) λv=>K v h) λac h=>B.gd h c true (λK=>B.ld h ac λv=>K v h) λad h=>B.gd h c true (λK=>B.ld h f λv=>K v h) λae h=>B.gd h c true (λK=>B.call C (N 528) [ad,ae] h K) λaf h=>B.gd h a false (λK=>B.pick c af (.bool false) λv=>K v h) λag h=>B.gd h d true (λK=>B.pick a (.bool true) ag λv=>K v h) λah h=>B.pick d ah (.bool false) λai=>Q ai h
@[simp] def zc7.cps(a b c d:za)(h:zb)(Q:zQ):Prop:=zc7.k1 C N Q a b c d h
def zc7.Imp:Prop:=im4 C (N 523) (zc7.cps C N)
@[simp] def zbo.k1(Q:zQ)(Y1:zL)(d o p e a:za)(h:zb):Prop:=B.pv (V.bin .lss a e) λf=>B.cond f (B.pv (V.zcp 1 p a) λg=>B.ld h g λb=>B.ld h d λj=>B.call C (N 513) [j,b] h λk h=>B.pv (V.un .not k) λl=>B.cond l (B.ld h d λm=>B.mset h .i m b (.int .i64 1) λh=>B.ld h o λn=>B.zmf h C n [b] λq h=>B.pv (V.bin .add a (.int .i64 1)) λc=>Y1 [c] h) (B.pv (V.bin .add a (.int .i64 1)) λc=>Y1 [c] h)) (Q (.tup []) h)
@[simp] def zbo.l2(Q:zQ)(c d e a:za):zG|[b],h,Y1=>zbo.k1 C N Q Y1 c d e a b h|_,_,_=>False
@[simp] def zbo.k3(Q:zQ)(c d e f:za)(h:zb):Prop:=B.ld h d λg=>B.call C (N 491) [g,c] h λa h=>B.pv (V.zcj a) λb=>zq (zbo.l2 C N Q e f a b) [(.int .i64 0)] h
@[simp] def zbo.cps(a b c d:za)(h:zb)(Q:zQ):Prop:=zbo.k3 C N Q a b c d h
def zbo.Imp:Prop:=im4 C (N 526) (zbo.cps C N)
@[simp] def zdv.k1(Q:zQ)(Y1:zL)(g a:za)(h:zb):Prop:=B.zfc h a λb h=>B.pv (V.ext 0 b) λc=>B.cond c (B.pv (A.zgp h a) λd=>B.pv (V.ext 0 d) λe=>B.call C (N 508) [g,e] h λf h=>B.cond f (Q (.bool true) h) (Y1 [] h)) (Q (.bool false) h)
@[simp] def zdv.l2(Q:zQ)(b a:za):zG|[],h,Y1=>zdv.k1 C N Q Y1 b a h|_,_,_=>False
@[simp] def zdv.k3(Q:zQ)(b c:za)(h:zb):Prop:=B.call C (N 508) [b,(.str [42])] h λa h=>B.gd h a false (λK=>K c h) λd h=>B.gd h a false (λK=>B.call C (N 508) [d,(.str [42])] h K) λe h=>B.pick a (.bool true) e λf=>B.cond f (Q (.bool true) h) (B.rangeMap h b λg h=>zq (zdv.l2 C N Q c g) [] h)
@[simp] def zdv.k4(Q:zQ)(b c:za)(h:zb):Prop:=B.pv (A.zm9 h b) λi=>B.pv (V.bin .eql i (.int .i64 0)) λa=>B.gd h a false (λK=>K c h) λd h=>B.gd h a false (λK=>B.pv (A.zm9 h d) λv=>K v h) λe h=>B.gd h a false (λK=>B.pv (V.bin .eql e (.int .i64 0)) λv=>K v h) λf h=>B.pick a (.bool true) f λg=>B.cond g (Q (.bool false) h) (zdv.k3 C N Q b c h)
@[simp] def zdv.cps(a b:za)(h:zb)(Q:zQ):Prop:=zdv.k4 C N Q a b h
def zdv.Imp:Prop:=im2 C (N 528) (zdv.cps C N)
@[simp] def zg.k1(C:z6)(N:zN)(Q:zQ)(Y1:zL)(e b:za)(h:zb):Prop:=B.zfc h b λf h=>B.pv (V.ext 0 f) λg=>B.cond g (B.pv (A.zgp h b) λa=>B.pv (V.ext 0 a) λc=>B.pv (V.ext 1 a) λd=>B.mset h .s e c d λh=>Y1 [] h) (Q (.tup []) h)
variable(C:z6)(N:Nat→Nat)
@[simp] def zg.l2(Q:zQ)(a b:za):zG|[],h,Y1=>zg.k1 C N Q Y1 a b h|_,_,_=>False
@[simp] def zg.cps(a b:za)(h:zb)(Q:zQ):Prop:=B.rangeMap h b λc h=>zq (zg.l2 C N Q a c) [] h
def zg.Imp:Prop:=im2 C (N 507) (zg.cps C N)
@[simp] def zbp.cps(C:z6)(N:zN)(a:za)(h:zb)(Q:zQ):Prop:=B.zha h (A.zk4 a) λb h=>Q (.fn (N 524) [] [(.ptr b 0 0)]) h
def zbp.Imp:Prop:=im1 C (N 509) (zbp.cps C N)
@[simp] def zba.cps(C:z6)(N:zN)(a:za)(h:zb)(Q:zQ):Prop:=B.zha h (A.zk4 a) λb h=>Q (.fn (N 525) [] [(.ptr b 0 0)]) h
def zba.Imp:Prop:=im1 C (N 514) (zba.cps C N)
@[simp] def zu.k1(C:z6)(N:zN)(Q:zQ)(Y1:zL)(d a:za)(h:zb):Prop:=B.zfc h a λe h=>B.pv (V.ext 0 e) λf=>B.cond f (B.pv (A.zgp h a) λg=>B.pv (V.ext 0 g) λi=>B.zmf h C d [i] λb h=>B.pv (V.un .not b) λc=>B.cond c (Q (.tup []) h) (Y1 [] h)) (Q (.tup []) h)
@[simp] def zu.l2(Q:zQ)(a b:za):zG|[],h,Y1=>zu.k1 C N Q Y1 a b h|_,_,_=>False
@[simp] def zu.cps(a b:za)(h:zb)(Q:zQ):Prop:=B.ld h b λc=>B.rangeMap h c λd h=>zq (zu.l2 C N Q a d) [] h
def zu.Imp:Prop:=im2 C (N 524) (zu.cps C N)
@[simp] def zn.k1(C:z6)(N:zN)(Q:zQ)(Y1:zL)(d a:za)(h:zb):Prop:=B.zfc h a λe h=>B.pv (V.ext 0 e) λf=>B.cond f (B.pv (A.zgp h a) λg=>B.pv (V.ext 0 g) λi=>B.zmf h C d [i] λb h=>B.pv (V.un .not b) λc=>B.cond c (Q (.tup []) h) (Y1 [] h)) (Q (.tup []) h)
@[simp] def zn.l2(Q:zQ)(a b:za):zG|[],h,Y1=>zn.k1 C N Q Y1 a b h|_,_,_=>False
@[simp] def zn.cps(a b:za)(h:zb)(Q:zQ):Prop:=B.ld h b λc=>B.rangeMap h c λd h=>zq (zn.l2 C N Q a d) [] h
def zn.Imp:Prop:=im2 C (N 525) (zn.cps C N)
variable(C:z6)(N:Nat→Nat)
@[simp] def zd9.k1(Q:zQ)(a:za)(h:zb):Prop:=B.cond (.bool false) (B.pv (V.toInt .u32 a) λb=>B.call C (N 304) [b] h λc h=>Q c h) (B.call C (N 305) [a] h λd h=>Q d h)
@[simp] def zd9.cps(a:za)(h:zb)(Q:zQ):Prop:=zd9.k1 C N Q a h
def zd9.Imp:Prop:=im1 C (N 287) (zd9.cps C N)
@[simp] def zbn.k1(C:z6)(N:zN)(Q:zQ)(e f:za)(h:zb):Prop:=B.pv (V.toInt .u8 e) λa=>B.pv (V.zqc (.str [0,1,2,2,3,3,3,3,4,4,4,4,4,4,4,4,5,5,5,5,5,5,5,5,5,5,5,5,5,5,5,5,6,6,6,6,6,6,6,6,6,6,6,6,6,6,6,6,6,6,6,6,6,6,6,6,6,6,6,6,6,6,6,6,7,7,7,7,7,7,7,7,7,7,7,7,7,7,7,7,7,7,7,7,7,7,7,7,7,7,7,7,7,7,7,7,7,7,7,7,7,7,7,7,7,7,7,7,7,7,7,7,7,7,7,7,7,7,7,7,7,7,7,7,7,7,7,7,8,8,8,8,8,8,8,8,8,8,8,8,8,8,8,8,8,8,8,8,8,8,8,8,8,8,8,8,8,8,8,8,8,8,8,8,8,8,8,8,8,8,8,8,8,8,8,8,8,8,8,8,8,8,8,8,8,8,8,8,8,8,8,8,8,8,8,8,8,8,8,8,8,8,8,8,8,8,8,8,8,8,8,8,8,8,8,8,8,8,8,8,8,8,8,8,8,8,8,8,8,8,8,8,8,8,8,8,8,8,8,8,8,8,8,8,8,8,8,8,8,8,8,8,8,8,8,8]) a) λb=>B.pv (V.toInt .i64 b) λc=>B.pv (V.bin .add f c) λd=>Q d h
@[simp] def zbn.k2(Q:zQ)(a b:za)(h:zb):Prop:=B.pv (V.bin .geq a (.int .u64 256)) λc=>B.cond c (B.pv (V.bin .shr a (.int .u64 8)) λd=>B.pv (V.bin .add b (.int .i64 8)) λe=>zbn.k1 C N Q d e h) (zbn.k1 C N Q a b h)
@[simp] def zbn.k3(Q:zQ)(a b:za)(h:zb):Prop:=B.pv (V.bin .geq a (.int .u64 65536)) λe=>B.cond e (B.pv (V.bin .shr a (.int .u64 16)) λc=>B.pv (V.bin .add b (.int .i64 16)) λd=>zbn.k2 C N Q c d h) (zbn.k2 C N Q a b h)
@[simp] def zbn.k4(Q:zQ)(a b:za)(h:zb):Prop:=B.pv (V.bin .geq a (.int .u64 4294967296)) λc=>B.cond c (B.pv (V.bin .shr a (.int .u64 32)) λd=>zbn.k3 C N Q d (.int .i64 32) h) (zbn.k3 C N Q a b h)
@[simp] def zbn.cps(a:za)(h:zb)(Q:zQ):Prop:=zbn.k4 C N Q a (.int .i64 0) h
def zbn.Imp:Prop:=im1 C (N 305) (zbn.cps C N)
variable(C:z6)(N:Nat→Nat)
@[simp] def zc6.k1(Q:zQ)(a q:za)(h:zb):Prop:=B.call C (N 516) [a,q] h λc h=>B.pv (V.bin .geq c (.int .i64 0)) λr=>B.cond r (B.nilCheck a λd=>B.pv (V.fieldAddr 0 d) λe=>B.ld h e λf=>B.pv (V.zjp 4 f none (some c)) λg=>B.nilCheck a λi=>B.pv (V.fieldAddr 0 i) λb=>B.ld h b λj=>B.pv (V.bin .add c (.int .i64 1)) λk=>B.pv (V.zjp 4 j (some k) none) λl=>B.zjc h 4 64 .sz g (B.zlb h [(b,none)] (λm h=>B.zjc h 4 64 m l λn h=>B.nilCheck a λo=>B.pv (V.fieldAddr 0 o) λp=>B.st h p n λh=>Q (.tup []) h))) (Q (.tup []) h)
@[simp] def zc6.cps(a b:za)(h:zb)(Q:zQ):Prop:=zc6.k1 C N Q a b h
def zc6.Imp:Prop:=im2 C (N 500) (zc6.cps C N)
@[simp] def zj.k1(C:z6)(N:zN)(Q:zQ)(e:za)(h:zb):Prop:=B.nilCheck e λa=>B.pv (V.fieldAddr 2 a) λb=>B.st h b .zdo λh=>B.nilCheck e λc=>B.pv (V.fieldAddr 3 c) λd=>B.st h d (.int .i64 0) λh=>Q (.bool true) h
@[simp] def zj.k2(Q:zQ)(Y1:zL)(b o a:za)(h:zb):Prop:=B.pv (V.zcj o) λc=>B.pv (V.bin .lss a c) λd=>B.cond d (B.nilCheck b λe=>B.pv (V.fieldAddr 1 e) λf=>B.ld h f λg=>B.pv (V.zcp 1 o a) λi=>B.ld h i λj=>B.call C (N 517) [g,j] h λk h=>B.nilCheck b λl=>B.pv (V.fieldAddr 1 l) λm=>B.st h m k λh=>B.pv (V.bin .add a (.int .i64 1)) λn=>Y1 [n] h) (zj.k1 C N Q b h)
@[simp] def zj.l3(Q:zQ)(b c:za):zG|[a],h,Y1=>zj.k2 C N Q Y1 b c a h|_,_,_=>False
@[simp] def zj.k4(Q:zQ)(n b o a p:za)(h:zb):Prop:=B.cond p (B.nilCheck b λc=>B.pv (V.fieldAddr 2 c) λd=>B.st h d o λh=>B.nilCheck b λe=>B.pv (V.fieldAddr 3 e) λf=>B.st h f a λh=>B.nilCheck n λg=>B.pv (V.fieldAddr 1 g) λi=>B.ld h i λj=>B.pv (V.max2 j a) λk=>B.nilCheck n λl=>B.pv (V.fieldAddr 1 l) λm=>B.st h m k λh=>Q (.bool false) h) (zq (zj.l3 C N Q b o) [(.int .i64 0)] h)
@[simp] def zj.k5(Q:zQ)(Y2:zL)(e v7 v8 u d b c:za)(h:zb):Prop:=B.nilCheck e λw=>B.pv (V.fieldAddr 0 w) λx=>B.ld h x λy=>B.pv (V.zcj y) λz=>B.pv (V.bin .lss c z) λaa=>B.cond aa (B.gd h b false (λK=>K c h) λab h=>B.gd h b false (λK=>K v7 h) λf h=>B.gd h b false (λK=>B.pv (V.bin .neq ab f) λv=>K v h) λg h=>B.gd h b false (λK=>K g h) λa h=>B.gd h a true (λK=>K e h) λi h=>B.gd h a true (λK=>B.nilCheck i λv=>K v h) λj h=>B.gd h a true (λK=>B.pv (V.fieldAddr 0 j) λv=>K v h) λk h=>B.gd h a true (λK=>B.ld h k λv=>K v h) λl h=>B.gd h a true (λK=>K c h) λm h=>B.gd h a true (λK=>B.pv (V.zcp 4 l m) λv=>K v h) λn h=>B.gd h a true (λK=>B.ldn h n 4 λv=>K v h) λo h=>B.gd h a true (λK=>K u h) λp h=>B.gd h a true (λK=>K d h) λq h=>B.gd h a true (λK=>B.call C (N 518) [o,p,q] h K) λr h=>B.gd h b false (λK=>B.pick a r (.bool false) λv=>K v h) λs h=>B.pick b (.bool true) s λt=>B.pv (V.bin .add c (.int .i64 1)) λac=>Y2 [t,ac] h) (zj.k4 C N Q e v8 u d b h)
@[simp] def zj.l6(Q:zQ)(d e f g a:za):zG|[b,c],h,Y2=>zj.k5 C N Q Y2 d e f g a b c h|_,_,_=>False
@[simp] def zj.k7(Q:zQ)(b c d e a:za)(h:zb):Prop:=B.pv (V.bin .eql a (.int .i64 0)) λf=>B.cond f (B.nilCheck b λg=>B.pv (V.fieldAddr 1 g) λi=>B.ld h i λj=>B.pv (V.bin .add j (.int .i64 1)) λk=>zq (zj.l6 C N Q b c d e k) [(.bool false),(.int .i64 0)] h) (zq (zj.l6 C N Q b c d e a) [(.bool false),(.int .i64 0)] h)
@[simp] def zj.k8(Q:zQ)(Y3:zL)(v0 e v7 d f b:za)(h:zb):Prop:=B.pv (V.zcj e) λg=>B.pv (V.bin .lss b g) λi=>B.cond i (B.nilCheck d λj=>B.pv (V.fieldAddr 1 j) λk=>B.ld h k λl=>B.pv (V.zcp 1 e b) λm=>B.ld h m λn=>B.call C (N 519) [l,n] h λo h=>B.pv (V.un .not o) λa=>B.gd h a true (λK=>K d h) λp h=>B.gd h a true (λK=>B.nilCheck p λv=>K v h) λq h=>B.gd h a true (λK=>B.pv (V.fieldAddr 1 q) λv=>K v h) λr h=>B.gd h a true (λK=>B.ld h r λv=>K v h) λs h=>B.gd h a true (λK=>B.call C (N 519) [s,(.str [42])] h K) λt h=>B.gd h a true (λK=>B.pv (V.un .not t) λv=>K v h) λu h=>B.pick a u (.bool false) λw=>B.cond w (B.pv (V.zcp 1 e b) λx=>B.ld h x λy=>B.call C (N 517) [f,y] h λz h=>B.pv (V.bin .add b (.int .i64 1)) λc=>Y3 [z,c] h) (B.pv (V.bin .add b (.int .i64 1)) λc=>Y3 [f,c] h)) (B.nilCheck d λaa=>B.pv (V.fieldAddr 3 aa) λab=>B.ld h ab λac=>zj.k7 C N Q v0 v7 d f ac h)
@[simp] def zj.l9(Q:zQ)(b c d e:za):zG|[f,a],h,Y3=>zj.k8 C N Q Y3 b c d e f a h|_,_,_=>False
@[simp] def zj.k10(Q:zQ)(e f g a:za)(h:zb):Prop:=B.nilCheck a λb=>B.pv (V.fieldAddr 2 b) λc=>B.ld h c λd=>zq (zj.l9 C N Q e f g a) [d,(.int .i64 0)] h
@[simp] def zj.k11(Q:zQ)(a g b:za)(h:zb):Prop:=B.nilCheck a λc=>B.pv (V.fieldAddr 0 c) λd=>B.ld h d λe=>B.pv (V.zcp 4 e b) λf=>zj.k10 C N Q a g b f h
@[simp] def zj.k12(Q:zQ)(a s b c:za)(h:zb):Prop:=B.pv (V.bin .lss c (.int .i64 0)) λd=>B.cond d (B.nilCheck a λe=>B.pv (V.fieldAddr 0 e) λf=>B.ld h f λg=>B.pv (A.bld [(0,none,s)] [.int .i64 0,.zdo,.zdo,.int .i64 0]) λi=>B.zha h (zeu [(0,some 4,i)] (zhu 1 [.int .i64 0,.zdo,.zdo,.int .i64 0])) λj h=>B.zjc h 4 64 g (.sl j 0 0 1 4 1) λk h=>B.nilCheck a λl=>B.pv (V.fieldAddr 0 l) λm=>B.st h m k λh=>B.nilCheck a λn=>B.pv (V.fieldAddr 0 n) λo=>B.ld h o λp=>B.pv (V.zcj p) λq=>B.pv (V.bin .sub q (.int .i64 1)) λr=>zj.k11 C N Q a b r h) (zj.k11 C N Q a b c h)
@[simp] def zj.cps(a b d:za)(h:zb)(Q:zQ):Prop:=B.call C (N 516) [a,b] h λc h=>zj.k12 C N Q a b d c h
def zj.Imp:Prop:=im3 C (N 501) (zj.cps C N)
@[simp] def zco.k1(Q:zQ)(a l:za)(h:zb):Prop:=B.call C (N 516) [a,l] h λb h=>B.pv (V.bin .lss b (.int .i64 0)) λc=>B.cond c (Q .zdo h) (B.nilCheck a λd=>B.pv (V.fieldAddr 0 d) λe=>B.ld h e λf=>B.pv (V.zcp 4 f b) λg=>B.pv (V.fieldAddr 1 g) λi=>B.ld h i λj=>B.zjc h 1 16 .sz j λk h=>Q k h)
@[simp] def zco.cps(a b:za)(h:zb)(Q:zQ):Prop:=zco.k1 C N Q a b h
def zco.Imp:Prop:=im2 C (N 502) (zco.cps C N)
@[simp] def zbd.k1(Q:zQ)(Y1:zL)(c e f b:za)(h:zb):Prop:=B.nilCheck c λg=>B.pv (V.fieldAddr 0 g) λi=>B.ld h i λj=>B.pv (V.zcj j) λk=>B.pv (V.bin .lss b k) λl=>B.cond l (B.pv (V.bin .neq b e) λa=>B.gd h a true (λK=>K c h) λm h=>B.gd h a true (λK=>B.nilCheck m λv=>K v h) λn h=>B.gd h a true (λK=>B.pv (V.fieldAddr 0 n) λv=>K v h) λo h=>B.gd h a true (λK=>B.ld h o λv=>K v h) λp h=>B.gd h a true (λK=>K b h) λq h=>B.gd h a true (λK=>B.pv (V.zcp 4 p q) λv=>K v h) λr h=>B.gd h a true (λK=>B.ldn h r 4 λv=>K v h) λs h=>B.gd h a true (λK=>K c h) λt h=>B.gd h a true (λK=>B.nilCheck t λv=>K v h) λu h=>B.gd h a true (λK=>B.pv (V.fieldAddr 0 u) λv=>K v h) λw h=>B.gd h a true (λK=>B.ld h w λv=>K v h) λx h=>B.gd h a true (λK=>K e h) λy h=>B.gd h a true (λK=>B.pv (V.zcp 4 x y) λv=>K v h) λz h=>B.gd h a true (λK=>B.pv (V.fieldAddr 2 z) λv=>K v h) λaa h=>B.gd h a true (λK=>B.ld h aa λv=>K v h) λab h=>B.gd h a true (λK=>K c h) λac h=>B.gd h a true (λK=>B.nilCheck ac λv=>K v h) λad h=>B.gd h a true (λK=>B.pv (V.fieldAddr 0 ad) λv=>K v h) λae h=>B.gd h a true (λK=>B.ld h ae λv=>K v h) λaf h=>B.gd h a true (λK=>K e h) λag h=>B.gd h a true (λK=>B.pv (V.zcp 4 af ag) λv=>K v h) λah h=>B.gd h a true (λK=>B.pv (V.fieldAddr 3 ah) λv=>K v h) λai h=>B.gd h a true (λK=>B.ld h ai λv=>K v h) λaj h=>B.gd h a true (λK=>B.call C (N 518) [s,ab,aj] h K) λak h=>B.pick a ak (.bool false) λal=>B.cond al (B.nilCheck c λam=>B.pv (V.fieldAddr 0 am) λan=>B.ld h an λao=>B.pv (V.zcp 4 ao b) λap=>B.pv (V.fieldAddr 0 ap) λaq=>B.ld h aq λar=>B.call C (N 520) [f,ar] h λau h=>B.pv (V.bin .add b (.int .i64 1)) λd=>Y1 [au,d] h) (B.pv (V.bin .add b (.int .i64 1)) λd=>Y1 [f,d] h)) (Q f h)
@[simp] def zbd.l2(Q:zQ)(a b:za):zG|[c,d],h,Y1=>zbd.k1 C N Q Y1 a b c d h|_,_,_=>False
@[simp] def zbd.k3(Q:zQ)(c b:za)(h:zb):Prop:=B.pv (V.bin .lss b (.int .i64 0)) λa=>B.gd h a false (λK=>K c h) λd h=>B.gd h a false (λK=>B.nilCheck d λv=>K v h) λe h=>B.gd h a false (λK=>B.pv (V.fieldAddr 0 e) λv=>K v h) λf h=>B.gd h a false (λK=>B.ld h f λv=>K v h) λg h=>B.gd h a false (λK=>K b h) λi h=>B.gd h a false (λK=>B.pv (V.zcp 4 g i) λv=>K v h) λj h=>B.gd h a false (λK=>B.pv (V.fieldAddr 3 j) λv=>K v h) λk h=>B.gd h a false (λK=>B.ld h k λv=>K v h) λl h=>B.gd h a false (λK=>B.pv (V.bin .eql l (.int .i64 0)) λv=>K v h) λm h=>B.pick a (.bool true) m λn=>B.cond n (Q .zdo h) (zq (zbd.l2 C N Q c b) [.zdo,(.int .i64 0)] h)
@[simp] def zbd.cps(a c:za)(h:zb)(Q:zQ):Prop:=B.call C (N 516) [a,c] h λb h=>zbd.k3 C N Q a b h
def zbd.Imp:Prop:=im2 C (N 503) (zbd.cps C N)
@[simp] def zr.k1(Q:zQ)(Y1:zL)(Y2:zL)(r s t d e a:za)(h:zb):Prop:=B.pv (V.zcj d) λf=>B.pv (V.bin .lss a f) λg=>B.cond g (B.pv (V.zcp 1 d a) λi=>B.ld h i λj=>B.pv (V.zcp 1 s t) λc=>B.ld h c λk=>B.call C (N 521) [r,j] h (B.zlb h [(c,none)] (λl h=>B.call C (N 522) [l,k] h λm h=>B.cond m (B.pv (V.zcp 1 d a) λn=>B.ld h n λo=>B.zha h (zeu [(0,none,o)] (zhu 1 [.int .i64 0])) λp h=>B.zjc h 1 8 e (.sl p 0 0 1 1 1) λq h=>B.pv (V.bin .add a (.int .i64 1)) λb=>Y2 [q,b] h) (B.pv (V.bin .add a (.int .i64 1)) λb=>Y2 [e,b] h)))) (Q e h)
@[simp] def zr.l2(Q:zQ)(Y1:zL)(a b c d:za):zG|[e,f],h,Y2=>zr.k1 C N Q Y1 Y2 a b c d e f h|_,_,_=>False
@[simp] def zr.k3(Q:zQ)(Y1:zL)(j b a c:za)(h:zb):Prop:=B.pv (V.zcp 1 b a) λd=>B.ld h d λe=>B.call C (N 522) [c,e] h λf h=>B.pv (V.un .not f) λg=>B.cond g (B.pv (V.bin .add a (.int .i64 1)) λi=>Y1 [i] h) (zq (zr.l2 C N Q Y1 j b a c) [.zdo,(.int .i64 0)] h)
@[simp] def zr.k4(Q:zQ)(Y1:zL)(c a b:za)(h:zb):Prop:=B.pv (V.zcj a) λd=>B.pv (V.bin .lss b d) λe=>B.cond e (B.pv (V.zcp 1 a b) λf=>B.ld h f λg=>B.call C (N 521) [c,g] h λi h=>zr.k3 C N Q Y1 c a b i h) (Q .zdo h)
@[simp] def zr.l5(Q:zQ)(a b:za):zG|[c],h,Y1=>zr.k4 C N Q Y1 a b c h|_,_,_=>False
@[simp] def zr.k6(Q:zQ)(Y3:zL)(a c b:za)(h:zb):Prop:=B.nilCheck a λd=>B.pv (V.fieldAddr 0 d) λe=>B.ld h e λf=>B.pv (V.zcj f) λg=>B.pv (V.bin .lss b g) λi=>B.cond i (B.nilCheck a λj=>B.pv (V.fieldAddr 0 j) λk=>B.ld h k λl=>B.pv (V.zcp 4 l b) λm=>B.pv (V.fieldAddr 0 m) λn=>B.ld h n λo=>B.call C (N 520) [c,o] h λp h=>B.pv (V.bin .add b (.int .i64 1)) λq=>Y3 [p,q] h) (zq (zr.l5 C N Q a c) [(.int .i64 0)] h)
@[simp] def zr.l7(Q:zQ)(a:za):zG|[b,c],h,Y3=>zr.k6 C N Q Y3 a b c h|_,_,_=>False
@[simp] def zr.cps(a:za)(h:zb)(Q:zQ):Prop:=zq (zr.l7 C N Q a) [.zdo,(.int .i64 0)] h
def zr.Imp:Prop:=im1 C (N 504) (zr.cps C N)
@[simp] def zbu.k1(C:z6)(N:zN)(Q:zQ)(Y1:zL)(b o a:za)(h:zb):Prop:=B.nilCheck b λp=>B.pv (V.fieldAddr 0 p) λq=>B.ld h q λc=>B.pv (V.zcj c) λd=>B.pv (V.bin .lss a d) λe=>B.cond e (B.nilCheck b λf=>B.pv (V.fieldAddr 0 f) λg=>B.ld h g λi=>B.pv (V.zcp 4 i a) λj=>B.pv (V.fieldAddr 0 j) λk=>B.ld h k λl=>B.pv (V.bin .eql l o) λm=>B.cond m (Q a h) (B.pv (V.bin .add a (.int .i64 1)) λn=>Y1 [n] h)) (Q (.int .i64 (-1)) h)
@[simp] def zbu.l2(Q:zQ)(a b:za):zG|[c],h,Y1=>zbu.k1 C N Q Y1 a b c h|_,_,_=>False
@[simp] def zbu.cps(a b:za)(h:zb)(Q:zQ):Prop:=zq (zbu.l2 C N Q a b) [(.int .i64 0)] h
def zbu.Imp:Prop:=im2 C (N 516) (zbu.cps C N)
@[simp] def zdz.k1(C:z6)(N:zN)(Q:zQ)(b d c:za)(h:zb):Prop:=B.pv (V.zcj b) λe=>B.pv (V.bin .lss c e) λa=>B.gd h a true (λK=>K b h) λf h=>B.gd h a true (λK=>K c h) λg h=>B.gd h a true (λK=>B.pv (V.zcp 1 f g) λv=>K v h) λi h=>B.gd h a true (λK=>B.ld h i λv=>K v h) λj h=>B.gd h a true (λK=>K d h) λk h=>B.gd h a true (λK=>B.pv (V.bin .eql j k) λv=>K v h) λl h=>B.pick a l (.bool false) λm=>B.cond m (Q b h) (B.pv (V.zjp 1 b none (some c)) λn=>B.zjc h 1 16 .sz n λo h=>B.zha h (zeu [(0,none,d)] (zhu 1 [.str []])) λp h=>B.zjc h 1 16 o (.sl p 0 0 1 1 1) λq h=>B.pv (V.zjp 1 b (some c) none) λr=>B.zjc h 1 16 q r λs h=>Q s h)
@[simp] def zdz.k2(Q:zQ)(Y1:zL)(c d b:za)(h:zb):Prop:=B.pv (V.zcj c) λn=>B.pv (V.bin .lss b n) λa=>B.gd h a true (λK=>K c h) λe h=>B.gd h a true (λK=>K b h) λf h=>B.gd h a true (λK=>B.pv (V.zcp 1 e f) λv=>K v h) λg h=>B.gd h a true (λK=>B.ld h g λv=>K v h) λi h=>B.gd h a true (λK=>K d h) λj h=>B.gd h a true (λK=>B.pv (V.bin .lss i j) λv=>K v h) λk h=>B.pick a k (.bool false) λl=>B.cond l (B.pv (V.bin .add b (.int .i64 1)) λm=>Y1 [m] h) (zdz.k1 C N Q c d b h)
@[simp] def zdz.l3(Q:zQ)(a b:za):zG|[c],h,Y1=>zdz.k2 C N Q Y1 a b c h|_,_,_=>False
@[simp] def zdz.cps(a b:za)(h:zb)(Q:zQ):Prop:=zq (zdz.l3 C N Q a b) [(.int .i64 0)] h
def zdz.Imp:Prop:=im2 C (N 517) (zdz.cps C N)
@[simp] def zd7.k1(Q:zQ)(r e s:za)(h:zb):Prop:=B.pv (A.boxN 4 r) λb=>B.al b (B.pv (V.zf6 1 b) λt=>B.call C (N 527) [t,e] h λa h=>B.al b (B.gd h a false (λK=>K .undef h) λ_ h=>B.gd h a false (λK=>B.pv (V.zf6 3 b) λv=>K v h) λf h=>B.gd h a false (λK=>B.pv (V.bin .gtr f (.int .i64 0)) λv=>K v h) λg h=>B.gd h a false (λK=>K g h) λc h=>B.al b (B.gd h c true (λK=>K .undef h) λ_ h=>B.gd h c true (λK=>B.pv (V.zf6 3 b) λv=>K v h) λi h=>B.gd h c true (λK=>K s h) λj h=>B.gd h c true (λK=>B.pv (V.bin .lss i j) λv=>K v h) λk h=>B.gd h a false (λK=>B.pick c k (.bool false) λv=>K v h) λl h=>B.gd h a false (λK=>K l h) λd h=>B.al b (B.gd h d true (λK=>K .undef h) λ_ h=>B.gd h d true (λK=>B.pv (V.zf6 2 b) λv=>K v h) λm h=>B.gd h d true (λK=>K e h) λn h=>B.gd h d true (λK=>B.call C (N 527) [m,n] h K) λo h=>B.gd h a false (λK=>B.pick d o (.bool false) λv=>K v h) λp h=>B.pick a (.bool true) p λq=>Q q h))))
@[simp] def zd7.cps(a b c:za)(h:zb)(Q:zQ):Prop:=zd7.k1 C N Q a b c h
def zd7.Imp:Prop:=im3 C (N 518) (zd7.cps C N)
@[simp] def zef.k1(C:z6)(N:zN)(Q:zQ)(Y1:zL)(b g a:za)(h:zb):Prop:=B.pv (V.zcj b) λi=>B.pv (V.bin .lss a i) λj=>B.cond j (B.pv (V.zcp 1 b a) λc=>B.ld h c λd=>B.pv (V.bin .eql d g) λe=>B.cond e (Q (.bool true) h) (B.pv (V.bin .add a (.int .i64 1)) λf=>Y1 [f] h)) (Q (.bool false) h)
@[simp] def zef.l2(Q:zQ)(a b:za):zG|[c],h,Y1=>zef.k1 C N Q Y1 a b c h|_,_,_=>False
@[simp] def zef.cps(a b:za)(h:zb)(Q:zQ):Prop:=zq (zef.l2 C N Q a b) [(.int .i64 0)] h
def zef.Imp:Prop:=im2 C (N 519) (zef.cps C N)
@[simp] def zb6.k1(C:z6)(N:zN)(Q:zQ)(b d c:za)(h:zb):Prop:=B.pv (V.zcj b) λe=>B.pv (V.bin .lss c e) λa=>B.gd h a true (λK=>K b h) λf h=>B.gd h a true (λK=>K c h) λg h=>B.gd h a true (λK=>B.pv (V.zcp 1 f g) λv=>K v h) λi h=>B.gd h a true (λK=>B.ld h i λv=>K v h) λj h=>B.gd h a true (λK=>K d h) λk h=>B.gd h a true (λK=>B.pv (V.bin .eql j k) λv=>K v h) λl h=>B.pick a l (.bool false) λm=>B.cond m (Q b h) (B.pv (V.zjp 1 b none (some c)) λn=>B.zjc h 1 8 .sz n λo h=>B.zha h (zeu [(0,none,d)] (zhu 1 [.int .i64 0])) λp h=>B.zjc h 1 8 o (.sl p 0 0 1 1 1) λq h=>B.pv (V.zjp 1 b (some c) none) λr=>B.zjc h 1 8 q r λs h=>Q s h)
@[simp] def zb6.k2(Q:zQ)(Y1:zL)(c d b:za)(h:zb):Prop:=B.pv (V.zcj c) λn=>B.pv (V.bin .lss b n) λa=>B.gd h a true (λK=>K c h) λe h=>B.gd h a true (λK=>K b h) λf h=>B.gd h a true (λK=>B.pv (V.zcp 1 e f) λv=>K v h) λg h=>B.gd h a true (λK=>B.ld h g λv=>K v h) λi h=>B.gd h a true (λK=>K d h) λj h=>B.gd h a true (λK=>B.pv (V.bin .lss i j) λv=>K v h) λk h=>B.pick a k (.bool false) λl=>B.cond l (B.pv (V.bin .add b (.int .i64 1)) λm=>Y1 [m] h) (zb6.k1 C N Q c d b h)
@[simp] def zb6.l3(Q:zQ)(a b:za):zG|[c],h,Y1=>zb6.k2 C N Q Y1 a b c h|_,_,_=>False
@[simp] def zb6.cps(a b:za)(h:zb)(Q:zQ):Prop:=zq (zb6.l3 C N Q a b) [(.int .i64 0)] h
def zb6.Imp:Prop:=im2 C (N 520) (zb6.cps C N)
@[simp] def zw.k1(Q:zQ)(Y1:zL)(Y2:zL)(Y3:zL)(m b n l c a:za)(h:zb):Prop:=B.pv (V.zcj c) λd=>B.pv (V.bin .lss a d) λe=>B.cond e (B.pv (V.zcp 1 c a) λf=>B.ld h f λg=>B.call C (N 520) [b,g] h λi h=>B.pv (V.bin .add a (.int .i64 1)) λj=>Y3 [i,j] h) (B.pv (V.bin .add l (.int .i64 1)) λk=>Y2 [b,k] h)
@[simp] def zw.l2(Q:zQ)(Y1:zL)(Y2:zL)(a b c d:za):zG|[e,f],h,Y3=>zw.k1 C N Q Y1 Y2 Y3 a e b c d f h|_,_,_=>False
@[simp] def zw.k3(Q:zQ)(Y1:zL)(Y2:zL)(a b g c:za)(h:zb):Prop:=B.pv (V.zcp 1 b c) λd=>B.ld h d λe=>B.call C (N 503) [a,e] h λf h=>zq (zw.l2 C N Q Y1 Y2 a g c f) [b,(.int .i64 0)] h
@[simp] def zw.l4(Q:zQ)(Y1:zL)(e a:za):zG|[b,c],h,Y2=>B.pv (V.bin .lss c a) λd=>B.cond d (zw.k3 C N Q Y1 Y2 e b a c h) (Y1 [b,a] h)|_,_,_=>False
@[simp] def zw.k5(Q:zQ)(Y1:zL)(e a f:za)(h:zb):Prop:=B.pv (V.zcj a) λb=>B.pv (V.bin .neq f b) λc=>B.cond c (B.pv (V.zcj a) λd=>zq (zw.l4 C N Q Y1 e d) [a,(.int .i64 0)] h) (Q a h)
@[simp] def zw.l6(Q:zQ)(a:za):zG|[b,c],h,Y1=>zw.k5 C N Q Y1 a b c h|_,_,_=>False
@[simp] def zw.cps(a c:za)(h:zb)(Q:zQ):Prop:=B.call C (N 503) [a,c] h λb h=>zq (zw.l6 C N Q a) [b,(.int .i64 (-1))] h
def zw.Imp:Prop:=im2 C (N 521) (zw.cps C N)
@[simp] def zdw.k1(C:z6)(N:zN)(Q:zQ)(Y1:zL)(b g a:za)(h:zb):Prop:=B.pv (V.zcj b) λi=>B.pv (V.bin .lss a i) λj=>B.cond j (B.pv (V.zcp 1 b a) λc=>B.ld h c λd=>B.pv (V.bin .eql d g) λe=>B.cond e (Q (.bool true) h) (B.pv (V.bin .add a (.int .i64 1)) λf=>Y1 [f] h)) (Q (.bool false) h)
@[simp] def zdw.l2(Q:zQ)(a b:za):zG|[c],h,Y1=>zdw.k1 C N Q Y1 a b c h|_,_,_=>False
@[simp] def zdw.cps(a b:za)(h:zb)(Q:zQ):Prop:=zq (zdw.l2 C N Q a b) [(.int .i64 0)] h
def zdw.Imp:Prop:=im2 C (N 522) (zdw.cps C N)
@[simp] def zde.k1(Q:zQ)(Y1:zL)(b j a:za)(h:zb):Prop:=B.pv (V.zcj b) λc=>B.pv (V.bin .lss a c) λd=>B.cond d (B.pv (V.zcp 1 b a) λe=>B.ld h e λf=>B.call C (N 519) [j,f] h λg h=>B.cond g (Q (.bool true) h) (B.pv (V.bin .add a (.int .i64 1)) λi=>Y1 [i] h)) (Q (.bool false) h)
@[simp] def zde.l2(Q:zQ)(a b:za):zG|[c],h,Y1=>zde.k1 C N Q Y1 a b c h|_,_,_=>False
@[simp] def zde.k3(Q:zQ)(b c:za)(h:zb):Prop:=B.call C (N 519) [b,(.str [42])] h λa h=>B.gd h a false (λK=>K c h) λd h=>B.gd h a false (λK=>B.call C (N 519) [d,(.str [42])] h K) λe h=>B.pick a (.bool true) e λf=>B.cond f (Q (.bool true) h) (zq (zde.l2 C N Q b c) [(.int .i64 0)] h)
@[simp] def zde.k4(Q:zQ)(b c:za)(h:zb):Prop:=B.pv (V.zcj b) λi=>B.pv (V.bin .eql i (.int .i64 0)) λa=>B.gd h a false (λK=>K c h) λd h=>B.gd h a false (λK=>B.pv (V.zcj d) λv=>K v h) λe h=>B.gd h a false (λK=>B.pv (V.bin .eql e (.int .i64 0)) λv=>K v h) λf h=>B.pick a (.bool true) f λg=>B.cond g (Q (.bool false) h) (zde.k3 C N Q b c h)
@[simp] def zde.cps(a b:za)(h:zb)(Q:zQ):Prop:=zde.k4 C N Q a b h
def zde.Imp:Prop:=im2 C (N 527) (zde.cps C N)
@[simp] def zhl.k1(C:z6)(E:zbj)(f1 f2:Nat)(Q:zQ)(a:za)(h:zb):Prop:=B.pv (V.zcj a) λb=>B.pv (V.toInt .u64 b) λc=>B.call C f1 [c] h λd h=>B.call C f2 [a,(.int .i64 0),b,d] h λe h=>Q (.tup []) h
@[simp] def zhl.cps(C:z6)(E:zbj)(f1 f2:Nat)(a:za)(h:zb)(Q:zQ):Prop:=zhl.k1 C E f1 f2 Q a h
@[simp] def zp.k1(C:z6)(E:zbj)(f1 f2 f3 f4 f5 f6 f7 f8 f9 f10:Nat)(Q:zQ)(Y1:zL)(d c e f v8 v9 s g:za)(h:zb):Prop:=B.pv (V.bin .gtr c (.int .i64 0)) λa=>B.gd h a true (λK=>K d h) λt h=>B.gd h a true (λK=>K c h) λu h=>B.gd h a true (λK=>B.pv (V.bin .sub u (.int .i64 1)) λv=>K v h) λw h=>B.gd h a true (λK=>B.pv (V.zcp E.es t w) λv=>K v h) λx h=>B.gd h a true (λK=>E.ld h x λv=>K v h) λy h=>B.gd h a true (λK=>K d h) λz h=>B.gd h a true (λK=>K g h) λaa h=>B.gd h a true (λK=>B.pv (V.zcp E.es z aa) λv=>K v h) λab h=>B.gd h a true (λK=>E.ld h ab λv=>K v h) λac h=>B.gd h a true (λK=>B.call C f1 [y,ac] h K) λad h=>B.gd h a true (λK=>B.pv (V.un .not ad) λv=>K v h) λae h=>B.pick a ae (.bool false) λaf=>B.cond af (B.call C f2 [d,c,e,g] h λag h=>Y1 [ag,e,f,v8,v9] h) (B.call C f3 [d,c,e,g] h λm h=>B.pv (V.ext 0 m) λb=>B.pv (V.ext 1 m) λi=>B.pv (V.bin .sub b c) λj=>B.pv (V.bin .sub e b) λk=>B.pv (V.bin .quo s (.int .i64 8)) λl=>B.pv (V.bin .lss j k) λn=>B.cond n (B.pv (V.bin .geq j l) λo=>B.call C f4 [d,c,b,f] h λaj h=>B.pv (V.bin .add b (.int .i64 1)) λp=>Y1 [p,e,f,o,i] h) (B.pv (V.bin .geq k l) λq=>B.pv (V.bin .add b (.int .i64 1)) λr=>B.call C f4 [d,r,e,f] h λak h=>Y1 [c,b,f,q,i] h))
@[simp] def zp.k2(C:z6)(E:zbj)(f1 f2 f3 f4 f5 f6 f7 f8 f9 f10:Nat)(Q:zQ)(Y1:zL)(e f g j b i c d k:za)(h:zb):Prop:=B.gd h b true (λK=>K i h) λl h=>B.pick b l (.bool false) λa=>B.gd h a true (λK=>K k h) λm h=>B.gd h a true (λK=>B.pv (V.bin .eql m (.int .i64 1)) λv=>K v h) λn h=>B.pick a n (.bool false) λo=>B.cond o (B.call C f5 [e,f,g] h λp h=>B.cond p (Q (.tup []) h) (zp.k1 C E f1 f2 f3 f4 f5 f6 f7 f8 f9 f10 Q Y1 e f g j b i c d h)) (zp.k1 C E f1 f2 f3 f4 f5 f6 f7 f8 f9 f10 Q Y1 e f g j b i c d h)
@[simp] def zp.k3(C:z6)(E:zbj)(f1 f2 f3 f4 f5 f6 f7 f8 f9 f10:Nat)(Q:zQ)(Y1:zL)(f a b g i j c d e:za)(h:zb):Prop:=B.pv (V.bin .eql e (.int .i64 2)) λk=>B.cond k (B.call C f6 [f,a,b] h λo h=>B.pv (V.bin .sub b (.int .i64 1)) λl=>B.pv (V.bin .sub d a) λm=>B.pv (V.bin .sub l m) λn=>zp.k2 C E f1 f2 f3 f4 f5 f6 f7 f8 f9 f10 Q Y1 f a b g i j c n (.int .i64 1) h) (zp.k2 C E f1 f2 f3 f4 f5 f6 f7 f8 f9 f10 Q Y1 f a b g i j c d e h)
@[simp] def zp.k4(C:z6)(E:zbj)(f1 f2 f3 f4 f5 f6 f7 f8 f9 f10:Nat)(Q:zQ)(Y1:zL)(b c d i j k e:za)(h:zb):Prop:=B.call C f7 [b,c,d] h λa h=>B.pv (V.ext 0 a) λf=>B.pv (V.ext 1 a) λg=>zp.k3 C E f1 f2 f3 f4 f5 f6 f7 f8 f9 f10 Q Y1 b c d i j k e f g h
@[simp] def zp.k5(C:z6)(E:zbj)(f1 f2 f3 f4 f5 f6 f7 f8 f9 f10:Nat)(Q:zQ)(Y1:zL)(b c d f e g a:za)(h:zb):Prop:=B.pv (V.un .not e) λi=>B.cond i (B.call C f8 [b,c,d] h λk h=>B.pv (V.bin .sub f (.int .i64 1)) λj=>zp.k4 C E f1 f2 f3 f4 f5 f6 f7 f8 f9 f10 Q Y1 b c d j e g a h) (zp.k4 C E f1 f2 f3 f4 f5 f6 f7 f8 f9 f10 Q Y1 b c d f e g a h)
@[simp] def zp.k6(C:z6)(E:zbj)(f1 f2 f3 f4 f5 f6 f7 f8 f9 f10:Nat)(Q:zQ)(Y1:zL)(a b c d g i e:za)(h:zb):Prop:=B.pv (V.bin .eql d (.int .i64 0)) λf=>B.cond f (B.call C f9 [a,b,c] h λj h=>Q (.tup []) h) (zp.k5 C E f1 f2 f3 f4 f5 f6 f7 f8 f9 f10 Q Y1 a b c d g i e h)
@[simp] def zp.k7(C:z6)(E:zbj)(f1 f2 f3 f4 f5 f6 f7 f8 f9 f10:Nat)(Q:zQ)(Y1:zL)(b c d f g i a:za)(h:zb):Prop:=B.pv (V.bin .leq a (.int .i64 12)) λe=>B.cond e (B.call C f10 [b,c,d] h λj h=>Q (.tup []) h) (zp.k6 C E f1 f2 f3 f4 f5 f6 f7 f8 f9 f10 Q Y1 b c d f g i a h)
@[simp] def zp.l8(C:z6)(E:zbj)(f1 f2 f3 f4 f5 f6 f7 f8 f9 f10:Nat)(Q:zQ)(d:za):zG|[a,b,e,f,g],h,Y1=>B.pv (V.bin .sub b a) λc=>zp.k7 C E f1 f2 f3 f4 f5 f6 f7 f8 f9 f10 Q Y1 d a b e f g c h|_,_,_=>False
@[simp] def zp.cps(C:z6)(E:zbj)(f1 f2 f3 f4 f5 f6 f7 f8 f9 f10:Nat)(a b c d:za)(h:zb)(Q:zQ):Prop:=zq (zp.l8 C E f1 f2 f3 f4 f5 f6 f7 f8 f9 f10 Q a) [b,c,d,(.bool true),(.bool true)] h
@[simp] def zbb.k1(C:z6)(E:zbj)(f1:Nat)(Q:zQ)(Y1:zL)(Y2:zL)(c v1 v2 v6 b:za)(h:zb):Prop:=B.pv (V.bin .gtr b v1) λa=>B.gd h a true (λK=>K c h) λd h=>B.gd h a true (λK=>K b h) λe h=>B.gd h a true (λK=>B.pv (V.zcp E.es d e) λv=>K v h) λf h=>B.gd h a true (λK=>E.ld h f λv=>K v h) λg h=>B.gd h a true (λK=>K c h) λi h=>B.gd h a true (λK=>K b h) λj h=>B.gd h a true (λK=>B.pv (V.bin .sub j (.int .i64 1)) λv=>K v h) λk h=>B.gd h a true (λK=>B.pv (V.zcp E.es i k) λv=>K v h) λl h=>B.gd h a true (λK=>E.ld h l λv=>K v h) λm h=>B.gd h a true (λK=>B.call C f1 [g,m] h K) λn h=>B.pick a n (.bool false) λo=>B.cond o (B.pv (V.bin .sub b (.int .i64 1)) λp=>B.pv (V.bin .sub b (.int .i64 1)) λq=>B.pv (V.zcp E.es c q) λr=>E.ld h r λs=>B.pv (V.zcp E.es c b) λt=>E.ld h t λu=>B.pv (V.zcp E.es c b) λw=>E.st h w s λh=>B.pv (V.zcp E.es c p) λx=>E.st h x u λh=>B.pv (V.bin .sub b (.int .i64 1)) λy=>Y2 [y] h) (B.pv (V.bin .add v6 (.int .i64 1)) λz=>Y1 [z] h)
@[simp] def zbb.l2(C:z6)(E:zbj)(f1:Nat)(Q:zQ)(Y1:zL)(a b c d:za):zG|[e],h,Y2=>zbb.k1 C E f1 Q Y1 Y2 a b c d e h|_,_,_=>False
@[simp] def zbb.l3(C:z6)(E:zbj)(f1:Nat)(Q:zQ)(d e b:za):zG|[a],h,Y1=>B.pv (V.bin .lss a b) λc=>B.cond c (zq (zbb.l2 C E f1 Q Y1 d e b a) [a] h) (Q (.tup []) h)|_,_,_=>False
@[simp] def zbb.cps(C:z6)(E:zbj)(f1:Nat)(b a c:za)(h:zb)(Q:zQ):Prop:=B.pv (V.bin .add a (.int .i64 1)) λd=>zq (zbb.l3 C E f1 Q b a c) [d] h
@[simp] def z7.k1(C:z6)(E:zbj)(f1:Nat)(Q:zQ)(Y1:zL)(b c o a:za)(h:zb):Prop:=B.pv (V.bin .geq a (.int .i64 0)) λd=>B.cond d (B.pv (V.bin .add c a) λe=>B.pv (V.bin .add c a) λf=>B.pv (V.zcp E.es b f) λg=>E.ld h g λi=>B.pv (V.zcp E.es b c) λj=>E.ld h j λk=>B.pv (V.zcp E.es b c) λl=>E.st h l i λh=>B.pv (V.zcp E.es b e) λm=>E.st h m k λh=>B.call C f1 [b,o,a,c] h λp h=>B.pv (V.bin .sub a (.int .i64 1)) λn=>Y1 [n] h) (Q (.tup []) h)
@[simp] def z7.l2(C:z6)(E:zbj)(f1:Nat)(Q:zQ)(b c d:za):zG|[a],h,Y1=>z7.k1 C E f1 Q Y1 b c d a h|_,_,_=>False
@[simp] def z7.k3(C:z6)(E:zbj)(f1:Nat)(Q:zQ)(Y2:zL)(b c i d a:za)(h:zb):Prop:=B.pv (V.bin .geq a (.int .i64 0)) λe=>B.cond e (B.call C f1 [b,a,d,c] h λj h=>B.pv (V.bin .sub a (.int .i64 1)) λf=>Y2 [f] h) (B.pv (V.bin .sub d (.int .i64 1)) λg=>zq (z7.l2 C E f1 Q b c i) [g] h)
@[simp] def z7.l4(C:z6)(E:zbj)(f1:Nat)(Q:zQ)(a b c d:za):zG|[e],h,Y2=>z7.k3 C E f1 Q Y2 a b c d e h|_,_,_=>False
@[simp] def z7.k5(C:z6)(E:zbj)(f1:Nat)(Q:zQ)(d e f a:za)(h:zb):Prop:=B.pv (V.bin .sub a (.int .i64 1)) λb=>B.pv (V.bin .quo b (.int .i64 2)) λc=>zq (z7.l4 C E f1 Q d e f a) [c] h
@[simp] def z7.cps(C:z6)(E:zbj)(f1:Nat)(c a d:za)(h:zb)(Q:zQ):Prop:=B.pv (V.bin .sub d a) λb=>z7.k5 C E f1 Q c a (.int .i64 0) b h
@[simp] def zi.k1(C:z6)(E:zbj)(f1 f2:Nat)(Q:zQ)(Y1:zL)(a d o p q c b:za)(h:zb):Prop:=B.pv (V.bin .add d b) λe=>B.pv (V.bin .add d b) λf=>B.pv (V.zcp E.es a f) λg=>E.ld h g λi=>B.pv (V.zcp E.es a c) λj=>E.ld h j λk=>B.pv (V.zcp E.es a c) λl=>E.st h l i λh=>B.pv (V.zcp E.es a e) λm=>E.st h m k λh=>B.pv (V.bin .add c (.int .i64 1)) λn=>Y1 [n] h
@[simp] def zi.k2(C:z6)(E:zbj)(f1 f2:Nat)(Q:zQ)(Y1:zL)(c d b e f g a:za)(h:zb):Prop:=B.pv (V.bin .geq a b) λi=>B.cond i (B.pv (V.bin .sub a b) λj=>zi.k1 C E f1 f2 Q Y1 c d b e f g j h) (zi.k1 C E f1 f2 Q Y1 c d b e f g a h)
@[simp] def zi.k3(C:z6)(E:zbj)(f1 f2:Nat)(Q:zQ)(Y1:zL)(g i j a b k:za)(h:zb):Prop:=B.call C f1 [a] h λc h=>B.pv (V.bin .sub b (.int .u64 1)) λd=>B.pv (V.bin .and c d) λe=>B.pv (V.toInt .i64 e) λf=>zi.k2 C E f1 f2 Q Y1 g i j a b k f h
@[simp] def zi.k4(C:z6)(E:zbj)(f1 f2:Nat)(Q:zQ)(Y1:zL)(j a b k l c:za)(h:zb):Prop:=B.pv (V.bin .quo b (.int .i64 4)) λd=>B.pv (V.bin .mul d (.int .i64 2)) λe=>B.pv (V.bin .add a e) λf=>B.pv (V.bin .add f (.int .i64 1)) λg=>B.pv (V.bin .leq c g) λi=>B.cond i (zi.k3 C E f1 f2 Q Y1 j a b k l c h) (Q (.tup []) h)
@[simp] def zi.l5(C:z6)(E:zbj)(f1 f2:Nat)(Q:zQ)(a b c d e:za):zG|[f],h,Y1=>zi.k4 C E f1 f2 Q Y1 a b c d e f h|_,_,_=>False
@[simp] def zi.k6(C:z6)(E:zbj)(f1 f2:Nat)(Q:zQ)(g a b i j:za)(h:zb):Prop:=B.pv (V.bin .quo b (.int .i64 4)) λc=>B.pv (V.bin .mul c (.int .i64 2)) λd=>B.pv (V.bin .add a d) λe=>B.pv (V.bin .sub e (.int .i64 1)) λf=>zq (zi.l5 C E f1 f2 Q g a b i j) [f] h
@[simp] def zi.k7(C:z6)(E:zbj)(f1 f2:Nat)(Q:zQ)(e f a:za)(h:zb):Prop:=B.pv (V.toInt .u64 a) λb=>B.zha h (some [.int .u64 0]) λc h=>B.st h (.ptr c 0 0) b λh=>B.call C f2 [a] h λd h=>zi.k6 C E f1 f2 Q e f a (.ptr c 0 0) d h
@[simp] def zi.k8(C:z6)(E:zbj)(f1 f2:Nat)(Q:zQ)(d b e:za)(h:zb):Prop:=B.pv (V.bin .sub e b) λa=>B.pv (V.bin .geq a (.int .i64 8)) λc=>B.cond c (zi.k7 C E f1 f2 Q d b a h) (Q (.tup []) h)
@[simp] def zi.cps(C:z6)(E:zbj)(f1 f2:Nat)(a b c:za)(h:zb)(Q:zQ):Prop:=zi.k8 C E f1 f2 Q a b c h
@[simp] def zt.k1(C:z6)(E:zbj)(f1 f2:Nat)(Q:zQ)(e a:za)(h:zb):Prop:=B.ld h e λb=>B.pv (V.bin .eql b (.int .i64 0)) λc=>B.cond c (Q (.tup [a,(.int .i64 1)]) h) (B.pv (V.bin .eql b (.int .i64 12)) λd=>B.cond d (Q (.tup [a,(.int .i64 2)]) h) (Q (.tup [a,(.int .i64 0)]) h))
@[simp] def zt.k2(C:z6)(E:zbj)(f1 f2:Nat)(Q:zQ)(b g a e c f:za)(h:zb):Prop:=B.pv (V.bin .geq g (.int .i64 8)) λi=>B.cond i (B.pv (V.bin .geq g (.int .i64 50)) λj=>B.cond j (B.call C f1 [b,e,a] h λk h=>B.call C f1 [b,c,a] h λl h=>B.call C f1 [b,f,a] h λm h=>B.call C f2 [b,k,l,m,a] h λd h=>zt.k1 C E f1 f2 Q a d h) (B.call C f2 [b,e,c,f,a] h λd h=>zt.k1 C E f1 f2 Q a d h)) (zt.k1 C E f1 f2 Q a c h)
@[simp] def zt.k3(C:z6)(E:zbj)(f1 f2:Nat)(Q:zQ)(g i a j b c:za)(h:zb):Prop:=B.pv (V.bin .quo a (.int .i64 4)) λd=>B.pv (V.bin .mul d (.int .i64 3)) λe=>B.pv (V.bin .add i e) λf=>zt.k2 C E f1 f2 Q g a j b c f h
@[simp] def zt.k4(C:z6)(E:zbj)(f1 f2:Nat)(Q:zQ)(g a b i c:za)(h:zb):Prop:=B.pv (V.bin .quo b (.int .i64 4)) λd=>B.pv (V.bin .mul d (.int .i64 2)) λe=>B.pv (V.bin .add a e) λf=>zt.k3 C E f1 f2 Q g a b i c f h
@[simp] def zt.k5(C:z6)(E:zbj)(f1 f2:Nat)(Q:zQ)(f a b g:za)(h:zb):Prop:=B.pv (V.bin .quo b (.int .i64 4)) λc=>B.pv (V.bin .mul c (.int .i64 1)) λd=>B.pv (V.bin .add a d) λe=>zt.k4 C E f1 f2 Q f a b g e h
@[simp] def zt.cps(C:z6)(E:zbj)(f1 f2:Nat)(c a d:za)(h:zb)(Q:zQ):Prop:=B.pv (V.bin .sub d a) λb=>B.zha h (some [.int .i64 0]) λe h=>zt.k5 C E f1 f2 Q c a b (.ptr e 0 0) h
@[simp] def zb3.k1(C:z6)(E:zbj)(Q:zQ)(Y1:zL)(a b c:za)(h:zb):Prop:=B.pv (V.bin .lss b c) λd=>B.cond d (B.pv (V.zcp E.es a c) λe=>E.ld h e λf=>B.pv (V.zcp E.es a b) λg=>E.ld h g λi=>B.pv (V.zcp E.es a b) λj=>E.st h j f λh=>B.pv (V.zcp E.es a c) λk=>E.st h k i λh=>B.pv (V.bin .add b (.int .i64 1)) λl=>B.pv (V.bin .sub c (.int .i64 1)) λm=>Y1 [l,m] h) (Q (.tup []) h)
@[simp] def zb3.l2(C:z6)(E:zbj)(Q:zQ)(a:za):zG|[b,c],h,Y1=>zb3.k1 C E Q Y1 a b c h|_,_,_=>False
@[simp] def zb3.cps(C:z6)(E:zbj)(b c d:za)(h:zb)(Q:zQ):Prop:=B.pv (V.bin .sub d (.int .i64 1)) λa=>zq (zb3.l2 C E Q b) [c,a] h
@[simp] def zd.k1(C:z6)(E:zbj)(f1:Nat)(Q:zQ)(Y1:zL)(Y2:zL)(b y x v w a:za)(h:zb):Prop:=B.pv (V.bin .lss a x) λd=>B.cond d (B.pv (V.zcp E.es b a) λe=>E.ld h e λf=>B.pv (V.bin .sub a (.int .i64 1)) λg=>B.pv (V.zcp E.es b g) λi=>E.ld h i λj=>B.call C f1 [f,j] h λk h=>B.pv (V.un .not k) λl=>B.cond l (B.pv (V.bin .add w (.int .i64 1)) λc=>Y1 [v,c] h) (B.pv (V.bin .sub a (.int .i64 1)) λm=>B.pv (V.bin .sub a (.int .i64 1)) λn=>B.pv (V.zcp E.es b n) λo=>E.ld h o λp=>B.pv (V.zcp E.es b a) λq=>E.ld h q λr=>B.pv (V.zcp E.es b a) λs=>E.st h s p λh=>B.pv (V.zcp E.es b m) λt=>E.st h t r λh=>B.pv (V.bin .add a (.int .i64 1)) λu=>Y2 [u] h)) (B.pv (V.bin .add w (.int .i64 1)) λc=>Y1 [v,c] h)
@[simp] def zd.l2(C:z6)(E:zbj)(f1:Nat)(Q:zQ)(Y1:zL)(b c d e f:za):zG|[a],h,Y2=>zd.k1 C E f1 Q Y1 Y2 b c d e f a h|_,_,_=>False
@[simp] def zd.k3(C:z6)(E:zbj)(f1:Nat)(Q:zQ)(Y1:zL)(i j c a d:za)(h:zb):Prop:=B.pv (V.bin .sub c a) λe=>B.pv (V.bin .geq e (.int .i64 2)) λf=>B.cond f (B.pv (V.bin .add a (.int .i64 1)) λb=>zq (zd.l2 C E f1 Q Y1 i j c a d) [b] h) (B.pv (V.bin .add d (.int .i64 1)) λg=>Y1 [a,g] h)
@[simp] def zd.k4(C:z6)(E:zbj)(f1:Nat)(Q:zQ)(Y1:zL)(Y3:zL)(a c d e f b:za)(h:zb):Prop:=B.pv (V.bin .geq b (.int .i64 1)) λg=>B.cond g (B.pv (V.zcp E.es a b) λi=>E.ld h i λj=>B.pv (V.bin .sub b (.int .i64 1)) λk=>B.pv (V.zcp E.es a k) λl=>E.ld h l λm=>B.call C f1 [j,m] h λn h=>B.pv (V.un .not n) λo=>B.cond o (zd.k3 C E f1 Q Y1 a c d e f h) (B.pv (V.bin .sub b (.int .i64 1)) λp=>B.pv (V.bin .sub b (.int .i64 1)) λq=>B.pv (V.zcp E.es a q) λr=>E.ld h r λs=>B.pv (V.zcp E.es a b) λt=>E.ld h t λu=>B.pv (V.zcp E.es a b) λv=>E.st h v s λh=>B.pv (V.zcp E.es a p) λw=>E.st h w u λh=>B.pv (V.bin .sub b (.int .i64 1)) λx=>Y3 [x] h)) (zd.k3 C E f1 Q Y1 a c d e f h)
@[simp] def zd.l5(C:z6)(E:zbj)(f1:Nat)(Q:zQ)(Y1:zL)(a b c d e:za):zG|[f],h,Y3=>zd.k4 C E f1 Q Y1 Y3 a b c d e f h|_,_,_=>False
@[simp] def zd.k6(C:z6)(E:zbj)(f1:Nat)(Q:zQ)(Y1:zL)(c b d a e:za)(h:zb):Prop:=B.pv (V.bin .sub a b) λf=>B.pv (V.bin .geq f (.int .i64 2)) λg=>B.cond g (B.pv (V.bin .sub a (.int .i64 1)) λi=>zq (zd.l5 C E f1 Q Y1 c b d a e) [i] h) (zd.k3 C E f1 Q Y1 c b d a e h)
@[simp] def zd.k7(C:z6)(E:zbj)(f1:Nat)(Q:zQ)(Y1:zL)(a l m b n:za)(h:zb):Prop:=B.pv (V.bin .sub b (.int .i64 1)) λc=>B.pv (V.bin .sub b (.int .i64 1)) λd=>B.pv (V.zcp E.es a d) λe=>E.ld h e λf=>B.pv (V.zcp E.es a b) λg=>E.ld h g λi=>B.pv (V.zcp E.es a b) λj=>E.st h j f λh=>B.pv (V.zcp E.es a c) λk=>E.st h k i λh=>zd.k6 C E f1 Q Y1 a l m b n h
@[simp] def zd.k8(C:z6)(E:zbj)(f1:Nat)(Q:zQ)(Y1:zL)(e a b f g:za)(h:zb):Prop:=B.pv (V.bin .sub b a) λc=>B.pv (V.bin .lss c (.int .i64 50)) λd=>B.cond d (Q (.bool false) h) (zd.k7 C E f1 Q Y1 e a b f g h)
@[simp] def zd.k9(C:z6)(E:zbj)(f1:Nat)(Q:zQ)(Y1:zL)(Y4:zL)(c t d b u:za)(h:zb):Prop:=B.pv (V.bin .lss b d) λa=>B.gd h a true (λK=>K c h) λe h=>B.gd h a true (λK=>K b h) λf h=>B.gd h a true (λK=>B.pv (V.zcp E.es e f) λv=>K v h) λg h=>B.gd h a true (λK=>E.ld h g λv=>K v h) λi h=>B.gd h a true (λK=>K c h) λj h=>B.gd h a true (λK=>K b h) λk h=>B.gd h a true (λK=>B.pv (V.bin .sub k (.int .i64 1)) λv=>K v h) λl h=>B.gd h a true (λK=>B.pv (V.zcp E.es j l) λv=>K v h) λm h=>B.gd h a true (λK=>E.ld h m λv=>K v h) λn h=>B.gd h a true (λK=>B.call C f1 [i,n] h K) λo h=>B.gd h a true (λK=>B.pv (V.un .not o) λv=>K v h) λp h=>B.pick a p (.bool false) λq=>B.cond q (B.pv (V.bin .add b (.int .i64 1)) λr=>Y4 [r] h) (B.pv (V.bin .eql b d) λs=>B.cond s (Q (.bool true) h) (zd.k8 C E f1 Q Y1 c t d b u h))
@[simp] def zd.l10(C:z6)(E:zbj)(f1:Nat)(Q:zQ)(Y1:zL)(a b c d:za):zG|[e],h,Y4=>zd.k9 C E f1 Q Y1 Y4 a b c e d h|_,_,_=>False
@[simp] def zd.k11(C:z6)(E:zbj)(f1:Nat)(Q:zQ)(Y1:zL)(c d e f a:za)(h:zb):Prop:=B.pv (V.bin .lss a (.int .i64 5)) λb=>B.cond b (zq (zd.l10 C E f1 Q Y1 c d e a) [f] h) (Q (.bool false) h)
@[simp] def zd.l12(C:z6)(E:zbj)(f1:Nat)(Q:zQ)(a b c:za):zG|[d,e],h,Y1=>zd.k11 C E f1 Q Y1 a b c d e h|_,_,_=>False
@[simp] def zd.cps(C:z6)(E:zbj)(f1:Nat)(c a d:za)(h:zb)(Q:zQ):Prop:=B.pv (V.bin .add a (.int .i64 1)) λb=>zq (zd.l12 C E f1 Q c a d) [b,(.int .i64 0)] h
@[simp] def zk.k1(C:z6)(E:zbj)(f1:Nat)(Q:zQ)(Y1:zL)(c n b a:za)(h:zb):Prop:=B.pv (V.bin .gtr b a) λd=>B.cond d (Q b h) (B.pv (V.zcp E.es c a) λe=>E.ld h e λf=>B.pv (V.zcp E.es c b) λg=>E.ld h g λi=>B.pv (V.zcp E.es c b) λj=>E.st h j f λh=>B.pv (V.zcp E.es c a) λk=>E.st h k i λh=>B.pv (V.bin .add b (.int .i64 1)) λl=>B.pv (V.bin .sub a (.int .i64 1)) λm=>Y1 [l,m] h)
@[simp] def zk.k2(C:z6)(E:zbj)(f1:Nat)(Q:zQ)(Y1:zL)(Y2:zL)(c d e b:za)(h:zb):Prop:=B.pv (V.bin .leq e b) λa=>B.gd h a true (λK=>K c h) λf h=>B.gd h a true (λK=>K d h) λg h=>B.gd h a true (λK=>B.pv (V.zcp E.es f g) λv=>K v h) λi h=>B.gd h a true (λK=>E.ld h i λv=>K v h) λj h=>B.gd h a true (λK=>K c h) λk h=>B.gd h a true (λK=>K b h) λl h=>B.gd h a true (λK=>B.pv (V.zcp E.es k l) λv=>K v h) λm h=>B.gd h a true (λK=>E.ld h m λv=>K v h) λn h=>B.gd h a true (λK=>B.call C f1 [j,n] h K) λo h=>B.pick a o (.bool false) λp=>B.cond p (B.pv (V.bin .sub b (.int .i64 1)) λq=>Y2 [q] h) (zk.k1 C E f1 Q Y1 c d e b h)
@[simp] def zk.l3(C:z6)(E:zbj)(f1:Nat)(Q:zQ)(Y1:zL)(b c d:za):zG|[a],h,Y2=>zk.k2 C E f1 Q Y1 Y2 b c d a h|_,_,_=>False
@[simp] def zk.k4(C:z6)(E:zbj)(f1:Nat)(Q:zQ)(Y1:zL)(Y3:zL)(d e b c:za)(h:zb):Prop:=B.pv (V.bin .leq b c) λa=>B.gd h a true (λK=>K d h) λf h=>B.gd h a true (λK=>K e h) λg h=>B.gd h a true (λK=>B.pv (V.zcp E.es f g) λv=>K v h) λi h=>B.gd h a true (λK=>E.ld h i λv=>K v h) λj h=>B.gd h a true (λK=>K d h) λk h=>B.gd h a true (λK=>K b h) λl h=>B.gd h a true (λK=>B.pv (V.zcp E.es k l) λv=>K v h) λm h=>B.gd h a true (λK=>E.ld h m λv=>K v h) λn h=>B.gd h a true (λK=>B.call C f1 [j,n] h K) λo h=>B.gd h a true (λK=>B.pv (V.un .not o) λv=>K v h) λp h=>B.pick a p (.bool false) λq=>B.cond q (B.pv (V.bin .add b (.int .i64 1)) λr=>Y3 [r] h) (zq (zk.l3 C E f1 Q Y1 d e b) [c] h)
@[simp] def zk.l5(C:z6)(E:zbj)(f1:Nat)(Q:zQ)(Y1:zL)(b c a:za):zG|[d],h,Y3=>zk.k4 C E f1 Q Y1 Y3 b c d a h|_,_,_=>False
@[simp] def zk.l6(C:z6)(E:zbj)(f1:Nat)(Q:zQ)(b c:za):zG|[d,a],h,Y1=>zq (zk.l5 C E f1 Q Y1 b c a) [d] h|_,_,_=>False
@[simp] def zk.k7(C:z6)(E:zbj)(f1:Nat)(Q:zQ)(d a e:za)(h:zb):Prop:=B.pv (V.bin .add a (.int .i64 1)) λb=>B.pv (V.bin .sub e (.int .i64 1)) λc=>zq (zk.l6 C E f1 Q d a) [b,c] h
@[simp] def zk.k8(C:z6)(E:zbj)(f1:Nat)(Q:zQ)(a b k c:za)(h:zb):Prop:=B.pv (V.zcp E.es a c) λd=>E.ld h d λe=>B.pv (V.zcp E.es a b) λf=>E.ld h f λg=>B.pv (V.zcp E.es a b) λi=>E.st h i e λh=>B.pv (V.zcp E.es a c) λj=>E.st h j g λh=>zk.k7 C E f1 Q a b k h
@[simp] def zk.cps(C:z6)(E:zbj)(f1:Nat)(a b c d:za)(h:zb)(Q:zQ):Prop:=zk.k8 C E f1 Q a b c d h
@[simp] def zf.k1(C:z6)(E:zbj)(f1:Nat)(Q:zQ)(b j a:za)(h:zb):Prop:=B.pv (V.zcp E.es b j) λc=>E.ld h c λd=>B.pv (V.zcp E.es b a) λe=>E.ld h e λf=>B.pv (V.zcp E.es b a) λg=>E.st h g d λh=>B.pv (V.zcp E.es b j) λi=>E.st h i f λh=>Q (.tup [a,(.bool false)]) h
@[simp] def zf.k2(C:z6)(E:zbj)(f1:Nat)(Q:zQ)(Y1:zL)(c n b a:za)(h:zb):Prop:=B.pv (V.bin .gtr b a) λd=>B.cond d (zf.k1 C E f1 Q c n a h) (B.pv (V.zcp E.es c a) λe=>E.ld h e λf=>B.pv (V.zcp E.es c b) λg=>E.ld h g λi=>B.pv (V.zcp E.es c b) λj=>E.st h j f λh=>B.pv (V.zcp E.es c a) λk=>E.st h k i λh=>B.pv (V.bin .add b (.int .i64 1)) λl=>B.pv (V.bin .sub a (.int .i64 1)) λm=>Y1 [l,m] h)
@[simp] def zf.k3(C:z6)(E:zbj)(f1:Nat)(Q:zQ)(Y1:zL)(Y2:zL)(d r c b:za)(h:zb):Prop:=B.pv (V.bin .leq c b) λa=>B.gd h a true (λK=>K d h) λe h=>B.gd h a true (λK=>K b h) λf h=>B.gd h a true (λK=>B.pv (V.zcp E.es e f) λv=>K v h) λg h=>B.gd h a true (λK=>E.ld h g λv=>K v h) λi h=>B.gd h a true (λK=>K d h) λj h=>B.gd h a true (λK=>K r h) λk h=>B.gd h a true (λK=>B.pv (V.zcp E.es j k) λv=>K v h) λl h=>B.gd h a true (λK=>E.ld h l λv=>K v h) λm h=>B.gd h a true (λK=>B.call C f1 [i,m] h K) λn h=>B.gd h a true (λK=>B.pv (V.un .not n) λv=>K v h) λo h=>B.pick a o (.bool false) λp=>B.cond p (B.pv (V.bin .sub b (.int .i64 1)) λq=>Y2 [q] h) (zf.k2 C E f1 Q Y1 d r c b h)
@[simp] def zf.l4(C:z6)(E:zbj)(f1:Nat)(Q:zQ)(Y1:zL)(c d a:za):zG|[b],h,Y2=>zf.k3 C E f1 Q Y1 Y2 c d a b h|_,_,_=>False
@[simp] def zf.k5(C:z6)(E:zbj)(f1:Nat)(Q:zQ)(Y1:zL)(Y3:zL)(d q b c:za)(h:zb):Prop:=B.pv (V.bin .leq b c) λa=>B.gd h a true (λK=>K d h) λe h=>B.gd h a true (λK=>K b h) λf h=>B.gd h a true (λK=>B.pv (V.zcp E.es e f) λv=>K v h) λg h=>B.gd h a true (λK=>E.ld h g λv=>K v h) λi h=>B.gd h a true (λK=>K d h) λj h=>B.gd h a true (λK=>K q h) λk h=>B.gd h a true (λK=>B.pv (V.zcp E.es j k) λv=>K v h) λl h=>B.gd h a true (λK=>E.ld h l λv=>K v h) λm h=>B.gd h a true (λK=>B.call C f1 [i,m] h K) λn h=>B.pick a n (.bool false) λo=>B.cond o (B.pv (V.bin .add b (.int .i64 1)) λp=>Y3 [p] h) (zq (zf.l4 C E f1 Q Y1 d q b) [c] h)
@[simp] def zf.l6(C:z6)(E:zbj)(f1:Nat)(Q:zQ)(Y1:zL)(c d a:za):zG|[b],h,Y3=>zf.k5 C E f1 Q Y1 Y3 c d b a h|_,_,_=>False
@[simp] def zf.l7(C:z6)(E:zbj)(f1:Nat)(Q:zQ)(c d:za):zG|[a,b],h,Y1=>zq (zf.l6 C E f1 Q Y1 c d b) [a] h|_,_,_=>False
@[simp] def zf.k8(C:z6)(E:zbj)(f1:Nat)(Q:zQ)(e f a b:za)(h:zb):Prop:=B.pv (V.bin .add a (.int .i64 1)) λc=>B.pv (V.bin .sub b (.int .i64 1)) λd=>zq (zf.l7 C E f1 Q e f) [c,d] h
@[simp] def zf.k9(C:z6)(E:zbj)(f1:Nat)(Q:zQ)(a k b c:za)(h:zb):Prop:=B.pv (V.zcp E.es a c) λd=>E.ld h d λe=>B.pv (V.zcp E.es a b) λf=>E.ld h f λg=>B.pv (V.zcp E.es a b) λi=>E.st h i e λh=>B.pv (V.zcp E.es a c) λj=>E.st h j g λh=>zf.k8 C E f1 Q a k b c h
@[simp] def zf.k10(C:z6)(E:zbj)(f1:Nat)(Q:zQ)(b d c a:za)(h:zb):Prop:=B.pv (V.bin .gtr c a) λe=>B.cond e (B.pv (V.zcp E.es b d) λf=>E.ld h f λg=>B.pv (V.zcp E.es b a) λi=>E.ld h i λj=>B.pv (V.zcp E.es b a) λk=>E.st h k g λh=>B.pv (V.zcp E.es b d) λl=>E.st h l j λh=>Q (.tup [a,(.bool true)]) h) (zf.k9 C E f1 Q b d c a h)
@[simp] def zf.k11(C:z6)(E:zbj)(f1:Nat)(Q:zQ)(Y4:zL)(d e c b:za)(h:zb):Prop:=B.pv (V.bin .leq c b) λa=>B.gd h a true (λK=>K d h) λf h=>B.gd h a true (λK=>K b h) λg h=>B.gd h a true (λK=>B.pv (V.zcp E.es f g) λv=>K v h) λi h=>B.gd h a true (λK=>E.ld h i λv=>K v h) λj h=>B.gd h a true (λK=>K d h) λk h=>B.gd h a true (λK=>K e h) λl h=>B.gd h a true (λK=>B.pv (V.zcp E.es k l) λv=>K v h) λm h=>B.gd h a true (λK=>E.ld h m λv=>K v h) λn h=>B.gd h a true (λK=>B.call C f1 [j,n] h K) λo h=>B.gd h a true (λK=>B.pv (V.un .not o) λv=>K v h) λp h=>B.pick a p (.bool false) λq=>B.cond q (B.pv (V.bin .sub b (.int .i64 1)) λr=>Y4 [r] h) (zf.k10 C E f1 Q d e c b h)
@[simp] def zf.l12(C:z6)(E:zbj)(f1:Nat)(Q:zQ)(c d a:za):zG|[b],h,Y4=>zf.k11 C E f1 Q Y4 c d a b h|_,_,_=>False
@[simp] def zf.k13(C:z6)(E:zbj)(f1:Nat)(Q:zQ)(Y5:zL)(d e b c:za)(h:zb):Prop:=B.pv (V.bin .leq b c) λa=>B.gd h a true (λK=>K d h) λf h=>B.gd h a true (λK=>K b h) λg h=>B.gd h a true (λK=>B.pv (V.zcp E.es f g) λv=>K v h) λi h=>B.gd h a true (λK=>E.ld h i λv=>K v h) λj h=>B.gd h a true (λK=>K d h) λk h=>B.gd h a true (λK=>K e h) λl h=>B.gd h a true (λK=>B.pv (V.zcp E.es k l) λv=>K v h) λm h=>B.gd h a true (λK=>E.ld h m λv=>K v h) λn h=>B.gd h a true (λK=>B.call C f1 [j,n] h K) λo h=>B.pick a o (.bool false) λp=>B.cond p (B.pv (V.bin .add b (.int .i64 1)) λq=>Y5 [q] h) (zq (zf.l12 C E f1 Q d e b) [c] h)
@[simp] def zf.l14(C:z6)(E:zbj)(f1:Nat)(Q:zQ)(c d a:za):zG|[b],h,Y5=>zf.k13 C E f1 Q Y5 c d b a h|_,_,_=>False
@[simp] def zf.k15(C:z6)(E:zbj)(f1:Nat)(Q:zQ)(d a e:za)(h:zb):Prop:=B.pv (V.bin .add a (.int .i64 1)) λb=>B.pv (V.bin .sub e (.int .i64 1)) λc=>zq (zf.l14 C E f1 Q d a c) [b] h
@[simp] def zf.k16(C:z6)(E:zbj)(f1:Nat)(Q:zQ)(a b k c:za)(h:zb):Prop:=B.pv (V.zcp E.es a c) λd=>E.ld h d λe=>B.pv (V.zcp E.es a b) λf=>E.ld h f λg=>B.pv (V.zcp E.es a b) λi=>E.st h i e λh=>B.pv (V.zcp E.es a c) λj=>E.st h j g λh=>zf.k15 C E f1 Q a b k h
@[simp] def zf.cps(C:z6)(E:zbj)(f1:Nat)(a b c d:za)(h:zb)(Q:zQ):Prop:=zf.k16 C E f1 Q a b c d h
@[simp] def zbe.k1(C:z6)(E:zbj)(f1:Nat)(Q:zQ)(Y1:zL)(a x b d c:za)(h:zb):Prop:=B.pv (V.bin .add b d) λe=>B.pv (V.zcp E.es a e) λf=>E.ld h f λg=>B.pv (V.bin .add b c) λi=>B.pv (V.zcp E.es a i) λj=>E.ld h j λk=>B.call C f1 [g,k] h λl h=>B.pv (V.un .not l) λm=>B.cond m (Q (.tup []) h) (B.pv (V.bin .add b d) λn=>B.pv (V.bin .add b c) λo=>B.pv (V.bin .add b c) λp=>B.pv (V.zcp E.es a p) λq=>E.ld h q λr=>B.pv (V.bin .add b d) λs=>B.pv (V.zcp E.es a s) λt=>E.ld h t λu=>B.pv (V.zcp E.es a n) λv=>E.st h v r λh=>B.pv (V.zcp E.es a o) λw=>E.st h w u λh=>Y1 [c] h)
@[simp] def zbe.k2(C:z6)(E:zbj)(f1:Nat)(Q:zQ)(Y1:zL)(c e d f b:za)(h:zb):Prop:=B.pv (V.bin .add b (.int .i64 1)) λg=>B.pv (V.bin .lss g e) λa=>B.gd h a true (λK=>K c h) λi h=>B.gd h a true (λK=>K d h) λj h=>B.gd h a true (λK=>K b h) λk h=>B.gd h a true (λK=>B.pv (V.bin .add j k) λv=>K v h) λl h=>B.gd h a true (λK=>B.pv (V.zcp E.es i l) λv=>K v h) λm h=>B.gd h a true (λK=>E.ld h m λv=>K v h) λn h=>B.gd h a true (λK=>K c h) λo h=>B.gd h a true (λK=>K d h) λp h=>B.gd h a true (λK=>K b h) λq h=>B.gd h a true (λK=>B.pv (V.bin .add p q) λv=>K v h) λr h=>B.gd h a true (λK=>B.pv (V.bin .add r (.int .i64 1)) λv=>K v h) λs h=>B.gd h a true (λK=>B.pv (V.zcp E.es o s) λv=>K v h) λt h=>B.gd h a true (λK=>E.ld h t λv=>K v h) λu h=>B.gd h a true (λK=>B.call C f1 [n,u] h K) λw h=>B.pick a w (.bool false) λx=>B.cond x (B.pv (V.bin .add b (.int .i64 1)) λy=>zbe.k1 C E f1 Q Y1 c e d f y h) (zbe.k1 C E f1 Q Y1 c e d f b h)
@[simp] def zbe.k3(C:z6)(E:zbj)(f1:Nat)(Q:zQ)(Y1:zL)(f b g c:za)(h:zb):Prop:=B.pv (V.bin .mul (.int .i64 2) c) λd=>B.pv (V.bin .add d (.int .i64 1)) λa=>B.pv (V.bin .geq a b) λe=>B.cond e (Q (.tup []) h) (zbe.k2 C E f1 Q Y1 f b g c a h)
@[simp] def zbe.l4(C:z6)(E:zbj)(f1:Nat)(Q:zQ)(a b c:za):zG|[d],h,Y1=>zbe.k3 C E f1 Q Y1 a b c d h|_,_,_=>False
@[simp] def zbe.cps(C:z6)(E:zbj)(f1:Nat)(a b c d:za)(h:zb)(Q:zQ):Prop:=zq (zbe.l4 C E f1 Q a c d) [b] h
@[simp] def zez.cps(C:z6)(E:zbj)(f1:Nat)(d a e:za)(h:zb)(Q:zQ):Prop:=B.pv (V.bin .sub a (.int .i64 1)) λf=>B.pv (V.bin .add a (.int .i64 1)) λb=>B.call C f1 [d,f,a,b,e] h λc h=>Q c h
@[simp] def ze3.k1(C:z6)(E:zbj)(f1:Nat)(Q:zQ)(d k l m e:za)(h:zb):Prop:=B.call C f1 [d,k,l,e] h λa h=>B.pv (V.ext 0 a) λf=>B.pv (V.ext 1 a) λg=>B.call C f1 [d,g,m,e] h λb h=>B.pv (V.ext 0 b) λi=>B.pv (V.ext 1 b) λn=>B.call C f1 [d,f,i,e] h λc h=>B.pv (V.ext 0 c) λo=>B.pv (V.ext 1 c) λj=>Q j h
@[simp] def ze3.cps(C:z6)(E:zbj)(f1:Nat)(a b c d e:za)(h:zb)(Q:zQ):Prop:=ze3.k1 C E f1 Q a b c d e h
@[simp] def ze2.k1(C:z6)(E:zbj)(f1:Nat)(Q:zQ)(c a b d:za)(h:zb):Prop:=B.pv (V.zcp E.es c b) λe=>E.ld h e λf=>B.pv (V.zcp E.es c a) λg=>E.ld h g λi=>B.call C f1 [f,i] h λj h=>B.cond j (B.nilCheck d λk=>B.ld h k λl=>B.pv (V.bin .add l (.int .i64 1)) λm=>B.nilCheck d λn=>B.st h n m λh=>Q (.tup [b,a]) h) (Q (.tup [a,b]) h)
@[simp] def ze2.cps(C:z6)(E:zbj)(f1:Nat)(a b c d:za)(h:zb)(Q:zQ):Prop:=ze2.k1 C E f1 Q a b c d h
@[simp] def zcz.k1(C:z6)(E:zbj)(Q:zQ)(Z1:Nat->zb->Prop)(a d:za)(h:zb):Prop:=B.ld h a λe=>B.zha h (zeu [(0,E.kp,d)] (zhu 1 E.z)) λb h=>B.zjc h E.es E.bytes e (.sl b 0 0 1 E.es 1) λc h=>B.st h a c λh=>Z1 0 h
@[simp] def zcz.r2(C:z6)(E:zbj)(Q:zQ)(a:za)(b:za)(h:zb)(Z1:Nat->zb->Prop):Prop:=zcz.k1 C E Q Z1 a b h
@[simp] def zcz.k3(C:z6)(E:zbj)(Q:zQ)(c d:za)(h:zb):Prop:=B.zha h (A.zk4 c) λa h=>zrx C d (W1 λe h Z1=>zcz.r2 C E Q (.ptr a 0 0) e h Z1) h (RK [(0,λh=>B.ld h (.ptr a 0 0) λb=>Q b h)])
@[simp] def zcz.cps(C:z6)(E:zbj)(a b:za)(h:zb)(Q:zQ):Prop:=zcz.k3 C E Q a b h
@[simp] def zcq.k1(C:z6)(N:zN)(Q:zQ)(a:za)(h:zb):Prop:=B.nilCheck a λu=>B.ld h u λv=>B.nilCheck a λw=>B.ld h w λx=>B.pv (V.bin .shl x (.int .u64 13)) λy=>B.pv (V.bin .xor v y) λb=>B.nilCheck a λc=>B.st h c b λh=>B.nilCheck a λd=>B.ld h d λe=>B.nilCheck a λf=>B.ld h f λg=>B.pv (V.bin .shr g (.int .u64 7)) λi=>B.pv (V.bin .xor e i) λj=>B.nilCheck a λk=>B.st h k j λh=>B.nilCheck a λl=>B.ld h l λm=>B.nilCheck a λn=>B.ld h n λo=>B.pv (V.bin .shl o (.int .u64 17)) λp=>B.pv (V.bin .xor m p) λq=>B.nilCheck a λr=>B.st h r q λh=>B.nilCheck a λs=>B.ld h s λt=>Q t h
variable(C:z6)(N:Nat→Nat)
@[simp] def zcq.cps(a:za)(h:zb)(Q:zQ):Prop:=zcq.k1 C N Q a h
def zcq.Imp:Prop:=im1 C (N 298) (zcq.cps C N)
@[simp] def zdb.cps(a:za)(h:zb)(Q:zQ):Prop:=B.pv (V.toInt .u64 a) λb=>B.call C (N 287) [b] h λc h=>B.pv (V.bin .shl (.int .u64 1) c) λd=>Q d h
def zdb.Imp:Prop:=im1 C (N 299) (zdb.cps C N)
def zbt.cps(a:za)(h:zb)(Q:zQ):Prop:=zhl.cps C (zdd 16 (.str []) 0) (N 287) (N 375) a h Q
def zbt.Imp:Prop:=im1 C (N 364) (zbt.cps C N)
def zcu.cps(a b c d:za)(h:zb)(Q:zQ):Prop:=zp.cps C (zdd 16 (.str []) 0) (N 377) (N 378) (N 379) (N 375) (N 380) (N 381) (N 382) (N 383) (N 384) (N 385) a b c d h Q
def zcu.Imp:Prop:=im4 C (N 375) (zcu.cps C N)
def zbv.cps(a b c d:za)(h:zb)(Q:zQ):Prop:=zk.cps C (zdd 16 (.str []) 0) (N 377) a b c d h Q
def zbv.Imp:Prop:=im4 C (N 378) (zbv.cps C N)
def zce.cps(a b c d:za)(h:zb)(Q:zQ):Prop:=zf.cps C (zdd 16 (.str []) 0) (N 377) a b c d h Q
def zce.Imp:Prop:=im4 C (N 379) (zce.cps C N)
def zbk.cps(a b c:za)(h:zb)(Q:zQ):Prop:=zd.cps C (zdd 16 (.str []) 0) (N 377) a b c h Q
def zbk.Imp:Prop:=im3 C (N 380) (zbk.cps C N)
def zb2.cps(C:z6)(N:zN)(a b c:za)(h:zb)(Q:zQ):Prop:=zb3.cps C (zdd 16 (.str []) 0) a b c h Q
def zb2.Imp:Prop:=im3 C (N 381) (zb2.cps C N)
def zb8.cps(a b c:za)(h:zb)(Q:zQ):Prop:=zt.cps C (zdd 16 (.str []) 0) (N 387) (N 388) a b c h Q
def zb8.Imp:Prop:=im3 C (N 382) (zb8.cps C N)
def zb1.cps(a b c:za)(h:zb)(Q:zQ):Prop:=zi.cps C (zdd 16 (.str []) 0) (N 298) (N 299) a b c h Q
def zb1.Imp:Prop:=im3 C (N 383) (zb1.cps C N)
def zcn.cps(a b c:za)(h:zb)(Q:zQ):Prop:=z7.cps C (zdd 16 (.str []) 0) (N 386) a b c h Q
def zcn.Imp:Prop:=im3 C (N 384) (zcn.cps C N)
def zb0.cps(a b c:za)(h:zb)(Q:zQ):Prop:=zbb.cps C (zdd 16 (.str []) 0) (N 377) a b c h Q
def zb0.Imp:Prop:=im3 C (N 385) (zb0.cps C N)
def zcl.cps(a b c d:za)(h:zb)(Q:zQ):Prop:=zbe.cps C (zdd 16 (.str []) 0) (N 377) a b c d h Q
def zcl.Imp:Prop:=im4 C (N 386) (zcl.cps C N)
def zbw.cps(a b c:za)(h:zb)(Q:zQ):Prop:=zez.cps C (zdd 16 (.str []) 0) (N 388) a b c h Q
def zbw.Imp:Prop:=im3 C (N 387) (zbw.cps C N)
def zc3.cps(a b c d e:za)(h:zb)(Q:zQ):Prop:=ze3.cps C (zdd 16 (.str []) 0) (N 390) a b c d e h Q
def zc3.Imp:Prop:=im5 C (N 388) (zc3.cps C N)
def zc2.cps(a b c d:za)(h:zb)(Q:zQ):Prop:=ze2.cps C (zdd 16 (.str []) 0) (N 377) a b c d h Q
def zc2.Imp:Prop:=im4 C (N 390) (zc2.cps C N)
@[simp] def zcg.cps(b:za)(h:zb)(Q:zQ):Prop:=B.call C (N 529) [b] h λa h=>B.call C (N 364) [a] h λc h=>Q a h
def zcg.Imp:Prop:=im1 C (N 510) (zcg.cps C N)
def zbq.cps(a:za)(h:zb)(Q:zQ):Prop:=zhl.cps C (zdd 8 (.int .i64 0) 0) (N 287) (N 531) a h Q
def zbq.Imp:Prop:=im1 C (N 511) (zbq.cps C N)
@[simp] def zcr.cps(b:za)(h:zb)(Q:zQ):Prop:=B.call C (N 530) [b] h λa h=>B.call C (N 511) [a] h λc h=>Q a h
def zcr.Imp:Prop:=im1 C (N 515) (zcr.cps C N)
@[simp] def zdp.cps(a:za)(h:zb)(Q:zQ):Prop:=B.call C (N 532) [.zdo,a] h λb h=>Q b h
def zdp.Imp:Prop:=im1 C (N 529) (zdp.cps C N)
@[simp] def zdt.cps(a:za)(h:zb)(Q:zQ):Prop:=B.call C (N 533) [.zdo,a] h λb h=>Q b h
def zdt.Imp:Prop:=im1 C (N 530) (zdt.cps C N)
def zc1.cps(a b c d:za)(h:zb)(Q:zQ):Prop:=zp.cps C (zdd 8 (.int .i64 0) 0) (N 534) (N 535) (N 536) (N 531) (N 537) (N 538) (N 539) (N 540) (N 541) (N 542) a b c d h Q
def zc1.Imp:Prop:=im4 C (N 531) (zc1.cps C N)
def zcf.cps(C:z6)(N:zN)(a b:za)(h:zb)(Q:zQ):Prop:=zcz.cps C (zdd 16 (.str []) 0) a b h Q
def zcf.Imp:Prop:=im2 C (N 532) (zcf.cps C N)
def zcw.cps(C:z6)(N:zN)(a b:za)(h:zb)(Q:zQ):Prop:=zcz.cps C (zdd 8 (.int .i64 0) 0) a b h Q
def zcw.Imp:Prop:=im2 C (N 533) (zcw.cps C N)
def zby.cps(a b c d:za)(h:zb)(Q:zQ):Prop:=zk.cps C (zdd 8 (.int .i64 0) 0) (N 534) a b c d h Q
def zby.Imp:Prop:=im4 C (N 535) (zby.cps C N)
def zcm.cps(a b c d:za)(h:zb)(Q:zQ):Prop:=zf.cps C (zdd 8 (.int .i64 0) 0) (N 534) a b c d h Q
def zcm.Imp:Prop:=im4 C (N 536) (zcm.cps C N)
def zbl.cps(a b c:za)(h:zb)(Q:zQ):Prop:=zd.cps C (zdd 8 (.int .i64 0) 0) (N 534) a b c h Q
def zbl.Imp:Prop:=im3 C (N 537) (zbl.cps C N)
def zb7.cps(C:z6)(N:zN)(a b c:za)(h:zb)(Q:zQ):Prop:=zb3.cps C (zdd 8 (.int .i64 0) 0) a b c h Q
def zb7.Imp:Prop:=im3 C (N 538) (zb7.cps C N)
def zca.cps(a b c:za)(h:zb)(Q:zQ):Prop:=zt.cps C (zdd 8 (.int .i64 0) 0) (N 544) (N 545) a b c h Q
def zca.Imp:Prop:=im3 C (N 539) (zca.cps C N)
def zb5.cps(a b c:za)(h:zb)(Q:zQ):Prop:=zi.cps C (zdd 8 (.int .i64 0) 0) (N 298) (N 299) a b c h Q
def zb5.Imp:Prop:=im3 C (N 540) (zb5.cps C N)
def zcv.cps(a b c:za)(h:zb)(Q:zQ):Prop:=z7.cps C (zdd 8 (.int .i64 0) 0) (N 543) a b c h Q
def zcv.Imp:Prop:=im3 C (N 541) (zcv.cps C N)
def zb4.cps(a b c:za)(h:zb)(Q:zQ):Prop:=zbb.cps C (zdd 8 (.int .i64 0) 0) (N 534) a b c h Q
def zb4.Imp:Prop:=im3 C (N 542) (zb4.cps C N)
def zct.cps(a b c d:za)(h:zb)(Q:zQ):Prop:=zbe.cps C (zdd 8 (.int .i64 0) 0) (N 534) a b c d h Q
def zct.Imp:Prop:=im4 C (N 543) (zct.cps C N)
def zbz.cps(a b c:za)(h:zb)(Q:zQ):Prop:=zez.cps C (zdd 8 (.int .i64 0) 0) (N 545) a b c h Q
def zbz.Imp:Prop:=im3 C (N 544) (zbz.cps C N)
def zc9.cps(a b c d e:za)(h:zb)(Q:zQ):Prop:=ze3.cps C (zdd 8 (.int .i64 0) 0) (N 547) a b c d e h Q
def zc9.Imp:Prop:=im5 C (N 545) (zc9.cps C N)
def zc8.cps(a b c d:za)(h:zb)(Q:zQ):Prop:=ze2.cps C (zdd 8 (.int .i64 0) 0) (N 534) a b c d h Q
def zc8.Imp:Prop:=im4 C (N 547) (zc8.cps C N)
end Go.Ab
