/- What is proved: a part of the way to the statement: AcJ. No conditions. -/
import Derived.Test.YtlcijlhcilgknaaGreatQ3
import Derived.Test.YtlcijlhcilgknaaGreatQ5
import Derived.KernelRfl
set_option linter.unusedVariables false
set_option linter.unusedSimpArgs false
namespace Go.Ab
theorem arg_slice {T:Type} {H:za} {bytes es:Nat} {e:Ty} {v:AVal} (cs:T->List AVal) (hd: ∀ p,zju H e p-> ∃ t,p=cs t) (h:zju H (.sl bytes es e) [v]):
  ∃ L:List T,SlIs H es v (L.map cs) /\ L.length*bytes <= reach:=by
 rcases h with h|h|⟨id,parts,h1,h2,h3,h4⟩
 ·cases h;exact ⟨[],SlX.nils H es,by simp⟩
 ·cases h;exact ⟨[],SlX.sz H es,by simp⟩
 ·cases h1
  have: ∃ L:List T,parts=L.map cs:=by
   clear h2 h3
   induction parts with
   | nil=>exact ⟨[],rfl⟩
   | cons p r ih=>
    obtain ⟨L,rfl⟩:=ih fun q hq=>h4 q (by simp [hq])
    obtain ⟨t,rfl⟩:=hd p (h4 p (by simp)).1
    exact ⟨t::L,rfl⟩
  obtain ⟨L,rfl⟩:=this
  have hl: ∀ p∈L.map cs++[],p.length=es:=fun p hp=>(h4 p (by simpa using hp)).2
  have hfl:(L.map cs).flatten.length=L.length*es:=by
   have:=zlo (css:=L.map cs) (n:=es) fun p hp=>(h4 p hp).2
   simpa using this
  refine ⟨L,⟨hl,.inr ⟨id,0,0,(L.map cs).length,roOf (L.map cs).flatten,(L.map cs).flatten.length,rfl,by simp,h2,zh3 ..,?_,Nat.le_refl _,?_⟩⟩,by simpa using h3⟩
  ·rw [hfl];simp
  ·simp only [roOf,List.drop_zero,List.append_nil,List.length_nil,Nat.add_zero,List.length_map]
   rw [<- hfl,List.take_length]
end Go.Ab
namespace Go.Ab
variable {C:CSem} {N:zN}
structure zx where
 es:Nat
 bytes:Nat
 z:List AVal
 f:Nat
 kp:Option Nat
 ld:za->AVal->(AVal->Prop)->Prop
 st:za->AVal->AVal->(za->Prop)->Prop
 eq:za->AVal->AVal->(zQ)->Prop
section
variable (E:zx)
@[simp] def z6.k3 (C:CSem) (Q:zQ) (Y1 Y2:zL) (v0 v5 v14 v15:AVal) (h:za):Prop:=
 B.pv (V.idxS 1 v0 v14) fun v161=>
  B.ld h v161 fun v162=>
  B.pv (V.zbj v162) fun v163=>
  B.pv (V.bin .lss v15 v163) fun v164=>
  B.cond v164
  (B.pv (V.idxS 1 v0 v14) fun v169=>
  B.ld h v169 fun v170=>
  B.pv (V.idxS E.es v170 v15) fun v172=>
  E.ld h v172 fun v173=>
  B.call C E.f [v14,v15] h (B.zm2 h [(v169,none),(v172,E.kp)] (fun v176 h=>E.eq h v173 v176 fun v177 h=>
  B.pv (V.un .not v177) fun v178=>
  B.gd h v178 false (fun K=>K v5 h) fun v180 h=>
  B.gd h v178 false (fun K=>K v14 h) fun v181 h=>
  B.gd h v178 false (fun K=>B.pv (V.idxS 1 v180 v181) fun v=>K v h) fun v182 h=>
  B.gd h v178 false (fun K=>B.ld h v182 fun v=>K v h) fun v183 h=>
  B.gd h v178 false (fun K=>K v15 h) fun v184 h=>
  B.gd h v178 false (fun K=>B.pv (V.idxS E.es v183 v184) fun v=>K v h) fun v185 h=>
  B.gd h v178 false (fun K=>E.ld h v185 fun v=>K v h) fun v186 h=>
  B.gd h v178 false (fun K=>K v14 h) fun v187 h=>
  B.gd h v178 false (fun K=>K v15 h) fun v188 h=>
  B.gd h v178 false (fun K=>B.call C E.f [v187,v188] h (B.zm2 h [(v182,none),(v185,E.kp)] K)) fun v189 h=>
  B.gd h v178 false (fun K=>E.eq h v186 v189 K) fun v190 h=>
  B.gd h v178 false (fun K=>B.pv (V.un .not v190) fun v=>K v h) fun v191 h=>
  B.pick v178 (.bool true) v191 fun v192=>
  B.cond v192
  (Q (.bool false) h)
  (B.pv (V.bin .add v15 (.int .i64 1)) fun v166=>
  Y2 [v166] h))))
  (B.pv (V.bin .add v14 (.int .i64 1)) fun v157=>
  Y1 [v157] h)
@[simp] def z6.l5 (C:CSem) (Q:zQ) (Y1:zL) (v0 v5 v14:AVal):zG
 | [v15],h,Y2=>z6.k3 E C Q Y1 Y2 v0 v5 v14 v15 h
 | _,_,_=>False
@[simp] def z6.k12 (C:CSem) (Q:zQ) (Y1:zL) (v0 v5 v14:AVal) (h:za):Prop:=
 B.pv (V.zbj v0) fun v154=>
  B.pv (V.bin .lss v14 v154) fun v155=>
  B.cond v155
  (zg (z6.l5 E C Q Y1 v0 v5 v14) [(.int .i64 0)] h)
  (Q (.bool true) h)
@[simp] def z6.l15 (C:CSem) (Q:zQ) (v0 v5:AVal):zG
 | [v14],h,Y1=>z6.k12 E C Q Y1 v0 v5 v14 h
 | _,_,_=>False
@[simp] def z6.k22 (C:CSem) (Q:zQ) (Y3:zL) (v0 v5 v11 v12:AVal) (h:za):Prop:=
 B.pv (V.idxS 1 v0 v11) fun v147=>
  B.ld h v147 fun v148=>
  B.appW h E.es E.bytes v148 v12 fun v150 h=>
  B.pv (V.idxS 1 v5 v11) fun v151=>
  B.st h v151 v150 fun h=>
  B.pv (V.bin .add v11 (.int .i64 1)) fun v128=>
  Y3 [v128] h
@[simp] def z6.k24 (C:CSem) (Q:zQ) (Y3 Y4:zL) (v0 v5 v11 v12 v13:AVal) (h:za):Prop:=
 B.pv (V.bin .lss v13 (.int .i64 64)) fun v131=>
  B.cond v131
  (B.pv (V.zbj v0) fun v138=>
  B.pv (V.bin .add v11 v138) fun v139=>
  B.call C E.f [v139,v13] h fun v141 h=>
  B.pv (V.idxS E.es v12 v13) fun v142=>
  E.st h v142 v141 fun h=>
  B.pv (V.bin .add v13 (.int .i64 1)) fun v133=>
  Y4 [v133] h)
  (z6.k22 E C Q Y3 v0 v5 v11 v12 h)
@[simp] def z6.l26 (C:CSem) (Q:zQ) (Y3:zL) (v0 v5 v11 v12:AVal):zG
 | [v13],h,Y4=>z6.k24 E C Q Y3 Y4 v0 v5 v11 v12 v13 h
 | _,_,_=>False
@[simp] def z6.k37 (C:CSem) (Q:zQ) (Y3:zL) (v0 v5 v11:AVal) (h:za):Prop:=
 B.pv (V.zbj v0) fun v125=>
  B.pv (V.bin .lss v11 v125) fun v126=>
  B.cond v126
  (0<E.es /\ B.mks h E.bytes (some E.z) (.int .i64 64) (.int .i64 64) fun v129 h=>
  zg (z6.l26 E C Q Y3 v0 v5 v11 v129) [(.int .i64 0)] h)
  (zg (z6.l15 E C Q v0 v5) [(.int .i64 0)] h)
@[simp] def z6.l40 (C:CSem) (Q:zQ) (v0 v5:AVal):zG
 | [v11],h,Y3=>z6.k37 E C Q Y3 v0 v5 v11 h
 | _,_,_=>False
@[simp] def z6.k47 (C:CSem) (Q:zQ) (Y5 Y6:zL) (v0 v5 v9 v10:AVal) (h:za):Prop:=
 B.pv (V.idxS 1 v5 v9) fun v82=>
  B.ld h v82 fun v83=>
  B.pv (V.zbj v83) fun v84=>
  B.pv (V.bin .lss v10 v84) fun v85=>
  B.cond v85
  (B.pv (V.idxS 1 v5 v9) fun v90=>
  B.ld h v90 fun v91=>
  B.pv (V.idxS E.es v91 v10) fun v93=>
  E.ld h v93 fun v94=>
  B.call C E.f [v9,v10] h (B.zm2 h [(v90,none),(v93,E.kp)] (fun v97 h=>E.eq h v94 v97 fun v98 h=>
  B.pv (V.un .not v98) fun v99=>
  B.gd h v99 false (fun K=>K v10 h) fun v101 h=>
  B.gd h v99 false (fun K=>K v0 h) fun v102 h=>
  B.gd h v99 false (fun K=>K v9 h) fun v103 h=>
  B.gd h v99 false (fun K=>B.pv (V.idxS 1 v102 v103) fun v=>K v h) fun v104 h=>
  B.gd h v99 false (fun K=>B.ld h v104 fun v=>K v h) fun v105 h=>
  B.gd h v99 false (fun K=>B.pv (V.zbj v105) fun v=>K v h) fun v106 h=>
  B.gd h v99 false (fun K=>B.pv (V.bin .lss v101 v106) fun v=>K v h) fun v107 h=>
  B.gd h v99 false (fun K=>K v107 h) fun v108 h=>
  B.gd h v108 true (fun K=>K v0 h) fun v109 h=>
  B.gd h v108 true (fun K=>K v9 h) fun v110 h=>
  B.gd h v108 true (fun K=>B.pv (V.idxS 1 v109 v110) fun v=>K v h) fun v111 h=>
  B.gd h v108 true (fun K=>B.ld h v111 fun v=>K v h) fun v112 h=>
  B.gd h v108 true (fun K=>K v10 h) fun v113 h=>
  B.gd h v108 true (fun K=>B.pv (V.idxS E.es v112 v113) fun v=>K v h) fun v114 h=>
  B.gd h v108 true (fun K=>E.ld h v114 fun v=>K v h) fun v115 h=>
  B.gd h v108 true (fun K=>K v9 h) fun v116 h=>
  B.gd h v108 true (fun K=>K v10 h) fun v117 h=>
  B.gd h v108 true (fun K=>B.call C E.f [v116,v117] h (B.zm2 h [(v111,none),(v114,E.kp)] K)) fun v118 h=>
  B.gd h v108 true (fun K=>E.eq h v115 v118 K) fun v119 h=>
  B.gd h v108 true (fun K=>B.pv (V.un .not v119) fun v=>K v h) fun v120 h=>
  B.gd h v99 false (fun K=>B.pick v108 v120 (.bool false) fun v=>K v h) fun v121 h=>
  B.pick v99 (.bool true) v121 fun v122=>
  B.cond v122
  (Q (.bool false) h)
  (B.pv (V.bin .add v10 (.int .i64 1)) fun v87=>
  Y6 [v87] h))))
  (B.pv (V.bin .add v9 (.int .i64 1)) fun v78=>
  Y5 [v78] h)
@[simp] def z6.l49 (C:CSem) (Q:zQ) (Y5:zL) (v0 v5 v9:AVal):zG
 | [v10],h,Y6=>z6.k47 E C Q Y5 Y6 v0 v5 v9 v10 h
 | _,_,_=>False
@[simp] def z6.k56 (C:CSem) (Q:zQ) (Y5:zL) (v0 v5 v9:AVal) (h:za):Prop:=
 B.pv (V.zbj v0) fun v75=>
  B.pv (V.bin .lss v9 v75) fun v76=>
  B.cond v76
  (zg (z6.l49 E C Q Y5 v0 v5 v9) [(.int .i64 0)] h)
  (zg (z6.l40 E C Q v0 v5) [(.int .i64 0)] h)
@[simp] def z6.l59 (C:CSem) (Q:zQ) (v0 v5:AVal):zG
 | [v9],h,Y5=>z6.k56 E C Q Y5 v0 v5 v9 h
 | _,_,_=>False
@[simp] def z6.k67 (C:CSem) (Q:zQ) (Y7 Y8:zL) (v0 v5 v6 v7 v8:AVal) (h:za):Prop:=
 B.pv (V.bin .lss v8 (.int .i64 64)) fun v54=>
  B.cond v54
  (B.pv (V.idxS 1 v0 v6) fun v61=>
  B.ld h v61 fun v62=>
  B.pv (V.zbj v62) fun v63=>
  B.pv (V.bin .add v63 v8) fun v65=>
  B.call C E.f [v6,v65] h fun v66 h=>
  B.newO h (ze2 [(0,E.kp,v66)] (repL 1 E.z)) fun i67 h=>
  B.appW h E.es E.bytes v7 (.sl i67 0 0 1 E.es 1) fun v68 h=>
  B.pv (V.bin .add v8 (.int .i64 1)) fun v56=>
  Y8 [v68,v56] h)
  (B.pv (V.idxS 1 v5 v6) fun v72=>
  B.st h v72 v7 fun h=>
  B.pv (V.bin .add v6 (.int .i64 1)) fun v48=>
  Y7 [v48] h)
@[simp] def z6.l69 (C:CSem) (Q:zQ) (Y7:zL) (v0 v5 v6:AVal):zG
 | [v7,v8],h,Y8=>z6.k67 E C Q Y7 Y8 v0 v5 v6 v7 v8 h
 | _,_,_=>False
@[simp] def z6.k79 (C:CSem) (Q:zQ) (Y7:zL) (v0 v5 v6:AVal) (h:za):Prop:=
 B.pv (V.zbj v0) fun v45=>
  B.pv (V.bin .lss v6 v45) fun v46=>
  B.cond v46
  (B.pv (V.idxS 1 v0 v6) fun v51=>
  B.ld h v51 fun v52=>
  zg (z6.l69 E C Q Y7 v0 v5 v6) [v52,(.int .i64 0)] h)
  (zg (z6.l59 E C Q v0 v5) [(.int .i64 0)] h)
@[simp] def z6.l82 (C:CSem) (Q:zQ) (v0 v5:AVal):zG
 | [v6],h,Y7=>z6.k79 E C Q Y7 v0 v5 v6 h
 | _,_,_=>False
@[simp] def z6.k91 (C:CSem) (Q:zQ) (Y9 Y10:zL) (v0 v3 v4:AVal) (h:za):Prop:=
 B.pv (V.idxS 1 v0 v3) fun v25=>
  B.ld h v25 fun v26=>
  B.pv (V.zbj v26) fun v27=>
  B.pv (V.bin .lss v4 v27) fun v28=>
  B.cond v28
  (B.pv (V.idxS 1 v0 v3) fun v33=>
  B.ld h v33 fun v34=>
  B.call C E.f [v3,v4] h (B.zm2 h [(v33,none)] (fun v38 h=>B.pv (V.idxS E.es v34 v4) fun v39=>
  E.st h v39 v38 fun h=>
  B.pv (V.bin .add v4 (.int .i64 1)) fun v30=>
  Y10 [v30] h)))
  (B.pv (V.bin .add v3 (.int .i64 1)) fun v21=>
  Y9 [v21] h)
@[simp] def z6.l93 (C:CSem) (Q:zQ) (Y9:zL) (v0 v3:AVal):zG
 | [v4],h,Y10=>z6.k91 E C Q Y9 Y10 v0 v3 v4 h
 | _,_,_=>False
@[simp] def z6.k100 (C:CSem) (Q:zQ) (Y9:zL) (v0 v3:AVal) (h:za):Prop:=
 B.pv (V.zbj v0) fun v18=>
  B.pv (V.bin .lss v3 v18) fun v19=>
  B.cond v19
  (zg (z6.l93 E C Q Y9 v0 v3) [(.int .i64 0)] h)
  (B.pv (V.zbj v0) fun v41=>
  0<1 /\ B.mks h 24 (some [.nils]) v41 v41 fun v42 h=>
  zg (z6.l82 E C Q v0 v42) [(.int .i64 0)] h)
@[simp] def z6.l103 (C:CSem) (Q:zQ) (v0:AVal):zG
 | [v3],h,Y9=>z6.k100 E C Q Y9 v0 v3 h
 | _,_,_=>False
def z6 (C:CSem) (v0:AVal) (h:za) (Q:zQ):Prop:=
 zg (z6.l103 E C Q v0) [(.int .i64 0)] h
def opsF (es bytes:Nat) (z:List AVal) (f:Nat) (sh:List Ck):zx where
 es:=es;bytes:=bytes;z:=z;f:=f;kp:=some es
 ld:=fun h p K=>B.ldn h p es K
 st:=fun h p v K=>B.stn h p es v K
 eq:=fun h a b K=>B.pv (V.zmx .eql sh a b) fun v=>K v h
def opsS (bytes:Nat) (z:AVal) (f:Nat):zx where
 es:=1;bytes:=bytes;z:=[z];f:=f;kp:=none
 ld:=fun h p K=>B.ld h p K
 st:=fun h p v K=>B.st h p v K
 eq:=fun h a b K=>B.pv (V.bin .eql a b) fun v=>K v h
end
end Go.Ab
namespace Go.Ab
variable {C:CSem} {N:zN}
def aoff:AVal->Nat
 | .sl _ _ off _ _ _=>off
 | _=>0
theorem zt8 (g hi e:Nat): ∀ (gens:List (Nat×Nat)),gens.lookup g=some hi->(zq0 gens e).lookup g=some (min hi e)
 | [],h=>by cases h
 | (g',k)::r,h=>by
  unfold zq0
  rw [List.map_cons]
  by_cases e1:(g==g')=true
  ·simp only [List.lookup,e1] at h ⊢
   rw [Option.some.inj h]
  ·simp only [Bool.not_eq_true] at e1
   simp only [List.lookup,e1] at h ⊢
   exact zt8 g hi e r h
theorem SlX.oldApp {h:za} {es:Nat} {x:AVal} {L R:List (List AVal)} (hs:SlX h es x L R) {id:Nat} {b:Blk} (hf:foot x=some id) (hb:h id=some b) {e:Nat} (he:aoff x+L.length*es <= e) (hb2:e <= b.cells.length) (news:List AVal):
  SlX (Ab.upd h id (zg9 b e news)) es x L []:=by
 have h0:=hs.cut
 refine ⟨h0.len,?_⟩
 rcases h0.at_ with e1|⟨id',g,off,cp,b',hi,h1,h1',h2,h3,h4,hh,h5⟩
 ·exact .inl e1
 ·subst h1
  cases hf
  rw [hb] at h2
  cases h2
  simp only [aoff] at he
  simp only [List.length_nil,Nat.add_zero] at h4 h5 h1'
  have hcells:((b.cells.take e++news).drop off).take (L.length*es)=(L++[]).flatten:=by
   rw [<- h5]
   apply List.ext_getElem?
   intro k
   by_cases hk:k<L.length*es
   ·rw [List.getElem?_take_of_lt hk,List.getElem?_take_of_lt hk,List.getElem?_drop,List.getElem?_drop,List.getElem?_append_left (by simp;omega),List.getElem?_take_of_lt (by omega)]
   ·rw [List.getElem?_take_eq_none (by omega),List.getElem?_take_eq_none (by omega)]
  by_cases hg:g=b.next
  ·refine .inr ⟨_,g,off,cp,_,e+news.length,rfl,by simpa using h1',zb7 ..,by simp [zg9,hg,List.lookup],by simp;omega,by simp [zg9];omega,?_⟩
   simpa [zg9] using hcells
  ·refine .inr ⟨_,g,off,cp,_,min hi e,rfl,by simpa using h1',zb7 ..,?_,by simp;omega,by simp [zg9];omega,?_⟩
   ·simp only [zg9,List.lookup]
    rw [show (g==b.next)=false by simpa using hg]
    exact zt8 g hi e b.gens h3
   ·simpa [zg9] using hcells
structure Old (h:za) (es:Nat) (x:AVal) (L:List (List AVal)) (y:AVal) (M:List (List AVal)):Prop where
 at_:SlX h es x L []
 ft:foot x=none \/ (foot x=foot y /\ aoff x=aoff y)
 len:L.length <= M.length
theorem Old.refl {h:za} {es:Nat} {x:AVal} {L R:List (List AVal)} (hs:SlX h es x L R):Old h es x L x L:=⟨hs.cut,.inr ⟨rfl,rfl⟩,Nat.le_refl _⟩
theorem Old.other {h h':za} {es:Nat} {x y z:AVal} {L M:List (List AVal)} (ho:Old h es x L y M) (hb:But z h h') (hne: ∀ id,foot y=some id->foot z≠some id):Old h' es x L y M:=
 ⟨hb.sl ho.at_ fun id hf=>hne id (by rcases ho.ft with e|⟨e,_⟩<;>rw [e] at hf;cases hf;exact hf),ho.ft,ho.len⟩
theorem Old.mono {h h':za} {es:Nat} {x y:AVal} {L M:List (List AVal)} (ho:Old h es x L y M) (hle:h.le h'):Old h' es x L y M:=⟨ho.at_.mono hle,ho.ft,ho.len⟩
section
variable {h H h0:za} {es:Nat} {x:AVal} {L R:List (List AVal)}
theorem SlX.app2 {bytes:Nat} {M:List (List AVal)} {K:zQ} (ho:SlX h es x L R) (hown: ∀ id b,foot x=some id->h id=some b->b.own=true) (hes:0<es) (hM: ∀ p∈M,p.length=es) (hb:(L.length+M.length)*bytes <= 140737488355328) (hm:L.length+M.length <= maxLen)
  (hk: ∀ x' h',SlIs h' es x' (L++M)->(∀ id b,foot x'=some id->h' id=some b->b.own=true)->But x h h'->(foot x'=foot x \/ ∀ id,foot x'=some id->h id=none)->(∀ u U,Old h es u U x L->Old h' es u U x' (L++M))->K x' h'):A.app h es bytes x (some M.flatten) K:=by
 have hl:=zlo hM
 have hd:M.flatten.length / es=M.length:=by rw [hl,Nat.mul_div_cancel _ hes]
 have hall: ∀ p∈(L++M)++[],p.length=es:=fun p hp=>by
  rw [List.append_nil] at hp
  rcases List.mem_append.1 hp with hp|hp
  ·exact ho.len p (List.mem_append_left _ hp)
  ·exact hM p hp
 have fresh:L=[]->foot x=none->(M≠[]->(M.flatten.length / es)*bytes <= 140737488355328 /\ M.flatten.length / es <= maxLen /\ A.new h M.flatten fun id h=>K (.sl id 0 0 (M.flatten.length / es) es (M.flatten.length / es)) h):=fun e hfx hne=>by
  subst e
  rw [hd]
  simp only [List.length_nil,Nat.zero_add] at hb hm
  refine ⟨hb,hm,fun id hid=> ?_⟩
  refine hk _ _ ⟨hall,.inr ⟨id,0,0,_,zfm M.flatten,M.flatten.length,by simp only [List.nil_append];exact rfl,by simp,zb7 ..,zh3 ..,by simp [hl],Nat.le_refl _,?_⟩⟩ (fun j b hj hb'=> ?_) (But.of_le _ (zjh _ hid)) (.inr fun j hj=> ?_) (fun u U hu=>⟨hu.at_.mono (zjh _ hid),.inl ?_,?_⟩)
  ·simp only [List.nil_append,List.append_nil,List.length_nil,Nat.add_zero, <- hl,zfm,List.drop_zero,List.take_length]
  ·cases hj
   rw [zb7] at hb';cases hb';rfl
  ·cases hj;exact hid
  ·rcases hu.ft with e|⟨e,_⟩
   ·exact e
   ·rw [e,hfx]
  ·have:=hu.len;simp at this;simp [this]
 have hnil:M=[] \/ M.flatten.length≠0:=by
  cases M with
  | nil=>exact .inl rfl
  | cons a r=>
   refine .inr ?_
   rw [hl,List.length_cons,Nat.add_mul]
   omega
 have h0:=ho.cut
 rcases h0.at_ with ⟨e,_,e'|e'⟩|⟨id,g,off,cp,b,hi,h1,h1',h2,h3,h4,hh,h5⟩
 ·subst e'
  simp only [A.app]
  split
  ·rename_i hz
   rcases hnil with hn|hn
   ·subst hn;exact hk _ _ (by simpa using h0) (fun _ _ hj=>by cases hj) (But.of_le _ (za.le_refl h)) (.inl rfl) (fun u U hu=>by simpa using hu)
   ·exact absurd hz hn
  ·rename_i hz
   exact fresh e rfl fun hn=>hz (by rw [hn];rfl)
 ·subst e'
  simp only [A.app]
  split
  ·rename_i hz
   rcases hnil with hn|hn
   ·subst hn;exact hk _ _ (by simpa using h0) (fun _ _ hj=>by cases hj) (But.of_le _ (za.le_refl h)) (.inl rfl) (fun u U hu=>by simpa using hu)
   ·exact absurd hz hn
  ·rename_i hz
   exact fresh e rfl fun hn=>hz (by rw [hn];rfl)
 ·have hown':=hown id b (by rw [h1];rfl) h2
  subst h1
  simp only [List.length_nil,Nat.add_zero,List.append_nil] at h4 h5
  simp only [A.app,h2,h3,hd,hown',cond_true]
  have hcl:off+L.length*es <= b.cells.length:=by omega
  have htl:(b.cells.take (off+L.length*es)).length=off+L.length*es:=by simp;omega
  refine ⟨trivial,trivial,h4,hb,hm,hk _ _ ⟨hall,.inr ⟨id,b.next,off,_,_,off+L.length*es+M.flatten.length,by rw [List.length_append],by simp,zb7 ..,zh3 ..,?_,?_,?_⟩⟩ (fun j b1 hj hb1=> ?_) (fun j b1 e1 e2=> ?_) (.inl rfl) (fun u U hu=>⟨?_,?_,?_⟩)⟩
  ·rw [List.length_append,List.length_nil,Nat.add_zero,Nat.add_mul,hl];omega
  ·simp only [zg9,List.length_append,htl];omega
  ·simp only [zg9,List.append_nil,List.length_nil,Nat.add_zero]
   rw [List.drop_append_of_le_length (by omega),List.length_append,Nat.add_mul, <- hl,List.flatten_append, <- h5]
   have e1:(b.cells.take (off+L.length*es)).drop off=(b.cells.drop off).take (L.length*es):=by
    rw [List.drop_take];congr 1;omega
   have e2:((b.cells.drop off).take (L.length*es)).length=L.length*es:=by simp;omega
   rw [e1,List.take_of_length_le]
   rw [List.length_append,e2];omega
  ·cases hj
   rw [zb7] at hb1;cases hb1;exact hown'
  ·rw [zz]
   ·exact e1
   ·intro e;subst e;exact e2 rfl
  ·by_cases hf:foot u=some id
   ·refine hu.at_.oldApp hf h2 ?_ hcl _
    have e1:=hu.len
    have e2:aoff u=off:=by
     rcases hu.ft with e|⟨_,e⟩
     ·rw [e] at hf;cases hf
     ·exact e
    rw [e2]
    have:=Nat.mul_le_mul_right es e1
    omega
   ·exact hu.at_.upd hf
  ·rcases hu.ft with e|⟨e,e'⟩
   ·exact .inl e
   ·exact .inr ⟨e,e'⟩
  ·have:=hu.len;rw [List.length_append];omega
theorem SlX.appW2 {bytes:Nat} {y:AVal} {M R':List (List AVal)} {K:zQ} (ho:SlX h es x L R) (hown: ∀ id b,foot x=some id->h id=some b->b.own=true) (hs:SlX h es y M R') (hes:0<es) (hb:(L.length+M.length)*bytes <= 140737488355328) (hm:L.length+M.length <= maxLen)
  (hk: ∀ x' h',SlIs h' es x' (L++M)->(∀ id b,foot x'=some id->h' id=some b->b.own=true)->But x h h'->(foot x'=foot x \/ ∀ id,foot x'=some id->h id=none)->(∀ u U,Old h es u U x L->Old h' es u U x' (L++M))->K x' h'):A.appW h es bytes x y K:=by
 unfold A.appW
 rw [hs.zhy]
 simp only
 rw [hs.rdv]
 exact ho.app2 hown hes (fun p hp=>hs.len p (List.mem_append_left _ hp)) hb hm hk
end
section
variable {h0 h h':za} {l:List Ob}
theorem Owns.ne (ho:Owns h0 h l) {i j:Nat} {a b:Ob} (hi:l[i]? =some a) (hj:l[j]? =some b) (hij:i≠j): ∀ id,a.foot=some id->b.foot≠some id:=fun id ha hb=>by
 rcases Nat.lt_or_gt_of_ne hij with hlt|hgt
 ·have:=List.pairwise_iff_getElem.1 ho.apart i j (List.getElem?_eq_some_iff.1 hi).1 (List.getElem?_eq_some_iff.1 hj).1 hlt
  rw [(List.getElem?_eq_some_iff.1 hi).2,(List.getElem?_eq_some_iff.1 hj).2] at this
  exact this id ha hb
 ·have:=List.pairwise_iff_getElem.1 ho.apart j i (List.getElem?_eq_some_iff.1 hj).1 (List.getElem?_eq_some_iff.1 hi).1 hgt
  rw [(List.getElem?_eq_some_iff.1 hj).2,(List.getElem?_eq_some_iff.1 hi).2] at this
  exact this id hb ha
end
def Kp (h:za) (p:AVal) (o:Option Nat):Prop:=match o with|none=> ∃ x,A.ldv h p=some x|some n=> ∃ x,A.ldnv h p n=some x
theorem zuc {h:za} {ls:List (AVal×Option Nat)} {K:zQ} {v:AVal} (hl: ∀ p∈ls,Kp h p.1 p.2) (hk:K v h):B.zm2 h ls K v h:=by
 refine ⟨fun p hp=> ?_,hk⟩
 have:=hl p hp
 obtain ⟨p,o⟩:=p
 cases o with
 | none=>obtain ⟨x,e⟩:=this;exact ⟨x,e,e⟩
 | some n=>obtain ⟨x,e⟩:=this;exact ⟨x,e,e⟩
theorem keepS1 {h:za} {p:AVal} {o:Option Nat} {K:zQ} {v:AVal} (h1:Kp h p o) (hk:K v h):B.zm2 h [(p,o)] K v h:=
 zuc (fun q hq=>by rw [List.mem_singleton.1 hq];exact h1) hk
theorem keepS2 {h:za} {p q:AVal} {o u:Option Nat} {K:zQ} {v:AVal} (h1:Kp h p o) (h2:Kp h q u) (hk:K v h):B.zm2 h [(p,o),(q,u)] K v h:=
 zuc (fun r hr=>by rcases List.mem_cons.1 hr with e|hr;rw [e];exact h1;rw [List.mem_singleton.1 hr];exact h2) hk
def upf {α:Type} (f:Nat->α) (k:Nat) (v:α):Nat->α:=fun j=>if j=k then v else f j
def Objs (es n:Nat) (xs:Nat->AVal) (D R:Nat->List (List AVal)):List Ob:=(List.range n).map fun j=>Ob.sl es (xs j) (D j) (R j)
section
variable {es n k:Nat} {xs:Nat->AVal} {D R:Nat->List (List AVal)}
@[simp] theorem Objs.length:(Objs es n xs D R).length=n:=by simp [Objs]
theorem Objs.get (hk:k<n):(Objs es n xs D R)[k]? =some (.sl es (xs k) (D k) (R k)):=by simp [Objs,hk]
theorem Objs.set {x:AVal} {L M:List (List AVal)}:(Objs es n xs D R).set k (.sl es x L M)=Objs es n (upf xs k x) (upf D k L) (upf R k M):=by
 apply List.ext_getElem?
 intro j
 by_cases hj:j<n
 ·rw [Objs.get hj]
  by_cases e:k=j
  ·subst e;rw [List.getElem?_set_self (by simpa using hj)];simp [upf]
  ·rw [List.getElem?_set_ne e,Objs.get hj];simp [upf,Ne.symm e]
 ·rw [List.getElem?_eq_none (by simp;omega),List.getElem?_eq_none (by simp;omega)]
theorem Objs.congr {ys:Nat->AVal} {E S:Nat->List (List AVal)} (h: ∀ j,j<n->xs j=ys j /\ D j=E j /\ R j=S j):Objs es n xs D R=Objs es n ys E S:=
 List.map_congr_left fun j hj=>by obtain ⟨a,b,c⟩:=h j (by simpa using hj);rw [a,b,c]
theorem Objs.getA {l:List Ob} (hk:k<n):(Objs es n xs D R++l)[k]? =some (.sl es (xs k) (D k) (R k)):=by
 rw [List.getElem?_append_left (by simpa using hk)];exact Objs.get hk
theorem Objs.setA {l:List Ob} (hk:k<n) {x:AVal} {L M:List (List AVal)}:(Objs es n xs D R++l).set k (.sl es x L M)=Objs es n (upf xs k x) (upf D k L) (upf R k M)++l:=by
 rw [List.set_append_left _ _ (by simpa using hk),Objs.set]
theorem Objs.getL {o:Ob}:(Objs es n xs D R++[o])[n]? =some o:=by
 rw [List.getElem?_append_right (by simp)];simp
theorem Objs.setL {o o':Ob}:(Objs es n xs D R++[o]).set n o'=Objs es n xs D R++[o']:=by
 rw [List.set_append_right _ _ (by simp)];simp
end
theorem Owns.cutR {h0 h:za} {es n:Nat} {xs:Nat->AVal} {D R:Nat->List (List AVal)} {l:List Ob} (ho:Owns h0 h (Objs es n xs D R++l)):Owns h0 h (Objs es n xs D (fun _=>[])++l):=by
 have mem: ∀ o∈Objs es n xs D (fun _=>[]),∃ o'∈Objs es n xs D R,o'.foot=o.foot /\ (o'.at h->o.at h):=fun o hm=>by
  obtain ⟨j,hj,rfl⟩:=List.mem_map.1 hm
  exact ⟨_,List.mem_map.2 ⟨j,hj,rfl⟩,rfl,fun h=>SlX.cut h⟩
 refine ⟨ho.le,fun o hm=> ?_,fun o hm=> ?_,?_⟩
 ·rcases List.mem_append.1 hm with hm|hm
  ·obtain ⟨o',h1,_,h3⟩:=mem o hm
   exact h3 (ho.is _ (List.mem_append_left _ h1))
  ·exact ho.is _ (List.mem_append_right _ hm)
 ·rcases List.mem_append.1 hm with hm|hm
  ·obtain ⟨o',h1,h2,_⟩:=mem o hm
   rw [<- h2]
   exact ho.own _ (List.mem_append_left _ h1)
  ·exact ho.own _ (List.mem_append_right _ hm)
 ·obtain ⟨a,b,c⟩:=List.pairwise_append.1 ho.apart
  refine List.pairwise_append.2 ⟨?_,b,fun x hx y hy=> ?_⟩
  ·unfold Objs at a ⊢
   rw [List.pairwise_map] at a ⊢
   exact a.imp fun h=>h
  ·obtain ⟨o',h1,h2,_⟩:=mem x hx
   rw [<- h2]
   exact c o' h1 y hy
end Go.Ab
namespace Go.Ab
variable {C:CSem} {N:zN}
structure ztg (C:CSem) (E:zx) (m:Int->Int->List AVal) (v:Int->Int->AVal):Prop where
 pos:0<E.es
 small:E.bytes <= 1000
 len: ∀ k i,(m k i).length=E.es
 zlen:E.z.length=E.es
 new: ∀ k i,ze2 [(0,E.kp,v k i)] (repL 1 E.z)=some (m k i)
 call: ∀ (k i:Int) (h:za) (Q:zQ),Q (v k i) h->C E.f [.int .i64 k,.int .i64 i] h Q
 ld: ∀ {h:za} {x:AVal} {L R:List (List AVal)} {i:Nat} {k j:Int} {K:AVal->Prop},SlX h E.es x L R->L[i]? =some (m k j)->K (v k j)->E.ld h (elp E.es x i 0) K
 kpt: ∀ {h:za} {x:AVal} {L R:List (List AVal)} {i:Nat} {k j:Int},SlX h E.es x L R->L[i]? =some (m k j)->Kp h (elp E.es x i 0) E.kp
 st: ∀ {h:za} {x:AVal} {L R:List (List AVal)} {i:Nat} {c:List AVal} {k j:Int} {K:za->Prop},SlX h E.es x L R->(∀ id b,foot x=some id->h id=some b->b.own=true)->L[i]? =some c ->
  (∀ h',SlX h' E.es x (L.set i (m k j)) R->(∀ id b,foot x=some id->h' id=some b->b.own=true)->But x h h'->K h')->E.st h (elp E.es x i 0) (v k j) K
 eq: ∀ {h:za} {k i:Int} {K:zQ},K (.bool true) h->E.eq h (v k i) (v k i) K
def mkTo (m:Int->Int->List AVal) (k n:Nat):List (List AVal):=(List.range n).map fun (i:Nat)=>m (k:Int) (i:Int)
section
variable {m:Int->Int->List AVal} {k n i:Nat}
@[simp] theorem zlh:(mkTo m k n).length=n:=by simp [mkTo]
theorem zli (hi:i<n):(mkTo m k n)[i]? =some (m (k:Int) (i:Int)):=by simp [mkTo,hi]
theorem mkTo_succ:mkTo m k (n+1)=mkTo m k n++[m (k:Int) (n:Int)]:=by simp [mkTo,List.range_succ]
@[simp] theorem mkTo_zero:mkTo m k 0=[]:=rfl
theorem mkTo_over {D:List (List AVal)} (hi:i<D.length):(mkTo m k i++D.drop i).set i (m (k:Int) (i:Int))=mkTo m k (i+1)++D.drop (i+1):=by
 rw [List.set_append_right _ _ (by simp),zlh,Nat.sub_self,mkTo_succ,List.drop_eq_getElem_cons hi,List.set_cons_zero,List.append_assoc]
 rfl
theorem mkTo_at {D:List (List AVal)} (hi:i<D.length):(mkTo m k i++D.drop i)[i]? =some D[i]:=by
 rw [List.getElem?_append_right (by simp),zlh,Nat.sub_self,List.getElem?_drop];simp [hi]
end
theorem zha {α:Type} (f:Nat->α) (k:Nat) (v:α):upf f k v k=v:=by simp [upf]
theorem zmt {α:Type} (f:Nat->α) {k j:Nat} (v:α) (h:j≠k):upf f k v j=f j:=by simp [upf,h]
theorem zpn {α:Type} (f:Nat->α) (k:Nat):upf f k (f k)=f:=by funext j;unfold upf;split<;>simp_all
theorem zr7 {α:Type} (k:Nat) (v:α):upf (fun _=>v) k v=fun _=>v:=by funext j;unfold upf;split<;>rfl
theorem upf_upf {α:Type} (f:Nat->α) (k:Nat) (v w:α):upf (upf f k v) k w=upf f k w:=by funext j;unfold upf;split<;>rfl
section
variable {h:za} {x:AVal} {n k:Nat} {xs:Nat->AVal} {W:List (List AVal)} (hx:SlX h 1 x (zh5 n fun j=>[xs j]) W)
include hx
theorem zrc:V.zbj x=some (.int .i64 n):=by rw [hx.zbj,fills_len]
theorem zk2 (hk:k<n):V.idxS 1 x (.int .i64 (k:Int))=some (elp 1 x k 0):=hx.idxN (by simpa using hk)
theorem zqu (hk:k<n):A.ldv h (elp 1 x k 0)=some (xs k):=by rw [hx.ldv (zne _ hk) (by omega)];rfl
theorem ls_kp (hk:k<n):Kp h (elp 1 x k 0) none:=⟨_,zqu hx hk⟩
end
structure FS (E:zx) (m:Int->Int->List AVal) (h0 h:za) (v5:AVal) (n:Nat) (xs:Nat->AVal) (len:Nat->Nat) (ys:Nat->AVal) (F:Nat->List (List AVal)) (gs:Nat->AVal):Prop where
 own:Owns h0 h (Objs E.es n ys F (fun _=>[])++[.sl 1 v5 (zh5 n fun j=>[gs j]) []])
 old: ∀ j,j<n->Old h E.es (xs j) (mkTo m j (len j)) (ys j) (F j)
section
variable {E:zx} {m:Int->Int->List AVal} {v:Int->Int->AVal} {h0 h h':za} {x v5:AVal} {n k:Nat} {xs ys gs:Nat->AVal} {len:Nat->Nat} {F:Nat->List (List AVal)} {W:List (List AVal)} {Q:zQ}
theorem FS.grow (fs:FS E m h0 h v5 n xs len ys F gs) (hle:h.le h'):FS E m h0 h' v5 n xs len ys F gs:=⟨fs.own.grow hle,fun j hj=>(fs.old j hj).mono hle⟩
theorem FS.gAt (fs:FS E m h0 h v5 n xs len ys F gs):SlX h 1 v5 (zh5 n fun j=>[gs j]) []:=fs.own.slAt n Objs.getL
theorem FS.yAt (fs:FS E m h0 h v5 n xs len ys F gs) (hk:k<n):SlX h E.es (ys k) (F k) []:=fs.own.slAt k (Objs.getA hk)
theorem FS.turn (fs:FS E m h0 h v5 n xs len ys F gs) (hk:k<n) {y:AVal} {L:List (List AVal)} (h1:SlX h' E.es y L []) (h2: ∀ id b,foot y=some id->h' id=some b->b.own=true)
  (h3: ∀ j b,h j=some b->foot (ys k)≠some j->h' j=some b) (h4:foot y=foot (ys k) \/ ∀ id,foot y=some id->h id=none) (h5:Old h' E.es (xs k) (mkTo m k (len k)) y L):FS E m h0 h' v5 n xs len (upf ys k y) (upf F k L) gs:=by
 refine ⟨?_,fun j hj=> ?_⟩
 ·have:=fs.own.turn k (Objs.getA hk) (o':= .sl E.es y L []) h1 h2 h3 h4
  rwa [Objs.setA hk,zr7] at this
 ·by_cases e:j=k
  ·subst e;rw [zha,zha];exact h5
  ·rw [zmt _ _ e,zmt _ _ e]
   exact (fs.old j hj).other (z:=ys k) h3 (fs.own.ne (Objs.getA hj) (Objs.getA hk) e)
theorem FS.store (fs:FS E m h0 h v5 n xs len ys F gs) (hk:k<n) {y:AVal} (hy:y.zc8=true) {K:za->Prop} (hK: ∀ h',FS E m h0 h' v5 n xs len ys F (upf gs k y)->K h'):A.st h (elp 1 v5 k 0) y K:=by
 refine fs.own.st n Objs.getL (zne _ hk) (by omega) hy fun h' ho hb=>hK h' ⟨?_,fun j hj=> ?_⟩
 ·rw [Objs.setL] at ho
  have e:(zh5 n fun j=>[gs j]).set k ([gs k].set 0 y)=zh5 n fun j=>[upf gs k y j]:=by
   rw [fills_set]
   refine fills_congr fun j hj=> ?_
   unfold upf
   split<;>rfl
  rwa [e] at ho
 ·exact (fs.old j hj).other hb (fs.own.ne (Objs.getA hj) Objs.getL (by omega))
theorem FS.push (S:ztg C E m v) (fs:FS E m h0 h v5 n xs len ys F gs) (hk:k<n) {cs:List AVal} (hcs:cs.length=E.es) (hl:(F k).length <= 100000100) {K:zQ}
  (hK: ∀ y h',FS E m h0 h' v5 n xs len (upf ys k y) (upf F k (F k++[cs])) gs->K y h'):A.newO h (some cs) fun i h=>A.appW h E.es E.bytes (ys k) (.sl i 0 0 1 E.es 1) K:=fun i hi=>by
 have fg:=fs.grow (zjh (zfm cs) hi)
 have hmul:=Nat.mul_le_mul (show (F k).length+1 <= 100000101 by omega) S.small
 refine (fg.yAt hk).appW2 (fg.own.zpw k (Objs.getA hk)) (M:=[cs]) (R':=[]) (SlX.lit (zb7 ..) (by simpa using hcs) rfl (by simp) (by simp)) S.pos (by simp only [List.length_singleton];omega) (by simp [maxLen];omega) fun y h' h1 h2 h3 h4 h5=> ?_
 exact hK y h' (fg.turn hk h1 h2 h3 h4 (h5 _ _ (fg.old k hk)))
theorem flat5 (S:ztg C E m v) (hx:SlX h0 1 x (zh5 n fun j=>[xs j]) W) (fs:FS E m h0 h v5 n xs len ys F gs) (hn:n <= 100000000) (hl: ∀ j,j<n->len j <= 100000000)
  (hgs: ∀ j,j<n->gs j=ys j) (hF: ∀ j i,j<n->i<len j->(F j)[i]? =some (m j i)) (hq: ∀ h',h0.le h'->Q (.bool true) h'):zg (z6.l15 E C Q x v5) [.int .i64 0] h:=by
 have hx':=hx.mono fs.own.le
 refine zg.intro (fun t vs hh=> ∃ k:Nat,k+t=n /\ vs=[.int .i64 k] /\ hh=h) n ?_ ⟨0,by simp,by simp,rfl⟩
 rintro Y t vs hh ⟨k,ht,rfl,rfl⟩ hY
 simp -dsimp [zrc hx']
 refine B.zn (fun hb=> ?_) (fun hb=> ?_)<;>simp -dsimp at hb ⊢
 ·refine zg.intro (fun t vs h2=> ∃ i:Nat,i+t=len k /\ vs=[.int .i64 i] /\ h2=hh) (len k) ?_ ⟨0,by simp,by simp,rfl⟩
  rintro Z t' vs h3 ⟨i,hi,rfl,rfl⟩ hZ
  have hold:=(fs.old k hb).at_
  have hlk:=hl k hb
  have hlx:=hold.zbj
  rw [zlh] at hlx
  simp -dsimp [zk2 hx' hb,zqu hx' hb,hlx]
  refine B.zn (fun hc=> ?_) (fun hc=> ?_)<;>simp -dsimp at hc ⊢
  ·have hyk:=fs.yAt hb
   have hFi:=hF k i hb hc
   have e1:V.idxS E.es (xs k) (.int .i64 (i:Int))=some (elp E.es (xs k) i 0):=hold.idxN (by simpa using hc)
   have e2:V.idxS E.es (ys k) (.int .i64 (i:Int))=some (elp E.es (ys k) i 0):=hyk.idxN (List.getElem?_eq_some_iff.1 hFi).1
   have e3:=zqu fs.gAt hb
   rw [hgs k hb] at e3
   simp -dsimp only [zk2 hx' hb,zqu hx' hb,e1,B.zd,B.zg0]
   refine S.ld hold (zli hc) ?_
   refine S.call _ _ _ _ (keepS2 (ls_kp hx' hb) (S.kpt hold (zli hc)) ?_)
   refine S.eq ?_
   simp -dsimp [zk2 fs.gAt hb,e3,e2]
   refine S.ld hyk hFi ?_
   refine S.call _ _ _ _ (keepS2 (ls_kp fs.gAt hb) (S.kpt hyk hFi) ?_)
   simp -dsimp
   refine S.eq ?_
   simp -dsimp [zkc (n:=i) (by omega)]
   exact hZ (len k-(i+1)) _ _ (by omega) ⟨i+1,by omega,by simp,rfl⟩
  ·simp -dsimp [zkc (n:=k) (by omega)]
   exact hY (n-(k+1)) _ _ (by omega) ⟨k+1,by omega,by simp,rfl⟩
 ·exact hq _ fs.own.le
theorem flat4 (S:ztg C E m v) (hx:SlX h0 1 x (zh5 n fun j=>[xs j]) W) (fs:FS E m h0 h v5 n xs len ys F gs) (hn:n <= 100000000) (hl: ∀ j,j<n->len j <= 100000000)
  (hgs: ∀ j,j<n->gs j=ys j) (hF: ∀ j i,j<n->i<len j->(F j)[i]? =some (m j i)) (hq: ∀ h',h0.le h'->Q (.bool true) h'):zg (z6.l40 E C Q x v5) [.int .i64 0] h:=by
 refine zg.intro (fun t vs hh=> ∃ (k:Nat) (ys gs:Nat->AVal) (F:Nat->List (List AVal)),k+t=n /\ vs=[.int .i64 k] /\ FS E m h0 hh v5 n xs len ys F gs /\ (∀ j,j<n->gs j=ys j) /\ ∀ j i,j<n->i<len j->(F j)[i]? =some (m j i)) n ?_
  ⟨0,ys,gs,F,by simp,by simp,fs,hgs,hF⟩
 rintro Y t vs h ⟨k,ys,gs,F,ht,rfl,fs,hgs,hF⟩ hY
 have hx':=hx.mono fs.own.le
 simp -dsimp [zrc hx']
 refine B.zn (fun hb=> ?_) (fun hb=> ?_)<;>simp -dsimp at hb ⊢
 ·refine ⟨S.pos,(Owns.start h).mks (es:=E.es) S.zlen (by omega) (by omega) (by have:=S.small;omega) (by omega) fun y h1 ho1=> ?_⟩
  simp only [List.nil_append] at ho1
  refine zg.intro (fun t vs hh=> ∃ i:Nat,i+t=64 /\ vs=[.int .i64 i] /\ ∃ R,Owns h hh [.sl E.es y (mkTo m (k+n:Nat) i++(zh5 64 fun _=>E.z).drop i) R]) 64 ?_ ⟨0,by simp,by simp,_,by simpa using ho1⟩
  rintro Z t' vs hh ⟨i,hi,rfl,R,ho⟩ hZ
  simp -dsimp
  refine B.zn (fun hc=> ?_) (fun hc=> ?_)<;>simp -dsimp at hc ⊢
  ·have e1:IntKind.i64.wrap ((k:Int)+n)=((k+n:Nat):Int):=by rw [wrap_i64 (by omega) (by omega)];omega
   have hxx:=hx'.mono ho.le
   have hi64:i<(zh5 64 fun _=>E.z).length:=by simp;omega
   have hlt:i<(mkTo m (k+n:Nat) i++(zh5 64 fun _=>E.z).drop i).length:=by simp;omega
   simp -dsimp only [zrc hxx,B.zd,V.zfa,e1]
   refine S.call _ _ _ _ ?_
   simp -dsimp only [(ho.slAt 0 rfl).idxN hlt,B.zd]
   refine S.st (ho.slAt 0 rfl) (ho.zpw 0 rfl) (mkTo_at hi64) fun h2 h3 h4 h5=> ?_
   rw [mkTo_over hi64] at h3
   simp -dsimp [zkc (n:=i) (by omega)]
   exact hZ (64-(i+1)) _ _ (by omega) ⟨i+1,by omega,by simp,R,ho.turn 0 rfl (o':= .sl E.es y _ R) h3 h4 h5 (.inl rfl)⟩
  ·have hi64:i=64:=by omega
   subst hi64
   have hd:(zh5 64 fun _=>E.z).drop 64=[]:=List.drop_of_length_le (by simp)
   rw [hd,List.append_nil] at ho
   have fh:=fs.grow ho.le
   have hold:=fh.old k hb
   have hxx:=hx'.mono ho.le
   have hlk:=hl k hb
   have hmul:=Nat.mul_le_mul (show len k+64 <= 100000064 by omega) S.small
   simp -dsimp [zk2 hxx hb,zqu hxx hb]
   refine hold.at_.appW2 (fun id b e1 e2=> ?_) (ho.slAt 0 rfl) S.pos (by simp only [zlh];omega) (by simp [maxLen];omega) fun y' h2 h3 h4 h5 h6 h7=> ?_
   ·rcases hold.ft with e|⟨e,_⟩
    ·rw [e] at e1;cases e1
    ·rw [e] at e1;exact fh.own.zpw k (Objs.getA hb) id b e1 e2
   ·have f2:FS E m h0 h2 v5 n xs len (upf ys k y') (upf F k (mkTo m k (len k)++mkTo m (k+n:Nat) 64)) gs:=fh.turn hb h3 h4 (fun j b e1 e2=>h5 j b e1 fun e3=>by
      rcases hold.ft with e|⟨e,_⟩
      ·rw [e] at e3;cases e3
      ·rw [e] at e3;exact e2 e3) (by
      rcases h6 with e|e
      ·rcases hold.ft with e'|⟨e',_⟩
       ·exact .inr fun id hid=>by rw [e,e'] at hid;cases hid
       ·exact .inl (e.trans e')
      ·exact .inr e) (h7 _ _ (Old.refl hold.at_))
    simp -dsimp [zk2 f2.gAt hb]
    refine f2.store hb h3.zc8 fun h8 f3=> ?_
    simp -dsimp [zkc (n:=k) (by omega)]
    refine hY (n-(k+1)) _ _ (by omega) ⟨k+1,_,_,_,by omega,by simp,f3,fun j hj=> ?_,fun j i hj hi=> ?_⟩
    ·by_cases e:j=k
     ·subst e;rw [zha,zha]
     ·rw [zmt _ _ e,zmt _ _ e];exact hgs j hj
    ·by_cases e:j=k
     ·subst e
      rw [zha,List.getElem?_append_left (by simpa using hi)]
      exact zli hi
     ·rw [zmt _ _ e];exact hF j i hj hi
 ·exact flat5 S hx fs hn hl hgs hF hq
theorem flat3 (S:ztg C E m v) (hx:SlX h0 1 x (zh5 n fun j=>[xs j]) W) (fs:FS E m h0 h v5 n xs len ys F gs) (hn:n <= 100000000) (hl: ∀ j,j<n->len j <= 100000000)
  (hgs: ∀ j,j<n->gs j=ys j) (hF: ∀ j,j<n->F j=mkTo m j (len j+64)) (hq: ∀ h',h0.le h'->Q (.bool true) h'):zg (z6.l59 E C Q x v5) [.int .i64 0] h:=by
 have hx':=hx.mono fs.own.le
 refine zg.intro (fun t vs hh=> ∃ k:Nat,k+t=n /\ vs=[.int .i64 k] /\ hh=h) n ?_ ⟨0,by simp,by simp,rfl⟩
 rintro Y t vs hh ⟨k,ht,rfl,rfl⟩ hY
 simp -dsimp [zrc hx']
 refine B.zn (fun hb=> ?_) (fun hb=> ?_)<;>simp -dsimp at hb ⊢
 ·refine zg.intro (fun t vs h2=> ∃ i:Nat,i+t=len k+64 /\ vs=[.int .i64 i] /\ h2=hh) (len k+64) ?_ ⟨0,by simp,by simp,rfl⟩
  rintro Z t' vs h3 ⟨i,hi,rfl,rfl⟩ hZ
  have hold:=(fs.old k hb).at_
  have hlk:=hl k hb
  have hlx:=hold.zbj
  rw [zlh] at hlx
  have hyk:=fs.yAt hb
  rw [hF k hb] at hyk
  have hly:=hyk.zbj
  rw [zlh] at hly
  have e3:=zqu fs.gAt hb
  rw [hgs k hb] at e3
  simp -dsimp [zk2 fs.gAt hb,e3,hly]
  refine B.zn (fun hc=> ?_) (fun hc=> ?_)
  ·have hc:i<len k+64:=by simp at hc;omega
   have e2:V.idxS E.es (ys k) (.int .i64 (i:Int))=some (elp E.es (ys k) i 0):=hyk.idxN (by simpa using hc)
   simp -dsimp only [zk2 fs.gAt hb,e3,e2,B.zd,B.zg0]
   refine S.ld hyk (zli hc) ?_
   refine S.call _ _ _ _ (keepS2 (ls_kp fs.gAt hb) (S.kpt hyk (zli hc)) ?_)
   refine S.eq ?_
   by_cases hd:i<len k
   ·have e1:V.idxS E.es (xs k) (.int .i64 (i:Int))=some (elp E.es (xs k) i 0):=hold.idxN (by simpa using hd)
    simp -dsimp [zk2 hx' hb,zqu hx' hb,hlx,hd,e1]
    refine S.ld hold (zli hd) ?_
    refine S.call _ _ _ _ (keepS2 (ls_kp hx' hb) (S.kpt hold (zli hd)) ?_)
    simp -dsimp
    refine S.eq ?_
    simp -dsimp [zkc (n:=i) (by omega)]
    exact hZ (len k+64-(i+1)) _ _ (by omega) ⟨i+1,by omega,by simp,rfl⟩
   ·simp -dsimp [zk2 hx' hb,zqu hx' hb,hlx,hd]
    simp -dsimp [zkc (n:=i) (by omega)]
    exact hZ (len k+64-(i+1)) _ _ (by omega) ⟨i+1,by omega,by simp,rfl⟩
  ·simp -dsimp [zkc (n:=k) (by omega)]
   exact hY (n-(k+1)) _ _ (by omega) ⟨k+1,by omega,by simp,rfl⟩
 ·exact flat4 S hx fs hn hl hgs (fun j i hj hi=>by rw [hF j hj];exact zli (by omega)) hq
theorem flat2 (S:ztg C E m v) (hx:SlX h0 1 x (zh5 n fun j=>[xs j]) W) (fs:FS E m h0 h v5 n xs len xs (fun j=>mkTo m j (len j)) gs) (hn:n <= 100000000) (hl: ∀ j,j<n->len j <= 100000000)
  (hq: ∀ h',h0.le h'->Q (.bool true) h'):zg (z6.l82 E C Q x v5) [.int .i64 0] h:=by
 refine zg.intro (fun t vs hh=> ∃ (k:Nat) (ys gs:Nat->AVal) (F:Nat->List (List AVal)),k+t=n /\ vs=[.int .i64 k] /\ FS E m h0 hh v5 n xs len ys F gs /\ (∀ j,j<k->gs j=ys j /\ F j=mkTo m j (len j+64)) /\ ∀ j,k <= j->ys j=xs j /\ F j=mkTo m j (len j)) n ?_
  ⟨0,_,gs,_,by simp,by simp,fs,by simp,fun j _=>⟨rfl,rfl⟩⟩
 rintro Y t vs h ⟨k,ys,gs,F,ht,rfl,fs,hlo,hhi⟩ hY
 have hx':=hx.mono fs.own.le
 simp -dsimp [zrc hx']
 refine B.zn (fun hb=> ?_) (fun hb=> ?_)<;>simp -dsimp at hb ⊢
 ·have hk:=hhi k (Nat.le_refl k)
  have hlk:=hl k hb
  simp -dsimp [zk2 hx' hb,zqu hx' hb]
  refine zg.intro (fun t vs hh=> ∃ (i:Nat) (y:AVal),i+t=64 /\ vs=[y,.int .i64 i] /\ FS E m h0 hh v5 n xs len (upf ys k y) (upf F k (mkTo m k (len k+i))) gs) 64 ?_ ⟨0,xs k,by simp,by simp,?_⟩
  ·rintro Z t' vs hh ⟨i,y,hi,rfl,f1⟩ hZ
   have hx1:=hx.mono f1.own.le
   have hold:=(f1.old k hb).at_
   have hlx:=hold.zbj
   rw [zlh] at hlx
   have ey:upf ys k y k=y:=zha ..
   simp -dsimp
   refine B.zn (fun hc=> ?_) (fun hc=> ?_)<;>simp -dsimp at hc ⊢
   ·have e1:IntKind.i64.wrap ((len k:Int)+i)=((len k+i:Nat):Int):=by rw [wrap_i64 (by omega) (by omega)];omega
    simp -dsimp only [zk2 hx1 hb,zqu hx1 hb,hlx,B.zd,B.zg0,V.zfa,e1]
    refine S.call _ _ _ _ ?_
    rw [S.new]
    have:=f1.push S hb (cs:=m k (len k+i:Nat)) (S.len _ _) (by rw [zha,zlh];omega) (K:=fun v68 h=>B.pv (V.bin .add (.int .i64 (i:Int)) (.int .i64 1)) fun v56=>Z [v68,v56] h) fun y' h2 f2=> ?_
    ·rw [ey] at this;exact this
    ·simp -dsimp [zkc (n:=i) (by omega)]
     refine hZ (64-(i+1)) _ _ (by omega) ⟨i+1,y',by omega,by simp,?_⟩
     rw [upf_upf,upf_upf,zha, <- mkTo_succ] at f2
     exact f2
   ·have hi64:i=64:=by omega
    subst hi64
    simp -dsimp [zk2 f1.gAt hb]
    have hyc:=(f1.yAt hb).zc8
    rw [ey] at hyc
    refine f1.store hb hyc fun h2 f2=> ?_
    simp -dsimp [zkc (n:=k) (by omega)]
    refine hY (n-(k+1)) _ _ (by omega) ⟨k+1,_,_,_,by omega,by simp,f2,fun j hj=> ?_,fun j hj=> ?_⟩
    ·by_cases e:j=k
     ·subst e;rw [zha,zha,zha];exact ⟨rfl,rfl⟩
     ·rw [zmt _ _ e,zmt _ _ e,zmt _ _ e];exact hlo j (by omega)
    ·rw [zmt _ _ (by omega),zmt _ _ (by omega)];exact hhi j (by omega)
  ·have e1:upf ys k (xs k)=ys:=by rw [<- hk.1,zpn]
   have e2:upf F k (mkTo m k (len k+0))=F:=by rw [Nat.add_zero, <- hk.2,zpn]
   rw [e1,e2];exact fs
 ·have:k=n:=by omega
  subst this
  exact flat3 S hx fs hn hl (fun j hj=>(hlo j hj).1) (fun j hj=>(hlo j hj).2) hq
theorem flatG_spec (S:ztg C E m v) {D R:Nat->List (List AVal)} (hx:SlX h0 1 x (zh5 n fun j=>[xs j]) W) (ho:Owns h0 h (Objs E.es n xs D R)) (hn:n <= 100000000) (hl: ∀ j,j<n->(D j).length <= 100000000)
  (hq: ∀ h',h0.le h'->Q (.bool true) h'):z6 E C x h Q:=by
 refine zg.intro (fun t vs hh=> ∃ (k:Nat) (G:Nat->List (List AVal)),k+t=n /\ vs=[.int .i64 k] /\ Owns h0 hh (Objs E.es n xs G R) /\ (∀ j,j<k->G j=mkTo m j (D j).length) /\ ∀ j,k <= j->G j=D j) n ?_
  ⟨0,D,by simp,by simp,ho,by simp,fun j _=>rfl⟩
 rintro Y t vs h ⟨k,G,ht,rfl,ho,hlo,hhi⟩ hY
 have hx':=hx.mono ho.le
 simp -dsimp [zrc hx']
 refine B.zn (fun hb=> ?_) (fun hb=> ?_)<;>simp -dsimp at hb ⊢
 ·have hlk:=hl k hb
  have hgk:=hhi k (Nat.le_refl k)
  refine zg.intro (fun t vs hh=> ∃ i:Nat,i+t=(D k).length /\ vs=[.int .i64 i] /\ Owns h0 hh (Objs E.es n xs (upf G k (mkTo m k i++(D k).drop i)) R)) (D k).length ?_ ⟨0,by simp,by simp,?_⟩
  ·rintro Z t' vs hh ⟨i,hi,rfl,ho1⟩ hZ
   have hx1:=hx.mono ho1.le
   have hxk:=ho1.slAt k (Objs.get hb)
   rw [zha] at hxk
   have hlx:=hxk.zbj
   have hll:(mkTo m k i++(D k).drop i).length=(D k).length:=by simp;omega
   rw [hll] at hlx
   simp -dsimp [zk2 hx1 hb,zqu hx1 hb,hlx]
   refine B.zn (fun hc=> ?_) (fun hc=> ?_)<;>simp -dsimp at hc ⊢
   ·have hlt:i<(mkTo m k i++(D k).drop i).length:=by omega
    simp -dsimp only [zk2 hx1 hb,zqu hx1 hb,B.zd,B.zg0]
    refine S.call _ _ _ _ (keepS1 (ls_kp hx1 hb) ?_)
    simp -dsimp only [hxk.idxN hlt,B.zd]
    refine S.st hxk (ho1.zpw k (Objs.get hb)) (mkTo_at hc) fun h2 h3 h4 h5=> ?_
    rw [mkTo_over hc] at h3
    have h6:=ho1.turn k (Objs.get hb) (o':= .sl E.es (xs k) _ (R k)) h3 h4 h5 (.inl rfl)
    rw [Objs.set,zpn,zpn,upf_upf] at h6
    simp -dsimp [zkc (n:=i) (by omega)]
    exact hZ ((D k).length-(i+1)) _ _ (by omega) ⟨i+1,by omega,by simp,h6⟩
   ·have hie:i=(D k).length:=by omega
    subst hie
    rw [List.drop_length,List.append_nil] at ho1
    simp -dsimp [zkc (n:=k) (by omega)]
    refine hY (n-(k+1)) _ _ (by omega) ⟨k+1,_,by omega,by simp,ho1,fun j hj=> ?_,fun j hj=> ?_⟩
    ·by_cases e:j=k
     ·subst e;rw [zha]
     ·rw [zmt _ _ e];exact hlo j (by omega)
    ·rw [zmt _ _ (by omega)];exact hhi j (by omega)
  ·simp only [mkTo_zero,List.nil_append,List.drop_zero]
   rw [<- hgk,zpn];exact ho
 ·have:k=n:=by omega
  subst this
  simp -dsimp only [zrc hx',B.zd]
  refine ⟨Nat.one_pos,?_⟩
  refine ho.mks (bytes:=24) (es:=1) (n:=k) (c:=k) (z:=[.nils]) rfl (by omega) (by omega) (by omega) (by omega) fun y h1 ho1=> ?_
  have e1:((k:Int)).toNat=k:=by simp
  rw [e1,Nat.sub_self,fills_zero] at ho1
  have ho2:=ho1.cutR
  rw [Objs.congr (ys:=xs) (E:=fun j=>mkTo m j (D j).length) (S:=fun _=>[]) fun j hj=>⟨rfl,hlo j hj,rfl⟩] at ho2
  exact flat2 S hx ⟨ho2,fun j hj=>Old.refl (ho2.slAt j (Objs.getA hj))⟩ hn (fun j hj=>hl j hj) hq
end
end Go.Ab
namespace Go.Ab
variable {C:CSem} {N:zN}
structure Scal (T:Type) [DecidableEq T] where
 c:T->AVal
 cell: ∀ t,(c t).zc8=true
 eql: ∀ a b,V.bin .eql (c a) (c b)=some (.bool (decide (a=b)))
 neq: ∀ a b,V.bin .neq (c a) (c b)=some (.bool (!decide (a=b)))
theorem SlX.cell {h:za} {x c:AVal} {L R:List (List AVal)} {i:Nat} (hs:SlX h 1 x L R) (hc:L[i]? =some [c]):A.ldv h (elp 1 x i 0)=some c:=by
 rw [hs.ldv hc (by omega)];rfl
section
variable {T:Type} [DecidableEq T] (F:Scal T)
abbrev Scal.cs (t:T):List AVal:=[F.c t]
@[simp] def zti.k2 (Q:zQ) (Y1:zL) (v0 v1 v5:AVal) (h:za):Prop:=
 B.pv (V.zbj v0) fun v13=>
  B.pv (V.bin .lss v5 v13) fun v14=>
  B.cond v14
  (B.pv (V.idxS 1 v0 v5) fun v19=>
  B.ld h v19 fun v20=>
  B.pv (V.idxS 1 v1 v5) fun v23=>
  B.ld h v23 fun v24=>
  B.pv (V.bin .neq v20 v24) fun v25=>
  B.cond v25
  (Q (.bool false) h)
  (B.pv (V.bin .add v5 (.int .i64 1)) fun v16=>
  Y1 [v16] h))
  (Q (.bool true) h)
@[simp] def zti.l4 (Q:zQ) (v0 v1:AVal):zG
 | [v5],h,Y1=>zti.k2 Q Y1 v0 v1 v5 h
 | _,_,_=>False
def zti (v0 v1:AVal) (h:za) (Q:zQ):Prop:=
 B.pv (V.zbj v0) fun v7=>
  B.pv (V.zbj v1) fun v9=>
  B.pv (V.bin .neq v7 v9) fun v10=>
  B.cond v10
  (Q (.bool false) h)
  (zg (zti.l4 Q v0 v1) [(.int .i64 0)] h)
theorem sameS_spec {x y:AVal} {L M:List T} {R S:List (List AVal)} {h:za} {Q:zQ} (hx:SlX h 1 x (L.map F.cs) R) (hy:SlX h 1 y (M.map F.cs) S) (hlen:L.length<4611686018427387904)
  (hq:Q (.bool (decide (L=M))) h):zti x y h Q:=by
 have hlx:=hx.zbj
 have hly:=hy.zbj
 rw [List.length_map] at hlx hly
 simp -dsimp [zti,hlx,hly]
 refine B.zn (fun hb=> ?_) (fun hb=> ?_)<;>simp -dsimp at hb ⊢
 ·rw [decide_eq_false fun e=>hb (by rw [e])] at hq
  exact hq
 ·refine zg.intro (fun n vs hh=> ∃ k,k+n=L.length /\ vs=[.int .i64 k] /\ hh=h /\ L.take k=M.take k) L.length ?_ ⟨0,by simp,by simp,rfl,by simp⟩
  rintro Y n vs _ ⟨k,hn,rfl,rfl,he⟩ hY
  simp -dsimp [hlx]
  refine B.zn (fun hc=> ?_) (fun hc=> ?_)<;>simp -dsimp at hc ⊢
  ·obtain ⟨w,hw⟩:=zfz hc
   obtain ⟨u,hu⟩:=zfz (L:=M) (k:=k) (by omega)
   have hk:k<(L.map F.cs).length:=by simpa using hc
   have hk2:k<(M.map F.cs).length:=by simp;omega
   simp only [hx.idxN hk,hy.idxN hk2,hx.cell (get_map hw),hy.cell (get_map hu),B.zd,B.zg0,F.neq]
   refine B.zn (fun hd=> ?_) (fun hd=> ?_)<;>simp -dsimp at hd ⊢
   ·rw [decide_eq_false fun e=>by subst e;rw [hw] at hu;cases hu;exact hd rfl] at hq
    exact hq
   ·simp [zkc (n:=k) (by omega)]
    refine hY (L.length-(k+1)) _ _ (by omega) ⟨k+1,by omega,by simp,rfl,?_⟩
    rw [take_succ hw,take_succ hu,he,hd]
  ·rw [List.take_of_length_le (by omega),List.take_of_length_le (by omega)] at he
   rw [decide_eq_true he] at hq
   exact hq
def zhv (mk:Int->T) (n:Nat):List (List AVal):=(List.range n).map fun (i:Nat)=>F.cs (mk (i:Int))
@[simp] theorem cmarks_len (mk:Int->T) (n:Nat):(zhv F mk n).length=n:=by simp [zhv]
theorem cmarks_get (mk:Int->T) {n k:Nat} (hk:k<n):(zhv F mk n)[k]? =some (F.cs (mk k)):=by simp [zhv,hk]
theorem cmarks_succ (mk:Int->T) (n:Nat):zhv F mk (n+1)=zhv F mk n++[F.cs (mk n)]:=by simp [zhv,List.range_succ]
@[simp] def zro.k2 (C:CSem) (bytes f:Nat) (z:AVal) (m:Int) (Q:zQ) (Y1:zL) (v0 v3 v4:AVal) (h:za):Prop:=
 B.pv (V.bin .lss v4 (.int .i64 12)) fun v13=>
  B.cond v13
  (B.call C f [(.int .i64 m),v4] h fun v18 h=>
  B.newO h (ze2 [(0,none,v18)] (repL 1 [z])) fun i19 h=>
  B.appW h 1 bytes v3 (.sl i19 0 0 1 1 1) fun v20 h=>
  B.pv (V.bin .add v4 (.int .i64 1)) fun v15=>
  Y1 [v20,v15] h)
  (B.pv (V.zbj v0) fun v23=>
  B.pv (V.zgp 1 v3 none (some v23)) fun v24=>
  Q v24 h)
@[simp] def zro.l4 (C:CSem) (bytes f:Nat) (z:AVal) (m:Int) (Q:zQ) (v0:AVal):zG
 | [v3,v4],h,Y1=>zro.k2 C bytes f z m Q Y1 v0 v3 v4 h
 | _,_,_=>False
def zro (C:CSem) (bytes f:Nat) (z:AVal) (m:Int) (v0:AVal) (h:za) (Q:zQ):Prop:=
 B.pv (V.zbj v0) fun v6=>
  B.pv (V.bin .add v6 (.int .i64 12)) fun v7=>
  0<1 /\ B.mks h bytes (some [z]) (.int .i64 0) v7 fun v8 h=>
  B.appW h 1 bytes v8 v0 fun v11 h=>
  zg (zro.l4 C bytes f z m Q v0) [v11,(.int .i64 0)] h
theorem lentS_specL {bytes f:Nat} {z:AVal} {m:Int} {mk:Int->T} (s1: ∀ (i:Int) (h:za) (Q:zQ),Q (F.c (mk i)) h->C f [.int .i64 m,.int .i64 i] h Q)
  {x:AVal} {L:List T} {R:List (List AVal)} {h:za} {Q:zQ} (hx:SlX h 1 x (L.map F.cs) R) (hlen:L.length <= 4611686018427387000) (hbm:(L.length+12)*bytes <= 140737488355328)
  (hq: ∀ x' h',Owns h h' [.sl 1 x' (L.map F.cs) (zhv F mk 12)]->Q x' h'):zro C bytes f z m x h Q:=by
 have hlx:=hx.zbj
 rw [List.length_map] at hlx
 have hmul: ∀ n:Nat,n <= L.length+12->n*bytes <= 140737488355328:=fun n hn=>Nat.le_trans (Nat.mul_le_mul_right bytes hn) hbm
 have e1:IntKind.i64.wrap ((L.length:Int)+12)=(L.length:Int)+12:=wrap_i64 (by omega) (by omega)
 simp -dsimp [zro,hlx,e1]
 refine (Owns.start h).mks (es:=1) rfl (by omega) (by omega) ?_ (by omega) fun y h1 ho=> ?_
 ·have:=hmul (L.length+12) (by omega)
  have e:((L.length:Int)+12)*bytes=((L.length+12)*bytes:Nat):=by simp
  rw [e];omega
 refine ho.appW 0 rfl (hx.mono ho.le) Nat.one_pos (by simpa using hmul L.length (by omega)) (by simp [maxLen];omega) fun y2 h2 ho2 _=> ?_
 refine zg.intro (fun n vs hh=> ∃ k y,k+n=12 /\ vs=[y,.int .i64 k] /\ Owns h hh [.sl 1 y (L.map F.cs++zhv F mk k) []]) 12 ?_ ⟨0,y2,by simp,by simp,by simpa [zhv] using ho2⟩
 rintro Y n vs hh ⟨k,y3,hn,rfl,ho3⟩ hY
 simp -dsimp [hlx]
 refine B.zn (fun hc=> ?_) (fun hc=> ?_)<;>simp -dsimp at hc ⊢
 ·refine s1 _ _ _ ?_
  have hfill:ze2 [(0,none,F.c (mk k))] (repL 1 [z])=some (F.cs (mk k)):=by
   simp [F.cell,repL]
  rw [hfill]
  refine ho3.push 0 rfl rfl Nat.one_pos (by simp;have:=hmul (L.length+k+1) (by omega);omega) (by simp [maxLen];omega) fun z' h4 ho4 _=> ?_
  simp [zkc (n:=k) (by omega)]
  refine hY (12-(k+1)) _ _ (by omega) ⟨k+1,z',by omega,by simp,?_⟩
  rw [cmarks_succ, <- List.append_assoc]
  exact ho4
 ·have:k=12:=by omega
  subst this
  obtain ⟨x',e2,e3,e4⟩:=(ho3.slAt 0 rfl).slice Nat.one_pos (lo:=0) (hi:=L.length) (a:=none) (b:=some (.int .i64 L.length)) (.inl ⟨rfl,rfl⟩) (.inr ⟨_,rfl⟩) (by omega) (by simp)
  simp -dsimp [hlx,e2]
  refine hq _ _ (ho3.turn 0 rfl (o':= .sl 1 x' (L.map F.cs) (zhv F mk 12)) ?_ (fun id b hf hb=>ho3.zpw 0 rfl id b (by show foot y3=some id;rw [<- e4];exact hf) hb) (fun j b hb _=>hb) (.inl e4))
  have h1:((L.map F.cs++zhv F mk 12++[]).take L.length).drop 0=L.map F.cs:=by simp [List.take_append_of_le_length]
  have h2:(L.map F.cs++zhv F mk 12++[]).drop L.length=zhv F mk 12:=by simp [List.drop_append_of_le_length]
  rw [h1,h2] at e3
  exact e3
theorem lentS_spec {bytes f:Nat} {z:AVal} {m:Int} {mk:Int->T} (hbm:bytes <= 1000) (s1: ∀ (i:Int) (h:za) (Q:zQ),Q (F.c (mk i)) h->C f [.int .i64 m,.int .i64 i] h Q)
  {x:AVal} {L:List T} {R:List (List AVal)} {h:za} {Q:zQ} (hx:SlX h 1 x (L.map F.cs) R) (hlen:L.length <= 100000000)
  (hq: ∀ x' h',Owns h h' [.sl 1 x' (L.map F.cs) (zhv F mk 12)]->Q x' h'):zro C bytes f z m x h Q:=
 lentS_specL F s1 hx (by omega) (by have:=Nat.mul_le_mul (show L.length+12 <= 100000100 by omega) hbm;omega) hq
@[simp] def zs8.k2 (C:CSem) (f:Nat) (m:Int) (Q:zQ) (Y1:zL) (v1 v5 v6:AVal) (h:za):Prop:=
 B.pv (V.zbj v5) fun v19=>
  B.pv (V.bin .lss v6 v19) fun v20=>
  B.cond v20
  (B.pv (V.zbj v1) fun v25=>
  B.pv (V.bin .lss v6 v25) fun v26=>
  B.gd h v26 true (fun K=>K v5 h) fun v28 h=>
  B.gd h v26 true (fun K=>K v6 h) fun v29 h=>
  B.gd h v26 true (fun K=>B.pv (V.idxS 1 v28 v29) fun v=>K v h) fun v30 h=>
  B.gd h v26 true (fun K=>B.ld h v30 fun v=>K v h) fun v31 h=>
  B.gd h v26 true (fun K=>K v1 h) fun v32 h=>
  B.gd h v26 true (fun K=>K v6 h) fun v33 h=>
  B.gd h v26 true (fun K=>B.pv (V.idxS 1 v32 v33) fun v=>K v h) fun v34 h=>
  B.gd h v26 true (fun K=>B.ld h v34 fun v=>K v h) fun v35 h=>
  B.gd h v26 true (fun K=>B.pv (V.bin .eql v31 v35) fun v=>K v h) fun v36 h=>
  B.gd h v26 true (fun K=>B.pv (V.un .not v36) fun v=>K v h) fun v37 h=>
  B.pick v26 v37 (.bool false) fun v38=>
  B.gd h v38 false (fun K=>K v6 h) fun v40 h=>
  B.gd h v38 false (fun K=>K v1 h) fun v41 h=>
  B.gd h v38 false (fun K=>B.pv (V.zbj v41) fun v=>K v h) fun v42 h=>
  B.gd h v38 false (fun K=>B.pv (V.bin .geq v40 v42) fun v=>K v h) fun v43 h=>
  B.gd h v38 false (fun K=>K v43 h) fun v44 h=>
  B.gd h v44 true (fun K=>K v5 h) fun v45 h=>
  B.gd h v44 true (fun K=>K v6 h) fun v46 h=>
  B.gd h v44 true (fun K=>B.pv (V.idxS 1 v45 v46) fun v=>K v h) fun v47 h=>
  B.gd h v44 true (fun K=>B.ld h v47 fun v=>K v h) fun v48 h=>
  B.gd h v44 true (fun K=>K v6 h) fun v49 h=>
  B.gd h v44 true (fun K=>K v1 h) fun v50 h=>
  B.gd h v44 true (fun K=>B.pv (V.zbj v50) fun v=>K v h) fun v51 h=>
  B.gd h v44 true (fun K=>B.pv (V.bin .sub v49 v51) fun v=>K v h) fun v52 h=>
  B.gd h v44 true (fun K=>B.call C f [(.int .i64 m),v52] h (B.zm2 h [(v47,none)] K)) fun v53 h=>
  B.gd h v44 true (fun K=>B.pv (V.bin .eql v48 v53) fun v=>K v h) fun v54 h=>
  B.gd h v44 true (fun K=>B.pv (V.un .not v54) fun v=>K v h) fun v55 h=>
  B.gd h v38 false (fun K=>B.pick v44 v55 (.bool false) fun v=>K v h) fun v56 h=>
  B.pick v38 (.bool true) v56 fun v57=>
  B.cond v57
  (Q (.bool false) h)
  (B.pv (V.bin .add v6 (.int .i64 1)) fun v22=>
  Y1 [v22] h))
  (Q (.bool true) h)
@[simp] def zs8.l4 (C:CSem) (f:Nat) (m:Int) (Q:zQ) (v1 v5:AVal):zG
 | [v6],h,Y1=>zs8.k2 C f m Q Y1 v1 v5 v6 h
 | _,_,_=>False
def zs8 (C:CSem) (f:Nat) (m:Int) (v0 v1:AVal) (h:za) (Q:zQ):Prop:=
 B.pv (V.zbj v0) fun v8=>
  B.pv (V.zbj v1) fun v10=>
  B.pv (V.bin .neq v8 v10) fun v11=>
  B.cond v11
  (Q (.bool false) h)
  (B.pv (V.zbj v1) fun v14=>
  B.pv (V.bin .add v14 (.int .i64 12)) fun v15=>
  B.pv (V.zgp 1 v0 none (some v15)) fun v16=>
  zg (zs8.l4 C f m Q v1 v16) [(.int .i64 0)] h)
theorem keptS_specL {f:Nat} {m:Int} {mk:Int->T} (s1: ∀ (i:Int) (h:za) (Q:zQ),Q (F.c (mk i)) h->C f [.int .i64 m,.int .i64 i] h Q)
  {x y:AVal} {L M:List T} {R:List (List AVal)} {h:za} {Q:zQ} (hx:SlX h 1 x (L.map F.cs) (zhv F mk 12)) (hy:SlX h 1 y (M.map F.cs) R) (hlen:L.length <= 4611686018427387000)
  (hq:Q (.bool (decide (L=M))) h):zs8 C f m x y h Q:=by
 have hlx:=hx.zbj
 have hly:=hy.zbj
 rw [List.length_map] at hlx hly
 simp -dsimp [zs8,hlx,hly]
 refine B.zn (fun hb=> ?_) (fun hb=> ?_)<;>simp -dsimp at hb ⊢
 ·rw [decide_eq_false fun e=>hb (by rw [e])] at hq
  exact hq
 ·have e1:IntKind.i64.wrap ((M.length:Int)+12)=((M.length+12:Nat):Int):=by rw [wrap_i64 (by omega) (by omega)];omega
  obtain ⟨z,e2,e3,e4⟩:=hx.slice Nat.one_pos (lo:=0) (hi:=M.length+12) (a:=none) (b:=some (.int .i64 ((M.length+12:Nat):Int))) (.inl ⟨rfl,rfl⟩) (.inr ⟨_,rfl⟩) (by omega) (by simp;omega)
  have h1:((L.map F.cs++zhv F mk 12).take (M.length+12)).drop 0=L.map F.cs++zhv F mk 12:=by rw [List.drop_zero,List.take_of_length_le];simp;omega
  rw [h1] at e3
  have hlz:=e3.zbj
  simp only [List.length_append,List.length_map,cmarks_len] at hlz
  simp only [hly,V.zfa,e1,e2,B.zd]
  refine zg.intro (fun n vs hh=> ∃ k,k+n=L.length+12 /\ vs=[.int .i64 k] /\ hh=h /\ L.take k=M.take k) (L.length+12) ?_ ⟨0,by simp,by simp,rfl,by simp⟩
  rintro Y n vs _ ⟨k,hn,rfl,rfl,he⟩ hY
  simp -dsimp [hlz]
  refine B.zn (fun hc=> ?_) (fun hc=> ?_)<;>simp -dsimp at hc ⊢
  ·have hk:k<(L.map F.cs++zhv F mk 12).length:=by simp;omega
   by_cases hkL:k<L.length
   ·have ew:=zfz hkL
    have eu:=zfz (L:=M) (k:=k) (by omega)
    obtain ⟨w,hw⟩:=ew
    obtain ⟨u,hu⟩:=eu
    have hk2:k<(M.map F.cs).length:=by simp;omega
    have hkM:k<M.length:=by omega
    have hwz:(L.map F.cs++zhv F mk 12)[k]? =some (F.cs w):=by rw [List.getElem?_append_left (by simpa using hkL)];exact get_map hw
    by_cases hwu:w=u
    ·subst hwu
     simp -dsimp [hly,hkM,e3.idxN hk,hy.idxN hk2,e3.cell hwz,hy.cell (get_map hu),F.eql,show ¬ M.length <= k by omega,zkc (n:=k) (by omega)]
     refine hY (L.length+12-(k+1)) _ _ (by omega) ⟨k+1,by omega,by simp,rfl,?_⟩
     rw [take_succ hw,take_succ hu,he]
    ·simp -dsimp [hly,hkM,e3.idxN hk,hy.idxN hk2,e3.cell hwz,hy.cell (get_map hu),F.eql,hwu]
     rw [decide_eq_false fun e=>by subst e;rw [hw] at hu;cases hu;exact hwu rfl] at hq
     exact hq
   ·have hkM: ¬ k<M.length:=by omega
    have hmk:(L.map F.cs++zhv F mk 12)[k]? =some (F.cs (mk ((k-M.length:Nat):Int))):=by
     rw [List.getElem?_append_right (by simp;omega),List.length_map,show k-L.length=k-M.length by omega]
     exact cmarks_get F mk (by omega)
    have e5:IntKind.i64.wrap ((k:Int)-M.length)=((k-M.length:Nat):Int):=by rw [wrap_i64 (by omega) (by omega)];omega
    simp -dsimp [hly,hkM,e3.idxN hk,e3.cell hmk,show M.length <= k by omega,e5]
    refine s1 _ _ _ ⟨?_,?_⟩
    ·intro p hp
     rw [List.mem_singleton.1 hp]
     exact ⟨_,e3.cell hmk,e3.cell hmk⟩
    ·simp [F.eql,zkc (n:=k) (by omega)]
     refine hY (L.length+12-(k+1)) _ _ (by omega) ⟨k+1,by omega,by simp,rfl,?_⟩
     rw [List.take_of_length_le (by omega),List.take_of_length_le (by omega)] at he ⊢
     exact he
  ·rw [List.take_of_length_le (by omega),List.take_of_length_le (by omega)] at he
   rw [decide_eq_true he] at hq
   exact hq
theorem keptS_spec {f:Nat} {m:Int} {mk:Int->T} (s1: ∀ (i:Int) (h:za) (Q:zQ),Q (F.c (mk i)) h->C f [.int .i64 m,.int .i64 i] h Q)
  {x y:AVal} {L M:List T} {R:List (List AVal)} {h:za} {Q:zQ} (hx:SlX h 1 x (L.map F.cs) (zhv F mk 12)) (hy:SlX h 1 y (M.map F.cs) R) (hlen:L.length <= 100000000)
  (hq:Q (.bool (decide (L=M))) h):zs8 C f m x y h Q:=keptS_specL F s1 hx hy (by omega) hq
end
@[simp] def zpf.k1 (C:CSem) (es f:Nat) (st:za->AVal->AVal->(za->Prop)->Prop) (m:Int) (Q:zQ) (Y1:zL) (v2 v3:AVal) (h:za):Prop:=
 B.pv (V.zbj v2) fun v11=>
  B.pv (V.bin .lss v3 v11) fun v12=>
  B.cond v12
  (B.call C f [(.int .i64 m),v3] h fun v18 h=>
  B.pv (V.idxS es v2 v3) fun v19=>
  st h v19 v18 fun h=>
  B.pv (V.bin .add v3 (.int .i64 1)) fun v14=>
  Y1 [v14] h)
  (Q (.tup []) h)
@[simp] def zpf.l3 (C:CSem) (es f:Nat) (st:za->AVal->AVal->(za->Prop)->Prop) (m:Int) (Q:zQ) (v2:AVal):zG
 | [v3],h,Y1=>zpf.k1 C es f st m Q Y1 v2 v3 h
 | _,_,_=>False
def zpf (C:CSem) (es f:Nat) (st:za->AVal->AVal->(za->Prop)->Prop) (m:Int) (v0:AVal) (h:za) (Q:zQ):Prop:=
 B.pv (V.zbj v0) fun v6=>
  B.pv (V.bin .add v6 (.int .i64 12)) fun v7=>
  B.pv (V.zgp es v0 none (some v7)) fun v8=>
  zg (zpf.l3 C es f st m Q v8) [(.int .i64 0)] h
theorem overG_specL {es f:Nat} {st:za->AVal->AVal->(za->Prop)->Prop} {m:Int} (hes:0<es) {v:Int->AVal} (s1: ∀ (i:Int) (h:za) (Q:zQ),Q (v i) h->C f [.int .i64 m,.int .i64 i] h Q)
  (s2: ∀ {h0 h:za} {x:AVal} {L R:List (List AVal)} {i:Nat} {k:Int} {K:za->Prop},Owns h0 h [.sl es x L R]->i<L.length->(∀ h' L',L'.length=L.length->Owns h0 h' [.sl es x L' R]->K h')->st h (elp es x i 0) (v k) K)
  {h0 h:za} {x:AVal} {L R:List (List AVal)} {Q:zQ} (ho:Owns h0 h [.sl es x L R]) (hR:R.length=12) (hlen:L.length <= 4611686018427387000) (hq: ∀ h',h0.le h'->Q (.tup []) h'):zpf C es f st m x h Q:=by
 have hx:=ho.slAt 0 rfl
 have hlx:=hx.zbj
 have e1:IntKind.i64.wrap ((L.length:Int)+12)=((L.length+12:Nat):Int):=by rw [wrap_i64 (by omega) (by omega)];omega
 obtain ⟨z,e2,e3,e4⟩:=hx.slice hes (lo:=0) (hi:=L.length+12) (a:=none) (b:=some (.int .i64 ((L.length+12:Nat):Int))) (.inl ⟨rfl,rfl⟩) (.inr ⟨_,rfl⟩) (by omega) (by omega)
 have h1:((L++R).take (L.length+12)).drop 0=L++R:=by rw [List.drop_zero,List.take_of_length_le];simp;omega
 rw [h1] at e3
 simp only [zpf,hlx,V.zfa,e1,e2,B.zd]
 have hoz:Owns h0 h [.sl es z (L++R) ((L++R).drop (L.length+12))]:=ho.turn 0 rfl (o':= .sl es z (L++R) ((L++R).drop (L.length+12))) e3 (fun id b hf hb=>ho.zpw 0 rfl id b (by show foot x=some id;rw [<- e4];exact hf) hb) (fun j b hb _=>hb) (.inl e4)
 refine zg.intro (fun n vs hh=> ∃ (k:Nat) (L':List (List AVal)),k+n=L.length+12 /\ vs=[.int .i64 k] /\ L'.length=L.length+12 /\ Owns h0 hh [.sl es z L' ((L++R).drop (L.length+12))]) (L.length+12) ?_ ⟨0,L++R,by simp,by simp,by simp [hR],hoz⟩
 rintro Y n vs hh ⟨k,L',hn,rfl,hl',ho'⟩ hY
 have hlz:=(ho'.slAt 0 rfl).zbj
 rw [hl'] at hlz
 simp -dsimp [hlz]
 refine B.zn (fun hc=> ?_) (fun hc=> ?_)<;>simp -dsimp at hc ⊢
 ·have hk:k<L'.length:=by omega
  refine s1 _ _ _ ?_
  simp -dsimp only [(ho'.slAt 0 rfl).idxN hk,B.zd]
  refine s2 ho' hk fun h' L2 hl2 ho2=> ?_
  simp -dsimp [zkc (n:=k) (by omega)]
  exact hY (L.length+12-(k+1)) _ _ (by omega) ⟨k+1,L2,by omega,by simp,by omega,ho2⟩
 ·exact hq _ ho'.le
theorem zt4 {es f:Nat} {st:za->AVal->AVal->(za->Prop)->Prop} {m:Int} (hes:0<es) {v:Int->AVal} (s1: ∀ (i:Int) (h:za) (Q:zQ),Q (v i) h->C f [.int .i64 m,.int .i64 i] h Q)
  (s2: ∀ {h0 h:za} {x:AVal} {L R:List (List AVal)} {i:Nat} {k:Int} {K:za->Prop},Owns h0 h [.sl es x L R]->i<L.length->(∀ h' L',L'.length=L.length->Owns h0 h' [.sl es x L' R]->K h')->st h (elp es x i 0) (v k) K)
  {h0 h:za} {x:AVal} {L R:List (List AVal)} {Q:zQ} (ho:Owns h0 h [.sl es x L R]) (hR:R.length=12) (hlen:L.length <= 100000000) (hq: ∀ h',h0.le h'->Q (.tup []) h'):zpf C es f st m x h Q:=
 overG_specL hes s1 s2 ho hR (by omega) hq
theorem over_stS {v:AVal} (hv:v.zc8=true) {h0 h:za} {x:AVal} {L R:List (List AVal)} {i:Nat} {K:za->Prop} (ho:Owns h0 h [.sl 1 x L R]) (hi:i<L.length) (hK: ∀ h' L',L'.length=L.length->Owns h0 h' [.sl 1 x L' R]->K h'):B.st h (elp 1 x i 0) v K:=by
 refine ho.st 0 rfl (c:=L[i]) (by simp [hi]) (by omega) hv fun h' ho' _=>hK h' _ (by simp) ho'
theorem over_stN {es:Nat} {xs:List AVal} (hxs:xs.length=es) {h0 h:za} {x:AVal} {L R:List (List AVal)} {i:Nat} {K:za->Prop} (ho:Owns h0 h [.sl es x L R]) (hi:i<L.length) (hK: ∀ h' L',L'.length=L.length->Owns h0 h' [.sl es x L' R]->K h'):B.stn h (elp es x i 0) es (.agg xs) K:=by
 refine ho.stElem 0 rfl (c:=L[i]) (by simp [hi]) hxs fun h' ho' _=>hK h' _ (by simp) ho'
def za.zmb (h:za) (l:List Ob):za:=⟨fun i=>bif l.any (fun o=>o.foot==some i) then none else h i,by
 obtain ⟨n,k⟩:=h.2
 refine ⟨n,fun i hi=> ?_⟩
 show (bif l.any (fun o=>o.foot==some i) then none else h i)=none
 cases l.any (fun o=>o.foot==some i)
 ·exact k i hi
 ·rfl⟩
theorem ztv {h:za} {l:List Ob} {i:Nat} {o:Ob} (hm:o∈l) (hf:o.foot=some i):h.zmb l i=none:=by
 have:(l.any fun o=>o.foot==some i)=true:=List.any_eq_true.2 ⟨o,hm,by simp [hf]⟩
 show (bif l.any (fun o=>o.foot==some i) then none else h i)=none
 rw [this];rfl
theorem zo3 {h:za} {l:List Ob} {i:Nat} (hm: ∀ o∈l,o.foot≠some i):h.zmb l i=h i:=by
 have:(l.any fun o=>o.foot==some i)=false:=by
  rw [<- Bool.not_eq_true,List.any_eq_true]
  rintro ⟨o,h1,h2⟩
  exact hm o h1 (by simpa using h2)
 show (bif l.any (fun o=>o.foot==some i) then none else h i)=_
 rw [this];rfl
theorem without_le (h:za) (l:List Ob):(h.zmb l).le h:=fun i b e=>by
 by_cases hm: ∃ o∈l,o.foot=some i
 ·obtain ⟨o,h1,h2⟩:=hm
  rw [ztv h1 h2] at e;cases e
 ·rw [zo3 fun o h1 h2=>hm ⟨o,h1,h2⟩] at e;exact e
theorem Owns.out {h0 h:za} {l1 l2:List Ob} (ho:Owns h0 h (l1++l2)):Owns h0 (h.zmb l2) l1 /\ Owns (h.zmb l2) h l2:=by
 obtain ⟨a1,a2,a3⟩:=List.pairwise_append.1 ho.apart
 have h1:h0.le (h.zmb l2):=fun i b e=>by
  rw [zo3 fun o hm hf=>by rw [(ho.own o (List.mem_append_right _ hm) i hf).1] at e;cases e]
  exact ho.le i b e
 have keep: ∀ o∈l1,∀ id,o.foot=some id->(h.zmb l2) id=h id:=fun o hm id hf=>zo3 fun o2 hm2 hf2=>a3 o hm o2 hm2 id hf hf2
 refine ⟨⟨h1,fun o hm=>(ho.is o (List.mem_append_left _ hm)).keep fun id b hf hb=>by rw [keep o hm id hf];exact hb,fun o hm id hf=> ?_,a1⟩,
  ⟨without_le h l2,fun o hm=>ho.is o (List.mem_append_right _ hm),fun o hm id hf=>⟨ztv hm hf,(ho.own o (List.mem_append_right _ hm) id hf).2⟩,a2⟩⟩
 obtain ⟨b1,b2⟩:=ho.own o (List.mem_append_left _ hm) id hf
 exact ⟨b1,fun b hb=>b2 b (by rw [<- keep o hm id hf];exact hb)⟩
theorem Owns.perm {h0 h:za} {l l':List Ob} (ho:Owns h0 h l) (hp:l.Perm l'):Owns h0 h l':=
 ⟨ho.le,fun o hm=>ho.is o (hp.mem_iff.2 hm),fun o hm=>ho.own o (hp.mem_iff.2 hm),(hp.pairwise_iff fun {a b} hab id hb ha=>hab id ha hb).1 ho.apart⟩
theorem elS {bytes f:Nat} {z:AVal} {mv:Int->Int->AVal} (hc: ∀ k i,(mv k i).zc8=true) (he: ∀ k i,V.bin .eql (mv k i) (mv k i)=some (.bool true)) (hb:bytes <= 1000) (s1: ∀ (k i:Int) (h:za) (Q:zQ),Q (mv k i) h->C f [.int .i64 k,.int .i64 i] h Q):
  ztg C (opsS bytes z f) (fun k i=>[mv k i]) mv where
 pos:=Nat.one_pos
 small:=hb
 len _ _:=rfl
 zlen:=rfl
 new k i:=by simp [opsS,hc,repL]
 call:=s1
 ld hs hc hk:=by
  simp only [opsS,B.zg0] at hs ⊢
  rw [hs.cell hc];exact hk
 kpt hs hc:=⟨_,hs.cell hc⟩
 st {h x L R i c k j K} hs hown hcc hk:=by
  have hs':SlX h 1 x L R:=hs
  have hcl:c.length=1:=hs'.len c (List.mem_append_left _ (List.mem_of_getElem? hcc))
  obtain ⟨u,rfl⟩:=List.length_eq_one_iff.1 hcl
  exact hs'.st hown hcc (by omega) (hc _ _) hk
 eq hk:=by simp only [opsS,he,B.zd];exact hk
end Go.Ab
namespace Go.Ab
structure Lot where
 Id:Int
 Item:List UInt8
 From:Int
 Until:Int
 Qty:Int
 Arrived:Bool
 deriving DecidableEq
@[simp] def Lot.cs (l:Lot):List AVal:=[.int .i64 l.Id,.str l.Item,.int .i64 l.From,.int .i64 l.Until,.int .i64 l.Qty,.bool l.Arrived]
structure Part where
 Item:List UInt8
 Qty:Int
 deriving DecidableEq
@[simp] def Part.cs (u:Part):List AVal:=[.str u.Item,.int .i64 u.Qty]
def partF:Flat Part where
 cs:=Part.cs
 es:=2
 sh:=[.s,.i .i64]
 len _:=rfl
 pos:=by omega
 eq a b:=by
  cases a;cases b
  simp
theorem u8_eq (a b:UInt8):decide ((a.toNat:Int)=b.toNat)=decide (a=b):=by
 rw [decide_eq_decide]
 constructor
 ·intro h;exact UInt8.toNat_inj.1 (by omega)
 ·intro h;rw [h]
structure Line where
 Id:Int
 Item:List UInt8
 Qty:Int
 Asked:Int
 Rank:Int
 State:UInt8
 Day:Int
 Code:List UInt8
 deriving DecidableEq
@[simp] def Line.cs (u:Line):List AVal:=[.int .i64 u.Id,.str u.Item,.int .i64 u.Qty,.int .i64 u.Asked,.int .i64 u.Rank,.int .u8 (u.State.toNat:Int),.int .i64 u.Day,.str u.Code]
def bS:Scal UInt8 where
 c b:= .int .u8 b.toNat
 cell _:=rfl
 eql a b:=by rw [V.zhf,u8_eq]
 neq a b:=by rw [V.bin_neq,u8_eq]
abbrev bc:UInt8->List AVal:=bS.cs
def tS:Scal (List UInt8) where
 c b:= .str b
 cell _:=rfl
 eql a b:=by rw [V.znx]
 neq a b:=by rw [V.bin_sneq]
abbrev tc:List UInt8->List AVal:=tS.cs
theorem wrap_u8 (n:Int):IntKind.u8.wrap n=n % 256:=by
 simp [IntKind.wrap,IntKind.bits,IntKind.signed]
def byt (m:Int):UInt8:=UInt8.ofNat (m % 256).toNat
theorem byt_nat (m:Int):((byt m).toNat:Int)=m % 256:=by
 have h1:=Int.emod_nonneg m (show (256:Int)≠0 by omega)
 have h2:=Int.emod_lt_of_pos m (show (0:Int)<256 by omega)
 simp [byt]
 omega
theorem u8_byt (m:Int):IntKind.u8.wrap m=((byt m).toNat:Int):=by rw [wrap_u8,byt_nat]
theorem bin_shr {k j:IntKind} {a b:Int} (h0:0 <= b) (h1:b<k.bits):V.bin .shr (.int k a) (.int j b)=some (.int k (a.fdiv (2 ^ b.toNat))):=by
 simp only [V.bin,V.shift]
 rw [if_neg (by omega),Nat.min_eq_left (by omega)]
theorem wrap_u64 (n:Int):IntKind.u64.wrap n=n % 18446744073709551616:=by
 simp [IntKind.wrap,IntKind.bits,IntKind.signed]
theorem zuo: ∀ s:List UInt8,V.zlq (s.map bc).flatten=some s
 | []=>rfl
 | a::r=>by
  have:=zuo r
  simp only [List.map_cons,List.flatten_cons,List.cons_append,List.nil_append] at this ⊢
  simp only [V.zlq,this]
  simp [V.byteOf?,bS]
theorem bytesStr_bc {h:za} {x:AVal} {s:List UInt8} {R:List (List AVal)} (hx:SlX h 1 x (s.map bc) R) (K:AVal->Prop):(B.zf2 h x K:Prop)=K (.str s):=by
 have h1:=hx.zhy
 have h2:=hx.rdv
 rw [List.length_map] at h1 h2
 simp only [B.zf2,A.zf2,h1,h2,zuo]
abbrev tyPart:Ty:= .st [.s,.i .i64]
theorem zup {T:Type} {H:za} {bytes es:Nat} {e:Ty} {v:AVal} (cs:T->List AVal) (P:T->Prop) (hd: ∀ p,zju H e p-> ∃ t,p=cs t /\ P t) (h:zju H (.sl bytes es e) [v]):
  ∃ L:List T,SlIs H es v (L.map cs) /\ L.length*bytes <= reach /\ ∀ t∈L,P t:=by
 obtain ⟨L,h1,h2⟩:=arg_slice (T:={ t:T // P t }) (fun t=>cs t.1) (fun p hp=>by obtain ⟨t,e,k⟩:=hd p hp;exact ⟨⟨t,k⟩,e⟩) h
 refine ⟨L.map (·.1),?_,by simpa using h2,fun t ht=> ?_⟩
 ·rw [List.map_map];exact h1
 ·obtain ⟨u,_,rfl⟩:=List.mem_map.1 ht;exact u.2
def cA:Code->Code
 | .seq a _=>a
 | .cond _ a _=>a
 | .block _ b=>b
 | .loop b=>b
 | .scope b=>b
 | _=> .skip
def cB:Code->Code
 | .seq _ b=>b
 | .cond _ _ b=>b
 | _=> .skip
def cI:Code->Nat
 | .block i _=>i
 | _=>0
def isS:Code->Bool
 | .seq _ _=>true
 | _=>false
def isC (t:Nat):Code->Bool
 | .cond (.tmp k) _ _=>Nat.beq k t
 | _=>false
def isK:Code->Bool
 | .block _ _=>true
 | _=>false
def isL:Code->Bool
 | .loop _=>true
 | _=>false
section
variable {P:Program} {C:CSem} {I:Bx}
theorem eS (hC:zlw C) {c:Code} {Q:Ex->zb8->za->Prop} {s:zb8} {h:za} (X:zb8->za->Prop) (ha:bwp P C I (cA c) (Ex.then X Q) s h) (hb: ∀ s h,X s h->bwp P C I (cB c) Q s h) (hk:isS c=true:=by kernel_rfl):bwp P C I c Q s h:=by
 cases c<;>first|exact seqB hC rfl hb ha|cases hk
theorem eC {c:Code} {Q:Ex->zb8->za->Prop} {p q:Prop} {s:zb8} {h:za} (t:Nat) (hr:A.cond (s t) p q) (hx:p->bwp P C I (cA c) Q s h) (hy:q->bwp P C I (cB c) Q s h) (hk:isC t c=true:=by kernel_rfl):bwp P C I c Q s h:=by
 cases c with
 | cond o x y=>
  cases o with
  | tmp k=>
   have e:k=t:=Nat.eq_of_beq_eq_true hk
   subst e
   exact condB rfl hx hy hr
  | _=>cases hk
 | _=>cases hk
theorem eK {c:Code} {Q:Ex->zb8->za->Prop} {s:zb8} {h:za} (hb:bwp P C I (cA c) (Ex.inBlock (cI c) Q) s h) (hk:isK c=true:=by kernel_rfl):bwp P C I c Q s h:=by
 cases c<;>first|exact hb|cases hk
theorem eL (hC:zlw C) {c:Code} {Q:Ex->zb8->za->Prop} {s:zb8} {h:za} (keep live:List Nat) (G:List AVal->zG)
  (hr:zg (G (keep.map s)) (live.map s) h)
  (hG: ∀ (Y:zL) (s:zb8) (h:za),G (keep.map s) (live.map s) h Y->bwp P C I (cA c) (Ex.then (fun s h=>Y (live.map s) h) Q) s h)
  (hk:isL c=true:=by kernel_rfl) (hw:(keep.all fun k=> !memB (zhw P I (cA c)) k)=true:=by kernel_rfl):bwp P C I c Q s h:=by
 cases c<;>first|exact loopB hC keep live rfl hw hG hr|cases hk
theorem e0 {q p:Prop} (hR:p) (e:q=p:=by kernel_rfl):q:=e.mpr hR
theorem e1 {c:Code} {Q:Ex->zb8->za->Prop} {s:zb8} {h:za} {p:Prop} (hR:p) (e:bwp P C I c Q s h=p:=by kernel_rfl):bwp P C I c Q s h:=e.mpr hR
theorem eF (hm:P.follows .mixedOrders=true) {f:FuncId} {fn:Func} {c:Code} {I:Bx} {args:List AVal} {h:za} {Q:zQ}
  (hx:zlw (AC P) → bwp P (AC P) I c (retB P I fn.results.toList (dn Q)) (zcd args) h) (hf:P.funcs[f]? =some fn:=by kernel_rfl) (hb:fn.body=some c:=by kernel_rfl) (h1:(fn.name== "runtime.NumGoroutine")=false:=by kernel_rfl)
  (hc:zkl fn.ntmps c=true:=by kernel_rfl) (hne:Nat.beq f zq3=false:=by kernel_rfl) (hl:Nat.ble args.length fn.ntmps=true:=by kernel_rfl) (hB:Nat.ble args.length I.B=true:=by kernel_rfl) (hk:chkC P I c=true:=by kernel_rfl):AC P f args h Q:=
 AC_drop (AC_introB hm hf hb (zoz hf (by rw [hb];rfl) h1) hc hne (Nat.le_of_ble_eq_true hl) (Nat.le_of_ble_eq_true hB) hk (hx (AC_cmono P)))
end
@[simp] def zgw.cps (C:CSem) (N:zN) (a b:AVal) (h:za) (Q:zQ):Prop:=
 B.pv (V.bin .add a (.int .i64 7)) fun c=>
  B.pv (V.bin .mul (.int .i64 1000003) c) fun d=>
  B.pv (V.bin .add d b) fun e=>
  Q e h
def zgw.Imp (C:CSem) (N:zN):Prop:=im2 C (N 20) (zgw.cps C N)
@[simp] def ze3.k1 (C:CSem) (N:zN) (Q:zQ) (a:AVal) (h:za):Prop:=
 B.nilCheck a fun v4=>
  B.pv (V.fieldAddr 0 v4) fun v5=>
  B.ld h v5 fun v6=>
  B.call C (N 80) [v6] h fun y h=>
  B.gd h y true (fun K=>K a h) fun v9 h=>
  B.gd h y true (fun K=>B.nilCheck v9 fun v=>K v h) fun bv h=>
  B.gd h y true (fun K=>B.pv (V.fieldAddr 1 bv) fun v=>K v h) fun bw h=>
  B.gd h y true (fun K=>B.ld h bw fun v=>K v h) fun bx h=>
  B.gd h y true (fun K=>B.call C (N 81) [bx] h K) fun bz h=>
  B.pick y bz (.bool false) fun k=>
  B.gd h k true (fun K=>K a h) fun ca h=>
  B.gd h k true (fun K=>B.nilCheck ca fun v=>K v h) fun cb h=>
  B.gd h k true (fun K=>B.pv (V.fieldAddr 2 cb) fun v=>K v h) fun cc h=>
  B.gd h k true (fun K=>B.ld h cc fun v=>K v h) fun cd h=>
  B.gd h k true (fun K=>B.call C (N 82) [cd] h K) fun ce h=>
  B.pick k ce (.bool false) fun l=>
  B.gd h l true (fun K=>K a h) fun cf h=>
  B.gd h l true (fun K=>B.nilCheck cf fun v=>K v h) fun cg h=>
  B.gd h l true (fun K=>B.pv (V.fieldAddr 3 cg) fun v=>K v h) fun ch h=>
  B.gd h l true (fun K=>B.ld h ch fun v=>K v h) fun ci h=>
  B.gd h l true (fun K=>B.call C (N 83) [ci] h K) fun cj h=>
  B.pick l cj (.bool false) fun m=>
  B.gd h m true (fun K=>K a h) fun ck h=>
  B.gd h m true (fun K=>B.nilCheck ck fun v=>K v h) fun cl h=>
  B.gd h m true (fun K=>B.pv (V.fieldAddr 4 cl) fun v=>K v h) fun cm h=>
  B.gd h m true (fun K=>B.ld h cm fun v=>K v h) fun cn h=>
  B.gd h m true (fun K=>B.call C (N 84) [cn] h K) fun co h=>
  B.pick m co (.bool false) fun n=>
  B.gd h n true (fun K=>K a h) fun cp h=>
  B.gd h n true (fun K=>B.nilCheck cp fun v=>K v h) fun cq h=>
  B.gd h n true (fun K=>B.pv (V.fieldAddr 5 cq) fun v=>K v h) fun cr h=>
  B.gd h n true (fun K=>B.ld h cr fun v=>K v h) fun cs h=>
  B.gd h n true (fun K=>B.call C (N 85) [cs] h K) fun ct h=>
  B.pick n ct (.bool false) fun o=>
  B.gd h o true (fun K=>K a h) fun cu h=>
  B.gd h o true (fun K=>B.nilCheck cu fun v=>K v h) fun cv h=>
  B.gd h o true (fun K=>B.pv (V.fieldAddr 6 cv) fun v=>K v h) fun cw h=>
  B.gd h o true (fun K=>B.ld h cw fun v=>K v h) fun cx h=>
  B.gd h o true (fun K=>B.call C (N 86) [cx] h K) fun cy h=>
  B.pick o cy (.bool false) fun p=>
  B.gd h p true (fun K=>K a h) fun cz h=>
  B.gd h p true (fun K=>B.nilCheck cz fun v=>K v h) fun da h=>
  B.gd h p true (fun K=>B.pv (V.fieldAddr 7 da) fun v=>K v h) fun db h=>
  B.gd h p true (fun K=>B.ld h db fun v=>K v h) fun dc h=>
  B.gd h p true (fun K=>B.call C (N 87) [dc] h K) fun dd h=>
  B.pick p dd (.bool false) fun q=>
  B.gd h q true (fun K=>K a h) fun de h=>
  B.gd h q true (fun K=>B.nilCheck de fun v=>K v h) fun df h=>
  B.gd h q true (fun K=>B.pv (V.fieldAddr 8 df) fun v=>K v h) fun dg h=>
  B.gd h q true (fun K=>B.ld h dg fun v=>K v h) fun dh h=>
  B.gd h q true (fun K=>B.call C (N 88) [dh] h K) fun di h=>
  B.pick q di (.bool false) fun r=>
  B.gd h r true (fun K=>K a h) fun dj h=>
  B.gd h r true (fun K=>B.nilCheck dj fun v=>K v h) fun dk h=>
  B.gd h r true (fun K=>B.pv (V.fieldAddr 9 dk) fun v=>K v h) fun dl h=>
  B.gd h r true (fun K=>B.ld h dl fun v=>K v h) fun dm h=>
  B.gd h r true (fun K=>B.call C (N 89) [dm] h K) fun dn h=>
  B.pick r dn (.bool false) fun s=>
  B.gd h s true (fun K=>K a h) fun dp h=>
  B.gd h s true (fun K=>B.nilCheck dp fun v=>K v h) fun dq h=>
  B.gd h s true (fun K=>B.pv (V.fieldAddr 10 dq) fun v=>K v h) fun dr h=>
  B.gd h s true (fun K=>B.ld h dr fun v=>K v h) fun ds h=>
  B.gd h s true (fun K=>B.call C (N 90) [ds] h K) fun dt h=>
  B.pick s dt (.bool false) fun t=>
  B.gd h t true (fun K=>K a h) fun du h=>
  B.gd h t true (fun K=>B.nilCheck du fun v=>K v h) fun dv h=>
  B.gd h t true (fun K=>B.pv (V.fieldAddr 11 dv) fun v=>K v h) fun dw h=>
  B.gd h t true (fun K=>B.ld h dw fun v=>K v h) fun dx h=>
  B.gd h t true (fun K=>B.call C (N 91) [dx] h K) fun dy h=>
  B.pick t dy (.bool false) fun u=>
  B.gd h u true (fun K=>K a h) fun dz h=>
  B.gd h u true (fun K=>B.nilCheck dz fun v=>K v h) fun ea h=>
  B.gd h u true (fun K=>B.pv (V.fieldAddr 12 ea) fun v=>K v h) fun eb h=>
  B.gd h u true (fun K=>B.ld h eb fun v=>K v h) fun ec h=>
  B.gd h u true (fun K=>B.call C (N 92) [ec] h K) fun ed h=>
  B.pick u ed (.bool false) fun w=>
  B.gd h w true (fun K=>K a h) fun ee h=>
  B.gd h w true (fun K=>B.nilCheck ee fun v=>K v h) fun ef h=>
  B.gd h w true (fun K=>B.pv (V.fieldAddr 13 ef) fun v=>K v h) fun eg h=>
  B.gd h w true (fun K=>B.ld h eg fun v=>K v h) fun eh h=>
  B.gd h w true (fun K=>B.call C (N 93) [eh] h K) fun ei h=>
  B.pick w ei (.bool false) fun x=>
  B.gd h x true (fun K=>K a h) fun z h=>
  B.gd h x true (fun K=>B.nilCheck z fun v=>K v h) fun aa h=>
  B.gd h x true (fun K=>B.pv (V.fieldAddr 14 aa) fun v=>K v h) fun ab h=>
  B.gd h x true (fun K=>B.ld h ab fun v=>K v h) fun ac h=>
  B.gd h x true (fun K=>B.call C (N 94) [ac] h K) fun ad h=>
  B.pick x ad (.bool false) fun b=>
  B.gd h b true (fun K=>K a h) fun ae h=>
  B.gd h b true (fun K=>B.nilCheck ae fun v=>K v h) fun af h=>
  B.gd h b true (fun K=>B.pv (V.fieldAddr 15 af) fun v=>K v h) fun ag h=>
  B.gd h b true (fun K=>B.ld h ag fun v=>K v h) fun ah h=>
  B.gd h b true (fun K=>B.call C (N 95) [ah] h K) fun ai h=>
  B.pick b ai (.bool false) fun c=>
  B.gd h c true (fun K=>K a h) fun aj h=>
  B.gd h c true (fun K=>B.nilCheck aj fun v=>K v h) fun ak h=>
  B.gd h c true (fun K=>B.pv (V.fieldAddr 16 ak) fun v=>K v h) fun al h=>
  B.gd h c true (fun K=>B.ld h al fun v=>K v h) fun am h=>
  B.gd h c true (fun K=>B.call C (N 96) [am] h K) fun an h=>
  B.pick c an (.bool false) fun d=>
  B.gd h d true (fun K=>K a h) fun ao h=>
  B.gd h d true (fun K=>B.nilCheck ao fun v=>K v h) fun ap h=>
  B.gd h d true (fun K=>B.pv (V.fieldAddr 17 ap) fun v=>K v h) fun aq h=>
  B.gd h d true (fun K=>B.ld h aq fun v=>K v h) fun ar h=>
  B.gd h d true (fun K=>B.call C (N 97) [ar] h K) fun au h=>
  B.pick d au (.bool false) fun e=>
  B.gd h e true (fun K=>K a h) fun av h=>
  B.gd h e true (fun K=>B.nilCheck av fun v=>K v h) fun aw h=>
  B.gd h e true (fun K=>B.pv (V.fieldAddr 18 aw) fun v=>K v h) fun ax h=>
  B.gd h e true (fun K=>B.ld h ax fun v=>K v h) fun ay h=>
  B.gd h e true (fun K=>B.call C (N 98) [ay] h K) fun az h=>
  B.pick e az (.bool false) fun f=>
  B.gd h f true (fun K=>K a h) fun ba h=>
  B.gd h f true (fun K=>B.nilCheck ba fun v=>K v h) fun bb h=>
  B.gd h f true (fun K=>B.pv (V.fieldAddr 19 bb) fun v=>K v h) fun bc h=>
  B.gd h f true (fun K=>B.ld h bc fun v=>K v h) fun bd h=>
  B.gd h f true (fun K=>B.call C (N 99) [bd] h K) fun be h=>
  B.pick f be (.bool false) fun g=>
  B.gd h g true (fun K=>K a h) fun bf h=>
  B.gd h g true (fun K=>B.nilCheck bf fun v=>K v h) fun bg h=>
  B.gd h g true (fun K=>B.pv (V.fieldAddr 20 bg) fun v=>K v h) fun bh h=>
  B.gd h g true (fun K=>B.ld h bh fun v=>K v h) fun bi h=>
  B.gd h g true (fun K=>B.call C (N 100) [bi] h K) fun bj h=>
  B.pick g bj (.bool false) fun i=>
  B.gd h i true (fun K=>K a h) fun bk h=>
  B.gd h i true (fun K=>B.nilCheck bk fun v=>K v h) fun bl h=>
  B.gd h i true (fun K=>B.pv (V.fieldAddr 21 bl) fun v=>K v h) fun bm h=>
  B.gd h i true (fun K=>B.ld h bm fun v=>K v h) fun bn h=>
  B.gd h i true (fun K=>B.call C (N 101) [bn] h K) fun bo h=>
  B.pick i bo (.bool false) fun j=>
  B.gd h j true (fun K=>K a h) fun bp h=>
  B.gd h j true (fun K=>B.nilCheck bp fun v=>K v h) fun bq h=>
  B.gd h j true (fun K=>B.pv (V.fieldAddr 22 bq) fun v=>K v h) fun br h=>
  B.gd h j true (fun K=>B.ld h br fun v=>K v h) fun bs h=>
  B.gd h j true (fun K=>B.call C (N 102) [bs] h K) fun bt h=>
  B.pick j bt (.bool false) fun bu=>
  Q bu h
@[simp] def ze3.cps (C:CSem) (N:zN) (a:AVal) (h:za) (Q:zQ):Prop:=
 ze3.k1 C N Q a h
def ze3.Imp (C:CSem) (N:zN):Prop:=im1 C (N 62) (ze3.cps C N)
def zfl.cps (C:CSem) (N:zN) (a:AVal) (h:za) (Q:zQ):Prop:=
 zg (z6.l103 (opsS 16 (.str []) (N 106)) C Q a) [(.int .i64 0)] h
def zfl.Imp (C:CSem) (N:zN):Prop:=im1 C (N 83) (zfl.cps C N)
def zfy.cps (C:CSem) (N:zN) (a:AVal) (h:za) (Q:zQ):Prop:=
 zg (z6.l103 (opsS 1 (.int .u8 0) (N 64)) C Q a) [(.int .i64 0)] h
def zfy.Imp (C:CSem) (N:zN):Prop:=im1 C (N 84) (zfy.cps C N)
def zbb.cps (C:CSem) (N:zN) (a:AVal) (h:za) (Q:zQ):Prop:=
 zg (z6.l103 (opsF 2 16 [.int .i64 0,.int .i64 0] (N 18) [.i .i64,.i .i64]) C Q a) [(.int .i64 0)] h
def zbb.Imp (C:CSem) (N:zN):Prop:=im1 C (N 85) (zbb.cps C N)
def zb5.cps (C:CSem) (N:zN) (a:AVal) (h:za) (Q:zQ):Prop:=
 zg (z6.l103 (opsF 6 56 [.int .i64 0,.str [],.int .i64 0,.int .i64 0,.int .i64 0,.bool false] (N 77) [.i .i64,.s,.i .i64,.i .i64,.i .i64,.b]) C Q a) [(.int .i64 0)] h
def zb5.Imp (C:CSem) (N:zN):Prop:=im1 C (N 86) (zb5.cps C N)
def zbq.cps (C:CSem) (N:zN) (a:AVal) (h:za) (Q:zQ):Prop:=
 zg (z6.l103 (opsF 3 32 [.str [],.int .i64 0,.int .i64 0] (N 107) [.s,.i .i64,.i .i64]) C Q a) [(.int .i64 0)] h
def zbq.Imp (C:CSem) (N:zN):Prop:=im1 C (N 87) (zbq.cps C N)
def zb4.cps (C:CSem) (N:zN) (a:AVal) (h:za) (Q:zQ):Prop:=
 zg (z6.l103 (opsF 3 24 [.int .i64 0,.int .i64 0,.int .i64 0] (N 78) [.i .i64,.i .i64,.i .i64]) C Q a) [(.int .i64 0)] h
def zb4.Imp (C:CSem) (N:zN):Prop:=im1 C (N 88) (zb4.cps C N)
def zbr.cps (C:CSem) (N:zN) (a:AVal) (h:za) (Q:zQ):Prop:=
 zg (z6.l103 (opsF 2 24 [.str [],.int .i64 0] (N 108) [.s,.i .i64]) C Q a) [(.int .i64 0)] h
def zbr.Imp (C:CSem) (N:zN):Prop:=im1 C (N 89) (zbr.cps C N)
def zbs.cps (C:CSem) (N:zN) (a:AVal) (h:za) (Q:zQ):Prop:=
 zg (z6.l103 (opsF 8 80 [.int .i64 0,.str [],.int .i64 0,.int .i64 0,.int .i64 0,.int .u8 0,.int .i64 0,.str []] (N 111) [.i .i64,.s,.i .i64,.i .i64,.i .i64,.i .u8,.i .i64,.s]) C Q a) [(.int .i64 0)] h
def zbs.Imp (C:CSem) (N:zN):Prop:=im1 C (N 91) (zbs.cps C N)
@[simp] def zec.k1 (C:CSem) (N:zN) (Q:zQ) (a b:AVal) (h:za):Prop:=
 B.pv (V.toInt .u8 a) fun m=>
  B.pv (V.bin .shr a (.int .u64 8)) fun n=>
  B.pv (V.toInt .u8 n) fun o=>
  B.pv (V.bin .shr a (.int .u64 16)) fun c=>
  B.pv (V.toInt .u8 c) fun d=>
  B.pv (V.toInt .u8 b) fun e=>
  B.pv (V.bin .shr b (.int .u64 8)) fun f=>
  B.pv (V.toInt .u8 f) fun g=>
  B.pv (V.bin .shr b (.int .u64 16)) fun i=>
  B.pv (V.toInt .u8 i) fun j=>
  B.newO h (ze2 [(0,none,(.int .u8 35)),(1,none,m),(2,none,o),(3,none,d),(4,none,(.int .u8 47)),(5,none,e),(6,none,g),(7,none,j)] (repL 8 [.int .u8 0])) fun k h=>
  B.zf2 h (.sl k 0 0 8 1 8) fun l=>
  Q l h
@[simp] def zec.cps (C:CSem) (N:zN) (a b:AVal) (h:za) (Q:zQ):Prop:=
 zec.k1 C N Q a b h
def zec.Imp (C:CSem) (N:zN):Prop:=im2 C (N 106) (zec.cps C N)
@[simp] def zel.k1 (C:CSem) (N:zN) (Q:zQ) (a b:AVal) (h:za):Prop:=
 B.call C (N 20) [a,b] h fun c h=>
  B.pv (A.bld [(1,none,c)] [.str [],.int .i64 0]) fun d=>
  B.pv (V.setN 0 2 d (.agg [.str [],.int .i64 0])) fun e=>
  B.pv (oneOf (zm3 (V.zgf 0 2 e) (some []))) fun v=>Q v h
@[simp] def zel.cps (C:CSem) (N:zN) (a b:AVal) (h:za) (Q:zQ):Prop:=
 zel.k1 C N Q a b h
def zel.Imp (C:CSem) (N:zN):Prop:=im2 C (N 108) (zel.cps C N)
@[simp] def zem.k1 (C:CSem) (N:zN) (Q:zQ) (a b:AVal) (h:za):Prop:=
 B.call C (N 20) [a,b] h fun c h=>
  B.pv (A.bld [(1,none,c)] [.str [],.int .i64 0,.nils,.nils]) fun d=>
  B.pv (V.setN 0 4 d (.agg [.str [],.int .i64 0,.nils,.nils])) fun e=>
  B.pv (oneOf (zm3 (V.zgf 0 4 e) (some []))) fun v=>Q v h
@[simp] def zem.cps (C:CSem) (N:zN) (a b:AVal) (h:za) (Q:zQ):Prop:=
 zem.k1 C N Q a b h
def zem.Imp (C:CSem) (N:zN):Prop:=im2 C (N 109) (zem.cps C N)
@[simp] def zes.k1 (C:CSem) (N:zN) (Q:zQ) (q r:AVal) (h:za):Prop:=
 B.pv (A.boxN 4 q) fun c=>
  B.pv (A.boxN 4 r) fun d=>
  B.al c (B.pv (V.zd2 0 c) fun s=>
  B.al d (B.pv (V.zd2 0 d) fun t=>
  B.pv (V.bin .eql s t) fun e=>
  B.al c (B.gd h e true (fun K=>K .undef h) fun _ h=>
  B.gd h e true (fun K=>B.pv (V.zd2 1 c) fun v=>K v h) fun f h=>
  B.al d (B.gd h e true (fun K=>K .undef h) fun _ h=>
  B.gd h e true (fun K=>B.pv (V.zd2 1 d) fun v=>K v h) fun g h=>
  B.gd h e true (fun K=>B.pv (V.bin .eql f g) fun v=>K v h) fun i h=>
  B.pick e i (.bool false) fun a=>
  B.al c (B.gd h a true (fun K=>K .undef h) fun _ h=>
  B.gd h a true (fun K=>B.pv (V.zd2 2 c) fun v=>K v h) fun j h=>
  B.al d (B.gd h a true (fun K=>K .undef h) fun _ h=>
  B.gd h a true (fun K=>B.pv (V.zd2 2 d) fun v=>K v h) fun k h=>
  B.gd h a true (fun K=>B.call C (N 132) [j,k] h K) fun l h=>
  B.pick a l (.bool false) fun b=>
  B.al c (B.gd h b true (fun K=>K .undef h) fun _ h=>
  B.gd h b true (fun K=>B.pv (V.zd2 3 c) fun v=>K v h) fun m h=>
  B.al d (B.gd h b true (fun K=>K .undef h) fun _ h=>
  B.gd h b true (fun K=>B.pv (V.zd2 3 d) fun v=>K v h) fun n h=>
  B.gd h b true (fun K=>B.call C (N 133) [m,n] h K) fun o h=>
  B.pick b o (.bool false) fun p=>
  Q p h))))))))
@[simp] def zes.cps (C:CSem) (N:zN) (a b:AVal) (h:za) (Q:zQ):Prop:=
 zes.k1 C N Q a b h
def zes.Imp (C:CSem) (N:zN):Prop:=im2 C (N 110) (zes.cps C N)
@[simp] def zd7.k3 (C:CSem) (N:zN) (Q:zQ) (a b:AVal) (h:za):Prop:=
 B.pv (V.zbj a) fun d=>
  B.pv (V.zbj b) fun e=>
  B.pv (V.bin .neq d e) fun c=>
  B.cond c
  (Q (.bool false) h)
  (zg (ztj.l4 2 [.s,.i .i64] Q a b) [(.int .i64 0)] h)
def zd7.cps (C:CSem) (N:zN) (a b:AVal) (h:za) (Q:zQ):Prop:=
 zd7.k3 C N Q a b h
def zd7.Imp (C:CSem) (N:zN):Prop:=im2 C (N 132) (zd7.cps C N)
@[simp] def zdw.k3 (C:CSem) (N:zN) (Q:zQ) (a b:AVal) (h:za):Prop:=
 B.pv (V.zbj a) fun d=>
  B.pv (V.zbj b) fun e=>
  B.pv (V.bin .neq d e) fun c=>
  B.cond c
  (Q (.bool false) h)
  (zg (zti.l4  Q a b) [(.int .i64 0)] h)
def zdw.cps (C:CSem) (N:zN) (a b:AVal) (h:za) (Q:zQ):Prop:=
 zdw.k3 C N Q a b h
def zdw.Imp (C:CSem) (N:zN):Prop:=im2 C (N 133) (zdw.cps C N)
@[simp] def zd9.k3 (C:CSem) (N:zN) (Q:zQ) (a:AVal) (h:za):Prop:=
 B.pv (V.zbj a) fun c=>
  B.pv (V.bin .add c (.int .i64 12)) fun d=>
  0<2 /\ B.mks h 24 (some [.str [],.int .i64 0]) (.int .i64 0) d fun e h=>
  B.appW h 2 24 e a fun b h=>
  zg (zs7.l4 C 2 24 (N 108) [.str [],.int .i64 0] 1 Q a) [b,(.int .i64 0)] h
def zd9.cps (C:CSem) (N:zN) (a:AVal) (h:za) (Q:zQ):Prop:=
 zd9.k3 C N Q a h
def zd9.Imp (C:CSem) (N:zN):Prop:=im1 C (N 319) (zd9.cps C N)
@[simp] def zdx.k3 (C:CSem) (N:zN) (Q:zQ) (e a:AVal) (h:za):Prop:=
 B.pv (V.zbj a) fun b=>
  B.pv (V.bin .add b (.int .i64 12)) fun c=>
  B.pv (V.zgp 2 e none (some c)) fun d=>
  zg (ztn.l4 C 2 (N 108) [.s,.i .i64] 1 Q a d) [(.int .i64 0)] h
@[simp] def zdx.k4 (C:CSem) (N:zN) (Q:zQ) (a b:AVal) (h:za):Prop:=
 B.pv (V.zbj a) fun e=>
  B.pv (V.zbj b) fun c=>
  B.pv (V.bin .neq e c) fun d=>
  B.cond d
  (Q (.bool false) h)
  (zdx.k3 C N Q a b h)
def zdx.cps (C:CSem) (N:zN) (a b:AVal) (h:za) (Q:zQ):Prop:=
 zdx.k4 C N Q a b h
def zdx.Imp (C:CSem) (N:zN):Prop:=im2 C (N 324) (zdx.cps C N)
@[simp] def zcq.k1 (C:CSem) (N:zN) (Q:zQ) (Y1:zL) (k b a:AVal) (h:za):Prop:=
 B.pv (V.bin .lss a (.int .i64 12)) fun c=>
  B.cond c
  (B.call C (N 109) [(.int .i64 1),a] h fun d h=>
  B.newO h (ze2 [(0,some 4,d)] (repL 1 [.str [],.int .i64 0,.nils,.nils])) fun e h=>
  B.appW h 4 72 b (.sl e 0 0 1 4 1) fun f h=>
  B.pv (V.bin .add a (.int .i64 1)) fun g=>
  Y1 [f,g] h)
  (B.pv (V.zbj k) fun i=>
  B.pv (V.zgp 4 b none (some i)) fun j=>
  Q j h)
@[simp] def zcq.l2 (C:CSem) (N:zN) (Q:zQ) (a:AVal):zG
 | [b,c],h,Y1=>zcq.k1 C N Q Y1 a b c h
 | _,_,_=>False
@[simp] def zcq.k3 (C:CSem) (N:zN) (Q:zQ) (Y2:zL) (a c b:AVal) (h:za):Prop:=
 B.pv (V.zbj a) fun d=>
  B.pv (V.bin .lss b d) fun e=>
  B.cond e
  (B.pv (V.idxS 4 a b) fun f=>
  B.ldn h f 4 fun g=>
  B.call C (N 399) [g] h fun i h=>
  B.pv (V.setN 0 4 i (.agg [.str [],.int .i64 0,.nils,.nils])) fun n=>
  B.pv (V.zgf 0 4 n) fun j=>
  B.newO h (ze2 [(0,some 4,j)] (repL 1 [.str [],.int .i64 0,.nils,.nils])) fun k h=>
  B.appW h 4 72 c (.sl k 0 0 1 4 1) fun l h=>
  B.pv (V.bin .add b (.int .i64 1)) fun m=>
  Y2 [l,m] h)
  (zg (zcq.l2 C N Q a) [c,(.int .i64 0)] h)
@[simp] def zcq.l4 (C:CSem) (N:zN) (Q:zQ) (a:AVal):zG
 | [b,c],h,Y2=>zcq.k3 C N Q Y2 a b c h
 | _,_,_=>False
@[simp] def zcq.k5 (C:CSem) (N:zN) (Q:zQ) (a:AVal) (h:za):Prop:=
 B.pv (V.zbj a) fun c=>
  B.pv (V.bin .add c (.int .i64 12)) fun d=>
  0<4 /\ B.mks h 72 (some [.str [],.int .i64 0,.nils,.nils]) (.int .i64 0) d fun b h=>
  zg (zcq.l4 C N Q a) [b,(.int .i64 0)] h
@[simp] def zcq.cps (C:CSem) (N:zN) (a:AVal) (h:za) (Q:zQ):Prop:=
 zcq.k5 C N Q a h
def zcq.Imp (C:CSem) (N:zN):Prop:=im1 C (N 391) (zcq.cps C N)
@[simp] def zc6.k1 (C:CSem) (N:zN) (Q:zQ) (Y1:zL) (e g d:AVal) (h:za):Prop:=
 B.pv (V.zbj g) fun i=>
  B.pv (V.bin .lss d i) fun j=>
  B.cond j
  (B.pv (V.zbj e) fun k=>
  B.pv (V.bin .lss d k) fun b=>
  B.gd h b true (fun K=>K g h) fun l h=>
  B.gd h b true (fun K=>K d h) fun m h=>
  B.gd h b true (fun K=>B.pv (V.idxS 4 l m) fun v=>K v h) fun n h=>
  B.gd h b true (fun K=>B.ldn h n 4 fun v=>K v h) fun o h=>
  B.gd h b true (fun K=>K e h) fun p h=>
  B.gd h b true (fun K=>K d h) fun q h=>
  B.gd h b true (fun K=>B.pv (V.idxS 4 p q) fun v=>K v h) fun r h=>
  B.gd h b true (fun K=>B.ldn h r 4 fun v=>K v h) fun s h=>
  B.gd h b true (fun K=>B.call C (N 400) [o,s] h K) fun t h=>
  B.gd h b true (fun K=>B.pv (V.un .not t) fun v=>K v h) fun u h=>
  B.pick b u (.bool false) fun c=>
  B.gd h c false (fun K=>K d h) fun w h=>
  B.gd h c false (fun K=>K e h) fun x h=>
  B.gd h c false (fun K=>B.pv (V.zbj x) fun v=>K v h) fun y h=>
  B.gd h c false (fun K=>B.pv (V.bin .geq w y) fun v=>K v h) fun z h=>
  B.gd h c false (fun K=>K z h) fun a h=>
  B.gd h a true (fun K=>K g h) fun aa h=>
  B.gd h a true (fun K=>K d h) fun ab h=>
  B.gd h a true (fun K=>B.pv (V.idxS 4 aa ab) fun v=>K v h) fun f h=>
  B.gd h a true (fun K=>B.ldn h f 4 fun v=>K v h) fun ac h=>
  B.gd h a true (fun K=>K d h) fun ad h=>
  B.gd h a true (fun K=>K e h) fun ae h=>
  B.gd h a true (fun K=>B.pv (V.zbj ae) fun v=>K v h) fun af h=>
  B.gd h a true (fun K=>B.pv (V.bin .sub ad af) fun v=>K v h) fun ag h=>
  B.gd h a true (fun K=>B.call C (N 109) [(.int .i64 1),ag] h (B.zm2 h [(f,some 4)] K)) fun ah h=>
  B.gd h a true (fun K=>B.call C (N 110) [ac,ah] h K) fun ai h=>
  B.gd h a true (fun K=>B.pv (V.un .not ai) fun v=>K v h) fun aj h=>
  B.gd h c false (fun K=>B.pick a aj (.bool false) fun v=>K v h) fun ak h=>
  B.pick c (.bool true) ak fun al=>
  B.cond al
  (Q (.bool false) h)
  (B.pv (V.bin .add d (.int .i64 1)) fun am=>
  Y1 [am] h))
  (Q (.bool true) h)
@[simp] def zc6.l2 (C:CSem) (N:zN) (Q:zQ) (a b:AVal):zG
 | [c],h,Y1=>zc6.k1 C N Q Y1 a b c h
 | _,_,_=>False
@[simp] def zc6.k3 (C:CSem) (N:zN) (Q:zQ) (e a:AVal) (h:za):Prop:=
 B.pv (V.zbj a) fun b=>
  B.pv (V.bin .add b (.int .i64 12)) fun c=>
  B.pv (V.zgp 4 e none (some c)) fun d=>
  zg (zc6.l2 C N Q a d) [(.int .i64 0)] h
@[simp] def zc6.k4 (C:CSem) (N:zN) (Q:zQ) (a b:AVal) (h:za):Prop:=
 B.pv (V.zbj a) fun e=>
  B.pv (V.zbj b) fun c=>
  B.pv (V.bin .neq e c) fun d=>
  B.cond d
  (Q (.bool false) h)
  (zc6.k3 C N Q a b h)
@[simp] def zc6.cps (C:CSem) (N:zN) (a b:AVal) (h:za) (Q:zQ):Prop:=
 zc6.k4 C N Q a b h
def zc6.Imp (C:CSem) (N:zN):Prop:=im2 C (N 392) (zc6.cps C N)
@[simp] def zcu.k1 (C:CSem) (N:zN) (Q:zQ) (Y1:zL) (b a:AVal) (h:za):Prop:=
 B.pv (V.zbj b) fun c=>
  B.pv (V.bin .lss a c) fun d=>
  B.cond d
  (B.call C (N 109) [(.int .i64 2),a] h fun e h=>
  B.pv (V.idxS 4 b a) fun f=>
  B.stn h f 4 e fun h=>
  B.pv (V.bin .add a (.int .i64 1)) fun g=>
  Y1 [g] h)
  (Q (.tup []) h)
@[simp] def zcu.l2 (C:CSem) (N:zN) (Q:zQ) (a:AVal):zG
 | [b],h,Y1=>zcu.k1 C N Q Y1 a b h
 | _,_,_=>False
@[simp] def zcu.k3 (C:CSem) (N:zN) (Q:zQ) (a:AVal) (h:za):Prop:=
 B.pv (V.zbj a) fun b=>
  B.pv (V.bin .add b (.int .i64 12)) fun c=>
  B.pv (V.zgp 4 a none (some c)) fun d=>
  zg (zcu.l2 C N Q d) [(.int .i64 0)] h
@[simp] def zcu.k4 (C:CSem) (N:zN) (Q:zQ) (Y2:zL) (a b:AVal) (h:za):Prop:=
 B.pv (V.zbj a) fun f=>
  B.pv (V.bin .lss b f) fun g=>
  B.cond g
  (B.pv (V.idxS 4 a b) fun c=>
  B.ldn h c 4 fun d=>
  B.call C (N 401) [d] h fun i h=>
  B.pv (V.bin .add b (.int .i64 1)) fun e=>
  Y2 [e] h)
  (zcu.k3 C N Q a h)
@[simp] def zcu.l5 (C:CSem) (N:zN) (Q:zQ) (a:AVal):zG
 | [b],h,Y2=>zcu.k4 C N Q Y2 a b h
 | _,_,_=>False
@[simp] def zcu.cps (C:CSem) (N:zN) (a:AVal) (h:za) (Q:zQ):Prop:=
 zg (zcu.l5 C N Q a) [(.int .i64 0)] h
def zcu.Imp (C:CSem) (N:zN):Prop:=im1 C (N 393) (zcu.cps C N)
@[simp] def zdo.k1 (C:CSem) (N:zN) (Q:zQ) (Y1:zL) (b c a:AVal) (h:za):Prop:=
 B.pv (V.zbj b) fun j=>
  B.pv (V.bin .lss a j) fun d=>
  B.cond d
  (B.pv (V.idxS 1 b a) fun e=>
  B.ld h e fun f=>
  B.call C (N 405) [c,f] h fun k h=>
  B.pv (V.bin .add a (.int .i64 1)) fun g=>
  Y1 [g] h)
  (B.call C (N 62) [c] h fun i h=>
  Q i h)
@[simp] def zdo.l2 (C:CSem) (N:zN) (Q:zQ) (a b:AVal):zG
 | [c],h,Y1=>zdo.k1 C N Q Y1 a b c h
 | _,_,_=>False
@[simp] def zdo.k3 (C:CSem) (N:zN) (Q:zQ) (a:AVal) (h:za):Prop:=
 B.pv (A.bld [] [.nils,.nils,.nils,.nils,.nils,.nils,.nils,.nils,.nils,.nils,.nils,.nils,.nils,.nils,.nils,.nils,.nils,.nils,.nils,.nils,.nils,.nils,.nils]) fun b=>
  B.newO h (A.znh 23 b) fun c h=>
  zg (zdo.l2 C N Q a (.ptr c 0 0)) [(.int .i64 0)] h
@[simp] def zdo.cps (C:CSem) (N:zN) (a:AVal) (h:za) (Q:zQ):Prop:=
 zdo.k3 C N Q a h
def zdo.Imp (C:CSem) (N:zN):Prop:=im1 C (N 396) (zdo.cps C N)
@[simp] def zew.k1 (C:CSem) (N:zN) (Q:zQ) (c:AVal) (h:za):Prop:=
 B.pv (A.boxN 4 c) fun a=>
  B.al a (B.pv (V.zd2 2 a) fun d=>
  B.call C (N 319) [d] h fun e h=>
  B.al a (B.pv (V.setF 2 e a) fun a=>
  B.al a (B.pv (V.zd2 3 a) fun f=>
  B.call C (N 406) [f] h fun g h=>
  B.al a (B.pv (V.setF 3 g a) fun a=>
  B.pv (V.zgf 0 4 a) fun b=>
  B.pv (V.setN 0 4 b (.agg [.str [],.int .i64 0,.nils,.nils])) fun i=>
  B.pv (oneOf (zm3 (V.zgf 0 4 i) (some []))) fun v=>Q v h))))
@[simp] def zew.cps (C:CSem) (N:zN) (a:AVal) (h:za) (Q:zQ):Prop:=
 zew.k1 C N Q a h
def zew.Imp (C:CSem) (N:zN):Prop:=im1 C (N 399) (zew.cps C N)
@[simp] def zex.k1 (C:CSem) (N:zN) (Q:zQ) (m n:AVal) (h:za):Prop:=
 B.pv (A.boxN 4 m) fun c=>
  B.pv (A.boxN 4 n) fun d=>
  B.pv (V.zgf 0 4 c) fun o=>
  B.pv (V.zgf 0 4 d) fun p=>
  B.call C (N 110) [o,p] h fun b h=>
  B.al c (B.gd h b true (fun K=>K .undef h) fun _ h=>
  B.gd h b true (fun K=>B.pv (V.zd2 2 c) fun v=>K v h) fun e h=>
  B.al d (B.gd h b true (fun K=>K .undef h) fun _ h=>
  B.gd h b true (fun K=>B.pv (V.zd2 2 d) fun v=>K v h) fun f h=>
  B.gd h b true (fun K=>B.call C (N 324) [e,f] h K) fun g h=>
  B.pick b g (.bool false) fun a=>
  B.al c (B.gd h a true (fun K=>K .undef h) fun _ h=>
  B.gd h a true (fun K=>B.pv (V.zd2 3 c) fun v=>K v h) fun i h=>
  B.al d (B.gd h a true (fun K=>K .undef h) fun _ h=>
  B.gd h a true (fun K=>B.pv (V.zd2 3 d) fun v=>K v h) fun j h=>
  B.gd h a true (fun K=>B.call C (N 407) [i,j] h K) fun k h=>
  B.pick a k (.bool false) fun l=>
  Q l h))))
@[simp] def zex.cps (C:CSem) (N:zN) (a b:AVal) (h:za) (Q:zQ):Prop:=
 zex.k1 C N Q a b h
def zex.Imp (C:CSem) (N:zN):Prop:=im2 C (N 400) (zex.cps C N)
@[simp] def zev.k1 (C:CSem) (N:zN) (Q:zQ) (b:AVal) (h:za):Prop:=
 B.pv (A.boxN 4 b) fun a=>
  B.al a (B.pv (V.zd2 2 a) fun c=>
  B.call C (N 408) [c] h fun e h=>
  B.al a (B.pv (V.zd2 3 a) fun d=>
  B.call C (N 409) [d] h fun f h=>
  Q (.tup []) h))
@[simp] def zev.cps (C:CSem) (N:zN) (a:AVal) (h:za) (Q:zQ):Prop:=
 zev.k1 C N Q a h
def zev.Imp (C:CSem) (N:zN):Prop:=im1 C (N 401) (zev.cps C N)
@[simp] def zeb.k1 (C:CSem) (N:zN) (Q:zQ) (a f:AVal) (h:za):Prop:=
 B.nilCheck a fun g=>
  B.pv (V.fieldAddr 3 g) fun i=>
  B.ld h i fun j=>
  B.newO h (ze2 [(0,none,f)] (repL 1 [.nils])) fun b h=>
  B.appW h 1 24 j (.sl b 0 0 1 1 1) fun c h=>
  B.nilCheck a fun d=>
  B.pv (V.fieldAddr 3 d) fun e=>
  B.st h e c fun h=>
  Q (.tup []) h
@[simp] def zeb.cps (C:CSem) (N:zN) (a b:AVal) (h:za) (Q:zQ):Prop:=
 zeb.k1 C N Q a b h
def zeb.Imp (C:CSem) (N:zN):Prop:=im2 C (N 405) (zeb.cps C N)
@[simp] def zd3.k3 (C:CSem) (N:zN) (Q:zQ) (a:AVal) (h:za):Prop:=
 B.pv (V.zbj a) fun c=>
  B.pv (V.bin .add c (.int .i64 12)) fun d=>
  0<1 /\ B.mks h 16 (some [.str []]) (.int .i64 0) d fun e h=>
  B.appW h 1 16 e a fun b h=>
  zg (zro.l4 C 16 (N 106) (.str []) 1 Q a) [b,(.int .i64 0)] h
def zd3.cps (C:CSem) (N:zN) (a:AVal) (h:za) (Q:zQ):Prop:=
 zd3.k3 C N Q a h
def zd3.Imp (C:CSem) (N:zN):Prop:=im1 C (N 406) (zd3.cps C N)
@[simp] def zdt.k3 (C:CSem) (N:zN) (Q:zQ) (e a:AVal) (h:za):Prop:=
 B.pv (V.zbj a) fun b=>
  B.pv (V.bin .add b (.int .i64 12)) fun c=>
  B.pv (V.zgp 1 e none (some c)) fun d=>
  zg (zs8.l4 C (N 106) 1 Q a d) [(.int .i64 0)] h
@[simp] def zdt.k4 (C:CSem) (N:zN) (Q:zQ) (a b:AVal) (h:za):Prop:=
 B.pv (V.zbj a) fun e=>
  B.pv (V.zbj b) fun c=>
  B.pv (V.bin .neq e c) fun d=>
  B.cond d
  (Q (.bool false) h)
  (zdt.k3 C N Q a b h)
def zdt.cps (C:CSem) (N:zN) (a b:AVal) (h:za) (Q:zQ):Prop:=
 zdt.k4 C N Q a b h
def zdt.Imp (C:CSem) (N:zN):Prop:=im2 C (N 407) (zdt.cps C N)
@[simp] def zeg.k3 (C:CSem) (N:zN) (Q:zQ) (a:AVal) (h:za):Prop:=
 B.pv (V.zbj a) fun b=>
  B.pv (V.bin .add b (.int .i64 12)) fun c=>
  B.pv (V.zgp 2 a none (some c)) fun d=>
  zg (zpf.l3 C 2 (N 108) (fun h p v K=>B.stn h p 2 v K) 2 Q d) [(.int .i64 0)] h
def zeg.cps (C:CSem) (N:zN) (a:AVal) (h:za) (Q:zQ):Prop:=
 zeg.k3 C N Q a h
def zeg.Imp (C:CSem) (N:zN):Prop:=im1 C (N 408) (zeg.cps C N)
@[simp] def zd8.k3 (C:CSem) (N:zN) (Q:zQ) (a:AVal) (h:za):Prop:=
 B.pv (V.zbj a) fun b=>
  B.pv (V.bin .add b (.int .i64 12)) fun c=>
  B.pv (V.zgp 1 a none (some c)) fun d=>
  zg (zpf.l3 C 1 (N 106) (fun h p v K=>B.st h p v K) 2 Q d) [(.int .i64 0)] h
def zd8.cps (C:CSem) (N:zN) (a:AVal) (h:za) (Q:zQ):Prop:=
 zd8.k3 C N Q a h
def zd8.Imp (C:CSem) (N:zN):Prop:=im1 C (N 409) (zd8.cps C N)
end Go.Ab
set_option maxRecDepth 100000
namespace Go.Ab
variable {C:CSem} {N:zN}
@[irreducible] def mark (k i:Int):Int:=IntKind.i64.wrap (IntKind.i64.wrap (1000003*IntKind.i64.wrap (k+7))+i)
def zgw.Spec (C:CSem) (N:zN):Prop:= ∀ (k i:Int) (h:za) (Q:zQ),Q (.int .i64 (mark k i)) h->C (N 20) [.int .i64 k,.int .i64 i] h Q
theorem zgw.spec (i:zgw.Imp C N):zgw.Spec C N:=by
 intro k j h Q hq
 apply i
 simp +contextual -dsimp
 unfold mark at hq
 exact zbe hq
structure LL where
 x:AVal
 n:Nat
 xs:Nat->AVal
 D:Nat->List (List AVal)
 R:Nat->List (List AVal)
 W:List (List AVal)
def LL.obs (es:Nat) (t:LL):List Ob:=Objs es t.n t.xs t.D t.R
structure LL.ok (t:LL) (h0:za):Prop where
 is:SlX h0 1 t.x (zh5 t.n fun j=>[t.xs j]) t.W
 n_le:t.n <= 100000000
 zua: ∀ j,j<t.n->(t.D j).length <= 100000000
def zms (C:CSem) (es g:Nat):Prop:= ∀ (t:LL) (h0 h:za) (Q:zQ),t.ok h0->Owns h0 h (t.obs es)->(∀ h',h0.le h'->Q (.bool true) h')->C g [t.x] h Q
def zek (C:CSem) (g:Nat):Prop:= ∀ (x:AVal) (W:List (List AVal)) (h0 h:za) (Q:zQ),SlX h0 1 x [] W->h0.le h->(∀ h',h0.le h'->Q (.bool true) h')->C g [x] h Q
theorem zg.once {F:zG} {vs:List AVal} {h:za} (hF: ∀ Y,F vs h Y):zg F vs h:=fun Y hY=>hY vs h (hF Y)
theorem flatG_nil {E:zx} {x:AVal} {W:List (List AVal)} {h0 h:za} {Q:zQ} (hx:SlX h0 1 x [] W) (hle:h0.le h) (hq: ∀ h',h0.le h'->Q (.bool true) h'):z6 E C x h Q:=by
 have hl:=(hx.mono hle).zbj
 refine zg.once fun Y1=> ?_
 simp -dsimp [hl]
 refine (Owns.start h).mks (bytes:=24) (es:=1) (n:=0) (c:=0) (z:=[.nils]) rfl (by omega) (by omega) (by omega) (by omega) fun y h1 ho=> ?_
 have hl1:=(hx.mono (za.le_trans hle ho.le)).zbj
 refine zg.once fun Y2=> ?_
 simp -dsimp [hl1]
 refine zg.once fun Y3=> ?_
 simp -dsimp [hl1]
 refine zg.once fun Y4=> ?_
 simp -dsimp [hl1]
 refine zg.once fun Y5=> ?_
 simp -dsimp [hl1]
 exact hq _ (za.le_trans hle ho.le)
def znm (k i:Int):Part:=⟨[],mark k i⟩
def zel.Spec (C:CSem) (N:zN):Prop:= ∀ (k i:Int) (h:za) (Q:zQ),Q (.agg (znm k i).cs) h->C (N 108) [.int .i64 k,.int .i64 i] h Q
theorem zel.spec (i:zel.Imp C N) (s1:zgw.Spec C N):zel.Spec C N:=by
 intro k j h Q hq
 apply i
 simp +contextual -dsimp
 refine s1 _ _ _ _ ?_
 simp +contextual -dsimp
 exact zbe hq
abbrev zk1:List (List AVal):=marks partF (znm 1) 12
def zd7.Spec (C:CSem) (N:zN):Prop:= ∀ (x y:AVal) (L M:List Part) (R S:List (List AVal)) (h:za) (Q:zQ),SlX h 2 x (L.map Part.cs) R->SlX h 2 y (M.map Part.cs) S->L.length<4611686018427387904 ->
 Q (.bool (decide (L=M))) h->C (N 132) [x,y] h Q
theorem zd7.spec (i:zd7.Imp C N):zd7.Spec C N:=fun x y L M R S h Q hx hy hlen hq=>
 i x y h Q (sameG_spec partF hx hy hlen (zbe hq))
def zd9.Spec (C:CSem) (N:zN):Prop:= ∀ (x:AVal) (L:List Part) (R:List (List AVal)) (h:za) (Q:zQ),SlX h 2 x (L.map Part.cs) R->L.length <= 100000000 ->
 (∀ x' h',Owns h h' [.sl 2 x' (L.map Part.cs) zk1]->Q x' h')->C (N 319) [x] h Q
theorem zd9.spec (i:zd9.Imp C N) (s1:zel.Spec C N):zd9.Spec C N:=fun x L R h Q hx hlen hq=>
 i x h Q (lentG_spec partF (z:=[.str [],.int .i64 0]) (m:=1) (mk:=znm 1) rfl (by omega) (s1 1) hx hlen fun x' h' ho=>zbe (hq x' h' ho))
def zdx.Spec (C:CSem) (N:zN):Prop:= ∀ (x y:AVal) (L M:List Part) (R:List (List AVal)) (h:za) (Q:zQ),SlX h 2 x (L.map Part.cs) zk1->SlX h 2 y (M.map Part.cs) R->L.length <= 100000000 ->
 Q (.bool (decide (L=M))) h->C (N 324) [x,y] h Q
theorem zdx.spec (i:zdx.Imp C N) (s1:zel.Spec C N):zdx.Spec C N:=fun x y L M R h Q hx hy hlen hq=>
 i x y h Q (keptG_spec partF (m:=1) (mk:=znm 1) (s1 1) hx hy hlen (zbe hq))
def zeg.Spec (C:CSem) (N:zN):Prop:= ∀ (h0 h:za) (x:AVal) (L R:List (List AVal)) (Q:zQ),Owns h0 h [.sl 2 x L R]->R.length=12->L.length <= 100000000->(∀ h',h0.le h'->Q (.tup []) h')->C (N 408) [x] h Q
theorem zeg.spec (i:zeg.Imp C N) (s1:zel.Spec C N):zeg.Spec C N:=fun h0 h x L R Q ho hR hlen hq=>
 i x h Q (zt4 (es:=2) (st:=fun h p v K=>B.stn h p 2 v K) (by omega) (v:=fun i=> .agg (znm 2 i).cs) (s1 2) (fun {_ _ _ _ _ _ k _} ho hi hK=>over_stN (xs:=(znm 2 k).cs) rfl ho hi hK) ho hR hlen fun h' hle=>zbe (hq h' hle))
@[irreducible] def zmg (k i:Int):List UInt8:=[35,byt k,byt (k.fdiv 256),byt (k.fdiv 65536),47,byt i,byt (i.fdiv 256),byt (i.fdiv 65536)]
def zec.Spec (C:CSem) (N:zN):Prop:= ∀ (k i:Int) (h:za) (Q:zQ),Q (.str (zmg k i)) h->C (N 106) [.int .i64 k,.int .i64 i] h Q
theorem zec.spec (i:zec.Imp C N):zec.Spec C N:=by
 intro k j h Q hq
 apply i
 simp +contextual -dsimp [bin_shr (k:= .i64) (j:= .u64) (b:=8) (by omega) (by simp [IntKind.bits]),bin_shr (k:= .i64) (j:= .u64) (b:=16) (by omega) (by simp [IntKind.bits]),u8_byt]
 intro id hid
 unfold zmg at hq
 have hx:SlX (upd h id (zfm [.int .u8 35,.int .u8 ((byt k).toNat:Int),.int .u8 ((byt (k.fdiv 256)).toNat:Int),.int .u8 ((byt (k.fdiv 65536)).toNat:Int),.int .u8 47,.int .u8 ((byt j).toNat:Int),.int .u8 ((byt (j.fdiv 256)).toNat:Int),.int .u8 ((byt (j.fdiv 65536)).toNat:Int)])) 1 (.sl id 0 0 8 1 8) (([35,byt k,byt (k.fdiv 256),byt (k.fdiv 65536),47,byt j,byt (j.fdiv 256),byt (j.fdiv 65536)]:List UInt8).map bc) []:=
  SlX.lit (zb7 ..) (by simp) rfl (by simp) rfl
 rw [bytesStr_bc hx]
 exact dn_le (zjh _ hid) hq
abbrev zhn:List (List AVal):=zhv tS (zmg 1) 12
def zdw.Spec (C:CSem) (N:zN):Prop:= ∀ (x y:AVal) (L M:List (List UInt8)) (R S:List (List AVal)) (h:za) (Q:zQ),SlX h 1 x (L.map tc) R->SlX h 1 y (M.map tc) S->L.length<4611686018427387904 ->
 Q (.bool (decide (L=M))) h->C (N 133) [x,y] h Q
theorem zdw.spec (i:zdw.Imp C N):zdw.Spec C N:=fun x y L M R S h Q hx hy hlen hq=>
 i x y h Q (sameS_spec tS hx hy hlen (zbe hq))
def zd3.Spec (C:CSem) (N:zN):Prop:= ∀ (x:AVal) (L:List (List UInt8)) (R:List (List AVal)) (h:za) (Q:zQ),SlX h 1 x (L.map tc) R->L.length <= 100000000 ->
 (∀ x' h',Owns h h' [.sl 1 x' (L.map tc) zhn]->Q x' h')->C (N 406) [x] h Q
theorem zd3.spec (i:zd3.Imp C N) (s1:zec.Spec C N):zd3.Spec C N:=fun x L R h Q hx hlen hq=>
 i x h Q (lentS_spec tS (z:= .str []) (m:=1) (mk:=zmg 1) (by omega) (s1 1) hx hlen fun x' h' ho=>zbe (hq x' h' ho))
def zdt.Spec (C:CSem) (N:zN):Prop:= ∀ (x y:AVal) (L M:List (List UInt8)) (R:List (List AVal)) (h:za) (Q:zQ),SlX h 1 x (L.map tc) zhn->SlX h 1 y (M.map tc) R->L.length <= 100000000 ->
 Q (.bool (decide (L=M))) h->C (N 407) [x,y] h Q
theorem zdt.spec (i:zdt.Imp C N) (s1:zec.Spec C N):zdt.Spec C N:=fun x y L M R h Q hx hy hlen hq=>
 i x y h Q (keptS_spec tS (m:=1) (mk:=zmg 1) (s1 1) hx hy hlen (zbe hq))
def zd8.Spec (C:CSem) (N:zN):Prop:= ∀ (h0 h:za) (x:AVal) (L R:List (List AVal)) (Q:zQ),Owns h0 h [.sl 1 x L R]->R.length=12->L.length <= 100000000->(∀ h',h0.le h'->Q (.tup []) h')->C (N 409) [x] h Q
theorem zd8.spec (i:zd8.Imp C N) (s1:zec.Spec C N):zd8.Spec C N:=fun h0 h x L R Q ho hR hlen hq=>
 i x h Q (zt4 (es:=1) (st:=fun h p v K=>B.st h p v K) (by omega) (v:=fun i=> .str (zmg 2 i)) (s1 2) (fun ho hi hK=>over_stS rfl ho hi hK) ho hR hlen fun h' hle=>zbe (hq h' hle))
theorem zfl.spec (i:zfl.Imp C N) (s1:zec.Spec C N):zms C 1 (N 83):=fun t h0 h Q ht ho hq=>
 i t.x h Q (flatG_spec (elS (bytes:=16) (z:= .str []) (mv:=fun k i=> .str (zmg k i)) (fun _ _=>rfl) (fun _ _=>by rw [V.znx];simp) (by omega) s1) ht.is ho ht.n_le ht.zua fun h' hle=>zbe (hq h' hle))
end Go.Ab
namespace Go.Ab
abbrev LG:=List AVal->za->(zL)->Prop
@[simp] def z0 (v0:AVal) (X:za->Prop):LG
 | [v],h,Y=>B.pv (V.zbj v0) fun n=>B.pv (V.bin .lss v n) fun b=>B.cond b (False) (X h)
 | _,_,_=>False
def z5 (Q:zQ) (v0 w:AVal) (h:za):Prop:=zg (z0 v0 fun h=>Q (.bool true) h) [.int .i64 0] h
def z4 (Q:zQ) (v0 w:AVal) (h:za):Prop:=zg (z0 v0 (z5 Q v0 w)) [.int .i64 0] h
def z3 (Q:zQ) (v0 w:AVal) (h:za):Prop:=zg (z0 v0 (z4 Q v0 w)) [.int .i64 0] h
def z2 (Q:zQ) (v0 w:AVal) (h:za):Prop:=zg (z0 v0 (z3 Q v0 w)) [.int .i64 0] h
def z1 (Q:zQ) (v0:AVal) (h:za):Prop:=B.pv (V.zbj v0) fun n=>0<1 /\ B.mks h 24 (some [.nils]) n n fun w h=>z2 Q v0 w h
def zlu (v0:AVal) (h:za) (Q:zQ):Prop:=zg (z0 v0 (z1 Q v0)) [.int .i64 0] h
theorem z0_nil {h0 h:za} {x:AVal} {W:List (List AVal)} {X:za->Prop} (hx:SlX h0 1 x [] W) (hX:X h):zg (z0 x X) [.int .i64 0] h:=by
 refine zg.intro (fun n vs hh=>vs=[.int .i64 0] /\ hh=h) 0 ?_ ⟨rfl,rfl⟩
 rintro Y n vs hh ⟨rfl,rfl⟩ hY
 have l:=hx.zbj
 simp -dsimp [l]
 exact hX
theorem zgt {C:CSem} {g:Nat} (i: ∀ (v0:AVal) (h:za) (Q:zQ),zlu v0 h (dn Q)->C g [v0] h Q):zek C g:=fun x W h0 h Q hx hle hq=>by
 refine i x h Q (z0_nil (hx.mono hle) ?_)
 have l:=(hx.mono hle).zbj
 unfold z1
 rw [l]
 refine ⟨by omega,?_⟩
 refine (Owns.start h).mks (bytes:=24) (es:=1) (n:=0) (c:=0) (z:=[.nils]) rfl (by omega) (by omega) (by omega) (by omega) fun y h1 ho=> ?_
 have h1x:=hx.mono (za.le_trans hle ho.le)
 exact z0_nil h1x (z0_nil h1x (z0_nil h1x (z0_nil h1x (zbe (hq _ (za.le_trans hle ho.le))))))
def zf4.Imp0 (C:CSem) (N:zN):Prop:= ∀ (v0:AVal) (h:za) (Q:zQ),zlu v0 h (dn Q)->C (N 80) [v0] h Q
theorem zf4.nil0 {C:CSem} {N:zN} (i:zf4.Imp0 C N):zek C (N 80):=zgt i
def zgm.Imp0 (C:CSem) (N:zN):Prop:= ∀ (v0:AVal) (h:za) (Q:zQ),zlu v0 h (dn Q)->C (N 81) [v0] h Q
theorem zgm.nil0 {C:CSem} {N:zN} (i:zgm.Imp0 C N):zek C (N 81):=zgt i
def zga.Imp0 (C:CSem) (N:zN):Prop:= ∀ (v0:AVal) (h:za) (Q:zQ),zlu v0 h (dn Q)->C (N 82) [v0] h Q
theorem zga.nil0 {C:CSem} {N:zN} (i:zga.Imp0 C N):zek C (N 82):=zgt i
def zgb.Imp0 (C:CSem) (N:zN):Prop:= ∀ (v0:AVal) (h:za) (Q:zQ),zlu v0 h (dn Q)->C (N 90) [v0] h Q
theorem zgb.nil0 {C:CSem} {N:zN} (i:zgb.Imp0 C N):zek C (N 90):=zgt i
def zgn.Imp0 (C:CSem) (N:zN):Prop:= ∀ (v0:AVal) (h:za) (Q:zQ),zlu v0 h (dn Q)->C (N 92) [v0] h Q
theorem zgn.nil0 {C:CSem} {N:zN} (i:zgn.Imp0 C N):zek C (N 92):=zgt i
def zf6.Imp0 (C:CSem) (N:zN):Prop:= ∀ (v0:AVal) (h:za) (Q:zQ),zlu v0 h (dn Q)->C (N 93) [v0] h Q
theorem zf6.nil0 {C:CSem} {N:zN} (i:zf6.Imp0 C N):zek C (N 93):=zgt i
def zfu.Imp0 (C:CSem) (N:zN):Prop:= ∀ (v0:AVal) (h:za) (Q:zQ),zlu v0 h (dn Q)->C (N 94) [v0] h Q
theorem zfu.nil0 {C:CSem} {N:zN} (i:zfu.Imp0 C N):zek C (N 94):=zgt i
def zgl.Imp0 (C:CSem) (N:zN):Prop:= ∀ (v0:AVal) (h:za) (Q:zQ),zlu v0 h (dn Q)->C (N 95) [v0] h Q
theorem zgl.nil0 {C:CSem} {N:zN} (i:zgl.Imp0 C N):zek C (N 95):=zgt i
def zf5.Imp0 (C:CSem) (N:zN):Prop:= ∀ (v0:AVal) (h:za) (Q:zQ),zlu v0 h (dn Q)->C (N 96) [v0] h Q
theorem zf5.nil0 {C:CSem} {N:zN} (i:zf5.Imp0 C N):zek C (N 96):=zgt i
def zgc.Imp0 (C:CSem) (N:zN):Prop:= ∀ (v0:AVal) (h:za) (Q:zQ),zlu v0 h (dn Q)->C (N 97) [v0] h Q
theorem zgc.nil0 {C:CSem} {N:zN} (i:zgc.Imp0 C N):zek C (N 97):=zgt i
def zfp.Imp0 (C:CSem) (N:zN):Prop:= ∀ (v0:AVal) (h:za) (Q:zQ),zlu v0 h (dn Q)->C (N 98) [v0] h Q
theorem zfp.nil0 {C:CSem} {N:zN} (i:zfp.Imp0 C N):zek C (N 98):=zgt i
def zf9.Imp0 (C:CSem) (N:zN):Prop:= ∀ (v0:AVal) (h:za) (Q:zQ),zlu v0 h (dn Q)->C (N 99) [v0] h Q
theorem zf9.nil0 {C:CSem} {N:zN} (i:zf9.Imp0 C N):zek C (N 99):=zgt i
def zfo.Imp0 (C:CSem) (N:zN):Prop:= ∀ (v0:AVal) (h:za) (Q:zQ),zlu v0 h (dn Q)->C (N 100) [v0] h Q
theorem zfo.nil0 {C:CSem} {N:zN} (i:zfo.Imp0 C N):zek C (N 100):=zgt i
def zf8.Imp0 (C:CSem) (N:zN):Prop:= ∀ (v0:AVal) (h:za) (Q:zQ),zlu v0 h (dn Q)->C (N 101) [v0] h Q
theorem zf8.nil0 {C:CSem} {N:zN} (i:zf8.Imp0 C N):zek C (N 101):=zgt i
def zf7.Imp0 (C:CSem) (N:zN):Prop:= ∀ (v0:AVal) (h:za) (Q:zQ),zlu v0 h (dn Q)->C (N 102) [v0] h Q
theorem zf7.nil0 {C:CSem} {N:zN} (i:zf7.Imp0 C N):zek C (N 102):=zgt i
section
variable {P:Program} {C:CSem} {I:Bx}
theorem eZ (hC:zlw C) {c:Code} {Q:Ex->zb8->za->Prop} {s:zb8} {h:za} (keep live:List Nat) (G:List AVal->LG) (hr:zg (G (keep.map s)) (live.map s) h)
  (hG: ∀ (Y:zL) (s:zb8) (h:za),bwp P C I (cA (cA (cA c))) (Ex.then (fun _ _=>False) (Ex.then (fun s h=>Y (live.map s) h) (Ex.inBlock (cI c) Q))) s h=G (keep.map s) (live.map s) h Y)
  (hk:isK c=true) (hl:isL (cA c)=true) (hw:(keep.all fun k=> !memB (zhw P I (cA (cA c))) k)=true) (hs:isS (cA (cA c))=true):bwp P C I c Q s h:=
 eK (eL hC keep live G hr (fun Y s h hR=>eS hC (fun _ _=>False) ((hG Y s h).mpr hR) (fun _ _ f=>f.elim) hs) hl hw) hk
theorem eU (hC:zlw C) {c:Code} {Q:Ex->zb8->za->Prop} {s:zb8} {h:za} (keep live:List Nat) (G:List AVal->LG) (X:zb8->za->Prop) (hr:zg (G (keep.map s)) [.int .i64 0] h) (hX: ∀ s h,X s h->bwp P C I (cB c) Q s h)
  (h1:bwp P C I (cA (cA c)) (Ex.then (fun s h=>zg (G (keep.map s)) (live.map s) h) (Ex.then X Q)) s h=zg (G (keep.map s)) [.int .i64 0] h:=by kernel_rfl)
  (hG: ∀ (Y:zL) (s:zb8) (h:za),bwp P C I (cA (cA (cA (cB (cA c))))) (Ex.then (fun _ _=>False) (Ex.then (fun s h=>Y (live.map s) h) (Ex.inBlock (cI (cB (cA c))) (Ex.then X Q)))) s h=G (keep.map s) (live.map s) h Y:=by intros;kernel_rfl)
  (hk:(isS c&&isS (cA c)&&isK (cB (cA c))&&isL (cA (cB (cA c)))&&isS (cA (cA (cB (cA c))))&&keep.all fun k=> !memB (zhw P I (cA (cA (cB (cA c))))) k)=true:=by kernel_rfl):bwp P C I c Q s h:=by
 simp only [Bool.and_eq_true] at hk
 obtain ⟨⟨⟨⟨⟨k1,k2⟩,k3⟩,k4⟩,k5⟩,k6⟩:=hk
 exact eS hC X (eS hC (fun s h=>zg (G (keep.map s)) (live.map s) h) (h1.mpr hr) (fun s h hR=>eZ hC keep live G hR hG k3 k4 k6 k5) k2) hX k1
abbrev F0 (P:Program) (fn:Func) (I:Bx):Prop:= ∀ {C:CSem} (hC:zlw C) (Q:zQ) (s:zb8) (h:za),zlu (s 0) h Q->bwp P C I (fn.body.getD .skip) (retB P I fn.results.toList Q) s h
abbrev g1 (f:AVal->LG):List AVal->LG:=fun kv lv h Y=>match kv with|[a]=>f a lv h Y|_=>False
abbrev g2 (f:AVal->AVal->LG):List AVal->LG:=fun kv lv h Y=>match kv with|[a,b]=>f a b lv h Y|_=>False
structure Lp (P:Program) (C:CSem) (I:Bx) (c:Code) (Q:Ex->zb8->za->Prop) (keep:List Nat) (l:Nat) (G:List AVal->LG) (X:zb8->za->Prop):Prop where
 h1: ∀ s h,bwp P C I (cA (cA c)) (Ex.then (fun s h=>zg (G (keep.map s)) ([l].map s) h) (Ex.then X Q)) s h=zg (G (keep.map s)) [.int .i64 0] h:=by intros;kernel_rfl
 hG: ∀ (Y:zL) (s:zb8) (h:za),bwp P C I (cA (cA (cA (cB (cA c))))) (Ex.then (fun _ _=>False) (Ex.then (fun s h=>Y ([l].map s) h) (Ex.inBlock (cI (cB (cA c))) (Ex.then X Q)))) s h=G (keep.map s) ([l].map s) h Y:=by intros;kernel_rfl
 hk:(isS c&&isS (cA c)&&isK (cB (cA c))&&isL (cA (cB (cA c)))&&isS (cA (cA (cB (cA c))))&&keep.all fun k=> !memB (zhw P I (cA (cA (cB (cA c))))) k)=true:=by kernel_rfl
theorem Lp.use {c:Code} {Q:Ex->zb8->za->Prop} {keep:List Nat} {l:Nat} {G:List AVal->LG} {X:zb8->za->Prop} (p:Lp P C I c Q keep l G X) (hC:zlw C) {s:zb8} {h:za} (hr:zg (G (keep.map s)) [.int .i64 0] h) (hX: ∀ s h,X s h->bwp P C I (cB c) Q s h):bwp P C I c Q s h:=
 eU hC keep [l] G X hr hX (p.h1 s h) p.hG p.hk
theorem eF0 (hC:zlw C) {c:Code} {R:Ex->zb8->za->Prop} {Q:zQ} {s:zb8} {h:za} (w a b d e f:Nat) (hR:zlu (s 0) h Q)
  (e0: ∀ s h,bwp P C I (cA c) (Ex.then (fun s h=>zlu (s 0) h Q) R) s h=zlu (s 0) h Q:=by intros;kernel_rfl)
  (p1:Lp P C I (cB c) R [0] a (g1 fun v=>z0 v (z1 Q v)) (fun s h=>z1 Q (s 0) h):=by exact {})
  (e2: ∀ s h,bwp P C I (cA (cB (cB c))) (Ex.then (fun s h=>z2 Q (s 0) (s w) h) R) s h=z1 Q (s 0) h:=by intros;kernel_rfl)
  (p2:Lp P C I (cB (cB (cB c))) R [0,w] b (g2 fun v w=>z0 v (z3 Q v w)) (fun s h=>z3 Q (s 0) (s w) h):=by exact {})
  (p3:Lp P C I (cB (cB (cB (cB c)))) R [0,w] d (g2 fun v w=>z0 v (z4 Q v w)) (fun s h=>z4 Q (s 0) (s w) h):=by exact {})
  (p4:Lp P C I (cB (cB (cB (cB (cB c))))) R [0,w] e (g2 fun v w=>z0 v (z5 Q v w)) (fun s h=>z5 Q (s 0) (s w) h):=by exact {})
  (p5:Lp P C I (cB (cB (cB (cB (cB (cB c)))))) R [0,w] f (g2 fun v w=>z0 v fun h=>Q (.bool true) h) (fun s h=>Q (.bool true) h):=by exact {})
  (e6: ∀ s h,bwp P C I (cB (cB (cB (cB (cB (cB (cB c))))))) R s h=Q (.bool true) h:=by intros;kernel_rfl)
  (k1:isS c=true:=by kernel_rfl) (k2:isS (cB (cB c))=true:=by kernel_rfl):bwp P C I c R s h:=
 eS hC (fun s h=>zlu (s 0) h Q) ((e0 s h).mpr hR) (fun s h hR=>p1.use hC hR fun s h hR=>eS hC (fun s h=>z2 Q (s 0) (s w) h) ((e2 s h).mpr hR) (fun s h hR=>p2.use hC hR fun s h hR=>p3.use hC hR fun s h hR=>p4.use hC hR fun s h hR=>p5.use hC hR fun s h hR=>(e6 s h).mpr hR) k2) k1
end
@[simp] def zdy.k1 (C:CSem) (N:zN) (Q:zQ) (c d:AVal) (h:za):Prop:=
 B.call C (N 389) [c] h fun b h=>
  B.gd h b true (fun K=>K d h) fun k h=>
  B.gd h b true (fun K=>B.call C (N 389) [k] h K) fun l h=>
  B.gd h b true (fun K=>B.pv (V.un .not l) fun v=>K v h) fun e h=>
  B.pick b e (.bool false) fun a=>
  B.gd h a false (fun K=>K c h) fun f h=>
  B.gd h a false (fun K=>K d h) fun g h=>
  B.gd h a false (fun K=>B.pv (V.bin .lss f g) fun v=>K v h) fun i h=>
  B.pick a (.bool true) i fun j=>
  Q j h
@[simp] def zdy.cps (C:CSem) (N:zN) (a b:AVal) (h:za) (Q:zQ):Prop:=
 zdy.k1 C N Q a b h
def zdy.Imp (C:CSem) (N:zN):Prop:=im2 C (N 377) (zdy.cps C N)
@[simp] def zdu.cps (C:CSem) (N:zN) (a:AVal) (h:za) (Q:zQ):Prop:=
 B.pv (V.bin .neq a a) fun b=>
  Q b h
def zdu.Imp (C:CSem) (N:zN):Prop:=im1 C (N 389) (zdu.cps C N)
@[simp] def zcx.k1 (C:CSem) (N:zN) (Q:zQ) (b c:AVal) (h:za):Prop:=
 B.call C (N 389) [b] h fun f h=>
  B.call C (N 389) [c] h fun a h=>
  B.cond f
  (B.cond a
  (Q (.int .i64 0) h)
  (Q (.int .i64 (-1)) h))
  (B.cond a
  (Q (.int .i64 1) h)
  (B.pv (V.bin .lss b c) fun d=>
  B.cond d
  (Q (.int .i64 (-1)) h)
  (B.pv (V.bin .gtr b c) fun e=>
  B.cond e
  (Q (.int .i64 1) h)
  (Q (.int .i64 0) h))))
@[simp] def zcx.cps (C:CSem) (N:zN) (a b:AVal) (h:za) (Q:zQ):Prop:=
 zcx.k1 C N Q a b h
def zcx.Imp (C:CSem) (N:zN):Prop:=im2 C (N 580) (zcx.cps C N)
@[simp] def zc9.k1 (C:CSem) (N:zN) (Q:zQ) (Y1:zL) (o p a b:AVal) (h:za):Prop:=
 B.zgj h b fun d h=>
  B.pv (V.ext 0 d) fun e=>
  B.cond e
  (B.pv (A.zif h b) fun f=>
  B.pv (V.ext 0 f) fun c=>
  B.zhi h C o [c] fun g h=>
  B.pv (A.lkp h (some .s) (some (.int .i64 0)) false p g) fun i=>
  B.pv (V.bin .gtr i (.int .i64 0)) fun j=>
  B.cond j
  (B.newO h (ze2 [(0,none,c)] (repL 1 [.str []])) fun k h=>
  B.appW h 1 16 a (.sl k 0 0 1 1 1) fun l h=>
  Y1 [l] h)
  (Y1 [a] h))
  (B.call C (N 364) [a] h fun q h=>
  B.call C (N 365) [a] h fun m h=>
  B.call C (N 567) [m] h fun n h=>
  Q n h)
@[simp] def zc9.l2 (C:CSem) (N:zN) (Q:zQ) (b c a:AVal):zG
 | [d],h,Y1=>zc9.k1 C N Q Y1 b c d a h
 | _,_,_=>False
@[simp] def zc9.k3 (C:CSem) (N:zN) (Q:zQ) (Y2:zL) (i j f g k l a:AVal) (h:za):Prop:=
 B.pv (V.bin .lss a l) fun m=>
  B.cond m
  (B.pv (V.idxS 1 k a) fun n=>
  B.ld h n fun b=>
  B.pv (A.lkp h (some .s) (some (.str [])) true i b) fun d=>
  B.pv (V.ext 0 d) fun v=>
  B.pv (V.ext 1 d) fun o=>
  B.cond o
  (B.zhi h C j [b] fun e h=>
  B.pv (A.lkp h (some .s) (some (.int .i64 0)) false f e) fun p=>
  B.pv (V.bin .add p (.int .i64 1)) fun q=>
  B.mset h .s f e q fun h=>
  B.pv (V.bin .add a (.int .i64 1)) fun c=>
  Y2 [g,c] h)
  (B.newO h (ze2 [(0,none,b)] (repL 1 [.str []])) fun r h=>
  B.appW h 1 16 g (.sl r 0 0 1 1 1) fun t h=>
  B.pv (V.bin .add a (.int .i64 1)) fun c=>
  Y2 [t,c] h))
  (B.rangeMap h i fun u h=>
  zg (zc9.l2 C N Q j f u) [g] h)
@[simp] def zc9.l4 (C:CSem) (N:zN) (Q:zQ) (d e f a b:AVal):zG
 | [g,c],h,Y2=>zc9.k3 C N Q Y2 d e f g a b c h
 | _,_,_=>False
@[simp] def zc9.k5 (C:CSem) (N:zN) (Q:zQ) (g b:AVal) (h:za):Prop:=
 B.call C (N 568) [g] h fun a h=>
  B.pv (V.ext 0 a) fun c=>
  B.pv (V.ext 1 a) fun d=>
  B.zos h fun e h=>
  B.pv (V.zbj b) fun f=>
  zg (zc9.l4 C N Q c d e b f) [.nils,(.int .i64 0)] h
@[simp] def zc9.cps (C:CSem) (N:zN) (a b:AVal) (h:za) (Q:zQ):Prop:=
 zc9.k5 C N Q a b h
def zc9.Imp (C:CSem) (N:zN):Prop:=im2 C (N 553) (zc9.cps C N)
@[simp] def zd5.k1 (C:CSem) (N:zN) (Q:zQ) (Y1:zL) (c a:AVal) (h:za):Prop:=
 B.zgj h a fun d h=>
  B.pv (V.ext 0 d) fun e=>
  B.cond e
  (B.pv (A.zif h a) fun f=>
  B.pv (V.ext 1 f) fun b=>
  B.call C (N 364) [b] h fun k h=>
  B.call C (N 567) [b] h fun g h=>
  B.newO h (ze2 [(0,none,g)] (repL 1 [.nils])) fun i h=>
  B.appW h 1 24 c (.sl i 0 0 1 1 1) fun j h=>
  Y1 [j] h)
  (B.call C (N 566) [c,(.fn (N 565) [] [])] h fun l h=>
  Q c h)
@[simp] def zd5.l2 (C:CSem) (N:zN) (Q:zQ) (a:AVal):zG
 | [b],h,Y1=>zd5.k1 C N Q Y1 b a h
 | _,_,_=>False
@[simp] def zd5.k3 (C:CSem) (N:zN) (Q:zQ) (Y2:zL) (d c b:AVal) (h:za):Prop:=
 B.zgj h b fun e h=>
  B.pv (V.ext 0 e) fun f=>
  B.cond f
  (B.pv (A.zif h b) fun g=>
  B.pv (V.ext 0 g) fun a=>
  B.zhi h C d [a] fun i h=>
  B.zhi h C d [a] fun j h=>
  B.pv (A.lkp h (some .s) (some (.nils)) false c j) fun k=>
  B.newO h (ze2 [(0,none,a)] (repL 1 [.str []])) fun l h=>
  B.appW h 1 16 k (.sl l 0 0 1 1 1) fun m h=>
  B.mset h .s c i m fun h=>
  Y2 [] h)
  (B.rangeMap h c fun n h=>
  zg (zd5.l2 C N Q n) [.nils] h)
@[simp] def zd5.l4 (C:CSem) (N:zN) (Q:zQ) (b c a:AVal):zG
 | [],h,Y2=>zd5.k3 C N Q Y2 b c a h
 | _,_,_=>False
@[simp] def zd5.k5 (C:CSem) (N:zN) (Q:zQ) (f:AVal) (h:za):Prop:=
 B.call C (N 568) [f] h fun a h=>
  B.pv (V.ext 0 a) fun b=>
  B.pv (V.ext 1 a) fun c=>
  B.zos h fun d h=>
  B.rangeMap h b fun e h=>
  zg (zd5.l4 C N Q c d e) [] h
@[simp] def zd5.cps (C:CSem) (N:zN) (a:AVal) (h:za) (Q:zQ):Prop:=
 zd5.k5 C N Q a h
def zd5.Imp (C:CSem) (N:zN):Prop:=im1 C (N 554) (zd5.cps C N)
@[simp] def zcf.k1 (C:CSem) (N:zN) (Q:zQ) (Y1:zL) (s f g b e a:AVal) (h:za):Prop:=
 B.pv (V.bin .lss b g) fun i=>
  B.cond i
  (B.pv (V.idxS 8 f b) fun j=>
  B.ldn h j 8 fun k=>
  B.pv (V.setN 0 8 k (.agg [.int .i64 0,.str [],.int .i64 0,.int .i64 0,.int .i64 0,.int .u8 0,.int .i64 0,.str []])) fun c=>
  B.al c (B.pv (V.zd2 1 c) fun l=>
  B.call C (N 442) [s,l] h fun m h=>
  B.cond m
  (B.al a (B.pv (V.zd2 5 a) fun n=>
  B.pv (V.zgf 0 8 c) fun o=>
  B.newO h (ze2 [(0,some 8,o)] (repL 1 [.int .i64 0,.str [],.int .i64 0,.int .i64 0,.int .i64 0,.int .u8 0,.int .i64 0,.str []])) fun p h=>
  B.appW h 8 80 n (.sl p 0 0 1 8 1) fun q h=>
  B.al a (B.pv (V.setF 5 q a) fun a=>
  B.pv (V.bin .add b (.int .i64 1)) fun d=>
  Y1 [d,a] h)))
  (B.pv (V.bin .add b (.int .i64 1)) fun d=>
  Y1 [d,a] h)))
  (B.pv (V.zgf 0 6 a) fun r=>
  B.pv (V.setN 0 6 r e) fun e=>
  B.pv (oneOf (zm3 (V.zgf 0 6 e) (some []))) fun v=>Q v h)
@[simp] def zcf.l2 (C:CSem) (N:zN) (Q:zQ) (d a b e:AVal):zG
 | [c,f],h,Y1=>zcf.k1 C N Q Y1 d a b c e f h
 | _,_,_=>False
@[simp] def zcf.k3 (C:CSem) (N:zN) (Q:zQ) (Y2:zL) (f g i b j u a:AVal) (h:za):Prop:=
 B.pv (V.bin .lss b i) fun k=>
  B.cond k
  (B.pv (V.idxS 6 g b) fun l=>
  B.ldn h l 6 fun m=>
  B.pv (V.setN 0 6 m (.agg [.int .i64 0,.str [],.int .i64 0,.int .i64 0,.int .i64 0,.bool false])) fun e=>
  B.al e (B.pv (V.zd2 1 e) fun n=>
  B.call C (N 442) [f,n] h fun o h=>
  B.cond o
  (B.al a (B.pv (V.zd2 4 a) fun p=>
  B.pv (V.zgf 0 6 e) fun q=>
  B.newO h (ze2 [(0,some 6,q)] (repL 1 [.int .i64 0,.str [],.int .i64 0,.int .i64 0,.int .i64 0,.bool false])) fun r h=>
  B.appW h 6 56 p (.sl r 0 0 1 6 1) fun s h=>
  B.al a (B.pv (V.setF 4 s a) fun a=>
  B.pv (V.bin .add b (.int .i64 1)) fun c=>
  Y2 [c,a] h)))
  (B.pv (V.bin .add b (.int .i64 1)) fun c=>
  Y2 [c,a] h)))
  (B.al j (B.pv (V.zd2 5 j) fun d=>
  B.pv (V.zbj d) fun t=>
  zg (zcf.l2 C N Q f d t u) [(.int .i64 0),a] h))
@[simp] def zcf.l4 (C:CSem) (N:zN) (Q:zQ) (d a b e f:AVal):zG
 | [c,g],h,Y2=>zcf.k3 C N Q Y2 d a b c e f g h
 | _,_,_=>False
@[simp] def zcf.k5 (C:CSem) (N:zN) (Q:zQ) (Y3:zL) (g i j c f y b:AVal) (h:za):Prop:=
 B.pv (V.bin .lss c j) fun k=>
  B.cond k
  (B.pv (V.idxS 4 i c) fun l=>
  B.ldn h l 4 fun m=>
  B.pv (V.setN 0 4 m (.agg [.str [],.int .i64 0,.nils,.nils])) fun a=>
  B.al a (B.pv (V.zd2 0 a) fun n=>
  B.call C (N 442) [g,n] h fun o h=>
  B.cond o
  (B.al a (B.pv (V.zd2 2 a) fun p=>
  B.al a (B.pv (V.zd2 3 a) fun q=>
  B.call C (N 569) [p] h fun r h=>
  B.al a (B.call C (N 567) [q] h fun s h=>
  B.pv (V.setF 2 r a) fun a=>
  B.al a (B.pv (V.setF 3 s a) fun a=>
  B.al b (B.pv (V.zd2 3 b) fun t=>
  B.pv (V.zgf 0 4 a) fun u=>
  B.newO h (ze2 [(0,some 4,u)] (repL 1 [.str [],.int .i64 0,.nils,.nils])) fun v h=>
  B.appW h 4 72 t (.sl v 0 0 1 4 1) fun w h=>
  B.al b (B.pv (V.setF 3 w b) fun b=>
  B.pv (V.bin .add c (.int .i64 1)) fun d=>
  Y3 [d,b] h)))))))
  (B.pv (V.bin .add c (.int .i64 1)) fun d=>
  Y3 [d,b] h)))
  (B.al f (B.pv (V.zd2 4 f) fun e=>
  B.pv (V.zbj e) fun x=>
  zg (zcf.l4 C N Q g e x f y) [(.int .i64 0),b] h))
@[simp] def zcf.l6 (C:CSem) (N:zN) (Q:zQ) (d a b e f:AVal):zG
 | [c,g],h,Y3=>zcf.k5 C N Q Y3 d a b c e f g h
 | _,_,_=>False
@[simp] def zcf.k7 (C:CSem) (N:zN) (Q:zQ) (i a j:AVal) (h:za):Prop:=
 B.al a (B.pv (V.zd2 0 a) fun c=>
  B.al a (B.pv (V.zd2 1 a) fun d=>
  B.al a (B.pv (V.zd2 2 a) fun e=>
  B.pv (A.bld [(0,none,c),(1,none,d),(2,none,e)] [.int .i64 0,.int .i64 0,.int .i64 0,.nils,.nils,.nils]) fun f=>
  B.pv (V.setN 0 6 f (.agg [.int .i64 0,.int .i64 0,.int .i64 0,.nils,.nils,.nils])) fun k=>
  B.al a (B.pv (V.zd2 3 a) fun b=>
  B.pv (V.zbj b) fun g=>
  zg (zcf.l6 C N Q i b g a j) [(.int .i64 0),k] h))))
@[simp] def zcf.cps (C:CSem) (N:zN) (a b:AVal) (h:za) (Q:zQ):Prop:=
 B.pv (A.boxN 6 a) fun c=>
  zcf.k7 C N Q b c (.agg [.int .i64 0,.int .i64 0,.int .i64 0,.nils,.nils,.nils]) h
def zcf.Imp (C:CSem) (N:zN):Prop:=im2 C (N 558) (zcf.cps C N)
@[simp] def zo.k1 (C:CSem) (N:zN) (Q:zQ) (b:AVal) (h:za):Prop:=
 B.pv (V.fieldAddr 0 b) fun c=>
  B.ld h c fun d=>
  B.pv (V.bin .lss d (.int .u8 1)) fun a=>
  B.gd h a false (fun K=>B.pv (V.fieldAddr 0 b) fun v=>K v h) fun e h=>
  B.gd h a false (fun K=>B.ld h e fun v=>K v h) fun f h=>
  B.gd h a false (fun K=>B.pv (V.bin .gtr f (.int .u8 15)) fun v=>K v h) fun g h=>
  B.pick a (.bool true) g fun i=>
  B.cond i
  (Q .nils h)
  (B.newO h (ze2 [(0,none,(.str [42]))] (repL 1 [.str []])) fun j h=>
  Q (.sl j 0 0 1 1 1) h)
@[simp] def zo.k2 (C:CSem) (N:zN) (Q:zQ) (a k b:AVal) (h:za):Prop:=
 B.cond k
  (B.al b (B.pv (V.zd2 3 b) fun c=>
  B.pv (V.fieldAddr 2 a) fun d=>
  B.ld h d fun e=>
  B.newO h (ze2 [(0,none,e)] (repL 1 [.str []])) fun f h=>
  B.call C (N 553) [c,(.sl f 0 0 1 1 1)] h fun g h=>
  B.newO h (ze2 [(0,none,(.str [35,108,111,116]))] (repL 1 [.str []])) fun i h=>
  B.call C (N 570) [g,(.sl i 0 0 1 1 1)] h fun j h=>
  Q j h))
  (zo.k1 C N Q a h)
@[simp] def zo.k3 (C:CSem) (N:zN) (Q:zQ) (a k b:AVal) (h:za):Prop:=
 B.cond k
  (B.al b (B.pv (V.zd2 3 b) fun c=>
  B.pv (V.fieldAddr 2 a) fun d=>
  B.ld h d fun e=>
  B.newO h (ze2 [(0,none,e)] (repL 1 [.str []])) fun f h=>
  B.call C (N 553) [c,(.sl f 0 0 1 1 1)] h fun g h=>
  B.newO h (ze2 [(0,none,(.str [35,108,105,110,101]))] (repL 1 [.str []])) fun i h=>
  B.call C (N 570) [g,(.sl i 0 0 1 1 1)] h fun j h=>
  Q j h))
  (zo.k1 C N Q a h)
@[simp] def zo.k4 (C:CSem) (N:zN) (Q:zQ) (a i b:AVal) (h:za):Prop:=
 B.cond i
  (B.al b (B.pv (V.zd2 3 b) fun c=>
  B.pv (V.fieldAddr 2 a) fun d=>
  B.ld h d fun e=>
  B.newO h (ze2 [(0,none,e)] (repL 1 [.str []])) fun f h=>
  B.call C (N 553) [c,(.sl f 0 0 1 1 1)] h fun g h=>
  Q g h))
  (zo.k1 C N Q a h)
@[simp] def zo.k5 (C:CSem) (N:zN) (Q:zQ) (c a:AVal) (h:za):Prop:=
 B.al a (B.pv (V.zd2 4 a) fun d=>
  B.call C (N 572) [d,(.fn (N 571) [] [c])] h fun b h=>
  B.pv (V.bin .geq b (.int .i64 0)) fun e=>
  B.cond e
  (B.al a (B.pv (V.zd2 3 a) fun f=>
  B.al a (B.pv (V.zd2 4 a) fun g=>
  B.pv (V.idxS 6 g b) fun i=>
  B.pv (V.fieldAddr 1 i) fun j=>
  B.ld h j fun k=>
  B.newO h (ze2 [(0,none,k)] (repL 1 [.str []])) fun l h=>
  B.call C (N 553) [f,(.sl l 0 0 1 1 1)] h fun m h=>
  Q m h)))
  (zo.k1 C N Q c h))
@[simp] def zo.k6 (C:CSem) (N:zN) (Q:zQ) (c d a:AVal) (h:za):Prop:=
 B.cond d
  (B.al a (B.pv (V.zd2 5 a) fun e=>
  B.call C (N 206) [e,(.fn (N 573) [] [c])] h fun b h=>
  B.pv (V.bin .geq b (.int .i64 0)) fun f=>
  B.cond f
  (B.al a (B.pv (V.zd2 3 a) fun g=>
  B.al a (B.pv (V.zd2 5 a) fun i=>
  B.pv (V.idxS 8 i b) fun j=>
  B.pv (V.fieldAddr 1 j) fun k=>
  B.ld h k fun l=>
  B.newO h (ze2 [(0,none,l)] (repL 1 [.str []])) fun m h=>
  B.call C (N 553) [g,(.sl m 0 0 1 1 1)] h fun n h=>
  Q n h)))
  (zo.k1 C N Q c h)))
  (zo.k1 C N Q c h)
@[simp] def zo.k7 (C:CSem) (N:zN) (Q:zQ) (d a e:AVal) (h:za):Prop:=
 B.pv (V.bin .eql a (.int .u8 10)) fun b=>
  B.cond b
  (zo.k6 C N Q d b e h)
  (B.pv (V.bin .eql a (.int .u8 11)) fun c=>
  B.cond c
  (zo.k6 C N Q d c e h)
  (B.pv (V.bin .eql a (.int .u8 14)) fun f=>
  zo.k6 C N Q d f e h))
@[simp] def zo.k8 (C:CSem) (N:zN) (Q:zQ) (b a c:AVal) (h:za):Prop:=
 B.pv (V.bin .eql a (.int .u8 6)) fun d=>
  B.cond d
  (B.cond d (zo.k5 C N Q b c h) (zo.k7 C N Q b a c h))
  (B.pv (V.bin .eql a (.int .u8 7)) fun e=>
  B.cond e
  (B.cond e (zo.k5 C N Q b c h) (zo.k7 C N Q b a c h))
  (B.pv (V.bin .eql a (.int .u8 8)) fun f=>
  B.cond f (zo.k5 C N Q b c h) (zo.k7 C N Q b a c h)))
@[simp] def zo.k9 (C:CSem) (N:zN) (Q:zQ) (b e a c:AVal) (h:za):Prop:=
 B.pv (V.bin .eql a (.int .u8 13)) fun d=>
  B.cond d
  (B.cond d (zo.k4 C N Q b e c h) (zo.k8 C N Q b a c h))
  (B.pv (V.bin .eql a (.int .u8 15)) fun f=>
  B.cond f (zo.k4 C N Q b e c h) (zo.k8 C N Q b a c h))
@[simp] def zo.k10 (C:CSem) (N:zN) (Q:zQ) (b c a d:AVal) (h:za):Prop:=
 B.pv (V.bin .eql a (.int .u8 4)) fun f=>
  B.cond f
  (B.cond f (zo.k2 C N Q b c d h) (B.pv (V.bin .eql a (.int .u8 9)) fun e=>
  B.cond e (zo.k3 C N Q b c d h) (zo.k9 C N Q b c a d h)))
  (B.pv (V.bin .eql a (.int .u8 5)) fun g=>
  B.cond g (zo.k2 C N Q b c d h) (B.pv (V.bin .eql a (.int .u8 9)) fun e=>
  B.cond e (zo.k3 C N Q b c d h) (zo.k9 C N Q b c a d h)))
@[simp] def zo.k11 (C:CSem) (N:zN) (Q:zQ) (a b:AVal) (h:za):Prop:=
 B.al b (B.pv (V.zd2 3 b) fun f=>
  B.call C (N 575) [f,(.fn (N 574) [] [a])] h fun c h=>
  B.pv (V.fieldAddr 0 a) fun d=>
  B.ld h d fun e=>
  zo.k10 C N Q a c e b h)
@[simp] def zo.cps (C:CSem) (N:zN) (a b:AVal) (h:za) (Q:zQ):Prop:=
 B.pv (A.boxN 6 a) fun c=>
  B.newO h (A.znh 11 b) fun d h=>
  zo.k11 C N Q (.ptr d 0 0) c h
def zo.Imp (C:CSem) (N:zN):Prop:=im2 C (N 559) (zo.cps C N)
@[simp] def zfn.cps (C:CSem) (N:zN) (a b:AVal) (h:za) (Q:zQ):Prop:=
 B.call C (N 578) [a,b] h fun c h=>
  Q c h
def zfn.Imp (C:CSem) (N:zN):Prop:=im2 C (N 565) (zfn.cps C N)
@[simp] def zt.k1 (C:CSem) (N:zN) (Q:zQ) (Y1:zL) (Y2:zL) (q r m n o c d e a b:AVal) (h:za):Prop:=
 B.pv (V.bin .lss a e) fun f=>
  B.cond f
  (B.pv (V.idxS 1 d a) fun g=>
  B.ld h g fun i=>
  B.al b (B.pv (V.zd2 0 b) fun j=>
  B.zhi h C m [j,i] fun p h=>
  B.pv (V.bin .add a (.int .i64 1)) fun k=>
  Y2 [k] h))
  (B.pv (V.bin .add c (.int .i64 1)) fun l=>
  Y1 [l] h)
@[simp] def zt.l2 (C:CSem) (N:zN) (Q:zQ) (Y1:zL) (i j k a b c d e f:AVal):zG
 | [g],h,Y2=>zt.k1 C N Q Y1 Y2 i j k a b c d e g f h
 | _,_,_=>False
@[simp] def zt.k3 (C:CSem) (N:zN) (Q:zQ) (Y1:zL) (g i j c d e a:AVal) (h:za):Prop:=
 B.al a (B.pv (V.zd2 3 a) fun b=>
  B.pv (V.zbj b) fun f=>
  zg (zt.l2 C N Q Y1 g i j c d e b f a) [(.int .i64 0)] h)
@[simp] def zt.k4 (C:CSem) (N:zN) (Q:zQ) (Y1:zL) (Y3:zL) (q r d e f g i j a b:AVal) (h:za):Prop:=
 B.pv (V.bin .lss a j) fun k=>
  B.cond k
  (B.pv (V.idxS 2 i a) fun l=>
  B.ldn h l 2 fun m=>
  B.pv (V.setN 0 2 m (.agg [.str [],.int .i64 0])) fun c=>
  B.al b (B.pv (V.zd2 0 b) fun n=>
  B.al c (B.pv (V.zd2 0 c) fun o=>
  B.zhi h C d [n,o] fun s h=>
  B.pv (V.bin .add a (.int .i64 1)) fun p=>
  Y3 [p] h)))
  (zt.k3 C N Q Y1 q r d e f g b h)
@[simp] def zt.l5 (C:CSem) (N:zN) (Q:zQ) (Y1:zL) (i j k a b c d e f:AVal):zG
 | [g],h,Y3=>zt.k4 C N Q Y1 Y3 i j k a b c d e g f h
 | _,_,_=>False
@[simp] def zt.k6 (C:CSem) (N:zN) (Q:zQ) (Y1:zL) (g i j c d e a:AVal) (h:za):Prop:=
 B.al a (B.pv (V.zd2 2 a) fun b=>
  B.pv (V.zbj b) fun f=>
  zg (zt.l5 C N Q Y1 g i j c d e b f a) [(.int .i64 0)] h)
@[simp] def zt.k7 (C:CSem) (N:zN) (Q:zQ) (Y1:zL) (g i j a c b:AVal) (h:za):Prop:=
 B.pv (V.idxS 4 a b) fun d=>
  B.ldn h d 4 fun e=>
  B.pv (V.setN 0 4 e (.agg [.str [],.int .i64 0,.nils,.nils])) fun f=>
  zt.k6 C N Q Y1 g i j a c b f h
@[simp] def zt.k8 (C:CSem) (N:zN) (Q:zQ) (Y1:zL) (c d j e a b:AVal) (h:za):Prop:=
 B.pv (V.bin .lss b a) fun f=>
  B.cond f
  (zt.k7 C N Q Y1 c d j e a b h)
  (B.ld h c fun g=>
  B.ld h d fun i=>
  Q (.tup [g,i]) h)
@[simp] def zt.l9 (C:CSem) (N:zN) (Q:zQ) (d e f a b:AVal):zG
 | [c],h,Y1=>zt.k8 C N Q Y1 d e f a b c h
 | _,_,_=>False
@[simp] def zt.k10 (C:CSem) (N:zN) (Q:zQ) (c a:AVal) (h:za):Prop:=
 B.newO h (some [.nilf]) fun b h=>
  B.st h (.ptr b 0 0) (.fn (N 577) [] [a]) fun h=>
  B.pv (V.zbj c) fun d=>
  zg (zt.l9 C N Q a (.ptr b 0 0) (.fn (N 576) [] [a,(.ptr b 0 0)]) c d) [(.int .i64 0)] h
@[simp] def zt.k11 (C:CSem) (N:zN) (Q:zQ) (Y4:zL) (n c d e a:AVal) (h:za):Prop:=
 B.pv (V.bin .lss a e) fun f=>
  B.cond f
  (B.pv (V.idxS 4 d a) fun g=>
  B.ldn h g 4 fun i=>
  B.pv (V.setN 0 4 i (.agg [.str [],.int .i64 0,.nils,.nils])) fun b=>
  B.ld h c fun j=>
  B.al b (B.pv (V.zd2 0 b) fun k=>
  B.al b (B.pv (V.zd2 0 b) fun l=>
  B.mset h .s j k l fun h=>
  B.pv (V.bin .add a (.int .i64 1)) fun m=>
  Y4 [m] h)))
  (zt.k10 C N Q n c h)
@[simp] def zt.l12 (C:CSem) (N:zN) (Q:zQ) (d e a b:AVal):zG
 | [c],h,Y4=>zt.k11 C N Q Y4 d e a b c h
 | _,_,_=>False
@[simp] def zt.k13 (C:CSem) (N:zN) (Q:zQ) (a:AVal) (h:za):Prop:=
 B.zos h fun b h=>
  B.newO h (some [.nilm]) fun c h=>
  B.st h (.ptr c 0 0) b fun h=>
  B.pv (V.zbj a) fun d=>
  zg (zt.l12 C N Q a (.ptr c 0 0) a d) [(.int .i64 0)] h
@[simp] def zt.cps (C:CSem) (N:zN) (a:AVal) (h:za) (Q:zQ):Prop:=
 zt.k13 C N Q a h
def zt.Imp (C:CSem) (N:zN):Prop:=im1 C (N 568) (zt.cps C N)
@[simp] def zey.k1 (C:CSem) (N:zN) (Q:zQ) (d e:AVal) (h:za):Prop:=
 B.newO h (ze2 [(0,none,d),(1,none,e)] (repL 2 [.nils])) fun f h=>
  B.call C (N 373) [(.sl f 0 0 2 1 2)] h fun a h=>
  B.call C (N 364) [a] h fun g h=>
  B.call C (N 365) [a] h fun b h=>
  B.call C (N 567) [b] h fun c h=>
  Q c h
@[simp] def zey.cps (C:CSem) (N:zN) (a b:AVal) (h:za) (Q:zQ):Prop:=
 zey.k1 C N Q a b h
def zey.Imp (C:CSem) (N:zN):Prop:=im2 C (N 570) (zey.cps C N)
@[simp] def zei.k1 (C:CSem) (N:zN) (Q:zQ) (b c:AVal) (h:za):Prop:=
 B.pv (A.boxN 6 b) fun a=>
  B.al a (B.pv (V.zd2 0 a) fun d=>
  B.pv (V.fieldAddr 7 c) fun e=>
  B.ld h e fun f=>
  B.pv (V.bin .eql d f) fun g=>
  Q g h)
@[simp] def zei.cps (C:CSem) (N:zN) (a b:AVal) (h:za) (Q:zQ):Prop:=
 zei.k1 C N Q a b h
def zei.Imp (C:CSem) (N:zN):Prop:=im2 C (N 571) (zei.cps C N)
@[simp] def zeh.k1 (C:CSem) (N:zN) (Q:zQ) (b c:AVal) (h:za):Prop:=
 B.pv (A.boxN 8 b) fun a=>
  B.al a (B.pv (V.zd2 0 a) fun d=>
  B.pv (V.fieldAddr 8 c) fun e=>
  B.ld h e fun f=>
  B.pv (V.bin .eql d f) fun g=>
  Q g h)
@[simp] def zeh.cps (C:CSem) (N:zN) (a b:AVal) (h:za) (Q:zQ):Prop:=
 zeh.k1 C N Q a b h
def zeh.Imp (C:CSem) (N:zN):Prop:=im2 C (N 573) (zeh.cps C N)
@[simp] def zej.k1 (C:CSem) (N:zN) (Q:zQ) (b c:AVal) (h:za):Prop:=
 B.pv (A.boxN 4 b) fun a=>
  B.al a (B.pv (V.zd2 0 a) fun d=>
  B.pv (V.fieldAddr 2 c) fun e=>
  B.ld h e fun f=>
  B.pv (V.bin .eql d f) fun g=>
  Q g h)
@[simp] def zej.cps (C:CSem) (N:zN) (a b:AVal) (h:za) (Q:zQ):Prop:=
 zej.k1 C N Q a b h
def zej.Imp (C:CSem) (N:zN):Prop:=im2 C (N 574) (zej.cps C N)
@[simp] def zdp.k1 (C:CSem) (N:zN) (Q:zQ) (l d a c:AVal) (h:za):Prop:=
 B.ld h a fun m=>
  B.pv (A.lkp h (some .s) (some (.str [])) true m d) fun b=>
  B.pv (V.ext 0 b) fun n=>
  B.pv (V.ext 1 b) fun e=>
  B.cond e
  (B.ld h a fun f=>
  B.ld h c fun g=>
  B.ld h c fun i=>
  B.zhi h C g [l] (B.zm2 h [(a,none),(c,none)] (fun j h=>B.zhi h C i [d] (B.zm2 h [(a,none)] (fun k h=>B.mset h .s f j k fun h=>
  Q (.tup []) h)))))
  (Q (.tup []) h)
@[simp] def zdp.cps (C:CSem) (N:zN) (a b c d:AVal) (h:za) (Q:zQ):Prop:=
 zdp.k1 C N Q a b c d h
def zdp.Imp (C:CSem) (N:zN):Prop:=im4 C (N 576) (zdp.cps C N)
@[simp] def zct.k1 (C:CSem) (N:zN) (Q:zQ) (Y1:zL) (a b:AVal) (h:za):Prop:=
 B.ld h b fun d=>
  B.pv (A.lkp h (some .s) (some (.str [])) false d a) fun e=>
  B.pv (V.bin .neq e a) fun f=>
  B.cond f
  (B.ld h b fun g=>
  B.pv (A.lkp h (some .s) (some (.str [])) false g a) fun c=>
  Y1 [c] h)
  (Q a h)
@[simp] def zct.l2 (C:CSem) (N:zN) (Q:zQ) (a:AVal):zG
 | [b],h,Y1=>zct.k1 C N Q Y1 b a h
 | _,_,_=>False
@[simp] def zct.cps (C:CSem) (N:zN) (a b:AVal) (h:za) (Q:zQ):Prop:=
 zg (zct.l2 C N Q b) [a] h
def zct.Imp (C:CSem) (N:zN):Prop:=im2 C (N 577) (zct.cps C N)
@[simp] def zdk.k1 (C:CSem) (N:zN) (Q:zQ) (c l:AVal) (h:za):Prop:=
 B.call C (N 564) [c] h fun d h=>
  B.pv (V.bin .gtr d (.int .i64 300)) fun a=>
  B.gd h a false (fun K=>K c h) fun e h=>
  B.gd h a false (fun K=>B.pv (V.zbj e) fun v=>K v h) fun f h=>
  B.gd h a false (fun K=>B.pv (V.bin .gtr f (.int .i64 70)) fun v=>K v h) fun g h=>
  B.pick a (.bool true) g fun b=>
  B.gd h b false (fun K=>K l h) fun i h=>
  B.gd h b false (fun K=>B.pv (V.bin .gtr i (.int .i64 200)) fun v=>K v h) fun j h=>
  B.pick b (.bool true) j fun k=>
  Q k h
@[simp] def zdk.k2 (C:CSem) (N:zN) (Q:zQ) (Y1:zL) (p d b c:AVal) (h:za):Prop:=
 B.pv (V.zbj d) fun q=>
  B.pv (V.bin .lss c q) fun a=>
  B.gd h a true (fun K=>K b h) fun e h=>
  B.gd h a true (fun K=>B.pv (V.bin .leq e (.int .i64 200)) fun v=>K v h) fun f h=>
  B.pick a f (.bool false) fun g=>
  B.cond g
  (B.pv (V.bin .add b (.int .i64 1)) fun i=>
  B.pv (V.idxS 1 d c) fun j=>
  B.ld h j fun k=>
  B.pv (V.zl2 k) fun l=>
  B.pv (V.bin .quo l (.int .i64 20)) fun m=>
  B.pv (V.bin .add i m) fun n=>
  B.pv (V.bin .add c (.int .i64 1)) fun o=>
  Y1 [n,o] h)
  (zdk.k1 C N Q p b h)
@[simp] def zdk.l3 (C:CSem) (N:zN) (Q:zQ) (a b:AVal):zG
 | [c,d],h,Y1=>zdk.k2 C N Q Y1 a b c d h
 | _,_,_=>False
@[simp] def zdk.cps (C:CSem) (N:zN) (a b:AVal) (h:za) (Q:zQ):Prop:=
 zg (zdk.l3 C N Q a b) [(.int .i64 0),(.int .i64 0)] h
def zdk.Imp (C:CSem) (N:zN):Prop:=im2 C (N 555) (zdk.cps C N)
@[simp] def zez.k1 (C:CSem) (N:zN) (Q:zQ) (h:za):Prop:=
 B.call C (N 562) [] h fun v2 h=>
  B.pv (A.bld [(0,none,(.int .i64 3)),(1,none,(.str [68]))] [.int .i64 0,.str [],.int .i64 0,.int .i64 0,.int .i64 0,.bool false]) fun v3=>
  B.newO h (ze2 [(0,some 6,v3)] (repL 1 [.int .i64 0,.str [],.int .i64 0,.int .i64 0,.int .i64 0,.bool false])) fun i4 h=>
  B.pv (A.bld [(3,none,v2),(4,none,(.sl i4 0 0 1 6 1))] [.int .i64 0,.int .i64 0,.int .i64 0,.nils,.nils,.nils]) fun v5=>
  B.pv (V.setN 0 6 v5 (.agg [.int .i64 0,.int .i64 0,.int .i64 0,.nils,.nils,.nils])) fun f=>
  B.call C (N 562) [] h fun v6 h=>
  B.call C (N 554) [v6] h fun v7 h=>
  B.newO h (ze2 [(0,none,(.str [65])),(1,none,(.str [75]))] (repL 2 [.str []])) fun i8 h=>
  B.newO h (ze2 [(0,none,(.str [66])),(1,none,(.str [67]))] (repL 2 [.str []])) fun i9 h=>
  B.newO h (ze2 [(0,none,(.str [68]))] (repL 1 [.str []])) fun g h=>
  B.newO h (ze2 [(0,none,(.sl i8 0 0 2 1 2)),(1,none,(.sl i9 0 0 2 1 2)),(2,none,(.sl g 0 0 1 1 1))] (repL 3 [.nils])) fun j h=>
  B.call C (N 563) [v7,(.sl j 0 0 3 1 3)] h fun b h=>
  B.gd h b true (fun K=>B.call C (N 562) [] h K) fun k h=>
  B.gd h b true (fun K=>B.newO h (ze2 [(0,none,(.str [75])),(1,none,(.str [90]))] (repL 2 [.str []])) fun i h=>K (.sl i 0 0 2 1 2) h) fun l h=>
  B.gd h b true (fun K=>B.call C (N 553) [k,l] h K) fun m h=>
  B.gd h b true (fun K=>B.newO h (ze2 [(0,none,(.str [65])),(1,none,(.str [75])),(2,none,(.str [90]))] (repL 3 [.str []])) fun i h=>K (.sl i 0 0 3 1 3) h) fun n h=>
  B.gd h b true (fun K=>B.call C (N 133) [m,n] h K) fun o h=>
  B.pick b o (.bool false) fun c=>
  B.gd h c true (fun K=>B.pv (V.zgf 0 6 f) fun v=>K v h) fun p h=>
  B.gd h c true (fun K=>B.pv (A.bld [(0,none,(.int .u8 4)),(2,none,(.str [67]))] [.int .u8 0,.int .i64 0,.str [],.int .i64 0,.int .i64 0,.int .i64 0,.int .i64 0,.int .i64 0,.int .i64 0,.nils,.nils]) fun v=>K v h) fun q h=>
  B.gd h c true (fun K=>B.call C (N 559) [p,q] h K) fun r h=>
  B.gd h c true (fun K=>B.newO h (ze2 [(0,none,(.str [35,108,111,116])),(1,none,(.str [66])),(2,none,(.str [67]))] (repL 3 [.str []])) fun i h=>K (.sl i 0 0 3 1 3) h) fun s h=>
  B.gd h c true (fun K=>B.call C (N 133) [r,s] h K) fun t h=>
  B.pick c t (.bool false) fun d=>
  B.gd h d true (fun K=>B.pv (V.zgf 0 6 f) fun v=>K v h) fun u h=>
  B.gd h d true (fun K=>B.pv (A.bld [(0,none,(.int .u8 11)),(8,none,(.int .i64 3))] [.int .u8 0,.int .i64 0,.str [],.int .i64 0,.int .i64 0,.int .i64 0,.int .i64 0,.int .i64 0,.int .i64 0,.nils,.nils]) fun v=>K v h) fun w h=>
  B.gd h d true (fun K=>B.call C (N 559) [u,w] h K) fun x h=>
  B.gd h d true (fun K=>B.newO h (ze2 [(0,none,(.str [42]))] (repL 1 [.str []])) fun i h=>K (.sl i 0 0 1 1 1) h) fun y h=>
  B.gd h d true (fun K=>B.call C (N 133) [x,y] h K) fun z h=>
  B.pick d z (.bool false) fun e=>
  B.gd h e true (fun K=>B.pv (V.zgf 0 6 f) fun v=>K v h) fun aa h=>
  B.gd h e true (fun K=>B.pv (A.bld [(0,none,(.int .u8 12))] [.int .u8 0,.int .i64 0,.str [],.int .i64 0,.int .i64 0,.int .i64 0,.int .i64 0,.int .i64 0,.int .i64 0,.nils,.nils]) fun v=>K v h) fun ab h=>
  B.gd h e true (fun K=>B.call C (N 559) [aa,ab] h K) fun ac h=>
  B.gd h e true (fun K=>B.newO h (ze2 [(0,none,(.str [42]))] (repL 1 [.str []])) fun i h=>K (.sl i 0 0 1 1 1) h) fun ad h=>
  B.gd h e true (fun K=>B.call C (N 133) [ac,ad] h K) fun ae h=>
  B.pick e ae (.bool false) fun a=>
  B.gd h a true (fun K=>B.pv (V.zgf 0 6 f) fun v=>K v h) fun af h=>
  B.gd h a true (fun K=>B.newO h (ze2 [(0,none,(.str [68]))] (repL 1 [.str []])) fun i h=>K (.sl i 0 0 1 1 1) h) fun ag h=>
  B.gd h a true (fun K=>B.call C (N 558) [af,ag] h K) fun ah h=>
  B.gd h a true (fun K=>B.pv (V.zd2 4 ah) fun v=>K v h) fun ai h=>
  B.gd h a true (fun K=>B.pv (V.zbj ai) fun v=>K v h) fun aj h=>
  B.gd h a true (fun K=>B.pv (V.bin .eql aj (.int .i64 1)) fun v=>K v h) fun ak h=>
  B.pick a ak (.bool false) fun al=>
  Q al h
@[simp] def zez.cps (C:CSem) (N:zN) (h:za) (Q:zQ):Prop:=
 zez.k1 C N Q h
def zez.Imp (C:CSem) (N:zN):Prop:=im0 C (N 556) (zez.cps C N)
@[simp] def zfc.k1 (C:CSem) (N:zN) (Q:zQ) (h:za):Prop:=
 B.pv (A.bld [(0,none,(.str [65])),(1,none,(.int .i64 1))] [.str [],.int .i64 0,.nils,.nils]) fun a=>
  B.newO h (ze2 [(0,none,(.str [67]))] (repL 1 [.str []])) fun b h=>
  B.pv (A.bld [(0,none,(.str [66])),(1,none,(.int .i64 1)),(3,none,(.sl b 0 0 1 1 1))] [.str [],.int .i64 0,.nils,.nils]) fun c=>
  B.pv (A.bld [(0,none,(.str [67])),(1,none,(.int .i64 1))] [.str [],.int .i64 0,.nils,.nils]) fun d=>
  B.pv (A.bld [(0,none,(.str [68])),(1,none,(.int .i64 1))] [.str [],.int .i64 0,.nils,.nils]) fun e=>
  B.pv (A.bld [(0,none,(.str [65])),(1,none,(.int .i64 2))] [.str [],.int .i64 0]) fun f=>
  B.newO h (ze2 [(0,some 2,f)] (repL 1 [.str [],.int .i64 0])) fun g h=>
  B.pv (A.bld [(0,none,(.str [75])),(2,none,(.sl g 0 0 1 2 1))] [.str [],.int .i64 0,.nils,.nils]) fun i=>
  B.newO h (ze2 [(0,some 4,a),(4,some 4,c),(8,some 4,d),(12,some 4,e),(16,some 4,i)] (repL 5 [.str [],.int .i64 0,.nils,.nils])) fun j h=>
  Q (.sl j 0 0 5 4 5) h
@[simp] def zfc.cps (C:CSem) (N:zN) (h:za) (Q:zQ):Prop:=
 zfc.k1 C N Q h
def zfc.Imp (C:CSem) (N:zN):Prop:=im0 C (N 562) (zfc.cps C N)
@[simp] def zd1.k1 (C:CSem) (N:zN) (Q:zQ) (Y1:zL) (b m a:AVal) (h:za):Prop:=
 B.pv (V.zbj b) fun c=>
  B.pv (V.bin .lss a c) fun d=>
  B.cond d
  (B.pv (V.idxS 1 b a) fun e=>
  B.ld h e fun f=>
  B.pv (V.idxS 1 m a) fun g=>
  B.ld h g fun i=>
  B.call C (N 133) [f,i] h fun j h=>
  B.pv (V.un .not j) fun k=>
  B.cond k
  (Q (.bool false) h)
  (B.pv (V.bin .add a (.int .i64 1)) fun l=>
  Y1 [l] h))
  (Q (.bool true) h)
@[simp] def zd1.l2 (C:CSem) (N:zN) (Q:zQ) (a b:AVal):zG
 | [c],h,Y1=>zd1.k1 C N Q Y1 a b c h
 | _,_,_=>False
@[simp] def zd1.k3 (C:CSem) (N:zN) (Q:zQ) (a b:AVal) (h:za):Prop:=
 B.pv (V.zbj a) fun d=>
  B.pv (V.zbj b) fun e=>
  B.pv (V.bin .neq d e) fun c=>
  B.cond c
  (Q (.bool false) h)
  (zg (zd1.l2 C N Q a b) [(.int .i64 0)] h)
@[simp] def zd1.cps (C:CSem) (N:zN) (a b:AVal) (h:za) (Q:zQ):Prop:=
 zd1.k3 C N Q a b h
def zd1.Imp (C:CSem) (N:zN):Prop:=im2 C (N 563) (zd1.cps C N)
@[simp] def zb3.k1 (C:CSem) (N:zN) (Q:zQ) (Y1:zL) (Y2:zL) (e b c d:AVal) (h:za):Prop:=
 B.pv (V.idxS 4 e c) fun f=>
  B.pv (V.fieldAddr 3 f) fun g=>
  B.ld h g fun i=>
  B.pv (V.zbj i) fun j=>
  B.pv (V.bin .lss d j) fun a=>
  B.gd h a true (fun K=>K b h) fun k h=>
  B.gd h a true (fun K=>B.pv (V.bin .leq k (.int .i64 2000)) fun v=>K v h) fun l h=>
  B.pick a l (.bool false) fun m=>
  B.cond m
  (B.pv (V.idxS 4 e c) fun n=>
  B.pv (V.fieldAddr 3 n) fun o=>
  B.ld h o fun p=>
  B.pv (V.idxS 1 p d) fun q=>
  B.ld h q fun r=>
  B.pv (V.zl2 r) fun s=>
  B.pv (V.bin .quo s (.int .i64 20)) fun t=>
  B.pv (V.bin .add b t) fun u=>
  B.pv (V.bin .add d (.int .i64 1)) fun w=>
  Y2 [u,w] h)
  (B.pv (V.bin .add c (.int .i64 1)) fun x=>
  Y1 [b,x] h)
@[simp] def zb3.l2 (C:CSem) (N:zN) (Q:zQ) (Y1:zL) (a b:AVal):zG
 | [c,d],h,Y2=>zb3.k1 C N Q Y1 Y2 a c b d h
 | _,_,_=>False
@[simp] def zb3.k3 (C:CSem) (N:zN) (Q:zQ) (Y1:zL) (Y3:zL) (b c d e:AVal) (h:za):Prop:=
 B.pv (V.idxS 4 b d) fun f=>
  B.pv (V.fieldAddr 2 f) fun g=>
  B.ld h g fun i=>
  B.pv (V.zbj i) fun j=>
  B.pv (V.bin .lss e j) fun a=>
  B.gd h a true (fun K=>K c h) fun k h=>
  B.gd h a true (fun K=>B.pv (V.bin .leq k (.int .i64 2000)) fun v=>K v h) fun l h=>
  B.pick a l (.bool false) fun m=>
  B.cond m
  (B.pv (V.idxS 4 b d) fun n=>
  B.pv (V.fieldAddr 2 n) fun o=>
  B.ld h o fun p=>
  B.pv (V.idxS 2 p e) fun q=>
  B.pv (V.fieldAddr 0 q) fun r=>
  B.ld h r fun s=>
  B.pv (V.zl2 s) fun t=>
  B.pv (V.bin .quo t (.int .i64 20)) fun u=>
  B.pv (V.bin .add c u) fun w=>
  B.pv (V.bin .add e (.int .i64 1)) fun x=>
  Y3 [w,x] h)
  (zg (zb3.l2 C N Q Y1 b d) [c,(.int .i64 0)] h)
@[simp] def zb3.l4 (C:CSem) (N:zN) (Q:zQ) (Y1:zL) (a b:AVal):zG
 | [c,d],h,Y3=>zb3.k3 C N Q Y1 Y3 a c b d h
 | _,_,_=>False
@[simp] def zb3.k5 (C:CSem) (N:zN) (Q:zQ) (Y1:zL) (a u b:AVal) (h:za):Prop:=
 B.pv (V.bin .add u (.int .i64 1)) fun c=>
  B.pv (V.idxS 4 a b) fun d=>
  B.pv (V.fieldAddr 0 d) fun e=>
  B.ld h e fun f=>
  B.pv (V.zl2 f) fun g=>
  B.pv (V.bin .quo g (.int .i64 20)) fun i=>
  B.pv (V.bin .add c i) fun j=>
  B.pv (V.idxS 4 a b) fun k=>
  B.pv (V.fieldAddr 2 k) fun l=>
  B.ld h l fun m=>
  B.pv (V.zbj m) fun n=>
  B.pv (V.bin .add j n) fun o=>
  B.pv (V.idxS 4 a b) fun p=>
  B.pv (V.fieldAddr 3 p) fun q=>
  B.ld h q fun r=>
  B.pv (V.zbj r) fun s=>
  B.pv (V.bin .add o s) fun t=>
  zg (zb3.l4 C N Q Y1 a b) [t,(.int .i64 0)] h
@[simp] def zb3.k6 (C:CSem) (N:zN) (Q:zQ) (Y1:zL) (c b d:AVal) (h:za):Prop:=
 B.pv (V.zbj c) fun i=>
  B.pv (V.bin .lss d i) fun a=>
  B.gd h a true (fun K=>K b h) fun e h=>
  B.gd h a true (fun K=>B.pv (V.bin .leq e (.int .i64 2000)) fun v=>K v h) fun f h=>
  B.pick a f (.bool false) fun g=>
  B.cond g
  (zb3.k5 C N Q Y1 c b d h)
  (Q b h)
@[simp] def zb3.l7 (C:CSem) (N:zN) (Q:zQ) (a:AVal):zG
 | [b,c],h,Y1=>zb3.k6 C N Q Y1 a b c h
 | _,_,_=>False
@[simp] def zb3.cps (C:CSem) (N:zN) (a:AVal) (h:za) (Q:zQ):Prop:=
 zg (zb3.l7 C N Q a) [(.int .i64 0),(.int .i64 0)] h
def zb3.Imp (C:CSem) (N:zN):Prop:=im1 C (N 564) (zb3.cps C N)
@[simp] def zd6.k1 (C:CSem) (N:zN) (Q:zQ) (f g:AVal) (h:za):Prop:=
 B.call C (N 555) [f,g] h fun m h=>
  B.cond m
  (B.call C (N 556) [] h fun n h=>
  Q n h)
  (B.call C (N 391) [f] h fun b h=>
  B.call C (N 406) [g] h fun e h=>
  B.call C (N 554) [b] h fun j h=>
  B.call C (N 554) [b] h fun o h=>
  B.call C (N 553) [b,e] h fun k h=>
  B.call C (N 553) [b,e] h fun p h=>
  B.call C (N 392) [b,f] h fun q h=>
  B.pv (V.un .not q) fun d=>
  B.gd h d false (fun K=>K e h) fun r h=>
  B.gd h d false (fun K=>K g h) fun s h=>
  B.gd h d false (fun K=>B.call C (N 407) [r,s] h K) fun t h=>
  B.gd h d false (fun K=>B.pv (V.un .not t) fun v=>K v h) fun u h=>
  B.pick d (.bool true) u fun w=>
  B.cond w
  (Q (.bool false) h)
  (B.call C (N 393) [b] h fun ap h=>
  B.call C (N 409) [e] h fun aq h=>
  B.call C (N 593) [f] h fun x h=>
  B.call C (N 563) [j,x] h fun c h=>
  B.gd h c true (fun K=>K k h) fun y h=>
  B.gd h c true (fun K=>K f h) fun z h=>
  B.gd h c true (fun K=>K g h) fun aa h=>
  B.gd h c true (fun K=>B.call C (N 594) [z,aa] h K) fun ab h=>
  B.gd h c true (fun K=>B.call C (N 133) [y,ab] h K) fun ac h=>
  B.pick c ac (.bool false) fun a=>
  B.gd h a true (fun K=>K .sz h) fun ad h=>
  B.gd h a true (fun K=>K j h) fun ae h=>
  B.gd h a true (fun K=>B.appW h 1 24 ad ae K) fun af h=>
  B.gd h a true (fun K=>K o h) fun ag h=>
  B.gd h a true (fun K=>B.appW h 1 24 af ag K) fun ah h=>
  B.gd h a true (fun K=>K k h) fun ai h=>
  B.gd h a true (fun K=>K p h) fun aj h=>
  B.gd h a true (fun K=>B.newO h (ze2 [(0,none,ai),(1,none,aj)] (repL 2 [.nils])) fun i h=>K (.sl i 0 0 2 1 2) h) fun ak h=>
  B.gd h a true (fun K=>B.appW h 1 24 ah ak K) fun al h=>
  B.gd h a true (fun K=>B.call C (N 396) [al] h K) fun am h=>
  B.pick a am (.bool false) fun l=>
  B.gd h l true (fun K=>B.call C (N 556) [] h K) fun an h=>
  B.pick l an (.bool false) fun ao=>
  Q ao h))
@[simp] def zd6.cps (C:CSem) (N:zN) (a b:AVal) (h:za) (Q:zQ):Prop:=
 zd6.k1 C N Q a b h
def zd6.Imp (C:CSem) (N:zN):Prop:=im2 C (N 595) (zd6.cps C N)
@[simp] def zeq.k1 (C:CSem) (N:zN) (Q:zQ) (a:AVal) (h:za):Prop:=
 B.cond (.bool false)
  (B.pv (V.toInt .u32 a) fun b=>
  B.call C (N 304) [b] h fun c h=>
  Q c h)
  (B.call C (N 305) [a] h fun d h=>
  Q d h)
@[simp] def zeq.cps (C:CSem) (N:zN) (a:AVal) (h:za) (Q:zQ):Prop:=
 zeq.k1 C N Q a h
def zeq.Imp (C:CSem) (N:zN):Prop:=im1 C (N 287) (zeq.cps C N)
@[simp] def zb2.k1 (C:CSem) (N:zN) (Q:zQ) (e f:AVal) (h:za):Prop:=
 B.pv (V.toInt .u8 e) fun a=>
  B.pv (V.zp4 (.str [0,1,2,2,3,3,3,3,4,4,4,4,4,4,4,4,5,5,5,5,5,5,5,5,5,5,5,5,5,5,5,5,6,6,6,6,6,6,6,6,6,6,6,6,6,6,6,6,6,6,6,6,6,6,6,6,6,6,6,6,6,6,6,6,7,7,7,7,7,7,7,7,7,7,7,7,7,7,7,7,7,7,7,7,7,7,7,7,7,7,7,7,7,7,7,7,7,7,7,7,7,7,7,7,7,7,7,7,7,7,7,7,7,7,7,7,7,7,7,7,7,7,7,7,7,7,7,7,8,8,8,8,8,8,8,8,8,8,8,8,8,8,8,8,8,8,8,8,8,8,8,8,8,8,8,8,8,8,8,8,8,8,8,8,8,8,8,8,8,8,8,8,8,8,8,8,8,8,8,8,8,8,8,8,8,8,8,8,8,8,8,8,8,8,8,8,8,8,8,8,8,8,8,8,8,8,8,8,8,8,8,8,8,8,8,8,8,8,8,8,8,8,8,8,8,8,8,8,8,8,8,8,8,8,8,8,8,8,8,8,8,8,8,8,8,8,8,8,8,8,8,8,8,8,8,8]) a) fun b=>
  B.pv (V.toInt .i64 b) fun c=>
  B.pv (V.bin .add f c) fun d=>
  Q d h
@[simp] def zb2.k2 (C:CSem) (N:zN) (Q:zQ) (a b:AVal) (h:za):Prop:=
 B.pv (V.bin .geq a (.int .u64 256)) fun c=>
  B.cond c
  (B.pv (V.bin .shr a (.int .u64 8)) fun d=>
  B.pv (V.bin .add b (.int .i64 8)) fun e=>
  zb2.k1 C N Q d e h)
  (zb2.k1 C N Q a b h)
@[simp] def zb2.k3 (C:CSem) (N:zN) (Q:zQ) (a b:AVal) (h:za):Prop:=
 B.pv (V.bin .geq a (.int .u64 65536)) fun e=>
  B.cond e
  (B.pv (V.bin .shr a (.int .u64 16)) fun c=>
  B.pv (V.bin .add b (.int .i64 16)) fun d=>
  zb2.k2 C N Q c d h)
  (zb2.k2 C N Q a b h)
@[simp] def zb2.k4 (C:CSem) (N:zN) (Q:zQ) (a b:AVal) (h:za):Prop:=
 B.pv (V.bin .geq a (.int .u64 4294967296)) fun c=>
  B.cond c
  (B.pv (V.bin .shr a (.int .u64 32)) fun d=>
  zb2.k3 C N Q d (.int .i64 32) h)
  (zb2.k3 C N Q a b h)
@[simp] def zb2.cps (C:CSem) (N:zN) (a:AVal) (h:za) (Q:zQ):Prop:=
 zb2.k4 C N Q a (.int .i64 0) h
def zb2.Imp (C:CSem) (N:zN):Prop:=im1 C (N 305) (zb2.cps C N)
@[simp] def zfb.k1 (C:CSem) (N:zN) (Q:zQ) (Y1:zL) (r d e f a:AVal) (h:za):Prop:=
 B.pv (V.zbj f) fun g=>
  B.pv (V.bin .lss a g) fun i=>
  B.cond i
  (B.pv (V.idxS 1 f a) fun j=>
  B.ld h j fun k=>
  B.call C (N 600) [e,k] h fun l h=>
  B.cond l
  (B.pv (V.bin .add a (.int .i64 1)) fun b=>
  Y1 [d,e,b] h)
  (B.pv (V.idxS 1 f a) fun m=>
  B.ld h m fun n=>
  B.call C (N 601) [r,n] h fun c h=>
  B.newO h (ze2 [(0,none,c)] (repL 1 [.nils])) fun o h=>
  B.appW h 1 24 d (.sl o 0 0 1 1 1) fun p h=>
  B.appW h 1 16 e c fun q h=>
  B.pv (V.bin .add a (.int .i64 1)) fun b=>
  Y1 [p,q,b] h))
  (Q d h)
@[simp] def zfb.l2 (C:CSem) (N:zN) (Q:zQ) (a b:AVal):zG
 | [c,d,e],h,Y1=>zfb.k1 C N Q Y1 a c d b e h
 | _,_,_=>False
@[simp] def zfb.cps (C:CSem) (N:zN) (a:AVal) (h:za) (Q:zQ):Prop:=
 B.call C (N 602) [a] h fun b h=>
  zg (zfb.l2 C N Q a b) [.nils,.nils,(.int .i64 0)] h
def zfb.Imp (C:CSem) (N:zN):Prop:=im1 C (N 593) (zfb.cps C N)
@[simp] def zc0.k1 (C:CSem) (N:zN) (Q:zQ) (Y1:zL) (Y2:zL) (m n b o l c a:AVal) (h:za):Prop:=
 B.pv (V.zbj c) fun d=>
  B.pv (V.bin .lss a d) fun e=>
  B.cond e
  (B.pv (V.idxS 1 c a) fun f=>
  B.ld h f fun g=>
  B.call C (N 603) [b,g] h fun i h=>
  B.pv (V.bin .add a (.int .i64 1)) fun j=>
  Y2 [i,j] h)
  (B.pv (V.bin .add l (.int .i64 1)) fun k=>
  Y1 [b,k] h)
@[simp] def zc0.l2 (C:CSem) (N:zN) (Q:zQ) (Y1:zL) (a b c d e:AVal):zG
 | [f,g],h,Y2=>zc0.k1 C N Q Y1 Y2 a b f c d e g h
 | _,_,_=>False
@[simp] def zc0.k3 (C:CSem) (N:zN) (Q:zQ) (Y1:zL) (c a e d b m:AVal) (h:za):Prop:=
 B.pv (V.idxS 1 a b) fun f=>
  B.ld h f fun g=>
  B.call C (N 600) [d,g] h fun i h=>
  B.cond i
  (B.pv (V.idxS 1 a b) fun j=>
  B.ld h j fun k=>
  B.call C (N 601) [c,k] h fun l h=>
  zg (zc0.l2 C N Q Y1 c a d b l) [e,(.int .i64 0)] h)
  (zg (zc0.l2 C N Q Y1 c a d b m) [e,(.int .i64 0)] h)
@[simp] def zc0.k4 (C:CSem) (N:zN) (Q:zQ) (Y1:zL) (f a g i b:AVal) (h:za):Prop:=
 B.pv (V.idxS 1 a b) fun c=>
  B.ld h c fun d=>
  B.newO h (ze2 [(0,none,d)] (repL 1 [.str []])) fun e h=>
  zc0.k3 C N Q Y1 f a g i b (.sl e 0 0 1 1 1) h
@[simp] def zc0.l5 (C:CSem) (N:zN) (Q:zQ) (f a g:AVal):zG
 | [b,c],h,Y1=>B.pv (V.zbj a) fun d=>
  B.pv (V.bin .lss c d) fun e=>
  B.cond e
  (zc0.k4 C N Q Y1 f a b g c h)
  (Q b h)
 | _,_,_=>False
@[simp] def zc0.cps (C:CSem) (N:zN) (a c:AVal) (h:za) (Q:zQ):Prop:=
 B.call C (N 602) [a] h fun b h=>
  zg (zc0.l5 C N Q a c b) [.nils,(.int .i64 0)] h
def zc0.Imp (C:CSem) (N:zN):Prop:=im2 C (N 594) (zc0.cps C N)
@[simp] def ze0.k1 (C:CSem) (N:zN) (Q:zQ) (Y1:zL) (b g a:AVal) (h:za):Prop:=
 B.pv (V.zbj b) fun i=>
  B.pv (V.bin .lss a i) fun j=>
  B.cond j
  (B.pv (V.idxS 1 b a) fun c=>
  B.ld h c fun d=>
  B.pv (V.bin .eql d g) fun e=>
  B.cond e
  (Q (.bool true) h)
  (B.pv (V.bin .add a (.int .i64 1)) fun f=>
  Y1 [f] h))
  (Q (.bool false) h)
@[simp] def ze0.l2 (C:CSem) (N:zN) (Q:zQ) (a b:AVal):zG
 | [c],h,Y1=>ze0.k1 C N Q Y1 a b c h
 | _,_,_=>False
@[simp] def ze0.cps (C:CSem) (N:zN) (a b:AVal) (h:za) (Q:zQ):Prop:=
 zg (ze0.l2 C N Q a b) [(.int .i64 0)] h
def ze0.Imp (C:CSem) (N:zN):Prop:=im2 C (N 600) (ze0.cps C N)
@[simp] def zbz.k1 (C:CSem) (N:zN) (Q:zQ) (Y1:zL) (Y2:zL) (Y3:zL) (q r d s p a c b:AVal) (h:za):Prop:=
 B.gd h a true (fun K=>K b h) fun e h=>
  B.gd h a true (fun K=>K c h) fun f h=>
  B.gd h a true (fun K=>B.pv (V.zbj f) fun v=>K v h) fun g h=>
  B.gd h a true (fun K=>B.pv (V.bin .lss e g) fun v=>K v h) fun i h=>
  B.pick a i (.bool false) fun j=>
  B.cond j
  (B.pv (V.idxS 1 c b) fun k=>
  B.ld h k fun l=>
  B.call C (N 603) [d,l] h fun m h=>
  B.pv (V.bin .add b (.int .i64 1)) fun n=>
  Y3 [m,n] h)
  (B.pv (V.bin .add p (.int .i64 1)) fun o=>
  Y2 [d,o] h)
@[simp] def zbz.l2 (C:CSem) (N:zN) (Q:zQ) (Y1:zL) (Y2:zL) (c d e f g a:AVal):zG
 | [i,b],h,Y3=>zbz.k1 C N Q Y1 Y2 Y3 c d i e f g a b h
 | _,_,_=>False
@[simp] def zbz.k3 (C:CSem) (N:zN) (Q:zQ) (Y1:zL) (Y2:zL) (b c d k e:AVal) (h:za):Prop:=
 B.pv (V.idxS 4 b e) fun f=>
  B.ldn h f 4 fun g=>
  B.call C (N 604) [g,c,d] h fun a h=>
  B.pv (V.ext 0 a) fun i=>
  B.pv (V.ext 1 a) fun j=>
  zg (zbz.l2 C N Q Y1 Y2 b c k e i j) [d,(.int .i64 0)] h
@[simp] def zbz.l4 (C:CSem) (N:zN) (Q:zQ) (Y1:zL) (a g b:AVal):zG
 | [c,d],h,Y2=>B.pv (V.zbj a) fun e=>
  B.pv (V.bin .lss d e) fun f=>
  B.cond f
  (zbz.k3 C N Q Y1 Y2 a g c b d h)
  (Y1 [c,b] h)
 | _,_,_=>False
@[simp] def zbz.k5 (C:CSem) (N:zN) (Q:zQ) (Y1:zL) (e f a g:AVal) (h:za):Prop:=
 B.pv (V.zbj a) fun b=>
  B.pv (V.bin .neq g b) fun c=>
  B.cond c
  (B.pv (V.zbj a) fun d=>
  zg (zbz.l4 C N Q Y1 e f d) [a,(.int .i64 0)] h)
  (Q a h)
@[simp] def zbz.l6 (C:CSem) (N:zN) (Q:zQ) (a b:AVal):zG
 | [c,d],h,Y1=>zbz.k5 C N Q Y1 a b c d h
 | _,_,_=>False
@[simp] def zbz.k7 (C:CSem) (N:zN) (Q:zQ) (a d:AVal) (h:za):Prop:=
 B.call C (N 602) [a] h fun b h=>
  B.newO h (ze2 [(0,none,d)] (repL 1 [.str []])) fun c h=>
  zg (zbz.l6 C N Q a b) [(.sl c 0 0 1 1 1),(.int .i64 0)] h
@[simp] def zbz.cps (C:CSem) (N:zN) (a b:AVal) (h:za) (Q:zQ):Prop:=
 zbz.k7 C N Q a b h
def zbz.Imp (C:CSem) (N:zN):Prop:=im2 C (N 601) (zbz.cps C N)
@[simp] def zdv.k1 (C:CSem) (N:zN) (Q:zQ) (Y1:zL) (b c a:AVal) (h:za):Prop:=
 B.pv (V.zbj b) fun j=>
  B.pv (V.bin .lss a j) fun k=>
  B.cond k
  (B.pv (V.idxS 4 b a) fun d=>
  B.pv (V.fieldAddr 0 d) fun e=>
  B.ld h e fun f=>
  B.call C (N 603) [c,f] h fun g h=>
  B.pv (V.bin .add a (.int .i64 1)) fun i=>
  Y1 [g,i] h)
  (Q c h)
@[simp] def zdv.l2 (C:CSem) (N:zN) (Q:zQ) (a:AVal):zG
 | [b,c],h,Y1=>zdv.k1 C N Q Y1 a b c h
 | _,_,_=>False
@[simp] def zdv.cps (C:CSem) (N:zN) (a:AVal) (h:za) (Q:zQ):Prop:=
 zg (zdv.l2 C N Q a) [.nils,(.int .i64 0)] h
def zdv.Imp (C:CSem) (N:zN):Prop:=im1 C (N 602) (zdv.cps C N)
@[simp] def zdz.k1 (C:CSem) (N:zN) (Q:zQ) (b d c:AVal) (h:za):Prop:=
 B.pv (V.zbj b) fun e=>
  B.pv (V.bin .lss c e) fun a=>
  B.gd h a true (fun K=>K b h) fun f h=>
  B.gd h a true (fun K=>K c h) fun g h=>
  B.gd h a true (fun K=>B.pv (V.idxS 1 f g) fun v=>K v h) fun i h=>
  B.gd h a true (fun K=>B.ld h i fun v=>K v h) fun j h=>
  B.gd h a true (fun K=>K d h) fun k h=>
  B.gd h a true (fun K=>B.pv (V.bin .eql j k) fun v=>K v h) fun l h=>
  B.pick a l (.bool false) fun m=>
  B.cond m
  (Q b h)
  (B.pv (V.zgp 1 b none (some c)) fun n=>
  B.appW h 1 16 .sz n fun o h=>
  B.newO h (ze2 [(0,none,d)] (repL 1 [.str []])) fun p h=>
  B.appW h 1 16 o (.sl p 0 0 1 1 1) fun q h=>
  B.pv (V.zgp 1 b (some c) none) fun r=>
  B.appW h 1 16 q r fun s h=>
  Q s h)
@[simp] def zdz.k2 (C:CSem) (N:zN) (Q:zQ) (Y1:zL) (c d b:AVal) (h:za):Prop:=
 B.pv (V.zbj c) fun n=>
  B.pv (V.bin .lss b n) fun a=>
  B.gd h a true (fun K=>K c h) fun e h=>
  B.gd h a true (fun K=>K b h) fun f h=>
  B.gd h a true (fun K=>B.pv (V.idxS 1 e f) fun v=>K v h) fun g h=>
  B.gd h a true (fun K=>B.ld h g fun v=>K v h) fun i h=>
  B.gd h a true (fun K=>K d h) fun j h=>
  B.gd h a true (fun K=>B.pv (V.bin .lss i j) fun v=>K v h) fun k h=>
  B.pick a k (.bool false) fun l=>
  B.cond l
  (B.pv (V.bin .add b (.int .i64 1)) fun m=>
  Y1 [m] h)
  (zdz.k1 C N Q c d b h)
@[simp] def zdz.l3 (C:CSem) (N:zN) (Q:zQ) (a b:AVal):zG
 | [c],h,Y1=>zdz.k2 C N Q Y1 a b c h
 | _,_,_=>False
@[simp] def zdz.cps (C:CSem) (N:zN) (a b:AVal) (h:za) (Q:zQ):Prop:=
 zg (zdz.l3 C N Q a b) [(.int .i64 0)] h
def zdz.Imp (C:CSem) (N:zN):Prop:=im2 C (N 603) (zdz.cps C N)
@[simp] def zbp.k1 (C:CSem) (N:zN) (Q:zQ) (Y1:zL) (x y e c a b:AVal) (h:za):Prop:=
 B.pv (V.zbj e) fun f=>
  B.pv (V.bin .lss b f) fun g=>
  B.cond g
  (B.pv (V.idxS 1 e b) fun i=>
  B.ld h i fun j=>
  B.call C (N 600) [x,j] h fun k h=>
  B.cond k
  (B.pv (V.idxS 1 e b) fun l=>
  B.ld h l fun m=>
  B.newO h (ze2 [(0,none,m)] (repL 1 [.str []])) fun n h=>
  B.appW h 1 16 c (.sl n 0 0 1 1 1) fun o h=>
  B.gd h a false (fun K=>K y h) fun p h=>
  B.gd h a false (fun K=>K e h) fun q h=>
  B.gd h a false (fun K=>K b h) fun r h=>
  B.gd h a false (fun K=>B.pv (V.idxS 1 q r) fun v=>K v h) fun s h=>
  B.gd h a false (fun K=>B.ld h s fun v=>K v h) fun t h=>
  B.gd h a false (fun K=>B.call C (N 600) [p,t] h K) fun u h=>
  B.pick a (.bool true) u fun w=>
  B.pv (V.bin .add b (.int .i64 1)) fun d=>
  Y1 [o,w,d] h)
  (B.pv (V.bin .add b (.int .i64 1)) fun d=>
  Y1 [c,a,d] h))
  (Q (.tup [a,c]) h)
@[simp] def zbp.l2 (C:CSem) (N:zN) (Q:zQ) (d e f:AVal):zG
 | [a,b,c],h,Y1=>zbp.k1 C N Q Y1 d e f a b c h
 | _,_,_=>False
@[simp] def zbp.k3 (C:CSem) (N:zN) (Q:zQ) (d e f a:AVal) (h:za):Prop:=
 B.al a (B.pv (V.zd2 3 a) fun b=>
  B.appW h 1 16 f b fun c h=>
  zg (zbp.l2 C N Q d e c) [.nils,(.bool false),(.int .i64 0)] h)
@[simp] def zbp.k4 (C:CSem) (N:zN) (Q:zQ) (Y2:zL) (o p c b a:AVal) (h:za):Prop:=
 B.al a (B.pv (V.zd2 2 a) fun d=>
  B.pv (V.zbj d) fun e=>
  B.pv (V.bin .lss b e) fun f=>
  B.cond f
  (B.al a (B.pv (V.zd2 2 a) fun g=>
  B.pv (V.idxS 2 g b) fun i=>
  B.pv (V.fieldAddr 0 i) fun j=>
  B.ld h j fun k=>
  B.newO h (ze2 [(0,none,k)] (repL 1 [.str []])) fun l h=>
  B.appW h 1 16 c (.sl l 0 0 1 1 1) fun m h=>
  B.pv (V.bin .add b (.int .i64 1)) fun n=>
  Y2 [m,n] h))
  (zbp.k3 C N Q o p c a h))
@[simp] def zbp.l5 (C:CSem) (N:zN) (Q:zQ) (a b c:AVal):zG
 | [d,e],h,Y2=>zbp.k4 C N Q Y2 a b d e c h
 | _,_,_=>False
@[simp] def zbp.k6 (C:CSem) (N:zN) (Q:zQ) (d e a:AVal) (h:za):Prop:=
 B.al a (B.pv (V.zd2 0 a) fun b=>
  B.newO h (ze2 [(0,none,b)] (repL 1 [.str []])) fun c h=>
  zg (zbp.l5 C N Q d e a) [(.sl c 0 0 1 1 1),(.int .i64 0)] h)
@[simp] def zbp.cps (C:CSem) (N:zN) (a b c:AVal) (h:za) (Q:zQ):Prop:=
 B.pv (A.boxN 4 a) fun d=>
  zbp.k6 C N Q b c d h
def zbp.Imp (C:CSem) (N:zN):Prop:=im3 C (N 604) (zbp.cps C N)
@[simp] def zmd.cps (C:CSem) (E:zx) (a:AVal) (h:za) (Q:zQ):Prop:=
 B.pv (V.eqSl .eql a .nils) fun b=>
  B.cond b
  (Q .nils h)
  (B.appW h E.es E.bytes .sz a fun c h=>
  Q c h)
@[simp] def zbh.k1 (C:CSem) (E:zx) (Q:zQ) (Y1:zL) (Y2:zL) (c v1 v2 v3 v8 b:AVal) (h:za):Prop:=
 B.pv (V.bin .gtr b v1) fun a=>
  B.gd h a true (fun K=>K v3 h) fun d h=>
  B.gd h a true (fun K=>K c h) fun e h=>
  B.gd h a true (fun K=>K b h) fun f h=>
  B.gd h a true (fun K=>B.pv (V.idxS E.es e f) fun v=>K v h) fun g h=>
  B.gd h a true (fun K=>E.ld h g fun v=>K v h) fun i h=>
  B.gd h a true (fun K=>K c h) fun j h=>
  B.gd h a true (fun K=>K b h) fun k h=>
  B.gd h a true (fun K=>B.pv (V.bin .sub k (.int .i64 1)) fun v=>K v h) fun l h=>
  B.gd h a true (fun K=>B.pv (V.idxS E.es j l) fun v=>K v h) fun m h=>
  B.gd h a true (fun K=>E.ld h m fun v=>K v h) fun n h=>
  B.gd h a true (fun K=>B.zhi h C d [i,n] K) fun o h=>
  B.gd h a true (fun K=>B.pv (V.bin .lss o (.int .i64 0)) fun v=>K v h) fun p h=>
  B.pick a p (.bool false) fun q=>
  B.cond q
  (B.pv (V.bin .sub b (.int .i64 1)) fun r=>
  B.pv (V.bin .sub b (.int .i64 1)) fun s=>
  B.pv (V.idxS E.es c s) fun t=>
  E.ld h t fun u=>
  B.pv (V.idxS E.es c b) fun w=>
  E.ld h w fun x=>
  B.pv (V.idxS E.es c b) fun y=>
  E.st h y u fun h=>
  B.pv (V.idxS E.es c r) fun z=>
  E.st h z x fun h=>
  B.pv (V.bin .sub b (.int .i64 1)) fun aa=>
  Y2 [aa] h)
  (B.pv (V.bin .add v8 (.int .i64 1)) fun ab=>
  Y1 [ab] h)
@[simp] def zbh.l2 (C:CSem) (E:zx) (Q:zQ) (Y1:zL) (a b c d e:AVal):zG
 | [f],h,Y2=>zbh.k1 C E Q Y1 Y2 a b c d e f h
 | _,_,_=>False
@[simp] def zbh.l3 (C:CSem) (E:zx) (Q:zQ) (d e b f:AVal):zG
 | [a],h,Y1=>B.pv (V.bin .lss a b) fun c=>
  B.cond c
  (zg (zbh.l2 C E Q Y1 d e b f a) [a] h)
  (Q (.tup []) h)
 | _,_,_=>False
@[simp] def zbh.cps (C:CSem) (E:zx) (c a d e:AVal) (h:za) (Q:zQ):Prop:=
 B.pv (V.bin .add a (.int .i64 1)) fun b=>
  zg (zbh.l3 C E Q c a d e) [b] h
@[simp] def zce.k1 (C:CSem) (E:zx) (Q:zQ) (Y1:zL) (f g i a:AVal) (h:za):Prop:=
 B.pv (V.bin .lss a i) fun j=>
  B.cond j
  (B.pv (V.idxS E.es f a) fun b=>
  E.ld h b fun c=>
  B.zhi h C g [c] fun d h=>
  B.cond d
  (Q a h)
  (B.pv (V.bin .add a (.int .i64 1)) fun e=>
  Y1 [e] h))
  (Q (.int .i64 (-1)) h)
@[simp] def zce.l2 (C:CSem) (E:zx) (Q:zQ) (a b c:AVal):zG
 | [d],h,Y1=>zce.k1 C E Q Y1 a b c d h
 | _,_,_=>False
@[simp] def zce.cps (C:CSem) (E:zx) (a b:AVal) (h:za) (Q:zQ):Prop:=
 B.pv (V.zbj a) fun c=>
  zg (zce.l2 C E Q a b c) [(.int .i64 0)] h
@[simp] def zke.cps (C:CSem) (E:zx) (f1:Nat) (a b:AVal) (h:za) (Q:zQ):Prop:=
 B.call C f1 [a,b] h fun c h=>
  B.pv (V.bin .geq c (.int .i64 0)) fun d=>
  Q d h
@[simp] def zg1.k1 (C:CSem) (E:zx) (f1 f2:Nat) (Q:zQ) (a e:AVal) (h:za):Prop:=
 B.pv (V.zbj a) fun b=>
  B.pv (V.toInt .u64 b) fun c=>
  B.call C f1 [c] h fun d h=>
  B.call C f2 [a,(.int .i64 0),b,d,e] h fun f h=>
  Q (.tup []) h
@[simp] def zg1.cps (C:CSem) (E:zx) (f1 f2:Nat) (a b:AVal) (h:za) (Q:zQ):Prop:=
 zg1.k1 C E f1 f2 Q a b h
@[simp] def zm.k1 (C:CSem) (E:zx) (f1 f2 f3 f4 f5 f6 f7 f8 f9:Nat) (Q:zQ) (Y1:zL) (d c e f g u w x i:AVal) (h:za):Prop:=
 B.pv (V.bin .gtr c (.int .i64 0)) fun a=>
  B.gd h a true (fun K=>K g h) fun y h=>
  B.gd h a true (fun K=>K d h) fun z h=>
  B.gd h a true (fun K=>K c h) fun aa h=>
  B.gd h a true (fun K=>B.pv (V.bin .sub aa (.int .i64 1)) fun v=>K v h) fun ab h=>
  B.gd h a true (fun K=>B.pv (V.idxS E.es z ab) fun v=>K v h) fun ac h=>
  B.gd h a true (fun K=>E.ld h ac fun v=>K v h) fun ad h=>
  B.gd h a true (fun K=>K d h) fun ae h=>
  B.gd h a true (fun K=>K i h) fun af h=>
  B.gd h a true (fun K=>B.pv (V.idxS E.es ae af) fun v=>K v h) fun ag h=>
  B.gd h a true (fun K=>E.ld h ag fun v=>K v h) fun ah h=>
  B.gd h a true (fun K=>B.zhi h C y [ad,ah] K) fun ai h=>
  B.gd h a true (fun K=>B.pv (V.bin .lss ai (.int .i64 0)) fun v=>K v h) fun aj h=>
  B.gd h a true (fun K=>B.pv (V.un .not aj) fun v=>K v h) fun ak h=>
  B.pick a ak (.bool false) fun al=>
  B.cond al
  (B.call C f1 [d,c,e,i,g] h fun o h=>
  Y1 [o,e,f,u,w] h)
  (B.call C f2 [d,c,e,i,g] h fun j h=>
  B.pv (V.ext 0 j) fun b=>
  B.pv (V.ext 1 j) fun k=>
  B.pv (V.bin .sub b c) fun l=>
  B.pv (V.bin .sub e b) fun m=>
  B.pv (V.bin .quo x (.int .i64 8)) fun n=>
  B.pv (V.bin .lss l m) fun p=>
  B.cond p
  (B.pv (V.bin .geq l n) fun q=>
  B.call C f3 [d,c,b,f,g] h fun am h=>
  B.pv (V.bin .add b (.int .i64 1)) fun r=>
  Y1 [r,e,f,q,k] h)
  (B.pv (V.bin .geq m n) fun s=>
  B.pv (V.bin .add b (.int .i64 1)) fun t=>
  B.call C f3 [d,t,e,f,g] h fun an h=>
  Y1 [c,b,f,s,k] h))
@[simp] def zm.k2 (C:CSem) (E:zx) (f1 f2 f3 f4 f5 f6 f7 f8 f9:Nat) (Q:zQ) (Y1:zL) (f g i k j a b d e l:AVal) (h:za):Prop:=
 B.gd h a true (fun K=>K b h) fun m h=>
  B.pick a m (.bool false) fun c=>
  B.gd h c true (fun K=>K l h) fun n h=>
  B.gd h c true (fun K=>B.pv (V.bin .eql n (.int .i64 1)) fun v=>K v h) fun o h=>
  B.pick c o (.bool false) fun p=>
  B.cond p
  (B.call C f4 [f,g,i,j] h fun q h=>
  B.cond q
  (Q (.tup []) h)
  (zm.k1 C E f1 f2 f3 f4 f5 f6 f7 f8 f9 Q Y1 f g i k j a b d e h))
  (zm.k1 C E f1 f2 f3 f4 f5 f6 f7 f8 f9 Q Y1 f g i k j a b d e h)
@[simp] def zm.k3 (C:CSem) (E:zx) (f1 f2 f3 f4 f5 f6 f7 f8 f9:Nat) (Q:zQ) (Y1:zL) (i a b k j c d e f g:AVal) (h:za):Prop:=
 B.pv (V.bin .eql g (.int .i64 2)) fun l=>
  B.cond l
  (B.call C f5 [i,a,b,j] h fun p h=>
  B.pv (V.bin .sub b (.int .i64 1)) fun m=>
  B.pv (V.bin .sub f a) fun n=>
  B.pv (V.bin .sub m n) fun o=>
  zm.k2 C E f1 f2 f3 f4 f5 f6 f7 f8 f9 Q Y1 i a b k j c d e o (.int .i64 1) h)
  (zm.k2 C E f1 f2 f3 f4 f5 f6 f7 f8 f9 Q Y1 i a b k j c d e f g h)
@[simp] def zm.k4 (C:CSem) (E:zx) (f1 f2 f3 f4 f5 f6 f7 f8 f9:Nat) (Q:zQ) (Y1:zL) (b c d l e f g i:AVal) (h:za):Prop:=
 B.call C f6 [b,c,d,e] h fun a h=>
  B.pv (V.ext 0 a) fun j=>
  B.pv (V.ext 1 a) fun k=>
  zm.k3 C E f1 f2 f3 f4 f5 f6 f7 f8 f9 Q Y1 b c d l e f g i j k h
@[simp] def zm.k5 (C:CSem) (E:zx) (f1 f2 f3 f4 f5 f6 f7 f8 f9:Nat) (Q:zQ) (Y1:zL) (d e f i g a b c:AVal) (h:za):Prop:=
 B.pv (V.un .not a) fun j=>
  B.cond j
  (B.call C f7 [d,e,f,g] h fun l h=>
  B.pv (V.bin .sub i (.int .i64 1)) fun k=>
  zm.k4 C E f1 f2 f3 f4 f5 f6 f7 f8 f9 Q Y1 d e f k g a b c h)
  (zm.k4 C E f1 f2 f3 f4 f5 f6 f7 f8 f9 Q Y1 d e f i g a b c h)
@[simp] def zm.k6 (C:CSem) (E:zx) (f1 f2 f3 f4 f5 f6 f7 f8 f9:Nat) (Q:zQ) (Y1:zL) (a b c d e f g i:AVal) (h:za):Prop:=
 B.pv (V.bin .eql d (.int .i64 0)) fun j=>
  B.cond j
  (B.call C f8 [a,b,c,e] h fun k h=>
  Q (.tup []) h)
  (zm.k5 C E f1 f2 f3 f4 f5 f6 f7 f8 f9 Q Y1 a b c d e f g i h)
@[simp] def zm.k7 (C:CSem) (E:zx) (f1 f2 f3 f4 f5 f6 f7 f8 f9:Nat) (Q:zQ) (Y1:zL) (b c d j e f g a:AVal) (h:za):Prop:=
 B.pv (V.bin .leq a (.int .i64 12)) fun i=>
  B.cond i
  (B.call C f9 [b,c,d,e] h fun k h=>
  Q (.tup []) h)
  (zm.k6 C E f1 f2 f3 f4 f5 f6 f7 f8 f9 Q Y1 b c d j e f g a h)
@[simp] def zm.l8 (C:CSem) (E:zx) (f1 f2 f3 f4 f5 f6 f7 f8 f9:Nat) (Q:zQ) (f g:AVal):zG
 | [a,b,i,c,d],h,Y1=>B.pv (V.bin .sub b a) fun e=>
  zm.k7 C E f1 f2 f3 f4 f5 f6 f7 f8 f9 Q Y1 f a b i g c d e h
 | _,_,_=>False
@[simp] def zm.cps (C:CSem) (E:zx) (f1 f2 f3 f4 f5 f6 f7 f8 f9:Nat) (a b c d e:AVal) (h:za) (Q:zQ):Prop:=
 zg (zm.l8 C E f1 f2 f3 f4 f5 f6 f7 f8 f9 Q a e) [b,c,d,(.bool true),(.bool true)] h
@[simp] def zbc.k1 (C:CSem) (E:zx) (f1:Nat) (Q:zQ) (Y1:zL) (b o c p a:AVal) (h:za):Prop:=
 B.pv (V.bin .geq a (.int .i64 0)) fun d=>
  B.cond d
  (B.pv (V.bin .add c a) fun e=>
  B.pv (V.bin .add c a) fun f=>
  B.pv (V.idxS E.es b f) fun g=>
  E.ld h g fun i=>
  B.pv (V.idxS E.es b c) fun j=>
  E.ld h j fun k=>
  B.pv (V.idxS E.es b c) fun l=>
  E.st h l i fun h=>
  B.pv (V.idxS E.es b e) fun m=>
  E.st h m k fun h=>
  B.call C f1 [b,p,a,c,o] h fun q h=>
  B.pv (V.bin .sub a (.int .i64 1)) fun n=>
  Y1 [n] h)
  (Q (.tup []) h)
@[simp] def zbc.l2 (C:CSem) (E:zx) (f1:Nat) (Q:zQ) (b c d e:AVal):zG
 | [a],h,Y1=>zbc.k1 C E f1 Q Y1 b c d e a h
 | _,_,_=>False
@[simp] def zbc.k3 (C:CSem) (E:zx) (f1:Nat) (Q:zQ) (Y2:zL) (c d e j b a:AVal) (h:za):Prop:=
 B.pv (V.bin .geq a (.int .i64 0)) fun f=>
  B.cond f
  (B.call C f1 [c,a,b,e,d] h fun k h=>
  B.pv (V.bin .sub a (.int .i64 1)) fun g=>
  Y2 [g] h)
  (B.pv (V.bin .sub b (.int .i64 1)) fun i=>
  zg (zbc.l2 C E f1 Q c d e j) [i] h)
@[simp] def zbc.l4 (C:CSem) (E:zx) (f1:Nat) (Q:zQ) (c d e f a:AVal):zG
 | [b],h,Y2=>zbc.k3 C E f1 Q Y2 c d e f a b h
 | _,_,_=>False
@[simp] def zbc.k5 (C:CSem) (E:zx) (f1:Nat) (Q:zQ) (d e f g a:AVal) (h:za):Prop:=
 B.pv (V.bin .sub a (.int .i64 1)) fun b=>
  B.pv (V.bin .quo b (.int .i64 2)) fun c=>
  zg (zbc.l4 C E f1 Q d e f g a) [c] h
@[simp] def zbc.cps (C:CSem) (E:zx) (f1:Nat) (c a d e:AVal) (h:za) (Q:zQ):Prop:=
 B.pv (V.bin .sub d a) fun b=>
  zbc.k5 C E f1 Q c e a (.int .i64 0) b h
@[simp] def zk.k1 (C:CSem) (E:zx) (f1 f2:Nat) (Q:zQ) (Y1:zL) (b d p q o a c:AVal) (h:za):Prop:=
 B.pv (V.bin .add d c) fun e=>
  B.pv (V.bin .add d c) fun f=>
  B.pv (V.idxS E.es b f) fun g=>
  E.ld h g fun i=>
  B.pv (V.idxS E.es b a) fun j=>
  E.ld h j fun k=>
  B.pv (V.idxS E.es b a) fun l=>
  E.st h l i fun h=>
  B.pv (V.idxS E.es b e) fun m=>
  E.st h m k fun h=>
  B.pv (V.bin .add a (.int .i64 1)) fun n=>
  Y1 [n] h
@[simp] def zk.k2 (C:CSem) (E:zx) (f1 f2:Nat) (Q:zQ) (Y1:zL) (e f b g c d a:AVal) (h:za):Prop:=
 B.pv (V.bin .geq a b) fun i=>
  B.cond i
  (B.pv (V.bin .sub a b) fun j=>
  zk.k1 C E f1 f2 Q Y1 e f b g c d j h)
  (zk.k1 C E f1 f2 Q Y1 e f b g c d a h)
@[simp] def zk.k3 (C:CSem) (E:zx) (f1 f2:Nat) (Q:zQ) (Y1:zL) (i j k b a c:AVal) (h:za):Prop:=
 B.call C f1 [b] h fun d h=>
  B.pv (V.bin .sub a (.int .u64 1)) fun e=>
  B.pv (V.bin .and d e) fun f=>
  B.pv (V.toInt .i64 f) fun g=>
  zk.k2 C E f1 f2 Q Y1 i j k b a c g h
@[simp] def zk.k4 (C:CSem) (E:zx) (f1 f2:Nat) (Q:zQ) (Y1:zL) (k b c l d a:AVal) (h:za):Prop:=
 B.pv (V.bin .quo c (.int .i64 4)) fun e=>
  B.pv (V.bin .mul e (.int .i64 2)) fun f=>
  B.pv (V.bin .add b f) fun g=>
  B.pv (V.bin .add g (.int .i64 1)) fun i=>
  B.pv (V.bin .leq a i) fun j=>
  B.cond j
  (zk.k3 C E f1 f2 Q Y1 k b c l d a h)
  (Q (.tup []) h)
@[simp] def zk.l5 (C:CSem) (E:zx) (f1 f2:Nat) (Q:zQ) (c d e f a:AVal):zG
 | [b],h,Y1=>zk.k4 C E f1 f2 Q Y1 c d e f a b h
 | _,_,_=>False
@[simp] def zk.k6 (C:CSem) (E:zx) (f1 f2:Nat) (Q:zQ) (i a b j c:AVal) (h:za):Prop:=
 B.pv (V.bin .quo b (.int .i64 4)) fun d=>
  B.pv (V.bin .mul d (.int .i64 2)) fun e=>
  B.pv (V.bin .add a e) fun f=>
  B.pv (V.bin .sub f (.int .i64 1)) fun g=>
  zg (zk.l5 C E f1 f2 Q i a b j c) [g] h
@[simp] def zk.k7 (C:CSem) (E:zx) (f1 f2:Nat) (Q:zQ) (e f a:AVal) (h:za):Prop:=
 B.pv (V.toInt .u64 a) fun b=>
  B.newO h (some [.int .u64 0]) fun c h=>
  B.st h (.ptr c 0 0) b fun h=>
  B.call C f2 [a] h fun d h=>
  zk.k6 C E f1 f2 Q e f a (.ptr c 0 0) d h
@[simp] def zk.k8 (C:CSem) (E:zx) (f1 f2:Nat) (Q:zQ) (d b e:AVal) (h:za):Prop:=
 B.pv (V.bin .sub e b) fun a=>
  B.pv (V.bin .geq a (.int .i64 8)) fun c=>
  B.cond c (zk.k7 C E f1 f2 Q d b a h) (Q (.tup []) h)
@[simp] def zk.cps (C:CSem) (E:zx) (f1 f2:Nat) (a b c d:AVal) (h:za) (Q:zQ):Prop:=
 zk.k8 C E f1 f2 Q a b c h
@[simp] def zp.k1 (C:CSem) (E:zx) (f1 f2:Nat) (Q:zQ) (c a:AVal) (h:za):Prop:=
 B.ld h c fun b=>
  B.pv (V.bin .eql b (.int .i64 0)) fun d=>
  B.cond d
  (Q (.tup [a,(.int .i64 1)]) h)
  (B.pv (V.bin .eql b (.int .i64 12)) fun e=>
  B.cond e
  (Q (.tup [a,(.int .i64 2)]) h)
  (Q (.tup [a,(.int .i64 0)]) h))
@[simp] def zp.k2 (C:CSem) (E:zx) (f1 f2:Nat) (Q:zQ) (b c i a e f g:AVal) (h:za):Prop:=
 B.pv (V.bin .geq i (.int .i64 50)) fun j=>
  B.cond j
  (B.call C f2 [b,e,a,c] h fun k h=>
  B.call C f2 [b,f,a,c] h fun l h=>
  B.call C f2 [b,g,a,c] h fun m h=>
  B.call C f1 [b,k,l,m,a,c] h fun d h=>
  zp.k1 C E f1 f2 Q a d h)
  (B.call C f1 [b,e,f,g,a,c] h fun d h=>
  zp.k1 C E f1 f2 Q a d h)
@[simp] def zp.k3 (C:CSem) (E:zx) (f1 f2:Nat) (Q:zQ) (g i a b d c e:AVal) (h:za):Prop:=
 B.pv (V.bin .geq a (.int .i64 8)) fun f=>
  B.cond f (zp.k2 C E f1 f2 Q g i a b d c e h) (zp.k1 C E f1 f2 Q b c h)
@[simp] def zp.k4 (C:CSem) (E:zx) (f1 f2:Nat) (Q:zQ) (i j k a b c d:AVal) (h:za):Prop:=
 B.pv (V.bin .quo a (.int .i64 4)) fun e=>
  B.pv (V.bin .mul e (.int .i64 3)) fun f=>
  B.pv (V.bin .add j f) fun g=>
  zp.k3 C E f1 f2 Q i k a b c d g h
@[simp] def zp.k5 (C:CSem) (E:zx) (f1 f2:Nat) (Q:zQ) (i b j a c d:AVal) (h:za):Prop:=
 B.pv (V.bin .quo a (.int .i64 4)) fun e=>
  B.pv (V.bin .mul e (.int .i64 2)) fun f=>
  B.pv (V.bin .add b f) fun g=>
  zp.k4 C E f1 f2 Q i b j a c d g h
@[simp] def zp.k6 (C:CSem) (E:zx) (f1 f2:Nat) (Q:zQ) (g b i a c:AVal) (h:za):Prop:=
 B.pv (V.bin .quo a (.int .i64 4)) fun d=>
  B.pv (V.bin .mul d (.int .i64 1)) fun e=>
  B.pv (V.bin .add b e) fun f=>
  zp.k5 C E f1 f2 Q g b i a c f h
@[simp] def zp.cps (C:CSem) (E:zx) (f1 f2:Nat) (d a e f:AVal) (h:za) (Q:zQ):Prop:=
 B.pv (V.bin .sub e a) fun b=>
  B.newO h (some [.int .i64 0]) fun c h=>
  zp.k6 C E f1 f2 Q d a f b (.ptr c 0 0) h
@[simp] def zcv.k1 (C:CSem) (E:zx) (Q:zQ) (Y1:zL) (a b c:AVal) (h:za):Prop:=
 B.pv (V.bin .lss b c) fun d=>
  B.cond d
  (B.pv (V.idxS E.es a c) fun e=>
  E.ld h e fun f=>
  B.pv (V.idxS E.es a b) fun g=>
  E.ld h g fun i=>
  B.pv (V.idxS E.es a b) fun j=>
  E.st h j f fun h=>
  B.pv (V.idxS E.es a c) fun k=>
  E.st h k i fun h=>
  B.pv (V.bin .add b (.int .i64 1)) fun l=>
  B.pv (V.bin .sub c (.int .i64 1)) fun m=>
  Y1 [l,m] h)
  (Q (.tup []) h)
@[simp] def zcv.l2 (C:CSem) (E:zx) (Q:zQ) (a:AVal):zG
 | [b,c],h,Y1=>zcv.k1 C E Q Y1 a b c h
 | _,_,_=>False
@[simp] def zcv.cps (C:CSem) (E:zx) (b c d e:AVal) (h:za) (Q:zQ):Prop:=
 B.pv (V.bin .sub d (.int .i64 1)) fun a=>
  zg (zcv.l2 C E Q b) [c,a] h
@[simp] def zb.k1 (C:CSem) (E:zx) (Q:zQ) (Y1:zL) (Y2:zL) (b v1 y z x d a:AVal) (h:za):Prop:=
 B.pv (V.bin .lss a y) fun e=>
  B.cond e
  (B.pv (V.idxS E.es b a) fun f=>
  E.ld h f fun g=>
  B.pv (V.bin .sub a (.int .i64 1)) fun i=>
  B.pv (V.idxS E.es b i) fun j=>
  E.ld h j fun k=>
  B.zhi h C z [g,k] fun l h=>
  B.pv (V.bin .lss l (.int .i64 0)) fun m=>
  B.pv (V.un .not m) fun n=>
  B.cond n
  (B.pv (V.bin .add d (.int .i64 1)) fun c=>
  Y1 [x,c] h)
  (B.pv (V.bin .sub a (.int .i64 1)) fun o=>
  B.pv (V.bin .sub a (.int .i64 1)) fun p=>
  B.pv (V.idxS E.es b p) fun q=>
  E.ld h q fun r=>
  B.pv (V.idxS E.es b a) fun s=>
  E.ld h s fun t=>
  B.pv (V.idxS E.es b a) fun u=>
  E.st h u r fun h=>
  B.pv (V.idxS E.es b o) fun v=>
  E.st h v t fun h=>
  B.pv (V.bin .add a (.int .i64 1)) fun w=>
  Y2 [w] h))
  (B.pv (V.bin .add d (.int .i64 1)) fun c=>
  Y1 [x,c] h)
@[simp] def zb.l2 (C:CSem) (E:zx) (Q:zQ) (Y1:zL) (c d e f g a:AVal):zG
 | [b],h,Y2=>zb.k1 C E Q Y1 Y2 c d e f g a b h
 | _,_,_=>False
@[simp] def zb.k3 (C:CSem) (E:zx) (Q:zQ) (Y1:zL) (i j f k a b:AVal) (h:za):Prop:=
 B.pv (V.bin .sub f a) fun c=>
  B.pv (V.bin .geq c (.int .i64 2)) fun d=>
  B.cond d (B.pv (V.bin .add a (.int .i64 1)) fun e=>
  zg (zb.l2 C E Q Y1 i j f k a b) [e] h) (B.pv (V.bin .add b (.int .i64 1)) fun g=>
  Y1 [a,g] h)
@[simp] def zb.k4 (C:CSem) (E:zx) (Q:zQ) (Y1:zL) (Y3:zL) (b f g d i c a:AVal) (h:za):Prop:=
 B.pv (V.bin .geq a (.int .i64 1)) fun j=>
  B.cond j
  (B.pv (V.idxS E.es b a) fun k=>
  E.ld h k fun l=>
  B.pv (V.bin .sub a (.int .i64 1)) fun m=>
  B.pv (V.idxS E.es b m) fun n=>
  E.ld h n fun o=>
  B.zhi h C d [l,o] fun p h=>
  B.pv (V.bin .lss p (.int .i64 0)) fun q=>
  B.pv (V.un .not q) fun r=>
  B.cond r
  (zb.k3 C E Q Y1 b f g d i c h)
  (B.pv (V.bin .sub a (.int .i64 1)) fun s=>
  B.pv (V.bin .sub a (.int .i64 1)) fun t=>
  B.pv (V.idxS E.es b t) fun u=>
  E.ld h u fun v=>
  B.pv (V.idxS E.es b a) fun w=>
  E.ld h w fun x=>
  B.pv (V.idxS E.es b a) fun y=>
  E.st h y v fun h=>
  B.pv (V.idxS E.es b s) fun e=>
  E.st h e x fun h=>
  B.pv (V.bin .sub a (.int .i64 1)) fun z=>
  Y3 [z] h))
  (zb.k3 C E Q Y1 b f g d i c h)
@[simp] def zb.l5 (C:CSem) (E:zx) (Q:zQ) (Y1:zL) (c d e f g a:AVal):zG
 | [b],h,Y3=>zb.k4 C E Q Y1 Y3 c d e f g a b h
 | _,_,_=>False
@[simp] def zb.k6 (C:CSem) (E:zx) (Q:zQ) (Y1:zL) (d c e f a b:AVal) (h:za):Prop:=
 B.pv (V.bin .sub a c) fun g=>
  B.pv (V.bin .geq g (.int .i64 2)) fun i=>
  B.cond i (B.pv (V.bin .sub a (.int .i64 1)) fun j=>
  zg (zb.l5 C E Q Y1 d c e f a b) [j] h) (zb.k3 C E Q Y1 d c e f a b h)
@[simp] def zb.k7 (C:CSem) (E:zx) (Q:zQ) (Y1:zL) (a m n o b c:AVal) (h:za):Prop:=
 B.pv (V.bin .sub b (.int .i64 1)) fun d=>
  B.pv (V.bin .sub b (.int .i64 1)) fun e=>
  B.pv (V.idxS E.es a e) fun f=>
  E.ld h f fun g=>
  B.pv (V.idxS E.es a b) fun i=>
  E.ld h i fun j=>
  B.pv (V.idxS E.es a b) fun k=>
  E.st h k g fun h=>
  B.pv (V.idxS E.es a d) fun l=>
  E.st h l j fun h=>
  zb.k6 C E Q Y1 a m n o b c h
@[simp] def zb.k8 (C:CSem) (E:zx) (Q:zQ) (Y1:zL) (f a b g i c:AVal) (h:za):Prop:=
 B.pv (V.bin .sub b a) fun d=>
  B.pv (V.bin .lss d (.int .i64 50)) fun e=>
  B.cond e
  (Q (.bool false) h)
  (zb.k7 C E Q Y1 f a b g i c h)
@[simp] def zb.k9 (C:CSem) (E:zx) (Q:zQ) (Y1:zL) (Y4:zL) (c y d e b f:AVal) (h:za):Prop:=
 B.pv (V.bin .lss b d) fun a=>
  B.gd h a true (fun K=>K e h) fun g h=>
  B.gd h a true (fun K=>K c h) fun i h=>
  B.gd h a true (fun K=>K b h) fun j h=>
  B.gd h a true (fun K=>B.pv (V.idxS E.es i j) fun v=>K v h) fun k h=>
  B.gd h a true (fun K=>E.ld h k fun v=>K v h) fun l h=>
  B.gd h a true (fun K=>K c h) fun m h=>
  B.gd h a true (fun K=>K b h) fun n h=>
  B.gd h a true (fun K=>B.pv (V.bin .sub n (.int .i64 1)) fun v=>K v h) fun o h=>
  B.gd h a true (fun K=>B.pv (V.idxS E.es m o) fun v=>K v h) fun p h=>
  B.gd h a true (fun K=>E.ld h p fun v=>K v h) fun q h=>
  B.gd h a true (fun K=>B.zhi h C g [l,q] K) fun r h=>
  B.gd h a true (fun K=>B.pv (V.bin .lss r (.int .i64 0)) fun v=>K v h) fun s h=>
  B.gd h a true (fun K=>B.pv (V.un .not s) fun v=>K v h) fun t h=>
  B.pick a t (.bool false) fun u=>
  B.cond u
  (B.pv (V.bin .add b (.int .i64 1)) fun w=>
  Y4 [w] h)
  (B.pv (V.bin .eql b d) fun x=>
  B.cond x
  (Q (.bool true) h)
  (zb.k8 C E Q Y1 c y d e b f h))
@[simp] def zb.l10 (C:CSem) (E:zx) (Q:zQ) (Y1:zL) (b c d e a:AVal):zG
 | [f],h,Y4=>zb.k9 C E Q Y1 Y4 b c d e f a h
 | _,_,_=>False
@[simp] def zb.k11 (C:CSem) (E:zx) (Q:zQ) (Y1:zL) (c d e f g a:AVal) (h:za):Prop:=
 B.pv (V.bin .lss a (.int .i64 5)) fun b=>
  B.cond b
  (zg (zb.l10 C E Q Y1 c d e f a) [g] h)
  (Q (.bool false) h)
@[simp] def zb.l12 (C:CSem) (E:zx) (Q:zQ) (b c d e:AVal):zG
 | [f,a],h,Y1=>zb.k11 C E Q Y1 b c d e f a h
 | _,_,_=>False
@[simp] def zb.cps (C:CSem) (E:zx) (c a d e:AVal) (h:za) (Q:zQ):Prop:=
 B.pv (V.bin .add a (.int .i64 1)) fun b=>
  zg (zb.l12 C E Q c a d e) [b,(.int .i64 0)] h
@[simp] def zj.k1 (C:CSem) (E:zx) (Q:zQ) (Y1:zL) (c n o a b:AVal) (h:za):Prop:=
 B.pv (V.bin .gtr a b) fun d=>
  B.cond d
  (Q a h)
  (B.pv (V.idxS E.es c b) fun e=>
  E.ld h e fun f=>
  B.pv (V.idxS E.es c a) fun g=>
  E.ld h g fun i=>
  B.pv (V.idxS E.es c a) fun j=>
  E.st h j f fun h=>
  B.pv (V.idxS E.es c b) fun k=>
  E.st h k i fun h=>
  B.pv (V.bin .add a (.int .i64 1)) fun l=>
  B.pv (V.bin .sub b (.int .i64 1)) fun m=>
  Y1 [l,m] h)
@[simp] def zj.k2 (C:CSem) (E:zx) (Q:zQ) (Y1:zL) (Y2:zL) (d e f c b:AVal) (h:za):Prop:=
 B.pv (V.bin .leq c b) fun a=>
  B.gd h a true (fun K=>K f h) fun g h=>
  B.gd h a true (fun K=>K d h) fun i h=>
  B.gd h a true (fun K=>K e h) fun j h=>
  B.gd h a true (fun K=>B.pv (V.idxS E.es i j) fun v=>K v h) fun k h=>
  B.gd h a true (fun K=>E.ld h k fun v=>K v h) fun l h=>
  B.gd h a true (fun K=>K d h) fun m h=>
  B.gd h a true (fun K=>K b h) fun n h=>
  B.gd h a true (fun K=>B.pv (V.idxS E.es m n) fun v=>K v h) fun o h=>
  B.gd h a true (fun K=>E.ld h o fun v=>K v h) fun p h=>
  B.gd h a true (fun K=>B.zhi h C g [l,p] K) fun q h=>
  B.gd h a true (fun K=>B.pv (V.bin .lss q (.int .i64 0)) fun v=>K v h) fun r h=>
  B.pick a r (.bool false) fun s=>
  B.cond s
  (B.pv (V.bin .sub b (.int .i64 1)) fun t=>
  Y2 [t] h)
  (zj.k1 C E Q Y1 d e f c b h)
@[simp] def zj.l3 (C:CSem) (E:zx) (Q:zQ) (Y1:zL) (c d e a:AVal):zG
 | [b],h,Y2=>zj.k2 C E Q Y1 Y2 c d e a b h
 | _,_,_=>False
@[simp] def zj.k4 (C:CSem) (E:zx) (Q:zQ) (Y1:zL) (Y3:zL) (d e f b c:AVal) (h:za):Prop:=
 B.pv (V.bin .leq b c) fun a=>
  B.gd h a true (fun K=>K f h) fun g h=>
  B.gd h a true (fun K=>K d h) fun i h=>
  B.gd h a true (fun K=>K e h) fun j h=>
  B.gd h a true (fun K=>B.pv (V.idxS E.es i j) fun v=>K v h) fun k h=>
  B.gd h a true (fun K=>E.ld h k fun v=>K v h) fun l h=>
  B.gd h a true (fun K=>K d h) fun m h=>
  B.gd h a true (fun K=>K b h) fun n h=>
  B.gd h a true (fun K=>B.pv (V.idxS E.es m n) fun v=>K v h) fun o h=>
  B.gd h a true (fun K=>E.ld h o fun v=>K v h) fun p h=>
  B.gd h a true (fun K=>B.zhi h C g [l,p] K) fun q h=>
  B.gd h a true (fun K=>B.pv (V.bin .lss q (.int .i64 0)) fun v=>K v h) fun r h=>
  B.gd h a true (fun K=>B.pv (V.un .not r) fun v=>K v h) fun s h=>
  B.pick a s (.bool false) fun t=>
  B.cond t
  (B.pv (V.bin .add b (.int .i64 1)) fun u=>
  Y3 [u] h)
  (zg (zj.l3 C E Q Y1 d e f b) [c] h)
@[simp] def zj.l5 (C:CSem) (E:zx) (Q:zQ) (Y1:zL) (c d e a:AVal):zG
 | [b],h,Y3=>zj.k4 C E Q Y1 Y3 c d e b a h
 | _,_,_=>False
@[simp] def zj.l6 (C:CSem) (E:zx) (Q:zQ) (c d e:AVal):zG
 | [a,b],h,Y1=>zg (zj.l5 C E Q Y1 c d e b) [a] h
 | _,_,_=>False
@[simp] def zj.k7 (C:CSem) (E:zx) (Q:zQ) (d a e f:AVal) (h:za):Prop:=
 B.pv (V.bin .add a (.int .i64 1)) fun b=>
  B.pv (V.bin .sub e (.int .i64 1)) fun c=>
  zg (zj.l6 C E Q d a f) [b,c] h
@[simp] def zj.k8 (C:CSem) (E:zx) (Q:zQ) (a b k c l:AVal) (h:za):Prop:=
 B.pv (V.idxS E.es a c) fun d=>
  E.ld h d fun e=>
  B.pv (V.idxS E.es a b) fun f=>
  E.ld h f fun g=>
  B.pv (V.idxS E.es a b) fun i=>
  E.st h i e fun h=>
  B.pv (V.idxS E.es a c) fun j=>
  E.st h j g fun h=>
  zj.k7 C E Q a b k l h
@[simp] def zj.cps (C:CSem) (E:zx) (a b c d e:AVal) (h:za) (Q:zQ):Prop:=
 zj.k8 C E Q a b c d e h
@[simp] def ze.k1 (C:CSem) (E:zx) (Q:zQ) (b j a:AVal) (h:za):Prop:=
 B.pv (V.idxS E.es b j) fun c=>
  E.ld h c fun d=>
  B.pv (V.idxS E.es b a) fun e=>
  E.ld h e fun f=>
  B.pv (V.idxS E.es b a) fun g=>
  E.st h g d fun h=>
  B.pv (V.idxS E.es b j) fun i=>
  E.st h i f fun h=>
  Q (.tup [a,(.bool false)]) h
@[simp] def ze.k2 (C:CSem) (E:zx) (Q:zQ) (Y1:zL) (c n o b a:AVal) (h:za):Prop:=
 B.pv (V.bin .gtr b a) fun d=>
  B.cond d
  (ze.k1 C E Q c n a h)
  (B.pv (V.idxS E.es c a) fun e=>
  E.ld h e fun f=>
  B.pv (V.idxS E.es c b) fun g=>
  E.ld h g fun i=>
  B.pv (V.idxS E.es c b) fun j=>
  E.st h j f fun h=>
  B.pv (V.idxS E.es c a) fun k=>
  E.st h k i fun h=>
  B.pv (V.bin .add b (.int .i64 1)) fun l=>
  B.pv (V.bin .sub a (.int .i64 1)) fun m=>
  Y1 [l,m] h)
@[simp] def ze.k3 (C:CSem) (E:zx) (Q:zQ) (Y1:zL) (Y2:zL) (d t u c b:AVal) (h:za):Prop:=
 B.pv (V.bin .leq c b) fun a=>
  B.gd h a true (fun K=>K u h) fun e h=>
  B.gd h a true (fun K=>K d h) fun f h=>
  B.gd h a true (fun K=>K b h) fun g h=>
  B.gd h a true (fun K=>B.pv (V.idxS E.es f g) fun v=>K v h) fun i h=>
  B.gd h a true (fun K=>E.ld h i fun v=>K v h) fun j h=>
  B.gd h a true (fun K=>K d h) fun k h=>
  B.gd h a true (fun K=>K t h) fun l h=>
  B.gd h a true (fun K=>B.pv (V.idxS E.es k l) fun v=>K v h) fun m h=>
  B.gd h a true (fun K=>E.ld h m fun v=>K v h) fun n h=>
  B.gd h a true (fun K=>B.zhi h C e [j,n] K) fun o h=>
  B.gd h a true (fun K=>B.pv (V.bin .lss o (.int .i64 0)) fun v=>K v h) fun p h=>
  B.gd h a true (fun K=>B.pv (V.un .not p) fun v=>K v h) fun q h=>
  B.pick a q (.bool false) fun r=>
  B.cond r
  (B.pv (V.bin .sub b (.int .i64 1)) fun s=>
  Y2 [s] h)
  (ze.k2 C E Q Y1 d t u c b h)
@[simp] def ze.l4 (C:CSem) (E:zx) (Q:zQ) (Y1:zL) (c d e a:AVal):zG
 | [b],h,Y2=>ze.k3 C E Q Y1 Y2 c d e a b h
 | _,_,_=>False
@[simp] def ze.k5 (C:CSem) (E:zx) (Q:zQ) (Y1:zL) (Y3:zL) (d s t b c:AVal) (h:za):Prop:=
 B.pv (V.bin .leq b c) fun a=>
  B.gd h a true (fun K=>K t h) fun e h=>
  B.gd h a true (fun K=>K d h) fun f h=>
  B.gd h a true (fun K=>K b h) fun g h=>
  B.gd h a true (fun K=>B.pv (V.idxS E.es f g) fun v=>K v h) fun i h=>
  B.gd h a true (fun K=>E.ld h i fun v=>K v h) fun j h=>
  B.gd h a true (fun K=>K d h) fun k h=>
  B.gd h a true (fun K=>K s h) fun l h=>
  B.gd h a true (fun K=>B.pv (V.idxS E.es k l) fun v=>K v h) fun m h=>
  B.gd h a true (fun K=>E.ld h m fun v=>K v h) fun n h=>
  B.gd h a true (fun K=>B.zhi h C e [j,n] K) fun o h=>
  B.gd h a true (fun K=>B.pv (V.bin .lss o (.int .i64 0)) fun v=>K v h) fun p h=>
  B.pick a p (.bool false) fun q=>
  B.cond q
  (B.pv (V.bin .add b (.int .i64 1)) fun r=>
  Y3 [r] h)
  (zg (ze.l4 C E Q Y1 d s t b) [c] h)
@[simp] def ze.l6 (C:CSem) (E:zx) (Q:zQ) (Y1:zL) (c d e a:AVal):zG
 | [b],h,Y3=>ze.k5 C E Q Y1 Y3 c d e b a h
 | _,_,_=>False
@[simp] def ze.l7 (C:CSem) (E:zx) (Q:zQ) (c d e:AVal):zG
 | [a,b],h,Y1=>zg (ze.l6 C E Q Y1 c d e b) [a] h
 | _,_,_=>False
@[simp] def ze.k8 (C:CSem) (E:zx) (Q:zQ) (e f g c d:AVal) (h:za):Prop:=
 B.pv (V.bin .add c (.int .i64 1)) fun a=>
  B.pv (V.bin .sub d (.int .i64 1)) fun b=>
  zg (ze.l7 C E Q e f g) [a,b] h
@[simp] def ze.k9 (C:CSem) (E:zx) (Q:zQ) (a k l b c:AVal) (h:za):Prop:=
 B.pv (V.idxS E.es a c) fun e=>
  E.ld h e fun f=>
  B.pv (V.idxS E.es a b) fun g=>
  E.ld h g fun i=>
  B.pv (V.idxS E.es a b) fun j=>
  E.st h j f fun h=>
  B.pv (V.idxS E.es a c) fun d=>
  E.st h d i fun h=>
  ze.k8 C E Q a k l b c h
@[simp] def ze.k10 (C:CSem) (E:zx) (Q:zQ) (b d m c a:AVal) (h:za):Prop:=
 B.pv (V.bin .gtr c a) fun e=>
  B.cond e
  (B.pv (V.idxS E.es b d) fun f=>
  E.ld h f fun g=>
  B.pv (V.idxS E.es b a) fun i=>
  E.ld h i fun j=>
  B.pv (V.idxS E.es b a) fun k=>
  E.st h k g fun h=>
  B.pv (V.idxS E.es b d) fun l=>
  E.st h l j fun h=>
  Q (.tup [a,(.bool true)]) h)
  (ze.k9 C E Q b d m c a h)
@[simp] def ze.k11 (C:CSem) (E:zx) (Q:zQ) (Y4:zL) (d e f c b:AVal) (h:za):Prop:=
 B.pv (V.bin .leq c b) fun a=>
  B.gd h a true (fun K=>K f h) fun g h=>
  B.gd h a true (fun K=>K d h) fun i h=>
  B.gd h a true (fun K=>K b h) fun j h=>
  B.gd h a true (fun K=>B.pv (V.idxS E.es i j) fun v=>K v h) fun k h=>
  B.gd h a true (fun K=>E.ld h k fun v=>K v h) fun l h=>
  B.gd h a true (fun K=>K d h) fun m h=>
  B.gd h a true (fun K=>K e h) fun n h=>
  B.gd h a true (fun K=>B.pv (V.idxS E.es m n) fun v=>K v h) fun o h=>
  B.gd h a true (fun K=>E.ld h o fun v=>K v h) fun p h=>
  B.gd h a true (fun K=>B.zhi h C g [l,p] K) fun q h=>
  B.gd h a true (fun K=>B.pv (V.bin .lss q (.int .i64 0)) fun v=>K v h) fun r h=>
  B.gd h a true (fun K=>B.pv (V.un .not r) fun v=>K v h) fun s h=>
  B.pick a s (.bool false) fun t=>
  B.cond t
  (B.pv (V.bin .sub b (.int .i64 1)) fun u=>
  Y4 [u] h)
  (ze.k10 C E Q d e f c b h)
@[simp] def ze.l12 (C:CSem) (E:zx) (Q:zQ) (c d e a:AVal):zG
 | [b],h,Y4=>ze.k11 C E Q Y4 c d e a b h
 | _,_,_=>False
@[simp] def ze.k13 (C:CSem) (E:zx) (Q:zQ) (Y5:zL) (d e f b c:AVal) (h:za):Prop:=
 B.pv (V.bin .leq b c) fun a=>
  B.gd h a true (fun K=>K f h) fun g h=>
  B.gd h a true (fun K=>K d h) fun i h=>
  B.gd h a true (fun K=>K b h) fun j h=>
  B.gd h a true (fun K=>B.pv (V.idxS E.es i j) fun v=>K v h) fun k h=>
  B.gd h a true (fun K=>E.ld h k fun v=>K v h) fun l h=>
  B.gd h a true (fun K=>K d h) fun m h=>
  B.gd h a true (fun K=>K e h) fun n h=>
  B.gd h a true (fun K=>B.pv (V.idxS E.es m n) fun v=>K v h) fun o h=>
  B.gd h a true (fun K=>E.ld h o fun v=>K v h) fun p h=>
  B.gd h a true (fun K=>B.zhi h C g [l,p] K) fun q h=>
  B.gd h a true (fun K=>B.pv (V.bin .lss q (.int .i64 0)) fun v=>K v h) fun r h=>
  B.pick a r (.bool false) fun s=>
  B.cond s
  (B.pv (V.bin .add b (.int .i64 1)) fun t=>
  Y5 [t] h)
  (zg (ze.l12 C E Q d e f b) [c] h)
@[simp] def ze.l14 (C:CSem) (E:zx) (Q:zQ) (c d e a:AVal):zG
 | [b],h,Y5=>ze.k13 C E Q Y5 c d e b a h
 | _,_,_=>False
@[simp] def ze.k15 (C:CSem) (E:zx) (Q:zQ) (d a e f:AVal) (h:za):Prop:=
 B.pv (V.bin .add a (.int .i64 1)) fun b=>
  B.pv (V.bin .sub e (.int .i64 1)) fun c=>
  zg (ze.l14 C E Q d a f c) [b] h
@[simp] def ze.k16 (C:CSem) (E:zx) (Q:zQ) (a b k c l:AVal) (h:za):Prop:=
 B.pv (V.idxS E.es a c) fun d=>
  E.ld h d fun e=>
  B.pv (V.idxS E.es a b) fun f=>
  E.ld h f fun g=>
  B.pv (V.idxS E.es a b) fun i=>
  E.st h i e fun h=>
  B.pv (V.idxS E.es a c) fun j=>
  E.st h j g fun h=>
  ze.k15 C E Q a b k l h
@[simp] def ze.cps (C:CSem) (E:zx) (a b c d e:AVal) (h:za) (Q:zQ):Prop:=
 ze.k16 C E Q a b c d e h
@[simp] def zbk.k1 (C:CSem) (E:zx) (Q:zQ) (Y1:zL) (b z c y d a:AVal) (h:za):Prop:=
 B.pv (V.bin .add c d) fun e=>
  B.pv (V.idxS E.es b e) fun f=>
  E.ld h f fun g=>
  B.pv (V.bin .add c a) fun i=>
  B.pv (V.idxS E.es b i) fun j=>
  E.ld h j fun k=>
  B.zhi h C y [g,k] fun l h=>
  B.pv (V.bin .lss l (.int .i64 0)) fun m=>
  B.pv (V.un .not m) fun n=>
  B.cond n
  (Q (.tup []) h)
  (B.pv (V.bin .add c d) fun o=>
  B.pv (V.bin .add c a) fun p=>
  B.pv (V.bin .add c a) fun q=>
  B.pv (V.idxS E.es b q) fun r=>
  E.ld h r fun s=>
  B.pv (V.bin .add c d) fun t=>
  B.pv (V.idxS E.es b t) fun u=>
  E.ld h u fun v=>
  B.pv (V.idxS E.es b o) fun w=>
  E.st h w s fun h=>
  B.pv (V.idxS E.es b p) fun x=>
  E.st h x v fun h=>
  Y1 [a] h)
@[simp] def zbk.k2 (C:CSem) (E:zx) (Q:zQ) (Y1:zL) (c f d g e b:AVal) (h:za):Prop:=
 B.pv (V.bin .add b (.int .i64 1)) fun i=>
  B.pv (V.bin .lss i f) fun a=>
  B.gd h a true (fun K=>K g h) fun j h=>
  B.gd h a true (fun K=>K c h) fun k h=>
  B.gd h a true (fun K=>K d h) fun l h=>
  B.gd h a true (fun K=>K b h) fun m h=>
  B.gd h a true (fun K=>B.pv (V.bin .add l m) fun v=>K v h) fun n h=>
  B.gd h a true (fun K=>B.pv (V.idxS E.es k n) fun v=>K v h) fun o h=>
  B.gd h a true (fun K=>E.ld h o fun v=>K v h) fun p h=>
  B.gd h a true (fun K=>K c h) fun q h=>
  B.gd h a true (fun K=>K d h) fun r h=>
  B.gd h a true (fun K=>K b h) fun s h=>
  B.gd h a true (fun K=>B.pv (V.bin .add r s) fun v=>K v h) fun t h=>
  B.gd h a true (fun K=>B.pv (V.bin .add t (.int .i64 1)) fun v=>K v h) fun u h=>
  B.gd h a true (fun K=>B.pv (V.idxS E.es q u) fun v=>K v h) fun w h=>
  B.gd h a true (fun K=>E.ld h w fun v=>K v h) fun x h=>
  B.gd h a true (fun K=>B.zhi h C j [p,x] K) fun y h=>
  B.gd h a true (fun K=>B.pv (V.bin .lss y (.int .i64 0)) fun v=>K v h) fun z h=>
  B.pick a z (.bool false) fun aa=>
  B.cond aa
  (B.pv (V.bin .add b (.int .i64 1)) fun ab=>
  zbk.k1 C E Q Y1 c f d g e ab h)
  (zbk.k1 C E Q Y1 c f d g e b h)
@[simp] def zbk.k3 (C:CSem) (E:zx) (Q:zQ) (Y1:zL) (f c g i a:AVal) (h:za):Prop:=
 B.pv (V.bin .mul (.int .i64 2) a) fun d=>
  B.pv (V.bin .add d (.int .i64 1)) fun b=>
  B.pv (V.bin .geq b c) fun e=>
  B.cond e
  (Q (.tup []) h)
  (zbk.k2 C E Q Y1 f c g i a b h)
@[simp] def zbk.l4 (C:CSem) (E:zx) (Q:zQ) (b c d e:AVal):zG
 | [a],h,Y1=>zbk.k3 C E Q Y1 b c d e a h
 | _,_,_=>False
@[simp] def zbk.cps (C:CSem) (E:zx) (a b c d e:AVal) (h:za) (Q:zQ):Prop:=
 zg (zbk.l4 C E Q a c d e) [b] h
@[simp] def zea.k1 (C:CSem) (E:zx) (f1:Nat) (Q:zQ) (e a f g:AVal) (h:za):Prop:=
 B.pv (V.bin .sub a (.int .i64 1)) fun b=>
  B.pv (V.bin .add a (.int .i64 1)) fun c=>
  B.call C f1 [e,b,a,c,f,g] h fun d h=>
  Q d h
@[simp] def zea.cps (C:CSem) (E:zx) (f1:Nat) (a b c d:AVal) (h:za) (Q:zQ):Prop:=
 zea.k1 C E f1 Q a b c d h
@[simp] def zfh.k1 (C:CSem) (E:zx) (f1:Nat) (Q:zQ) (d l m n e f:AVal) (h:za):Prop:=
 B.call C f1 [d,l,m,e,f] h fun a h=>
  B.pv (V.ext 0 a) fun g=>
  B.pv (V.ext 1 a) fun i=>
  B.call C f1 [d,i,n,e,f] h fun b h=>
  B.pv (V.ext 0 b) fun j=>
  B.pv (V.ext 1 b) fun o=>
  B.call C f1 [d,g,j,e,f] h fun c h=>
  B.pv (V.ext 0 c) fun p=>
  B.pv (V.ext 1 c) fun k=>
  Q k h
@[simp] def zfh.cps (C:CSem) (E:zx) (f1:Nat) (a b c d e f:AVal) (h:za) (Q:zQ):Prop:=
 zfh.k1 C E f1 Q a b c d e f h
@[simp] def zfg.k1 (C:CSem) (E:zx) (Q:zQ) (c a b d p:AVal) (h:za):Prop:=
 B.pv (V.idxS E.es c b) fun e=>
  E.ld h e fun f=>
  B.pv (V.idxS E.es c a) fun g=>
  E.ld h g fun i=>
  B.zhi h C p [f,i] fun j h=>
  B.pv (V.bin .lss j (.int .i64 0)) fun k=>
  B.cond k
  (B.nilCheck d fun l=>
  B.ld h l fun m=>
  B.pv (V.bin .add m (.int .i64 1)) fun n=>
  B.nilCheck d fun o=>
  B.st h o n fun h=>
  Q (.tup [b,a]) h)
  (Q (.tup [a,b]) h)
@[simp] def zfg.cps (C:CSem) (E:zx) (a b c d e:AVal) (h:za) (Q:zQ):Prop:=
 zfg.k1 C E Q a b c d e h
@[simp] def zi3.k1 (C:CSem) (E:zx) (f1 f2:Nat) (Q:zQ) (a:AVal) (h:za):Prop:=
 B.pv (V.zbj a) fun b=>
  B.pv (V.toInt .u64 b) fun c=>
  B.call C f1 [c] h fun d h=>
  B.call C f2 [a,(.int .i64 0),b,d] h fun e h=>
  Q (.tup []) h
@[simp] def zi3.cps (C:CSem) (E:zx) (f1 f2:Nat) (a:AVal) (h:za) (Q:zQ):Prop:=
 zi3.k1 C E f1 f2 Q a h
@[simp] def zcw.k1 (C:CSem) (E:zx) (Q:zQ) (Y1:zL) (Y2:zL) (e b d a:AVal) (h:za):Prop:=
 B.pv (V.zbj d) fun f=>
  B.pv (V.bin .lss a f) fun g=>
  B.cond g
  (B.pv (V.idxS E.es d a) fun i=>
  E.ld h i fun j=>
  B.pv (V.bin .sub a (.int .i64 1)) fun k=>
  B.pv (V.idxS E.es d k) fun l=>
  E.ld h l fun m=>
  B.pv (V.bin .neq j m) fun n=>
  B.cond n
  (B.pv (V.idxS E.es d a) fun o=>
  E.ld h o fun p=>
  B.pv (V.idxS E.es e b) fun q=>
  E.st h q p fun h=>
  B.pv (V.bin .add b (.int .i64 1)) fun r=>
  B.pv (V.bin .add a (.int .i64 1)) fun c=>
  Y2 [r,c] h)
  (B.pv (V.bin .add a (.int .i64 1)) fun c=>
  Y2 [b,c] h))
  (B.pv (V.zgp E.es e (some b) none) fun s=>
  B.clr h E.z s fun _ h=>
  B.pv (V.zgp E.es e none (some b)) fun t=>
  Q t h)
@[simp] def zcw.l2 (C:CSem) (E:zx) (Q:zQ) (Y1:zL) (a b:AVal):zG
 | [c,d],h,Y2=>zcw.k1 C E Q Y1 Y2 a c b d h
 | _,_,_=>False
@[simp] def zcw.k3 (C:CSem) (E:zx) (Q:zQ) (Y1:zL) (b a:AVal) (h:za):Prop:=
 B.pv (V.idxS E.es b a) fun c=>
  E.ld h c fun d=>
  B.pv (V.bin .sub a (.int .i64 1)) fun e=>
  B.pv (V.idxS E.es b e) fun f=>
  E.ld h f fun g=>
  B.pv (V.bin .eql d g) fun i=>
  B.cond i (B.pv (V.zgp E.es b (some a) none) fun j=>
  zg (zcw.l2 C E Q Y1 b j) [a,(.int .i64 1)] h) (B.pv (V.bin .add a (.int .i64 1)) fun k=>
  Y1 [k] h)
@[simp] def zcw.l4 (C:CSem) (E:zx) (Q:zQ) (a:AVal):zG
 | [b],h,Y1=>B.pv (V.zbj a) fun c=>
  B.pv (V.bin .lss b c) fun d=>
  B.cond d
  (zcw.k3 C E Q Y1 a b h)
  (Q a h)
 | _,_,_=>False
@[simp] def zcw.k5 (C:CSem) (E:zx) (Q:zQ) (a:AVal) (h:za):Prop:=
 B.pv (V.zbj a) fun b=>
  B.pv (V.bin .lss b (.int .i64 2)) fun c=>
  B.cond c
  (Q a h)
  (zg (zcw.l4 C E Q a) [(.int .i64 1)] h)
@[simp] def zcw.cps (C:CSem) (E:zx) (a:AVal) (h:za) (Q:zQ):Prop:=
 zcw.k5 C E Q a h
@[simp] def z9.k1 (C:CSem) (E:zx) (f1 f2 f3 f4 f5 f6 f7 f8 f9 f10:Nat) (Q:zQ) (Y1:zL) (d c e f v8 v9 s g:AVal) (h:za):Prop:=
 B.pv (V.bin .gtr c (.int .i64 0)) fun a=>
  B.gd h a true (fun K=>K d h) fun t h=>
  B.gd h a true (fun K=>K c h) fun u h=>
  B.gd h a true (fun K=>B.pv (V.bin .sub u (.int .i64 1)) fun v=>K v h) fun w h=>
  B.gd h a true (fun K=>B.pv (V.idxS E.es t w) fun v=>K v h) fun x h=>
  B.gd h a true (fun K=>E.ld h x fun v=>K v h) fun y h=>
  B.gd h a true (fun K=>K d h) fun z h=>
  B.gd h a true (fun K=>K g h) fun aa h=>
  B.gd h a true (fun K=>B.pv (V.idxS E.es z aa) fun v=>K v h) fun ab h=>
  B.gd h a true (fun K=>E.ld h ab fun v=>K v h) fun ac h=>
  B.gd h a true (fun K=>B.call C f1 [y,ac] h K) fun ad h=>
  B.gd h a true (fun K=>B.pv (V.un .not ad) fun v=>K v h) fun ae h=>
  B.pick a ae (.bool false) fun af=>
  B.cond af
  (B.call C f2 [d,c,e,g] h fun ag h=>
  Y1 [ag,e,f,v8,v9] h)
  (B.call C f3 [d,c,e,g] h fun m h=>
  B.pv (V.ext 0 m) fun b=>
  B.pv (V.ext 1 m) fun i=>
  B.pv (V.bin .sub b c) fun j=>
  B.pv (V.bin .sub e b) fun k=>
  B.pv (V.bin .quo s (.int .i64 8)) fun l=>
  B.pv (V.bin .lss j k) fun n=>
  B.cond n
  (B.pv (V.bin .geq j l) fun o=>
  B.call C f4 [d,c,b,f] h fun aj h=>
  B.pv (V.bin .add b (.int .i64 1)) fun p=>
  Y1 [p,e,f,o,i] h)
  (B.pv (V.bin .geq k l) fun q=>
  B.pv (V.bin .add b (.int .i64 1)) fun r=>
  B.call C f4 [d,r,e,f] h fun ak h=>
  Y1 [c,b,f,q,i] h))
@[simp] def z9.k2 (C:CSem) (E:zx) (f1 f2 f3 f4 f5 f6 f7 f8 f9 f10:Nat) (Q:zQ) (Y1:zL) (e f g j b i c d k:AVal) (h:za):Prop:=
 B.gd h b true (fun K=>K i h) fun l h=>
  B.pick b l (.bool false) fun a=>
  B.gd h a true (fun K=>K k h) fun m h=>
  B.gd h a true (fun K=>B.pv (V.bin .eql m (.int .i64 1)) fun v=>K v h) fun n h=>
  B.pick a n (.bool false) fun o=>
  B.cond o
  (B.call C f5 [e,f,g] h fun p h=>
  B.cond p
  (Q (.tup []) h)
  (z9.k1 C E f1 f2 f3 f4 f5 f6 f7 f8 f9 f10 Q Y1 e f g j b i c d h))
  (z9.k1 C E f1 f2 f3 f4 f5 f6 f7 f8 f9 f10 Q Y1 e f g j b i c d h)
@[simp] def z9.k3 (C:CSem) (E:zx) (f1 f2 f3 f4 f5 f6 f7 f8 f9 f10:Nat) (Q:zQ) (Y1:zL) (f a b g i j c d e:AVal) (h:za):Prop:=
 B.pv (V.bin .eql e (.int .i64 2)) fun k=>
  B.cond k
  (B.call C f6 [f,a,b] h fun o h=>
  B.pv (V.bin .sub b (.int .i64 1)) fun l=>
  B.pv (V.bin .sub d a) fun m=>
  B.pv (V.bin .sub l m) fun n=>
  z9.k2 C E f1 f2 f3 f4 f5 f6 f7 f8 f9 f10 Q Y1 f a b g i j c n (.int .i64 1) h)
  (z9.k2 C E f1 f2 f3 f4 f5 f6 f7 f8 f9 f10 Q Y1 f a b g i j c d e h)
@[simp] def z9.k4 (C:CSem) (E:zx) (f1 f2 f3 f4 f5 f6 f7 f8 f9 f10:Nat) (Q:zQ) (Y1:zL) (b c d i j k e:AVal) (h:za):Prop:=
 B.call C f7 [b,c,d] h fun a h=>
  B.pv (V.ext 0 a) fun f=>
  B.pv (V.ext 1 a) fun g=>
  z9.k3 C E f1 f2 f3 f4 f5 f6 f7 f8 f9 f10 Q Y1 b c d i j k e f g h
@[simp] def z9.k5 (C:CSem) (E:zx) (f1 f2 f3 f4 f5 f6 f7 f8 f9 f10:Nat) (Q:zQ) (Y1:zL) (b c d f e g a:AVal) (h:za):Prop:=
 B.pv (V.un .not e) fun i=>
  B.cond i
  (B.call C f8 [b,c,d] h fun k h=>
  B.pv (V.bin .sub f (.int .i64 1)) fun j=>
  z9.k4 C E f1 f2 f3 f4 f5 f6 f7 f8 f9 f10 Q Y1 b c d j e g a h)
  (z9.k4 C E f1 f2 f3 f4 f5 f6 f7 f8 f9 f10 Q Y1 b c d f e g a h)
@[simp] def z9.k6 (C:CSem) (E:zx) (f1 f2 f3 f4 f5 f6 f7 f8 f9 f10:Nat) (Q:zQ) (Y1:zL) (a b c d g i e:AVal) (h:za):Prop:=
 B.pv (V.bin .eql d (.int .i64 0)) fun f=>
  B.cond f
  (B.call C f9 [a,b,c] h fun j h=>
  Q (.tup []) h)
  (z9.k5 C E f1 f2 f3 f4 f5 f6 f7 f8 f9 f10 Q Y1 a b c d g i e h)
@[simp] def z9.k7 (C:CSem) (E:zx) (f1 f2 f3 f4 f5 f6 f7 f8 f9 f10:Nat) (Q:zQ) (Y1:zL) (b c d f g i a:AVal) (h:za):Prop:=
 B.pv (V.bin .leq a (.int .i64 12)) fun e=>
  B.cond e
  (B.call C f10 [b,c,d] h fun j h=>
  Q (.tup []) h)
  (z9.k6 C E f1 f2 f3 f4 f5 f6 f7 f8 f9 f10 Q Y1 b c d f g i a h)
@[simp] def z9.l8 (C:CSem) (E:zx) (f1 f2 f3 f4 f5 f6 f7 f8 f9 f10:Nat) (Q:zQ) (d:AVal):zG
 | [a,b,e,f,g],h,Y1=>B.pv (V.bin .sub b a) fun c=>
  z9.k7 C E f1 f2 f3 f4 f5 f6 f7 f8 f9 f10 Q Y1 d a b e f g c h
 | _,_,_=>False
@[simp] def z9.cps (C:CSem) (E:zx) (f1 f2 f3 f4 f5 f6 f7 f8 f9 f10:Nat) (a b c d:AVal) (h:za) (Q:zQ):Prop:=
 zg (z9.l8 C E f1 f2 f3 f4 f5 f6 f7 f8 f9 f10 Q a) [b,c,d,(.bool true),(.bool true)] h
@[simp] def zcg.k1 (C:CSem) (E:zx) (f1:Nat) (Q:zQ) (Y1:zL) (Y2:zL) (c v1 v2 v6 b:AVal) (h:za):Prop:=
 B.pv (V.bin .gtr b v1) fun a=>
  B.gd h a true (fun K=>K c h) fun d h=>
  B.gd h a true (fun K=>K b h) fun e h=>
  B.gd h a true (fun K=>B.pv (V.idxS E.es d e) fun v=>K v h) fun f h=>
  B.gd h a true (fun K=>E.ld h f fun v=>K v h) fun g h=>
  B.gd h a true (fun K=>K c h) fun i h=>
  B.gd h a true (fun K=>K b h) fun j h=>
  B.gd h a true (fun K=>B.pv (V.bin .sub j (.int .i64 1)) fun v=>K v h) fun k h=>
  B.gd h a true (fun K=>B.pv (V.idxS E.es i k) fun v=>K v h) fun l h=>
  B.gd h a true (fun K=>E.ld h l fun v=>K v h) fun m h=>
  B.gd h a true (fun K=>B.call C f1 [g,m] h K) fun n h=>
  B.pick a n (.bool false) fun o=>
  B.cond o
  (B.pv (V.bin .sub b (.int .i64 1)) fun p=>
  B.pv (V.bin .sub b (.int .i64 1)) fun q=>
  B.pv (V.idxS E.es c q) fun r=>
  E.ld h r fun s=>
  B.pv (V.idxS E.es c b) fun t=>
  E.ld h t fun u=>
  B.pv (V.idxS E.es c b) fun w=>
  E.st h w s fun h=>
  B.pv (V.idxS E.es c p) fun x=>
  E.st h x u fun h=>
  B.pv (V.bin .sub b (.int .i64 1)) fun y=>
  Y2 [y] h)
  (B.pv (V.bin .add v6 (.int .i64 1)) fun z=>
  Y1 [z] h)
@[simp] def zcg.l2 (C:CSem) (E:zx) (f1:Nat) (Q:zQ) (Y1:zL) (a b c d:AVal):zG
 | [e],h,Y2=>zcg.k1 C E f1 Q Y1 Y2 a b c d e h
 | _,_,_=>False
@[simp] def zcg.l3 (C:CSem) (E:zx) (f1:Nat) (Q:zQ) (d e b:AVal):zG
 | [a],h,Y1=>B.pv (V.bin .lss a b) fun c=>
  B.cond c
  (zg (zcg.l2 C E f1 Q Y1 d e b a) [a] h)
  (Q (.tup []) h)
 | _,_,_=>False
@[simp] def zcg.cps (C:CSem) (E:zx) (f1:Nat) (b a c:AVal) (h:za) (Q:zQ):Prop:=
 B.pv (V.bin .add a (.int .i64 1)) fun d=>
  zg (zcg.l3 C E f1 Q b a c) [d] h
@[simp] def zb0.k1 (C:CSem) (E:zx) (f1:Nat) (Q:zQ) (Y1:zL) (b c o a:AVal) (h:za):Prop:=
 B.pv (V.bin .geq a (.int .i64 0)) fun d=>
  B.cond d
  (B.pv (V.bin .add c a) fun e=>
  B.pv (V.bin .add c a) fun f=>
  B.pv (V.idxS E.es b f) fun g=>
  E.ld h g fun i=>
  B.pv (V.idxS E.es b c) fun j=>
  E.ld h j fun k=>
  B.pv (V.idxS E.es b c) fun l=>
  E.st h l i fun h=>
  B.pv (V.idxS E.es b e) fun m=>
  E.st h m k fun h=>
  B.call C f1 [b,o,a,c] h fun p h=>
  B.pv (V.bin .sub a (.int .i64 1)) fun n=>
  Y1 [n] h)
  (Q (.tup []) h)
@[simp] def zb0.l2 (C:CSem) (E:zx) (f1:Nat) (Q:zQ) (b c d:AVal):zG
 | [a],h,Y1=>zb0.k1 C E f1 Q Y1 b c d a h
 | _,_,_=>False
@[simp] def zb0.k3 (C:CSem) (E:zx) (f1:Nat) (Q:zQ) (Y2:zL) (b c i d a:AVal) (h:za):Prop:=
 B.pv (V.bin .geq a (.int .i64 0)) fun e=>
  B.cond e
  (B.call C f1 [b,a,d,c] h fun j h=>
  B.pv (V.bin .sub a (.int .i64 1)) fun f=>
  Y2 [f] h)
  (B.pv (V.bin .sub d (.int .i64 1)) fun g=>
  zg (zb0.l2 C E f1 Q b c i) [g] h)
@[simp] def zb0.l4 (C:CSem) (E:zx) (f1:Nat) (Q:zQ) (a b c d:AVal):zG
 | [e],h,Y2=>zb0.k3 C E f1 Q Y2 a b c d e h
 | _,_,_=>False
@[simp] def zb0.k5 (C:CSem) (E:zx) (f1:Nat) (Q:zQ) (d e f a:AVal) (h:za):Prop:=
 B.pv (V.bin .sub a (.int .i64 1)) fun b=>
  B.pv (V.bin .quo b (.int .i64 2)) fun c=>
  zg (zb0.l4 C E f1 Q d e f a) [c] h
@[simp] def zb0.cps (C:CSem) (E:zx) (f1:Nat) (c a d:AVal) (h:za) (Q:zQ):Prop:=
 B.pv (V.bin .sub d a) fun b=>
  zb0.k5 C E f1 Q c a (.int .i64 0) b h
@[simp] def zu.k1 (C:CSem) (E:zx) (f1 f2:Nat) (Q:zQ) (Y1:zL) (a d o p q c b:AVal) (h:za):Prop:=
 B.pv (V.bin .add d b) fun e=>
  B.pv (V.bin .add d b) fun f=>
  B.pv (V.idxS E.es a f) fun g=>
  E.ld h g fun i=>
  B.pv (V.idxS E.es a c) fun j=>
  E.ld h j fun k=>
  B.pv (V.idxS E.es a c) fun l=>
  E.st h l i fun h=>
  B.pv (V.idxS E.es a e) fun m=>
  E.st h m k fun h=>
  B.pv (V.bin .add c (.int .i64 1)) fun n=>
  Y1 [n] h
@[simp] def zu.k2 (C:CSem) (E:zx) (f1 f2:Nat) (Q:zQ) (Y1:zL) (c d b e f g a:AVal) (h:za):Prop:=
 B.pv (V.bin .geq a b) fun i=>
  B.cond i
  (B.pv (V.bin .sub a b) fun j=>
  zu.k1 C E f1 f2 Q Y1 c d b e f g j h)
  (zu.k1 C E f1 f2 Q Y1 c d b e f g a h)
@[simp] def zu.k3 (C:CSem) (E:zx) (f1 f2:Nat) (Q:zQ) (Y1:zL) (g i j a b k:AVal) (h:za):Prop:=
 B.call C f1 [a] h fun c h=>
  B.pv (V.bin .sub b (.int .u64 1)) fun d=>
  B.pv (V.bin .and c d) fun e=>
  B.pv (V.toInt .i64 e) fun f=>
  zu.k2 C E f1 f2 Q Y1 g i j a b k f h
@[simp] def zu.k4 (C:CSem) (E:zx) (f1 f2:Nat) (Q:zQ) (Y1:zL) (j a b k l c:AVal) (h:za):Prop:=
 B.pv (V.bin .quo b (.int .i64 4)) fun d=>
  B.pv (V.bin .mul d (.int .i64 2)) fun e=>
  B.pv (V.bin .add a e) fun f=>
  B.pv (V.bin .add f (.int .i64 1)) fun g=>
  B.pv (V.bin .leq c g) fun i=>
  B.cond i
  (zu.k3 C E f1 f2 Q Y1 j a b k l c h)
  (Q (.tup []) h)
@[simp] def zu.l5 (C:CSem) (E:zx) (f1 f2:Nat) (Q:zQ) (a b c d e:AVal):zG
 | [f],h,Y1=>zu.k4 C E f1 f2 Q Y1 a b c d e f h
 | _,_,_=>False
@[simp] def zu.k6 (C:CSem) (E:zx) (f1 f2:Nat) (Q:zQ) (g a b i j:AVal) (h:za):Prop:=
 B.pv (V.bin .quo b (.int .i64 4)) fun c=>
  B.pv (V.bin .mul c (.int .i64 2)) fun d=>
  B.pv (V.bin .add a d) fun e=>
  B.pv (V.bin .sub e (.int .i64 1)) fun f=>
  zg (zu.l5 C E f1 f2 Q g a b i j) [f] h
@[simp] def zu.k7 (C:CSem) (E:zx) (f1 f2:Nat) (Q:zQ) (e f a:AVal) (h:za):Prop:=
 B.pv (V.toInt .u64 a) fun b=>
  B.newO h (some [.int .u64 0]) fun c h=>
  B.st h (.ptr c 0 0) b fun h=>
  B.call C f2 [a] h fun d h=>
  zu.k6 C E f1 f2 Q e f a (.ptr c 0 0) d h
@[simp] def zu.k8 (C:CSem) (E:zx) (f1 f2:Nat) (Q:zQ) (d b e:AVal) (h:za):Prop:=
 B.pv (V.bin .sub e b) fun a=>
  B.pv (V.bin .geq a (.int .i64 8)) fun c=>
  B.cond c (zu.k7 C E f1 f2 Q d b a h) (Q (.tup []) h)
@[simp] def zu.cps (C:CSem) (E:zx) (f1 f2:Nat) (a b c:AVal) (h:za) (Q:zQ):Prop:=
 zu.k8 C E f1 f2 Q a b c h
@[simp] def zbf.k1 (C:CSem) (E:zx) (f1 f2:Nat) (Q:zQ) (e a:AVal) (h:za):Prop:=
 B.ld h e fun b=>
  B.pv (V.bin .eql b (.int .i64 0)) fun c=>
  B.cond c
  (Q (.tup [a,(.int .i64 1)]) h)
  (B.pv (V.bin .eql b (.int .i64 12)) fun d=>
  B.cond d
  (Q (.tup [a,(.int .i64 2)]) h)
  (Q (.tup [a,(.int .i64 0)]) h))
@[simp] def zbf.k2 (C:CSem) (E:zx) (f1 f2:Nat) (Q:zQ) (b g a e c f:AVal) (h:za):Prop:=
 B.pv (V.bin .geq g (.int .i64 8)) fun i=>
  B.cond i
  (B.pv (V.bin .geq g (.int .i64 50)) fun j=>
  B.cond j
  (B.call C f1 [b,e,a] h fun k h=>
  B.call C f1 [b,c,a] h fun l h=>
  B.call C f1 [b,f,a] h fun m h=>
  B.call C f2 [b,k,l,m,a] h fun d h=>
  zbf.k1 C E f1 f2 Q a d h)
  (B.call C f2 [b,e,c,f,a] h fun d h=>
  zbf.k1 C E f1 f2 Q a d h))
  (zbf.k1 C E f1 f2 Q a c h)
@[simp] def zbf.k3 (C:CSem) (E:zx) (f1 f2:Nat) (Q:zQ) (g i a j b c:AVal) (h:za):Prop:=
 B.pv (V.bin .quo a (.int .i64 4)) fun d=>
  B.pv (V.bin .mul d (.int .i64 3)) fun e=>
  B.pv (V.bin .add i e) fun f=>
  zbf.k2 C E f1 f2 Q g a j b c f h
@[simp] def zbf.k4 (C:CSem) (E:zx) (f1 f2:Nat) (Q:zQ) (g a b i c:AVal) (h:za):Prop:=
 B.pv (V.bin .quo b (.int .i64 4)) fun d=>
  B.pv (V.bin .mul d (.int .i64 2)) fun e=>
  B.pv (V.bin .add a e) fun f=>
  zbf.k3 C E f1 f2 Q g a b i c f h
@[simp] def zbf.k5 (C:CSem) (E:zx) (f1 f2:Nat) (Q:zQ) (f a b g:AVal) (h:za):Prop:=
 B.pv (V.bin .quo b (.int .i64 4)) fun c=>
  B.pv (V.bin .mul c (.int .i64 1)) fun d=>
  B.pv (V.bin .add a d) fun e=>
  zbf.k4 C E f1 f2 Q f a b g e h
@[simp] def zbf.cps (C:CSem) (E:zx) (f1 f2:Nat) (c a d:AVal) (h:za) (Q:zQ):Prop:=
 B.pv (V.bin .sub d a) fun b=>
  B.newO h (some [.int .i64 0]) fun e h=>
  zbf.k5 C E f1 f2 Q c a b (.ptr e 0 0) h
@[simp] def zdn.k1 (C:CSem) (E:zx) (Q:zQ) (Y1:zL) (a b c:AVal) (h:za):Prop:=
 B.pv (V.bin .lss b c) fun d=>
  B.cond d
  (B.pv (V.idxS E.es a c) fun e=>
  E.ld h e fun f=>
  B.pv (V.idxS E.es a b) fun g=>
  E.ld h g fun i=>
  B.pv (V.idxS E.es a b) fun j=>
  E.st h j f fun h=>
  B.pv (V.idxS E.es a c) fun k=>
  E.st h k i fun h=>
  B.pv (V.bin .add b (.int .i64 1)) fun l=>
  B.pv (V.bin .sub c (.int .i64 1)) fun m=>
  Y1 [l,m] h)
  (Q (.tup []) h)
@[simp] def zdn.l2 (C:CSem) (E:zx) (Q:zQ) (a:AVal):zG
 | [b,c],h,Y1=>zdn.k1 C E Q Y1 a b c h
 | _,_,_=>False
@[simp] def zdn.cps (C:CSem) (E:zx) (b c d:AVal) (h:za) (Q:zQ):Prop:=
 B.pv (V.bin .sub d (.int .i64 1)) fun a=>
  zg (zdn.l2 C E Q b) [c,a] h
@[simp] def zf.k1 (C:CSem) (E:zx) (f1:Nat) (Q:zQ) (Y1:zL) (Y2:zL) (b y x v w a:AVal) (h:za):Prop:=
 B.pv (V.bin .lss a x) fun d=>
  B.cond d
  (B.pv (V.idxS E.es b a) fun e=>
  E.ld h e fun f=>
  B.pv (V.bin .sub a (.int .i64 1)) fun g=>
  B.pv (V.idxS E.es b g) fun i=>
  E.ld h i fun j=>
  B.call C f1 [f,j] h fun k h=>
  B.pv (V.un .not k) fun l=>
  B.cond l
  (B.pv (V.bin .add w (.int .i64 1)) fun c=>
  Y1 [v,c] h)
  (B.pv (V.bin .sub a (.int .i64 1)) fun m=>
  B.pv (V.bin .sub a (.int .i64 1)) fun n=>
  B.pv (V.idxS E.es b n) fun o=>
  E.ld h o fun p=>
  B.pv (V.idxS E.es b a) fun q=>
  E.ld h q fun r=>
  B.pv (V.idxS E.es b a) fun s=>
  E.st h s p fun h=>
  B.pv (V.idxS E.es b m) fun t=>
  E.st h t r fun h=>
  B.pv (V.bin .add a (.int .i64 1)) fun u=>
  Y2 [u] h))
  (B.pv (V.bin .add w (.int .i64 1)) fun c=>
  Y1 [v,c] h)
@[simp] def zf.l2 (C:CSem) (E:zx) (f1:Nat) (Q:zQ) (Y1:zL) (b c d e f:AVal):zG
 | [a],h,Y2=>zf.k1 C E f1 Q Y1 Y2 b c d e f a h
 | _,_,_=>False
@[simp] def zf.k3 (C:CSem) (E:zx) (f1:Nat) (Q:zQ) (Y1:zL) (i j c a d:AVal) (h:za):Prop:=
 B.pv (V.bin .sub c a) fun e=>
  B.pv (V.bin .geq e (.int .i64 2)) fun f=>
  B.cond f (B.pv (V.bin .add a (.int .i64 1)) fun b=>
  zg (zf.l2 C E f1 Q Y1 i j c a d) [b] h) (B.pv (V.bin .add d (.int .i64 1)) fun g=>
  Y1 [a,g] h)
@[simp] def zf.k4 (C:CSem) (E:zx) (f1:Nat) (Q:zQ) (Y1:zL) (Y3:zL) (a c d e f b:AVal) (h:za):Prop:=
 B.pv (V.bin .geq b (.int .i64 1)) fun g=>
  B.cond g
  (B.pv (V.idxS E.es a b) fun i=>
  E.ld h i fun j=>
  B.pv (V.bin .sub b (.int .i64 1)) fun k=>
  B.pv (V.idxS E.es a k) fun l=>
  E.ld h l fun m=>
  B.call C f1 [j,m] h fun n h=>
  B.pv (V.un .not n) fun o=>
  B.cond o
  (zf.k3 C E f1 Q Y1 a c d e f h)
  (B.pv (V.bin .sub b (.int .i64 1)) fun p=>
  B.pv (V.bin .sub b (.int .i64 1)) fun q=>
  B.pv (V.idxS E.es a q) fun r=>
  E.ld h r fun s=>
  B.pv (V.idxS E.es a b) fun t=>
  E.ld h t fun u=>
  B.pv (V.idxS E.es a b) fun v=>
  E.st h v s fun h=>
  B.pv (V.idxS E.es a p) fun w=>
  E.st h w u fun h=>
  B.pv (V.bin .sub b (.int .i64 1)) fun x=>
  Y3 [x] h))
  (zf.k3 C E f1 Q Y1 a c d e f h)
@[simp] def zf.l5 (C:CSem) (E:zx) (f1:Nat) (Q:zQ) (Y1:zL) (a b c d e:AVal):zG
 | [f],h,Y3=>zf.k4 C E f1 Q Y1 Y3 a b c d e f h
 | _,_,_=>False
@[simp] def zf.k6 (C:CSem) (E:zx) (f1:Nat) (Q:zQ) (Y1:zL) (c b d a e:AVal) (h:za):Prop:=
 B.pv (V.bin .sub a b) fun f=>
  B.pv (V.bin .geq f (.int .i64 2)) fun g=>
  B.cond g (B.pv (V.bin .sub a (.int .i64 1)) fun i=>
  zg (zf.l5 C E f1 Q Y1 c b d a e) [i] h) (zf.k3 C E f1 Q Y1 c b d a e h)
@[simp] def zf.k7 (C:CSem) (E:zx) (f1:Nat) (Q:zQ) (Y1:zL) (a l m b n:AVal) (h:za):Prop:=
 B.pv (V.bin .sub b (.int .i64 1)) fun c=>
  B.pv (V.bin .sub b (.int .i64 1)) fun d=>
  B.pv (V.idxS E.es a d) fun e=>
  E.ld h e fun f=>
  B.pv (V.idxS E.es a b) fun g=>
  E.ld h g fun i=>
  B.pv (V.idxS E.es a b) fun j=>
  E.st h j f fun h=>
  B.pv (V.idxS E.es a c) fun k=>
  E.st h k i fun h=>
  zf.k6 C E f1 Q Y1 a l m b n h
@[simp] def zf.k8 (C:CSem) (E:zx) (f1:Nat) (Q:zQ) (Y1:zL) (e a b f g:AVal) (h:za):Prop:=
 B.pv (V.bin .sub b a) fun c=>
  B.pv (V.bin .lss c (.int .i64 50)) fun d=>
  B.cond d
  (Q (.bool false) h)
  (zf.k7 C E f1 Q Y1 e a b f g h)
@[simp] def zf.k9 (C:CSem) (E:zx) (f1:Nat) (Q:zQ) (Y1:zL) (Y4:zL) (c t d b u:AVal) (h:za):Prop:=
 B.pv (V.bin .lss b d) fun a=>
  B.gd h a true (fun K=>K c h) fun e h=>
  B.gd h a true (fun K=>K b h) fun f h=>
  B.gd h a true (fun K=>B.pv (V.idxS E.es e f) fun v=>K v h) fun g h=>
  B.gd h a true (fun K=>E.ld h g fun v=>K v h) fun i h=>
  B.gd h a true (fun K=>K c h) fun j h=>
  B.gd h a true (fun K=>K b h) fun k h=>
  B.gd h a true (fun K=>B.pv (V.bin .sub k (.int .i64 1)) fun v=>K v h) fun l h=>
  B.gd h a true (fun K=>B.pv (V.idxS E.es j l) fun v=>K v h) fun m h=>
  B.gd h a true (fun K=>E.ld h m fun v=>K v h) fun n h=>
  B.gd h a true (fun K=>B.call C f1 [i,n] h K) fun o h=>
  B.gd h a true (fun K=>B.pv (V.un .not o) fun v=>K v h) fun p h=>
  B.pick a p (.bool false) fun q=>
  B.cond q
  (B.pv (V.bin .add b (.int .i64 1)) fun r=>
  Y4 [r] h)
  (B.pv (V.bin .eql b d) fun s=>
  B.cond s
  (Q (.bool true) h)
  (zf.k8 C E f1 Q Y1 c t d b u h))
@[simp] def zf.l10 (C:CSem) (E:zx) (f1:Nat) (Q:zQ) (Y1:zL) (a b c d:AVal):zG
 | [e],h,Y4=>zf.k9 C E f1 Q Y1 Y4 a b c e d h
 | _,_,_=>False
@[simp] def zf.k11 (C:CSem) (E:zx) (f1:Nat) (Q:zQ) (Y1:zL) (c d e f a:AVal) (h:za):Prop:=
 B.pv (V.bin .lss a (.int .i64 5)) fun b=>
  B.cond b
  (zg (zf.l10 C E f1 Q Y1 c d e a) [f] h)
  (Q (.bool false) h)
@[simp] def zf.l12 (C:CSem) (E:zx) (f1:Nat) (Q:zQ) (a b c:AVal):zG
 | [d,e],h,Y1=>zf.k11 C E f1 Q Y1 a b c d e h
 | _,_,_=>False
@[simp] def zf.cps (C:CSem) (E:zx) (f1:Nat) (c a d:AVal) (h:za) (Q:zQ):Prop:=
 B.pv (V.bin .add a (.int .i64 1)) fun b=>
  zg (zf.l12 C E f1 Q c a d) [b,(.int .i64 0)] h
@[simp] def zw.k1 (C:CSem) (E:zx) (f1:Nat) (Q:zQ) (Y1:zL) (c n b a:AVal) (h:za):Prop:=
 B.pv (V.bin .gtr b a) fun d=>
  B.cond d
  (Q b h)
  (B.pv (V.idxS E.es c a) fun e=>
  E.ld h e fun f=>
  B.pv (V.idxS E.es c b) fun g=>
  E.ld h g fun i=>
  B.pv (V.idxS E.es c b) fun j=>
  E.st h j f fun h=>
  B.pv (V.idxS E.es c a) fun k=>
  E.st h k i fun h=>
  B.pv (V.bin .add b (.int .i64 1)) fun l=>
  B.pv (V.bin .sub a (.int .i64 1)) fun m=>
  Y1 [l,m] h)
@[simp] def zw.k2 (C:CSem) (E:zx) (f1:Nat) (Q:zQ) (Y1:zL) (Y2:zL) (c d e b:AVal) (h:za):Prop:=
 B.pv (V.bin .leq e b) fun a=>
  B.gd h a true (fun K=>K c h) fun f h=>
  B.gd h a true (fun K=>K d h) fun g h=>
  B.gd h a true (fun K=>B.pv (V.idxS E.es f g) fun v=>K v h) fun i h=>
  B.gd h a true (fun K=>E.ld h i fun v=>K v h) fun j h=>
  B.gd h a true (fun K=>K c h) fun k h=>
  B.gd h a true (fun K=>K b h) fun l h=>
  B.gd h a true (fun K=>B.pv (V.idxS E.es k l) fun v=>K v h) fun m h=>
  B.gd h a true (fun K=>E.ld h m fun v=>K v h) fun n h=>
  B.gd h a true (fun K=>B.call C f1 [j,n] h K) fun o h=>
  B.pick a o (.bool false) fun p=>
  B.cond p
  (B.pv (V.bin .sub b (.int .i64 1)) fun q=>
  Y2 [q] h)
  (zw.k1 C E f1 Q Y1 c d e b h)
@[simp] def zw.l3 (C:CSem) (E:zx) (f1:Nat) (Q:zQ) (Y1:zL) (b c d:AVal):zG
 | [a],h,Y2=>zw.k2 C E f1 Q Y1 Y2 b c d a h
 | _,_,_=>False
@[simp] def zw.k4 (C:CSem) (E:zx) (f1:Nat) (Q:zQ) (Y1:zL) (Y3:zL) (d e b c:AVal) (h:za):Prop:=
 B.pv (V.bin .leq b c) fun a=>
  B.gd h a true (fun K=>K d h) fun f h=>
  B.gd h a true (fun K=>K e h) fun g h=>
  B.gd h a true (fun K=>B.pv (V.idxS E.es f g) fun v=>K v h) fun i h=>
  B.gd h a true (fun K=>E.ld h i fun v=>K v h) fun j h=>
  B.gd h a true (fun K=>K d h) fun k h=>
  B.gd h a true (fun K=>K b h) fun l h=>
  B.gd h a true (fun K=>B.pv (V.idxS E.es k l) fun v=>K v h) fun m h=>
  B.gd h a true (fun K=>E.ld h m fun v=>K v h) fun n h=>
  B.gd h a true (fun K=>B.call C f1 [j,n] h K) fun o h=>
  B.gd h a true (fun K=>B.pv (V.un .not o) fun v=>K v h) fun p h=>
  B.pick a p (.bool false) fun q=>
  B.cond q
  (B.pv (V.bin .add b (.int .i64 1)) fun r=>
  Y3 [r] h)
  (zg (zw.l3 C E f1 Q Y1 d e b) [c] h)
@[simp] def zw.l5 (C:CSem) (E:zx) (f1:Nat) (Q:zQ) (Y1:zL) (b c a:AVal):zG
 | [d],h,Y3=>zw.k4 C E f1 Q Y1 Y3 b c d a h
 | _,_,_=>False
@[simp] def zw.l6 (C:CSem) (E:zx) (f1:Nat) (Q:zQ) (b c:AVal):zG
 | [d,a],h,Y1=>zg (zw.l5 C E f1 Q Y1 b c a) [d] h
 | _,_,_=>False
@[simp] def zw.k7 (C:CSem) (E:zx) (f1:Nat) (Q:zQ) (d a e:AVal) (h:za):Prop:=
 B.pv (V.bin .add a (.int .i64 1)) fun b=>
  B.pv (V.bin .sub e (.int .i64 1)) fun c=>
  zg (zw.l6 C E f1 Q d a) [b,c] h
@[simp] def zw.k8 (C:CSem) (E:zx) (f1:Nat) (Q:zQ) (a b k c:AVal) (h:za):Prop:=
 B.pv (V.idxS E.es a c) fun d=>
  E.ld h d fun e=>
  B.pv (V.idxS E.es a b) fun f=>
  E.ld h f fun g=>
  B.pv (V.idxS E.es a b) fun i=>
  E.st h i e fun h=>
  B.pv (V.idxS E.es a c) fun j=>
  E.st h j g fun h=>
  zw.k7 C E f1 Q a b k h
@[simp] def zw.cps (C:CSem) (E:zx) (f1:Nat) (a b c d:AVal) (h:za) (Q:zQ):Prop:=
 zw.k8 C E f1 Q a b c d h
@[simp] def zi.k1 (C:CSem) (E:zx) (f1:Nat) (Q:zQ) (b j a:AVal) (h:za):Prop:=
 B.pv (V.idxS E.es b j) fun c=>
  E.ld h c fun d=>
  B.pv (V.idxS E.es b a) fun e=>
  E.ld h e fun f=>
  B.pv (V.idxS E.es b a) fun g=>
  E.st h g d fun h=>
  B.pv (V.idxS E.es b j) fun i=>
  E.st h i f fun h=>
  Q (.tup [a,(.bool false)]) h
@[simp] def zi.k2 (C:CSem) (E:zx) (f1:Nat) (Q:zQ) (Y1:zL) (c n b a:AVal) (h:za):Prop:=
 B.pv (V.bin .gtr b a) fun d=>
  B.cond d
  (zi.k1 C E f1 Q c n a h)
  (B.pv (V.idxS E.es c a) fun e=>
  E.ld h e fun f=>
  B.pv (V.idxS E.es c b) fun g=>
  E.ld h g fun i=>
  B.pv (V.idxS E.es c b) fun j=>
  E.st h j f fun h=>
  B.pv (V.idxS E.es c a) fun k=>
  E.st h k i fun h=>
  B.pv (V.bin .add b (.int .i64 1)) fun l=>
  B.pv (V.bin .sub a (.int .i64 1)) fun m=>
  Y1 [l,m] h)
@[simp] def zi.k3 (C:CSem) (E:zx) (f1:Nat) (Q:zQ) (Y1:zL) (Y2:zL) (d r c b:AVal) (h:za):Prop:=
 B.pv (V.bin .leq c b) fun a=>
  B.gd h a true (fun K=>K d h) fun e h=>
  B.gd h a true (fun K=>K b h) fun f h=>
  B.gd h a true (fun K=>B.pv (V.idxS E.es e f) fun v=>K v h) fun g h=>
  B.gd h a true (fun K=>E.ld h g fun v=>K v h) fun i h=>
  B.gd h a true (fun K=>K d h) fun j h=>
  B.gd h a true (fun K=>K r h) fun k h=>
  B.gd h a true (fun K=>B.pv (V.idxS E.es j k) fun v=>K v h) fun l h=>
  B.gd h a true (fun K=>E.ld h l fun v=>K v h) fun m h=>
  B.gd h a true (fun K=>B.call C f1 [i,m] h K) fun n h=>
  B.gd h a true (fun K=>B.pv (V.un .not n) fun v=>K v h) fun o h=>
  B.pick a o (.bool false) fun p=>
  B.cond p
  (B.pv (V.bin .sub b (.int .i64 1)) fun q=>
  Y2 [q] h)
  (zi.k2 C E f1 Q Y1 d r c b h)
@[simp] def zi.l4 (C:CSem) (E:zx) (f1:Nat) (Q:zQ) (Y1:zL) (c d a:AVal):zG
 | [b],h,Y2=>zi.k3 C E f1 Q Y1 Y2 c d a b h
 | _,_,_=>False
@[simp] def zi.k5 (C:CSem) (E:zx) (f1:Nat) (Q:zQ) (Y1:zL) (Y3:zL) (d q b c:AVal) (h:za):Prop:=
 B.pv (V.bin .leq b c) fun a=>
  B.gd h a true (fun K=>K d h) fun e h=>
  B.gd h a true (fun K=>K b h) fun f h=>
  B.gd h a true (fun K=>B.pv (V.idxS E.es e f) fun v=>K v h) fun g h=>
  B.gd h a true (fun K=>E.ld h g fun v=>K v h) fun i h=>
  B.gd h a true (fun K=>K d h) fun j h=>
  B.gd h a true (fun K=>K q h) fun k h=>
  B.gd h a true (fun K=>B.pv (V.idxS E.es j k) fun v=>K v h) fun l h=>
  B.gd h a true (fun K=>E.ld h l fun v=>K v h) fun m h=>
  B.gd h a true (fun K=>B.call C f1 [i,m] h K) fun n h=>
  B.pick a n (.bool false) fun o=>
  B.cond o
  (B.pv (V.bin .add b (.int .i64 1)) fun p=>
  Y3 [p] h)
  (zg (zi.l4 C E f1 Q Y1 d q b) [c] h)
@[simp] def zi.l6 (C:CSem) (E:zx) (f1:Nat) (Q:zQ) (Y1:zL) (c d a:AVal):zG
 | [b],h,Y3=>zi.k5 C E f1 Q Y1 Y3 c d b a h
 | _,_,_=>False
@[simp] def zi.l7 (C:CSem) (E:zx) (f1:Nat) (Q:zQ) (c d:AVal):zG
 | [a,b],h,Y1=>zg (zi.l6 C E f1 Q Y1 c d b) [a] h
 | _,_,_=>False
@[simp] def zi.k8 (C:CSem) (E:zx) (f1:Nat) (Q:zQ) (e f a b:AVal) (h:za):Prop:=
 B.pv (V.bin .add a (.int .i64 1)) fun c=>
  B.pv (V.bin .sub b (.int .i64 1)) fun d=>
  zg (zi.l7 C E f1 Q e f) [c,d] h
@[simp] def zi.k9 (C:CSem) (E:zx) (f1:Nat) (Q:zQ) (a k b c:AVal) (h:za):Prop:=
 B.pv (V.idxS E.es a c) fun d=>
  E.ld h d fun e=>
  B.pv (V.idxS E.es a b) fun f=>
  E.ld h f fun g=>
  B.pv (V.idxS E.es a b) fun i=>
  E.st h i e fun h=>
  B.pv (V.idxS E.es a c) fun j=>
  E.st h j g fun h=>
  zi.k8 C E f1 Q a k b c h
@[simp] def zi.k10 (C:CSem) (E:zx) (f1:Nat) (Q:zQ) (b d c a:AVal) (h:za):Prop:=
 B.pv (V.bin .gtr c a) fun e=>
  B.cond e
  (B.pv (V.idxS E.es b d) fun f=>
  E.ld h f fun g=>
  B.pv (V.idxS E.es b a) fun i=>
  E.ld h i fun j=>
  B.pv (V.idxS E.es b a) fun k=>
  E.st h k g fun h=>
  B.pv (V.idxS E.es b d) fun l=>
  E.st h l j fun h=>
  Q (.tup [a,(.bool true)]) h)
  (zi.k9 C E f1 Q b d c a h)
@[simp] def zi.k11 (C:CSem) (E:zx) (f1:Nat) (Q:zQ) (Y4:zL) (d e c b:AVal) (h:za):Prop:=
 B.pv (V.bin .leq c b) fun a=>
  B.gd h a true (fun K=>K d h) fun f h=>
  B.gd h a true (fun K=>K b h) fun g h=>
  B.gd h a true (fun K=>B.pv (V.idxS E.es f g) fun v=>K v h) fun i h=>
  B.gd h a true (fun K=>E.ld h i fun v=>K v h) fun j h=>
  B.gd h a true (fun K=>K d h) fun k h=>
  B.gd h a true (fun K=>K e h) fun l h=>
  B.gd h a true (fun K=>B.pv (V.idxS E.es k l) fun v=>K v h) fun m h=>
  B.gd h a true (fun K=>E.ld h m fun v=>K v h) fun n h=>
  B.gd h a true (fun K=>B.call C f1 [j,n] h K) fun o h=>
  B.gd h a true (fun K=>B.pv (V.un .not o) fun v=>K v h) fun p h=>
  B.pick a p (.bool false) fun q=>
  B.cond q
  (B.pv (V.bin .sub b (.int .i64 1)) fun r=>
  Y4 [r] h)
  (zi.k10 C E f1 Q d e c b h)
@[simp] def zi.l12 (C:CSem) (E:zx) (f1:Nat) (Q:zQ) (c d a:AVal):zG
 | [b],h,Y4=>zi.k11 C E f1 Q Y4 c d a b h
 | _,_,_=>False
@[simp] def zi.k13 (C:CSem) (E:zx) (f1:Nat) (Q:zQ) (Y5:zL) (d e b c:AVal) (h:za):Prop:=
 B.pv (V.bin .leq b c) fun a=>
  B.gd h a true (fun K=>K d h) fun f h=>
  B.gd h a true (fun K=>K b h) fun g h=>
  B.gd h a true (fun K=>B.pv (V.idxS E.es f g) fun v=>K v h) fun i h=>
  B.gd h a true (fun K=>E.ld h i fun v=>K v h) fun j h=>
  B.gd h a true (fun K=>K d h) fun k h=>
  B.gd h a true (fun K=>K e h) fun l h=>
  B.gd h a true (fun K=>B.pv (V.idxS E.es k l) fun v=>K v h) fun m h=>
  B.gd h a true (fun K=>E.ld h m fun v=>K v h) fun n h=>
  B.gd h a true (fun K=>B.call C f1 [j,n] h K) fun o h=>
  B.pick a o (.bool false) fun p=>
  B.cond p
  (B.pv (V.bin .add b (.int .i64 1)) fun q=>
  Y5 [q] h)
  (zg (zi.l12 C E f1 Q d e b) [c] h)
@[simp] def zi.l14 (C:CSem) (E:zx) (f1:Nat) (Q:zQ) (c d a:AVal):zG
 | [b],h,Y5=>zi.k13 C E f1 Q Y5 c d b a h
 | _,_,_=>False
@[simp] def zi.k15 (C:CSem) (E:zx) (f1:Nat) (Q:zQ) (d a e:AVal) (h:za):Prop:=
 B.pv (V.bin .add a (.int .i64 1)) fun b=>
  B.pv (V.bin .sub e (.int .i64 1)) fun c=>
  zg (zi.l14 C E f1 Q d a c) [b] h
@[simp] def zi.k16 (C:CSem) (E:zx) (f1:Nat) (Q:zQ) (a b k c:AVal) (h:za):Prop:=
 B.pv (V.idxS E.es a c) fun d=>
  E.ld h d fun e=>
  B.pv (V.idxS E.es a b) fun f=>
  E.ld h f fun g=>
  B.pv (V.idxS E.es a b) fun i=>
  E.st h i e fun h=>
  B.pv (V.idxS E.es a c) fun j=>
  E.st h j g fun h=>
  zi.k15 C E f1 Q a b k h
@[simp] def zi.cps (C:CSem) (E:zx) (f1:Nat) (a b c d:AVal) (h:za) (Q:zQ):Prop:=
 zi.k16 C E f1 Q a b c d h
@[simp] def zcl.k1 (C:CSem) (E:zx) (f1:Nat) (Q:zQ) (Y1:zL) (a x b d c:AVal) (h:za):Prop:=
 B.pv (V.bin .add b d) fun e=>
  B.pv (V.idxS E.es a e) fun f=>
  E.ld h f fun g=>
  B.pv (V.bin .add b c) fun i=>
  B.pv (V.idxS E.es a i) fun j=>
  E.ld h j fun k=>
  B.call C f1 [g,k] h fun l h=>
  B.pv (V.un .not l) fun m=>
  B.cond m
  (Q (.tup []) h)
  (B.pv (V.bin .add b d) fun n=>
  B.pv (V.bin .add b c) fun o=>
  B.pv (V.bin .add b c) fun p=>
  B.pv (V.idxS E.es a p) fun q=>
  E.ld h q fun r=>
  B.pv (V.bin .add b d) fun s=>
  B.pv (V.idxS E.es a s) fun t=>
  E.ld h t fun u=>
  B.pv (V.idxS E.es a n) fun v=>
  E.st h v r fun h=>
  B.pv (V.idxS E.es a o) fun w=>
  E.st h w u fun h=>
  Y1 [c] h)
@[simp] def zcl.k2 (C:CSem) (E:zx) (f1:Nat) (Q:zQ) (Y1:zL) (c e d f b:AVal) (h:za):Prop:=
 B.pv (V.bin .add b (.int .i64 1)) fun g=>
  B.pv (V.bin .lss g e) fun a=>
  B.gd h a true (fun K=>K c h) fun i h=>
  B.gd h a true (fun K=>K d h) fun j h=>
  B.gd h a true (fun K=>K b h) fun k h=>
  B.gd h a true (fun K=>B.pv (V.bin .add j k) fun v=>K v h) fun l h=>
  B.gd h a true (fun K=>B.pv (V.idxS E.es i l) fun v=>K v h) fun m h=>
  B.gd h a true (fun K=>E.ld h m fun v=>K v h) fun n h=>
  B.gd h a true (fun K=>K c h) fun o h=>
  B.gd h a true (fun K=>K d h) fun p h=>
  B.gd h a true (fun K=>K b h) fun q h=>
  B.gd h a true (fun K=>B.pv (V.bin .add p q) fun v=>K v h) fun r h=>
  B.gd h a true (fun K=>B.pv (V.bin .add r (.int .i64 1)) fun v=>K v h) fun s h=>
  B.gd h a true (fun K=>B.pv (V.idxS E.es o s) fun v=>K v h) fun t h=>
  B.gd h a true (fun K=>E.ld h t fun v=>K v h) fun u h=>
  B.gd h a true (fun K=>B.call C f1 [n,u] h K) fun w h=>
  B.pick a w (.bool false) fun x=>
  B.cond x
  (B.pv (V.bin .add b (.int .i64 1)) fun y=>
  zcl.k1 C E f1 Q Y1 c e d f y h)
  (zcl.k1 C E f1 Q Y1 c e d f b h)
@[simp] def zcl.k3 (C:CSem) (E:zx) (f1:Nat) (Q:zQ) (Y1:zL) (f b g c:AVal) (h:za):Prop:=
 B.pv (V.bin .mul (.int .i64 2) c) fun d=>
  B.pv (V.bin .add d (.int .i64 1)) fun a=>
  B.pv (V.bin .geq a b) fun e=>
  B.cond e
  (Q (.tup []) h)
  (zcl.k2 C E f1 Q Y1 f b g c a h)
@[simp] def zcl.l4 (C:CSem) (E:zx) (f1:Nat) (Q:zQ) (a b c:AVal):zG
 | [d],h,Y1=>zcl.k3 C E f1 Q Y1 a b c d h
 | _,_,_=>False
@[simp] def zcl.cps (C:CSem) (E:zx) (f1:Nat) (a b c d:AVal) (h:za) (Q:zQ):Prop:=
 zg (zcl.l4 C E f1 Q a c d) [b] h
@[simp] def zgh.cps (C:CSem) (E:zx) (f1:Nat) (d a e:AVal) (h:za) (Q:zQ):Prop:=
 B.pv (V.bin .sub a (.int .i64 1)) fun f=>
  B.pv (V.bin .add a (.int .i64 1)) fun b=>
  B.call C f1 [d,f,a,b,e] h fun c h=>
  Q c h
@[simp] def zge.k1 (C:CSem) (E:zx) (f1:Nat) (Q:zQ) (d k l m e:AVal) (h:za):Prop:=
 B.call C f1 [d,k,l,e] h fun a h=>
  B.pv (V.ext 0 a) fun f=>
  B.pv (V.ext 1 a) fun g=>
  B.call C f1 [d,g,m,e] h fun b h=>
  B.pv (V.ext 0 b) fun i=>
  B.pv (V.ext 1 b) fun n=>
  B.call C f1 [d,f,i,e] h fun c h=>
  B.pv (V.ext 0 c) fun o=>
  B.pv (V.ext 1 c) fun j=>
  Q j h
@[simp] def zge.cps (C:CSem) (E:zx) (f1:Nat) (a b c d e:AVal) (h:za) (Q:zQ):Prop:=
 zge.k1 C E f1 Q a b c d e h
@[simp] def zgd.k1 (C:CSem) (E:zx) (f1:Nat) (Q:zQ) (c a b d:AVal) (h:za):Prop:=
 B.pv (V.idxS E.es c b) fun e=>
  E.ld h e fun f=>
  B.pv (V.idxS E.es c a) fun g=>
  E.ld h g fun i=>
  B.call C f1 [f,i] h fun j h=>
  B.cond j
  (B.nilCheck d fun k=>
  B.ld h k fun l=>
  B.pv (V.bin .add l (.int .i64 1)) fun m=>
  B.nilCheck d fun n=>
  B.st h n m fun h=>
  Q (.tup [b,a]) h)
  (Q (.tup [a,b]) h)
@[simp] def zgd.cps (C:CSem) (E:zx) (f1:Nat) (a b c d:AVal) (h:za) (Q:zQ):Prop:=
 zgd.k1 C E f1 Q a b c d h
@[simp] def zhz.k1 (C:CSem) (E:zx) (Q:zQ) (a m:AVal) (h:za):Prop:=
 B.pv (V.capSl a) fun c=>
  B.pv (V.zbj a) fun d=>
  B.pv (V.bin .sub c d) fun e=>
  B.pv (V.bin .sub m e) fun b=>
  B.pv (V.bin .gtr b (.int .i64 0)) fun f=>
  B.cond f
  (B.pv (V.capSl a) fun g=>
  B.pv (V.zgp E.es a none (some g)) fun i=>
  B.appZ h E.es E.bytes E.z i b fun j h=>
  B.pv (V.zbj a) fun k=>
  B.pv (V.zgp E.es j none (some k)) fun l=>
  Q l h)
  (Q a h)
@[simp] def zhz.cps (C:CSem) (E:zx) (b a:AVal) (h:za) (Q:zQ):Prop:=
 B.pv (V.bin .lss a (.int .i64 0)) fun c=>
  B.cond c
  (False)
  (zhz.k1 C E Q b a h)
@[simp] def zmu.cps (C:CSem) (E:zx) (f1:Nat) (a b:AVal) (h:za) (Q:zQ):Prop:=
 B.call C f1 [a,b] h fun c h=>
  B.pv (V.bin .geq c (.int .i64 0)) fun d=>
  Q d h
@[simp] def zfw.k1 (C:CSem) (E:zx) (Q:zQ) (Y1:zL) (f g i a:AVal) (h:za):Prop:=
 B.pv (V.bin .lss a i) fun j=>
  B.cond j
  (B.pv (V.idxS E.es f a) fun b=>
  E.ld h b fun c=>
  B.pv (V.bin .eql g c) fun d=>
  B.cond d
  (Q a h)
  (B.pv (V.bin .add a (.int .i64 1)) fun e=>
  Y1 [e] h))
  (Q (.int .i64 (-1)) h)
@[simp] def zfw.l2 (C:CSem) (E:zx) (Q:zQ) (a b c:AVal):zG
 | [d],h,Y1=>zfw.k1 C E Q Y1 a b c d h
 | _,_,_=>False
@[simp] def zfw.cps (C:CSem) (E:zx) (a b:AVal) (h:za) (Q:zQ):Prop:=
 B.pv (V.zbj a) fun c=>
  zg (zfw.l2 C E Q a b c) [(.int .i64 0)] h
@[simp] def zeo.k1 (C:CSem) (E:zx) (f1:Nat) (Q:zQ) (d e:AVal) (h:za):Prop:=
 B.pv (V.zbj d) fun a=>
  B.pv (V.zbj e) fun b=>
  B.pv (V.bin .lss a b) fun c=>
  B.cond c
  (Q (.int .i64 (-1)) h)
  (Q (.int .i64 0) h)
@[simp] def zeo.k2 (C:CSem) (E:zx) (f1:Nat) (Q:zQ) (Y1:zL) (o c p d a:AVal) (h:za):Prop:=
 B.pv (V.bin .lss a d) fun e=>
  B.cond e
  (B.pv (V.idxS E.es p a) fun f=>
  E.ld h f fun g=>
  B.pv (V.zbj c) fun i=>
  B.pv (V.bin .geq a i) fun j=>
  B.cond j
  (Q (.int .i64 1) h)
  (B.pv (V.idxS E.es c a) fun k=>
  E.ld h k fun l=>
  B.call C f1 [g,l] h fun b h=>
  B.pv (V.bin .neq b (.int .i64 0)) fun m=>
  B.cond m
  (Q b h)
  (B.pv (V.bin .add a (.int .i64 1)) fun n=>
  Y1 [n] h)))
  (zeo.k1 C E f1 Q o c h)
@[simp] def zeo.l3 (C:CSem) (E:zx) (f1:Nat) (Q:zQ) (c d e a:AVal):zG
 | [b],h,Y1=>zeo.k2 C E f1 Q Y1 c d e a b h
 | _,_,_=>False
@[simp] def zeo.cps (C:CSem) (E:zx) (f1:Nat) (a c:AVal) (h:za) (Q:zQ):Prop:=
 B.pv (V.zbj a) fun b=>
  zg (zeo.l3 C E f1 Q a c a b) [(.int .i64 0)] h
def zy.cps (C:CSem) (N:zN) (a b:AVal) (h:za) (Q:zQ):Prop:=
 zce.cps C (opsF 8 80 [.int .i64 0,.str [],.int .i64 0,.int .i64 0,.int .i64 0,.int .u8 0,.int .i64 0,.str []] 0 []) a b h Q
def zy.Imp (C:CSem) (N:zN):Prop:=im2 C (N 206) (zy.cps C N)
@[simp] def zc7.k1 (C:CSem) (N:zN) (Q:zQ) (a:AVal) (h:za):Prop:=
 B.nilCheck a fun u=>
  B.ld h u fun v=>
  B.nilCheck a fun w=>
  B.ld h w fun x=>
  B.pv (V.bin .shl x (.int .u64 13)) fun y=>
  B.pv (V.bin .xor v y) fun b=>
  B.nilCheck a fun c=>
  B.st h c b fun h=>
  B.nilCheck a fun d=>
  B.ld h d fun e=>
  B.nilCheck a fun f=>
  B.ld h f fun g=>
  B.pv (V.bin .shr g (.int .u64 7)) fun i=>
  B.pv (V.bin .xor e i) fun j=>
  B.nilCheck a fun k=>
  B.st h k j fun h=>
  B.nilCheck a fun l=>
  B.ld h l fun m=>
  B.nilCheck a fun n=>
  B.ld h n fun o=>
  B.pv (V.bin .shl o (.int .u64 17)) fun p=>
  B.pv (V.bin .xor m p) fun q=>
  B.nilCheck a fun r=>
  B.st h r q fun h=>
  B.nilCheck a fun s=>
  B.ld h s fun t=>
  Q t h
@[simp] def zc7.cps (C:CSem) (N:zN) (a:AVal) (h:za) (Q:zQ):Prop:=
 zc7.k1 C N Q a h
def zc7.Imp (C:CSem) (N:zN):Prop:=im1 C (N 298) (zc7.cps C N)
@[simp] def zdl.cps (C:CSem) (N:zN) (a:AVal) (h:za) (Q:zQ):Prop:=
 B.pv (V.toInt .u64 a) fun b=>
  B.call C (N 287) [b] h fun c h=>
  B.pv (V.bin .shl (.int .u64 1) c) fun d=>
  Q d h
def zdl.Imp (C:CSem) (N:zN):Prop:=im1 C (N 299) (zdl.cps C N)
def zbw.cps (C:CSem) (N:zN) (a:AVal) (h:za) (Q:zQ):Prop:=
 zi3.cps C (opsS 16 (.str []) 0) (N 287) (N 375) a h Q
def zbw.Imp (C:CSem) (N:zN):Prop:=im1 C (N 364) (zbw.cps C N)
def zbl.cps (C:CSem) (N:zN) (a:AVal) (h:za) (Q:zQ):Prop:=
 zcw.cps C (opsS 16 (.str []) 0) a h Q
def zbl.Imp (C:CSem) (N:zN):Prop:=im1 C (N 365) (zbl.cps C N)
def zbg.cps (C:CSem) (N:zN) (a b:AVal) (h:za) (Q:zQ):Prop:=
 zce.cps C (opsF 4 72 [.str [],.int .i64 0,.nils,.nils] 0 []) a b h Q
def zbg.Imp (C:CSem) (N:zN):Prop:=im2 C (N 367) (zbg.cps C N)
@[simp] def zl.k1 (C:CSem) (N:zN) (Q:zQ) (Y1:zL) (b c d a:AVal) (h:za):Prop:=
 B.pv (V.bin .lss a d) fun e=>
  B.cond e
  (B.pv (V.idxS 1 c a) fun f=>
  B.ld h f fun g=>
  B.appW h 1 16 b g fun i h=>
  B.pv (V.bin .add a (.int .i64 1)) fun j=>
  Y1 [i,j] h)
  (Q b h)
@[simp] def zl.l2 (C:CSem) (N:zN) (Q:zQ) (a b:AVal):zG
 | [d,c],h,Y1=>zl.k1 C N Q Y1 d a b c h
 | _,_,_=>False
@[simp] def zl.k3 (C:CSem) (N:zN) (Q:zQ) (Y2:zL) (c d o e a:AVal) (h:za):Prop:=
 B.pv (V.bin .lss a e) fun f=>
  B.cond f
  (B.pv (V.idxS 1 o a) fun g=>
  B.ld h g fun i=>
  B.pv (V.zbj i) fun j=>
  B.pv (V.bin .add d j) fun b=>
  B.pv (V.bin .lss b (.int .i64 0)) fun k=>
  B.cond k
  (False)
  (B.pv (V.bin .add a (.int .i64 1)) fun l=>
  Y2 [b,l] h))
  (B.call C (N 376) [.nils,d] h fun m h=>
  B.pv (V.zbj c) fun n=>
  zg (zl.l2 C N Q c n) [m,(.int .i64 0)] h)
@[simp] def zl.l4 (C:CSem) (N:zN) (Q:zQ) (c d a:AVal):zG
 | [e,b],h,Y2=>zl.k3 C N Q Y2 c e d a b h
 | _,_,_=>False
@[simp] def zl.cps (C:CSem) (N:zN) (a:AVal) (h:za) (Q:zQ):Prop:=
 B.pv (V.zbj a) fun b=>
  zg (zl.l4 C N Q a a b) [(.int .i64 0),(.int .i64 0)] h
def zl.Imp (C:CSem) (N:zN):Prop:=im1 C (N 373) (zl.cps C N)
def zda.cps (C:CSem) (N:zN) (a b c d:AVal) (h:za) (Q:zQ):Prop:=
 z9.cps C (opsS 16 (.str []) 0) (N 377) (N 378) (N 379) (N 375) (N 380) (N 381) (N 382) (N 383) (N 384) (N 385) a b c d h Q
def zda.Imp (C:CSem) (N:zN):Prop:=im4 C (N 375) (zda.cps C N)
def zb6.cps (C:CSem) (N:zN) (a b:AVal) (h:za) (Q:zQ):Prop:=
 zhz.cps C (opsS 16 (.str []) 0) a b h Q
def zb6.Imp (C:CSem) (N:zN):Prop:=im2 C (N 376) (zb6.cps C N)
def zb9.cps (C:CSem) (N:zN) (a b c d:AVal) (h:za) (Q:zQ):Prop:=
 zw.cps C (opsS 16 (.str []) 0) (N 377) a b c d h Q
def zb9.Imp (C:CSem) (N:zN):Prop:=im4 C (N 378) (zb9.cps C N)
def zcy.cps (C:CSem) (N:zN) (a b c d:AVal) (h:za) (Q:zQ):Prop:=
 zi.cps C (opsS 16 (.str []) 0) (N 377) a b c d h Q
def zcy.Imp (C:CSem) (N:zN):Prop:=im4 C (N 379) (zcy.cps C N)
def zbx.cps (C:CSem) (N:zN) (a b c:AVal) (h:za) (Q:zQ):Prop:=
 zf.cps C (opsS 16 (.str []) 0) (N 377) a b c h Q
def zbx.Imp (C:CSem) (N:zN):Prop:=im3 C (N 380) (zbx.cps C N)
def zcm.cps (C:CSem) (N:zN) (a b c:AVal) (h:za) (Q:zQ):Prop:=
 zdn.cps C (opsS 16 (.str []) 0) a b c h Q
def zcm.Imp (C:CSem) (N:zN):Prop:=im3 C (N 381) (zcm.cps C N)
def zcr.cps (C:CSem) (N:zN) (a b c:AVal) (h:za) (Q:zQ):Prop:=
 zbf.cps C (opsS 16 (.str []) 0) (N 387) (N 388) a b c h Q
def zcr.Imp (C:CSem) (N:zN):Prop:=im3 C (N 382) (zcr.cps C N)
def zcj.cps (C:CSem) (N:zN) (a b c:AVal) (h:za) (Q:zQ):Prop:=
 zu.cps C (opsS 16 (.str []) 0) (N 298) (N 299) a b c h Q
def zcj.Imp (C:CSem) (N:zN):Prop:=im3 C (N 383) (zcj.cps C N)
def zc4.cps (C:CSem) (N:zN) (a b c:AVal) (h:za) (Q:zQ):Prop:=
 zb0.cps C (opsS 16 (.str []) 0) (N 386) a b c h Q
def zc4.Imp (C:CSem) (N:zN):Prop:=im3 C (N 384) (zc4.cps C N)
def zch.cps (C:CSem) (N:zN) (a b c:AVal) (h:za) (Q:zQ):Prop:=
 zcg.cps C (opsS 16 (.str []) 0) (N 377) a b c h Q
def zch.Imp (C:CSem) (N:zN):Prop:=im3 C (N 385) (zch.cps C N)
def zc2.cps (C:CSem) (N:zN) (a b c d:AVal) (h:za) (Q:zQ):Prop:=
 zcl.cps C (opsS 16 (.str []) 0) (N 377) a b c d h Q
def zc2.Imp (C:CSem) (N:zN):Prop:=im4 C (N 386) (zc2.cps C N)
def zcb.cps (C:CSem) (N:zN) (a b c:AVal) (h:za) (Q:zQ):Prop:=
 zgh.cps C (opsS 16 (.str []) 0) (N 388) a b c h Q
def zcb.Imp (C:CSem) (N:zN):Prop:=im3 C (N 387) (zcb.cps C N)
def zdh.cps (C:CSem) (N:zN) (a b c d e:AVal) (h:za) (Q:zQ):Prop:=
 zge.cps C (opsS 16 (.str []) 0) (N 390) a b c d e h Q
def zdh.Imp (C:CSem) (N:zN):Prop:=im5 C (N 388) (zdh.cps C N)
def zdf.cps (C:CSem) (N:zN) (a b c d:AVal) (h:za) (Q:zQ):Prop:=
 zgd.cps C (opsS 16 (.str []) 0) (N 377) a b c d h Q
def zdf.Imp (C:CSem) (N:zN):Prop:=im4 C (N 390) (zdf.cps C N)
def zbm.cps (C:CSem) (N:zN) (a b:AVal) (h:za) (Q:zQ):Prop:=
 zmu.cps C (opsS 16 (.str []) 0) (N 445) a b h Q
def zbm.Imp (C:CSem) (N:zN):Prop:=im2 C (N 442) (zbm.cps C N)
def zb1.cps (C:CSem) (N:zN) (a b:AVal) (h:za) (Q:zQ):Prop:=
 zfw.cps C (opsS 16 (.str []) 0) a b h Q
def zb1.Imp (C:CSem) (N:zN):Prop:=im2 C (N 445) (zb1.cps C N)
def zbu.cps (C:CSem) (N:zN) (a b:AVal) (h:za) (Q:zQ):Prop:=
 zg1.cps C (opsS 24 (.nils) 0) (N 287) (N 579) a b h Q
def zbu.Imp (C:CSem) (N:zN):Prop:=im2 C (N 566) (zbu.cps C N)
def zbi.cps (C:CSem) (N:zN) (a:AVal) (h:za) (Q:zQ):Prop:=
 zmd.cps C (opsS 16 (.str []) 0) a h Q
def zbi.Imp (C:CSem) (N:zN):Prop:=im1 C (N 567) (zbi.cps C N)
def zbn.cps (C:CSem) (N:zN) (a:AVal) (h:za) (Q:zQ):Prop:=
 zmd.cps C (opsF 2 24 [.str [],.int .i64 0] 0 []) a h Q
def zbn.Imp (C:CSem) (N:zN):Prop:=im1 C (N 569) (zbn.cps C N)
def z8.cps (C:CSem) (N:zN) (a b:AVal) (h:za) (Q:zQ):Prop:=
 zce.cps C (opsF 6 56 [.int .i64 0,.str [],.int .i64 0,.int .i64 0,.int .i64 0,.bool false] 0 []) a b h Q
def z8.Imp (C:CSem) (N:zN):Prop:=im2 C (N 572) (z8.cps C N)
def z7.cps (C:CSem) (N:zN) (a b:AVal) (h:za) (Q:zQ):Prop:=
 zke.cps C (opsF 4 72 [.str [],.int .i64 0,.nils,.nils] 0 []) (N 367) a b h Q
def z7.Imp (C:CSem) (N:zN):Prop:=im2 C (N 575) (z7.cps C N)
def zbo.cps (C:CSem) (N:zN) (a b:AVal) (h:za) (Q:zQ):Prop:=
 zeo.cps C (opsS 16 (.str []) 0) (N 580) a b h Q
def zbo.Imp (C:CSem) (N:zN):Prop:=im2 C (N 578) (zbo.cps C N)
def zdb.cps (C:CSem) (N:zN) (a b c d e:AVal) (h:za) (Q:zQ):Prop:=
 zm.cps C (opsS 24 (.nils) 0) (N 581) (N 582) (N 579) (N 583) (N 584) (N 585) (N 586) (N 587) (N 588) a b c d e h Q
def zdb.Imp (C:CSem) (N:zN):Prop:=im5 C (N 579) (zdb.cps C N)
def zca.cps (C:CSem) (N:zN) (a b c d e:AVal) (h:za) (Q:zQ):Prop:=
 zj.cps C (opsS 24 (.nils) 0) a b c d e h Q
def zca.Imp (C:CSem) (N:zN):Prop:=im5 C (N 581) (zca.cps C N)
def zcz.cps (C:CSem) (N:zN) (a b c d e:AVal) (h:za) (Q:zQ):Prop:=
 ze.cps C (opsS 24 (.nils) 0) a b c d e h Q
def zcz.Imp (C:CSem) (N:zN):Prop:=im5 C (N 582) (zcz.cps C N)
def zby.cps (C:CSem) (N:zN) (a b c d:AVal) (h:za) (Q:zQ):Prop:=
 zb.cps C (opsS 24 (.nils) 0) a b c d h Q
def zby.Imp (C:CSem) (N:zN):Prop:=im4 C (N 583) (zby.cps C N)
def zcn.cps (C:CSem) (N:zN) (a b c d:AVal) (h:za) (Q:zQ):Prop:=
 zcv.cps C (opsS 24 (.nils) 0) a b c d h Q
def zcn.Imp (C:CSem) (N:zN):Prop:=im4 C (N 584) (zcn.cps C N)
def zcs.cps (C:CSem) (N:zN) (a b c d:AVal) (h:za) (Q:zQ):Prop:=
 zp.cps C (opsS 24 (.nils) 0) (N 589) (N 590) a b c d h Q
def zcs.Imp (C:CSem) (N:zN):Prop:=im4 C (N 585) (zcs.cps C N)
def zck.cps (C:CSem) (N:zN) (a b c d:AVal) (h:za) (Q:zQ):Prop:=
 zk.cps C (opsS 24 (.nils) 0) (N 298) (N 299) a b c d h Q
def zck.Imp (C:CSem) (N:zN):Prop:=im4 C (N 586) (zck.cps C N)
def zc5.cps (C:CSem) (N:zN) (a b c d:AVal) (h:za) (Q:zQ):Prop:=
 zbc.cps C (opsS 24 (.nils) 0) (N 591) a b c d h Q
def zc5.Imp (C:CSem) (N:zN):Prop:=im4 C (N 587) (zc5.cps C N)
def zci.cps (C:CSem) (N:zN) (a b c d:AVal) (h:za) (Q:zQ):Prop:=
 zbh.cps C (opsS 24 (.nils) 0) a b c d h Q
def zci.Imp (C:CSem) (N:zN):Prop:=im4 C (N 588) (zci.cps C N)
def zdi.cps (C:CSem) (N:zN) (a b c d e f:AVal) (h:za) (Q:zQ):Prop:=
 zfh.cps C (opsS 24 (.nils) 0) (N 592) a b c d e f h Q
def zdi.Imp (C:CSem) (N:zN):Prop:=im6 C (N 589) (zdi.cps C N)
def zcc.cps (C:CSem) (N:zN) (a b c d:AVal) (h:za) (Q:zQ):Prop:=
 zea.cps C (opsS 24 (.nils) 0) (N 589) a b c d h Q
def zcc.Imp (C:CSem) (N:zN):Prop:=im4 C (N 590) (zcc.cps C N)
def zc3.cps (C:CSem) (N:zN) (a b c d e:AVal) (h:za) (Q:zQ):Prop:=
 zbk.cps C (opsS 24 (.nils) 0) a b c d e h Q
def zc3.Imp (C:CSem) (N:zN):Prop:=im5 C (N 591) (zc3.cps C N)
def zdg.cps (C:CSem) (N:zN) (a b c d e:AVal) (h:za) (Q:zQ):Prop:=
 zfg.cps C (opsS 24 (.nils) 0) a b c d e h Q
def zdg.Imp (C:CSem) (N:zN):Prop:=im5 C (N 592) (zdg.cps C N)
end Go.Ab
